
import Derived.Test.YtimoaolannkpcaaGreatAbbr
set_option linter.unusedVariables false
set_option linter.unusedSimpArgs false
set_option linter.unusedSectionVars false
namespace Go.Abs
set_option maxRecDepth 10000
def roList : List Nat := [23, 26, 27, 31, 35, 36, 39, 41, 50, 123, 125, 126, 128, 129, 131, 141, 146, 147, 148, 155, 171, 228, 231, 232, 233, 234, 236, 237, 241, 245, 246, 248, 250, 277, 321, 323, 324, 325, 328, 332, 333, 335, 336, 380, 381, 383, 415, 435]
def law14_BlobBack.pol : Pol := { glob := [4, 12, 13, 17, 18, 20, 21, 24, 27], pure := [49, 60], heap := [999999], ro := roList, lo := [(21, [(1, 6), (2, 5)])], rs := [8], live := [([3, 4, 9, 12, 13, 14, 47, 48, 49], [4, 9, 12, 13]), ([4, 9, 12, 127, 128, 129], [4, 9])], jn := [(44, [2, 3, 4, 9]), (59, [3, 4, 9, 12, 13, 14, 15, 16, 47, 48, 49]), (80, [3, 4, 9, 12, 13, 14, 15, 17, 18, 19, 47, 48, 49]), (82, [3, 4, 9, 12, 13, 14, 15, 18, 19, 47, 48, 49]), (89, [3, 4, 9, 12, 13, 14, 15, 18, 19, 47, 48, 49]), (109, [3, 4, 9, 12, 13, 14, 47, 48, 49]), (126, [4, 9, 12, 13])] }
def law14_BlobBack.L0 : ACode :=
  sq [r_ [i_ 50 (.bin .lss (x_ 49) (x_ 48))],
   if_ 50 (.skip) (.exit 0),
   .block 1 (sq [r_ [m_ 51 49, i_ 52 (.indexAddrS 1 (x_ 47) (x_ 49)), i_ 53 (.load [ix] false none (x_ 52)), m_ 15 51, m_ 16 53],
     sq [r_ [m_ 54 16, i_ 55 (.bin .lss (x_ 54) (n_ 1)), m_ 56 55, hm_ 56 57 16, h_ 56 58 (.bin .gtr (x_ 57) (n_ 4096)), i_ 59 (.pick (x_ 56) T_ (x_ 58))],
      ifj_ 59 [3, 4, 9, 12, 13, 14, 15, 16, 47, 48, 49] (.exit 1) (.skip)],
     r_ [m_ 60 15, i_ 61 (.convI .u8 (x_ 60)), m_ 62 16, i_ 63 (.convI .u8 (x_ 62)), i_ 64 (.buildG 1 [(x_ 61), (x_ 63), (k_ .u8 7)]), i_ 65 (.toStrG (x_ 64)), m_ 66 16, i_ 67 (.callP 60 [(x_ 65), (x_ 66)] [.str]), i_ 17 (.allocG none [(.at (.string ⟨#[]⟩))]), u_ (.store 1 none (x_ 17) (x_ 67))],
     r_ [i_ 18 (.allocG none [(.at (.int .i64 0)), (.at (.int .i64 0))])],
     r_ [m_ 68 9, i_ 69 (.makeFunc 61 [] [(x_ 17), (x_ 18)]), i_ 70 (.call 18 [(x_ 68), (x_ 69)] [ix]), m_ 19 70],
     sq [r_ [m_ 71 19, i_ 72 (.bin .neq (x_ 71) (n_ 0)), m_ 73 72, gm_ 73 74 19, g_ 73 75 (.bin .neq (x_ 74) (n_ 13)), i_ 76 (.pick (x_ 73) (x_ 75) F_), m_ 77 76, gm_ 77 78 19, g_ 77 79 (.bin .neq (x_ 78) (n_ 14)), i_ 80 (.pick (x_ 77) (x_ 79) F_)],
      ifj_ 80 [3, 4, 9, 12, 13, 14, 15, 17, 18, 19, 47, 48, 49] (sq [r_ [i_ 8 (.mov F_)],
        .ret]) (.skip)],
     sq [r_ [m_ 81 19, i_ 82 (.bin .eql (x_ 81) (n_ 0))],
      ifj_ 82 [3, 4, 9, 12, 13, 14, 15, 18, 19, 47, 48, 49] (sq [r_ [i_ 83 (.load [.any] false none (x_ 12)), i_ 84 (.load [ix, ix] true none (x_ 18)), i_ 85 (.load [.str] false none (x_ 17)), u_ (.mapSet (.a [ix, ix]) (x_ 83) (x_ 84) (x_ 85))],
        r_ [m_ 86 14, i_ 87 (.load [ix, ix] true none (x_ 18)), i_ 88 (.mapGet (.a [ix, ix]) [(.at (.bool false))] false false (x_ 86) (x_ 87)), i_ 89 (.un .not (x_ 88))],
        ifj_ 89 [3, 4, 9, 12, 13, 14, 15, 18, 19, 47, 48, 49] (.regionL [m_ 90 14, i_ 91 (.load [ix, ix] true none (x_ 18)), i_ 92 (.load [.sl 2] false none (x_ 13)), i_ 93 (.load [ix, ix] true none (x_ 18)), i_ 94 (.buildG 2 [(x_ 93)]), i_ 95 (.appendH none 2 16 (x_ 92) (x_ 94)), u_ (.mapSet (.a [ix, ix]) (x_ 90) (x_ 91) T_), u_ (.store 1 none (x_ 13) (x_ 95))] [(1, 6), (2, 5)]) (.skip)]) (.skip)],
     r_ [m_ 96 15, m_ 97 3, i_ 98 (.lenL (x_ 97)), i_ 99 (.bin .lss (x_ 96) (x_ 98)), m_ 100 99, gm_ 100 101 3, gm_ 100 102 15, g_ 100 103 (.indexAddrS 1 (x_ 101) (x_ 102)), g_ 100 104 (.load [.bool] false none (x_ 103)), i_ 105 (.pick (x_ 100) (x_ 104) F_), m_ 106 105, gm_ 106 107 19, g_ 106 108 (.bin .eql (x_ 107) (n_ 0)), i_ 109 (.pick (x_ 106) (x_ 108) F_)],
     ifj_ 109 [3, 4, 9, 12, 13, 14, 47, 48, 49] (sq [sq [r_ [m_ 110 9, i_ 111 (.makeFunc 63 [] [(x_ 18)]), i_ 112 (.call 18 [(x_ 110), (x_ 111)] [ix]), i_ 113 (.bin .neq (x_ 112) (n_ 0))],
        if_ 113 (sq [r_ [i_ 8 (.mov F_)],
          .ret]) (.skip)],
       r_ [i_ 114 (.load [.any] false none (x_ 12)), i_ 115 (.load [ix, ix] true none (x_ 18)), u_ (.mapDel (.a [ix, ix]) (x_ 114) (x_ 115))]]) (.skip)]),
   r_ [i_ 116 (.bin .add (x_ 49) (n_ 1)), m_ 49 116]]
def law14_BlobBack.L1 : ACode :=
  sq [r_ [i_ 130 (.bin .lss (x_ 129) (x_ 128))],
   if_ 130 (.skip) (.exit 2),
   .block 3 (sq [r_ [i_ 131 (.indexAddrS 2 (x_ 127) (x_ 129)), i_ 132 (.load [ix, ix] true none (x_ 131)), i_ 24 (.allocG none [(.at (.int .i64 0)), (.at (.int .i64 0))]), u_ (.store 2 none (x_ 24) (x_ 132))],
     sq [r_ [i_ 134 (.load [.any] false none (x_ 12)), i_ 135 (.load [ix, ix] true none (x_ 24)), i_ 136 (.mapGet (.a [ix, ix]) [(.at (.string ⟨#[]⟩))] false true (x_ 134) (x_ 135)), m_ 133 136, i_ 137 (.extract (x_ 133) 0), i_ 138 (.extract (x_ 133) 1), m_ 25 137, m_ 26 138],
      r_ [m_ 139 26, i_ 140 (.un .not (x_ 139))],
      if_ 140 (.exit 3) (.skip)],
     r_ [m_ 141 9, i_ 142 (.makeFunc 69 [] [(x_ 24)]), i_ 143 (.call 18 [(x_ 141), (x_ 142)] [ix]), i_ 144 (.bin .neq (x_ 143) (n_ 0))],
     if_ 144 (sq [r_ [i_ 8 (.mov F_)],
       .ret]) (.skip)]),
   r_ [i_ 145 (.bin .add (x_ 129) (n_ 1)), m_ 129 145]]
def law14_BlobBack.a : AFun := ⟨4, [.tmp 8],
  sq [r_ [i_ 4 (.boxG (x_ 0)), i_ 8 (.mov F_)],
   sq [r_ [i_ 29 (.callP 49 [] [.bool]), i_ 30 (.un .not (x_ 29))],
    if_ 30 (sq [r_ [i_ 8 (.mov F_)],
      .ret]) (.skip)],
   r_ [i_ 32 (.load [ix] false none (x_ 4)), m_ 33 1, i_ 34 (.call 16 [(x_ 32), (x_ 33)] [.any, .any, .bool]), m_ 31 34, i_ 35 (.extract (x_ 31) 0), i_ 36 (.extract (x_ 31) 1), i_ 37 (.extract (x_ 31) 2), m_ 9 35, m_ 10 36, m_ 11 37],
   sq [r_ [m_ 38 11, i_ 39 (.un .not (x_ 38)), m_ 40 39, hm_ 40 41 2, h_ 40 42 (.lenL (x_ 41)), h_ 40 43 (.bin .gtr (x_ 42) (n_ 20)), i_ 44 (.pick (x_ 40) T_ (x_ 43))],
    ifj_ 44 [2, 3, 4, 9] (sq [r_ [i_ 8 (.mov T_)],
      .ret]) (.skip)],
   r_ [i_ 45 (.mkMap), i_ 12 (.allocG none [(.at (.map none))]), u_ (.store 1 none (x_ 12) (x_ 45))],
   r_ [i_ 13 (.allocG none [(.sl true 2 [])])],
   r_ [i_ 46 (.mkMap), m_ 14 46],
   sq [r_ [m_ 47 2, i_ 48 (.lenL (x_ 47)), i_ 49 (.mov (n_ 0))],
    .block 0 (.loop [3, 4, 9, 12, 13, 14, 47, 48, 49] [4, 9, 12, 13] [8] law14_BlobBack.L0)],
   r_ [i_ 117 (.mkMap), i_ 20 (.allocG none [(.at (.map none))]), i_ 21 (.allocG none [(.at (.bool false))]), u_ (.store 1 none (x_ 20) (x_ 117)), u_ (.store 1 none (x_ 21) T_)],
   r_ [m_ 118 9, i_ 119 (.makeFunc 66 [] [(x_ 13), (x_ 12), (x_ 21), (x_ 20), (x_ 4)]), i_ 120 (.call 65 [(x_ 118), (x_ 119)] [ix]), m_ 22 120],
   sq [r_ [m_ 121 22, i_ 122 (.bin .neq (x_ 121) (n_ 0)), m_ 123 122, h_ 123 124 (.load [.bool] false none (x_ 21)), h_ 123 125 (.un .not (x_ 124)), i_ 126 (.pick (x_ 123) T_ (x_ 125))],
    ifj_ 126 [4, 9, 12, 13] (sq [r_ [i_ 8 (.mov F_)],
      .ret]) (.skip)],
   sq [r_ [i_ 127 (.load [.sl 2] false none (x_ 13)), i_ 128 (.lenL (x_ 127)), i_ 129 (.mov (n_ 0))],
    .block 2 (.loop [4, 9, 12, 127, 128, 129] [4, 9] [8] law14_BlobBack.L1)],
   r_ [i_ 27 (.allocG none [(.at (.int .i64 0))]), u_ (.store 1 none (x_ 27) (n_ 0))],
   r_ [m_ 146 9, i_ 147 (.makeFunc 70 [] [(x_ 27)]), i_ 148 (.call 65 [(x_ 146), (x_ 147)] [ix]), m_ 28 148],
   r_ [m_ 149 28, i_ 150 (.bin .eql (x_ 149) (n_ 0)), m_ 151 150, g_ 151 152 (.load [ix] false none (x_ 27)), g_ 151 153 (.load [ix] false none (x_ 4)), g_ 151 154 (.bin .sub (x_ 153) (n_ 2)), g_ 151 155 (.bin .eql (x_ 152) (x_ 154)), i_ 156 (.pick (x_ 151) (x_ 155) F_), m_ 8 156],
   .ret]⟩
def law14_BlobBack.R0 (C : CallF) (N : Nat) := round (evalC C N law14_BlobBack.L0) [3, 4, 9, 12, 13, 14, 47, 48, 49] [4, 9, 12, 13] [8]
def law14_BlobBack.K0 (C : CallF) (N : Nat) : Ex → St → R := contC C N [.snd, .snd, .snd, .snd, .snd, .snd, .snd, .fst, .snd, .blk] law14_BlobBack.a.body (finish law14_BlobBack.a)
def law14_BlobBack.R1 (C : CallF) (N : Nat) := round (evalC C N law14_BlobBack.L1) [4, 9, 12, 127, 128, 129] [4, 9] [8]
def law14_BlobBack.K1 (C : CallF) (N : Nat) : Ex → St → R := contC C N [.snd, .snd, .snd, .snd, .snd, .snd, .snd, .snd, .snd, .snd, .snd, .fst, .snd, .blk] law14_BlobBack.a.body (finish law14_BlobBack.a)
def law14_BlobBack.J44 (C : CallF) (N : Nat) : St → R := contC C N [.snd, .snd, .snd, .fst, .snd] law14_BlobBack.a.body (finish law14_BlobBack.a) .normal
def law14_BlobBack.J59 (C : CallF) (N : Nat) (k : Ex → St → R) : St → R := contC C N [.snd, .snd, .fst, .blk, .snd, .fst, .snd] law14_BlobBack.L0 (rndK [3, 4, 9, 12, 13, 14, 47, 48, 49] [4, 9, 12, 13] [8] k) .normal
def law14_BlobBack.J80 (C : CallF) (N : Nat) (k : Ex → St → R) : St → R := contC C N [.snd, .snd, .fst, .blk, .snd, .snd, .snd, .snd, .snd, .fst, .snd] law14_BlobBack.L0 (rndK [3, 4, 9, 12, 13, 14, 47, 48, 49] [4, 9, 12, 13] [8] k) .normal
def law14_BlobBack.J82 (C : CallF) (N : Nat) (k : Ex → St → R) : St → R := contC C N [.snd, .snd, .fst, .blk, .snd, .snd, .snd, .snd, .snd, .snd, .fst, .snd] law14_BlobBack.L0 (rndK [3, 4, 9, 12, 13, 14, 47, 48, 49] [4, 9, 12, 13] [8] k) .normal
def law14_BlobBack.J89 (C : CallF) (N : Nat) (k : Ex → St → R) : St → R := contC C N [.snd, .snd, .fst, .blk, .snd, .snd, .snd, .snd, .snd, .snd, .fst, .snd, .thn, .snd, .snd] law14_BlobBack.L0 (rndK [3, 4, 9, 12, 13, 14, 47, 48, 49] [4, 9, 12, 13] [8] k) .normal
def law14_BlobBack.J109 (C : CallF) (N : Nat) (k : Ex → St → R) : St → R := contC C N [.snd, .snd, .fst, .blk, .snd, .snd, .snd, .snd, .snd, .snd, .snd, .snd] law14_BlobBack.L0 (rndK [3, 4, 9, 12, 13, 14, 47, 48, 49] [4, 9, 12, 13] [8] k) .normal
def law14_BlobBack.J126 (C : CallF) (N : Nat) : St → R := contC C N [.snd, .snd, .snd, .snd, .snd, .snd, .snd, .snd, .snd, .snd, .fst, .snd] law14_BlobBack.a.body (finish law14_BlobBack.a) .normal
def law11_Made.pol : Pol := { pure := [41], heap := [999999], ro := roList, rs := [4, 5, 6] }
def law11_Made.a : AFun := ⟨2, [.tmp 4, .tmp 5, .tmp 6],
  sq [r_ [i_ 4 (.mov (c_ (.pointer none))), i_ 5 (.mov (c_ (.pointer none))), i_ 6 (.mov F_)],
   r_ [m_ 14 0, m_ 15 1, i_ 16 (.callP 41 [(x_ 14), (x_ 15)] [ix, ix]), m_ 13 16, i_ 17 (.extract (x_ 13) 0), i_ 18 (.extract (x_ 13) 1), m_ 7 17, m_ 8 18],
   sq [r_ [m_ 19 8, i_ 20 (.bin .neq (x_ 19) (n_ 0)), m_ 21 20, hm_ 21 22 7, h_ 21 23 (.bin .gtr (x_ 22) (n_ 80)), i_ 24 (.pick (x_ 21) T_ (x_ 23))],
    if_ 24 (sq [r_ [i_ 4 (.mov (c_ (.pointer none))), i_ 5 (.mov (c_ (.pointer none))), i_ 6 (.mov F_)],
      .ret]) (.skip)],
   r_ [m_ 26 7, i_ 27 (.call 43 [(x_ 26)] [.any, ix]), m_ 25 27, i_ 28 (.extract (x_ 25) 0), i_ 29 (.extract (x_ 25) 1), m_ 9 28, m_ 10 29],
   r_ [m_ 31 9, m_ 32 0, m_ 33 1, i_ 34 (.call 29 [(x_ 31), (x_ 32), (x_ 33)] [.any, ix]), m_ 30 34, i_ 35 (.extract (x_ 30) 0), i_ 36 (.extract (x_ 30) 1), m_ 11 35, m_ 12 36],
   r_ [m_ 37 11, m_ 38 9, m_ 39 10, i_ 40 (.bin .eql (x_ 39) (n_ 0)), m_ 41 40, gm_ 41 42 12, g_ 41 43 (.bin .eql (x_ 42) (n_ 0)), i_ 44 (.pick (x_ 41) (x_ 43) F_), m_ 45 44, gm_ 45 46 11, g_ 45 47 (.nilCmp true 1 (x_ 46)), i_ 48 (.pick (x_ 45) (x_ 47) F_), m_ 49 48, gm_ 49 50 9, g_ 49 51 (.nilCmp true 1 (x_ 50)), i_ 52 (.pick (x_ 49) (x_ 51) F_), m_ 4 37, m_ 5 38, m_ 6 52],
   .ret]⟩
def heap_Do.pol : Pol := { glob := [17], heap := [999999], ro := roList, rs := [4] }
def heap_Do.a : AFun := ⟨2, [.tmp 4],
  sq [r_ [i_ 4 (.mov (n_ 0))],
   sq [r_ [m_ 8 0, i_ 9 (.nilCmp false 1 (x_ 8)), m_ 10 9, hm_ 10 11 1, h_ 10 12 (.nilCmp false 2 (x_ 11)), i_ 13 (.pick (x_ 10) T_ (x_ 12))],
    if_ 13 (sq [r_ [i_ 4 (.mov (n_ 18))],
      .ret]) (.skip)],
   r_ [m_ 14 0, i_ 15 (.mkMap), i_ 16 (.build [(.at (.pointer none)), (.at (.map none))] [(0, 1, (x_ 14)), (1, 1, (x_ 15))]), i_ 17 (.boxG (x_ 16)), m_ 5 17],
   sq [r_ [m_ 18 5, m_ 19 1, i_ 20 (.call 121 [(x_ 18), (x_ 19)] [ix]), m_ 6 20],
    r_ [m_ 21 6, i_ 22 (.bin .neq (x_ 21) (n_ 0))],
    if_ 22 (sq [r_ [m_ 23 6, m_ 4 23],
      .ret]) (.skip)],
   r_ [m_ 24 5, i_ 25 (.call 122 [(x_ 24)] [.any]), m_ 7 25],
   sq [r_ [m_ 26 7, i_ 27 (.lenL (x_ 26)), i_ 28 (.bin .eql (x_ 27) (n_ 0))],
    if_ 28 (sq [r_ [i_ 4 (.mov (n_ 0))],
      .ret]) (.skip)],
   r_ [m_ 29 0, m_ 30 7, i_ 31 (.call 32 [(x_ 29), (x_ 30)] [ix]), m_ 4 31],
   .ret]⟩
def heap_Heap_Put.pol : Pol := { heap := [999999], ro := roList }
def heap_Heap_Put.a : AFun := ⟨3, [],
  sq [sq [r_ [m_ 6 1, i_ 7 (.bin .lss (x_ 6) (n_ 0)), m_ 8 7, hm_ 8 9 1, hm_ 8 10 0, h_ 8 11 (.callR 123 [(x_ 10)] [ix]), h_ 8 12 (.bin .geq (x_ 9) (x_ 11)), i_ 13 (.pick (x_ 8) T_ (x_ 12)), m_ 14 13, hm_ 14 15 2, h_ 14 16 (.lenS (x_ 15)), h_ 14 17 (.bin .neq (x_ 16) (n_ 480)), i_ 18 (.pick (x_ 14) T_ (x_ 17))],
    if_ 18 (r_ [m_ 19 0, i_ 20 (.callR 26 [(x_ 19), (n_ 18)] [])]) (.skip)],
   r_ [m_ 21 0, i_ 22 (.nilCk (x_ 21)), i_ 23 (.addr 1 (x_ 22)), i_ 24 (.load [.any] false none (x_ 23)), m_ 25 1, m_ 26 2, u_ (.mapSet .i (x_ 24) (x_ 25) (x_ 26))]]⟩
def heap_Heap_Take.pol : Pol := { pure := [124, 126], heap := [999999], gret := [124], ro := roList, rs := [2] }
def heap_Heap_Take.a : AFun := ⟨1, [.tmp 2],
  sq [r_ [i_ 2 (.mov (n_ 0))],
   r_ [m_ 7 0, i_ 8 (.callR 23 [(x_ 7), (n_ 1)] [.str]), m_ 9 0, i_ 10 (.callR 123 [(x_ 9)] [ix]), i_ 11 (.minmax false [(n_ 2), (x_ 10)]), m_ 12 0, i_ 13 (.callR 123 [(x_ 12)] [ix]), i_ 14 (.callD 124 [(x_ 8), (x_ 11), (x_ 13), (n_ 1)] [.sl 1, .str, ix]), m_ 6 14, i_ 15 (.extract (x_ 6) 0), i_ 16 (.extract (x_ 6) 1), i_ 17 (.extract (x_ 6) 2), m_ 3 15, m_ 4 16, m_ 5 17],
   r_ [m_ 18 0, m_ 19 5, i_ 20 (.callR 125 [(x_ 18), (x_ 19)] [])],
   r_ [m_ 21 0, m_ 22 4, i_ 23 (.call 20 [(x_ 21), (n_ 1), (x_ 22)] [])],
   d_ [m_ 24 0, m_ 25 3, i_ 26 (.indexAddrS 1 (x_ 25) (n_ 0)), i_ 27 (.load [ix] false none (x_ 26)), i_ 28 (.callP 126 [(c_ (.string ⟨#[]⟩)), (n_ 480)] [.str]), i_ 29 (.call 20 [(x_ 24), (x_ 27), (x_ 28)] [])],
   r_ [m_ 30 3, i_ 31 (.indexAddrS 1 (x_ 30) (n_ 0)), i_ 32 (.load [ix] false none (x_ 31)), m_ 2 32],
   .ret]⟩
def heap_Heap_Get.pol : Pol := { heap := [999999], ro := roList, rs := [4] }
def heap_Heap_Get.a : AFun := ⟨2, [.tmp 4],
  sq [r_ [i_ 4 (.mov (c_ (.string ⟨#[]⟩)))],
   sq [r_ [m_ 10 0, i_ 11 (.nilCk (x_ 10)), i_ 12 (.addr 1 (x_ 11)), i_ 13 (.load [.any] false none (x_ 12)), m_ 14 1, i_ 15 (.mapGet .i [(.at (.string ⟨#[]⟩))] false true (x_ 13) (x_ 14)), m_ 9 15, i_ 16 (.extract (x_ 9) 0), i_ 17 (.extract (x_ 9) 1), m_ 5 16, m_ 6 17],
    r_ [m_ 18 6],
    if_ 18 (sq [r_ [m_ 19 5, m_ 4 19],
      .ret]) (.skip)],
   r_ [m_ 21 0, i_ 22 (.nilCk (x_ 21)), i_ 23 (.addr 0 (x_ 22)), i_ 24 (.load [.any] false none (x_ 23)), m_ 25 1, i_ 26 (.callR 31 [(x_ 24), (x_ 25)] [.str, ix]), m_ 20 26, i_ 27 (.extract (x_ 20) 0), i_ 28 (.extract (x_ 20) 1), m_ 7 27, m_ 8 28],
   r_ [m_ 29 0, m_ 30 8, i_ 31 (.callR 125 [(x_ 29), (x_ 30)] [])],
   r_ [m_ 32 7, m_ 4 32],
   .ret]⟩
def heap_Heap_Give.pol : Pol := { heap := [999999], ro := roList }
def heap_Heap_Give.a : AFun := ⟨2, [],
  sq [sq [r_ [m_ 6 1, i_ 7 (.bin .lss (x_ 6) (n_ 2)), m_ 8 7, hm_ 8 9 1, hm_ 8 10 0, h_ 8 11 (.callR 123 [(x_ 10)] [ix]), h_ 8 12 (.bin .geq (x_ 9) (x_ 11)), i_ 13 (.pick (x_ 8) T_ (x_ 12))],
    if_ 13 (r_ [m_ 14 0, i_ 15 (.callR 26 [(x_ 14), (n_ 18)] [])]) (.skip)],
   r_ [m_ 17 0, i_ 18 (.callR 23 [(x_ 17), (n_ 1)] [.str]), m_ 19 1, i_ 20 (.buildG 1 [(x_ 19)]), i_ 21 (.call 127 [(x_ 18), (x_ 20)] [.str, ix]), m_ 16 21, i_ 22 (.extract (x_ 16) 0), i_ 23 (.extract (x_ 16) 1), m_ 4 22, m_ 5 23],
   r_ [m_ 24 0, m_ 25 5, i_ 26 (.callR 125 [(x_ 24), (x_ 25)] [])],
   r_ [m_ 27 0, m_ 28 4, i_ 29 (.call 20 [(x_ 27), (n_ 1), (x_ 28)] [])]]⟩
def heap_Heap_Stop.pol : Pol := { heap := [999999], ro := roList }
def heap_Heap_Stop.a : AFun := ⟨2, [],
  sq [sq [r_ [m_ 4 1, i_ 5 (.bin .eql (x_ 4) (n_ 0))],
    if_ 5 (r_ [i_ 1 (.mov (n_ 18))]) (.skip)],
   r_ [m_ 6 1, i_ 7 (.build [(.at (.int .i64 0))] [(0, 1, (x_ 6))]), i_ 8 (.mkIfc 182 (x_ 7)), u_ (.panicI (x_ 8))]]⟩
def heap_Heap_Free.pol : Pol := { pure := [128], heap := [999999], ro := roList, rs := [2] }
def heap_Heap_Free.a : AFun := ⟨1, [.tmp 2],
  sq [r_ [i_ 2 (.mov (n_ 0))],
   r_ [m_ 3 0, i_ 4 (.callR 123 [(x_ 3)] [ix]), i_ 5 (.bin .sub (x_ 4) (n_ 2)), m_ 6 0, i_ 7 (.callR 23 [(x_ 6), (n_ 1)] [.str]), m_ 8 0, i_ 9 (.callR 123 [(x_ 8)] [ix]), i_ 10 (.callP 128 [(x_ 7), (n_ 2), (x_ 9)] [ix]), i_ 11 (.bin .sub (x_ 5) (x_ 10)), m_ 2 11],
   .ret]⟩
def pages_Format.pol : Pol := { pure := [41, 131], heap := [999999], ro := roList, rs := [6, 7], live := [([0, 1, 2, 8, 10], [0, 1, 2])] }
def pages_Format.L0 : ACode :=
  sq [sq [r_ [m_ 29 10, m_ 30 8, i_ 31 (.bin .lss (x_ 29) (x_ 30))],
    if_ 31 (.skip) (.exit 0)],
   .block 1 (sq [r_ [m_ 34 0, m_ 35 10, i_ 36 (.callP 131 [] [.str]), i_ 37 (.call 130 [(x_ 34), (x_ 35), (x_ 36)] [ix]), m_ 11 37],
     r_ [m_ 38 11, i_ 39 (.bin .neq (x_ 38) (n_ 0))],
     if_ 39 (sq [r_ [m_ 40 11, i_ 6 (.mov (c_ (.pointer none))), m_ 7 40],
       .ret]) (.skip)]),
   r_ [m_ 32 10, i_ 33 (.bin .add (x_ 32) (n_ 1)), m_ 10 33]]
def pages_Format.a : AFun := ⟨3, [.tmp 6, .tmp 7],
  sq [r_ [i_ 6 (.mov (c_ (.pointer none))), i_ 7 (.mov (n_ 0))],
   r_ [m_ 16 1, m_ 17 2, i_ 18 (.callP 41 [(x_ 16), (x_ 17)] [ix, ix]), m_ 15 18, i_ 19 (.extract (x_ 15) 0), i_ 20 (.extract (x_ 15) 1), m_ 8 19, m_ 9 20],
   sq [r_ [m_ 21 9, i_ 22 (.bin .neq (x_ 21) (n_ 0)), m_ 23 22, hm_ 23 24 0, h_ 23 25 (.callR 129 [(x_ 24)] [ix]), hm_ 23 26 8, h_ 23 27 (.bin .neq (x_ 25) (x_ 26)), i_ 28 (.pick (x_ 23) T_ (x_ 27))],
    if_ 28 (sq [r_ [i_ 6 (.mov (c_ (.pointer none))), i_ 7 (.mov (n_ 18))],
      .ret]) (.skip)],
   sq [r_ [i_ 10 (.mov (n_ 1))],
    .block 0 (.loop [0, 1, 2, 8, 10] [0, 1, 2] [6, 7] pages_Format.L0)],
   sq [r_ [m_ 41 0, i_ 42 (.call 132 [(x_ 41)] [ix]), m_ 12 42],
    r_ [m_ 43 12, i_ 44 (.bin .neq (x_ 43) (n_ 0))],
    if_ 44 (sq [r_ [m_ 45 12, i_ 6 (.mov (c_ (.pointer none))), m_ 7 45],
      .ret]) (.skip)],
   r_ [m_ 46 0, m_ 47 1, m_ 48 2, i_ 49 (.call 133 [(x_ 46), (x_ 47), (x_ 48)] [.any]), m_ 13 49],
   sq [r_ [m_ 50 13, i_ 51 (.call 134 [(x_ 50), (k_ .u64 1)] [ix]), m_ 14 51],
    r_ [m_ 52 14, i_ 53 (.bin .neq (x_ 52) (n_ 0))],
    if_ 53 (sq [r_ [m_ 54 14, i_ 6 (.mov (c_ (.pointer none))), m_ 7 54],
      .ret]) (.skip)],
   r_ [m_ 55 13, m_ 6 55, i_ 7 (.mov (n_ 0))],
   .ret]⟩
def pages_Format.R0 (C : CallF) (N : Nat) := round (evalC C N pages_Format.L0) [0, 1, 2, 8, 10] [0, 1, 2] [6, 7]
def pages_Format.K0 (C : CallF) (N : Nat) : Ex → St → R := contC C N [.snd, .snd, .snd, .fst, .snd, .blk] pages_Format.a.body (finish pages_Format.a)
def pages_Store_Read.pol : Pol := { heap := [999999], ro := roList, rs := [4, 5] }
def pages_Store_Read.a : AFun := ⟨2, [.tmp 4, .tmp 5],
  sq [r_ [i_ 4 (.mov (c_ (.string ⟨#[]⟩))), i_ 5 (.mov (n_ 0))],
   sq [r_ [m_ 6 1, i_ 7 (.bin .lss (x_ 6) (n_ 0)), m_ 8 7, hm_ 8 9 1, hm_ 8 10 0, h_ 8 11 (.callR 35 [(x_ 10)] [ix]), h_ 8 12 (.bin .geq (x_ 9) (x_ 11)), i_ 13 (.pick (x_ 8) T_ (x_ 12))],
    if_ 13 (sq [r_ [i_ 4 (.mov (c_ (.string ⟨#[]⟩))), i_ 5 (.mov (n_ 18))],
      .ret]) (.skip)],
   r_ [m_ 14 0, i_ 15 (.nilCk (x_ 14)), i_ 16 (.addr 2 (x_ 15)), i_ 17 (.load [.sl 1] false none (x_ 16)), m_ 18 1, i_ 19 (.indexAddrS 1 (x_ 17) (x_ 18)), i_ 20 (.load [.str] false none (x_ 19)), m_ 4 20, i_ 5 (.mov (n_ 0))],
   .ret]⟩
def pages_Store_Commit.pol : Pol := { heap := [999999], ro := roList, rs := [4] }
def pages_Store_Commit.a : AFun := ⟨2, [.tmp 4],
  sq [r_ [i_ 4 (.mov (n_ 0))],
   .block 0 (sq [r_ [m_ 8 0, i_ 9 (.nilCmp false 1 (x_ 8)), m_ 10 9, hm_ 10 11 1, h_ 10 12 (.call 139 [(x_ 11)] [ix]), h_ 10 13 (.bin .neq (x_ 12) (n_ 0)), i_ 14 (.pick (x_ 10) T_ (x_ 13)), m_ 15 14, hm_ 15 16 0, hm_ 15 17 1, h_ 15 18 (.call 140 [(x_ 16), (x_ 17)] [.bool]), h_ 15 19 (.un .not (x_ 18)), i_ 20 (.pick (x_ 15) T_ (x_ 19)), m_ 7 20],
     if_ 7 (sq [r_ [i_ 4 (.mov (n_ 18))],
       .ret]) (sq [r_ [m_ 22 1, i_ 23 (.lenL (x_ 22)), m_ 24 0, i_ 25 (.nilCk (x_ 24)), i_ 26 (.addr 1 (x_ 25)), i_ 27 (.load [ix] false none (x_ 26)), i_ 28 (.bin .geq (x_ 23) (x_ 27)), m_ 21 28],
       if_ 21 (sq [r_ [i_ 4 (.mov (n_ 14))],
         .ret]) (sq [r_ [m_ 30 0, i_ 31 (.nilCk (x_ 30)), i_ 32 (.addr 0 (x_ 31)), i_ 33 (.load [.any] false none (x_ 32)), i_ 34 (.callR 141 [(x_ 33)] [.bool]), m_ 29 34],
         if_ 29 (sq [r_ [i_ 4 (.mov (n_ 17))],
           .ret]) (.skip)])])]),
   sq [r_ [m_ 35 1, i_ 36 (.lenL (x_ 35)), m_ 37 0, i_ 38 (.callR 36 [(x_ 37)] [ix]), i_ 39 (.bin .geq (x_ 36) (x_ 38))],
    if_ 39 (sq [r_ [m_ 40 0, m_ 41 0, i_ 42 (.callR 39 [(x_ 41)] [.int .u64]), i_ 43 (.bin .add (x_ 42) (k_ .u64 1)), i_ 44 (.call 138 [(x_ 40), (x_ 43)] [ix]), m_ 5 44],
      r_ [m_ 45 5, i_ 46 (.bin .neq (x_ 45) (n_ 0))],
      if_ 46 (sq [r_ [m_ 47 5, m_ 4 47],
        .ret]) (.skip)]) (.skip)],
   sq [r_ [m_ 48 0, i_ 49 (.nilCk (x_ 48)), i_ 50 (.addr 4 (x_ 49)), i_ 51 (.load [.any] false none (x_ 50)), m_ 52 1, i_ 53 (.call 142 [(x_ 51), (x_ 52)] [ix]), m_ 6 53],
    r_ [m_ 54 6, i_ 55 (.bin .neq (x_ 54) (n_ 0))],
    if_ 55 (sq [r_ [m_ 56 6, m_ 4 56],
      .ret]) (.skip)],
   r_ [m_ 57 0, m_ 58 1, i_ 59 (.call 143 [(x_ 57), (x_ 58)] [])],
   r_ [m_ 60 0, i_ 61 (.nilCk (x_ 60)), i_ 62 (.addr 5 (x_ 61)), i_ 63 (.load [ix] false none (x_ 62)), i_ 64 (.bin .add (x_ 63) (n_ 1)), i_ 65 (.nilCk (x_ 60)), i_ 66 (.addr 5 (x_ 65)), u_ (.store 1 none (x_ 66) (x_ 64))],
   r_ [i_ 4 (.mov (n_ 0))],
   .ret]⟩
def pages_Store_Pages.pol : Pol := { heap := [999999], ro := roList, rs := [2] }
def pages_Store_Pages.a : AFun := ⟨1, [.tmp 2],
  sq [r_ [i_ 2 (.mov (n_ 0))],
   sq [r_ [m_ 3 0, i_ 4 (.nilCmp false 1 (x_ 3))],
    if_ 4 (sq [r_ [i_ 2 (.mov (n_ 0))],
      .ret]) (.skip)],
   r_ [m_ 5 0, i_ 6 (.nilCk (x_ 5)), i_ 7 (.addr 2 (x_ 6)), i_ 8 (.load [.sl 1] false none (x_ 7)), i_ 9 (.lenL (x_ 8)), m_ 2 9],
   .ret]⟩
def pages_Store_Room.pol : Pol := { heap := [999999], ro := roList, rs := [2] }
def pages_Store_Room.a : AFun := ⟨1, [.tmp 2],
  sq [r_ [i_ 2 (.mov (n_ 0))],
   sq [r_ [m_ 3 0, i_ 4 (.nilCmp false 1 (x_ 3))],
    if_ 4 (sq [r_ [i_ 2 (.mov (n_ 0))],
      .ret]) (.skip)],
   r_ [m_ 5 0, i_ 6 (.nilCk (x_ 5)), i_ 7 (.addr 4 (x_ 6)), i_ 8 (.load [.any] false none (x_ 7)), i_ 9 (.callR 146 [(x_ 8)] [ix]), m_ 2 9],
   .ret]⟩
def pages_Store_Epoch.pol : Pol := { heap := [999999], ro := roList, rs := [2] }
def pages_Store_Epoch.a : AFun := ⟨1, [.tmp 2],
  sq [r_ [i_ 2 (.mov (k_ .u64 0))],
   sq [r_ [m_ 3 0, i_ 4 (.nilCmp false 1 (x_ 3))],
    if_ 4 (sq [r_ [i_ 2 (.mov (k_ .u64 0))],
      .ret]) (.skip)],
   r_ [m_ 5 0, i_ 6 (.nilCk (x_ 5)), i_ 7 (.addr 4 (x_ 6)), i_ 8 (.load [.any] false none (x_ 7)), i_ 9 (.callR 147 [(x_ 8)] [.int .u64]), m_ 2 9],
   .ret]⟩
def pages_Size.pol : Pol := { pure := [148], heap := [999999], ro := roList, rs := [4, 5] }
def pages_Size.a : AFun := ⟨2, [.tmp 4, .tmp 5],
  sq [r_ [i_ 4 (.mov (n_ 0)), i_ 5 (.mov (n_ 0))],
   sq [r_ [m_ 6 0, m_ 7 1, i_ 8 (.callP 148 [(x_ 6), (x_ 7)] [.bool]), i_ 9 (.un .not (x_ 8))],
    if_ 9 (sq [r_ [i_ 4 (.mov (n_ 0)), i_ 5 (.mov (n_ 18))],
      .ret]) (.skip)],
   r_ [m_ 10 1, i_ 11 (.bin .add (n_ 1) (x_ 10)), m_ 12 0, i_ 13 (.bin .add (x_ 11) (x_ 12)), m_ 4 13, i_ 5 (.mov (n_ 0))],
   .ret]⟩
def disk_New.pol : Pol := { glob := [15], pure := [131], heap := [999999], ro := roList, rs := [2, 3] }
def disk_New.a : AFun := ⟨1, [.tmp 2, .tmp 3],
  sq [r_ [i_ 2 (.mov (c_ (.pointer none))), i_ 3 (.mov (n_ 0))],
   sq [r_ [m_ 4 0, i_ 5 (.bin .lss (x_ 4) (n_ 1)), m_ 6 5, hm_ 6 7 0, h_ 6 8 (.bin .gtr (x_ 7) (n_ 4865)), i_ 9 (.pick (x_ 6) T_ (x_ 8))],
    if_ 9 (sq [r_ [i_ 2 (.mov (c_ (.pointer none))), i_ 3 (.mov (n_ 18))],
      .ret]) (.skip)],
   r_ [i_ 10 (.callP 131 [] [.str]), i_ 11 (.buildG 1 [(x_ 10)]), m_ 12 0, i_ 13 (.call 149 [(x_ 11), (x_ 12)] [.any]), i_ 14 (.build [(.sl true 1 []), (.sl true 2 []), (.at (.int .i64 0)), (.at (.bool false)), (.at (.int .i64 0))] [(0, 1, (x_ 13))]), i_ 15 (.boxG (x_ 14)), m_ 2 15, i_ 3 (.mov (n_ 0))],
   .ret]⟩
def law14_lives.pol : Pol := { glob := [4, 5, 6, 7, 9], pure := [50, 60], heap := [999999], ro := roList, lo := [(11, [(26, 57)])], rs := [0] }
def law14_lives.a : AFun := ⟨0, [.tmp 0],
  sq [r_ [i_ 0 (.mov F_)],
   r_ [i_ 15 (.call 16 [(n_ 12), (n_ 20)] [.any, .any, .bool]), m_ 14 15, i_ 16 (.extract (x_ 14) 0), i_ 17 (.extract (x_ 14) 1), i_ 18 (.extract (x_ 14) 2), m_ 1 16, m_ 2 17, m_ 3 18],
   sq [r_ [m_ 19 3, i_ 20 (.un .not (x_ 19))],
    if_ 20 (sq [r_ [i_ 0 (.mov F_)],
      .ret]) (.skip)],
   r_ [i_ 4 (.allocG none [(.at (.int .i64 0)), (.at (.int .i64 0))]), i_ 5 (.allocG none [(.at (.int .i64 0)), (.at (.int .i64 0))])],
   r_ [i_ 6 (.allocG none [(.at (.string ⟨#[]⟩))]), i_ 7 (.allocG none [(.at (.int .i64 0))]), u_ (.store 1 none (x_ 6) (c_ (.string ⟨#[]⟩))), u_ (.store 1 none (x_ 7) (n_ 0))],
   r_ [m_ 21 1, i_ 22 (.makeFunc 152 [] [(x_ 5), (x_ 4), (x_ 6)]), i_ 23 (.call 18 [(x_ 21), (x_ 22)] [ix]), m_ 8 23],
   r_ [i_ 9 (.allocG none [(.sl true 1 [])])],
   r_ [m_ 24 1, i_ 25 (.makeFunc 153 [] [(x_ 4), (x_ 9), (x_ 7)]), i_ 26 (.call 18 [(x_ 24), (x_ 25)] [ix]), m_ 10 26],
   r_ [m_ 27 1, i_ 28 (.makeFunc 154 [] [(x_ 4)]), i_ 29 (.call 65 [(x_ 27), (x_ 28)] [ix]), m_ 11 29],
   r_ [m_ 31 1, i_ 32 (.callR 31 [(x_ 31), (n_ 4)] [.str, ix]), m_ 30 32, i_ 33 (.extract (x_ 30) 0), i_ 34 (.extract (x_ 30) 1), m_ 12 33, m_ 13 34],
   .regionL [m_ 35 8, i_ 36 (.bin .eql (x_ 35) (n_ 0)), m_ 37 36, gm_ 37 38 10, g_ 37 39 (.bin .eql (x_ 38) (n_ 0)), i_ 40 (.pick (x_ 37) (x_ 39) F_), m_ 41 40, gm_ 41 42 11, g_ 41 43 (.bin .eql (x_ 42) (n_ 19)), i_ 44 (.pick (x_ 41) (x_ 43) F_), m_ 45 44, g_ 45 46 (.load [ix, ix] true none (x_ 5)), g_ 45 47 (.build [(.at (.int .i64 0)), (.at (.int .i64 0))] []), g_ 45 48 (.eqA false [ix, ix] 83 (x_ 46) (x_ 47)), i_ 49 (.pick (x_ 45) (x_ 48) F_), m_ 50 49, g_ 50 51 (.load [ix, ix] true none (x_ 4)), g_ 50 52 (.build [(.at (.int .i64 0)), (.at (.int .i64 0))] [(0, 1, (n_ 2)), (1, 1, (n_ 1000))]), g_ 50 53 (.eqA false [ix, ix] 83 (x_ 51) (x_ 52)), i_ 54 (.pick (x_ 50) (x_ 53) F_), m_ 55 54, g_ 55 56 (.load [.str] false none (x_ 6)), g_ 55 57 (.callP 60 [(c_ (.string ⟨#[97, 98]⟩)), (n_ 1000)] [.str]), g_ 55 58 (.bin .eql (x_ 56) (x_ 57)), i_ 59 (.pick (x_ 55) (x_ 58) F_), m_ 60 59, g_ 60 61 (.load [.sl 1] false none (x_ 9)), g_ 60 62 (.buildG 1 [(n_ 2), (n_ 3), (n_ 4)]), g_ 60 63 (.callR 155 [(x_ 61), (x_ 62)] [.bool]), i_ 64 (.pick (x_ 60) (x_ 63) F_), m_ 65 64, g_ 65 66 (.load [ix] false none (x_ 7)), g_ 65 67 (.bin .eql (x_ 66) (n_ 10)), i_ 68 (.pick (x_ 65) (x_ 67) F_), m_ 69 68, gm_ 69 70 12, g_ 69 71 (.lenS (x_ 70)), g_ 69 72 (.bin .eql (x_ 71) (n_ 480)), i_ 73 (.pick (x_ 69) (x_ 72) F_), m_ 74 73, gm_ 74 75 12, g_ 74 76 (.sliceS (x_ 75) none (some (n_ 6))), g_ 74 77 (.bin .eql (x_ 76) (c_ (.string ⟨#[0, 0, 0, 48, 97, 98]⟩))), i_ 78 (.pick (x_ 74) (x_ 77) F_), m_ 79 78, g_ 79 80 (.callP 50 [(n_ 476)] [ix]), g_ 79 81 (.bin .eql (x_ 80) (n_ 1)), i_ 82 (.pick (x_ 79) (x_ 81) F_), m_ 83 82, g_ 83 84 (.callP 50 [(n_ 477)] [ix]), g_ 83 85 (.bin .eql (x_ 84) (n_ 2)), i_ 86 (.pick (x_ 83) (x_ 85) F_), m_ 87 86, g_ 87 88 (.callP 50 [(n_ (-1))] [ix]), g_ 87 89 (.bin .eql (x_ 88) (n_ 0)), i_ 90 (.pick (x_ 87) (x_ 89) F_), m_ 0 90] [(26, 57)],
   .ret]⟩
def blob_Need.pol : Pol := { heap := [999999], ro := roList, rs := [2] }
def blob_Need.a : AFun := ⟨1, [.tmp 2],
  sq [r_ [i_ 2 (.mov (n_ 0))],
   sq [r_ [m_ 3 0, i_ 4 (.bin .leq (x_ 3) (n_ 0))],
    if_ 4 (sq [r_ [i_ 2 (.mov (n_ 0))],
      .ret]) (.skip)],
   r_ [m_ 5 0, i_ 6 (.bin .sub (x_ 5) (n_ 1)), i_ 7 (.bin .quo (x_ 6) (n_ 476)), i_ 8 (.bin .add (x_ 7) (n_ 1)), m_ 2 8],
   .ret]⟩
def law14_text.pol : Pol := { heap := [999999], ro := roList, rs := [4], live := [([0, 5, 12, 13], [5])] }
def law14_text.L0 : ACode :=
  sq [r_ [i_ 14 (.bin .lss (x_ 13) (x_ 12))],
   if_ 14 (.skip) (.exit 0),
   .block 1 (sq [r_ [m_ 15 13, m_ 6 15],
     r_ [m_ 16 5, m_ 17 6, m_ 18 0, m_ 19 6, m_ 20 0, i_ 21 (.lenS (x_ 20)), i_ 22 (.bin .rem (x_ 19) (x_ 21)), i_ 23 (.indexS (x_ 18) (x_ 22)), i_ 24 (.indexAddrS 1 (x_ 16) (x_ 17)), u_ (.store 1 none (x_ 24) (x_ 23))]]),
   r_ [i_ 25 (.bin .add (x_ 13) (n_ 1)), m_ 13 25]]
def law14_text.a : AFun := ⟨2, [.tmp 4],
  sq [r_ [i_ 4 (.mov (c_ (.string ⟨#[]⟩)))],
   sq [r_ [m_ 7 0, i_ 8 (.bin .eql (x_ 7) (c_ (.string ⟨#[]⟩)))],
    if_ 8 (r_ [i_ 0 (.mov (c_ (.string ⟨#[46]⟩)))]) (.skip)],
   r_ [m_ 9 1, i_ 10 (.makeG 1 1 [(.at (.int .u8 0))] (x_ 9) (x_ 9)), m_ 5 10],
   sq [r_ [m_ 11 5, i_ 12 (.lenL (x_ 11)), i_ 13 (.mov (n_ 0))],
    .block 0 (.loop [0, 5, 12, 13] [5] [4] law14_text.L0)],
   r_ [m_ 26 5, i_ 27 (.toStrG (x_ 26)), m_ 4 27],
   .ret]⟩
def law14_text.R0 (C : CallF) (N : Nat) := round (evalC C N law14_text.L0) [0, 5, 12, 13] [5] [4]
def law14_text.K0 (C : CallF) (N : Nat) : Ex → St → R := contC C N [.snd, .snd, .snd, .fst, .snd, .blk] law14_text.a.body (finish law14_text.a)
def law14_BlobBack_1.pol : Pol := { heap := [999999], ro := roList }
def law14_BlobBack_1.a : AFun := ⟨3, [],
  r_ [m_ 4 0, i_ 5 (.load [.str] false none (x_ 1)), i_ 6 (.call 62 [(x_ 4), (x_ 5)] [.ag]), u_ (.store 2 none (x_ 2) (x_ 6))]⟩
def blob_Put.pol : Pol := { pure := [170, 171], heap := [999999], gret := [170], ro := roList, root := [(4, 4)], rs := [4], live := [([0, 1, 4, 5, 6, 18, 19], [0, 1, 4, 5, 6]), ([0, 1, 4, 6, 27, 28, 29], [1, 4, 6])], jn := [(12, [0, 1, 4]), (38, [0, 1, 4, 6, 7, 8, 9, 27, 28, 29])] }
def blob_Put.L0 : ACode :=
  sq [r_ [i_ 20 (.bin .lss (x_ 19) (x_ 18))],
   if_ 20 (.skip) (.exit 0),
   .block 1 (r_ [m_ 21 6, m_ 22 0, i_ 23 (.call 22 [(x_ 22)] [ix]), i_ 24 (.buildG 1 [(x_ 23)]), i_ 25 (.appendH none 1 8 (x_ 21) (x_ 24)), m_ 6 25]),
   r_ [i_ 26 (.bin .add (x_ 19) (n_ 1)), m_ 19 26]]
def blob_Put.L1 : ACode :=
  sq [r_ [i_ 30 (.bin .lss (x_ 29) (x_ 28))],
   if_ 30 (.skip) (.exit 2),
   .block 3 (sq [r_ [m_ 31 29, i_ 32 (.indexAddrS 1 (x_ 27) (x_ 29)), i_ 33 (.load [.str] false none (x_ 32)), m_ 7 31, m_ 8 33],
     r_ [i_ 9 (.mov (n_ 0))],
     sq [r_ [m_ 34 7, i_ 35 (.bin .add (x_ 34) (n_ 1)), m_ 36 6, i_ 37 (.lenL (x_ 36)), i_ 38 (.bin .lss (x_ 35) (x_ 37))],
      ifj_ 38 [0, 1, 4, 6, 7, 8, 9, 27, 28, 29] (r_ [m_ 39 6, m_ 40 7, i_ 41 (.bin .add (x_ 40) (n_ 1)), i_ 42 (.indexAddrS 1 (x_ 39) (x_ 41)), i_ 43 (.load [ix] false none (x_ 42)), m_ 9 43]) (.skip)],
     d_ [m_ 44 0, m_ 45 6, m_ 46 7, i_ 47 (.indexAddrS 1 (x_ 45) (x_ 46)), i_ 48 (.load [ix] false none (x_ 47)), m_ 49 9, m_ 50 8, i_ 51 (.callP 171 [(x_ 49), (x_ 50)] [.str]), i_ 52 (.call 20 [(x_ 44), (x_ 48), (x_ 51)] [])]]),
   r_ [i_ 53 (.bin .add (x_ 29) (n_ 1)), m_ 29 53]]
def blob_Put.a : AFun := ⟨2, [.cell 4 [ix, ix] true],
  sq [r_ [i_ 4 (.allocL [(.at (.int .i64 0)), (.at (.int .i64 0))])],
   sq [r_ [m_ 10 1, i_ 11 (.lenS (x_ 10)), i_ 12 (.bin .gtr (x_ 11) (n_ 4096))],
    ifj_ 12 [0, 1, 4] (r_ [m_ 13 0, i_ 14 (.callR 26 [(x_ 13), (n_ 11)] [])]) (.skip)],
   r_ [m_ 15 1, i_ 16 (.callD 170 [(x_ 15), (n_ 476)] [.sl 1]), m_ 5 16],
   r_ [i_ 6 (.nilS 1)],
   sq [r_ [m_ 17 5, i_ 18 (.lenL (x_ 17)), i_ 19 (.mov (n_ 0))],
    .block 0 (.loop [0, 1, 4, 5, 6, 18, 19] [0, 1, 4, 5, 6] [4] blob_Put.L0)],
   sq [r_ [m_ 27 5, i_ 28 (.lenL (x_ 27)), i_ 29 (.mov (n_ 0))],
    .block 2 (.loop [0, 1, 4, 6, 27, 28, 29] [1, 4, 6] [4] blob_Put.L1)],
   sq [r_ [m_ 54 6, i_ 55 (.lenL (x_ 54)), i_ 56 (.bin .eql (x_ 55) (n_ 0))],
    if_ 56 (sq [r_ [i_ 57 (.build [(.at (.int .i64 0)), (.at (.int .i64 0))] []), u_ (.store 2 (some 4) (x_ 4) (x_ 57))],
      .ret]) (.skip)],
   r_ [m_ 58 6, i_ 59 (.indexAddrS 1 (x_ 58) (n_ 0)), i_ 60 (.load [ix] false none (x_ 59)), m_ 61 1, i_ 62 (.lenS (x_ 61)), i_ 63 (.build [(.at (.int .i64 0)), (.at (.int .i64 0))] [(0, 1, (x_ 60)), (1, 1, (x_ 62))]), u_ (.store 2 (some 4) (x_ 4) (x_ 63))],
   .ret]⟩
def blob_Put.R0 (C : CallF) (N : Nat) := round (evalC C N blob_Put.L0) [0, 1, 4, 5, 6, 18, 19] [0, 1, 4, 5, 6] [4]
def blob_Put.K0 (C : CallF) (N : Nat) : Ex → St → R := contC C N [.snd, .snd, .snd, .snd, .fst, .snd, .blk] blob_Put.a.body (finish blob_Put.a)
def blob_Put.R1 (C : CallF) (N : Nat) := round (evalC C N blob_Put.L1) [0, 1, 4, 6, 27, 28, 29] [1, 4, 6] [4]
def blob_Put.K1 (C : CallF) (N : Nat) : Ex → St → R := contC C N [.snd, .snd, .snd, .snd, .snd, .fst, .snd, .blk] blob_Put.a.body (finish blob_Put.a)
def blob_Put.J12 (C : CallF) (N : Nat) : St → R := contC C N [.snd, .fst, .snd] blob_Put.a.body (finish blob_Put.a) .normal
def blob_Put.J38 (C : CallF) (N : Nat) (k : Ex → St → R) : St → R := contC C N [.snd, .snd, .fst, .blk, .snd, .snd, .fst, .snd] blob_Put.L1 (rndK [0, 1, 4, 6, 27, 28, 29] [1, 4, 6] [4] k) .normal
def law14_BlobBack_2.pol : Pol := { heap := [999999], ro := roList }
def law14_BlobBack_2.a : AFun := ⟨2, [],
  r_ [m_ 3 0, i_ 4 (.load [ix, ix] true none (x_ 1)), i_ 5 (.call 64 [(x_ 3), (x_ 4)] [])]⟩
def blob_Drop.pol : Pol := { heap := [999999], ro := roList, root := [(3, 3)], live := [([0, 8, 9, 10], [])] }
def blob_Drop.L0 : ACode :=
  sq [r_ [i_ 11 (.bin .lss (x_ 10) (x_ 9))],
   if_ 11 (.skip) (.exit 0),
   .block 1 (sq [r_ [i_ 12 (.indexAddrS 1 (x_ 8) (x_ 10)), i_ 13 (.load [ix] false none (x_ 12)), m_ 5 13],
     r_ [m_ 14 0, m_ 15 5, i_ 16 (.call 25 [(x_ 14), (x_ 15)] [])]]),
   r_ [i_ 17 (.bin .add (x_ 10) (n_ 1)), m_ 10 17]]
def blob_Drop.a : AFun := ⟨2, [],
  sq [r_ [i_ 3 (.boxL (x_ 1))],
   r_ [m_ 6 0, i_ 7 (.load [ix, ix] true (some 3) (x_ 3)), i_ 8 (.call 67 [(x_ 6), (x_ 7)] [.any]), i_ 9 (.lenL (x_ 8)), i_ 10 (.mov (n_ 0))],
   .block 0 (.loop [0, 8, 9, 10] [] [] blob_Drop.L0)]⟩
def blob_Drop.R0 (C : CallF) (N : Nat) := round (evalC C N blob_Drop.L0) [0, 8, 9, 10] [] []
def blob_Drop.K0 (C : CallF) (N : Nat) : Ex → St → R := contC C N [.snd, .snd, .blk] blob_Drop.a.body (finish blob_Drop.a)
def heap_View.pol : Pol := { glob := [14], heap := [999999], ro := roList, rs := [4] }
def heap_View.a : AFun := ⟨2, [.tmp 4],
  sq [r_ [i_ 4 (.mov (n_ 0))],
   sq [r_ [m_ 5 0, i_ 6 (.nilCmp false 1 (x_ 5)), m_ 7 6, hm_ 7 8 1, h_ 7 9 (.nilCmp false 2 (x_ 8)), i_ 10 (.pick (x_ 7) T_ (x_ 9))],
    if_ 10 (sq [r_ [i_ 4 (.mov (n_ 18))],
      .ret]) (.skip)],
   r_ [m_ 11 0, i_ 12 (.mkMap), i_ 13 (.build [(.at (.pointer none)), (.at (.map none))] [(0, 1, (x_ 11)), (1, 1, (x_ 12))]), i_ 14 (.boxG (x_ 13)), m_ 15 1, i_ 16 (.call 121 [(x_ 14), (x_ 15)] [ix]), m_ 4 16],
   .ret]⟩
def law14_BlobBack_3.pol : Pol := { pure := [50], heap := [999999], ro := roList, root := [(8, 8)], live := [([0, 2, 3, 4, 5, 14, 15, 16], [0, 3, 4, 5]), ([0, 2, 3, 4, 5, 14, 15, 16, 47, 48, 49], [0, 2, 3, 4, 5, 14, 15, 16])] }
def law14_BlobBack_3.L1 : ACode :=
  sq [r_ [i_ 50 (.bin .lss (x_ 49) (x_ 48))],
   if_ 50 (.skip) (.exit 2),
   .block 3 (sq [r_ [i_ 51 (.indexAddrS 1 (x_ 47) (x_ 49)), i_ 52 (.load [ix] false none (x_ 51)), m_ 13 52],
     r_ [i_ 53 (.load [.bool] false none (x_ 3)), m_ 54 53, g_ 54 55 (.load [.any] false none (x_ 4)), gm_ 54 56 13, g_ 54 57 (.mapGet .i [(.at (.bool false))] false false (x_ 55) (x_ 56)), g_ 54 58 (.un .not (x_ 57)), i_ 59 (.pick (x_ 54) (x_ 58) F_), u_ (.store 1 none (x_ 3) (x_ 59))],
     r_ [i_ 60 (.load [.any] false none (x_ 4)), m_ 61 13, u_ (.mapSet .i (x_ 60) (x_ 61) T_)]]),
   r_ [i_ 62 (.bin .add (x_ 49) (n_ 1)), m_ 49 62]]
def law14_BlobBack_3.L0 : ACode :=
  sq [r_ [i_ 17 (.bin .lss (x_ 16) (x_ 15))],
   if_ 17 (.skip) (.exit 0),
   .block 1 (sq [r_ [i_ 18 (.indexAddrS 2 (x_ 14) (x_ 16)), i_ 19 (.load [ix, ix] true none (x_ 18)), i_ 8 (.allocL [(.at (.int .i64 0)), (.at (.int .i64 0))]), u_ (.store 2 (some 8) (x_ 8) (x_ 19))],
     r_ [i_ 21 (.load [.any] false none (x_ 2)), i_ 22 (.load [ix, ix] true (some 8) (x_ 8)), i_ 23 (.mapGet (.a [ix, ix]) [(.at (.string ⟨#[]⟩))] false true (x_ 21) (x_ 22)), m_ 20 23, i_ 24 (.extract (x_ 20) 0), i_ 25 (.extract (x_ 20) 1), m_ 9 24, m_ 10 25],
     sq [r_ [m_ 26 10, i_ 27 (.un .not (x_ 26))],
      if_ 27 (.exit 1) (.skip)],
     r_ [m_ 28 0, i_ 29 (.load [ix, ix] true (some 8) (x_ 8)), i_ 30 (.call 67 [(x_ 28), (x_ 29)] [.any]), m_ 11 30],
     r_ [i_ 31 (.load [.bool] false none (x_ 3)), m_ 32 31, gm_ 32 33 0, g_ 32 34 (.load [ix, ix] true (some 8) (x_ 8)), g_ 32 35 (.call 68 [(x_ 33), (x_ 34)] [.str]), gm_ 32 36 9, g_ 32 37 (.bin .eql (x_ 35) (x_ 36)), i_ 38 (.pick (x_ 32) (x_ 37) F_), m_ 39 38, gm_ 39 40 11, g_ 39 41 (.lenL (x_ 40)), gm_ 39 42 9, g_ 39 43 (.lenS (x_ 42)), g_ 39 44 (.callP 50 [(x_ 43)] [ix]), g_ 39 45 (.bin .eql (x_ 41) (x_ 44)), i_ 46 (.pick (x_ 39) (x_ 45) F_), u_ (.store 1 none (x_ 3) (x_ 46))],
     r_ [m_ 47 11, i_ 48 (.lenL (x_ 47)), i_ 49 (.mov (n_ 0))],
     .block 2 (.loop [0, 2, 3, 4, 5, 14, 15, 16, 47, 48, 49] [0, 2, 3, 4, 5, 14, 15, 16] [] law14_BlobBack_3.L1)]),
   r_ [i_ 63 (.bin .add (x_ 16) (n_ 1)), m_ 16 63]]
def law14_BlobBack_3.a : AFun := ⟨6, [],
  sq [sq [r_ [i_ 14 (.load [.sl 2] false none (x_ 1)), i_ 15 (.lenL (x_ 14)), i_ 16 (.mov (n_ 0))],
    .block 0 (.loop [0, 2, 3, 4, 5, 14, 15, 16] [0, 3, 4, 5] [] law14_BlobBack_3.L0)],
   d_ [i_ 64 (.load [.bool] false none (x_ 3)), m_ 65 64, gm_ 65 66 0, g_ 65 67 (.callR 27 [(x_ 66)] [ix]), g_ 65 68 (.load [ix] false none (x_ 5)), g_ 65 69 (.bin .sub (x_ 68) (n_ 2)), g_ 65 70 (.load [.any] false none (x_ 4)), g_ 65 71 (.mapLen (x_ 70)), g_ 65 72 (.bin .sub (x_ 69) (x_ 71)), g_ 65 73 (.bin .eql (x_ 67) (x_ 72)), i_ 74 (.pick (x_ 65) (x_ 73) F_), u_ (.store 1 none (x_ 3) (x_ 74))]]⟩
def law14_BlobBack_3.R0 (C : CallF) (N : Nat) := round (evalC C N law14_BlobBack_3.L0) [0, 2, 3, 4, 5, 14, 15, 16] [0, 3, 4, 5] []
def law14_BlobBack_3.K0 (C : CallF) (N : Nat) : Ex → St → R := contC C N [.fst, .snd, .blk] law14_BlobBack_3.a.body (finish law14_BlobBack_3.a)
def law14_BlobBack_3.R1 (C : CallF) (N : Nat) := round (evalC C N law14_BlobBack_3.L1) [0, 2, 3, 4, 5, 14, 15, 16, 47, 48, 49] [0, 2, 3, 4, 5, 14, 15, 16] []
def law14_BlobBack_3.K1 (C : CallF) (N : Nat) (k : Ex → St → R) : Ex → St → R := contC C N [.snd, .snd, .fst, .blk, .snd, .snd, .snd, .snd, .snd, .snd, .blk] law14_BlobBack_3.L0 (rndK [0, 2, 3, 4, 5, 14, 15, 16] [0, 3, 4, 5] [] k)
def blob_Pages.pol : Pol := { glob := [5], heap := [999999], ro := roList, root := [(3, 3)], rs := [4], live := [([5], [900000])] }
def blob_Pages.a : AFun := ⟨2, [.tmp 4],
  sq [r_ [i_ 3 (.boxL (x_ 1)), i_ 4 (.nilS 1)],
   r_ [i_ 5 (.allocG none [(.sl true 1 [])])],
   sq [r_ [m_ 7 0, i_ 8 (.load [ix, ix] true (some 3) (x_ 3)), i_ 9 (.call 172 [(x_ 7), (x_ 8)] [.any])],
    .block 0 (.ranged 900000 (x_ 9) [5])],
   r_ [i_ 16 (.load [.sl 1] false none (x_ 5)), m_ 4 16],
   .ret]⟩
def blob_Pages.polY900000 : Pol := { glob := [5], heap := [999999], ro := roList, root := [(3, 3)] }
def blob_Pages.Y900000 : AYield := ⟨[5], [10, 11],
  r_ [m_ 6 10],
  .block 1 (r_ [i_ 12 (.load [.sl 1] false none (x_ 5)), m_ 13 6, i_ 14 (.buildG 1 [(x_ 13)]), i_ 15 (.appendH none 1 8 (x_ 12) (x_ 14)), u_ (.store 1 none (x_ 5) (x_ 15))])⟩
def blob_Get.pol : Pol := { glob := [5], heap := [999999], ro := roList, typed := [227], root := [(3, 3)], rs := [4], live := [([5], [900001])] }
def blob_Get.a : AFun := ⟨2, [.tmp 4],
  sq [r_ [i_ 3 (.boxL (x_ 1)), i_ 4 (.mov (c_ (.string ⟨#[]⟩)))],
   r_ [i_ 5 (.allocG (some 227) [(.at (.pointer none)), (.sl true 1 [])])],
   sq [r_ [m_ 8 0, i_ 9 (.load [ix, ix] true (some 3) (x_ 3)), i_ 10 (.call 172 [(x_ 8), (x_ 9)] [.any])],
    .block 0 (.ranged 900001 (x_ 10) [5])],
   r_ [i_ 15 (.call 174 [(x_ 5)] [.str]), m_ 4 15],
   .ret]⟩
def blob_Get.polY900001 : Pol := { glob := [5], heap := [999999], ro := roList, typed := [227], root := [(3, 3)] }
def blob_Get.Y900001 : AYield := ⟨[5], [11, 12],
  r_ [m_ 7 12],
  .block 1 (r_ [m_ 13 7, i_ 14 (.call 173 [(x_ 5), (x_ 13)] [ix, .any])])⟩
def law14_BlobBack_4.pol : Pol := { heap := [999999], ro := roList }
def law14_BlobBack_4.a : AFun := ⟨2, [],
  r_ [m_ 3 0, i_ 4 (.load [ix, ix] true none (x_ 1)), i_ 5 (.call 64 [(x_ 3), (x_ 4)] [])]⟩
def law14_BlobBack_5.pol : Pol := { heap := [999999], ro := roList }
def law14_BlobBack_5.a : AFun := ⟨2, [],
  r_ [m_ 3 0, i_ 4 (.callR 27 [(x_ 3)] [ix]), u_ (.store 1 none (x_ 1) (x_ 4))]⟩
def heap_Heap_images.pol : Pol := { heap := [999999], ro := roList, rs := [2], live := [([0, 3, 13, 14, 15], [3])] }
def heap_Heap_images.L0 : ACode :=
  sq [r_ [i_ 16 (.bin .lss (x_ 15) (x_ 14))],
   if_ 16 (.skip) (.exit 0),
   .block 1 (sq [r_ [i_ 17 (.indexAddrS 1 (x_ 13) (x_ 15)), i_ 18 (.load [ix] false none (x_ 17)), m_ 5 18],
     r_ [m_ 20 0, i_ 21 (.nilCk (x_ 20)), i_ 22 (.addr 0 (x_ 21)), i_ 23 (.load [.any] false none (x_ 22)), m_ 24 5, i_ 25 (.callR 31 [(x_ 23), (x_ 24)] [.str, ix]), m_ 19 25, i_ 26 (.extract (x_ 19) 0), i_ 27 (.extract (x_ 19) 1), m_ 6 26, m_ 7 27],
     r_ [m_ 28 6, m_ 29 0, i_ 30 (.nilCk (x_ 29)), i_ 31 (.addr 1 (x_ 30)), i_ 32 (.load [.any] false none (x_ 31)), m_ 33 5, i_ 34 (.mapGet .i [(.at (.string ⟨#[]⟩))] false false (x_ 32) (x_ 33)), i_ 35 (.bin .neq (x_ 28) (x_ 34))],
     if_ 35 (r_ [m_ 36 3, m_ 37 5, m_ 38 0, i_ 39 (.nilCk (x_ 38)), i_ 40 (.addr 1 (x_ 39)), i_ 41 (.load [.any] false none (x_ 40)), m_ 42 5, i_ 43 (.mapGet .i [(.at (.string ⟨#[]⟩))] false false (x_ 41) (x_ 42)), i_ 44 (.build [(.at (.int .i64 0)), (.at (.string ⟨#[]⟩))] [(0, 1, (x_ 37)), (1, 1, (x_ 43))]), i_ 45 (.buildG 2 [(x_ 44)]), i_ 46 (.appendH none 2 24 (x_ 36) (x_ 45)), m_ 3 46]) (.skip)]),
   r_ [i_ 47 (.bin .add (x_ 15) (n_ 1)), m_ 15 47]]
def heap_Heap_images.a : AFun := ⟨1, [.tmp 2],
  sq [r_ [i_ 2 (.nilS 2)],
   r_ [i_ 3 (.nilS 2)],
   sq [r_ [m_ 8 0, i_ 9 (.nilCk (x_ 8)), i_ 10 (.addr 1 (x_ 9)), i_ 11 (.load [.any] false none (x_ 10)), i_ 12 (.call 227 [(x_ 11)] [.any]), i_ 13 (.call 226 [(x_ 12)] [.any]), i_ 14 (.lenL (x_ 13)), i_ 15 (.mov (n_ 0))],
    .block 0 (.loop [0, 3, 13, 14, 15] [3] [2] heap_Heap_images.L0)],
   r_ [m_ 48 3, m_ 2 48],
   .ret]⟩
def heap_Heap_images.R0 (C : CallF) (N : Nat) := round (evalC C N heap_Heap_images.L0) [0, 3, 13, 14, 15] [3] [2]
def heap_Heap_images.K0 (C : CallF) (N : Nat) : Ex → St → R := contC C N [.snd, .snd, .fst, .snd, .blk] heap_Heap_images.a.body (finish heap_Heap_images.a)
def heap_Heap_Pages.pol : Pol := { heap := [999999], ro := roList, rs := [2] }
def heap_Heap_Pages.a : AFun := ⟨1, [.tmp 2],
  sq [r_ [i_ 2 (.mov (n_ 0))],
   r_ [m_ 3 0, i_ 4 (.nilCk (x_ 3)), i_ 5 (.addr 0 (x_ 4)), i_ 6 (.load [.any] false none (x_ 5)), i_ 7 (.callR 35 [(x_ 6)] [ix]), m_ 2 7],
   .ret]⟩
def bitmap_Take.pol : Pol := { pure := [228], heap := [999999], gret := [228], ro := roList, rs := [8, 9, 10] }
def bitmap_Take.a : AFun := ⟨4, [.tmp 8, .tmp 9, .tmp 10],
  sq [r_ [i_ 8 (.nilS 1), i_ 9 (.mov (c_ (.string ⟨#[]⟩))), i_ 10 (.mov (n_ 0))],
   r_ [m_ 15 0, m_ 16 1, m_ 17 2, m_ 18 3, i_ 19 (.callD 228 [(x_ 15), (x_ 16), (x_ 17), (x_ 18)] [.sl 1, ix]), m_ 14 19, i_ 20 (.extract (x_ 14) 0), i_ 21 (.extract (x_ 14) 1), m_ 11 20, m_ 12 21],
   sq [r_ [m_ 22 12, i_ 23 (.bin .neq (x_ 22) (n_ 0))],
    if_ 23 (sq [r_ [m_ 24 12, i_ 8 (.nilS 1), i_ 9 (.mov (c_ (.string ⟨#[]⟩))), m_ 10 24],
      .ret]) (.skip)],
   r_ [m_ 26 0, m_ 27 11, i_ 28 (.call 229 [(x_ 26), (x_ 27), T_] [.str, ix]), m_ 25 28, i_ 29 (.extract (x_ 25) 0), i_ 30 (.extract (x_ 25) 1), m_ 13 29, m_ 12 30],
   r_ [m_ 31 11, m_ 32 13, m_ 33 12, m_ 8 31, m_ 9 32, m_ 10 33],
   .ret]⟩
def heap_Heap_must.pol : Pol := { heap := [999999], ro := roList }
def heap_Heap_must.a : AFun := ⟨2, [],
  sq [r_ [m_ 4 1, i_ 5 (.bin .neq (x_ 4) (n_ 0))],
   if_ 5 (r_ [m_ 6 0, m_ 7 1, i_ 8 (.callR 26 [(x_ 6), (x_ 7)] [])]) (.skip)]⟩
def octets_Pad.pol : Pol := { pure := [230], heap := [999999], ro := roList, rs := [4] }
def octets_Pad.a : AFun := ⟨2, [.tmp 4],
  sq [r_ [i_ 4 (.mov (c_ (.string ⟨#[]⟩)))],
   sq [r_ [m_ 5 1, i_ 6 (.bin .gtr (x_ 5) (n_ 65536)), m_ 7 6, hm_ 7 8 1, hm_ 7 9 0, h_ 7 10 (.lenS (x_ 9)), h_ 7 11 (.bin .leq (x_ 8) (x_ 10)), i_ 12 (.pick (x_ 7) T_ (x_ 11))],
    if_ 12 (sq [r_ [m_ 13 0, m_ 4 13],
      .ret]) (.skip)],
   r_ [m_ 14 0, m_ 15 1, m_ 16 0, i_ 17 (.lenS (x_ 16)), i_ 18 (.bin .sub (x_ 15) (x_ 17)), i_ 19 (.callP 230 [(c_ (.string ⟨#[0]⟩)), (x_ 18)] [.str]), i_ 20 (.bin .add (x_ 14) (x_ 19)), m_ 4 20],
   .ret]⟩
def bitmap_Give.pol : Pol := { heap := [999999], ro := roList, rs := [4, 5] }
def bitmap_Give.a : AFun := ⟨2, [.tmp 4, .tmp 5],
  sq [r_ [i_ 4 (.mov (c_ (.string ⟨#[]⟩))), i_ 5 (.mov (n_ 0))],
   r_ [m_ 6 0, m_ 7 1, i_ 8 (.call 229 [(x_ 6), (x_ 7), F_] [.str, ix]), i_ 9 (.extract (x_ 8) 0), i_ 10 (.extract (x_ 8) 1), m_ 4 9, m_ 5 10],
   .ret]⟩
def bitmap_Many.pol : Pol := { pure := [231, 232, 233], heap := [999999], ro := roList, rs := [6], live := [([0, 2, 7, 8], [7])] }
def bitmap_Many.L0 : ACode :=
  sq [sq [r_ [m_ 17 8, m_ 18 2, i_ 19 (.bin .lss (x_ 17) (x_ 18))],
    if_ 19 (.skip) (.exit 0)],
   .block 1 (sq [sq [r_ [m_ 20 8, i_ 21 (.bin .rem (x_ 20) (n_ 8)), i_ 22 (.bin .eql (x_ 21) (n_ 0)), m_ 23 22, gm_ 23 24 8, g_ 23 25 (.bin .add (x_ 24) (n_ 8)), gm_ 23 26 2, g_ 23 27 (.bin .leq (x_ 25) (x_ 26)), i_ 28 (.pick (x_ 23) (x_ 27) F_)],
      if_ 28 (sq [r_ [m_ 29 7, m_ 30 0, m_ 31 8, i_ 32 (.bin .quo (x_ 31) (n_ 8)), i_ 33 (.indexS (x_ 30) (x_ 32)), i_ 34 (.callP 232 [(x_ 33)] [ix]), i_ 35 (.bin .add (x_ 29) (x_ 34)), m_ 7 35],
        r_ [m_ 36 8, i_ 37 (.bin .add (x_ 36) (n_ 8)), m_ 8 37],
        .exit 1]) (.skip)],
     sq [r_ [m_ 38 0, m_ 39 8, i_ 40 (.callP 233 [(x_ 38), (x_ 39)] [.bool])],
      if_ 40 (r_ [m_ 41 7, i_ 42 (.bin .add (x_ 41) (n_ 1)), m_ 7 42]) (.skip)],
     r_ [m_ 43 8, i_ 44 (.bin .add (x_ 43) (n_ 1)), m_ 8 44]])]
def bitmap_Many.a : AFun := ⟨3, [.tmp 6],
  sq [r_ [i_ 6 (.mov (n_ 0))],
   sq [r_ [m_ 9 0, i_ 10 (.callP 231 [(x_ 9)] [.bool]), i_ 11 (.un .not (x_ 10))],
    if_ 11 (sq [r_ [i_ 6 (.mov (n_ 0))],
      .ret]) (.skip)],
   r_ [m_ 12 1, i_ 13 (.minmax true [(x_ 12), (n_ 0)]), m_ 14 2, i_ 15 (.minmax false [(x_ 14), (n_ 3840)]), m_ 1 13, m_ 2 15],
   r_ [i_ 7 (.mov (n_ 0))],
   sq [r_ [m_ 16 1, m_ 8 16],
    .block 0 (.loop [0, 2, 7, 8] [7] [6] bitmap_Many.L0)],
   r_ [m_ 45 7, m_ 6 45],
   .ret]⟩
def bitmap_Many.R0 (C : CallF) (N : Nat) := round (evalC C N bitmap_Many.L0) [0, 2, 7, 8] [7] [6]
def bitmap_Many.K0 (C : CallF) (N : Nat) : Ex → St → R := contC C N [.snd, .snd, .snd, .snd, .fst, .snd, .blk] bitmap_Many.a.body (finish bitmap_Many.a)
def disk_Disk_Len.pol : Pol := { heap := [999999], ro := roList, rs := [2] }
def disk_Disk_Len.a : AFun := ⟨1, [.tmp 2],
  sq [r_ [i_ 2 (.mov (n_ 0))],
   sq [r_ [m_ 3 0, i_ 4 (.nilCmp false 1 (x_ 3))],
    if_ 4 (sq [r_ [i_ 2 (.mov (n_ 0))],
      .ret]) (.skip)],
   r_ [m_ 5 0, i_ 6 (.nilCk (x_ 5)), i_ 7 (.addr 0 (x_ 6)), i_ 8 (.load [.sl 1] false none (x_ 7)), i_ 9 (.lenL (x_ 8)), m_ 2 9],
   .ret]⟩
def disk_Disk_Write.pol : Pol := { heap := [999999], ro := roList, rs := [6] }
def disk_Disk_Write.a : AFun := ⟨3, [.tmp 6],
  sq [r_ [i_ 6 (.mov (n_ 0))],
   sq [r_ [m_ 8 0, m_ 9 1, i_ 10 (.callR 234 [(x_ 8), (x_ 9)] [.bool]), i_ 11 (.un .not (x_ 10)), m_ 12 11, hm_ 12 13 2, h_ 12 14 (.lenS (x_ 13)), h_ 12 15 (.bin .neq (x_ 14) (n_ 512)), i_ 16 (.pick (x_ 12) T_ (x_ 15))],
    if_ 16 (sq [r_ [i_ 6 (.mov (n_ 18))],
      .ret]) (.skip)],
   r_ [m_ 17 0, i_ 18 (.call 235 [(x_ 17)] [ix]), m_ 7 18],
   sq [r_ [m_ 19 7, i_ 20 (.bin .eql (x_ 19) (n_ 0))],
    if_ 20 (r_ [m_ 21 0, m_ 22 0, i_ 23 (.nilCk (x_ 22)), i_ 24 (.addr 1 (x_ 23)), i_ 25 (.load [.sl 2] false none (x_ 24)), m_ 26 1, m_ 27 2, i_ 28 (.build [(.at (.int .i64 0)), (.at (.string ⟨#[]⟩))] [(0, 1, (x_ 26)), (1, 1, (x_ 27))]), i_ 29 (.buildG 2 [(x_ 28)]), i_ 30 (.appendH none 2 24 (x_ 25) (x_ 29)), i_ 31 (.nilCk (x_ 21)), i_ 32 (.addr 1 (x_ 31)), u_ (.store 1 none (x_ 32) (x_ 30))]) (.skip)],
   r_ [m_ 33 7, m_ 6 33],
   .ret]⟩
def sector_Blank.pol : Pol := { pure := [126], heap := [999999], ro := roList, rs := [0] }
def sector_Blank.a : AFun := ⟨0, [.tmp 0],
  sq [r_ [i_ 0 (.mov (c_ (.string ⟨#[]⟩)))],
   r_ [i_ 1 (.callP 126 [(c_ (.string ⟨#[]⟩)), (n_ 512)] [.str]), m_ 0 1],
   .ret]⟩
def disk_Disk_Flush.pol : Pol := { pure := [236], heap := [999999], ro := roList, rs := [2] }
def disk_Disk_Flush.a : AFun := ⟨1, [.tmp 2],
  sq [r_ [i_ 2 (.mov (n_ 0))],
   sq [r_ [m_ 4 0, i_ 5 (.nilCmp false 1 (x_ 4))],
    if_ 5 (sq [r_ [i_ 2 (.mov (n_ 18))],
      .ret]) (.skip)],
   r_ [m_ 6 0, i_ 7 (.call 235 [(x_ 6)] [ix]), m_ 3 7],
   sq [r_ [m_ 8 3, i_ 9 (.bin .eql (x_ 8) (n_ 0))],
    if_ 9 (r_ [m_ 10 0, i_ 11 (.call 150 [(x_ 10), (.func 236)] [ix])]) (.skip)],
   r_ [m_ 12 3, m_ 2 12],
   .ret]⟩
def pages_held.pol : Pol := { glob := [15], pure := [126], heap := [999999], ro := roList, rs := [6] }
def pages_held.a : AFun := ⟨3, [.tmp 6],
  sq [r_ [i_ 6 (.mov (c_ (.pointer none)))],
   r_ [m_ 7 0, m_ 8 2, i_ 9 (.callP 126 [(c_ (.string ⟨#[]⟩)), (n_ 480)] [.str]), i_ 10 (.buildG 1 [(x_ 9)]), m_ 11 1, i_ 12 (.call 149 [(x_ 10), (x_ 11)] [.any]), i_ 13 (.mkMap), i_ 14 (.build [(.at (.pointer none)), (.at (.int .i64 0)), (.sl true 1 []), (.at (.map none)), (.at (.pointer none)), (.at (.int .i64 0))] [(0, 1, (x_ 7)), (1, 1, (x_ 8)), (2, 1, (x_ 12)), (3, 1, (x_ 13))]), i_ 15 (.boxG (x_ 14)), m_ 6 15],
   .ret]⟩
def pages_Store_write.pol : Pol := { pure := [237], heap := [999999], ro := roList, rs := [4] }
def pages_Store_write.a : AFun := ⟨2, [.tmp 4],
  sq [r_ [i_ 4 (.mov (n_ 0))],
   d_ [m_ 10 0, i_ 11 (.nilCk (x_ 10)), i_ 12 (.addr 2 (x_ 11)), i_ 13 (.load [.sl 1] false none (x_ 12)), i_ 14 (.lenL (x_ 13)), m_ 15 0, i_ 16 (.nilCk (x_ 15)), i_ 17 (.addr 1 (x_ 16)), i_ 18 (.load [ix] false none (x_ 17)), m_ 19 1, i_ 20 (.callP 237 [(x_ 14), (x_ 18), (x_ 19)] [.str, ix]), m_ 9 20, i_ 21 (.extract (x_ 9) 0), i_ 22 (.extract (x_ 9) 1), m_ 5 21, m_ 6 22],
   sq [r_ [m_ 23 6, i_ 24 (.bin .neq (x_ 23) (n_ 0))],
    if_ 24 (sq [r_ [m_ 25 6, m_ 4 25],
      .ret]) (.skip)],
   sq [r_ [m_ 26 0, i_ 27 (.nilCk (x_ 26)), i_ 28 (.addr 0 (x_ 27)), i_ 29 (.load [.any] false none (x_ 28)), m_ 30 5, i_ 31 (.call 130 [(x_ 29), (n_ 0), (x_ 30)] [ix]), m_ 7 31],
    r_ [m_ 32 7, i_ 33 (.bin .neq (x_ 32) (n_ 0))],
    if_ 33 (sq [r_ [m_ 34 7, m_ 4 34],
      .ret]) (.skip)],
   sq [r_ [m_ 35 0, i_ 36 (.nilCk (x_ 35)), i_ 37 (.addr 0 (x_ 36)), i_ 38 (.load [.any] false none (x_ 37)), i_ 39 (.call 132 [(x_ 38)] [ix]), m_ 8 39],
    r_ [m_ 40 8, i_ 41 (.bin .neq (x_ 40) (n_ 0))],
    if_ 41 (sq [r_ [m_ 42 8, m_ 4 42],
      .ret]) (.skip)],
   d_ [m_ 44 0, m_ 45 0, i_ 46 (.nilCk (x_ 45)), i_ 47 (.addr 0 (x_ 46)), i_ 48 (.load [.any] false none (x_ 47)), m_ 49 0, i_ 50 (.nilCk (x_ 49)), i_ 51 (.addr 1 (x_ 50)), i_ 52 (.load [ix] false none (x_ 51)), m_ 53 1, i_ 54 (.call 238 [(x_ 48), (x_ 52), (x_ 53)] [.any, ix]), m_ 43 54, i_ 55 (.extract (x_ 43) 0), i_ 56 (.extract (x_ 43) 1), i_ 57 (.nilCk (x_ 44)), i_ 58 (.addr 4 (x_ 57)), u_ (.store 1 none (x_ 58) (x_ 55)), m_ 6 56],
   r_ [m_ 59 6, m_ 4 59],
   .ret]⟩
def pages_Store_checkpoint.pol : Pol := { pure := [245], heap := [999999], ro := roList, rs := [4], live := [([0, 1, 26, 27, 28], [0, 1])] }
def pages_Store_checkpoint.L0 : ACode :=
  sq [r_ [i_ 29 (.bin .lss (x_ 28) (x_ 27))],
   if_ 29 (.skip) (.exit 0),
   .block 1 (sq [r_ [i_ 30 (.indexAddrS 1 (x_ 26) (x_ 28)), i_ 31 (.load [ix] false none (x_ 30)), m_ 7 31],
     r_ [m_ 33 7, m_ 34 0, i_ 35 (.nilCk (x_ 34)), i_ 36 (.addr 2 (x_ 35)), i_ 37 (.load [.sl 1] false none (x_ 36)), m_ 38 7, i_ 39 (.indexAddrS 1 (x_ 37) (x_ 38)), i_ 40 (.load [.str] false none (x_ 39)), i_ 41 (.callP 245 [(x_ 33), (x_ 40)] [.str, ix]), m_ 32 41, i_ 42 (.extract (x_ 32) 0), i_ 43 (.extract (x_ 32) 1), m_ 8 42, m_ 9 43],
     sq [r_ [m_ 44 9, i_ 45 (.bin .neq (x_ 44) (n_ 0))],
      if_ 45 (sq [r_ [m_ 46 9, m_ 4 46],
        .ret]) (.skip)],
     d_ [m_ 47 0, i_ 48 (.nilCk (x_ 47)), i_ 49 (.addr 0 (x_ 48)), i_ 50 (.load [.any] false none (x_ 49)), m_ 51 0, m_ 52 7, i_ 53 (.callR 241 [(x_ 51), (x_ 52)] [ix]), m_ 54 8, i_ 55 (.call 130 [(x_ 50), (x_ 53), (x_ 54)] [ix]), m_ 10 55],
     r_ [m_ 56 10, i_ 57 (.bin .neq (x_ 56) (n_ 0))],
     if_ 57 (sq [r_ [m_ 58 10, m_ 4 58],
       .ret]) (.skip)]),
   r_ [i_ 59 (.bin .add (x_ 28) (n_ 1)), m_ 28 59]]
def pages_Store_checkpoint.a : AFun := ⟨2, [.tmp 4],
  sq [r_ [i_ 4 (.mov (n_ 0))],
   sq [r_ [m_ 13 0, i_ 14 (.nilCk (x_ 13)), i_ 15 (.addr 0 (x_ 14)), i_ 16 (.load [.any] false none (x_ 15)), i_ 17 (.call 132 [(x_ 16)] [ix]), m_ 5 17],
    r_ [m_ 18 5, i_ 19 (.bin .neq (x_ 18) (n_ 0))],
    if_ 19 (sq [r_ [m_ 20 5, m_ 4 20],
      .ret]) (.skip)],
   sq [r_ [m_ 21 0, i_ 22 (.nilCk (x_ 21)), i_ 23 (.addr 3 (x_ 22)), i_ 24 (.load [.any] false none (x_ 23)), i_ 25 (.call 244 [(x_ 24)] [.any]), i_ 26 (.call 226 [(x_ 25)] [.any]), i_ 27 (.lenL (x_ 26)), i_ 28 (.mov (n_ 0))],
    .block 0 (.loop [0, 1, 26, 27, 28] [0, 1] [4] pages_Store_checkpoint.L0)],
   sq [r_ [m_ 60 0, i_ 61 (.nilCk (x_ 60)), i_ 62 (.addr 0 (x_ 61)), i_ 63 (.load [.any] false none (x_ 62)), i_ 64 (.call 132 [(x_ 63)] [ix]), m_ 11 64],
    r_ [m_ 65 11, i_ 66 (.bin .neq (x_ 65) (n_ 0))],
    if_ 66 (sq [r_ [m_ 67 11, m_ 4 67],
      .ret]) (.skip)],
   sq [r_ [m_ 68 0, m_ 69 1, i_ 70 (.call 134 [(x_ 68), (x_ 69)] [ix]), m_ 12 70],
    r_ [m_ 71 12, i_ 72 (.bin .neq (x_ 71) (n_ 0))],
    if_ 72 (sq [r_ [m_ 73 12, m_ 4 73],
      .ret]) (.skip)],
   r_ [m_ 74 0, i_ 75 (.nilCk (x_ 74)), i_ 76 (.addr 3 (x_ 75)), i_ 77 (.load [.any] false none (x_ 76)), u_ (.mapClr (x_ 77))],
   r_ [m_ 78 0, i_ 79 (.nilCk (x_ 78)), i_ 80 (.addr 5 (x_ 79)), u_ (.store 1 none (x_ 80) (n_ 0))],
   r_ [i_ 4 (.mov (n_ 0))],
   .ret]⟩
def pages_Store_checkpoint.R0 (C : CallF) (N : Nat) := round (evalC C N pages_Store_checkpoint.L0) [0, 1, 26, 27, 28] [0, 1] [4]
def pages_Store_checkpoint.K0 (C : CallF) (N : Nat) : Ex → St → R := contC C N [.snd, .snd, .fst, .snd, .blk] pages_Store_checkpoint.a.body (finish pages_Store_checkpoint.a)
def journal_Check.pol : Pol := { pure := [246], heap := [999999], ro := roList, root := [(5, 5), (13, 5), (18, 5), (25, 5), (30, 5)], rs := [2], live := [([0, 3, 7, 8, 9], [0])] }
def journal_Check.L0 : ACode :=
  sq [r_ [i_ 10 (.bin .lss (x_ 9) (x_ 8))],
   if_ 10 (.skip) (.exit 0),
   .block 1 (sq [r_ [i_ 11 (.indexAddrS 2 (x_ 7) (x_ 9)), i_ 12 (.load [ix, .str] true none (x_ 11)), i_ 5 (.allocL [(.at (.int .i64 0)), (.at (.string ⟨#[]⟩))]), u_ (.store 2 (some 5) (x_ 5) (x_ 12))],
     sq [r_ [i_ 13 (.addr 0 (x_ 5)), i_ 14 (.load [ix] false (some 5) (x_ 13)), i_ 15 (.callP 246 [(x_ 14)] [.bool]), i_ 16 (.un .not (x_ 15)), m_ 17 16, h_ 17 18 (.addr 1 (x_ 5)), h_ 17 19 (.load [.str] false (some 5) (x_ 18)), h_ 17 20 (.lenS (x_ 19)), h_ 17 21 (.bin .neq (x_ 20) (n_ 480)), i_ 22 (.pick (x_ 17) T_ (x_ 21)), m_ 23 22, hm_ 23 24 3, h_ 23 25 (.addr 0 (x_ 5)), h_ 23 26 (.load [ix] false (some 5) (x_ 25)), h_ 23 27 (.mapGet .i [(.at (.bool false))] false false (x_ 24) (x_ 26)), i_ 28 (.pick (x_ 23) T_ (x_ 27))],
      if_ 28 (sq [r_ [i_ 2 (.mov (n_ 18))],
        .ret]) (.skip)],
     r_ [m_ 29 3, i_ 30 (.addr 0 (x_ 5)), i_ 31 (.load [ix] false (some 5) (x_ 30)), u_ (.mapSet .i (x_ 29) (x_ 31) T_)]]),
   r_ [i_ 32 (.bin .add (x_ 9) (n_ 1)), m_ 9 32]]
def journal_Check.a : AFun := ⟨1, [.tmp 2],
  sq [r_ [i_ 2 (.mov (n_ 0))],
   r_ [i_ 6 (.mkMap), m_ 3 6],
   sq [r_ [m_ 7 0, i_ 8 (.lenL (x_ 7)), i_ 9 (.mov (n_ 0))],
    .block 0 (.loop [0, 3, 7, 8, 9] [0] [2] journal_Check.L0)],
   sq [r_ [m_ 33 0, i_ 34 (.lenL (x_ 33)), i_ 35 (.bin .eql (x_ 34) (n_ 0))],
    if_ 35 (sq [r_ [i_ 2 (.mov (n_ 18))],
      .ret]) (.skip)],
   r_ [i_ 2 (.mov (n_ 0))],
   .ret]⟩
def journal_Check.R0 (C : CallF) (N : Nat) := round (evalC C N journal_Check.L0) [0, 3, 7, 8, 9] [0] [2]
def journal_Check.K0 (C : CallF) (N : Nat) : Ex → St → R := contC C N [.snd, .snd, .fst, .snd, .blk] journal_Check.a.body (finish journal_Check.a)
def pages_Store_has.pol : Pol := { glob := [2], heap := [999999], ro := roList, rs := [4] }
def pages_Store_has.a : AFun := ⟨2, [.tmp 4],
  sq [r_ [i_ 2 (.boxG (x_ 0)), i_ 4 (.mov F_)],
   r_ [m_ 5 1, i_ 6 (.makeFunc 248 [] [(x_ 2)]), i_ 7 (.call 247 [(x_ 5), (x_ 6)] [.bool]), i_ 8 (.un .not (x_ 7)), m_ 4 8],
   .ret]⟩
def disk_Disk_Down.pol : Pol := { heap := [999999], ro := roList, rs := [2] }
def disk_Disk_Down.a : AFun := ⟨1, [.tmp 2],
  sq [r_ [i_ 2 (.mov F_)],
   r_ [m_ 3 0, i_ 4 (.nilCmp false 1 (x_ 3)), m_ 5 4, hm_ 5 6 0, h_ 5 7 (.nilCk (x_ 6)), h_ 5 8 (.addr 3 (x_ 7)), h_ 5 9 (.load [.bool] false none (x_ 8)), i_ 10 (.pick (x_ 5) T_ (x_ 9)), m_ 2 10],
   .ret]⟩
def journal_Journal_Append.pol : Pol := { pure := [126], heap := [999999], ro := roList, root := [(6, 6), (33, 6), (36, 6), (8, 8)], rs := [4], live := [([0, 1, 24, 25, 26], [0, 1])] }
def journal_Journal_Append.L0 : ACode :=
  sq [r_ [i_ 27 (.bin .lss (x_ 26) (x_ 25))],
   if_ 27 (.skip) (.exit 1),
   .block 2 (sq [r_ [m_ 28 26, i_ 29 (.indexAddrS 2 (x_ 24) (x_ 26)), i_ 30 (.load [ix, .str] true none (x_ 29)), i_ 6 (.allocL [(.at (.int .i64 0)), (.at (.string ⟨#[]⟩))]), m_ 5 28, u_ (.store 2 (some 6) (x_ 6) (x_ 30))],
     r_ [m_ 31 0, m_ 32 5, i_ 33 (.addr 0 (x_ 6)), i_ 34 (.load [ix] false (some 6) (x_ 33)), m_ 35 5, i_ 36 (.addr 1 (x_ 6)), i_ 37 (.load [.str] false (some 6) (x_ 36)), i_ 38 (.build [(.at (.int .i64 0)), (.at (.int .u64 0)), (.at (.int .u64 0)), (.at (.int .i64 0)), (.at (.int .i64 0)), (.at (.string ⟨#[]⟩))] [(0, 1, (n_ 2)), (3, 1, (x_ 34)), (4, 1, (x_ 35)), (5, 1, (x_ 37))]), i_ 39 (.call 249 [(x_ 31), (x_ 32), (x_ 38)] [ix]), m_ 7 39],
     r_ [m_ 40 7, i_ 41 (.bin .neq (x_ 40) (n_ 0))],
     if_ 41 (sq [r_ [m_ 42 7, m_ 4 42],
       .ret]) (.skip)]),
   r_ [i_ 43 (.bin .add (x_ 26) (n_ 1)), m_ 26 43]]
def journal_Journal_Append.a : AFun := ⟨2, [.tmp 4],
  sq [r_ [i_ 4 (.mov (n_ 0))],
   .block 0 (sq [r_ [m_ 11 0, i_ 12 (.nilCmp false 1 (x_ 11)), m_ 13 12, hm_ 13 14 1, h_ 13 15 (.call 139 [(x_ 14)] [ix]), h_ 13 16 (.bin .neq (x_ 15) (n_ 0)), i_ 17 (.pick (x_ 13) T_ (x_ 16)), m_ 10 17],
     if_ 10 (sq [r_ [i_ 4 (.mov (n_ 18))],
       .ret]) (sq [r_ [m_ 19 1, i_ 20 (.lenL (x_ 19)), m_ 21 0, i_ 22 (.callR 146 [(x_ 21)] [ix]), i_ 23 (.bin .geq (x_ 20) (x_ 22)), m_ 18 23],
       if_ 18 (sq [r_ [i_ 4 (.mov (n_ 14))],
         .ret]) (.skip)])]),
   sq [r_ [m_ 24 1, i_ 25 (.lenL (x_ 24)), i_ 26 (.mov (n_ 0))],
    .block 1 (.loop [0, 1, 24, 25, 26] [0, 1] [4] journal_Journal_Append.L0)],
   r_ [m_ 44 1, i_ 45 (.lenL (x_ 44)), i_ 46 (.callP 126 [(c_ (.string ⟨#[]⟩)), (n_ 480)] [.str]), i_ 47 (.build [(.at (.int .i64 0)), (.at (.int .u64 0)), (.at (.int .u64 0)), (.at (.int .i64 0)), (.at (.int .i64 0)), (.at (.string ⟨#[]⟩))] [(0, 1, (n_ 3)), (4, 1, (x_ 45)), (5, 1, (x_ 46))]), i_ 8 (.allocL [(.at (.int .i64 0)), (.at (.int .u64 0)), (.at (.int .u64 0)), (.at (.int .i64 0)), (.at (.int .i64 0)), (.at (.string ⟨#[]⟩))]), u_ (.store 6 (some 8) (x_ 8) (x_ 47))],
   sq [r_ [m_ 48 0, m_ 49 1, i_ 50 (.lenL (x_ 49)), i_ 51 (.load [ix, .int .u64, .int .u64, ix, ix, .str] true (some 8) (x_ 8)), i_ 52 (.call 249 [(x_ 48), (x_ 50), (x_ 51)] [ix]), m_ 9 52],
    r_ [m_ 53 9, i_ 54 (.bin .neq (x_ 53) (n_ 0))],
    if_ 54 (sq [r_ [m_ 55 9, m_ 4 55],
      .ret]) (.skip)],
   r_ [m_ 56 0, i_ 57 (.nilCk (x_ 56)), i_ 58 (.addr 3 (x_ 57)), i_ 59 (.load [ix] false none (x_ 58)), m_ 60 1, i_ 61 (.lenL (x_ 60)), i_ 62 (.bin .add (x_ 61) (n_ 1)), i_ 63 (.bin .add (x_ 59) (x_ 62)), i_ 64 (.nilCk (x_ 56)), i_ 65 (.addr 3 (x_ 64)), u_ (.store 1 none (x_ 65) (x_ 63))],
   r_ [m_ 66 0, i_ 67 (.nilCk (x_ 66)), i_ 68 (.addr 4 (x_ 67)), i_ 69 (.load [.int .u64] false none (x_ 68)), i_ 70 (.bin .add (x_ 69) (k_ .u64 1)), i_ 71 (.nilCk (x_ 66)), i_ 72 (.addr 4 (x_ 71)), u_ (.store 1 none (x_ 72) (x_ 70))],
   r_ [i_ 4 (.mov (n_ 0))],
   .ret]⟩
def journal_Journal_Append.R0 (C : CallF) (N : Nat) := round (evalC C N journal_Journal_Append.L0) [0, 1, 24, 25, 26] [0, 1] [4]
def journal_Journal_Append.K0 (C : CallF) (N : Nat) : Ex → St → R := contC C N [.snd, .snd, .fst, .snd, .blk] journal_Journal_Append.a.body (finish journal_Journal_Append.a)
def pages_Store_change.pol : Pol := { heap := [999999], ro := roList, root := [(5, 5), (16, 5), (18, 5), (25, 5)], live := [([0, 6, 7, 8], [])] }
def pages_Store_change.L0 : ACode :=
  sq [r_ [i_ 9 (.bin .lss (x_ 8) (x_ 7))],
   if_ 9 (.skip) (.exit 0),
   .block 1 (sq [r_ [i_ 10 (.indexAddrS 2 (x_ 6) (x_ 8)), i_ 11 (.load [ix, .str] true none (x_ 10)), i_ 5 (.allocL [(.at (.int .i64 0)), (.at (.string ⟨#[]⟩))]), u_ (.store 2 (some 5) (x_ 5) (x_ 11))],
     d_ [m_ 12 0, i_ 13 (.nilCk (x_ 12)), i_ 14 (.addr 2 (x_ 13)), i_ 15 (.load [.sl 1] false none (x_ 14)), i_ 16 (.addr 0 (x_ 5)), i_ 17 (.load [ix] false (some 5) (x_ 16)), i_ 18 (.addr 1 (x_ 5)), i_ 19 (.load [.str] false (some 5) (x_ 18)), i_ 20 (.indexAddrS 1 (x_ 15) (x_ 17)), u_ (.store 1 none (x_ 20) (x_ 19))],
     d_ [m_ 21 0, i_ 22 (.nilCk (x_ 21)), i_ 23 (.addr 3 (x_ 22)), i_ 24 (.load [.any] false none (x_ 23)), i_ 25 (.addr 0 (x_ 5)), i_ 26 (.load [ix] false (some 5) (x_ 25)), u_ (.mapSet .i (x_ 24) (x_ 26) T_)]]),
   r_ [i_ 27 (.bin .add (x_ 8) (n_ 1)), m_ 8 27]]
def pages_Store_change.a : AFun := ⟨2, [],
  sq [r_ [m_ 6 1, i_ 7 (.lenL (x_ 6)), i_ 8 (.mov (n_ 0))],
   .block 0 (.loop [0, 6, 7, 8] [] [] pages_Store_change.L0)]⟩
def pages_Store_change.R0 (C : CallF) (N : Nat) := round (evalC C N pages_Store_change.L0) [0, 6, 7, 8] [] []
def pages_Store_change.K0 (C : CallF) (N : Nat) : Ex → St → R := contC C N [.snd, .blk] pages_Store_change.a.body (finish pages_Store_change.a)
def journal_Journal_Room.pol : Pol := { heap := [999999], ro := roList, rs := [2] }
def journal_Journal_Room.a : AFun := ⟨1, [.tmp 2],
  sq [r_ [i_ 2 (.mov (n_ 0))],
   sq [r_ [m_ 3 0, i_ 4 (.nilCmp false 1 (x_ 3))],
    if_ 4 (sq [r_ [i_ 2 (.mov (n_ 0))],
      .ret]) (.skip)],
   d_ [m_ 5 0, i_ 6 (.nilCk (x_ 5)), i_ 7 (.addr 1 (x_ 6)), i_ 8 (.load [ix] false none (x_ 7)), m_ 9 0, i_ 10 (.nilCk (x_ 9)), i_ 11 (.addr 3 (x_ 10)), i_ 12 (.load [ix] false none (x_ 11)), i_ 13 (.bin .sub (x_ 8) (x_ 12)), m_ 2 13],
   .ret]⟩
def journal_Journal_Epoch.pol : Pol := { heap := [999999], ro := roList, rs := [2] }
def journal_Journal_Epoch.a : AFun := ⟨1, [.tmp 2],
  sq [r_ [i_ 2 (.mov (k_ .u64 0))],
   sq [r_ [m_ 3 0, i_ 4 (.nilCmp false 1 (x_ 3))],
    if_ 4 (sq [r_ [i_ 2 (.mov (k_ .u64 0))],
      .ret]) (.skip)],
   r_ [m_ 5 0, i_ 6 (.nilCk (x_ 5)), i_ 7 (.addr 2 (x_ 6)), i_ 8 (.load [.int .u64] false none (x_ 7)), m_ 2 8],
   .ret]⟩
def pages_sizes.pol : Pol := { heap := [999999], ro := roList, rs := [4] }
def pages_sizes.a : AFun := ⟨2, [.tmp 4],
  sq [r_ [i_ 4 (.mov F_)],
   r_ [m_ 5 0, i_ 6 (.bin .geq (x_ 5) (n_ 8)), m_ 7 6, gm_ 7 8 0, g_ 7 9 (.bin .leq (x_ 8) (n_ 3840)), i_ 10 (.pick (x_ 7) (x_ 9) F_), m_ 11 10, gm_ 11 12 1, g_ 11 13 (.bin .geq (x_ 12) (n_ 4)), i_ 14 (.pick (x_ 11) (x_ 13) F_), m_ 15 14, gm_ 15 16 1, g_ 15 17 (.bin .leq (x_ 16) (n_ 1024)), i_ 18 (.pick (x_ 15) (x_ 17) F_), m_ 4 18],
   .ret]⟩
def slices_Repeat_string_string.pol : Pol := { pure := [250], heap := [999999], ro := roList, rs := [4], live := [([7, 8], [7])] }
def slices_Repeat_string_string.L0 : ACode :=
  sq [sq [r_ [m_ 34 8, m_ 35 7, i_ 36 (.lenL (x_ 35)), i_ 37 (.bin .lss (x_ 34) (x_ 36))],
    if_ 37 (.skip) (.exit 0)],
   .block 1 (d_ [m_ 38 8, m_ 39 7, m_ 40 8, i_ 41 (.sliceV 1 (x_ 39) (some (x_ 40)) none), m_ 42 7, m_ 43 8, i_ 44 (.sliceV 1 (x_ 42) none (some (x_ 43))), i_ 45 (.copyG 1 (x_ 41) (x_ 44)), i_ 46 (.bin .add (x_ 38) (x_ 45)), m_ 8 46])]
def slices_Repeat_string_string.a : AFun := ⟨2, [.tmp 4],
  sq [r_ [i_ 4 (.nilS 1)],
   sq [r_ [m_ 9 1, i_ 10 (.bin .lss (x_ 9) (n_ 0))],
    if_ 10 (r_ [i_ 11 (.mkIfc 9 (c_ (.string ⟨#[99, 97, 110, 110, 111, 116, 32, 98, 101, 32, 110, 101, 103, 97, 116, 105, 118, 101]⟩))), u_ (.panicI (x_ 11))]) (.skip)],
   r_ [m_ 13 0, i_ 14 (.lenL (x_ 13)), i_ 15 (.convI .u64 (x_ 14)), m_ 16 1, i_ 17 (.convI .u64 (x_ 16)), i_ 18 (.callP 250 [(x_ 15), (x_ 17)] [.int .u64, .int .u64]), m_ 12 18, i_ 19 (.extract (x_ 12) 0), i_ 20 (.extract (x_ 12) 1), m_ 5 19, m_ 6 20],
   sq [r_ [m_ 21 5, i_ 22 (.bin .gtr (x_ 21) (k_ .u64 0)), m_ 23 22, hm_ 23 24 6, h_ 23 25 (.bin .gtr (x_ 24) (k_ .u64 9223372036854775807)), i_ 26 (.pick (x_ 23) T_ (x_ 25))],
    if_ 26 (r_ [i_ 27 (.mkIfc 9 (c_ (.string ⟨#[116, 104, 101, 32, 114, 101, 115, 117, 108, 116, 32, 111, 102, 32, 40, 108, 101, 110, 40, 120, 41, 32, 42, 32, 99, 111, 117, 110, 116, 41, 32, 111, 118, 101, 114, 102, 108, 111, 119, 115]⟩))), u_ (.panicI (x_ 27))]) (.skip)],
   r_ [m_ 28 6, i_ 29 (.convI .i64 (x_ 28)), i_ 30 (.makeG 1 16 [(.at (.string ⟨#[]⟩))] (x_ 29) (x_ 29)), m_ 7 30],
   r_ [m_ 31 7, m_ 32 0, i_ 33 (.copyG 1 (x_ 31) (x_ 32)), m_ 8 33],
   .block 0 (.loop [7, 8] [7] [4] slices_Repeat_string_string.L0),
   r_ [m_ 47 7, m_ 4 47],
   .ret]⟩
def slices_Repeat_string_string.R0 (C : CallF) (N : Nat) := round (evalC C N slices_Repeat_string_string.L0) [7, 8] [7] [4]
def slices_Repeat_string_string.K0 (C : CallF) (N : Nat) : Ex → St → R := contC C N [.snd, .snd, .snd, .snd, .snd, .snd, .fst, .blk] slices_Repeat_string_string.a.body (finish slices_Repeat_string_string.a)
def disk_Disk_settle.pol : Pol := { heap := [999999], ro := roList, root := [(7, 7), (25, 7), (27, 7)], rs := [4], live := [([0, 1, 5, 11, 12, 13], [0, 5])] }
def disk_Disk_settle.L0 : ACode :=
  sq [r_ [i_ 14 (.bin .lss (x_ 13) (x_ 12))],
   if_ 14 (.skip) (.exit 0),
   .block 1 (sq [r_ [m_ 15 13, i_ 16 (.indexAddrS 2 (x_ 11) (x_ 13)), i_ 17 (.load [ix, .str] true none (x_ 16)), i_ 7 (.allocL [(.at (.int .i64 0)), (.at (.string ⟨#[]⟩))]), m_ 6 15, u_ (.store 2 (some 7) (x_ 7) (x_ 17))],
     r_ [m_ 18 1, m_ 19 6, i_ 20 (.callV (x_ 18) [(x_ 19)] [.bool])],
     if_ 20 (sq [d_ [m_ 21 0, i_ 22 (.nilCk (x_ 21)), i_ 23 (.addr 0 (x_ 22)), i_ 24 (.load [.sl 1] false none (x_ 23)), i_ 25 (.addr 0 (x_ 7)), i_ 26 (.load [ix] false (some 7) (x_ 25)), i_ 27 (.addr 1 (x_ 7)), i_ 28 (.load [.str] false (some 7) (x_ 27)), i_ 29 (.indexAddrS 1 (x_ 24) (x_ 26)), u_ (.store 1 none (x_ 29) (x_ 28))],
       r_ [m_ 30 5, i_ 31 (.bin .add (x_ 30) (n_ 1)), m_ 5 31]]) (.skip)]),
   r_ [i_ 32 (.bin .add (x_ 13) (n_ 1)), m_ 13 32]]
def disk_Disk_settle.a : AFun := ⟨2, [.tmp 4],
  sq [r_ [i_ 4 (.mov (n_ 0))],
   r_ [i_ 5 (.mov (n_ 0))],
   sq [r_ [m_ 8 0, i_ 9 (.nilCk (x_ 8)), i_ 10 (.addr 1 (x_ 9)), i_ 11 (.load [.sl 2] false none (x_ 10)), i_ 12 (.lenL (x_ 11)), i_ 13 (.mov (n_ 0))],
    .block 0 (.loop [0, 1, 5, 11, 12, 13] [0, 5] [4] disk_Disk_settle.L0)],
   r_ [m_ 33 0, i_ 34 (.nilCk (x_ 33)), i_ 35 (.addr 1 (x_ 34)), u_ (.store 1 none (x_ 35) (c_ (.slice none 0 0)))],
   r_ [m_ 36 5, m_ 4 36],
   .ret]⟩
def disk_Disk_settle.R0 (C : CallF) (N : Nat) := round (evalC C N disk_Disk_settle.L0) [0, 1, 5, 11, 12, 13] [0, 5] [4]
def disk_Disk_settle.K0 (C : CallF) (N : Nat) : Ex → St → R := contC C N [.snd, .snd, .fst, .snd, .blk] disk_Disk_settle.a.body (finish disk_Disk_settle.a)
def law14_lives_1.pol : Pol := { pure := [60], heap := [999999], ro := roList }
def law14_lives_1.a : AFun := ⟨4, [],
  sq [r_ [m_ 5 0, i_ 6 (.call 62 [(x_ 5), (c_ (.string ⟨#[]⟩))] [.ag]), u_ (.store 2 none (x_ 1) (x_ 6))],
   r_ [m_ 7 0, i_ 8 (.callP 60 [(c_ (.string ⟨#[97, 98]⟩)), (n_ 1000)] [.str]), i_ 9 (.call 62 [(x_ 7), (x_ 8)] [.ag]), u_ (.store 2 none (x_ 2) (x_ 9))],
   r_ [m_ 10 0, i_ 11 (.load [ix, ix] true none (x_ 2)), i_ 12 (.call 68 [(x_ 10), (x_ 11)] [.str]), u_ (.store 1 none (x_ 3) (x_ 12))]]⟩
def law14_lives_2.pol : Pol := { heap := [999999], ro := roList }
def law14_lives_2.a : AFun := ⟨4, [],
  sq [r_ [m_ 5 0, i_ 6 (.load [ix, ix] true none (x_ 1)), i_ 7 (.call 67 [(x_ 5), (x_ 6)] [.any]), u_ (.store 1 none (x_ 2) (x_ 7))],
   r_ [m_ 8 0, i_ 9 (.load [ix, ix] true none (x_ 1)), i_ 10 (.call 64 [(x_ 8), (x_ 9)] [])],
   r_ [m_ 11 0, i_ 12 (.callR 27 [(x_ 11)] [ix]), u_ (.store 1 none (x_ 3) (x_ 12))]]⟩
def law14_lives_3.pol : Pol := { heap := [999999], ro := roList }
def law14_lives_3.a : AFun := ⟨2, [],
  r_ [m_ 3 0, i_ 4 (.load [ix, ix] true none (x_ 1)), i_ 5 (.call 68 [(x_ 3), (x_ 4)] [.str])]⟩
def ref10_Same.pol : Pol := { heap := [999999], ro := roList, rs := [4], live := [([0, 1, 5], [])] }
def ref10_Same.L0 : ACode :=
  sq [sq [r_ [m_ 11 5, m_ 12 0, i_ 13 (.lenL (x_ 12)), i_ 14 (.bin .lss (x_ 11) (x_ 13))],
    if_ 14 (.skip) (.exit 0)],
   .block 1 (sq [d_ [m_ 17 0, m_ 18 5, i_ 19 (.indexAddrS 1 (x_ 17) (x_ 18)), i_ 20 (.load [ix] false none (x_ 19)), m_ 21 1, m_ 22 5, i_ 23 (.indexAddrS 1 (x_ 21) (x_ 22)), i_ 24 (.load [ix] false none (x_ 23)), i_ 25 (.bin .neq (x_ 20) (x_ 24))],
     if_ 25 (sq [r_ [i_ 4 (.mov F_)],
       .ret]) (.skip)]),
   r_ [m_ 15 5, i_ 16 (.bin .add (x_ 15) (n_ 1)), m_ 5 16]]
def ref10_Same.a : AFun := ⟨2, [.tmp 4],
  sq [r_ [i_ 4 (.mov F_)],
   sq [r_ [m_ 6 0, i_ 7 (.lenL (x_ 6)), m_ 8 1, i_ 9 (.lenL (x_ 8)), i_ 10 (.bin .neq (x_ 7) (x_ 9))],
    if_ 10 (sq [r_ [i_ 4 (.mov F_)],
      .ret]) (.skip)],
   sq [r_ [i_ 5 (.mov (n_ 0))],
    .block 0 (.loop [0, 1, 5] [] [4] ref10_Same.L0)],
   r_ [i_ 4 (.mov T_)],
   .ret]⟩
def ref10_Same.R0 (C : CallF) (N : Nat) := round (evalC C N ref10_Same.L0) [0, 1, 5] [] [4]
def ref10_Same.K0 (C : CallF) (N : Nat) : Ex → St → R := contC C N [.snd, .snd, .fst, .snd, .blk] ref10_Same.a.body (finish ref10_Same.a)
def octets_Cut.pol : Pol := { glob := [2, 3], heap := [999999], ro := roList, rs := [4], live := [([2, 3, 5, 6], [5])] }
def octets_Cut.L0 : ACode :=
  sq [sq [r_ [i_ 8 (.load [ix] false none (x_ 3)), i_ 9 (.bin .gtr (x_ 8) (n_ 0)), m_ 10 9, g_ 10 11 (.load [.str] false none (x_ 2)), g_ 10 12 (.bin .neq (x_ 11) (c_ (.string ⟨#[]⟩))), i_ 13 (.pick (x_ 10) (x_ 12) F_)],
    if_ 13 (.skip) (.exit 0)],
   .block 1 (r_ [m_ 14 5, m_ 15 6, i_ 16 (.callV (x_ 15) [] [.str]), i_ 17 (.buildG 1 [(x_ 16)]), i_ 18 (.appendH none 1 16 (x_ 14) (x_ 17)), m_ 5 18])]
def octets_Cut.a : AFun := ⟨2, [.tmp 4],
  sq [r_ [i_ 2 (.boxG (x_ 0)), i_ 3 (.boxG (x_ 1)), i_ 4 (.nilS 1)],
   r_ [i_ 5 (.nilS 1)],
   r_ [i_ 7 (.makeFunc 268 [] [(x_ 3), (x_ 2)]), m_ 6 7],
   .block 0 (.loop [2, 3, 5, 6] [5] [4] octets_Cut.L0),
   r_ [m_ 19 5, m_ 4 19],
   .ret]⟩
def octets_Cut.R0 (C : CallF) (N : Nat) := round (evalC C N octets_Cut.L0) [2, 3, 5, 6] [5] [4]
def octets_Cut.K0 (C : CallF) (N : Nat) : Ex → St → R := contC C N [.snd, .snd, .snd, .fst, .blk] octets_Cut.a.body (finish octets_Cut.a)
def blob_page.pol : Pol := { pure := [126, 194], heap := [999999], ro := roList, rs := [4] }
def blob_page.a : AFun := ⟨2, [.tmp 4],
  sq [r_ [i_ 4 (.mov (c_ (.string ⟨#[]⟩)))],
   r_ [m_ 5 0, i_ 6 (.convI .u64 (x_ 5)), i_ 7 (.callP 194 [(n_ 2), (x_ 6)] [.str]), m_ 8 1, i_ 9 (.lenS (x_ 8)), i_ 10 (.convI .u64 (x_ 9)), i_ 11 (.callP 194 [(n_ 2), (x_ 10)] [.str]), i_ 12 (.bin .add (x_ 7) (x_ 11)), m_ 13 1, i_ 14 (.bin .add (x_ 12) (x_ 13)), i_ 15 (.callP 126 [(x_ 14), (n_ 480)] [.str]), m_ 4 15],
   .ret]⟩
def blob_parts.pol : Pol := { glob := [2, 3], heap := [999999], ro := roList, rs := [4] }
def blob_parts.a : AFun := ⟨2, [.tmp 4],
  sq [r_ [i_ 2 (.boxG (x_ 0)), i_ 3 (.boxG (x_ 1)), i_ 4 (.mov (c_ .nilFunc))],
   r_ [i_ 5 (.makeFunc 269 [] [(x_ 3), (x_ 2)]), m_ 4 5],
   .ret]⟩
def strings_Builder_WriteString.pol : Pol := { heap := [999999], ro := roList, typed := [5], rs := [4, 5] }
def strings_Builder_WriteString.a : AFun := ⟨2, [.tmp 4, .tmp 5],
  sq [r_ [i_ 4 (.mov (n_ 0)), i_ 5 (.mov (c_ .nilIface))],
   r_ [m_ 6 0, i_ 7 (.call 271 [(x_ 6)] [])],
   r_ [m_ 8 0, m_ 9 0, i_ 10 (.nilCk (x_ 9)), i_ 11 (.addr 1 (x_ 10)), i_ 12 (.load [.sl 1] false none (x_ 11)), m_ 13 1, i_ 14 (.appendH (some 5) 1 1 (x_ 12) (x_ 13)), i_ 15 (.nilCk (x_ 8)), i_ 16 (.addr 1 (x_ 15)), u_ (.store 1 none (x_ 16) (x_ 14))],
   r_ [m_ 17 1, i_ 18 (.lenS (x_ 17)), m_ 4 18, i_ 5 (.mov (c_ .nilIface))],
   .ret]⟩
def octets_Open.pol : Pol := { glob := [5], heap := [999999], ro := roList, rs := [2] }
def octets_Open.a : AFun := ⟨1, [.tmp 2],
  sq [r_ [i_ 2 (.mov (c_ (.pointer none)))],
   r_ [m_ 3 0, i_ 4 (.build [(.at (.string ⟨#[]⟩)), (.at (.int .i64 0))] [(0, 1, (x_ 3))]), i_ 5 (.boxG (x_ 4)), m_ 2 5],
   .ret]⟩
def octets_Reader_Num.pol : Pol := { pure := [277], heap := [999999], ro := roList, root := [(14, 14), (18, 14)], rs := [4], live := [([5, 14, 15, 16], [5])] }
def octets_Reader_Num.L0 : ACode :=
  sq [r_ [i_ 17 (.bin .lss (x_ 16) (x_ 15))],
   if_ 17 (.skip) (.exit 0),
   .block 1 (sq [r_ [i_ 18 (.indexAddrS 1 (x_ 14) (x_ 16)), i_ 19 (.load [.int .u8] false (some 14) (x_ 18)), m_ 7 19],
     r_ [m_ 20 5, i_ 21 (.bin .shl (x_ 20) (k_ .u64 8)), m_ 22 7, i_ 23 (.convI .u64 (x_ 22)), i_ 24 (.bin .or (x_ 21) (x_ 23)), m_ 5 24]]),
   r_ [i_ 25 (.bin .add (x_ 16) (n_ 1)), m_ 16 25]]
def octets_Reader_Num.a : AFun := ⟨2, [.tmp 4],
  sq [r_ [i_ 4 (.mov (k_ .u64 0))],
   sq [r_ [m_ 8 1, i_ 9 (.callP 277 [(x_ 8)] [.bool]), i_ 10 (.un .not (x_ 9))],
    if_ 10 (r_ [i_ 1 (.mov (n_ (-1)))]) (.skip)],
   r_ [i_ 5 (.mov (k_ .u64 0))],
   sq [r_ [m_ 11 0, m_ 12 1, i_ 13 (.call 278 [(x_ 11), (x_ 12)] [.str]), i_ 14 (.toBytes (x_ 13)), i_ 15 (.lenL (x_ 14)), i_ 16 (.mov (n_ 0))],
    .block 0 (.loop [5, 14, 15, 16] [5] [4] octets_Reader_Num.L0)],
   r_ [m_ 26 5, m_ 4 26],
   .ret]⟩
def octets_Reader_Num.R0 (C : CallF) (N : Nat) := round (evalC C N octets_Reader_Num.L0) [5, 14, 15, 16] [5] [4]
def octets_Reader_Num.K0 (C : CallF) (N : Nat) : Ex → St → R := contC C N [.snd, .snd, .snd, .fst, .snd, .blk] octets_Reader_Num.a.body (finish octets_Reader_Num.a)
def octets_Num.pol : Pol := { glob := [5], pure := [277], heap := [999999], ro := roList, rs := [4], live := [([0, 1, 5, 10, 11], [0, 5])] }
def octets_Num.L0 : ACode :=
  sq [r_ [i_ 12 (.bin .lss (x_ 11) (x_ 10))],
   if_ 12 (.skip) (.exit 0),
   .block 1 (sq [r_ [m_ 13 11, m_ 6 13],
     r_ [m_ 14 0, i_ 15 (.bin .sub (x_ 14) (n_ 1)), m_ 16 6, i_ 17 (.bin .sub (x_ 15) (x_ 16)), m_ 18 1, m_ 19 6, i_ 20 (.bin .mul (n_ 8) (x_ 19)), i_ 21 (.bin .shr (x_ 18) (x_ 20)), i_ 22 (.convI .u8 (x_ 21)), i_ 23 (.indexAddrA 8 1 (x_ 5) (x_ 17)), u_ (.store 1 none (x_ 23) (x_ 22))]]),
   r_ [i_ 24 (.bin .add (x_ 11) (n_ 1)), m_ 11 24]]
def octets_Num.a : AFun := ⟨2, [.tmp 4],
  sq [r_ [i_ 4 (.mov (c_ (.string ⟨#[]⟩)))],
   sq [r_ [m_ 7 0, i_ 8 (.callP 277 [(x_ 7)] [.bool]), i_ 9 (.un .not (x_ 8))],
    if_ 9 (sq [r_ [i_ 4 (.mov (c_ (.string ⟨#[]⟩)))],
      .ret]) (.skip)],
   r_ [i_ 5 (.allocG none [(.at (.int .u8 0)), (.at (.int .u8 0)), (.at (.int .u8 0)), (.at (.int .u8 0)), (.at (.int .u8 0)), (.at (.int .u8 0)), (.at (.int .u8 0)), (.at (.int .u8 0))])],
   sq [r_ [m_ 10 0, i_ 11 (.mov (n_ 0))],
    .block 0 (.loop [0, 1, 5, 10, 11] [0, 5] [4] octets_Num.L0)],
   r_ [m_ 25 0, i_ 26 (.sliceA 8 1 none (x_ 5) none (some (x_ 25))), i_ 27 (.toStrG (x_ 26)), m_ 4 27],
   .ret]⟩
def octets_Num.R0 (C : CallF) (N : Nat) := round (evalC C N octets_Num.L0) [0, 1, 5, 10, 11] [0, 5] [4]
def octets_Num.K0 (C : CallF) (N : Nat) : Ex → St → R := contC C N [.snd, .snd, .snd, .fst, .snd, .blk] octets_Num.a.body (finish octets_Num.a)
def maps_Keys_map_intstring_int_string.pol : Pol := { glob := [1], heap := [999999], ro := roList, rs := [2] }
def maps_Keys_map_intstring_int_string.a : AFun := ⟨1, [.tmp 2],
  sq [r_ [i_ 1 (.boxG (x_ 0)), i_ 2 (.mov (c_ .nilFunc))],
   r_ [i_ 3 (.makeFunc 320 [] [(x_ 1)]), m_ 2 3],
   .ret]⟩
def bitmap_Lowest.pol : Pol := { pure := [321, 322], heap := [999999], gret := [322], ro := roList, rs := [8, 9] }
def bitmap_Lowest.a : AFun := ⟨4, [.tmp 8, .tmp 9],
  sq [r_ [i_ 8 (.nilS 1), i_ 9 (.mov (n_ 0))],
   sq [r_ [m_ 11 0, m_ 12 1, m_ 13 2, i_ 14 (.callP 321 [(x_ 11), (x_ 12), (x_ 13)] [.bool]), i_ 15 (.un .not (x_ 14)), m_ 16 15, hm_ 16 17 3, h_ 16 18 (.bin .lss (x_ 17) (n_ 0)), i_ 19 (.pick (x_ 16) T_ (x_ 18))],
    if_ 19 (sq [r_ [i_ 8 (.nilS 1), i_ 9 (.mov (n_ 18))],
      .ret]) (.skip)],
   r_ [m_ 20 0, m_ 21 1, m_ 22 2, m_ 23 3, i_ 24 (.callD 322 [(x_ 20), (x_ 21), (x_ 22), (x_ 23)] [.sl 1]), m_ 10 24],
   sq [r_ [m_ 25 10, i_ 26 (.lenL (x_ 25)), m_ 27 3, i_ 28 (.bin .lss (x_ 26) (x_ 27))],
    if_ 28 (sq [r_ [i_ 8 (.nilS 1), i_ 9 (.mov (n_ 13))],
      .ret]) (.skip)],
   r_ [m_ 29 10, m_ 8 29, i_ 9 (.mov (n_ 0))],
   .ret]⟩
def bitmap_turn.pol : Pol := { glob := [3, 5], pure := [231, 325], heap := [999999], ro := roList, rs := [6, 7], live := [([3, 5, 8, 13, 14, 15], [3])] }
def bitmap_turn.L0 : ACode :=
  sq [r_ [i_ 16 (.bin .lss (x_ 15) (x_ 14))],
   if_ 16 (.skip) (.exit 0),
   .block 1 (sq [r_ [i_ 17 (.indexAddrS 1 (x_ 13) (x_ 15)), i_ 18 (.load [ix] false none (x_ 17)), m_ 10 18],
     sq [r_ [m_ 19 8, m_ 20 10, i_ 21 (.callV (x_ 19) [(x_ 20)] [.bool])],
      if_ 21 (sq [r_ [i_ 6 (.mov (c_ (.string ⟨#[]⟩))), i_ 7 (.mov (n_ 18))],
        .ret]) (.skip)],
     r_ [i_ 11 (.mov (n_ 0))],
     r_ [i_ 23 (.load [.str] false none (x_ 3)), m_ 24 10, i_ 25 (.load [.bool] false none (x_ 5)), i_ 26 (.callP 325 [(x_ 23), (x_ 24), (x_ 25)] [.str, ix]), m_ 22 26, i_ 27 (.extract (x_ 22) 0), i_ 28 (.extract (x_ 22) 1), u_ (.store 1 none (x_ 3) (x_ 27)), m_ 11 28],
     r_ [m_ 29 11, i_ 30 (.bin .neq (x_ 29) (n_ 0))],
     if_ 30 (sq [r_ [m_ 31 11, i_ 6 (.mov (c_ (.string ⟨#[]⟩))), m_ 7 31],
       .ret]) (.skip)]),
   r_ [i_ 32 (.bin .add (x_ 15) (n_ 1)), m_ 15 32]]
def bitmap_turn.a : AFun := ⟨3, [.tmp 6, .tmp 7],
  sq [r_ [i_ 3 (.boxG (x_ 0)), i_ 5 (.boxG (x_ 2)), i_ 6 (.mov (c_ (.string ⟨#[]⟩))), i_ 7 (.mov (n_ 0))],
   r_ [i_ 12 (.makeFunc 323 [] [(x_ 3), (x_ 5)]), m_ 8 12],
   sq [r_ [m_ 13 1, i_ 14 (.lenL (x_ 13)), i_ 15 (.mov (n_ 0))],
    .block 0 (.loop [3, 5, 8, 13, 14, 15] [3] [6, 7] bitmap_turn.L0)],
   sq [r_ [i_ 33 (.load [.str] false none (x_ 3)), i_ 34 (.callP 231 [(x_ 33)] [.bool]), i_ 35 (.un .not (x_ 34))],
    if_ 35 (sq [r_ [i_ 6 (.mov (c_ (.string ⟨#[]⟩))), i_ 7 (.mov (n_ 18))],
      .ret]) (.skip)],
   r_ [i_ 36 (.load [.str] false none (x_ 3)), m_ 6 36, i_ 7 (.mov (n_ 0))],
   .ret]⟩
def bitmap_turn.R0 (C : CallF) (N : Nat) := round (evalC C N bitmap_turn.L0) [3, 5, 8, 13, 14, 15] [3] [6, 7]
def bitmap_turn.K0 (C : CallF) (N : Nat) : Ex → St → R := contC C N [.snd, .snd, .fst, .snd, .blk] bitmap_turn.a.body (finish bitmap_turn.a)
def bitmap_is.pol : Pol := { heap := [999999], ro := roList, rs := [2] }
def bitmap_is.a : AFun := ⟨1, [.tmp 2],
  sq [r_ [i_ 2 (.mov F_)],
   r_ [m_ 3 0, i_ 4 (.lenS (x_ 3)), i_ 5 (.bin .eql (x_ 4) (n_ 480)), m_ 2 5],
   .ret]⟩
def math_bits_OnesCount8.pol : Pol := { heap := [999999], ro := roList, rs := [2] }
def math_bits_OnesCount8.a : AFun := ⟨1, [.tmp 2],
  sq [r_ [i_ 2 (.mov (n_ 0))],
   r_ [m_ 3 0, i_ 4 (.indexS (c_ (.string ⟨#[0, 1, 1, 2, 1, 2, 2, 3, 1, 2, 2, 3, 2, 3, 3, 4, 1, 2, 2, 3, 2, 3, 3, 4, 2, 3, 3, 4, 3, 4, 4, 5, 1, 2, 2, 3, 2, 3, 3, 4, 2, 3, 3, 4, 3, 4, 4, 5, 2, 3, 3, 4, 3, 4, 4, 5, 3, 4, 4, 5, 4, 5, 5, 6, 1, 2, 2, 3, 2, 3, 3, 4, 2, 3, 3, 4, 3, 4, 4, 5, 2, 3, 3, 4, 3, 4, 4, 5, 3, 4, 4, 5, 4, 5, 5, 6, 2, 3, 3, 4, 3, 4, 4, 5, 3, 4, 4, 5, 4, 5, 5, 6, 3, 4, 4, 5, 4, 5, 5, 6, 4, 5, 5, 6, 5, 6, 6, 7, 1, 2, 2, 3, 2, 3, 3, 4, 2, 3, 3, 4, 3, 4, 4, 5, 2, 3, 3, 4, 3, 4, 4, 5, 3, 4, 4, 5, 4, 5, 5, 6, 2, 3, 3, 4, 3, 4, 4, 5, 3, 4, 4, 5, 4, 5, 5, 6, 3, 4, 4, 5, 4, 5, 5, 6, 4, 5, 5, 6, 5, 6, 6, 7, 2, 3, 3, 4, 3, 4, 4, 5, 3, 4, 4, 5, 4, 5, 5, 6, 3, 4, 4, 5, 4, 5, 5, 6, 4, 5, 5, 6, 5, 6, 6, 7, 3, 4, 4, 5, 4, 5, 5, 6, 4, 5, 5, 6, 5, 6, 6, 7, 4, 5, 5, 6, 5, 6, 6, 7, 5, 6, 6, 7, 6, 7, 7, 8]⟩)) (x_ 3)), i_ 5 (.convI .i64 (x_ 4)), m_ 2 5],
   .ret]⟩
def bitmap_Used.pol : Pol := { pure := [231, 324], heap := [999999], ro := roList, rs := [4] }
def bitmap_Used.a : AFun := ⟨2, [.tmp 4],
  sq [r_ [i_ 4 (.mov F_)],
   r_ [m_ 5 0, i_ 6 (.callP 231 [(x_ 5)] [.bool]), m_ 7 6, gm_ 7 8 1, g_ 7 9 (.callP 324 [(x_ 8)] [.bool]), i_ 10 (.pick (x_ 7) (x_ 9) F_), m_ 11 10, gm_ 11 12 0, gm_ 11 13 1, g_ 11 14 (.bin .quo (x_ 13) (n_ 8)), g_ 11 15 (.indexS (x_ 12) (x_ 14)), gm_ 11 16 1, g_ 11 17 (.bin .rem (x_ 16) (n_ 8)), g_ 11 18 (.bin .shr (x_ 15) (x_ 17)), g_ 11 19 (.bin .and (x_ 18) (k_ .u8 1)), g_ 11 20 (.bin .eql (x_ 19) (k_ .u8 1)), i_ 21 (.pick (x_ 11) (x_ 20) F_), m_ 4 21],
   .ret]⟩
def disk_Disk_has.pol : Pol := { heap := [999999], ro := roList, rs := [4] }
def disk_Disk_has.a : AFun := ⟨2, [.tmp 4],
  sq [r_ [i_ 4 (.mov F_)],
   r_ [m_ 5 1, i_ 6 (.bin .geq (x_ 5) (n_ 0)), m_ 7 6, gm_ 7 8 1, gm_ 7 9 0, g_ 7 10 (.callR 129 [(x_ 9)] [ix]), g_ 7 11 (.bin .lss (x_ 8) (x_ 10)), i_ 12 (.pick (x_ 7) (x_ 11) F_), m_ 4 12],
   .ret]⟩
def disk_Disk_step.pol : Pol := { heap := [999999], ro := roList, rs := [2] }
def disk_Disk_step.a : AFun := ⟨1, [.tmp 2],
  sq [r_ [i_ 2 (.mov (n_ 0))],
   sq [r_ [m_ 3 0, i_ 4 (.nilCk (x_ 3)), i_ 5 (.addr 3 (x_ 4)), i_ 6 (.load [.bool] false none (x_ 5)), m_ 7 6, hm_ 7 8 0, h_ 7 9 (.nilCk (x_ 8)), h_ 7 10 (.addr 2 (x_ 9)), h_ 7 11 (.load [ix] false none (x_ 10)), h_ 7 12 (.bin .eql (x_ 11) (n_ 1)), i_ 13 (.pick (x_ 7) T_ (x_ 12))],
    if_ 13 (sq [r_ [m_ 14 0, m_ 15 0, i_ 16 (.nilCk (x_ 14)), i_ 17 (.addr 3 (x_ 16)), u_ (.store 1 none (x_ 17) T_), i_ 18 (.nilCk (x_ 15)), i_ 19 (.addr 2 (x_ 18)), u_ (.store 1 none (x_ 19) (n_ 0))],
      r_ [i_ 2 (.mov (n_ 17))],
      .ret]) (.skip)],
   r_ [m_ 20 0, m_ 21 0, i_ 22 (.nilCk (x_ 21)), i_ 23 (.addr 2 (x_ 22)), i_ 24 (.load [ix] false none (x_ 23)), i_ 25 (.bin .sub (x_ 24) (n_ 1)), i_ 26 (.minmax true [(x_ 25), (n_ 0)]), i_ 27 (.nilCk (x_ 20)), i_ 28 (.addr 2 (x_ 27)), u_ (.store 1 none (x_ 28) (x_ 26))],
   r_ [m_ 29 0, i_ 30 (.nilCk (x_ 29)), i_ 31 (.addr 4 (x_ 30)), i_ 32 (.load [ix] false none (x_ 31)), i_ 33 (.bin .add (x_ 32) (n_ 1)), i_ 34 (.nilCk (x_ 29)), i_ 35 (.addr 4 (x_ 34)), u_ (.store 1 none (x_ 35) (x_ 33))],
   r_ [i_ 2 (.mov (n_ 0))],
   .ret]⟩
def disk_Disk_Flush_1.pol : Pol := { heap := [999999], ro := roList, rs := [2] }
def disk_Disk_Flush_1.a : AFun := ⟨1, [.tmp 2],
  sq [r_ [i_ 2 (.mov F_)],
   r_ [i_ 2 (.mov T_)],
   .ret]⟩
def pages_head.pol : Pol := { pure := [126, 328], heap := [999999], ro := roList, rs := [6, 7] }
def pages_head.a : AFun := ⟨3, [.tmp 6, .tmp 7],
  sq [r_ [i_ 6 (.mov (c_ (.string ⟨#[]⟩))), i_ 7 (.mov (n_ 0))],
   r_ [m_ 8 2, m_ 9 0, m_ 10 1, i_ 11 (.callP 126 [(c_ (.string ⟨#[]⟩)), (n_ 480)] [.str]), i_ 12 (.build [(.at (.int .i64 0)), (.at (.int .u64 0)), (.at (.int .u64 0)), (.at (.int .i64 0)), (.at (.int .i64 0)), (.at (.string ⟨#[]⟩))] [(0, 1, (n_ 1)), (1, 1, (x_ 8)), (3, 1, (x_ 9)), (4, 1, (x_ 10)), (5, 1, (x_ 11))]), i_ 13 (.callP 328 [(x_ 12)] [.str, ix]), i_ 14 (.extract (x_ 13) 0), i_ 15 (.extract (x_ 13) 1), m_ 6 14, m_ 7 15],
   .ret]⟩
def journal_Open.pol : Pol := { glob := [28], heap := [999999], ro := roList, rs := [6, 7] }
def journal_Open.a : AFun := ⟨3, [.tmp 6, .tmp 7],
  sq [r_ [i_ 6 (.mov (c_ (.pointer none))), i_ 7 (.mov (n_ 0))],
   sq [r_ [m_ 8 0, i_ 9 (.nilCmp false 1 (x_ 8)), m_ 10 9, hm_ 10 11 1, h_ 10 12 (.bin .lss (x_ 11) (n_ 4)), i_ 13 (.pick (x_ 10) T_ (x_ 12)), m_ 14 13, hm_ 14 15 1, h_ 14 16 (.bin .gtr (x_ 15) (n_ 1024)), i_ 17 (.pick (x_ 14) T_ (x_ 16)), m_ 18 17, hm_ 18 19 0, h_ 18 20 (.callR 129 [(x_ 19)] [ix]), hm_ 18 21 1, h_ 18 22 (.bin .leq (x_ 20) (x_ 21)), i_ 23 (.pick (x_ 18) T_ (x_ 22))],
    if_ 23 (sq [r_ [i_ 6 (.mov (c_ (.pointer none))), i_ 7 (.mov (n_ 18))],
      .ret]) (.skip)],
   r_ [m_ 24 0, m_ 25 1, m_ 26 2, i_ 27 (.build [(.at (.pointer none)), (.at (.int .i64 0)), (.at (.int .u64 0)), (.at (.int .i64 0)), (.at (.int .u64 0))] [(0, 1, (x_ 24)), (1, 1, (x_ 25)), (2, 1, (x_ 26))]), i_ 28 (.boxG (x_ 27)), m_ 6 28, i_ 7 (.mov (n_ 0))],
   .ret]⟩
def pages_Store_home.pol : Pol := { heap := [999999], ro := roList, rs := [4] }
def pages_Store_home.a : AFun := ⟨2, [.tmp 4],
  sq [r_ [i_ 4 (.mov (n_ 0))],
   r_ [m_ 5 0, i_ 6 (.nilCk (x_ 5)), i_ 7 (.addr 1 (x_ 6)), i_ 8 (.load [ix] false none (x_ 7)), i_ 9 (.bin .add (n_ 1) (x_ 8)), m_ 10 1, i_ 11 (.bin .add (x_ 9) (x_ 10)), m_ 4 11],
   .ret]⟩
def maps_Keys_map_intbool_int_bool.pol : Pol := { glob := [1], heap := [999999], ro := roList, rs := [2] }
def maps_Keys_map_intbool_int_bool.a : AFun := ⟨1, [.tmp 2],
  sq [r_ [i_ 1 (.boxG (x_ 0)), i_ 2 (.mov (c_ .nilFunc))],
   r_ [i_ 3 (.makeFunc 331 [] [(x_ 1)]), m_ 2 3],
   .ret]⟩
def sector_Home.pol : Pol := { pure := [131, 328, 332, 333], heap := [999999], ro := roList, root := [(6, 6)], rs := [4, 5] }
def sector_Home.a : AFun := ⟨2, [.tmp 4, .tmp 5],
  sq [r_ [i_ 4 (.mov (c_ (.string ⟨#[]⟩))), i_ 5 (.mov (n_ 0))],
   r_ [m_ 7 0, m_ 8 1, i_ 9 (.build [(.at (.int .i64 0)), (.at (.int .u64 0)), (.at (.int .u64 0)), (.at (.int .i64 0)), (.at (.int .i64 0)), (.at (.string ⟨#[]⟩))] [(0, 1, (n_ 4)), (3, 1, (x_ 7)), (5, 1, (x_ 8))]), i_ 6 (.allocL [(.at (.int .i64 0)), (.at (.int .u64 0)), (.at (.int .u64 0)), (.at (.int .i64 0)), (.at (.int .i64 0)), (.at (.string ⟨#[]⟩))]), u_ (.store 6 (some 6) (x_ 6) (x_ 9))],
   sq [r_ [i_ 10 (.load [ix, .int .u64, .int .u64, ix, ix, .str] true (some 6) (x_ 6)), i_ 11 (.callP 332 [(x_ 10)] [ix]), i_ 12 (.bin .eql (x_ 11) (n_ 0)), m_ 13 12, gm_ 13 14 1, g_ 13 15 (.callP 333 [(x_ 14)] [.bool]), i_ 16 (.pick (x_ 13) (x_ 15) F_)],
    if_ 16 (sq [r_ [i_ 17 (.callP 131 [] [.str]), m_ 4 17, i_ 5 (.mov (n_ 0))],
      .ret]) (.skip)],
   r_ [i_ 18 (.load [ix, .int .u64, .int .u64, ix, ix, .str] true (some 6) (x_ 6)), i_ 19 (.callP 328 [(x_ 18)] [.str, ix]), i_ 20 (.extract (x_ 19) 0), i_ 21 (.extract (x_ 19) 1), m_ 4 20, m_ 5 21],
   .ret]⟩
def journal_page.pol : Pol := { heap := [999999], ro := roList, rs := [2] }
def journal_page.a : AFun := ⟨1, [.tmp 2],
  sq [r_ [i_ 2 (.mov F_)],
   r_ [m_ 3 0, i_ 4 (.bin .geq (x_ 3) (n_ 0)), m_ 5 4, gm_ 5 6 0, g_ 5 7 (.bin .lss (x_ 6) (n_ 3840)), i_ 8 (.pick (x_ 5) (x_ 7) F_), m_ 2 8],
   .ret]⟩
def slices_ContainsFunc_journal_Image_journal_Image.pol : Pol := { heap := [999999], ro := roList, rs := [4] }
def slices_ContainsFunc_journal_Image_journal_Image.a : AFun := ⟨2, [.tmp 4],
  sq [r_ [i_ 4 (.mov F_)],
   r_ [m_ 5 0, m_ 6 1, i_ 7 (.call 334 [(x_ 5), (x_ 6)] [ix]), i_ 8 (.bin .geq (x_ 7) (n_ 0)), m_ 4 8],
   .ret]⟩
def pages_Store_has_1.pol : Pol := { heap := [999999], ro := roList, root := [(2, 2), (4, 2)], rs := [3] }
def pages_Store_has_1.a : AFun := ⟨2, [.tmp 3],
  sq [r_ [i_ 2 (.boxL (x_ 0)), i_ 3 (.mov F_)],
   d_ [i_ 4 (.addr 0 (x_ 2)), i_ 5 (.load [ix] false (some 2) (x_ 4)), i_ 6 (.load [.any] false none (x_ 1)), i_ 7 (.nilCk (x_ 6)), i_ 8 (.addr 2 (x_ 7)), i_ 9 (.load [.sl 1] false none (x_ 8)), i_ 10 (.lenL (x_ 9)), i_ 11 (.bin .geq (x_ 5) (x_ 10)), m_ 3 11],
   .ret]⟩
def journal_Journal_write.pol : Pol := { pure := [328], heap := [999999], ro := roList, root := [(5, 5), (18, 5), (19, 5)], rs := [6] }
def journal_Journal_write.a : AFun := ⟨3, [.tmp 6],
  sq [r_ [i_ 5 (.boxL (x_ 2)), i_ 6 (.mov (n_ 0))],
   d_ [m_ 9 0, i_ 10 (.nilCk (x_ 9)), i_ 11 (.addr 2 (x_ 10)), i_ 12 (.load [.int .u64] false none (x_ 11)), m_ 13 0, i_ 14 (.nilCk (x_ 13)), i_ 15 (.addr 4 (x_ 14)), i_ 16 (.load [.int .u64] false none (x_ 15)), i_ 17 (.bin .add (x_ 16) (k_ .u64 1)), i_ 18 (.addr 1 (x_ 5)), u_ (.store 1 (some 5) (x_ 18) (x_ 12)), i_ 19 (.addr 2 (x_ 5)), u_ (.store 1 (some 5) (x_ 19) (x_ 17))],
   r_ [i_ 21 (.load [ix, .int .u64, .int .u64, ix, ix, .str] true (some 5) (x_ 5)), i_ 22 (.callP 328 [(x_ 21)] [.str, ix]), m_ 20 22, i_ 23 (.extract (x_ 20) 0), i_ 24 (.extract (x_ 20) 1), m_ 7 23, m_ 8 24],
   sq [r_ [m_ 25 8, i_ 26 (.bin .neq (x_ 25) (n_ 0))],
    if_ 26 (sq [r_ [m_ 27 8, m_ 6 27],
      .ret]) (.skip)],
   d_ [m_ 28 0, i_ 29 (.nilCk (x_ 28)), i_ 30 (.addr 0 (x_ 29)), i_ 31 (.load [.any] false none (x_ 30)), m_ 32 0, i_ 33 (.nilCk (x_ 32)), i_ 34 (.addr 3 (x_ 33)), i_ 35 (.load [ix] false none (x_ 34)), i_ 36 (.bin .add (n_ 1) (x_ 35)), m_ 37 1, i_ 38 (.bin .add (x_ 36) (x_ 37)), m_ 39 7, i_ 40 (.call 130 [(x_ 31), (x_ 38), (x_ 39)] [ix]), m_ 6 40],
   .ret]⟩
def math_bits_Mul.pol : Pol := { pure := [335, 336], heap := [999999], ro := roList, rs := [4, 5] }
def math_bits_Mul.a : AFun := ⟨2, [.tmp 4, .tmp 5],
  sq [r_ [i_ 4 (.mov (k_ .u64 0)), i_ 5 (.mov (k_ .u64 0))],
   .cond F_ (sq [r_ [m_ 11 0, i_ 12 (.convI .u32 (x_ 11)), m_ 13 1, i_ 14 (.convI .u32 (x_ 13)), i_ 15 (.callP 335 [(x_ 12), (x_ 14)] [.int .u32, .int .u32]), m_ 10 15, i_ 16 (.extract (x_ 10) 0), i_ 17 (.extract (x_ 10) 1), m_ 6 16, m_ 7 17],
     r_ [m_ 18 6, i_ 19 (.convI .u64 (x_ 18)), m_ 20 7, i_ 21 (.convI .u64 (x_ 20)), m_ 4 19, m_ 5 21],
     .ret]) (.skip) none,
   r_ [m_ 23 0, m_ 24 1, i_ 25 (.callP 336 [(x_ 23), (x_ 24)] [.int .u64, .int .u64]), m_ 22 25, i_ 26 (.extract (x_ 22) 0), i_ 27 (.extract (x_ 22) 1), m_ 8 26, m_ 9 27],
   r_ [m_ 28 8, m_ 29 9, m_ 4 28, m_ 5 29],
   .ret]⟩
def octets_Cut_1.pol : Pol := { heap := [999999], ro := roList, rs := [2] }
def octets_Cut_1.a : AFun := ⟨2, [.tmp 2],
  sq [r_ [i_ 2 (.mov (c_ (.string ⟨#[]⟩)))],
   r_ [i_ 5 (.load [ix] false none (x_ 0)), i_ 6 (.load [.str] false none (x_ 1)), i_ 7 (.lenS (x_ 6)), i_ 8 (.minmax false [(x_ 5), (x_ 7)]), m_ 3 8],
   r_ [i_ 9 (.load [.str] false none (x_ 1)), m_ 10 3, i_ 11 (.sliceS (x_ 9) none (some (x_ 10))), m_ 4 11],
   r_ [i_ 12 (.load [.str] false none (x_ 1)), m_ 13 3, i_ 14 (.sliceS (x_ 12) (some (x_ 13)) none), u_ (.store 1 none (x_ 1) (x_ 14))],
   r_ [m_ 15 4, m_ 2 15],
   .ret]⟩
def blob_parts_1.pol : Pol := { heap := [999999], ro := roList, live := [([0, 2, 4, 5, 6], [])], jn := [(20, [0, 2, 4, 5, 6]), (51, [0, 2, 4, 5, 6, 7, 8])] }
def blob_parts_1.L0 : ACode :=
  sq [sq [r_ [m_ 15 6, i_ 16 (.bin .neq (x_ 15) (n_ 0)), m_ 17 16, hm_ 17 18 5, h_ 17 19 (.bin .neq (x_ 18) (n_ 0)), i_ 20 (.pick (x_ 17) T_ (x_ 19))],
    ifj_ 20 [0, 2, 4, 5, 6] (.skip) (.exit 0)],
   .block 1 (sq [r_ [i_ 22 (.load [.any] false none (x_ 2)), m_ 23 6, i_ 24 (.call 270 [(x_ 22), (x_ 23)] [.str, ix, .bool]), m_ 21 24, i_ 25 (.extract (x_ 21) 0), i_ 26 (.extract (x_ 21) 1), i_ 27 (.extract (x_ 21) 2), m_ 7 25, m_ 8 26, m_ 9 27],
     r_ [m_ 28 5, m_ 29 7, i_ 30 (.lenS (x_ 29)), i_ 31 (.bin .sub (x_ 28) (x_ 30)), m_ 5 31],
     sq [r_ [m_ 32 9, i_ 33 (.un .not (x_ 32)), m_ 34 33, hm_ 34 35 4, hm_ 34 36 6, h_ 34 37 (.mapGet .i [(.at (.bool false))] false false (x_ 35) (x_ 36)), i_ 38 (.pick (x_ 34) T_ (x_ 37)), m_ 39 38, hm_ 39 40 5, h_ 39 41 (.bin .lss (x_ 40) (n_ 0)), i_ 42 (.pick (x_ 39) T_ (x_ 41)), m_ 43 42, hm_ 43 44 8, h_ 43 45 (.bin .neq (x_ 44) (n_ 0)), hm_ 43 46 45, gm_ 46 47 7, g_ 46 48 (.lenS (x_ 47)), g_ 46 49 (.bin .lss (x_ 48) (n_ 476)), h_ 43 50 (.pick (x_ 46) (x_ 49) F_), i_ 51 (.pick (x_ 43) T_ (x_ 50))],
      ifj_ 51 [0, 2, 4, 5, 6, 7, 8] (r_ [i_ 52 (.load [.any] false none (x_ 2)), i_ 53 (.callR 26 [(x_ 52), (n_ 19)] [])]) (.skip)],
     r_ [m_ 54 4, m_ 55 6, u_ (.mapSet .i (x_ 54) (x_ 55) T_)],
     sq [r_ [m_ 56 0, m_ 57 6, m_ 58 7, i_ 59 (.callV (x_ 56) [(x_ 57), (x_ 58)] [.bool]), i_ 60 (.un .not (x_ 59))],
      if_ 60 (.ret) (.skip)],
     r_ [m_ 61 8, m_ 6 61]])]
def blob_parts_1.a : AFun := ⟨3, [],
  sq [r_ [i_ 10 (.mkMap), m_ 4 10],
   r_ [i_ 11 (.addr 1 (x_ 1)), i_ 12 (.load [ix] false none (x_ 11)), m_ 5 12],
   r_ [i_ 13 (.addr 0 (x_ 1)), i_ 14 (.load [ix] false none (x_ 13)), m_ 6 14],
   .block 0 (.loop [0, 2, 4, 5, 6] [] [] blob_parts_1.L0)]⟩
def blob_parts_1.R0 (C : CallF) (N : Nat) := round (evalC C N blob_parts_1.L0) [0, 2, 4, 5, 6] [] []
def blob_parts_1.K0 (C : CallF) (N : Nat) : Ex → St → R := contC C N [.snd, .snd, .snd, .blk] blob_parts_1.a.body (finish blob_parts_1.a)
def blob_parts_1.J20 (C : CallF) (N : Nat) (k : Ex → St → R) : St → R := contC C N [.fst, .snd] blob_parts_1.L0 (rndK [0, 2, 4, 5, 6] [] [] k) .normal
def blob_parts_1.J51 (C : CallF) (N : Nat) (k : Ex → St → R) : St → R := contC C N [.snd, .blk, .snd, .snd, .fst, .snd] blob_parts_1.L0 (rndK [0, 2, 4, 5, 6] [] [] k) .normal
def blob_part.pol : Pol := { pure := [171, 233], heap := [999999], ro := roList, rs := [4, 5, 6] }
def blob_part.a : AFun := ⟨2, [.tmp 4, .tmp 5, .tmp 6],
  sq [r_ [i_ 4 (.mov (c_ (.string ⟨#[]⟩))), i_ 5 (.mov (n_ 0)), i_ 6 (.mov F_)],
   sq [r_ [m_ 12 1, i_ 13 (.bin .lss (x_ 12) (n_ 2)), m_ 14 13, hm_ 14 15 1, hm_ 14 16 0, h_ 14 17 (.callR 123 [(x_ 16)] [ix]), h_ 14 18 (.bin .geq (x_ 15) (x_ 17)), i_ 19 (.pick (x_ 14) T_ (x_ 18)), m_ 20 19, hm_ 20 21 0, h_ 20 22 (.callR 23 [(x_ 21), (n_ 1)] [.str]), hm_ 20 23 1, h_ 20 24 (.callP 233 [(x_ 22), (x_ 23)] [.bool]), h_ 20 25 (.un .not (x_ 24)), i_ 26 (.pick (x_ 20) T_ (x_ 25))],
    if_ 26 (sq [r_ [i_ 4 (.mov (c_ (.string ⟨#[]⟩))), i_ 5 (.mov (n_ 0)), i_ 6 (.mov F_)],
      .ret]) (.skip)],
   r_ [m_ 27 0, m_ 28 1, i_ 29 (.callR 23 [(x_ 27), (x_ 28)] [.str]), m_ 7 29],
   r_ [m_ 30 7, i_ 31 (.call 186 [(x_ 30)] [.any]), m_ 8 31],
   r_ [m_ 32 8, i_ 33 (.call 187 [(x_ 32), (n_ 2)] [.int .u64]), i_ 34 (.convI .i64 (x_ 33)), m_ 35 8, i_ 36 (.call 187 [(x_ 35), (n_ 2)] [.int .u64]), i_ 37 (.convI .i64 (x_ 36)), m_ 9 34, m_ 10 37],
   r_ [m_ 38 8, m_ 39 10, i_ 40 (.minmax false [(x_ 39), (n_ 476)]), i_ 41 (.call 278 [(x_ 38), (x_ 40)] [.str]), m_ 11 41],
   r_ [m_ 42 11, m_ 43 9, m_ 44 10, i_ 45 (.bin .gtr (x_ 44) (n_ 0)), m_ 46 45, gm_ 46 47 7, gm_ 46 48 9, gm_ 46 49 11, g_ 46 50 (.callP 171 [(x_ 48), (x_ 49)] [.str]), g_ 46 51 (.bin .eql (x_ 47) (x_ 50)), i_ 52 (.pick (x_ 46) (x_ 51) F_), m_ 4 42, m_ 5 43, m_ 6 52],
   .ret]⟩
def octets_width.pol : Pol := { heap := [999999], ro := roList, rs := [2] }
def octets_width.a : AFun := ⟨1, [.tmp 2],
  sq [r_ [i_ 2 (.mov F_)],
   r_ [m_ 3 0, i_ 4 (.bin .geq (x_ 3) (n_ 1)), m_ 5 4, gm_ 5 6 0, g_ 5 7 (.bin .leq (x_ 6) (n_ 8)), i_ 8 (.pick (x_ 5) (x_ 7) F_), m_ 2 8],
   .ret]⟩
def octets_Reader_Raw.pol : Pol := { heap := [999999], ro := roList, rs := [4] }
def octets_Reader_Raw.a : AFun := ⟨2, [.tmp 4],
  sq [r_ [i_ 4 (.mov (c_ (.string ⟨#[]⟩)))],
   .block 0 (sq [r_ [m_ 7 0, i_ 8 (.nilCmp false 1 (x_ 7)), m_ 9 8, hm_ 9 10 0, h_ 9 11 (.nilCk (x_ 10)), h_ 9 12 (.addr 1 (x_ 11)), h_ 9 13 (.load [ix] false none (x_ 12)), h_ 9 14 (.bin .neq (x_ 13) (n_ 0)), i_ 15 (.pick (x_ 9) T_ (x_ 14)), m_ 6 15],
     if_ 6 (sq [r_ [i_ 4 (.mov (c_ (.string ⟨#[]⟩)))],
       .ret]) (sq [r_ [m_ 17 1, i_ 18 (.bin .lss (x_ 17) (n_ 0)), m_ 16 18],
       if_ 16 (sq [r_ [m_ 19 0, i_ 20 (.call 353 [(x_ 19), (n_ 18)] [.str]), m_ 4 20],
         .ret]) (sq [r_ [m_ 22 1, m_ 23 0, i_ 24 (.nilCk (x_ 23)), i_ 25 (.addr 0 (x_ 24)), i_ 26 (.load [.str] false none (x_ 25)), i_ 27 (.lenS (x_ 26)), i_ 28 (.bin .gtr (x_ 22) (x_ 27)), m_ 21 28],
         if_ 21 (sq [r_ [m_ 29 0, i_ 30 (.call 353 [(x_ 29), (n_ 20)] [.str]), m_ 4 30],
           .ret]) (.skip)])])]),
   r_ [m_ 31 0, i_ 32 (.nilCk (x_ 31)), i_ 33 (.addr 0 (x_ 32)), i_ 34 (.load [.str] false none (x_ 33)), m_ 35 1, i_ 36 (.sliceS (x_ 34) none (some (x_ 35))), m_ 5 36],
   r_ [m_ 37 0, m_ 38 0, i_ 39 (.nilCk (x_ 38)), i_ 40 (.addr 0 (x_ 39)), i_ 41 (.load [.str] false none (x_ 40)), m_ 42 1, i_ 43 (.sliceS (x_ 41) (some (x_ 42)) none), i_ 44 (.nilCk (x_ 37)), i_ 45 (.addr 0 (x_ 44)), u_ (.store 1 none (x_ 45) (x_ 43))],
   r_ [m_ 46 5, m_ 4 46],
   .ret]⟩
def bitmap_within.pol : Pol := { pure := [231], heap := [999999], ro := roList, rs := [6] }
def bitmap_within.a : AFun := ⟨3, [.tmp 6],
  sq [r_ [i_ 6 (.mov F_)],
   r_ [m_ 7 0, i_ 8 (.callP 231 [(x_ 7)] [.bool]), m_ 9 8, gm_ 9 10 1, g_ 9 11 (.bin .geq (x_ 10) (n_ 0)), i_ 12 (.pick (x_ 9) (x_ 11) F_), m_ 13 12, gm_ 13 14 1, gm_ 13 15 2, g_ 13 16 (.bin .leq (x_ 14) (x_ 15)), i_ 17 (.pick (x_ 13) (x_ 16) F_), m_ 18 17, gm_ 18 19 2, g_ 18 20 (.bin .leq (x_ 19) (n_ 3840)), i_ 21 (.pick (x_ 18) (x_ 20) F_), m_ 6 21],
   .ret]⟩
def bitmap_free.pol : Pol := { pure := [233], heap := [999999], ro := roList, rs := [8], live := [([0, 2, 3, 9, 10], [9])] }
def bitmap_free.L0 : ACode :=
  sq [sq [r_ [m_ 12 10, m_ 13 2, i_ 14 (.bin .lss (x_ 12) (x_ 13)), m_ 15 14, gm_ 15 16 9, g_ 15 17 (.lenL (x_ 16)), gm_ 15 18 3, g_ 15 19 (.bin .lss (x_ 17) (x_ 18)), i_ 20 (.pick (x_ 15) (x_ 19) F_)],
    if_ 20 (.skip) (.exit 0)],
   .block 1 (sq [r_ [m_ 23 0, m_ 24 10, i_ 25 (.callP 233 [(x_ 23), (x_ 24)] [.bool]), i_ 26 (.un .not (x_ 25))],
     if_ 26 (r_ [m_ 27 9, m_ 28 10, i_ 29 (.buildG 1 [(x_ 28)]), i_ 30 (.appendH none 1 8 (x_ 27) (x_ 29)), m_ 9 30]) (.skip)]),
   r_ [m_ 21 10, i_ 22 (.bin .add (x_ 21) (n_ 1)), m_ 10 22]]
def bitmap_free.a : AFun := ⟨4, [.tmp 8],
  sq [r_ [i_ 8 (.nilS 1)],
   r_ [i_ 9 (.nilS 1)],
   sq [r_ [m_ 11 1, m_ 10 11],
    .block 0 (.loop [0, 2, 3, 9, 10] [9] [8] bitmap_free.L0)],
   r_ [m_ 31 9, m_ 8 31],
   .ret]⟩
def bitmap_free.R0 (C : CallF) (N : Nat) := round (evalC C N bitmap_free.L0) [0, 2, 3, 9, 10] [9] [8]
def bitmap_free.K0 (C : CallF) (N : Nat) : Ex → St → R := contC C N [.snd, .snd, .fst, .snd, .blk] bitmap_free.a.body (finish bitmap_free.a)
def bitmap_turn_1.pol : Pol := { pure := [233, 324], heap := [999999], ro := roList, rs := [4] }
def bitmap_turn_1.a : AFun := ⟨3, [.tmp 4],
  sq [r_ [i_ 4 (.mov F_)],
   d_ [m_ 5 0, i_ 6 (.callP 324 [(x_ 5)] [.bool]), i_ 7 (.un .not (x_ 6)), m_ 8 7, h_ 8 9 (.load [.str] false none (x_ 1)), hm_ 8 10 0, h_ 8 11 (.callP 233 [(x_ 9), (x_ 10)] [.bool]), h_ 8 12 (.load [.bool] false none (x_ 2)), h_ 8 13 (.eqA false [.bool] 4 (x_ 11) (x_ 12)), i_ 14 (.pick (x_ 8) T_ (x_ 13)), m_ 4 14],
   .ret]⟩
def bitmap_page.pol : Pol := { heap := [999999], ro := roList, rs := [2] }
def bitmap_page.a : AFun := ⟨1, [.tmp 2],
  sq [r_ [i_ 2 (.mov F_)],
   r_ [m_ 3 0, i_ 4 (.bin .geq (x_ 3) (n_ 0)), m_ 5 4, gm_ 5 6 0, g_ 5 7 (.bin .lss (x_ 6) (n_ 3840)), i_ 8 (.pick (x_ 5) (x_ 7) F_), m_ 2 8],
   .ret]⟩
def bitmap_Set.pol : Pol := { pure := [231, 324], heap := [999999], ro := roList, root := [(18, 18), (8, 18), (19, 18), (22, 18), (28, 18), (30, 18), (33, 18), (39, 18), (40, 18)], rs := [6, 7] }
def bitmap_Set.a : AFun := ⟨3, [.tmp 6, .tmp 7],
  sq [r_ [i_ 6 (.mov (c_ (.string ⟨#[]⟩))), i_ 7 (.mov (n_ 0))],
   sq [r_ [m_ 9 0, i_ 10 (.callP 231 [(x_ 9)] [.bool]), i_ 11 (.un .not (x_ 10)), m_ 12 11, hm_ 12 13 1, h_ 12 14 (.callP 324 [(x_ 13)] [.bool]), h_ 12 15 (.un .not (x_ 14)), i_ 16 (.pick (x_ 12) T_ (x_ 15))],
    if_ 16 (sq [r_ [i_ 6 (.mov (c_ (.string ⟨#[]⟩))), i_ 7 (.mov (n_ 18))],
      .ret]) (.skip)],
   r_ [m_ 17 0, i_ 18 (.toBytes (x_ 17)), m_ 8 18],
   d_ [m_ 19 8, m_ 20 1, i_ 21 (.bin .quo (x_ 20) (n_ 8)), i_ 22 (.indexAddrS 1 (x_ 19) (x_ 21)), i_ 23 (.load [.int .u8] false (some 18) (x_ 22)), m_ 24 1, i_ 25 (.bin .rem (x_ 24) (n_ 8)), i_ 26 (.bin .shl (k_ .u8 1) (x_ 25)), i_ 27 (.bin .andNot (x_ 23) (x_ 26)), i_ 28 (.indexAddrS 1 (x_ 19) (x_ 21)), u_ (.store 1 (some 18) (x_ 28) (x_ 27))],
   sq [r_ [m_ 29 2],
    if_ 29 (d_ [m_ 30 8, m_ 31 1, i_ 32 (.bin .quo (x_ 31) (n_ 8)), i_ 33 (.indexAddrS 1 (x_ 30) (x_ 32)), i_ 34 (.load [.int .u8] false (some 18) (x_ 33)), m_ 35 1, i_ 36 (.bin .rem (x_ 35) (n_ 8)), i_ 37 (.bin .shl (k_ .u8 1) (x_ 36)), i_ 38 (.bin .or (x_ 34) (x_ 37)), i_ 39 (.indexAddrS 1 (x_ 30) (x_ 32)), u_ (.store 1 (some 18) (x_ 39) (x_ 38))]) (.skip)],
   r_ [m_ 40 8, i_ 41 (.toStr (some 18) (x_ 40)), m_ 6 41, i_ 7 (.mov (n_ 0))],
   .ret]⟩
def sector_Seal.pol : Pol := { pure := [194, 332, 380, 381], heap := [999999], ro := roList, root := [(1, 1), (11, 1), (17, 1), (22, 1), (29, 1), (33, 1), (42, 1), (48, 1)], rs := [2, 3] }
def sector_Seal.a : AFun := ⟨1, [.tmp 2, .tmp 3],
  sq [r_ [i_ 1 (.boxL (x_ 0)), i_ 2 (.mov (c_ (.string ⟨#[]⟩))), i_ 3 (.mov (n_ 0))],
   sq [r_ [i_ 6 (.load [ix, .int .u64, .int .u64, ix, ix, .str] true (some 1) (x_ 1)), i_ 7 (.callP 332 [(x_ 6)] [ix]), m_ 4 7],
    r_ [m_ 8 4, i_ 9 (.bin .neq (x_ 8) (n_ 0))],
    if_ 9 (sq [r_ [m_ 10 4, i_ 2 (.mov (c_ (.string ⟨#[]⟩))), m_ 3 10],
      .ret]) (.skip)],
   d_ [i_ 11 (.addr 0 (x_ 1)), i_ 12 (.load [ix] false (some 1) (x_ 11)), i_ 13 (.convI .u64 (x_ 12)), i_ 14 (.callP 194 [(n_ 1), (x_ 13)] [.str]), i_ 15 (.callP 194 [(n_ 1), (k_ .u64 0)] [.str]), i_ 16 (.bin .add (x_ 14) (x_ 15)), i_ 17 (.addr 3 (x_ 1)), i_ 18 (.load [ix] false (some 1) (x_ 17)), i_ 19 (.convI .u64 (x_ 18)), i_ 20 (.callP 194 [(n_ 2), (x_ 19)] [.str]), i_ 21 (.bin .add (x_ 16) (x_ 20)), i_ 22 (.addr 4 (x_ 1)), i_ 23 (.load [ix] false (some 1) (x_ 22)), i_ 24 (.convI .u64 (x_ 23)), i_ 25 (.callP 194 [(n_ 2), (x_ 24)] [.str]), i_ 26 (.bin .add (x_ 21) (x_ 25)), i_ 27 (.callP 194 [(n_ 2), (k_ .u64 0)] [.str]), i_ 28 (.bin .add (x_ 26) (x_ 27)), i_ 29 (.addr 1 (x_ 1)), i_ 30 (.load [.int .u64] false (some 1) (x_ 29)), i_ 31 (.callP 194 [(n_ 8), (x_ 30)] [.str]), i_ 32 (.bin .add (x_ 28) (x_ 31)), i_ 33 (.addr 2 (x_ 1)), i_ 34 (.load [.int .u64] false (some 1) (x_ 33)), i_ 35 (.callP 194 [(n_ 8), (x_ 34)] [.str]), i_ 36 (.bin .add (x_ 32) (x_ 35)), i_ 37 (.callP 194 [(n_ 4), (k_ .u64 0)] [.str]), i_ 38 (.bin .add (x_ 36) (x_ 37)), m_ 5 38],
   d_ [m_ 39 5, m_ 40 5, i_ 41 (.callP 381 [(x_ 40)] [.int .u32]), i_ 42 (.addr 5 (x_ 1)), i_ 43 (.load [.str] false (some 1) (x_ 42)), i_ 44 (.callP 380 [(x_ 41), (x_ 43)] [.int .u32]), i_ 45 (.convI .u64 (x_ 44)), i_ 46 (.callP 194 [(n_ 4), (x_ 45)] [.str]), i_ 47 (.bin .add (x_ 39) (x_ 46)), i_ 48 (.addr 5 (x_ 1)), i_ 49 (.load [.str] false (some 1) (x_ 48)), i_ 50 (.bin .add (x_ 47) (x_ 49)), m_ 2 50, i_ 3 (.mov (n_ 0))],
   .ret]⟩
def sector_Check.pol : Pol := { pure := [383], heap := [999999], ro := roList, root := [(1, 1), (3, 1), (7, 1), (12, 1), (18, 1), (24, 1)], rs := [2] }
def sector_Check.a : AFun := ⟨1, [.tmp 2],
  sq [r_ [i_ 1 (.boxL (x_ 0)), i_ 2 (.mov (n_ 0))],
   sq [r_ [i_ 3 (.addr 0 (x_ 1)), i_ 4 (.load [ix] false (some 1) (x_ 3)), i_ 5 (.bin .leq (x_ 4) (n_ 0)), m_ 6 5, h_ 6 7 (.addr 0 (x_ 1)), h_ 6 8 (.load [ix] false (some 1) (x_ 7)), h_ 6 9 (.bin .geq (x_ 8) (n_ 5)), i_ 10 (.pick (x_ 6) T_ (x_ 9)), m_ 11 10, h_ 11 12 (.addr 3 (x_ 1)), h_ 11 13 (.load [ix] false (some 1) (x_ 12)), h_ 11 14 (.callP 383 [(x_ 13)] [.bool]), h_ 11 15 (.un .not (x_ 14)), i_ 16 (.pick (x_ 11) T_ (x_ 15)), m_ 17 16, h_ 17 18 (.addr 4 (x_ 1)), h_ 17 19 (.load [ix] false (some 1) (x_ 18)), h_ 17 20 (.callP 383 [(x_ 19)] [.bool]), h_ 17 21 (.un .not (x_ 20)), i_ 22 (.pick (x_ 17) T_ (x_ 21)), m_ 23 22, h_ 23 24 (.addr 5 (x_ 1)), h_ 23 25 (.load [.str] false (some 1) (x_ 24)), h_ 23 26 (.lenS (x_ 25)), h_ 23 27 (.bin .neq (x_ 26) (n_ 480)), i_ 28 (.pick (x_ 23) T_ (x_ 27))],
    if_ 28 (sq [r_ [i_ 2 (.mov (n_ 18))],
      .ret]) (.skip)],
   r_ [i_ 2 (.mov (n_ 0))],
   .ret]⟩
def octets_Noughts.pol : Pol := { pure := [384], heap := [999999], ro := roList, rs := [2] }
def octets_Noughts.a : AFun := ⟨1, [.tmp 2],
  sq [r_ [i_ 2 (.mov F_)],
   r_ [m_ 3 0, i_ 4 (.callP 384 [(x_ 3), (c_ (.string ⟨#[0]⟩))] [ix]), m_ 5 0, i_ 6 (.lenS (x_ 5)), i_ 7 (.bin .eql (x_ 4) (x_ 6)), m_ 2 7],
   .ret]⟩
def slices_IndexFunc_journal_Image_journal_Image.pol : Pol := { heap := [999999], ro := roList, rs := [4], live := [([0, 1, 7, 8], [])] }
def slices_IndexFunc_journal_Image_journal_Image.L0 : ACode :=
  sq [r_ [i_ 9 (.bin .lss (x_ 8) (x_ 7))],
   if_ 9 (.skip) (.exit 0),
   .block 1 (sq [r_ [m_ 10 8, m_ 5 10],
     r_ [m_ 11 1, m_ 12 0, m_ 13 5, i_ 14 (.indexAddrS 2 (x_ 12) (x_ 13)), i_ 15 (.load [ix, .str] true none (x_ 14)), i_ 16 (.callV (x_ 11) [(x_ 15)] [.bool])],
     if_ 16 (sq [r_ [m_ 17 5, m_ 4 17],
       .ret]) (.skip)]),
   r_ [i_ 18 (.bin .add (x_ 8) (n_ 1)), m_ 8 18]]
def slices_IndexFunc_journal_Image_journal_Image.a : AFun := ⟨2, [.tmp 4],
  sq [r_ [i_ 4 (.mov (n_ 0))],
   sq [r_ [m_ 6 0, i_ 7 (.lenL (x_ 6)), i_ 8 (.mov (n_ 0))],
    .block 0 (.loop [0, 1, 7, 8] [] [4] slices_IndexFunc_journal_Image_journal_Image.L0)],
   r_ [i_ 4 (.mov (n_ (-1)))],
   .ret]⟩
def slices_IndexFunc_journal_Image_journal_Image.R0 (C : CallF) (N : Nat) := round (evalC C N slices_IndexFunc_journal_Image_journal_Image.L0) [0, 1, 7, 8] [] [4]
def slices_IndexFunc_journal_Image_journal_Image.K0 (C : CallF) (N : Nat) : Ex → St → R := contC C N [.snd, .fst, .snd, .blk] slices_IndexFunc_journal_Image_journal_Image.a.body (finish slices_IndexFunc_journal_Image_journal_Image.a)
def math_bits_Mul32.pol : Pol := { heap := [999999], ro := roList, rs := [4, 5] }
def math_bits_Mul32.a : AFun := ⟨2, [.tmp 4, .tmp 5],
  sq [r_ [i_ 4 (.mov (k_ .u32 0)), i_ 5 (.mov (k_ .u32 0))],
   r_ [m_ 7 0, i_ 8 (.convI .u64 (x_ 7)), m_ 9 1, i_ 10 (.convI .u64 (x_ 9)), i_ 11 (.bin .mul (x_ 8) (x_ 10)), m_ 6 11],
   r_ [m_ 12 6, i_ 13 (.bin .shr (x_ 12) (k_ .u64 32)), i_ 14 (.convI .u32 (x_ 13)), m_ 15 6, i_ 16 (.convI .u32 (x_ 15)), m_ 4 14, m_ 5 16],
   .ret]⟩
def math_bits_Mul64.pol : Pol := { heap := [999999], ro := roList, rs := [4, 5] }
def math_bits_Mul64.a : AFun := ⟨2, [.tmp 4, .tmp 5],
  sq [r_ [i_ 4 (.mov (k_ .u64 0)), i_ 5 (.mov (k_ .u64 0))],
   r_ [m_ 14 0, i_ 15 (.bin .and (x_ 14) (k_ .u64 4294967295)), m_ 6 15],
   r_ [m_ 16 0, i_ 17 (.bin .shr (x_ 16) (k_ .u64 32)), m_ 7 17],
   r_ [m_ 18 1, i_ 19 (.bin .and (x_ 18) (k_ .u64 4294967295)), m_ 8 19],
   r_ [m_ 20 1, i_ 21 (.bin .shr (x_ 20) (k_ .u64 32)), m_ 9 21],
   r_ [m_ 22 6, m_ 23 8, i_ 24 (.bin .mul (x_ 22) (x_ 23)), m_ 10 24],
   r_ [m_ 25 7, m_ 26 8, i_ 27 (.bin .mul (x_ 25) (x_ 26)), m_ 28 10, i_ 29 (.bin .shr (x_ 28) (k_ .u64 32)), i_ 30 (.bin .add (x_ 27) (x_ 29)), m_ 11 30],
   r_ [m_ 31 11, i_ 32 (.bin .and (x_ 31) (k_ .u64 4294967295)), m_ 12 32],
   r_ [m_ 33 11, i_ 34 (.bin .shr (x_ 33) (k_ .u64 32)), m_ 13 34],
   r_ [m_ 35 12, m_ 36 6, m_ 37 9, i_ 38 (.bin .mul (x_ 36) (x_ 37)), i_ 39 (.bin .add (x_ 35) (x_ 38)), m_ 12 39],
   r_ [m_ 40 7, m_ 41 9, i_ 42 (.bin .mul (x_ 40) (x_ 41)), m_ 43 13, i_ 44 (.bin .add (x_ 42) (x_ 43)), m_ 45 12, i_ 46 (.bin .shr (x_ 45) (k_ .u64 32)), i_ 47 (.bin .add (x_ 44) (x_ 46)), m_ 4 47],
   r_ [m_ 48 0, m_ 49 1, i_ 50 (.bin .mul (x_ 48) (x_ 49)), m_ 5 50],
   .ret]⟩
def octets_Reader_fail.pol : Pol := { heap := [999999], ro := roList, rs := [4] }
def octets_Reader_fail.a : AFun := ⟨2, [.tmp 4],
  sq [r_ [i_ 4 (.mov (c_ (.string ⟨#[]⟩)))],
   r_ [m_ 5 0, m_ 6 0, m_ 7 1, i_ 8 (.nilCk (x_ 5)), i_ 9 (.addr 0 (x_ 8)), u_ (.store 1 none (x_ 9) (c_ (.string ⟨#[]⟩))), i_ 10 (.nilCk (x_ 6)), i_ 11 (.addr 1 (x_ 10)), u_ (.store 1 none (x_ 11) (x_ 7))],
   r_ [i_ 4 (.mov (c_ (.string ⟨#[]⟩)))],
   .ret]⟩
def crc_More.pol : Pol := { pure := [415], heap := [999999], ro := roList, root := [(5, 5), (13, 13), (17, 13), (27, 5), (34, 5)], rs := [4], live := [([5, 6, 13, 14, 15], [6])] }
def crc_More.L0 : ACode :=
  sq [r_ [i_ 16 (.bin .lss (x_ 15) (x_ 14))],
   if_ 16 (.skip) (.exit 0),
   .block 1 (sq [r_ [i_ 17 (.indexAddrS 1 (x_ 13) (x_ 15)), i_ 18 (.load [.int .u8] false (some 13) (x_ 17)), m_ 8 18],
     r_ [m_ 19 6, m_ 20 8, i_ 21 (.convI .u32 (x_ 20)), i_ 22 (.bin .xor (x_ 19) (x_ 21)), m_ 6 22],
     r_ [m_ 23 6, i_ 24 (.bin .shr (x_ 23) (k_ .u64 4)), m_ 25 6, i_ 26 (.bin .and (x_ 25) (k_ .u32 15)), i_ 27 (.indexAddrA 16 1 (x_ 5) (x_ 26)), i_ 28 (.load [.int .u32] false (some 5) (x_ 27)), i_ 29 (.bin .xor (x_ 24) (x_ 28)), m_ 6 29],
     r_ [m_ 30 6, i_ 31 (.bin .shr (x_ 30) (k_ .u64 4)), m_ 32 6, i_ 33 (.bin .and (x_ 32) (k_ .u32 15)), i_ 34 (.indexAddrA 16 1 (x_ 5) (x_ 33)), i_ 35 (.load [.int .u32] false (some 5) (x_ 34)), i_ 36 (.bin .xor (x_ 31) (x_ 35)), m_ 6 36]]),
   r_ [i_ 37 (.bin .add (x_ 15) (n_ 1)), m_ 15 37]]
def crc_More.a : AFun := ⟨2, [.tmp 4],
  sq [r_ [i_ 4 (.mov (k_ .u32 0))],
   r_ [i_ 9 (.callP 415 [] [.ag]), i_ 5 (.allocL [(.at (.int .u32 0)), (.at (.int .u32 0)), (.at (.int .u32 0)), (.at (.int .u32 0)), (.at (.int .u32 0)), (.at (.int .u32 0)), (.at (.int .u32 0)), (.at (.int .u32 0)), (.at (.int .u32 0)), (.at (.int .u32 0)), (.at (.int .u32 0)), (.at (.int .u32 0)), (.at (.int .u32 0)), (.at (.int .u32 0)), (.at (.int .u32 0)), (.at (.int .u32 0))]), u_ (.store 16 (some 5) (x_ 5) (x_ 9))],
   r_ [m_ 10 0, i_ 11 (.bin .xor (x_ 10) (k_ .u32 4294967295)), m_ 6 11],
   sq [r_ [m_ 12 1, i_ 13 (.toBytes (x_ 12)), i_ 14 (.lenL (x_ 13)), i_ 15 (.mov (n_ 0))],
    .block 0 (.loop [5, 6, 13, 14, 15] [6] [4] crc_More.L0)],
   r_ [m_ 38 6, i_ 39 (.bin .xor (x_ 38) (k_ .u32 4294967295)), m_ 4 39],
   .ret]⟩
def crc_More.R0 (C : CallF) (N : Nat) := round (evalC C N crc_More.L0) [5, 6, 13, 14, 15] [6] [4]
def crc_More.K0 (C : CallF) (N : Nat) : Ex → St → R := contC C N [.snd, .snd, .snd, .fst, .snd, .blk] crc_More.a.body (finish crc_More.a)
def crc_Sum.pol : Pol := { pure := [380], heap := [999999], ro := roList, rs := [2] }
def crc_Sum.a : AFun := ⟨1, [.tmp 2],
  sq [r_ [i_ 2 (.mov (k_ .u32 0))],
   r_ [m_ 3 0, i_ 4 (.callP 380 [(k_ .u32 0), (x_ 3)] [.int .u32]), m_ 2 4],
   .ret]⟩
def sector_short.pol : Pol := { heap := [999999], ro := roList, rs := [2] }
def sector_short.a : AFun := ⟨1, [.tmp 2],
  sq [r_ [i_ 2 (.mov F_)],
   r_ [m_ 3 0, i_ 4 (.bin .geq (x_ 3) (n_ 0)), m_ 5 4, gm_ 5 6 0, g_ 5 7 (.bin .leq (x_ 6) (n_ 65535)), i_ 8 (.pick (x_ 5) (x_ 7) F_), m_ 2 8],
   .ret]⟩
def crc_fours.pol : Pol := { pure := [435], heap := [999999], ro := roList, root := [(0, 0), (1, 1), (13, 1)], rs := [0], live := [([0, 1, 3], [0, 1])] }
def crc_fours.L0 : ACode :=
  sq [r_ [i_ 4 (.bin .lss (x_ 3) (n_ 16))],
   if_ 4 (.skip) (.exit 0),
   .block 1 (sq [r_ [m_ 5 3, m_ 2 5],
     r_ [m_ 6 2, m_ 7 2, i_ 8 (.convI .u32 (x_ 7)), i_ 9 (.callP 435 [(x_ 8)] [.int .u32]), i_ 10 (.callP 435 [(x_ 9)] [.int .u32]), i_ 11 (.callP 435 [(x_ 10)] [.int .u32]), i_ 12 (.callP 435 [(x_ 11)] [.int .u32]), i_ 13 (.indexAddrA 16 1 (x_ 1) (x_ 6)), u_ (.store 1 (some 1) (x_ 13) (x_ 12))]]),
   r_ [i_ 14 (.bin .add (x_ 3) (n_ 1)), m_ 3 14]]
def crc_fours.a : AFun := ⟨0, [.cell 0 [.int .u32, .int .u32, .int .u32, .int .u32, .int .u32, .int .u32, .int .u32, .int .u32, .int .u32, .int .u32, .int .u32, .int .u32, .int .u32, .int .u32, .int .u32, .int .u32] true],
  sq [r_ [i_ 0 (.allocL [(.at (.int .u32 0)), (.at (.int .u32 0)), (.at (.int .u32 0)), (.at (.int .u32 0)), (.at (.int .u32 0)), (.at (.int .u32 0)), (.at (.int .u32 0)), (.at (.int .u32 0)), (.at (.int .u32 0)), (.at (.int .u32 0)), (.at (.int .u32 0)), (.at (.int .u32 0)), (.at (.int .u32 0)), (.at (.int .u32 0)), (.at (.int .u32 0)), (.at (.int .u32 0))])],
   r_ [i_ 1 (.allocL [(.at (.int .u32 0)), (.at (.int .u32 0)), (.at (.int .u32 0)), (.at (.int .u32 0)), (.at (.int .u32 0)), (.at (.int .u32 0)), (.at (.int .u32 0)), (.at (.int .u32 0)), (.at (.int .u32 0)), (.at (.int .u32 0)), (.at (.int .u32 0)), (.at (.int .u32 0)), (.at (.int .u32 0)), (.at (.int .u32 0)), (.at (.int .u32 0)), (.at (.int .u32 0))])],
   sq [r_ [i_ 3 (.mov (n_ 0))],
    .block 0 (.loop [0, 1, 3] [0, 1] [0] crc_fours.L0)],
   r_ [i_ 15 (.load [.int .u32, .int .u32, .int .u32, .int .u32, .int .u32, .int .u32, .int .u32, .int .u32, .int .u32, .int .u32, .int .u32, .int .u32, .int .u32, .int .u32, .int .u32, .int .u32] true (some 1) (x_ 1)), u_ (.store 16 (some 0) (x_ 0) (x_ 15))],
   .ret]⟩
def crc_fours.R0 (C : CallF) (N : Nat) := round (evalC C N crc_fours.L0) [0, 1, 3] [0, 1] [0]
def crc_fours.K0 (C : CallF) (N : Nat) : Ex → St → R := contC C N [.snd, .snd, .fst, .snd, .blk] crc_fours.a.body (finish crc_fours.a)
def crc_half.pol : Pol := { heap := [999999], ro := roList, rs := [2] }
def crc_half.a : AFun := ⟨1, [.tmp 2],
  sq [r_ [i_ 2 (.mov (k_ .u32 0))],
   r_ [m_ 3 0, i_ 4 (.bin .shr (x_ 3) (k_ .u64 1)), m_ 5 0, i_ 6 (.bin .and (x_ 5) (k_ .u32 1)), i_ 7 (.un .neg (x_ 6)), i_ 8 (.bin .and (k_ .u32 3945912366) (x_ 7)), i_ 9 (.bin .xor (x_ 4) (x_ 8)), m_ 2 9],
   .ret]⟩
end Go.Abs
