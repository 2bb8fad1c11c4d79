import Derived.Test.YtimoaolannkpcaaGreatAbbr
set_option linter.unusedVariables false
set_option linter.unusedSimpArgs false
set_option linter.unusedSectionVars false
namespace Go.Abs
set_option maxRecDepth 10000
/-- The functions that leave the common store alone. -/
def roList : List Nat := [28, 31, 35, 36, 37, 38, 39, 41, 42, 126, 129, 131, 141, 144, 145, 146, 147, 148, 151, 234, 236, 237, 241, 242, 245, 246, 248, 250, 277, 328, 332, 333, 335, 336, 380, 381, 383, 415, 435]
/-! 5: wharfage/wharfagelaw09.PagesPrefix -/
def law09_PagesPrefix.pol : Pol := { pure := [40, 41], heap := [999999], ro := roList, root := [(15, 15), (83, 15), (95, 15), (20, 20), (114, 20), (118, 20), (125, 20), (127, 20), (158, 15), (164, 15), (168, 15), (179, 15)], rs := [6], live := [([9, 11, 13, 77, 78, 79], []), ([9, 11, 13, 16, 77, 78, 79, 108, 109, 110], [9, 11, 13, 16, 77, 78, 79]), ([9, 21, 23, 77, 78, 79, 193, 194, 195], [9, 21, 23, 77, 78, 79])] }
def law09_PagesPrefix.L1 : ACode :=
  sq [r_ [i_ 111 (.bin .lss (x_ 110) (x_ 109))],
   if_ 111 (.skip) (.exit 3),
   .block 4 (sq [r_ [i_ 112 (.indexAddrS 2 (x_ 108) (x_ 110)), i_ 113 (.load [ix, .str] true none (x_ 112)), i_ 20 (.allocL [(.at (.int .i64 0)), (.at (.string ⟨#[]⟩))]), u_ (.store 2 (some 20) (x_ 20) (x_ 113))],
     sq [r_ [i_ 114 (.addr 0 (x_ 20)), i_ 115 (.load [ix] false (some 20) (x_ 114)), i_ 116 (.bin .lss (x_ 115) (n_ 0)), m_ 117 116, h_ 117 118 (.addr 0 (x_ 20)), h_ 117 119 (.load [ix] false (some 20) (x_ 118)), hm_ 117 120 16, h_ 117 121 (.lenL (x_ 120)), h_ 117 122 (.bin .geq (x_ 119) (x_ 121)), i_ 123 (.pick (x_ 117) T_ (x_ 122))],
      if_ 123 (sq [r_ [i_ 6 (.mov F_)],
        .ret]) (.skip)],
     r_ [m_ 124 16, i_ 125 (.addr 0 (x_ 20)), i_ 126 (.load [ix] false (some 20) (x_ 125)), i_ 127 (.addr 1 (x_ 20)), i_ 128 (.load [.str] false (some 20) (x_ 127)), i_ 129 (.indexAddrS 1 (x_ 124) (x_ 126)), u_ (.store 1 none (x_ 129) (x_ 128))]]),
   r_ [i_ 130 (.bin .add (x_ 110) (n_ 1)), m_ 110 130]]
def law09_PagesPrefix.L2 : ACode :=
  sq [r_ [i_ 196 (.bin .lss (x_ 195) (x_ 194))],
   if_ 196 (.skip) (.exit 5),
   .block 6 (sq [r_ [i_ 197 (.indexAddrS 1 (x_ 193) (x_ 195)), i_ 198 (.load [.sl 1] false none (x_ 197)), m_ 25 198],
     r_ [m_ 199 23, m_ 200 199, hm_ 200 201 25, hm_ 200 202 21, h_ 200 203 (.call 44 [(x_ 202)] [.any]), h_ 200 204 (.callR 28 [(x_ 201), (x_ 203)] [.bool]), i_ 205 (.pick (x_ 200) T_ (x_ 204)), m_ 23 205]]),
   r_ [i_ 206 (.bin .add (x_ 195) (n_ 1)), m_ 195 206]]
def law09_PagesPrefix.L0 : ACode :=
  sq [r_ [i_ 80 (.bin .lss (x_ 79) (x_ 78))],
   if_ 80 (.skip) (.exit 0),
   .block 1 (sq [r_ [i_ 81 (.indexAddrS 5 (x_ 77) (x_ 79)), i_ 82 (.load [ix, .sl 3, ix, .int .u8, .sl 1] true none (x_ 81)), i_ 15 (.allocL [(.at (.int .i64 0)), (.sl true 3 []), (.at (.int .i64 0)), (.at (.int .u8 0)), (.sl true 1 [])]), u_ (.store 5 (some 15) (x_ 15) (x_ 82))],
     r_ [i_ 83 (.addr 0 (x_ 15)), i_ 84 (.load [ix] false (some 15) (x_ 83))],
     .block 2 (sq [r_ [i_ 86 (.bin .eql (x_ 84) (n_ 0)), m_ 85 86],
       if_ 85 (sq [r_ [i_ 87 (.mkE0), m_ 88 13, m_ 89 13, i_ 90 (.lenL (x_ 89)), i_ 91 (.bin .sub (x_ 90) (n_ 1)), i_ 92 (.indexAddrS 1 (x_ 88) (x_ 91)), i_ 93 (.load [.sl 1] false none (x_ 92)), i_ 94 (.appendH none 1 16 (x_ 87) (x_ 93)), m_ 16 94],
         r_ [i_ 95 (.addr 1 (x_ 15)), i_ 96 (.load [.sl 3] false (some 15) (x_ 95)), i_ 97 (.call 45 [(x_ 96)] [.any]), m_ 17 97],
         r_ [m_ 98 11, m_ 99 17, i_ 100 (.call 46 [(x_ 99)] [.any]), i_ 101 (.call 32 [(x_ 98), (x_ 100)] [ix]), m_ 18 101],
         sq [r_ [m_ 102 18, i_ 103 (.bin .neq (x_ 102) (n_ 0)), m_ 104 103, gm_ 104 105 18, g_ 104 106 (.bin .neq (x_ 105) (n_ 17)), i_ 107 (.pick (x_ 104) (x_ 106) F_)],
          if_ 107 (.exit 1) (.skip)],
         sq [r_ [m_ 108 17, i_ 109 (.lenL (x_ 108)), i_ 110 (.mov (n_ 0))],
          .block 3 (.loop [9, 11, 13, 16, 77, 78, 79, 108, 109, 110] [9, 11, 13, 16, 77, 78, 79] [6] law09_PagesPrefix.L1)],
         r_ [m_ 131 13, m_ 132 16, i_ 133 (.buildG 1 [(x_ 132)]), i_ 134 (.appendH none 1 24 (x_ 131) (x_ 133)), m_ 13 134]]) (sq [r_ [i_ 136 (.bin .eql (x_ 84) (n_ 1)), m_ 135 136],
         if_ 135 (sq [r_ [m_ 137 11, i_ 138 (.call 33 [(x_ 137)] [ix]), i_ 139 (.bin .eql (x_ 138) (n_ 0))],
           if_ 139 (r_ [m_ 140 13, m_ 141 13, i_ 142 (.lenL (x_ 141)), i_ 143 (.bin .sub (x_ 142) (n_ 1)), i_ 144 (.sliceV 1 (x_ 140) (some (x_ 143)) none), m_ 13 144]) (.skip)]) (sq [r_ [i_ 146 (.bin .eql (x_ 84) (n_ 2)), m_ 145 146],
           if_ 145 (sq [r_ [m_ 147 11, i_ 148 (.call 34 [(x_ 147)] [ix]), i_ 149 (.bin .eql (x_ 148) (n_ 0))],
             if_ 149 (r_ [m_ 150 13, m_ 151 13, i_ 152 (.lenL (x_ 151)), i_ 153 (.bin .sub (x_ 152) (n_ 1)), i_ 154 (.sliceV 1 (x_ 150) (some (x_ 153)) none), m_ 13 154]) (.skip)]) (sq [r_ [i_ 156 (.bin .eql (x_ 84) (n_ 3)), m_ 155 156],
             if_ 155 (r_ [m_ 157 9, i_ 158 (.addr 2 (x_ 15)), i_ 159 (.load [ix] false (some 15) (x_ 158)), i_ 160 (.call 47 [(x_ 157), (x_ 159)] [])]) (sq [r_ [i_ 162 (.bin .eql (x_ 84) (n_ 4)), m_ 161 162],
               if_ 161 (sq [r_ [m_ 163 9, i_ 164 (.addr 4 (x_ 15)), i_ 165 (.load [.sl 1] false (some 15) (x_ 164)), i_ 166 (.call 48 [(x_ 163), (x_ 165)] [ix])],
                 r_ [m_ 167 9, i_ 168 (.addr 2 (x_ 15)), i_ 169 (.load [ix] false (some 15) (x_ 168)), i_ 170 (.call 47 [(x_ 167), (x_ 169)] [])],
                 r_ [m_ 172 9, i_ 173 (.call 30 [(x_ 172)] [.any, ix]), m_ 171 173, i_ 174 (.extract (x_ 171) 0), i_ 175 (.extract (x_ 171) 1), m_ 21 174, m_ 22 175],
                 sq [r_ [m_ 176 22, i_ 177 (.bin .eql (x_ 176) (n_ 17))],
                  if_ 177 (sq [r_ [m_ 178 9, i_ 179 (.addr 4 (x_ 15)), i_ 180 (.load [.sl 1] false (some 15) (x_ 179)), i_ 181 (.call 48 [(x_ 178), (x_ 180)] [ix])],
                    r_ [m_ 183 9, i_ 184 (.call 30 [(x_ 183)] [.any, ix]), m_ 182 184, i_ 185 (.extract (x_ 182) 0), i_ 186 (.extract (x_ 182) 1), m_ 21 185, m_ 22 186]]) (.skip)],
                 sq [r_ [m_ 187 22, i_ 188 (.bin .neq (x_ 187) (n_ 0)), m_ 189 188, hm_ 189 190 21, h_ 189 191 (.nilCmp false 1 (x_ 190)), i_ 192 (.pick (x_ 189) T_ (x_ 191))],
                  if_ 192 (sq [r_ [i_ 6 (.mov F_)],
                    .ret]) (.skip)],
                 r_ [i_ 23 (.mov F_)],
                 sq [r_ [m_ 193 13, i_ 194 (.lenL (x_ 193)), i_ 195 (.mov (n_ 0))],
                  .block 5 (.loop [9, 21, 23, 77, 78, 79, 193, 194, 195] [9, 21, 23, 77, 78, 79] [6] law09_PagesPrefix.L2)],
                 sq [r_ [m_ 207 23, i_ 208 (.un .not (x_ 207))],
                  if_ 208 (sq [r_ [i_ 6 (.mov F_)],
                    .ret]) (.skip)],
                 r_ [m_ 209 21, m_ 210 21, i_ 211 (.call 44 [(x_ 210)] [.any]), i_ 212 (.buildG 1 [(x_ 211)]), m_ 11 209, m_ 13 212]]) (.skip)])])])])])]),
   r_ [i_ 213 (.bin .add (x_ 79) (n_ 1)), m_ 79 213]]
def law09_PagesPrefix.a : AFun := ⟨3, [.tmp 6],
  sq [r_ [i_ 6 (.mov F_)],
   sq [r_ [i_ 26 (.callP 40 [] [.bool]), i_ 27 (.un .not (x_ 26))],
    if_ 27 (sq [r_ [i_ 6 (.mov F_)],
      .ret]) (.skip)],
   r_ [m_ 29 0, m_ 30 1, i_ 31 (.callP 41 [(x_ 29), (x_ 30)] [ix, ix]), m_ 28 31, i_ 32 (.extract (x_ 28) 0), i_ 33 (.extract (x_ 28) 1), m_ 7 32, m_ 8 33],
   sq [r_ [m_ 34 8, i_ 35 (.bin .neq (x_ 34) (n_ 0)), m_ 36 35, hm_ 36 37 7, h_ 36 38 (.bin .gtr (x_ 37) (n_ 80)), i_ 39 (.pick (x_ 36) T_ (x_ 38)), m_ 40 39, hm_ 40 41 2, h_ 40 42 (.callR 42 [(x_ 41)] [.bool]), h_ 40 43 (.un .not (x_ 42)), i_ 44 (.pick (x_ 40) T_ (x_ 43))],
    if_ 44 (sq [r_ [i_ 6 (.mov T_)],
      .ret]) (.skip)],
   r_ [m_ 46 7, i_ 47 (.call 43 [(x_ 46)] [.any, ix]), m_ 45 47, i_ 48 (.extract (x_ 45) 0), i_ 49 (.extract (x_ 45) 1), m_ 9 48, m_ 10 49],
   sq [r_ [m_ 50 10, i_ 51 (.bin .neq (x_ 50) (n_ 0)), m_ 52 51, hm_ 52 53 9, h_ 52 54 (.nilCmp false 1 (x_ 53)), i_ 55 (.pick (x_ 52) T_ (x_ 54))],
    if_ 55 (sq [r_ [i_ 6 (.mov F_)],
      .ret]) (.skip)],
   r_ [m_ 57 9, m_ 58 0, m_ 59 1, i_ 60 (.call 29 [(x_ 57), (x_ 58), (x_ 59)] [.any, ix]), m_ 56 60, i_ 61 (.extract (x_ 56) 0), i_ 62 (.extract (x_ 56) 1), m_ 11 61, m_ 12 62],
   sq [r_ [m_ 63 12, i_ 64 (.bin .neq (x_ 63) (n_ 0)), m_ 65 64, hm_ 65 66 11, h_ 65 67 (.nilCmp false 1 (x_ 66)), i_ 68 (.pick (x_ 65) T_ (x_ 67))],
    if_ 68 (sq [r_ [i_ 6 (.mov F_)],
      .ret]) (.skip)],
   r_ [m_ 69 11, i_ 70 (.call 44 [(x_ 69)] [.any]), i_ 71 (.buildG 1 [(x_ 70)]), m_ 13 71],
   sq [r_ [i_ 72 (.mkE0), m_ 73 2, i_ 74 (.appendH none 5 72 (x_ 72) (x_ 73)), i_ 75 (.build [(.at (.int .i64 0)), (.sl true 3 []), (.at (.int .i64 0)), (.at (.int .u8 0)), (.sl true 1 [])] [(0, 1, (n_ 4))]), i_ 76 (.buildG 5 [(x_ 75)]), i_ 77 (.appendH none 5 72 (x_ 74) (x_ 76)), i_ 78 (.lenL (x_ 77)), i_ 79 (.mov (n_ 0))],
    .block 0 (.loop [9, 11, 13, 77, 78, 79] [] [6] law09_PagesPrefix.L0)],
   r_ [i_ 6 (.mov T_)],
   .ret]⟩
def law09_PagesPrefix.R0 (C : CallF) (N : Nat) := round (evalC C N law09_PagesPrefix.L0) [9, 11, 13, 77, 78, 79] [] [6]
def law09_PagesPrefix.K0 (C : CallF) (N : Nat) : Ex → St → R := contC C N [.snd, .snd, .snd, .snd, .snd, .snd, .snd, .snd, .snd, .fst, .snd, .blk] law09_PagesPrefix.a.body (finish law09_PagesPrefix.a)
def law09_PagesPrefix.R1 (C : CallF) (N : Nat) := round (evalC C N law09_PagesPrefix.L1) [9, 11, 13, 16, 77, 78, 79, 108, 109, 110] [9, 11, 13, 16, 77, 78, 79] [6]
def law09_PagesPrefix.K1 (C : CallF) (N : Nat) (k : Ex → St → R) : Ex → St → R := contC C N [.snd, .snd, .fst, .blk, .snd, .snd, .blk, .snd, .thn, .snd, .snd, .snd, .snd, .fst, .snd, .blk] law09_PagesPrefix.L0 (rndK [9, 11, 13, 77, 78, 79] [] [6] k)
def law09_PagesPrefix.R2 (C : CallF) (N : Nat) := round (evalC C N law09_PagesPrefix.L2) [9, 21, 23, 77, 78, 79, 193, 194, 195] [9, 21, 23, 77, 78, 79] [6]
def law09_PagesPrefix.K2 (C : CallF) (N : Nat) (k : Ex → St → R) : Ex → St → R := contC C N [.snd, .snd, .fst, .blk, .snd, .snd, .blk, .snd, .els, .snd, .els, .snd, .els, .snd, .els, .snd, .thn, .snd, .snd, .snd, .snd, .snd, .snd, .fst, .snd, .blk] law09_PagesPrefix.L0 (rndK [9, 11, 13, 77, 78, 79] [] [6] k)

/-! 24: wharfage/wharfagelaw08.Page -/
def law08_Page.pol : Pol := { heap := [999999], ro := roList, rs := [2], live := [([0, 3, 7, 8], [3])] }
def law08_Page.L0 : ACode :=
  sq [r_ [i_ 9 (.bin .lss (x_ 8) (x_ 7))],
   if_ 9 (.skip) (.exit 0),
   .block 1 (sq [r_ [m_ 10 8, m_ 4 10],
     r_ [m_ 11 3, m_ 12 4, m_ 13 0, i_ 14 (.indexAddrS 1 (x_ 11) (x_ 12)), u_ (.store 1 none (x_ 14) (x_ 13))]]),
   r_ [i_ 15 (.bin .add (x_ 8) (n_ 1)), m_ 8 15]]
def law08_Page.a : AFun := ⟨1, [.tmp 2],
  sq [r_ [i_ 2 (.mov (c_ (.string ⟨#[]⟩)))],
   r_ [i_ 5 (.makeG 1 1 [(.at (.int .u8 0))] (n_ 480) (n_ 480)), m_ 3 5],
   sq [r_ [m_ 6 3, i_ 7 (.lenL (x_ 6)), i_ 8 (.mov (n_ 0))],
    .block 0 (.loop [0, 3, 7, 8] [3] [2] law08_Page.L0)],
   r_ [m_ 16 3, i_ 17 (.toStrG (x_ 16)), m_ 2 17],
   .ret]⟩
def law08_Page.R0 (C : CallF) (N : Nat) := round (evalC C N law08_Page.L0) [0, 3, 7, 8] [3] [2]
def law08_Page.K0 (C : CallF) (N : Nat) : Ex → St → R := contC C N [.snd, .snd, .fst, .snd, .blk] law08_Page.a.body (finish law08_Page.a)

/-! 28: wharfage/wharfageref03.Same -/
def ref03_Same.pol : Pol := { heap := [999999], ro := roList, rs := [4], live := [([0, 1, 5], [])] }
def ref03_Same.L0 : ACode :=
  sq [sq [r_ [m_ 11 5, m_ 12 0, i_ 13 (.lenL (x_ 12)), i_ 14 (.bin .lss (x_ 11) (x_ 13))],
    if_ 14 (.skip) (.exit 0)],
   .block 1 (sq [d_ [m_ 17 0, m_ 18 5, i_ 19 (.indexAddrS 1 (x_ 17) (x_ 18)), i_ 20 (.load [.str] false none (x_ 19)), m_ 21 1, m_ 22 5, i_ 23 (.indexAddrS 1 (x_ 21) (x_ 22)), i_ 24 (.load [.str] false none (x_ 23)), i_ 25 (.bin .neq (x_ 20) (x_ 24))],
     if_ 25 (sq [r_ [i_ 4 (.mov F_)],
       .ret]) (.skip)]),
   r_ [m_ 15 5, i_ 16 (.bin .add (x_ 15) (n_ 1)), m_ 5 16]]
def ref03_Same.a : AFun := ⟨2, [.tmp 4],
  sq [r_ [i_ 4 (.mov F_)],
   sq [r_ [m_ 6 0, i_ 7 (.lenL (x_ 6)), m_ 8 1, i_ 9 (.lenL (x_ 8)), i_ 10 (.bin .neq (x_ 7) (x_ 9))],
    if_ 10 (sq [r_ [i_ 4 (.mov F_)],
      .ret]) (.skip)],
   sq [r_ [i_ 5 (.mov (n_ 0))],
    .block 0 (.loop [0, 1, 5] [] [4] ref03_Same.L0)],
   r_ [i_ 4 (.mov T_)],
   .ret]⟩
def ref03_Same.R0 (C : CallF) (N : Nat) := round (evalC C N ref03_Same.L0) [0, 1, 5] [] [4]
def ref03_Same.K0 (C : CallF) (N : Nat) : Ex → St → R := contC C N [.snd, .snd, .fst, .snd, .blk] ref03_Same.a.body (finish ref03_Same.a)

/-! 29: wharfage/pages.Format -/
def pages_Format.pol : Pol := { pure := [41, 131], heap := [999999], ro := roList, rs := [6, 7], live := [([0, 1, 2, 8, 10], [0, 1, 2])] }
def pages_Format.L0 : ACode :=
  sq [sq [r_ [m_ 29 10, m_ 30 8, i_ 31 (.bin .lss (x_ 29) (x_ 30))],
    if_ 31 (.skip) (.exit 0)],
   .block 1 (sq [r_ [m_ 34 0, m_ 35 10, i_ 36 (.callP 131 [] [.str]), i_ 37 (.call 130 [(x_ 34), (x_ 35), (x_ 36)] [ix]), m_ 11 37],
     r_ [m_ 38 11, i_ 39 (.bin .neq (x_ 38) (n_ 0))],
     if_ 39 (sq [r_ [m_ 40 11, i_ 6 (.mov (c_ (.pointer none))), m_ 7 40],
       .ret]) (.skip)]),
   r_ [m_ 32 10, i_ 33 (.bin .add (x_ 32) (n_ 1)), m_ 10 33]]
def pages_Format.a : AFun := ⟨3, [.tmp 6, .tmp 7],
  sq [r_ [i_ 6 (.mov (c_ (.pointer none))), i_ 7 (.mov (n_ 0))],
   r_ [m_ 16 1, m_ 17 2, i_ 18 (.callP 41 [(x_ 16), (x_ 17)] [ix, ix]), m_ 15 18, i_ 19 (.extract (x_ 15) 0), i_ 20 (.extract (x_ 15) 1), m_ 8 19, m_ 9 20],
   sq [r_ [m_ 21 9, i_ 22 (.bin .neq (x_ 21) (n_ 0)), m_ 23 22, hm_ 23 24 0, h_ 23 25 (.callR 129 [(x_ 24)] [ix]), hm_ 23 26 8, h_ 23 27 (.bin .neq (x_ 25) (x_ 26)), i_ 28 (.pick (x_ 23) T_ (x_ 27))],
    if_ 28 (sq [r_ [i_ 6 (.mov (c_ (.pointer none))), i_ 7 (.mov (n_ 18))],
      .ret]) (.skip)],
   sq [r_ [i_ 10 (.mov (n_ 1))],
    .block 0 (.loop [0, 1, 2, 8, 10] [0, 1, 2] [6, 7] pages_Format.L0)],
   sq [r_ [m_ 41 0, i_ 42 (.call 132 [(x_ 41)] [ix]), m_ 12 42],
    r_ [m_ 43 12, i_ 44 (.bin .neq (x_ 43) (n_ 0))],
    if_ 44 (sq [r_ [m_ 45 12, i_ 6 (.mov (c_ (.pointer none))), m_ 7 45],
      .ret]) (.skip)],
   r_ [m_ 46 0, m_ 47 1, m_ 48 2, i_ 49 (.call 133 [(x_ 46), (x_ 47), (x_ 48)] [.any]), m_ 13 49],
   sq [r_ [m_ 50 13, i_ 51 (.call 134 [(x_ 50), (k_ .u64 1)] [ix]), m_ 14 51],
    r_ [m_ 52 14, i_ 53 (.bin .neq (x_ 52) (n_ 0))],
    if_ 53 (sq [r_ [m_ 54 14, i_ 6 (.mov (c_ (.pointer none))), m_ 7 54],
      .ret]) (.skip)],
   r_ [m_ 55 13, m_ 6 55, i_ 7 (.mov (n_ 0))],
   .ret]⟩
def pages_Format.R0 (C : CallF) (N : Nat) := round (evalC C N pages_Format.L0) [0, 1, 2, 8, 10] [0, 1, 2] [6, 7]
def pages_Format.K0 (C : CallF) (N : Nat) : Ex → St → R := contC C N [.snd, .snd, .snd, .fst, .snd, .blk] pages_Format.a.body (finish pages_Format.a)

/-! 30: wharfage/pages.Load -/
def pages_Load.pol : Pol := { heap := [999999], ro := roList, rs := [2, 3] }
def pages_Load.a : AFun := ⟨1, [.tmp 2, .tmp 3],
  sq [r_ [i_ 2 (.mov (c_ (.pointer none))), i_ 3 (.mov (n_ 0))],
   sq [r_ [m_ 10 0, i_ 11 (.nilCmp false 1 (x_ 10))],
    if_ 11 (sq [r_ [i_ 2 (.mov (c_ (.pointer none))), i_ 3 (.mov (n_ 18))],
      .ret]) (.skip)],
   r_ [m_ 13 0, i_ 14 (.call 135 [(x_ 13)] [.any, .int .u64, ix]), m_ 12 14, i_ 15 (.extract (x_ 12) 0), i_ 16 (.extract (x_ 12) 1), i_ 17 (.extract (x_ 12) 2), m_ 4 15, m_ 5 16, m_ 6 17],
   sq [r_ [m_ 18 6, i_ 19 (.bin .neq (x_ 18) (n_ 0))],
    if_ 19 (sq [r_ [m_ 20 6, i_ 2 (.mov (c_ (.pointer none))), m_ 3 20],
      .ret]) (.skip)],
   sq [r_ [m_ 21 4, i_ 22 (.call 136 [(x_ 21)] [ix]), m_ 7 22],
    r_ [m_ 23 7, i_ 24 (.bin .neq (x_ 23) (n_ 0))],
    if_ 24 (sq [r_ [m_ 25 7, i_ 2 (.mov (c_ (.pointer none))), m_ 3 25],
      .ret]) (.skip)],
   sq [r_ [m_ 26 4, m_ 27 5, i_ 28 (.call 137 [(x_ 26), (x_ 27)] [ix]), m_ 8 28],
    r_ [m_ 29 8, i_ 30 (.bin .neq (x_ 29) (n_ 0))],
    if_ 30 (sq [r_ [m_ 31 8, i_ 2 (.mov (c_ (.pointer none))), m_ 3 31],
      .ret]) (.skip)],
   sq [r_ [m_ 32 4, m_ 33 5, i_ 34 (.bin .add (x_ 33) (k_ .u64 1)), i_ 35 (.call 138 [(x_ 32), (x_ 34)] [ix]), m_ 9 35],
    r_ [m_ 36 9, i_ 37 (.bin .neq (x_ 36) (n_ 0))],
    if_ 37 (sq [r_ [m_ 38 9, i_ 2 (.mov (c_ (.pointer none))), m_ 3 38],
      .ret]) (.skip)],
   r_ [m_ 39 4, m_ 2 39, i_ 3 (.mov (n_ 0))],
   .ret]⟩

/-! 31: (*wharfage/pages.Store).Read -/
def pages_Store_Read.pol : Pol := { heap := [999999], ro := roList, rs := [4, 5] }
def pages_Store_Read.a : AFun := ⟨2, [.tmp 4, .tmp 5],
  sq [r_ [i_ 4 (.mov (c_ (.string ⟨#[]⟩))), i_ 5 (.mov (n_ 0))],
   sq [r_ [m_ 6 1, i_ 7 (.bin .lss (x_ 6) (n_ 0)), m_ 8 7, hm_ 8 9 1, hm_ 8 10 0, h_ 8 11 (.callR 35 [(x_ 10)] [ix]), h_ 8 12 (.bin .geq (x_ 9) (x_ 11)), i_ 13 (.pick (x_ 8) T_ (x_ 12))],
    if_ 13 (sq [r_ [i_ 4 (.mov (c_ (.string ⟨#[]⟩))), i_ 5 (.mov (n_ 18))],
      .ret]) (.skip)],
   r_ [m_ 14 0, i_ 15 (.nilCk (x_ 14)), i_ 16 (.addr 2 (x_ 15)), i_ 17 (.load [.sl 1] false none (x_ 16)), m_ 18 1, i_ 19 (.indexAddrS 1 (x_ 17) (x_ 18)), i_ 20 (.load [.str] false none (x_ 19)), m_ 4 20, i_ 5 (.mov (n_ 0))],
   .ret]⟩

/-! 32: (*wharfage/pages.Store).Commit -/
def pages_Store_Commit.pol : Pol := { heap := [999999], ro := roList, rs := [4] }
def pages_Store_Commit.a : AFun := ⟨2, [.tmp 4],
  sq [r_ [i_ 4 (.mov (n_ 0))],
   .block 0 (sq [r_ [m_ 8 0, i_ 9 (.nilCmp false 1 (x_ 8)), m_ 10 9, hm_ 10 11 1, h_ 10 12 (.call 139 [(x_ 11)] [ix]), h_ 10 13 (.bin .neq (x_ 12) (n_ 0)), i_ 14 (.pick (x_ 10) T_ (x_ 13)), m_ 15 14, hm_ 15 16 0, hm_ 15 17 1, h_ 15 18 (.call 140 [(x_ 16), (x_ 17)] [.bool]), h_ 15 19 (.un .not (x_ 18)), i_ 20 (.pick (x_ 15) T_ (x_ 19)), m_ 7 20],
     if_ 7 (sq [r_ [i_ 4 (.mov (n_ 18))],
       .ret]) (sq [r_ [m_ 22 1, i_ 23 (.lenL (x_ 22)), m_ 24 0, i_ 25 (.nilCk (x_ 24)), i_ 26 (.addr 1 (x_ 25)), i_ 27 (.load [ix] false none (x_ 26)), i_ 28 (.bin .geq (x_ 23) (x_ 27)), m_ 21 28],
       if_ 21 (sq [r_ [i_ 4 (.mov (n_ 14))],
         .ret]) (sq [r_ [m_ 30 0, i_ 31 (.nilCk (x_ 30)), i_ 32 (.addr 0 (x_ 31)), i_ 33 (.load [.any] false none (x_ 32)), i_ 34 (.callR 141 [(x_ 33)] [.bool]), m_ 29 34],
         if_ 29 (sq [r_ [i_ 4 (.mov (n_ 17))],
           .ret]) (.skip)])])]),
   sq [r_ [m_ 35 1, i_ 36 (.lenL (x_ 35)), m_ 37 0, i_ 38 (.callR 36 [(x_ 37)] [ix]), i_ 39 (.bin .geq (x_ 36) (x_ 38))],
    if_ 39 (sq [r_ [m_ 40 0, m_ 41 0, i_ 42 (.callR 39 [(x_ 41)] [.int .u64]), i_ 43 (.bin .add (x_ 42) (k_ .u64 1)), i_ 44 (.call 138 [(x_ 40), (x_ 43)] [ix]), m_ 5 44],
      r_ [m_ 45 5, i_ 46 (.bin .neq (x_ 45) (n_ 0))],
      if_ 46 (sq [r_ [m_ 47 5, m_ 4 47],
        .ret]) (.skip)]) (.skip)],
   sq [r_ [m_ 48 0, i_ 49 (.nilCk (x_ 48)), i_ 50 (.addr 4 (x_ 49)), i_ 51 (.load [.any] false none (x_ 50)), m_ 52 1, i_ 53 (.call 142 [(x_ 51), (x_ 52)] [ix]), m_ 6 53],
    r_ [m_ 54 6, i_ 55 (.bin .neq (x_ 54) (n_ 0))],
    if_ 55 (sq [r_ [m_ 56 6, m_ 4 56],
      .ret]) (.skip)],
   r_ [m_ 57 0, m_ 58 1, i_ 59 (.call 143 [(x_ 57), (x_ 58)] [])],
   r_ [m_ 60 0, i_ 61 (.nilCk (x_ 60)), i_ 62 (.addr 5 (x_ 61)), i_ 63 (.load [ix] false none (x_ 62)), i_ 64 (.bin .add (x_ 63) (n_ 1)), i_ 65 (.nilCk (x_ 60)), i_ 66 (.addr 5 (x_ 65)), u_ (.store 1 none (x_ 66) (x_ 64))],
   r_ [i_ 4 (.mov (n_ 0))],
   .ret]⟩

/-! 33: (*wharfage/pages.Store).Flush -/
def pages_Store_Flush.pol : Pol := { heap := [999999], ro := roList, rs := [2] }
def pages_Store_Flush.a : AFun := ⟨1, [.tmp 2],
  sq [r_ [i_ 2 (.mov (n_ 0))],
   sq [r_ [m_ 5 0, i_ 6 (.callR 144 [(x_ 5)] [ix]), m_ 3 6],
    r_ [m_ 7 3, i_ 8 (.bin .neq (x_ 7) (n_ 0)), m_ 9 8, hm_ 9 10 0, h_ 9 11 (.nilCk (x_ 10)), h_ 9 12 (.addr 5 (x_ 11)), h_ 9 13 (.load [ix] false none (x_ 12)), h_ 9 14 (.bin .eql (x_ 13) (n_ 0)), i_ 15 (.pick (x_ 9) T_ (x_ 14))],
    if_ 15 (sq [r_ [m_ 16 3, m_ 2 16],
      .ret]) (.skip)],
   r_ [m_ 17 0, i_ 18 (.nilCk (x_ 17)), i_ 19 (.addr 0 (x_ 18)), i_ 20 (.load [.any] false none (x_ 19)), i_ 21 (.call 132 [(x_ 20)] [ix]), m_ 4 21],
   sq [r_ [m_ 22 4, i_ 23 (.bin .eql (x_ 22) (n_ 0))],
    if_ 23 (r_ [m_ 24 0, i_ 25 (.nilCk (x_ 24)), i_ 26 (.addr 5 (x_ 25)), u_ (.store 1 none (x_ 26) (n_ 0))]) (.skip)],
   r_ [m_ 27 4, m_ 2 27],
   .ret]⟩

/-! 34: (*wharfage/pages.Store).Checkpoint -/
def pages_Store_Checkpoint.pol : Pol := { heap := [999999], ro := roList, rs := [2] }
def pages_Store_Checkpoint.a : AFun := ⟨1, [.tmp 2],
  sq [r_ [i_ 2 (.mov (n_ 0))],
   sq [r_ [m_ 4 0, i_ 5 (.callR 144 [(x_ 4)] [ix]), m_ 3 5],
    r_ [m_ 6 3, i_ 7 (.bin .neq (x_ 6) (n_ 0)), m_ 8 7, hm_ 8 9 0, h_ 8 10 (.nilCk (x_ 9)), h_ 8 11 (.addr 4 (x_ 10)), h_ 8 12 (.load [.any] false none (x_ 11)), h_ 8 13 (.callR 145 [(x_ 12)] [.int .u64]), h_ 8 14 (.bin .eql (x_ 13) (k_ .u64 0)), i_ 15 (.pick (x_ 8) T_ (x_ 14))],
    if_ 15 (sq [r_ [m_ 16 3, m_ 2 16],
      .ret]) (.skip)],
   r_ [m_ 17 0, m_ 18 0, i_ 19 (.callR 39 [(x_ 18)] [.int .u64]), i_ 20 (.bin .add (x_ 19) (k_ .u64 1)), i_ 21 (.call 138 [(x_ 17), (x_ 20)] [ix]), m_ 2 21],
   .ret]⟩

/-! 35: (*wharfage/pages.Store).Pages -/
def pages_Store_Pages.pol : Pol := { heap := [999999], ro := roList, rs := [2] }
def pages_Store_Pages.a : AFun := ⟨1, [.tmp 2],
  sq [r_ [i_ 2 (.mov (n_ 0))],
   sq [r_ [m_ 3 0, i_ 4 (.nilCmp false 1 (x_ 3))],
    if_ 4 (sq [r_ [i_ 2 (.mov (n_ 0))],
      .ret]) (.skip)],
   r_ [m_ 5 0, i_ 6 (.nilCk (x_ 5)), i_ 7 (.addr 2 (x_ 6)), i_ 8 (.load [.sl 1] false none (x_ 7)), i_ 9 (.lenL (x_ 8)), m_ 2 9],
   .ret]⟩

/-! 36: (*wharfage/pages.Store).Room -/
def pages_Store_Room.pol : Pol := { heap := [999999], ro := roList, rs := [2] }
def pages_Store_Room.a : AFun := ⟨1, [.tmp 2],
  sq [r_ [i_ 2 (.mov (n_ 0))],
   sq [r_ [m_ 3 0, i_ 4 (.nilCmp false 1 (x_ 3))],
    if_ 4 (sq [r_ [i_ 2 (.mov (n_ 0))],
      .ret]) (.skip)],
   r_ [m_ 5 0, i_ 6 (.nilCk (x_ 5)), i_ 7 (.addr 4 (x_ 6)), i_ 8 (.load [.any] false none (x_ 7)), i_ 9 (.callR 146 [(x_ 8)] [ix]), m_ 2 9],
   .ret]⟩

/-! 37: (*wharfage/pages.Store).Waiting -/
def pages_Store_Waiting.pol : Pol := { heap := [999999], ro := roList, rs := [2] }
def pages_Store_Waiting.a : AFun := ⟨1, [.tmp 2],
  sq [r_ [i_ 2 (.mov (n_ 0))],
   sq [r_ [m_ 3 0, i_ 4 (.nilCmp false 1 (x_ 3))],
    if_ 4 (sq [r_ [i_ 2 (.mov (n_ 0))],
      .ret]) (.skip)],
   r_ [m_ 5 0, i_ 6 (.nilCk (x_ 5)), i_ 7 (.addr 5 (x_ 6)), i_ 8 (.load [ix] false none (x_ 7)), m_ 2 8],
   .ret]⟩

/-! 38: (*wharfage/pages.Store).Fresh -/
def pages_Store_Fresh.pol : Pol := { heap := [999999], ro := roList, rs := [2] }
def pages_Store_Fresh.a : AFun := ⟨1, [.tmp 2],
  sq [r_ [i_ 2 (.mov (n_ 0))],
   sq [r_ [m_ 3 0, i_ 4 (.nilCmp false 1 (x_ 3))],
    if_ 4 (sq [r_ [i_ 2 (.mov (n_ 0))],
      .ret]) (.skip)],
   r_ [m_ 5 0, i_ 6 (.nilCk (x_ 5)), i_ 7 (.addr 3 (x_ 6)), i_ 8 (.load [.any] false none (x_ 7)), i_ 9 (.mapLen (x_ 8)), m_ 2 9],
   .ret]⟩

/-! 39: (*wharfage/pages.Store).Epoch -/
def pages_Store_Epoch.pol : Pol := { heap := [999999], ro := roList, rs := [2] }
def pages_Store_Epoch.a : AFun := ⟨1, [.tmp 2],
  sq [r_ [i_ 2 (.mov (k_ .u64 0))],
   sq [r_ [m_ 3 0, i_ 4 (.nilCmp false 1 (x_ 3))],
    if_ 4 (sq [r_ [i_ 2 (.mov (k_ .u64 0))],
      .ret]) (.skip)],
   r_ [m_ 5 0, i_ 6 (.nilCk (x_ 5)), i_ 7 (.addr 4 (x_ 6)), i_ 8 (.load [.any] false none (x_ 7)), i_ 9 (.callR 147 [(x_ 8)] [.int .u64]), m_ 2 9],
   .ret]⟩

/-! 40: wharfage/wharfagelaw09.lives -/
def law09_lives.pol : Pol := { pure := [24, 41], heap := [999999], ro := roList, rs := [0] }
def law09_lives.a : AFun := ⟨0, [.tmp 0],
  sq [r_ [i_ 0 (.mov F_)],
   r_ [i_ 22 (.callP 41 [(n_ 8), (n_ 6)] [ix, ix]), m_ 21 22, i_ 23 (.extract (x_ 21) 0), i_ 24 (.extract (x_ 21) 1), m_ 1 23, m_ 2 24],
   r_ [i_ 26 (.call 43 [(n_ 15)] [.any, ix]), m_ 25 26, i_ 27 (.extract (x_ 25) 0), i_ 28 (.extract (x_ 25) 1), m_ 3 27, m_ 4 28],
   sq [r_ [m_ 29 2, i_ 30 (.bin .neq (x_ 29) (n_ 0)), m_ 31 30, hm_ 31 32 1, h_ 31 33 (.bin .neq (x_ 32) (n_ 15)), i_ 34 (.pick (x_ 31) T_ (x_ 33)), m_ 35 34, hm_ 35 36 4, h_ 35 37 (.bin .neq (x_ 36) (n_ 0)), i_ 38 (.pick (x_ 35) T_ (x_ 37)), m_ 39 38, hm_ 39 40 3, h_ 39 41 (.nilCmp false 1 (x_ 40)), i_ 42 (.pick (x_ 39) T_ (x_ 41))],
    if_ 42 (sq [r_ [i_ 0 (.mov F_)],
      .ret]) (.skip)],
   r_ [m_ 44 3, i_ 45 (.call 29 [(x_ 44), (n_ 8), (n_ 6)] [.any, ix]), m_ 43 45, i_ 46 (.extract (x_ 43) 0), i_ 47 (.extract (x_ 43) 1), m_ 5 46, m_ 6 47],
   r_ [m_ 49 3, i_ 50 (.call 29 [(x_ 49), (n_ 9), (n_ 6)] [.any, ix]), m_ 48 50, i_ 51 (.extract (x_ 48) 0), i_ 52 (.extract (x_ 48) 1), m_ 7 51, m_ 8 52],
   sq [r_ [m_ 53 6, i_ 54 (.bin .neq (x_ 53) (n_ 0)), m_ 55 54, hm_ 55 56 5, h_ 55 57 (.nilCmp false 1 (x_ 56)), i_ 58 (.pick (x_ 55) T_ (x_ 57)), m_ 59 58, hm_ 59 60 8, h_ 59 61 (.bin .neq (x_ 60) (n_ 18)), i_ 62 (.pick (x_ 59) T_ (x_ 61))],
    if_ 62 (sq [r_ [i_ 0 (.mov F_)],
      .ret]) (.skip)],
   r_ [m_ 63 5, i_ 64 (.callP 24 [(k_ .u8 7)] [.str]), i_ 65 (.build [(.at (.int .i64 0)), (.at (.string ⟨#[]⟩))] [(0, 1, (n_ 3)), (1, 1, (x_ 64))]), i_ 66 (.buildG 2 [(x_ 65)]), i_ 67 (.call 32 [(x_ 63), (x_ 66)] [ix]), m_ 9 67],
   r_ [m_ 68 5, i_ 69 (.callP 24 [(k_ .u8 7)] [.str]), i_ 70 (.build [(.at (.int .i64 0)), (.at (.string ⟨#[]⟩))] [(0, 1, (n_ 8)), (1, 1, (x_ 69))]), i_ 71 (.buildG 2 [(x_ 70)]), i_ 72 (.call 32 [(x_ 68), (x_ 71)] [ix]), m_ 10 72],
   r_ [m_ 73 5, i_ 74 (.callR 37 [(x_ 73)] [ix]), m_ 75 5, i_ 76 (.callR 38 [(x_ 75)] [ix]), m_ 77 5, i_ 78 (.callR 36 [(x_ 77)] [ix]), m_ 11 74, m_ 12 76, m_ 13 78],
   r_ [m_ 79 5, i_ 80 (.call 33 [(x_ 79)] [ix]), m_ 14 80],
   r_ [m_ 82 3, i_ 83 (.call 30 [(x_ 82)] [.any, ix]), m_ 81 83, i_ 84 (.extract (x_ 81) 0), i_ 85 (.extract (x_ 81) 1), m_ 15 84, m_ 16 85],
   sq [r_ [m_ 86 16, i_ 87 (.bin .neq (x_ 86) (n_ 0)), m_ 88 87, hm_ 88 89 15, h_ 88 90 (.nilCmp false 1 (x_ 89)), i_ 91 (.pick (x_ 88) T_ (x_ 90))],
    if_ 91 (sq [r_ [i_ 0 (.mov F_)],
      .ret]) (.skip)],
   r_ [m_ 93 15, i_ 94 (.callR 31 [(x_ 93), (n_ 3)] [.str, ix]), m_ 92 94, i_ 95 (.extract (x_ 92) 0), i_ 96 (.extract (x_ 92) 1), m_ 17 95, m_ 18 96],
   r_ [m_ 98 15, i_ 99 (.callR 31 [(x_ 98), (n_ 8)] [.str, ix]), m_ 97 99, i_ 100 (.extract (x_ 97) 0), i_ 101 (.extract (x_ 97) 1), m_ 19 100, m_ 20 101],
   r_ [m_ 102 9, i_ 103 (.bin .eql (x_ 102) (n_ 0)), m_ 104 103, gm_ 104 105 10, g_ 104 106 (.bin .eql (x_ 105) (n_ 18)), i_ 107 (.pick (x_ 104) (x_ 106) F_), m_ 108 107, gm_ 108 109 11, g_ 108 110 (.bin .eql (x_ 109) (n_ 1)), i_ 111 (.pick (x_ 108) (x_ 110) F_), m_ 112 111, gm_ 112 113 12, g_ 112 114 (.bin .eql (x_ 113) (n_ 1)), i_ 115 (.pick (x_ 112) (x_ 114) F_), m_ 116 115, gm_ 116 117 13, g_ 116 118 (.bin .eql (x_ 117) (n_ 4)), i_ 119 (.pick (x_ 116) (x_ 118) F_), m_ 120 119, gm_ 120 121 14, g_ 120 122 (.bin .eql (x_ 121) (n_ 0)), i_ 123 (.pick (x_ 120) (x_ 122) F_), m_ 124 123, gm_ 124 125 17, g_ 124 126 (.callP 24 [(k_ .u8 7)] [.str]), g_ 124 127 (.bin .eql (x_ 125) (x_ 126)), i_ 128 (.pick (x_ 124) (x_ 127) F_), m_ 129 128, gm_ 129 130 18, g_ 129 131 (.bin .eql (x_ 130) (n_ 0)), i_ 132 (.pick (x_ 129) (x_ 131) F_), m_ 133 132, gm_ 133 134 20, g_ 133 135 (.bin .eql (x_ 134) (n_ 18)), i_ 136 (.pick (x_ 133) (x_ 135) F_), m_ 137 136, gm_ 137 138 15, g_ 137 139 (.callR 39 [(x_ 138)] [.int .u64]), g_ 137 140 (.bin .eql (x_ 139) (k_ .u64 2)), i_ 141 (.pick (x_ 137) (x_ 140) F_), m_ 142 141, gm_ 142 143 15, g_ 142 144 (.callR 35 [(x_ 143)] [ix]), g_ 142 145 (.bin .eql (x_ 144) (n_ 8)), i_ 146 (.pick (x_ 142) (x_ 145) F_), m_ 147 146, gm_ 147 148 5, g_ 147 149 (.callR 37 [(x_ 148)] [ix]), g_ 147 150 (.bin .eql (x_ 149) (n_ 0)), i_ 151 (.pick (x_ 147) (x_ 150) F_), m_ 0 151],
   .ret]⟩

/-! 41: wharfage/pages.Size -/
def pages_Size.pol : Pol := { pure := [148], heap := [999999], ro := roList, rs := [4, 5] }
def pages_Size.a : AFun := ⟨2, [.tmp 4, .tmp 5],
  sq [r_ [i_ 4 (.mov (n_ 0)), i_ 5 (.mov (n_ 0))],
   sq [r_ [m_ 6 0, m_ 7 1, i_ 8 (.callP 148 [(x_ 6), (x_ 7)] [.bool]), i_ 9 (.un .not (x_ 8))],
    if_ 9 (sq [r_ [i_ 4 (.mov (n_ 0)), i_ 5 (.mov (n_ 18))],
      .ret]) (.skip)],
   r_ [m_ 10 1, i_ 11 (.bin .add (n_ 1) (x_ 10)), m_ 12 0, i_ 13 (.bin .add (x_ 11) (x_ 12)), m_ 4 13, i_ 5 (.mov (n_ 0))],
   .ret]⟩

/-! 42: wharfage/wharfagelaw09.small -/
def law09_small.pol : Pol := { heap := [999999], ro := roList, root := [(4, 4), (11, 4)], rs := [2], live := [([0, 5, 6, 7], [0])] }
def law09_small.L0 : ACode :=
  sq [r_ [i_ 8 (.bin .lss (x_ 7) (x_ 6))],
   if_ 8 (.skip) (.exit 0),
   .block 1 (sq [r_ [i_ 9 (.indexAddrS 5 (x_ 5) (x_ 7)), i_ 10 (.load [ix, .sl 3, ix, .int .u8, .sl 1] true none (x_ 9)), i_ 4 (.allocL [(.at (.int .i64 0)), (.sl true 3 []), (.at (.int .i64 0)), (.at (.int .u8 0)), (.sl true 1 [])]), u_ (.store 5 (some 4) (x_ 4) (x_ 10))],
     r_ [i_ 11 (.addr 1 (x_ 4)), i_ 12 (.load [.sl 3] false (some 4) (x_ 11)), i_ 13 (.lenL (x_ 12)), i_ 14 (.bin .gtr (x_ 13) (n_ 40))],
     if_ 14 (sq [r_ [i_ 2 (.mov F_)],
       .ret]) (.skip)]),
   r_ [i_ 15 (.bin .add (x_ 7) (n_ 1)), m_ 7 15]]
def law09_small.a : AFun := ⟨1, [.tmp 2],
  sq [r_ [i_ 2 (.mov F_)],
   sq [r_ [m_ 5 0, i_ 6 (.lenL (x_ 5)), i_ 7 (.mov (n_ 0))],
    .block 0 (.loop [0, 5, 6, 7] [0] [2] law09_small.L0)],
   r_ [m_ 16 0, i_ 17 (.lenL (x_ 16)), i_ 18 (.bin .leq (x_ 17) (n_ 30)), m_ 2 18],
   .ret]⟩
def law09_small.R0 (C : CallF) (N : Nat) := round (evalC C N law09_small.L0) [0, 5, 6, 7] [0] [2]
def law09_small.K0 (C : CallF) (N : Nat) : Ex → St → R := contC C N [.snd, .fst, .snd, .blk] law09_small.a.body (finish law09_small.a)

/-! 43: wharfage/disk.New -/
def disk_New.pol : Pol := { glob := [15], pure := [131], heap := [999999], ro := roList, rs := [2, 3] }
def disk_New.a : AFun := ⟨1, [.tmp 2, .tmp 3],
  sq [r_ [i_ 2 (.mov (c_ (.pointer none))), i_ 3 (.mov (n_ 0))],
   sq [r_ [m_ 4 0, i_ 5 (.bin .lss (x_ 4) (n_ 1)), m_ 6 5, hm_ 6 7 0, h_ 6 8 (.bin .gtr (x_ 7) (n_ 4865)), i_ 9 (.pick (x_ 6) T_ (x_ 8))],
    if_ 9 (sq [r_ [i_ 2 (.mov (c_ (.pointer none))), i_ 3 (.mov (n_ 18))],
      .ret]) (.skip)],
   r_ [i_ 10 (.callP 131 [] [.str]), i_ 11 (.buildG 1 [(x_ 10)]), m_ 12 0, i_ 13 (.call 149 [(x_ 11), (x_ 12)] [.any]), i_ 14 (.build [(.sl true 1 []), (.sl true 2 []), (.at (.int .i64 0)), (.at (.bool false)), (.at (.int .i64 0))] [(0, 1, (x_ 13))]), i_ 15 (.boxG (x_ 14)), m_ 2 15, i_ 3 (.mov (n_ 0))],
   .ret]⟩

/-! 44: wharfage/wharfagelaw09.texts -/
def law09_texts.pol : Pol := { heap := [999999], ro := roList, rs := [2], live := [([0, 3, 8, 9], [3])] }
def law09_texts.L0 : ACode :=
  sq [r_ [i_ 10 (.bin .lss (x_ 9) (x_ 8))],
   if_ 10 (.skip) (.exit 0),
   .block 1 (sq [r_ [m_ 11 9, m_ 4 11],
     r_ [m_ 13 0, m_ 14 4, i_ 15 (.callR 31 [(x_ 13), (x_ 14)] [.str, ix]), m_ 12 15, i_ 16 (.extract (x_ 12) 0), i_ 17 (.extract (x_ 12) 1), m_ 5 16, m_ 6 17],
     r_ [m_ 18 3, m_ 19 5, i_ 20 (.buildG 1 [(x_ 19)]), i_ 21 (.appendH none 1 16 (x_ 18) (x_ 20)), m_ 3 21]]),
   r_ [i_ 22 (.bin .add (x_ 9) (n_ 1)), m_ 9 22]]
def law09_texts.a : AFun := ⟨1, [.tmp 2],
  sq [r_ [i_ 2 (.nilS 1)],
   r_ [i_ 3 (.nilS 1)],
   sq [r_ [m_ 7 0, i_ 8 (.callR 35 [(x_ 7)] [ix]), i_ 9 (.mov (n_ 0))],
    .block 0 (.loop [0, 3, 8, 9] [3] [2] law09_texts.L0)],
   r_ [m_ 23 3, m_ 2 23],
   .ret]⟩
def law09_texts.R0 (C : CallF) (N : Nat) := round (evalC C N law09_texts.L0) [0, 3, 8, 9] [3] [2]
def law09_texts.K0 (C : CallF) (N : Nat) : Ex → St → R := contC C N [.snd, .snd, .fst, .snd, .blk] law09_texts.a.body (finish law09_texts.a)

/-! 45: wharfage/wharfagelaw08.Images -/
def law08_Images.pol : Pol := { pure := [24], heap := [999999], ro := roList, root := [(5, 5), (13, 5), (16, 5), (21, 5)], rs := [2], live := [([3, 7, 8, 9], [3])] }
def law08_Images.L0 : ACode :=
  sq [r_ [i_ 10 (.bin .lss (x_ 9) (x_ 8))],
   if_ 10 (.skip) (.exit 0),
   .block 1 (sq [r_ [i_ 11 (.indexAddrS 3 (x_ 7) (x_ 9)), i_ 12 (.load [ix, .int .u8, .bool] true none (x_ 11)), i_ 5 (.allocL [(.at (.int .i64 0)), (.at (.int .u8 0)), (.at (.bool false))]), u_ (.store 3 (some 5) (x_ 5) (x_ 12))],
     r_ [i_ 13 (.addr 1 (x_ 5)), i_ 14 (.load [.int .u8] false (some 5) (x_ 13)), i_ 15 (.callP 24 [(x_ 14)] [.str]), m_ 6 15],
     sq [r_ [i_ 16 (.addr 2 (x_ 5)), i_ 17 (.load [.bool] false (some 5) (x_ 16))],
      if_ 17 (r_ [m_ 18 6, i_ 19 (.sliceS (x_ 18) (some (n_ 1)) none), m_ 6 19]) (.skip)],
     r_ [m_ 20 3, i_ 21 (.addr 0 (x_ 5)), i_ 22 (.load [ix] false (some 5) (x_ 21)), m_ 23 6, i_ 24 (.build [(.at (.int .i64 0)), (.at (.string ⟨#[]⟩))] [(0, 1, (x_ 22)), (1, 1, (x_ 23))]), i_ 25 (.buildG 2 [(x_ 24)]), i_ 26 (.appendH none 2 24 (x_ 20) (x_ 25)), m_ 3 26]]),
   r_ [i_ 27 (.bin .add (x_ 9) (n_ 1)), m_ 9 27]]
def law08_Images.a : AFun := ⟨1, [.tmp 2],
  sq [r_ [i_ 2 (.nilS 2)],
   r_ [i_ 3 (.nilS 2)],
   sq [r_ [m_ 7 0, i_ 8 (.lenL (x_ 7)), i_ 9 (.mov (n_ 0))],
    .block 0 (.loop [3, 7, 8, 9] [3] [2] law08_Images.L0)],
   r_ [m_ 28 3, m_ 2 28],
   .ret]⟩
def law08_Images.R0 (C : CallF) (N : Nat) := round (evalC C N law08_Images.L0) [3, 7, 8, 9] [3] [2]
def law08_Images.K0 (C : CallF) (N : Nat) : Ex → St → R := contC C N [.snd, .snd, .fst, .snd, .blk] law08_Images.a.body (finish law08_Images.a)

/-! 46: wharfage/wharfagelaw08.Ours -/
def law08_Ours.pol : Pol := { heap := [999999], ro := roList, root := [(5, 5), (13, 5), (15, 5)], rs := [2], live := [([3, 6, 7, 8], [3])] }
def law08_Ours.L0 : ACode :=
  sq [r_ [i_ 9 (.bin .lss (x_ 8) (x_ 7))],
   if_ 9 (.skip) (.exit 0),
   .block 1 (sq [r_ [i_ 10 (.indexAddrS 2 (x_ 6) (x_ 8)), i_ 11 (.load [ix, .str] true none (x_ 10)), i_ 5 (.allocL [(.at (.int .i64 0)), (.at (.string ⟨#[]⟩))]), u_ (.store 2 (some 5) (x_ 5) (x_ 11))],
     r_ [m_ 12 3, i_ 13 (.addr 0 (x_ 5)), i_ 14 (.load [ix] false (some 5) (x_ 13)), i_ 15 (.addr 1 (x_ 5)), i_ 16 (.load [.str] false (some 5) (x_ 15)), i_ 17 (.build [(.at (.int .i64 0)), (.at (.string ⟨#[]⟩))] [(0, 1, (x_ 14)), (1, 1, (x_ 16))]), i_ 18 (.buildG 2 [(x_ 17)]), i_ 19 (.appendH none 2 24 (x_ 12) (x_ 18)), m_ 3 19]]),
   r_ [i_ 20 (.bin .add (x_ 8) (n_ 1)), m_ 8 20]]
def law08_Ours.a : AFun := ⟨1, [.tmp 2],
  sq [r_ [i_ 2 (.nilS 2)],
   r_ [i_ 3 (.nilS 2)],
   sq [r_ [m_ 6 0, i_ 7 (.lenL (x_ 6)), i_ 8 (.mov (n_ 0))],
    .block 0 (.loop [3, 6, 7, 8] [3] [2] law08_Ours.L0)],
   r_ [m_ 21 3, m_ 2 21],
   .ret]⟩
def law08_Ours.R0 (C : CallF) (N : Nat) := round (evalC C N law08_Ours.L0) [3, 6, 7, 8] [3] [2]
def law08_Ours.K0 (C : CallF) (N : Nat) : Ex → St → R := contC C N [.snd, .snd, .fst, .snd, .blk] law08_Ours.a.body (finish law08_Ours.a)

/-! 47: (*wharfage/disk.Disk).Arm -/
def disk_Disk_Arm.pol : Pol := { heap := [999999], ro := roList }
def disk_Disk_Arm.a : AFun := ⟨2, [],
  sq [r_ [m_ 4 0, i_ 5 (.nilCmp true 1 (x_ 4))],
   if_ 5 (r_ [m_ 6 0, m_ 7 1, i_ 8 (.minmax true [(x_ 7), (n_ 0)]), i_ 9 (.nilCk (x_ 6)), i_ 10 (.addr 2 (x_ 9)), u_ (.store 1 none (x_ 10) (x_ 8))]) (.skip)]⟩

/-! 48: (*wharfage/disk.Disk).Up -/
def disk_Disk_Up.pol : Pol := { glob := [3], heap := [999999], ro := roList, rs := [4] }
def disk_Disk_Up.a : AFun := ⟨2, [.tmp 4],
  sq [r_ [i_ 3 (.boxG (x_ 1)), i_ 4 (.mov (n_ 0))],
   sq [r_ [m_ 5 0, i_ 6 (.nilCmp false 1 (x_ 5))],
    if_ 6 (sq [r_ [i_ 4 (.mov (n_ 0))],
      .ret]) (.skip)],
   r_ [m_ 7 0, m_ 8 0, i_ 9 (.nilCk (x_ 7)), i_ 10 (.addr 3 (x_ 9)), u_ (.store 1 none (x_ 10) F_), i_ 11 (.nilCk (x_ 8)), i_ 12 (.addr 2 (x_ 11)), u_ (.store 1 none (x_ 12) (n_ 0))],
   r_ [m_ 13 0, i_ 14 (.makeFunc 151 [] [(x_ 3)]), i_ 15 (.call 150 [(x_ 13), (x_ 14)] [ix]), m_ 4 15],
   .ret]⟩

/-! 126: wharfage/octets.Pad -/
def octets_Pad.pol : Pol := { pure := [230], heap := [999999], ro := roList, rs := [4] }
def octets_Pad.a : AFun := ⟨2, [.tmp 4],
  sq [r_ [i_ 4 (.mov (c_ (.string ⟨#[]⟩)))],
   sq [r_ [m_ 5 1, i_ 6 (.bin .gtr (x_ 5) (n_ 65536)), m_ 7 6, hm_ 7 8 1, hm_ 7 9 0, h_ 7 10 (.lenS (x_ 9)), h_ 7 11 (.bin .leq (x_ 8) (x_ 10)), i_ 12 (.pick (x_ 7) T_ (x_ 11))],
    if_ 12 (sq [r_ [m_ 13 0, m_ 4 13],
      .ret]) (.skip)],
   r_ [m_ 14 0, m_ 15 1, m_ 16 0, i_ 17 (.lenS (x_ 16)), i_ 18 (.bin .sub (x_ 15) (x_ 17)), i_ 19 (.callP 230 [(c_ (.string ⟨#[0]⟩)), (x_ 18)] [.str]), i_ 20 (.bin .add (x_ 14) (x_ 19)), m_ 4 20],
   .ret]⟩

/-! 129: (*wharfage/disk.Disk).Len -/
def disk_Disk_Len.pol : Pol := { heap := [999999], ro := roList, rs := [2] }
def disk_Disk_Len.a : AFun := ⟨1, [.tmp 2],
  sq [r_ [i_ 2 (.mov (n_ 0))],
   sq [r_ [m_ 3 0, i_ 4 (.nilCmp false 1 (x_ 3))],
    if_ 4 (sq [r_ [i_ 2 (.mov (n_ 0))],
      .ret]) (.skip)],
   r_ [m_ 5 0, i_ 6 (.nilCk (x_ 5)), i_ 7 (.addr 0 (x_ 6)), i_ 8 (.load [.sl 1] false none (x_ 7)), i_ 9 (.lenL (x_ 8)), m_ 2 9],
   .ret]⟩

/-! 130: (*wharfage/disk.Disk).Write -/
def disk_Disk_Write.pol : Pol := { heap := [999999], ro := roList, rs := [6] }
def disk_Disk_Write.a : AFun := ⟨3, [.tmp 6],
  sq [r_ [i_ 6 (.mov (n_ 0))],
   sq [r_ [m_ 8 0, m_ 9 1, i_ 10 (.callR 234 [(x_ 8), (x_ 9)] [.bool]), i_ 11 (.un .not (x_ 10)), m_ 12 11, hm_ 12 13 2, h_ 12 14 (.lenS (x_ 13)), h_ 12 15 (.bin .neq (x_ 14) (n_ 512)), i_ 16 (.pick (x_ 12) T_ (x_ 15))],
    if_ 16 (sq [r_ [i_ 6 (.mov (n_ 18))],
      .ret]) (.skip)],
   r_ [m_ 17 0, i_ 18 (.call 235 [(x_ 17)] [ix]), m_ 7 18],
   sq [r_ [m_ 19 7, i_ 20 (.bin .eql (x_ 19) (n_ 0))],
    if_ 20 (r_ [m_ 21 0, m_ 22 0, i_ 23 (.nilCk (x_ 22)), i_ 24 (.addr 1 (x_ 23)), i_ 25 (.load [.sl 2] false none (x_ 24)), m_ 26 1, m_ 27 2, i_ 28 (.build [(.at (.int .i64 0)), (.at (.string ⟨#[]⟩))] [(0, 1, (x_ 26)), (1, 1, (x_ 27))]), i_ 29 (.buildG 2 [(x_ 28)]), i_ 30 (.appendH none 2 24 (x_ 25) (x_ 29)), i_ 31 (.nilCk (x_ 21)), i_ 32 (.addr 1 (x_ 31)), u_ (.store 1 none (x_ 32) (x_ 30))]) (.skip)],
   r_ [m_ 33 7, m_ 6 33],
   .ret]⟩

/-! 131: wharfage/sector.Blank -/
def sector_Blank.pol : Pol := { pure := [126], heap := [999999], ro := roList, rs := [0] }
def sector_Blank.a : AFun := ⟨0, [.tmp 0],
  sq [r_ [i_ 0 (.mov (c_ (.string ⟨#[]⟩)))],
   r_ [i_ 1 (.callP 126 [(c_ (.string ⟨#[]⟩)), (n_ 512)] [.str]), m_ 0 1],
   .ret]⟩

/-! 132: (*wharfage/disk.Disk).Flush -/
def disk_Disk_Flush.pol : Pol := { pure := [236], heap := [999999], ro := roList, rs := [2] }
def disk_Disk_Flush.a : AFun := ⟨1, [.tmp 2],
  sq [r_ [i_ 2 (.mov (n_ 0))],
   sq [r_ [m_ 4 0, i_ 5 (.nilCmp false 1 (x_ 4))],
    if_ 5 (sq [r_ [i_ 2 (.mov (n_ 18))],
      .ret]) (.skip)],
   r_ [m_ 6 0, i_ 7 (.call 235 [(x_ 6)] [ix]), m_ 3 7],
   sq [r_ [m_ 8 3, i_ 9 (.bin .eql (x_ 8) (n_ 0))],
    if_ 9 (r_ [m_ 10 0, i_ 11 (.call 150 [(x_ 10), (.func 236)] [ix])]) (.skip)],
   r_ [m_ 12 3, m_ 2 12],
   .ret]⟩

/-! 133: wharfage/pages.held -/
def pages_held.pol : Pol := { glob := [15], pure := [126], heap := [999999], ro := roList, rs := [6] }
def pages_held.a : AFun := ⟨3, [.tmp 6],
  sq [r_ [i_ 6 (.mov (c_ (.pointer none)))],
   r_ [m_ 7 0, m_ 8 2, i_ 9 (.callP 126 [(c_ (.string ⟨#[]⟩)), (n_ 480)] [.str]), i_ 10 (.buildG 1 [(x_ 9)]), m_ 11 1, i_ 12 (.call 149 [(x_ 10), (x_ 11)] [.any]), i_ 13 (.mkMap), i_ 14 (.build [(.at (.pointer none)), (.at (.int .i64 0)), (.sl true 1 []), (.at (.map none)), (.at (.pointer none)), (.at (.int .i64 0))] [(0, 1, (x_ 7)), (1, 1, (x_ 8)), (2, 1, (x_ 12)), (3, 1, (x_ 13))]), i_ 15 (.boxG (x_ 14)), m_ 6 15],
   .ret]⟩

/-! 134: (*wharfage/pages.Store).write -/
def pages_Store_write.pol : Pol := { pure := [237], heap := [999999], ro := roList, rs := [4] }
def pages_Store_write.a : AFun := ⟨2, [.tmp 4],
  sq [r_ [i_ 4 (.mov (n_ 0))],
   d_ [m_ 10 0, i_ 11 (.nilCk (x_ 10)), i_ 12 (.addr 2 (x_ 11)), i_ 13 (.load [.sl 1] false none (x_ 12)), i_ 14 (.lenL (x_ 13)), m_ 15 0, i_ 16 (.nilCk (x_ 15)), i_ 17 (.addr 1 (x_ 16)), i_ 18 (.load [ix] false none (x_ 17)), m_ 19 1, i_ 20 (.callP 237 [(x_ 14), (x_ 18), (x_ 19)] [.str, ix]), m_ 9 20, i_ 21 (.extract (x_ 9) 0), i_ 22 (.extract (x_ 9) 1), m_ 5 21, m_ 6 22],
   sq [r_ [m_ 23 6, i_ 24 (.bin .neq (x_ 23) (n_ 0))],
    if_ 24 (sq [r_ [m_ 25 6, m_ 4 25],
      .ret]) (.skip)],
   sq [r_ [m_ 26 0, i_ 27 (.nilCk (x_ 26)), i_ 28 (.addr 0 (x_ 27)), i_ 29 (.load [.any] false none (x_ 28)), m_ 30 5, i_ 31 (.call 130 [(x_ 29), (n_ 0), (x_ 30)] [ix]), m_ 7 31],
    r_ [m_ 32 7, i_ 33 (.bin .neq (x_ 32) (n_ 0))],
    if_ 33 (sq [r_ [m_ 34 7, m_ 4 34],
      .ret]) (.skip)],
   sq [r_ [m_ 35 0, i_ 36 (.nilCk (x_ 35)), i_ 37 (.addr 0 (x_ 36)), i_ 38 (.load [.any] false none (x_ 37)), i_ 39 (.call 132 [(x_ 38)] [ix]), m_ 8 39],
    r_ [m_ 40 8, i_ 41 (.bin .neq (x_ 40) (n_ 0))],
    if_ 41 (sq [r_ [m_ 42 8, m_ 4 42],
      .ret]) (.skip)],
   d_ [m_ 44 0, m_ 45 0, i_ 46 (.nilCk (x_ 45)), i_ 47 (.addr 0 (x_ 46)), i_ 48 (.load [.any] false none (x_ 47)), m_ 49 0, i_ 50 (.nilCk (x_ 49)), i_ 51 (.addr 1 (x_ 50)), i_ 52 (.load [ix] false none (x_ 51)), m_ 53 1, i_ 54 (.call 238 [(x_ 48), (x_ 52), (x_ 53)] [.any, ix]), m_ 43 54, i_ 55 (.extract (x_ 43) 0), i_ 56 (.extract (x_ 43) 1), i_ 57 (.nilCk (x_ 44)), i_ 58 (.addr 4 (x_ 57)), u_ (.store 1 none (x_ 58) (x_ 55)), m_ 6 56],
   r_ [m_ 59 6, m_ 4 59],
   .ret]⟩

/-! 135: wharfage/pages.open -/
def pages_open.pol : Pol := { pure := [41, 237, 240], heap := [999999], ro := roList, root := [(7, 7), (29, 7), (31, 7), (37, 7), (39, 7), (41, 7), (60, 7), (62, 7), (65, 7)], rs := [2, 3, 4] }
def pages_open.a : AFun := ⟨1, [.tmp 2, .tmp 3, .tmp 4],
  sq [r_ [i_ 2 (.mov (c_ (.pointer none))), i_ 3 (.mov (k_ .u64 0)), i_ 4 (.mov (n_ 0))],
   r_ [m_ 13 0, i_ 14 (.call 239 [(x_ 13), (n_ 0)] [.str, ix]), m_ 12 14, i_ 15 (.extract (x_ 12) 0), i_ 16 (.extract (x_ 12) 1), m_ 5 15, m_ 6 16],
   sq [r_ [m_ 17 6, i_ 18 (.bin .neq (x_ 17) (n_ 0))],
    if_ 18 (sq [r_ [m_ 19 6, i_ 2 (.mov (c_ (.pointer none))), i_ 3 (.mov (k_ .u64 0)), m_ 4 19],
      .ret]) (.skip)],
   r_ [m_ 21 5, i_ 22 (.callP 240 [(x_ 21)] [.ag, ix]), m_ 20 22, i_ 23 (.extract (x_ 20) 0), i_ 24 (.extract (x_ 20) 1), i_ 7 (.allocL [(.at (.int .i64 0)), (.at (.int .u64 0)), (.at (.int .u64 0)), (.at (.int .i64 0)), (.at (.int .i64 0)), (.at (.string ⟨#[]⟩))]), u_ (.store 6 (some 7) (x_ 7) (x_ 23)), m_ 6 24],
   sq [r_ [m_ 25 6, i_ 26 (.bin .neq (x_ 25) (n_ 0))],
    if_ 26 (sq [r_ [m_ 27 6, i_ 2 (.mov (c_ (.pointer none))), i_ 3 (.mov (k_ .u64 0)), m_ 4 27],
      .ret]) (.skip)],
   r_ [i_ 29 (.addr 3 (x_ 7)), i_ 30 (.load [ix] false (some 7) (x_ 29)), i_ 31 (.addr 4 (x_ 7)), i_ 32 (.load [ix] false (some 7) (x_ 31)), i_ 33 (.callP 41 [(x_ 30), (x_ 32)] [ix, ix]), m_ 28 33, i_ 34 (.extract (x_ 28) 0), i_ 35 (.extract (x_ 28) 1), m_ 8 34, m_ 9 35],
   r_ [i_ 37 (.addr 3 (x_ 7)), i_ 38 (.load [ix] false (some 7) (x_ 37)), i_ 39 (.addr 4 (x_ 7)), i_ 40 (.load [ix] false (some 7) (x_ 39)), i_ 41 (.addr 1 (x_ 7)), i_ 42 (.load [.int .u64] false (some 7) (x_ 41)), i_ 43 (.callP 237 [(x_ 38), (x_ 40), (x_ 42)] [.str, ix]), m_ 36 43, i_ 44 (.extract (x_ 36) 0), i_ 45 (.extract (x_ 36) 1), m_ 10 44, m_ 11 45],
   sq [r_ [m_ 46 9, i_ 47 (.bin .neq (x_ 46) (n_ 0)), m_ 48 47, hm_ 48 49 8, hm_ 48 50 0, h_ 48 51 (.callR 129 [(x_ 50)] [ix]), h_ 48 52 (.bin .neq (x_ 49) (x_ 51)), i_ 53 (.pick (x_ 48) T_ (x_ 52)), m_ 54 53, hm_ 54 55 5, hm_ 54 56 10, h_ 54 57 (.bin .neq (x_ 55) (x_ 56)), i_ 58 (.pick (x_ 54) T_ (x_ 57))],
    if_ 58 (sq [r_ [i_ 2 (.mov (c_ (.pointer none))), i_ 3 (.mov (k_ .u64 0)), i_ 4 (.mov (n_ 19))],
      .ret]) (.skip)],
   d_ [m_ 59 0, i_ 60 (.addr 3 (x_ 7)), i_ 61 (.load [ix] false (some 7) (x_ 60)), i_ 62 (.addr 4 (x_ 7)), i_ 63 (.load [ix] false (some 7) (x_ 62)), i_ 64 (.call 133 [(x_ 59), (x_ 61), (x_ 63)] [.any]), i_ 65 (.addr 1 (x_ 7)), i_ 66 (.load [.int .u64] false (some 7) (x_ 65)), m_ 2 64, m_ 3 66, i_ 4 (.mov (n_ 0))],
   .ret]⟩

/-! 136: (*wharfage/pages.Store).read -/
def pages_Store_read.pol : Pol := { pure := [242], heap := [999999], ro := roList, rs := [2], live := [([0, 10, 11], [])] }
def pages_Store_read.L0 : ACode :=
  sq [r_ [i_ 12 (.bin .lss (x_ 11) (x_ 10))],
   if_ 12 (.skip) (.exit 0),
   .block 1 (sq [r_ [m_ 13 11, m_ 3 13],
     d_ [m_ 15 0, i_ 16 (.nilCk (x_ 15)), i_ 17 (.addr 0 (x_ 16)), i_ 18 (.load [.any] false none (x_ 17)), m_ 19 0, m_ 20 3, i_ 21 (.callR 241 [(x_ 19), (x_ 20)] [ix]), i_ 22 (.call 239 [(x_ 18), (x_ 21)] [.str, ix]), m_ 14 22, i_ 23 (.extract (x_ 14) 0), i_ 24 (.extract (x_ 14) 1), m_ 4 23, m_ 5 24],
     sq [r_ [m_ 25 5, i_ 26 (.bin .neq (x_ 25) (n_ 0))],
      if_ 26 (sq [r_ [m_ 27 5, m_ 2 27],
        .ret]) (.skip)],
     d_ [m_ 29 0, i_ 30 (.nilCk (x_ 29)), i_ 31 (.addr 2 (x_ 30)), i_ 32 (.load [.sl 1] false none (x_ 31)), m_ 33 3, m_ 34 4, m_ 35 3, i_ 36 (.callP 242 [(x_ 34), (x_ 35)] [.str, ix]), m_ 28 36, i_ 37 (.extract (x_ 28) 0), i_ 38 (.extract (x_ 28) 1), i_ 39 (.indexAddrS 1 (x_ 32) (x_ 33)), u_ (.store 1 none (x_ 39) (x_ 37)), m_ 5 38],
     r_ [m_ 40 5, i_ 41 (.bin .neq (x_ 40) (n_ 0))],
     if_ 41 (sq [r_ [m_ 42 5, m_ 2 42],
       .ret]) (.skip)]),
   r_ [i_ 43 (.bin .add (x_ 11) (n_ 1)), m_ 11 43]]
def pages_Store_read.a : AFun := ⟨1, [.tmp 2],
  sq [r_ [i_ 2 (.mov (n_ 0))],
   sq [r_ [m_ 6 0, i_ 7 (.nilCk (x_ 6)), i_ 8 (.addr 2 (x_ 7)), i_ 9 (.load [.sl 1] false none (x_ 8)), i_ 10 (.lenL (x_ 9)), i_ 11 (.mov (n_ 0))],
    .block 0 (.loop [0, 10, 11] [] [2] pages_Store_read.L0)],
   r_ [i_ 2 (.mov (n_ 0))],
   .ret]⟩
def pages_Store_read.R0 (C : CallF) (N : Nat) := round (evalC C N pages_Store_read.L0) [0, 10, 11] [] [2]
def pages_Store_read.K0 (C : CallF) (N : Nat) : Ex → St → R := contC C N [.snd, .fst, .snd, .blk] pages_Store_read.a.body (finish pages_Store_read.a)

/-! 137: (*wharfage/pages.Store).replay -/
def pages_Store_replay.pol : Pol := { heap := [999999], ro := roList, rs := [4], live := [([0, 25, 26, 27], [])] }
def pages_Store_replay.L0 : ACode :=
  sq [r_ [i_ 28 (.bin .lss (x_ 27) (x_ 26))],
   if_ 28 (.skip) (.exit 0),
   .block 1 (sq [r_ [i_ 29 (.indexAddrS 1 (x_ 25) (x_ 27)), i_ 30 (.load [.sl 2] false none (x_ 29)), m_ 8 30],
     sq [r_ [m_ 31 0, m_ 32 8, i_ 33 (.call 140 [(x_ 31), (x_ 32)] [.bool]), i_ 34 (.un .not (x_ 33))],
      if_ 34 (sq [r_ [i_ 4 (.mov (n_ 19))],
        .ret]) (.skip)],
     r_ [m_ 35 0, m_ 36 8, i_ 37 (.call 143 [(x_ 35), (x_ 36)] [])]]),
   r_ [i_ 38 (.bin .add (x_ 27) (n_ 1)), m_ 27 38]]
def pages_Store_replay.a : AFun := ⟨2, [.tmp 4],
  sq [r_ [i_ 4 (.mov (n_ 0))],
   d_ [m_ 10 0, i_ 11 (.nilCk (x_ 10)), i_ 12 (.addr 0 (x_ 11)), i_ 13 (.load [.any] false none (x_ 12)), m_ 14 0, i_ 15 (.nilCk (x_ 14)), i_ 16 (.addr 1 (x_ 15)), i_ 17 (.load [ix] false none (x_ 16)), m_ 18 1, i_ 19 (.call 243 [(x_ 13), (x_ 17), (x_ 18)] [.any, ix]), m_ 9 19, i_ 20 (.extract (x_ 9) 0), i_ 21 (.extract (x_ 9) 1), m_ 5 20, m_ 6 21],
   sq [r_ [m_ 22 6, i_ 23 (.bin .neq (x_ 22) (n_ 0))],
    if_ 23 (sq [r_ [m_ 24 6, m_ 4 24],
      .ret]) (.skip)],
   sq [r_ [m_ 25 5, i_ 26 (.lenL (x_ 25)), i_ 27 (.mov (n_ 0))],
    .block 0 (.loop [0, 25, 26, 27] [] [4] pages_Store_replay.L0)],
   r_ [i_ 4 (.mov (n_ 0))],
   .ret]⟩
def pages_Store_replay.R0 (C : CallF) (N : Nat) := round (evalC C N pages_Store_replay.L0) [0, 25, 26, 27] [] [4]
def pages_Store_replay.K0 (C : CallF) (N : Nat) : Ex → St → R := contC C N [.snd, .snd, .snd, .fst, .snd, .blk] pages_Store_replay.a.body (finish pages_Store_replay.a)

/-! 138: (*wharfage/pages.Store).checkpoint -/
def pages_Store_checkpoint.pol : Pol := { pure := [245], heap := [999999], ro := roList, rs := [4], live := [([0, 1, 26, 27, 28], [0, 1])] }
def pages_Store_checkpoint.L0 : ACode :=
  sq [r_ [i_ 29 (.bin .lss (x_ 28) (x_ 27))],
   if_ 29 (.skip) (.exit 0),
   .block 1 (sq [r_ [i_ 30 (.indexAddrS 1 (x_ 26) (x_ 28)), i_ 31 (.load [ix] false none (x_ 30)), m_ 7 31],
     r_ [m_ 33 7, m_ 34 0, i_ 35 (.nilCk (x_ 34)), i_ 36 (.addr 2 (x_ 35)), i_ 37 (.load [.sl 1] false none (x_ 36)), m_ 38 7, i_ 39 (.indexAddrS 1 (x_ 37) (x_ 38)), i_ 40 (.load [.str] false none (x_ 39)), i_ 41 (.callP 245 [(x_ 33), (x_ 40)] [.str, ix]), m_ 32 41, i_ 42 (.extract (x_ 32) 0), i_ 43 (.extract (x_ 32) 1), m_ 8 42, m_ 9 43],
     sq [r_ [m_ 44 9, i_ 45 (.bin .neq (x_ 44) (n_ 0))],
      if_ 45 (sq [r_ [m_ 46 9, m_ 4 46],
        .ret]) (.skip)],
     d_ [m_ 47 0, i_ 48 (.nilCk (x_ 47)), i_ 49 (.addr 0 (x_ 48)), i_ 50 (.load [.any] false none (x_ 49)), m_ 51 0, m_ 52 7, i_ 53 (.callR 241 [(x_ 51), (x_ 52)] [ix]), m_ 54 8, i_ 55 (.call 130 [(x_ 50), (x_ 53), (x_ 54)] [ix]), m_ 10 55],
     r_ [m_ 56 10, i_ 57 (.bin .neq (x_ 56) (n_ 0))],
     if_ 57 (sq [r_ [m_ 58 10, m_ 4 58],
       .ret]) (.skip)]),
   r_ [i_ 59 (.bin .add (x_ 28) (n_ 1)), m_ 28 59]]
def pages_Store_checkpoint.a : AFun := ⟨2, [.tmp 4],
  sq [r_ [i_ 4 (.mov (n_ 0))],
   sq [r_ [m_ 13 0, i_ 14 (.nilCk (x_ 13)), i_ 15 (.addr 0 (x_ 14)), i_ 16 (.load [.any] false none (x_ 15)), i_ 17 (.call 132 [(x_ 16)] [ix]), m_ 5 17],
    r_ [m_ 18 5, i_ 19 (.bin .neq (x_ 18) (n_ 0))],
    if_ 19 (sq [r_ [m_ 20 5, m_ 4 20],
      .ret]) (.skip)],
   sq [r_ [m_ 21 0, i_ 22 (.nilCk (x_ 21)), i_ 23 (.addr 3 (x_ 22)), i_ 24 (.load [.any] false none (x_ 23)), i_ 25 (.call 244 [(x_ 24)] [.any]), i_ 26 (.call 226 [(x_ 25)] [.any]), i_ 27 (.lenL (x_ 26)), i_ 28 (.mov (n_ 0))],
    .block 0 (.loop [0, 1, 26, 27, 28] [0, 1] [4] pages_Store_checkpoint.L0)],
   sq [r_ [m_ 60 0, i_ 61 (.nilCk (x_ 60)), i_ 62 (.addr 0 (x_ 61)), i_ 63 (.load [.any] false none (x_ 62)), i_ 64 (.call 132 [(x_ 63)] [ix]), m_ 11 64],
    r_ [m_ 65 11, i_ 66 (.bin .neq (x_ 65) (n_ 0))],
    if_ 66 (sq [r_ [m_ 67 11, m_ 4 67],
      .ret]) (.skip)],
   sq [r_ [m_ 68 0, m_ 69 1, i_ 70 (.call 134 [(x_ 68), (x_ 69)] [ix]), m_ 12 70],
    r_ [m_ 71 12, i_ 72 (.bin .neq (x_ 71) (n_ 0))],
    if_ 72 (sq [r_ [m_ 73 12, m_ 4 73],
      .ret]) (.skip)],
   r_ [m_ 74 0, i_ 75 (.nilCk (x_ 74)), i_ 76 (.addr 3 (x_ 75)), i_ 77 (.load [.any] false none (x_ 76)), u_ (.mapClr (x_ 77))],
   r_ [m_ 78 0, i_ 79 (.nilCk (x_ 78)), i_ 80 (.addr 5 (x_ 79)), u_ (.store 1 none (x_ 80) (n_ 0))],
   r_ [i_ 4 (.mov (n_ 0))],
   .ret]⟩
def pages_Store_checkpoint.R0 (C : CallF) (N : Nat) := round (evalC C N pages_Store_checkpoint.L0) [0, 1, 26, 27, 28] [0, 1] [4]
def pages_Store_checkpoint.K0 (C : CallF) (N : Nat) : Ex → St → R := contC C N [.snd, .snd, .fst, .snd, .blk] pages_Store_checkpoint.a.body (finish pages_Store_checkpoint.a)

/-! 139: wharfage/journal.Check -/
def journal_Check.pol : Pol := { pure := [246], heap := [999999], ro := roList, root := [(5, 5), (13, 5), (18, 5), (25, 5), (30, 5)], rs := [2], live := [([0, 3, 7, 8, 9], [0])] }
def journal_Check.L0 : ACode :=
  sq [r_ [i_ 10 (.bin .lss (x_ 9) (x_ 8))],
   if_ 10 (.skip) (.exit 0),
   .block 1 (sq [r_ [i_ 11 (.indexAddrS 2 (x_ 7) (x_ 9)), i_ 12 (.load [ix, .str] true none (x_ 11)), i_ 5 (.allocL [(.at (.int .i64 0)), (.at (.string ⟨#[]⟩))]), u_ (.store 2 (some 5) (x_ 5) (x_ 12))],
     sq [r_ [i_ 13 (.addr 0 (x_ 5)), i_ 14 (.load [ix] false (some 5) (x_ 13)), i_ 15 (.callP 246 [(x_ 14)] [.bool]), i_ 16 (.un .not (x_ 15)), m_ 17 16, h_ 17 18 (.addr 1 (x_ 5)), h_ 17 19 (.load [.str] false (some 5) (x_ 18)), h_ 17 20 (.lenS (x_ 19)), h_ 17 21 (.bin .neq (x_ 20) (n_ 480)), i_ 22 (.pick (x_ 17) T_ (x_ 21)), m_ 23 22, hm_ 23 24 3, h_ 23 25 (.addr 0 (x_ 5)), h_ 23 26 (.load [ix] false (some 5) (x_ 25)), h_ 23 27 (.mapGet false [(.at (.bool false))] false false (x_ 24) (x_ 26)), i_ 28 (.pick (x_ 23) T_ (x_ 27))],
      if_ 28 (sq [r_ [i_ 2 (.mov (n_ 18))],
        .ret]) (.skip)],
     r_ [m_ 29 3, i_ 30 (.addr 0 (x_ 5)), i_ 31 (.load [ix] false (some 5) (x_ 30)), u_ (.mapSet false (x_ 29) (x_ 31) T_)]]),
   r_ [i_ 32 (.bin .add (x_ 9) (n_ 1)), m_ 9 32]]
def journal_Check.a : AFun := ⟨1, [.tmp 2],
  sq [r_ [i_ 2 (.mov (n_ 0))],
   r_ [i_ 6 (.mkMap), m_ 3 6],
   sq [r_ [m_ 7 0, i_ 8 (.lenL (x_ 7)), i_ 9 (.mov (n_ 0))],
    .block 0 (.loop [0, 3, 7, 8, 9] [0] [2] journal_Check.L0)],
   sq [r_ [m_ 33 0, i_ 34 (.lenL (x_ 33)), i_ 35 (.bin .eql (x_ 34) (n_ 0))],
    if_ 35 (sq [r_ [i_ 2 (.mov (n_ 18))],
      .ret]) (.skip)],
   r_ [i_ 2 (.mov (n_ 0))],
   .ret]⟩
def journal_Check.R0 (C : CallF) (N : Nat) := round (evalC C N journal_Check.L0) [0, 3, 7, 8, 9] [0] [2]
def journal_Check.K0 (C : CallF) (N : Nat) : Ex → St → R := contC C N [.snd, .snd, .fst, .snd, .blk] journal_Check.a.body (finish journal_Check.a)

/-! 140: (*wharfage/pages.Store).has -/
def pages_Store_has.pol : Pol := { glob := [2], heap := [999999], ro := roList, rs := [4] }
def pages_Store_has.a : AFun := ⟨2, [.tmp 4],
  sq [r_ [i_ 2 (.boxG (x_ 0)), i_ 4 (.mov F_)],
   r_ [m_ 5 1, i_ 6 (.makeFunc 248 [] [(x_ 2)]), i_ 7 (.call 247 [(x_ 5), (x_ 6)] [.bool]), i_ 8 (.un .not (x_ 7)), m_ 4 8],
   .ret]⟩

/-! 141: (*wharfage/disk.Disk).Down -/
def disk_Disk_Down.pol : Pol := { heap := [999999], ro := roList, rs := [2] }
def disk_Disk_Down.a : AFun := ⟨1, [.tmp 2],
  sq [r_ [i_ 2 (.mov F_)],
   r_ [m_ 3 0, i_ 4 (.nilCmp false 1 (x_ 3)), m_ 5 4, hm_ 5 6 0, h_ 5 7 (.nilCk (x_ 6)), h_ 5 8 (.addr 3 (x_ 7)), h_ 5 9 (.load [.bool] false none (x_ 8)), i_ 10 (.pick (x_ 5) T_ (x_ 9)), m_ 2 10],
   .ret]⟩

/-! 142: (*wharfage/journal.Journal).Append -/
def journal_Journal_Append.pol : Pol := { pure := [126], heap := [999999], ro := roList, root := [(6, 6), (33, 6), (36, 6), (8, 8)], rs := [4], live := [([0, 1, 24, 25, 26], [0, 1])] }
def journal_Journal_Append.L0 : ACode :=
  sq [r_ [i_ 27 (.bin .lss (x_ 26) (x_ 25))],
   if_ 27 (.skip) (.exit 1),
   .block 2 (sq [r_ [m_ 28 26, i_ 29 (.indexAddrS 2 (x_ 24) (x_ 26)), i_ 30 (.load [ix, .str] true none (x_ 29)), i_ 6 (.allocL [(.at (.int .i64 0)), (.at (.string ⟨#[]⟩))]), m_ 5 28, u_ (.store 2 (some 6) (x_ 6) (x_ 30))],
     r_ [m_ 31 0, m_ 32 5, i_ 33 (.addr 0 (x_ 6)), i_ 34 (.load [ix] false (some 6) (x_ 33)), m_ 35 5, i_ 36 (.addr 1 (x_ 6)), i_ 37 (.load [.str] false (some 6) (x_ 36)), i_ 38 (.build [(.at (.int .i64 0)), (.at (.int .u64 0)), (.at (.int .u64 0)), (.at (.int .i64 0)), (.at (.int .i64 0)), (.at (.string ⟨#[]⟩))] [(0, 1, (n_ 2)), (3, 1, (x_ 34)), (4, 1, (x_ 35)), (5, 1, (x_ 37))]), i_ 39 (.call 249 [(x_ 31), (x_ 32), (x_ 38)] [ix]), m_ 7 39],
     r_ [m_ 40 7, i_ 41 (.bin .neq (x_ 40) (n_ 0))],
     if_ 41 (sq [r_ [m_ 42 7, m_ 4 42],
       .ret]) (.skip)]),
   r_ [i_ 43 (.bin .add (x_ 26) (n_ 1)), m_ 26 43]]
def journal_Journal_Append.a : AFun := ⟨2, [.tmp 4],
  sq [r_ [i_ 4 (.mov (n_ 0))],
   .block 0 (sq [r_ [m_ 11 0, i_ 12 (.nilCmp false 1 (x_ 11)), m_ 13 12, hm_ 13 14 1, h_ 13 15 (.call 139 [(x_ 14)] [ix]), h_ 13 16 (.bin .neq (x_ 15) (n_ 0)), i_ 17 (.pick (x_ 13) T_ (x_ 16)), m_ 10 17],
     if_ 10 (sq [r_ [i_ 4 (.mov (n_ 18))],
       .ret]) (sq [r_ [m_ 19 1, i_ 20 (.lenL (x_ 19)), m_ 21 0, i_ 22 (.callR 146 [(x_ 21)] [ix]), i_ 23 (.bin .geq (x_ 20) (x_ 22)), m_ 18 23],
       if_ 18 (sq [r_ [i_ 4 (.mov (n_ 14))],
         .ret]) (.skip)])]),
   sq [r_ [m_ 24 1, i_ 25 (.lenL (x_ 24)), i_ 26 (.mov (n_ 0))],
    .block 1 (.loop [0, 1, 24, 25, 26] [0, 1] [4] journal_Journal_Append.L0)],
   r_ [m_ 44 1, i_ 45 (.lenL (x_ 44)), i_ 46 (.callP 126 [(c_ (.string ⟨#[]⟩)), (n_ 480)] [.str]), i_ 47 (.build [(.at (.int .i64 0)), (.at (.int .u64 0)), (.at (.int .u64 0)), (.at (.int .i64 0)), (.at (.int .i64 0)), (.at (.string ⟨#[]⟩))] [(0, 1, (n_ 3)), (4, 1, (x_ 45)), (5, 1, (x_ 46))]), i_ 8 (.allocL [(.at (.int .i64 0)), (.at (.int .u64 0)), (.at (.int .u64 0)), (.at (.int .i64 0)), (.at (.int .i64 0)), (.at (.string ⟨#[]⟩))]), u_ (.store 6 (some 8) (x_ 8) (x_ 47))],
   sq [r_ [m_ 48 0, m_ 49 1, i_ 50 (.lenL (x_ 49)), i_ 51 (.load [ix, .int .u64, .int .u64, ix, ix, .str] true (some 8) (x_ 8)), i_ 52 (.call 249 [(x_ 48), (x_ 50), (x_ 51)] [ix]), m_ 9 52],
    r_ [m_ 53 9, i_ 54 (.bin .neq (x_ 53) (n_ 0))],
    if_ 54 (sq [r_ [m_ 55 9, m_ 4 55],
      .ret]) (.skip)],
   r_ [m_ 56 0, i_ 57 (.nilCk (x_ 56)), i_ 58 (.addr 3 (x_ 57)), i_ 59 (.load [ix] false none (x_ 58)), m_ 60 1, i_ 61 (.lenL (x_ 60)), i_ 62 (.bin .add (x_ 61) (n_ 1)), i_ 63 (.bin .add (x_ 59) (x_ 62)), i_ 64 (.nilCk (x_ 56)), i_ 65 (.addr 3 (x_ 64)), u_ (.store 1 none (x_ 65) (x_ 63))],
   r_ [m_ 66 0, i_ 67 (.nilCk (x_ 66)), i_ 68 (.addr 4 (x_ 67)), i_ 69 (.load [.int .u64] false none (x_ 68)), i_ 70 (.bin .add (x_ 69) (k_ .u64 1)), i_ 71 (.nilCk (x_ 66)), i_ 72 (.addr 4 (x_ 71)), u_ (.store 1 none (x_ 72) (x_ 70))],
   r_ [i_ 4 (.mov (n_ 0))],
   .ret]⟩
def journal_Journal_Append.R0 (C : CallF) (N : Nat) := round (evalC C N journal_Journal_Append.L0) [0, 1, 24, 25, 26] [0, 1] [4]
def journal_Journal_Append.K0 (C : CallF) (N : Nat) : Ex → St → R := contC C N [.snd, .snd, .fst, .snd, .blk] journal_Journal_Append.a.body (finish journal_Journal_Append.a)

/-! 143: (*wharfage/pages.Store).change -/
def pages_Store_change.pol : Pol := { heap := [999999], ro := roList, root := [(5, 5), (16, 5), (18, 5), (25, 5)], live := [([0, 6, 7, 8], [])] }
def pages_Store_change.L0 : ACode :=
  sq [r_ [i_ 9 (.bin .lss (x_ 8) (x_ 7))],
   if_ 9 (.skip) (.exit 0),
   .block 1 (sq [r_ [i_ 10 (.indexAddrS 2 (x_ 6) (x_ 8)), i_ 11 (.load [ix, .str] true none (x_ 10)), i_ 5 (.allocL [(.at (.int .i64 0)), (.at (.string ⟨#[]⟩))]), u_ (.store 2 (some 5) (x_ 5) (x_ 11))],
     d_ [m_ 12 0, i_ 13 (.nilCk (x_ 12)), i_ 14 (.addr 2 (x_ 13)), i_ 15 (.load [.sl 1] false none (x_ 14)), i_ 16 (.addr 0 (x_ 5)), i_ 17 (.load [ix] false (some 5) (x_ 16)), i_ 18 (.addr 1 (x_ 5)), i_ 19 (.load [.str] false (some 5) (x_ 18)), i_ 20 (.indexAddrS 1 (x_ 15) (x_ 17)), u_ (.store 1 none (x_ 20) (x_ 19))],
     d_ [m_ 21 0, i_ 22 (.nilCk (x_ 21)), i_ 23 (.addr 3 (x_ 22)), i_ 24 (.load [.any] false none (x_ 23)), i_ 25 (.addr 0 (x_ 5)), i_ 26 (.load [ix] false (some 5) (x_ 25)), u_ (.mapSet false (x_ 24) (x_ 26) T_)]]),
   r_ [i_ 27 (.bin .add (x_ 8) (n_ 1)), m_ 8 27]]
def pages_Store_change.a : AFun := ⟨2, [],
  sq [r_ [m_ 6 1, i_ 7 (.lenL (x_ 6)), i_ 8 (.mov (n_ 0))],
   .block 0 (.loop [0, 6, 7, 8] [] [] pages_Store_change.L0)]⟩
def pages_Store_change.R0 (C : CallF) (N : Nat) := round (evalC C N pages_Store_change.L0) [0, 6, 7, 8] [] []
def pages_Store_change.K0 (C : CallF) (N : Nat) : Ex → St → R := contC C N [.snd, .blk] pages_Store_change.a.body (finish pages_Store_change.a)

/-! 144: (*wharfage/pages.Store).may -/
def pages_Store_may.pol : Pol := { heap := [999999], ro := roList, rs := [2] }
def pages_Store_may.a : AFun := ⟨1, [.tmp 2],
  sq [r_ [i_ 2 (.mov (n_ 0))],
   .block 0 (sq [r_ [m_ 4 0, i_ 5 (.nilCmp false 1 (x_ 4)), m_ 3 5],
     if_ 3 (sq [r_ [i_ 2 (.mov (n_ 18))],
       .ret]) (sq [r_ [m_ 7 0, i_ 8 (.nilCk (x_ 7)), i_ 9 (.addr 0 (x_ 8)), i_ 10 (.load [.any] false none (x_ 9)), i_ 11 (.callR 141 [(x_ 10)] [.bool]), m_ 6 11],
       if_ 6 (sq [r_ [i_ 2 (.mov (n_ 17))],
         .ret]) (.skip)])]),
   r_ [i_ 2 (.mov (n_ 0))],
   .ret]⟩

/-! 145: (*wharfage/journal.Journal).Number -/
def journal_Journal_Number.pol : Pol := { heap := [999999], ro := roList, rs := [2] }
def journal_Journal_Number.a : AFun := ⟨1, [.tmp 2],
  sq [r_ [i_ 2 (.mov (k_ .u64 0))],
   sq [r_ [m_ 3 0, i_ 4 (.nilCmp false 1 (x_ 3))],
    if_ 4 (sq [r_ [i_ 2 (.mov (k_ .u64 0))],
      .ret]) (.skip)],
   r_ [m_ 5 0, i_ 6 (.nilCk (x_ 5)), i_ 7 (.addr 4 (x_ 6)), i_ 8 (.load [.int .u64] false none (x_ 7)), m_ 2 8],
   .ret]⟩

/-! 146: (*wharfage/journal.Journal).Room -/
def journal_Journal_Room.pol : Pol := { heap := [999999], ro := roList, rs := [2] }
def journal_Journal_Room.a : AFun := ⟨1, [.tmp 2],
  sq [r_ [i_ 2 (.mov (n_ 0))],
   sq [r_ [m_ 3 0, i_ 4 (.nilCmp false 1 (x_ 3))],
    if_ 4 (sq [r_ [i_ 2 (.mov (n_ 0))],
      .ret]) (.skip)],
   d_ [m_ 5 0, i_ 6 (.nilCk (x_ 5)), i_ 7 (.addr 1 (x_ 6)), i_ 8 (.load [ix] false none (x_ 7)), m_ 9 0, i_ 10 (.nilCk (x_ 9)), i_ 11 (.addr 3 (x_ 10)), i_ 12 (.load [ix] false none (x_ 11)), i_ 13 (.bin .sub (x_ 8) (x_ 12)), m_ 2 13],
   .ret]⟩

/-! 147: (*wharfage/journal.Journal).Epoch -/
def journal_Journal_Epoch.pol : Pol := { heap := [999999], ro := roList, rs := [2] }
def journal_Journal_Epoch.a : AFun := ⟨1, [.tmp 2],
  sq [r_ [i_ 2 (.mov (k_ .u64 0))],
   sq [r_ [m_ 3 0, i_ 4 (.nilCmp false 1 (x_ 3))],
    if_ 4 (sq [r_ [i_ 2 (.mov (k_ .u64 0))],
      .ret]) (.skip)],
   r_ [m_ 5 0, i_ 6 (.nilCk (x_ 5)), i_ 7 (.addr 2 (x_ 6)), i_ 8 (.load [.int .u64] false none (x_ 7)), m_ 2 8],
   .ret]⟩

/-! 148: wharfage/pages.sizes -/
def pages_sizes.pol : Pol := { heap := [999999], ro := roList, rs := [4] }
def pages_sizes.a : AFun := ⟨2, [.tmp 4],
  sq [r_ [i_ 4 (.mov F_)],
   r_ [m_ 5 0, i_ 6 (.bin .geq (x_ 5) (n_ 8)), m_ 7 6, gm_ 7 8 0, g_ 7 9 (.bin .leq (x_ 8) (n_ 3840)), i_ 10 (.pick (x_ 7) (x_ 9) F_), m_ 11 10, gm_ 11 12 1, g_ 11 13 (.bin .geq (x_ 12) (n_ 4)), i_ 14 (.pick (x_ 11) (x_ 13) F_), m_ 15 14, gm_ 15 16 1, g_ 15 17 (.bin .leq (x_ 16) (n_ 1024)), i_ 18 (.pick (x_ 15) (x_ 17) F_), m_ 4 18],
   .ret]⟩

/-! 149: slices.Repeat[[]string,string] -/
def slices_Repeat_string_string.pol : Pol := { pure := [250], heap := [999999], ro := roList, rs := [4], live := [([7, 8], [7])] }
def slices_Repeat_string_string.L0 : ACode :=
  sq [sq [r_ [m_ 34 8, m_ 35 7, i_ 36 (.lenL (x_ 35)), i_ 37 (.bin .lss (x_ 34) (x_ 36))],
    if_ 37 (.skip) (.exit 0)],
   .block 1 (d_ [m_ 38 8, m_ 39 7, m_ 40 8, i_ 41 (.sliceV 1 (x_ 39) (some (x_ 40)) none), m_ 42 7, m_ 43 8, i_ 44 (.sliceV 1 (x_ 42) none (some (x_ 43))), i_ 45 (.copyG 1 (x_ 41) (x_ 44)), i_ 46 (.bin .add (x_ 38) (x_ 45)), m_ 8 46])]
def slices_Repeat_string_string.a : AFun := ⟨2, [.tmp 4],
  sq [r_ [i_ 4 (.nilS 1)],
   sq [r_ [m_ 9 1, i_ 10 (.bin .lss (x_ 9) (n_ 0))],
    if_ 10 (r_ [i_ 11 (.mkIfc 9 (c_ (.string ⟨#[99, 97, 110, 110, 111, 116, 32, 98, 101, 32, 110, 101, 103, 97, 116, 105, 118, 101]⟩))), u_ (.panicI (x_ 11))]) (.skip)],
   r_ [m_ 13 0, i_ 14 (.lenL (x_ 13)), i_ 15 (.convI .u64 (x_ 14)), m_ 16 1, i_ 17 (.convI .u64 (x_ 16)), i_ 18 (.callP 250 [(x_ 15), (x_ 17)] [.int .u64, .int .u64]), m_ 12 18, i_ 19 (.extract (x_ 12) 0), i_ 20 (.extract (x_ 12) 1), m_ 5 19, m_ 6 20],
   sq [r_ [m_ 21 5, i_ 22 (.bin .gtr (x_ 21) (k_ .u64 0)), m_ 23 22, hm_ 23 24 6, h_ 23 25 (.bin .gtr (x_ 24) (k_ .u64 9223372036854775807)), i_ 26 (.pick (x_ 23) T_ (x_ 25))],
    if_ 26 (r_ [i_ 27 (.mkIfc 9 (c_ (.string ⟨#[116, 104, 101, 32, 114, 101, 115, 117, 108, 116, 32, 111, 102, 32, 40, 108, 101, 110, 40, 120, 41, 32, 42, 32, 99, 111, 117, 110, 116, 41, 32, 111, 118, 101, 114, 102, 108, 111, 119, 115]⟩))), u_ (.panicI (x_ 27))]) (.skip)],
   r_ [m_ 28 6, i_ 29 (.convI .i64 (x_ 28)), i_ 30 (.makeG 1 16 [(.at (.string ⟨#[]⟩))] (x_ 29) (x_ 29)), m_ 7 30],
   r_ [m_ 31 7, m_ 32 0, i_ 33 (.copyG 1 (x_ 31) (x_ 32)), m_ 8 33],
   .block 0 (.loop [7, 8] [7] [4] slices_Repeat_string_string.L0),
   r_ [m_ 47 7, m_ 4 47],
   .ret]⟩
def slices_Repeat_string_string.R0 (C : CallF) (N : Nat) := round (evalC C N slices_Repeat_string_string.L0) [7, 8] [7] [4]
def slices_Repeat_string_string.K0 (C : CallF) (N : Nat) : Ex → St → R := contC C N [.snd, .snd, .snd, .snd, .snd, .snd, .fst, .blk] slices_Repeat_string_string.a.body (finish slices_Repeat_string_string.a)

/-! 150: (*wharfage/disk.Disk).settle -/
def disk_Disk_settle.pol : Pol := { heap := [999999], ro := roList, root := [(7, 7), (25, 7), (27, 7)], rs := [4], live := [([0, 1, 5, 11, 12, 13], [0, 5])] }
def disk_Disk_settle.L0 : ACode :=
  sq [r_ [i_ 14 (.bin .lss (x_ 13) (x_ 12))],
   if_ 14 (.skip) (.exit 0),
   .block 1 (sq [r_ [m_ 15 13, i_ 16 (.indexAddrS 2 (x_ 11) (x_ 13)), i_ 17 (.load [ix, .str] true none (x_ 16)), i_ 7 (.allocL [(.at (.int .i64 0)), (.at (.string ⟨#[]⟩))]), m_ 6 15, u_ (.store 2 (some 7) (x_ 7) (x_ 17))],
     r_ [m_ 18 1, m_ 19 6, i_ 20 (.callV (x_ 18) [(x_ 19)] [.bool])],
     if_ 20 (sq [d_ [m_ 21 0, i_ 22 (.nilCk (x_ 21)), i_ 23 (.addr 0 (x_ 22)), i_ 24 (.load [.sl 1] false none (x_ 23)), i_ 25 (.addr 0 (x_ 7)), i_ 26 (.load [ix] false (some 7) (x_ 25)), i_ 27 (.addr 1 (x_ 7)), i_ 28 (.load [.str] false (some 7) (x_ 27)), i_ 29 (.indexAddrS 1 (x_ 24) (x_ 26)), u_ (.store 1 none (x_ 29) (x_ 28))],
       r_ [m_ 30 5, i_ 31 (.bin .add (x_ 30) (n_ 1)), m_ 5 31]]) (.skip)]),
   r_ [i_ 32 (.bin .add (x_ 13) (n_ 1)), m_ 13 32]]
def disk_Disk_settle.a : AFun := ⟨2, [.tmp 4],
  sq [r_ [i_ 4 (.mov (n_ 0))],
   r_ [i_ 5 (.mov (n_ 0))],
   sq [r_ [m_ 8 0, i_ 9 (.nilCk (x_ 8)), i_ 10 (.addr 1 (x_ 9)), i_ 11 (.load [.sl 2] false none (x_ 10)), i_ 12 (.lenL (x_ 11)), i_ 13 (.mov (n_ 0))],
    .block 0 (.loop [0, 1, 5, 11, 12, 13] [0, 5] [4] disk_Disk_settle.L0)],
   r_ [m_ 33 0, i_ 34 (.nilCk (x_ 33)), i_ 35 (.addr 1 (x_ 34)), u_ (.store 1 none (x_ 35) (c_ (.slice none 0 0)))],
   r_ [m_ 36 5, m_ 4 36],
   .ret]⟩
def disk_Disk_settle.R0 (C : CallF) (N : Nat) := round (evalC C N disk_Disk_settle.L0) [0, 1, 5, 11, 12, 13] [0, 5] [4]
def disk_Disk_settle.K0 (C : CallF) (N : Nat) : Ex → St → R := contC C N [.snd, .snd, .fst, .snd, .blk] disk_Disk_settle.a.body (finish disk_Disk_settle.a)

/-! 151: (*wharfage/disk.Disk).Up$1 -/
def disk_Disk_Up_1.pol : Pol := { heap := [999999], ro := roList, rs := [3] }
def disk_Disk_Up_1.a : AFun := ⟨2, [.tmp 3],
  sq [r_ [i_ 3 (.mov F_)],
   r_ [m_ 4 0, i_ 5 (.load [.sl 1] false none (x_ 1)), i_ 6 (.lenL (x_ 5)), i_ 7 (.bin .lss (x_ 4) (x_ 6)), m_ 8 7, g_ 8 9 (.load [.sl 1] false none (x_ 1)), gm_ 8 10 0, g_ 8 11 (.indexAddrS 1 (x_ 9) (x_ 10)), g_ 8 12 (.load [.bool] false none (x_ 11)), i_ 13 (.pick (x_ 8) (x_ 12) F_), m_ 3 13],
   .ret]⟩

/-! 186: wharfage/octets.Open -/
def octets_Open.pol : Pol := { glob := [5], heap := [999999], ro := roList, rs := [2] }
def octets_Open.a : AFun := ⟨1, [.tmp 2],
  sq [r_ [i_ 2 (.mov (c_ (.pointer none)))],
   r_ [m_ 3 0, i_ 4 (.build [(.at (.string ⟨#[]⟩)), (.at (.int .i64 0))] [(0, 1, (x_ 3))]), i_ 5 (.boxG (x_ 4)), m_ 2 5],
   .ret]⟩

/-! 187: (*wharfage/octets.Reader).Num -/
def octets_Reader_Num.pol : Pol := { pure := [277], heap := [999999], ro := roList, root := [(14, 14), (18, 14)], rs := [4], live := [([5, 14, 15, 16], [5])] }
def octets_Reader_Num.L0 : ACode :=
  sq [r_ [i_ 17 (.bin .lss (x_ 16) (x_ 15))],
   if_ 17 (.skip) (.exit 0),
   .block 1 (sq [r_ [i_ 18 (.indexAddrS 1 (x_ 14) (x_ 16)), i_ 19 (.load [.int .u8] false (some 14) (x_ 18)), m_ 7 19],
     r_ [m_ 20 5, i_ 21 (.bin .shl (x_ 20) (k_ .u64 8)), m_ 22 7, i_ 23 (.convI .u64 (x_ 22)), i_ 24 (.bin .or (x_ 21) (x_ 23)), m_ 5 24]]),
   r_ [i_ 25 (.bin .add (x_ 16) (n_ 1)), m_ 16 25]]
def octets_Reader_Num.a : AFun := ⟨2, [.tmp 4],
  sq [r_ [i_ 4 (.mov (k_ .u64 0))],
   sq [r_ [m_ 8 1, i_ 9 (.callP 277 [(x_ 8)] [.bool]), i_ 10 (.un .not (x_ 9))],
    if_ 10 (r_ [i_ 1 (.mov (n_ (-1)))]) (.skip)],
   r_ [i_ 5 (.mov (k_ .u64 0))],
   sq [r_ [m_ 11 0, m_ 12 1, i_ 13 (.call 278 [(x_ 11), (x_ 12)] [.str]), i_ 14 (.toBytes (x_ 13)), i_ 15 (.lenL (x_ 14)), i_ 16 (.mov (n_ 0))],
    .block 0 (.loop [5, 14, 15, 16] [5] [4] octets_Reader_Num.L0)],
   r_ [m_ 26 5, m_ 4 26],
   .ret]⟩
def octets_Reader_Num.R0 (C : CallF) (N : Nat) := round (evalC C N octets_Reader_Num.L0) [5, 14, 15, 16] [5] [4]
def octets_Reader_Num.K0 (C : CallF) (N : Nat) : Ex → St → R := contC C N [.snd, .snd, .snd, .fst, .snd, .blk] octets_Reader_Num.a.body (finish octets_Reader_Num.a)

/-! 194: wharfage/octets.Num -/
def octets_Num.pol : Pol := { glob := [5], pure := [277], heap := [999999], ro := roList, rs := [4], live := [([0, 1, 5, 10, 11], [0, 5])] }
def octets_Num.L0 : ACode :=
  sq [r_ [i_ 12 (.bin .lss (x_ 11) (x_ 10))],
   if_ 12 (.skip) (.exit 0),
   .block 1 (sq [r_ [m_ 13 11, m_ 6 13],
     r_ [m_ 14 0, i_ 15 (.bin .sub (x_ 14) (n_ 1)), m_ 16 6, i_ 17 (.bin .sub (x_ 15) (x_ 16)), m_ 18 1, m_ 19 6, i_ 20 (.bin .mul (n_ 8) (x_ 19)), i_ 21 (.bin .shr (x_ 18) (x_ 20)), i_ 22 (.convI .u8 (x_ 21)), i_ 23 (.indexAddrA 8 1 (x_ 5) (x_ 17)), u_ (.store 1 none (x_ 23) (x_ 22))]]),
   r_ [i_ 24 (.bin .add (x_ 11) (n_ 1)), m_ 11 24]]
def octets_Num.a : AFun := ⟨2, [.tmp 4],
  sq [r_ [i_ 4 (.mov (c_ (.string ⟨#[]⟩)))],
   sq [r_ [m_ 7 0, i_ 8 (.callP 277 [(x_ 7)] [.bool]), i_ 9 (.un .not (x_ 8))],
    if_ 9 (sq [r_ [i_ 4 (.mov (c_ (.string ⟨#[]⟩)))],
      .ret]) (.skip)],
   r_ [i_ 5 (.allocG none [(.at (.int .u8 0)), (.at (.int .u8 0)), (.at (.int .u8 0)), (.at (.int .u8 0)), (.at (.int .u8 0)), (.at (.int .u8 0)), (.at (.int .u8 0)), (.at (.int .u8 0))])],
   sq [r_ [m_ 10 0, i_ 11 (.mov (n_ 0))],
    .block 0 (.loop [0, 1, 5, 10, 11] [0, 5] [4] octets_Num.L0)],
   r_ [m_ 25 0, i_ 26 (.sliceA 8 1 none (x_ 5) none (some (x_ 25))), i_ 27 (.toStrG (x_ 26)), m_ 4 27],
   .ret]⟩
def octets_Num.R0 (C : CallF) (N : Nat) := round (evalC C N octets_Num.L0) [0, 1, 5, 10, 11] [0, 5] [4]
def octets_Num.K0 (C : CallF) (N : Nat) : Ex → St → R := contC C N [.snd, .snd, .snd, .fst, .snd, .blk] octets_Num.a.body (finish octets_Num.a)

/-! 234: (*wharfage/disk.Disk).has -/
def disk_Disk_has.pol : Pol := { heap := [999999], ro := roList, rs := [4] }
def disk_Disk_has.a : AFun := ⟨2, [.tmp 4],
  sq [r_ [i_ 4 (.mov F_)],
   r_ [m_ 5 1, i_ 6 (.bin .geq (x_ 5) (n_ 0)), m_ 7 6, gm_ 7 8 1, gm_ 7 9 0, g_ 7 10 (.callR 129 [(x_ 9)] [ix]), g_ 7 11 (.bin .lss (x_ 8) (x_ 10)), i_ 12 (.pick (x_ 7) (x_ 11) F_), m_ 4 12],
   .ret]⟩

/-! 235: (*wharfage/disk.Disk).step -/
def disk_Disk_step.pol : Pol := { heap := [999999], ro := roList, rs := [2] }
def disk_Disk_step.a : AFun := ⟨1, [.tmp 2],
  sq [r_ [i_ 2 (.mov (n_ 0))],
   sq [r_ [m_ 3 0, i_ 4 (.nilCk (x_ 3)), i_ 5 (.addr 3 (x_ 4)), i_ 6 (.load [.bool] false none (x_ 5)), m_ 7 6, hm_ 7 8 0, h_ 7 9 (.nilCk (x_ 8)), h_ 7 10 (.addr 2 (x_ 9)), h_ 7 11 (.load [ix] false none (x_ 10)), h_ 7 12 (.bin .eql (x_ 11) (n_ 1)), i_ 13 (.pick (x_ 7) T_ (x_ 12))],
    if_ 13 (sq [r_ [m_ 14 0, m_ 15 0, i_ 16 (.nilCk (x_ 14)), i_ 17 (.addr 3 (x_ 16)), u_ (.store 1 none (x_ 17) T_), i_ 18 (.nilCk (x_ 15)), i_ 19 (.addr 2 (x_ 18)), u_ (.store 1 none (x_ 19) (n_ 0))],
      r_ [i_ 2 (.mov (n_ 17))],
      .ret]) (.skip)],
   r_ [m_ 20 0, m_ 21 0, i_ 22 (.nilCk (x_ 21)), i_ 23 (.addr 2 (x_ 22)), i_ 24 (.load [ix] false none (x_ 23)), i_ 25 (.bin .sub (x_ 24) (n_ 1)), i_ 26 (.minmax true [(x_ 25), (n_ 0)]), i_ 27 (.nilCk (x_ 20)), i_ 28 (.addr 2 (x_ 27)), u_ (.store 1 none (x_ 28) (x_ 26))],
   r_ [m_ 29 0, i_ 30 (.nilCk (x_ 29)), i_ 31 (.addr 4 (x_ 30)), i_ 32 (.load [ix] false none (x_ 31)), i_ 33 (.bin .add (x_ 32) (n_ 1)), i_ 34 (.nilCk (x_ 29)), i_ 35 (.addr 4 (x_ 34)), u_ (.store 1 none (x_ 35) (x_ 33))],
   r_ [i_ 2 (.mov (n_ 0))],
   .ret]⟩

/-! 236: (*wharfage/disk.Disk).Flush$1 -/
def disk_Disk_Flush_1.pol : Pol := { heap := [999999], ro := roList, rs := [2] }
def disk_Disk_Flush_1.a : AFun := ⟨1, [.tmp 2],
  sq [r_ [i_ 2 (.mov F_)],
   r_ [i_ 2 (.mov T_)],
   .ret]⟩

/-! 237: wharfage/pages.head -/
def pages_head.pol : Pol := { pure := [126, 328], heap := [999999], ro := roList, rs := [6, 7] }
def pages_head.a : AFun := ⟨3, [.tmp 6, .tmp 7],
  sq [r_ [i_ 6 (.mov (c_ (.string ⟨#[]⟩))), i_ 7 (.mov (n_ 0))],
   r_ [m_ 8 2, m_ 9 0, m_ 10 1, i_ 11 (.callP 126 [(c_ (.string ⟨#[]⟩)), (n_ 480)] [.str]), i_ 12 (.build [(.at (.int .i64 0)), (.at (.int .u64 0)), (.at (.int .u64 0)), (.at (.int .i64 0)), (.at (.int .i64 0)), (.at (.string ⟨#[]⟩))] [(0, 1, (n_ 1)), (1, 1, (x_ 8)), (3, 1, (x_ 9)), (4, 1, (x_ 10)), (5, 1, (x_ 11))]), i_ 13 (.callP 328 [(x_ 12)] [.str, ix]), i_ 14 (.extract (x_ 13) 0), i_ 15 (.extract (x_ 13) 1), m_ 6 14, m_ 7 15],
   .ret]⟩

/-! 238: wharfage/journal.Open -/
def journal_Open.pol : Pol := { glob := [28], heap := [999999], ro := roList, rs := [6, 7] }
def journal_Open.a : AFun := ⟨3, [.tmp 6, .tmp 7],
  sq [r_ [i_ 6 (.mov (c_ (.pointer none))), i_ 7 (.mov (n_ 0))],
   sq [r_ [m_ 8 0, i_ 9 (.nilCmp false 1 (x_ 8)), m_ 10 9, hm_ 10 11 1, h_ 10 12 (.bin .lss (x_ 11) (n_ 4)), i_ 13 (.pick (x_ 10) T_ (x_ 12)), m_ 14 13, hm_ 14 15 1, h_ 14 16 (.bin .gtr (x_ 15) (n_ 1024)), i_ 17 (.pick (x_ 14) T_ (x_ 16)), m_ 18 17, hm_ 18 19 0, h_ 18 20 (.callR 129 [(x_ 19)] [ix]), hm_ 18 21 1, h_ 18 22 (.bin .leq (x_ 20) (x_ 21)), i_ 23 (.pick (x_ 18) T_ (x_ 22))],
    if_ 23 (sq [r_ [i_ 6 (.mov (c_ (.pointer none))), i_ 7 (.mov (n_ 18))],
      .ret]) (.skip)],
   r_ [m_ 24 0, m_ 25 1, m_ 26 2, i_ 27 (.build [(.at (.pointer none)), (.at (.int .i64 0)), (.at (.int .u64 0)), (.at (.int .i64 0)), (.at (.int .u64 0))] [(0, 1, (x_ 24)), (1, 1, (x_ 25)), (2, 1, (x_ 26))]), i_ 28 (.boxG (x_ 27)), m_ 6 28, i_ 7 (.mov (n_ 0))],
   .ret]⟩

/-! 239: (*wharfage/disk.Disk).Read -/
def disk_Disk_Read.pol : Pol := { glob := [3, 4, 5, 7], heap := [999999], ro := roList, rs := [4, 5], live := [([3, 4, 5], [900000])] }
def disk_Disk_Read.a : AFun := ⟨2, [.cell 4 [.str] false, .cell 5 [ix] false],
  sq [r_ [i_ 3 (.boxG (x_ 1)), i_ 4 (.allocG none [(.at (.string ⟨#[]⟩))]), i_ 5 (.allocG none [(.at (.int .i64 0))])],
   .block 0 (sq [r_ [m_ 9 0, i_ 10 (.nilCmp true 1 (x_ 9)), m_ 11 10, gm_ 11 12 0, g_ 11 13 (.nilCk (x_ 12)), g_ 11 14 (.addr 3 (x_ 13)), g_ 11 15 (.load [.bool] false none (x_ 14)), i_ 16 (.pick (x_ 11) (x_ 15) F_), m_ 8 16],
     if_ 8 (sq [r_ [u_ (.store 1 none (x_ 4) (c_ (.string ⟨#[]⟩))), u_ (.store 1 none (x_ 5) (n_ 17))],
       .ret]) (sq [r_ [m_ 18 0, i_ 19 (.load [ix] false none (x_ 3)), i_ 20 (.callR 234 [(x_ 18), (x_ 19)] [.bool]), i_ 21 (.un .not (x_ 20)), m_ 17 21],
       if_ 17 (sq [r_ [u_ (.store 1 none (x_ 4) (c_ (.string ⟨#[]⟩))), u_ (.store 1 none (x_ 5) (n_ 18))],
         .ret]) (.skip)])]),
   sq [r_ [m_ 22 0, i_ 23 (.nilCk (x_ 22)), i_ 24 (.addr 1 (x_ 23)), i_ 25 (.load [.sl 2] false none (x_ 24)), i_ 26 (.call 329 [(x_ 25)] [.any])],
    .block 1 (.ranged 900000 (x_ 26) [3, 4, 5])],
   d_ [m_ 35 0, i_ 36 (.nilCk (x_ 35)), i_ 37 (.addr 0 (x_ 36)), i_ 38 (.load [.sl 1] false none (x_ 37)), i_ 39 (.load [ix] false none (x_ 3)), i_ 40 (.indexAddrS 1 (x_ 38) (x_ 39)), i_ 41 (.load [.str] false none (x_ 40)), u_ (.store 1 none (x_ 4) (x_ 41)), u_ (.store 1 none (x_ 5) (n_ 0))],
   .ret]⟩

def disk_Disk_Read.polY900000 : Pol := { glob := [3, 4, 5, 7], heap := [999999], ro := roList }
def disk_Disk_Read.Y900000 : AYield := ⟨[3, 4, 5], [27, 28],
  r_ [i_ 7 (.allocG none [(.at (.int .i64 0)), (.at (.string ⟨#[]⟩))]), u_ (.store 2 none (x_ 7) (x_ 28))],
  .block 2 (sq [r_ [i_ 29 (.addr 0 (x_ 7)), i_ 30 (.load [ix] false none (x_ 29)), i_ 31 (.load [ix] false none (x_ 3)), i_ 32 (.bin .eql (x_ 30) (x_ 31))],
    if_ 32 (sq [r_ [i_ 33 (.addr 1 (x_ 7)), i_ 34 (.load [.str] false none (x_ 33)), u_ (.store 1 none (x_ 4) (x_ 34)), u_ (.store 1 none (x_ 5) (n_ 0))],
      .ret]) (.skip)])⟩

/-! 240: wharfage/sector.Open -/
def sector_Open.pol : Pol := { pure := [328], heap := [999999], ro := roList, root := [(2, 2), (5, 5), (22, 5), (23, 5), (30, 5), (31, 5), (36, 5)], rs := [2, 3] }
def sector_Open.a : AFun := ⟨1, [.cell 2 [ix, .int .u64, .int .u64, ix, ix, .str] true, .tmp 3],
  sq [r_ [i_ 2 (.allocL [(.at (.int .i64 0)), (.at (.int .u64 0)), (.at (.int .u64 0)), (.at (.int .i64 0)), (.at (.int .i64 0)), (.at (.string ⟨#[]⟩))]), i_ 3 (.mov (n_ 0))],
   r_ [m_ 8 0, i_ 9 (.call 186 [(x_ 8)] [.any]), m_ 4 9],
   r_ [m_ 10 4, i_ 11 (.call 187 [(x_ 10), (n_ 1)] [.int .u64]), i_ 12 (.convI .i64 (x_ 11)), i_ 13 (.build [(.at (.int .i64 0)), (.at (.int .u64 0)), (.at (.int .u64 0)), (.at (.int .i64 0)), (.at (.int .i64 0)), (.at (.string ⟨#[]⟩))] [(0, 1, (x_ 12))]), i_ 5 (.allocL [(.at (.int .i64 0)), (.at (.int .u64 0)), (.at (.int .u64 0)), (.at (.int .i64 0)), (.at (.int .i64 0)), (.at (.string ⟨#[]⟩))]), u_ (.store 6 (some 5) (x_ 5) (x_ 13))],
   r_ [m_ 14 4, i_ 15 (.call 187 [(x_ 14), (n_ 1)] [.int .u64])],
   r_ [m_ 16 4, i_ 17 (.call 187 [(x_ 16), (n_ 2)] [.int .u64]), i_ 18 (.convI .i64 (x_ 17)), m_ 19 4, i_ 20 (.call 187 [(x_ 19), (n_ 2)] [.int .u64]), i_ 21 (.convI .i64 (x_ 20)), i_ 22 (.addr 3 (x_ 5)), u_ (.store 1 (some 5) (x_ 22) (x_ 18)), i_ 23 (.addr 4 (x_ 5)), u_ (.store 1 (some 5) (x_ 23) (x_ 21))],
   r_ [m_ 24 4, i_ 25 (.call 187 [(x_ 24), (n_ 2)] [.int .u64])],
   r_ [m_ 26 4, i_ 27 (.call 187 [(x_ 26), (n_ 8)] [.int .u64]), m_ 28 4, i_ 29 (.call 187 [(x_ 28), (n_ 8)] [.int .u64]), i_ 30 (.addr 1 (x_ 5)), u_ (.store 1 (some 5) (x_ 30) (x_ 27)), i_ 31 (.addr 2 (x_ 5)), u_ (.store 1 (some 5) (x_ 31) (x_ 29))],
   r_ [m_ 32 4, i_ 33 (.call 187 [(x_ 32), (n_ 8)] [.int .u64])],
   r_ [m_ 34 4, i_ 35 (.call 278 [(x_ 34), (n_ 480)] [.str]), i_ 36 (.addr 5 (x_ 5)), u_ (.store 1 (some 5) (x_ 36) (x_ 35))],
   sq [r_ [i_ 38 (.load [ix, .int .u64, .int .u64, ix, ix, .str] true (some 5) (x_ 5)), i_ 39 (.callP 328 [(x_ 38)] [.str, ix]), m_ 37 39, i_ 40 (.extract (x_ 37) 0), i_ 41 (.extract (x_ 37) 1), m_ 6 40, m_ 7 41],
    r_ [m_ 42 7, i_ 43 (.bin .neq (x_ 42) (n_ 0)), m_ 44 43, hm_ 44 45 6, hm_ 44 46 0, h_ 44 47 (.bin .neq (x_ 45) (x_ 46)), i_ 48 (.pick (x_ 44) T_ (x_ 47))],
    if_ 48 (sq [r_ [i_ 49 (.build [(.at (.int .i64 0)), (.at (.int .u64 0)), (.at (.int .u64 0)), (.at (.int .i64 0)), (.at (.int .i64 0)), (.at (.string ⟨#[]⟩))] []), u_ (.store 6 (some 2) (x_ 2) (x_ 49)), i_ 3 (.mov (n_ 19))],
      .ret]) (.skip)],
   r_ [i_ 50 (.load [ix, .int .u64, .int .u64, ix, ix, .str] true (some 5) (x_ 5)), u_ (.store 6 (some 2) (x_ 2) (x_ 50)), i_ 3 (.mov (n_ 0))],
   .ret]⟩

/-! 241: (*wharfage/pages.Store).home -/
def pages_Store_home.pol : Pol := { heap := [999999], ro := roList, rs := [4] }
def pages_Store_home.a : AFun := ⟨2, [.tmp 4],
  sq [r_ [i_ 4 (.mov (n_ 0))],
   r_ [m_ 5 0, i_ 6 (.nilCk (x_ 5)), i_ 7 (.addr 1 (x_ 6)), i_ 8 (.load [ix] false none (x_ 7)), i_ 9 (.bin .add (n_ 1) (x_ 8)), m_ 10 1, i_ 11 (.bin .add (x_ 9) (x_ 10)), m_ 4 11],
   .ret]⟩

/-! 242: wharfage/sector.OfHome -/
def sector_OfHome.pol : Pol := { pure := [126, 131, 240], heap := [999999], ro := roList, root := [(6, 6), (22, 6), (27, 6)], rs := [4, 5] }
def sector_OfHome.a : AFun := ⟨2, [.tmp 4, .tmp 5],
  sq [r_ [i_ 4 (.mov (c_ (.string ⟨#[]⟩))), i_ 5 (.mov (n_ 0))],
   sq [r_ [m_ 8 0, i_ 9 (.callP 131 [] [.str]), i_ 10 (.bin .eql (x_ 8) (x_ 9))],
    if_ 10 (sq [r_ [i_ 11 (.callP 126 [(c_ (.string ⟨#[]⟩)), (n_ 480)] [.str]), m_ 4 11, i_ 5 (.mov (n_ 0))],
      .ret]) (.skip)],
   r_ [m_ 13 0, i_ 14 (.callP 240 [(x_ 13)] [.ag, ix]), m_ 12 14, i_ 15 (.extract (x_ 12) 0), i_ 16 (.extract (x_ 12) 1), i_ 6 (.allocL [(.at (.int .i64 0)), (.at (.int .u64 0)), (.at (.int .u64 0)), (.at (.int .i64 0)), (.at (.int .i64 0)), (.at (.string ⟨#[]⟩))]), u_ (.store 6 (some 6) (x_ 6) (x_ 15)), m_ 7 16],
   sq [r_ [m_ 17 7, i_ 18 (.bin .neq (x_ 17) (n_ 0)), m_ 19 18, h_ 19 20 (.load [ix, .int .u64, .int .u64, ix, ix, .str] true (some 6) (x_ 6)), hm_ 19 21 1, h_ 19 22 (.addr 5 (x_ 6)), h_ 19 23 (.load [.str] false (some 6) (x_ 22)), h_ 19 24 (.build [(.at (.int .i64 0)), (.at (.int .u64 0)), (.at (.int .u64 0)), (.at (.int .i64 0)), (.at (.int .i64 0)), (.at (.string ⟨#[]⟩))] [(0, 1, (n_ 4)), (3, 1, (x_ 21)), (5, 1, (x_ 23))]), h_ 19 25 (.eqA true [ix, .int .u64, .int .u64, ix, ix, .str] 303 (x_ 20) (x_ 24)), i_ 26 (.pick (x_ 19) T_ (x_ 25))],
    if_ 26 (sq [r_ [i_ 4 (.mov (c_ (.string ⟨#[]⟩))), i_ 5 (.mov (n_ 19))],
      .ret]) (.skip)],
   r_ [i_ 27 (.addr 5 (x_ 6)), i_ 28 (.load [.str] false (some 6) (x_ 27)), m_ 4 28, i_ 5 (.mov (n_ 0))],
   .ret]⟩

/-! 243: wharfage/journal.Scan -/
def journal_Scan.pol : Pol := { glob := [29], heap := [999999], ro := roList, rs := [6, 7], live := [([10, 11, 12], [])] }
def journal_Scan.L0 : ACode :=
  sq [.block 1 (sq [r_ [m_ 33 10, m_ 34 12, i_ 35 (.call 330 [(x_ 33), (x_ 34)] [.any, ix]), m_ 32 35, i_ 36 (.extract (x_ 32) 0), i_ 37 (.extract (x_ 32) 1), m_ 13 36, m_ 14 37],
     sq [r_ [m_ 38 14, i_ 39 (.bin .neq (x_ 38) (n_ 0))],
      if_ 39 (sq [r_ [m_ 40 14, i_ 6 (.nilS 1), m_ 7 40],
        .ret]) (.skip)],
     sq [r_ [m_ 41 13, i_ 42 (.lenL (x_ 41)), i_ 43 (.bin .eql (x_ 42) (n_ 0))],
      if_ 43 (sq [r_ [m_ 44 11, m_ 6 44, i_ 7 (.mov (n_ 0))],
        .ret]) (.skip)],
     r_ [m_ 45 11, m_ 46 13, i_ 47 (.buildG 1 [(x_ 46)]), i_ 48 (.appendH none 1 24 (x_ 45) (x_ 47)), m_ 11 48]]),
   r_ [m_ 30 12, i_ 31 (.bin .add (x_ 30) (k_ .u64 1)), m_ 12 31]]
def journal_Scan.a : AFun := ⟨3, [.tmp 6, .tmp 7],
  sq [r_ [i_ 6 (.nilS 1), i_ 7 (.mov (n_ 0))],
   sq [r_ [m_ 16 0, m_ 17 1, m_ 18 2, i_ 19 (.call 238 [(x_ 16), (x_ 17), (x_ 18)] [.any, ix]), m_ 15 19, i_ 20 (.extract (x_ 15) 0), i_ 21 (.extract (x_ 15) 1), m_ 8 20, m_ 9 21],
    r_ [m_ 22 9, i_ 23 (.bin .neq (x_ 22) (n_ 0))],
    if_ 23 (sq [r_ [m_ 24 9, i_ 6 (.nilS 1), m_ 7 24],
      .ret]) (.skip)],
   r_ [m_ 25 0, m_ 26 1, m_ 27 2, i_ 28 (.build [(.at (.pointer none)), (.at (.int .i64 0)), (.at (.int .u64 0)), (.at (.int .i64 0))] [(0, 1, (x_ 25)), (1, 1, (x_ 26)), (2, 1, (x_ 27))]), i_ 29 (.boxG (x_ 28)), m_ 10 29],
   r_ [i_ 11 (.nilS 1)],
   r_ [i_ 12 (.mov (k_ .u64 1))],
   .block 0 (.loop [10, 11, 12] [] [6, 7] journal_Scan.L0)]⟩
def journal_Scan.R0 (C : CallF) (N : Nat) := round (evalC C N journal_Scan.L0) [10, 11, 12] [] [6, 7]
def journal_Scan.K0 (C : CallF) (N : Nat) : Ex → St → R := contC C N [.snd, .snd, .snd, .snd, .snd, .blk] journal_Scan.a.body (finish journal_Scan.a)

/-! 244: maps.Keys[map[int]bool,int,bool] -/
def maps_Keys_map_intbool_int_bool.pol : Pol := { glob := [1], heap := [999999], ro := roList, rs := [2] }
def maps_Keys_map_intbool_int_bool.a : AFun := ⟨1, [.tmp 2],
  sq [r_ [i_ 1 (.boxG (x_ 0)), i_ 2 (.mov (c_ .nilFunc))],
   r_ [i_ 3 (.makeFunc 331 [] [(x_ 1)]), m_ 2 3],
   .ret]⟩

/-! 245: wharfage/sector.Home -/
def sector_Home.pol : Pol := { pure := [131, 328, 332, 333], heap := [999999], ro := roList, root := [(6, 6)], rs := [4, 5] }
def sector_Home.a : AFun := ⟨2, [.tmp 4, .tmp 5],
  sq [r_ [i_ 4 (.mov (c_ (.string ⟨#[]⟩))), i_ 5 (.mov (n_ 0))],
   r_ [m_ 7 0, m_ 8 1, i_ 9 (.build [(.at (.int .i64 0)), (.at (.int .u64 0)), (.at (.int .u64 0)), (.at (.int .i64 0)), (.at (.int .i64 0)), (.at (.string ⟨#[]⟩))] [(0, 1, (n_ 4)), (3, 1, (x_ 7)), (5, 1, (x_ 8))]), i_ 6 (.allocL [(.at (.int .i64 0)), (.at (.int .u64 0)), (.at (.int .u64 0)), (.at (.int .i64 0)), (.at (.int .i64 0)), (.at (.string ⟨#[]⟩))]), u_ (.store 6 (some 6) (x_ 6) (x_ 9))],
   sq [r_ [i_ 10 (.load [ix, .int .u64, .int .u64, ix, ix, .str] true (some 6) (x_ 6)), i_ 11 (.callP 332 [(x_ 10)] [ix]), i_ 12 (.bin .eql (x_ 11) (n_ 0)), m_ 13 12, gm_ 13 14 1, g_ 13 15 (.callP 333 [(x_ 14)] [.bool]), i_ 16 (.pick (x_ 13) (x_ 15) F_)],
    if_ 16 (sq [r_ [i_ 17 (.callP 131 [] [.str]), m_ 4 17, i_ 5 (.mov (n_ 0))],
      .ret]) (.skip)],
   r_ [i_ 18 (.load [ix, .int .u64, .int .u64, ix, ix, .str] true (some 6) (x_ 6)), i_ 19 (.callP 328 [(x_ 18)] [.str, ix]), i_ 20 (.extract (x_ 19) 0), i_ 21 (.extract (x_ 19) 1), m_ 4 20, m_ 5 21],
   .ret]⟩

/-! 246: wharfage/journal.page -/
def journal_page.pol : Pol := { heap := [999999], ro := roList, rs := [2] }
def journal_page.a : AFun := ⟨1, [.tmp 2],
  sq [r_ [i_ 2 (.mov F_)],
   r_ [m_ 3 0, i_ 4 (.bin .geq (x_ 3) (n_ 0)), m_ 5 4, gm_ 5 6 0, g_ 5 7 (.bin .lss (x_ 6) (n_ 3840)), i_ 8 (.pick (x_ 5) (x_ 7) F_), m_ 2 8],
   .ret]⟩

/-! 247: slices.ContainsFunc[[]wharfage/journal.Image,wharfage/journal.Image] -/
def slices_ContainsFunc_journal_Image_journal_Image.pol : Pol := { heap := [999999], ro := roList, rs := [4] }
def slices_ContainsFunc_journal_Image_journal_Image.a : AFun := ⟨2, [.tmp 4],
  sq [r_ [i_ 4 (.mov F_)],
   r_ [m_ 5 0, m_ 6 1, i_ 7 (.call 334 [(x_ 5), (x_ 6)] [ix]), i_ 8 (.bin .geq (x_ 7) (n_ 0)), m_ 4 8],
   .ret]⟩

/-! 248: (*wharfage/pages.Store).has$1 -/
def pages_Store_has_1.pol : Pol := { heap := [999999], ro := roList, root := [(2, 2), (4, 2)], rs := [3] }
def pages_Store_has_1.a : AFun := ⟨2, [.tmp 3],
  sq [r_ [i_ 2 (.boxL (x_ 0)), i_ 3 (.mov F_)],
   d_ [i_ 4 (.addr 0 (x_ 2)), i_ 5 (.load [ix] false (some 2) (x_ 4)), i_ 6 (.load [.any] false none (x_ 1)), i_ 7 (.nilCk (x_ 6)), i_ 8 (.addr 2 (x_ 7)), i_ 9 (.load [.sl 1] false none (x_ 8)), i_ 10 (.lenL (x_ 9)), i_ 11 (.bin .geq (x_ 5) (x_ 10)), m_ 3 11],
   .ret]⟩

/-! 249: (*wharfage/journal.Journal).write -/
def journal_Journal_write.pol : Pol := { pure := [328], heap := [999999], ro := roList, root := [(5, 5), (18, 5), (19, 5)], rs := [6] }
def journal_Journal_write.a : AFun := ⟨3, [.tmp 6],
  sq [r_ [i_ 5 (.boxL (x_ 2)), i_ 6 (.mov (n_ 0))],
   d_ [m_ 9 0, i_ 10 (.nilCk (x_ 9)), i_ 11 (.addr 2 (x_ 10)), i_ 12 (.load [.int .u64] false none (x_ 11)), m_ 13 0, i_ 14 (.nilCk (x_ 13)), i_ 15 (.addr 4 (x_ 14)), i_ 16 (.load [.int .u64] false none (x_ 15)), i_ 17 (.bin .add (x_ 16) (k_ .u64 1)), i_ 18 (.addr 1 (x_ 5)), u_ (.store 1 (some 5) (x_ 18) (x_ 12)), i_ 19 (.addr 2 (x_ 5)), u_ (.store 1 (some 5) (x_ 19) (x_ 17))],
   r_ [i_ 21 (.load [ix, .int .u64, .int .u64, ix, ix, .str] true (some 5) (x_ 5)), i_ 22 (.callP 328 [(x_ 21)] [.str, ix]), m_ 20 22, i_ 23 (.extract (x_ 20) 0), i_ 24 (.extract (x_ 20) 1), m_ 7 23, m_ 8 24],
   sq [r_ [m_ 25 8, i_ 26 (.bin .neq (x_ 25) (n_ 0))],
    if_ 26 (sq [r_ [m_ 27 8, m_ 6 27],
      .ret]) (.skip)],
   d_ [m_ 28 0, i_ 29 (.nilCk (x_ 28)), i_ 30 (.addr 0 (x_ 29)), i_ 31 (.load [.any] false none (x_ 30)), m_ 32 0, i_ 33 (.nilCk (x_ 32)), i_ 34 (.addr 3 (x_ 33)), i_ 35 (.load [ix] false none (x_ 34)), i_ 36 (.bin .add (n_ 1) (x_ 35)), m_ 37 1, i_ 38 (.bin .add (x_ 36) (x_ 37)), m_ 39 7, i_ 40 (.call 130 [(x_ 31), (x_ 38), (x_ 39)] [ix]), m_ 6 40],
   .ret]⟩

/-! 250: math/bits.Mul -/
def math_bits_Mul.pol : Pol := { pure := [335, 336], heap := [999999], ro := roList, rs := [4, 5] }
def math_bits_Mul.a : AFun := ⟨2, [.tmp 4, .tmp 5],
  sq [r_ [i_ 4 (.mov (k_ .u64 0)), i_ 5 (.mov (k_ .u64 0))],
   .cond F_ (sq [r_ [m_ 11 0, i_ 12 (.convI .u32 (x_ 11)), m_ 13 1, i_ 14 (.convI .u32 (x_ 13)), i_ 15 (.callP 335 [(x_ 12), (x_ 14)] [.int .u32, .int .u32]), m_ 10 15, i_ 16 (.extract (x_ 10) 0), i_ 17 (.extract (x_ 10) 1), m_ 6 16, m_ 7 17],
     r_ [m_ 18 6, i_ 19 (.convI .u64 (x_ 18)), m_ 20 7, i_ 21 (.convI .u64 (x_ 20)), m_ 4 19, m_ 5 21],
     .ret]) (.skip),
   r_ [m_ 23 0, m_ 24 1, i_ 25 (.callP 336 [(x_ 23), (x_ 24)] [.int .u64, .int .u64]), m_ 22 25, i_ 26 (.extract (x_ 22) 0), i_ 27 (.extract (x_ 22) 1), m_ 8 26, m_ 9 27],
   r_ [m_ 28 8, m_ 29 9, m_ 4 28, m_ 5 29],
   .ret]⟩

/-! 277: wharfage/octets.width -/
def octets_width.pol : Pol := { heap := [999999], ro := roList, rs := [2] }
def octets_width.a : AFun := ⟨1, [.tmp 2],
  sq [r_ [i_ 2 (.mov F_)],
   r_ [m_ 3 0, i_ 4 (.bin .geq (x_ 3) (n_ 1)), m_ 5 4, gm_ 5 6 0, g_ 5 7 (.bin .leq (x_ 6) (n_ 8)), i_ 8 (.pick (x_ 5) (x_ 7) F_), m_ 2 8],
   .ret]⟩

/-! 278: (*wharfage/octets.Reader).Raw -/
def octets_Reader_Raw.pol : Pol := { heap := [999999], ro := roList, rs := [4] }
def octets_Reader_Raw.a : AFun := ⟨2, [.tmp 4],
  sq [r_ [i_ 4 (.mov (c_ (.string ⟨#[]⟩)))],
   .block 0 (sq [r_ [m_ 7 0, i_ 8 (.nilCmp false 1 (x_ 7)), m_ 9 8, hm_ 9 10 0, h_ 9 11 (.nilCk (x_ 10)), h_ 9 12 (.addr 1 (x_ 11)), h_ 9 13 (.load [ix] false none (x_ 12)), h_ 9 14 (.bin .neq (x_ 13) (n_ 0)), i_ 15 (.pick (x_ 9) T_ (x_ 14)), m_ 6 15],
     if_ 6 (sq [r_ [i_ 4 (.mov (c_ (.string ⟨#[]⟩)))],
       .ret]) (sq [r_ [m_ 17 1, i_ 18 (.bin .lss (x_ 17) (n_ 0)), m_ 16 18],
       if_ 16 (sq [r_ [m_ 19 0, i_ 20 (.call 353 [(x_ 19), (n_ 18)] [.str]), m_ 4 20],
         .ret]) (sq [r_ [m_ 22 1, m_ 23 0, i_ 24 (.nilCk (x_ 23)), i_ 25 (.addr 0 (x_ 24)), i_ 26 (.load [.str] false none (x_ 25)), i_ 27 (.lenS (x_ 26)), i_ 28 (.bin .gtr (x_ 22) (x_ 27)), m_ 21 28],
         if_ 21 (sq [r_ [m_ 29 0, i_ 30 (.call 353 [(x_ 29), (n_ 20)] [.str]), m_ 4 30],
           .ret]) (.skip)])])]),
   r_ [m_ 31 0, i_ 32 (.nilCk (x_ 31)), i_ 33 (.addr 0 (x_ 32)), i_ 34 (.load [.str] false none (x_ 33)), m_ 35 1, i_ 36 (.sliceS (x_ 34) none (some (x_ 35))), m_ 5 36],
   r_ [m_ 37 0, m_ 38 0, i_ 39 (.nilCk (x_ 38)), i_ 40 (.addr 0 (x_ 39)), i_ 41 (.load [.str] false none (x_ 40)), m_ 42 1, i_ 43 (.sliceS (x_ 41) (some (x_ 42)) none), i_ 44 (.nilCk (x_ 37)), i_ 45 (.addr 0 (x_ 44)), u_ (.store 1 none (x_ 45) (x_ 43))],
   r_ [m_ 46 5, m_ 4 46],
   .ret]⟩

/-! 328: wharfage/sector.Seal -/
def sector_Seal.pol : Pol := { pure := [194, 332, 380, 381], heap := [999999], ro := roList, root := [(1, 1), (11, 1), (17, 1), (22, 1), (29, 1), (33, 1), (42, 1), (48, 1)], rs := [2, 3] }
def sector_Seal.a : AFun := ⟨1, [.tmp 2, .tmp 3],
  sq [r_ [i_ 1 (.boxL (x_ 0)), i_ 2 (.mov (c_ (.string ⟨#[]⟩))), i_ 3 (.mov (n_ 0))],
   sq [r_ [i_ 6 (.load [ix, .int .u64, .int .u64, ix, ix, .str] true (some 1) (x_ 1)), i_ 7 (.callP 332 [(x_ 6)] [ix]), m_ 4 7],
    r_ [m_ 8 4, i_ 9 (.bin .neq (x_ 8) (n_ 0))],
    if_ 9 (sq [r_ [m_ 10 4, i_ 2 (.mov (c_ (.string ⟨#[]⟩))), m_ 3 10],
      .ret]) (.skip)],
   d_ [i_ 11 (.addr 0 (x_ 1)), i_ 12 (.load [ix] false (some 1) (x_ 11)), i_ 13 (.convI .u64 (x_ 12)), i_ 14 (.callP 194 [(n_ 1), (x_ 13)] [.str]), i_ 15 (.callP 194 [(n_ 1), (k_ .u64 0)] [.str]), i_ 16 (.bin .add (x_ 14) (x_ 15)), i_ 17 (.addr 3 (x_ 1)), i_ 18 (.load [ix] false (some 1) (x_ 17)), i_ 19 (.convI .u64 (x_ 18)), i_ 20 (.callP 194 [(n_ 2), (x_ 19)] [.str]), i_ 21 (.bin .add (x_ 16) (x_ 20)), i_ 22 (.addr 4 (x_ 1)), i_ 23 (.load [ix] false (some 1) (x_ 22)), i_ 24 (.convI .u64 (x_ 23)), i_ 25 (.callP 194 [(n_ 2), (x_ 24)] [.str]), i_ 26 (.bin .add (x_ 21) (x_ 25)), i_ 27 (.callP 194 [(n_ 2), (k_ .u64 0)] [.str]), i_ 28 (.bin .add (x_ 26) (x_ 27)), i_ 29 (.addr 1 (x_ 1)), i_ 30 (.load [.int .u64] false (some 1) (x_ 29)), i_ 31 (.callP 194 [(n_ 8), (x_ 30)] [.str]), i_ 32 (.bin .add (x_ 28) (x_ 31)), i_ 33 (.addr 2 (x_ 1)), i_ 34 (.load [.int .u64] false (some 1) (x_ 33)), i_ 35 (.callP 194 [(n_ 8), (x_ 34)] [.str]), i_ 36 (.bin .add (x_ 32) (x_ 35)), i_ 37 (.callP 194 [(n_ 4), (k_ .u64 0)] [.str]), i_ 38 (.bin .add (x_ 36) (x_ 37)), m_ 5 38],
   d_ [m_ 39 5, m_ 40 5, i_ 41 (.callP 381 [(x_ 40)] [.int .u32]), i_ 42 (.addr 5 (x_ 1)), i_ 43 (.load [.str] false (some 1) (x_ 42)), i_ 44 (.callP 380 [(x_ 41), (x_ 43)] [.int .u32]), i_ 45 (.convI .u64 (x_ 44)), i_ 46 (.callP 194 [(n_ 4), (x_ 45)] [.str]), i_ 47 (.bin .add (x_ 39) (x_ 46)), i_ 48 (.addr 5 (x_ 1)), i_ 49 (.load [.str] false (some 1) (x_ 48)), i_ 50 (.bin .add (x_ 47) (x_ 49)), m_ 2 50, i_ 3 (.mov (n_ 0))],
   .ret]⟩

/-! 329: slices.Backward[[]wharfage/disk.write,wharfage/disk.write] -/
def slices_Backward_disk_write_disk_write.pol : Pol := { glob := [1], heap := [999999], ro := roList, rs := [2] }
def slices_Backward_disk_write_disk_write.a : AFun := ⟨1, [.tmp 2],
  sq [r_ [i_ 1 (.boxG (x_ 0)), i_ 2 (.mov (c_ .nilFunc))],
   r_ [i_ 3 (.makeFunc 382 [] [(x_ 1)]), m_ 2 3],
   .ret]⟩

/-! 330: (*wharfage/journal.scanner).next -/
def journal_scanner_next.pol : Pol := { pure := [240, 246, 333], heap := [999999], ro := roList, root := [(10, 10), (46, 10), (55, 10), (61, 10), (65, 10), (72, 10), (77, 10), (79, 10), (85, 10), (89, 10), (96, 10), (101, 10)], rs := [4, 5], live := [([0, 1, 6, 7], [])] }
def journal_scanner_next.L0 : ACode :=
  sq [sq [r_ [m_ 16 7, m_ 17 0, i_ 18 (.nilCk (x_ 17)), i_ 19 (.addr 1 (x_ 18)), i_ 20 (.load [ix] false none (x_ 19)), i_ 21 (.bin .lss (x_ 16) (x_ 20))],
    if_ 21 (.skip) (.exit 0)],
   .block 1 (sq [r_ [m_ 25 0, i_ 26 (.nilCk (x_ 25)), i_ 27 (.addr 0 (x_ 26)), i_ 28 (.load [.any] false none (x_ 27)), m_ 29 7, i_ 30 (.bin .add (n_ 1) (x_ 29)), i_ 31 (.call 239 [(x_ 28), (x_ 30)] [.str, ix]), m_ 24 31, i_ 32 (.extract (x_ 24) 0), i_ 33 (.extract (x_ 24) 1), m_ 8 32, m_ 9 33],
     sq [r_ [m_ 34 9, i_ 35 (.bin .neq (x_ 34) (n_ 0))],
      if_ 35 (sq [r_ [m_ 36 9, i_ 4 (.nilS 2), m_ 5 36],
        .ret]) (.skip)],
     r_ [m_ 38 8, i_ 39 (.callP 240 [(x_ 38)] [.ag, ix]), m_ 37 39, i_ 40 (.extract (x_ 37) 0), i_ 41 (.extract (x_ 37) 1), i_ 10 (.allocL [(.at (.int .i64 0)), (.at (.int .u64 0)), (.at (.int .u64 0)), (.at (.int .i64 0)), (.at (.int .i64 0)), (.at (.string ⟨#[]⟩))]), u_ (.store 6 (some 10) (x_ 10) (x_ 40)), m_ 11 41],
     .block 2 (sq [d_ [m_ 43 11, i_ 44 (.bin .neq (x_ 43) (n_ 0)), m_ 45 44, h_ 45 46 (.addr 1 (x_ 10)), h_ 45 47 (.load [.int .u64] false (some 10) (x_ 46)), hm_ 45 48 0, h_ 45 49 (.nilCk (x_ 48)), h_ 45 50 (.addr 2 (x_ 49)), h_ 45 51 (.load [.int .u64] false none (x_ 50)), h_ 45 52 (.bin .neq (x_ 47) (x_ 51)), i_ 53 (.pick (x_ 45) T_ (x_ 52)), m_ 54 53, h_ 54 55 (.addr 2 (x_ 10)), h_ 54 56 (.load [.int .u64] false (some 10) (x_ 55)), hm_ 54 57 1, h_ 54 58 (.bin .neq (x_ 56) (x_ 57)), i_ 59 (.pick (x_ 54) T_ (x_ 58)), m_ 42 59],
       if_ 42 (sq [r_ [i_ 4 (.nilS 2), i_ 5 (.mov (n_ 0))],
         .ret]) (sq [r_ [i_ 61 (.addr 0 (x_ 10)), i_ 62 (.load [ix] false (some 10) (x_ 61)), i_ 63 (.bin .eql (x_ 62) (n_ 2)), m_ 64 63, g_ 64 65 (.addr 4 (x_ 10)), g_ 64 66 (.load [ix] false (some 10) (x_ 65)), gm_ 64 67 6, g_ 64 68 (.lenL (x_ 67)), g_ 64 69 (.bin .eql (x_ 66) (x_ 68)), i_ 70 (.pick (x_ 64) (x_ 69) F_), m_ 71 70, g_ 71 72 (.addr 3 (x_ 10)), g_ 71 73 (.load [ix] false (some 10) (x_ 72)), g_ 71 74 (.callP 246 [(x_ 73)] [.bool]), i_ 75 (.pick (x_ 71) (x_ 74) F_), m_ 60 75],
         if_ 60 (r_ [m_ 76 6, i_ 77 (.addr 3 (x_ 10)), i_ 78 (.load [ix] false (some 10) (x_ 77)), i_ 79 (.addr 5 (x_ 10)), i_ 80 (.load [.str] false (some 10) (x_ 79)), i_ 81 (.build [(.at (.int .i64 0)), (.at (.string ⟨#[]⟩))] [(0, 1, (x_ 78)), (1, 1, (x_ 80))]), i_ 82 (.buildG 2 [(x_ 81)]), i_ 83 (.appendH none 2 24 (x_ 76) (x_ 82)), m_ 6 83]) (sq [r_ [i_ 85 (.addr 0 (x_ 10)), i_ 86 (.load [ix] false (some 10) (x_ 85)), i_ 87 (.bin .eql (x_ 86) (n_ 3)), m_ 88 87, g_ 88 89 (.addr 4 (x_ 10)), g_ 88 90 (.load [ix] false (some 10) (x_ 89)), gm_ 88 91 6, g_ 88 92 (.lenL (x_ 91)), g_ 88 93 (.bin .eql (x_ 90) (x_ 92)), i_ 94 (.pick (x_ 88) (x_ 93) F_), m_ 95 94, g_ 95 96 (.addr 3 (x_ 10)), g_ 95 97 (.load [ix] false (some 10) (x_ 96)), g_ 95 98 (.bin .eql (x_ 97) (n_ 0)), i_ 99 (.pick (x_ 95) (x_ 98) F_), m_ 100 99, g_ 100 101 (.addr 5 (x_ 10)), g_ 100 102 (.load [.str] false (some 10) (x_ 101)), g_ 100 103 (.callP 333 [(x_ 102)] [.bool]), i_ 104 (.pick (x_ 100) (x_ 103) F_), m_ 84 104],
           if_ 84 (sq [r_ [m_ 105 0, m_ 106 7, i_ 107 (.bin .add (x_ 106) (n_ 1)), i_ 108 (.nilCk (x_ 105)), i_ 109 (.addr 3 (x_ 108)), u_ (.store 1 none (x_ 109) (x_ 107))],
             r_ [m_ 110 6, m_ 4 110, i_ 5 (.mov (n_ 0))],
             .ret]) (sq [r_ [i_ 4 (.nilS 2), i_ 5 (.mov (n_ 0))],
             .ret])])])])]),
   r_ [m_ 22 7, i_ 23 (.bin .add (x_ 22) (n_ 1)), m_ 7 23]]
def journal_scanner_next.a : AFun := ⟨2, [.tmp 4, .tmp 5],
  sq [r_ [i_ 4 (.nilS 2), i_ 5 (.mov (n_ 0))],
   r_ [i_ 6 (.nilS 2)],
   sq [r_ [m_ 12 0, i_ 13 (.nilCk (x_ 12)), i_ 14 (.addr 3 (x_ 13)), i_ 15 (.load [ix] false none (x_ 14)), m_ 7 15],
    .block 0 (.loop [0, 1, 6, 7] [] [4, 5] journal_scanner_next.L0)],
   r_ [i_ 4 (.nilS 2), i_ 5 (.mov (n_ 0))],
   .ret]⟩
def journal_scanner_next.R0 (C : CallF) (N : Nat) := round (evalC C N journal_scanner_next.L0) [0, 1, 6, 7] [] [4, 5]
def journal_scanner_next.K0 (C : CallF) (N : Nat) : Ex → St → R := contC C N [.snd, .snd, .fst, .snd, .blk] journal_scanner_next.a.body (finish journal_scanner_next.a)

/-! 332: wharfage/sector.Check -/
def sector_Check.pol : Pol := { pure := [383], heap := [999999], ro := roList, root := [(1, 1), (3, 1), (7, 1), (12, 1), (18, 1), (24, 1)], rs := [2] }
def sector_Check.a : AFun := ⟨1, [.tmp 2],
  sq [r_ [i_ 1 (.boxL (x_ 0)), i_ 2 (.mov (n_ 0))],
   sq [r_ [i_ 3 (.addr 0 (x_ 1)), i_ 4 (.load [ix] false (some 1) (x_ 3)), i_ 5 (.bin .leq (x_ 4) (n_ 0)), m_ 6 5, h_ 6 7 (.addr 0 (x_ 1)), h_ 6 8 (.load [ix] false (some 1) (x_ 7)), h_ 6 9 (.bin .geq (x_ 8) (n_ 5)), i_ 10 (.pick (x_ 6) T_ (x_ 9)), m_ 11 10, h_ 11 12 (.addr 3 (x_ 1)), h_ 11 13 (.load [ix] false (some 1) (x_ 12)), h_ 11 14 (.callP 383 [(x_ 13)] [.bool]), h_ 11 15 (.un .not (x_ 14)), i_ 16 (.pick (x_ 11) T_ (x_ 15)), m_ 17 16, h_ 17 18 (.addr 4 (x_ 1)), h_ 17 19 (.load [ix] false (some 1) (x_ 18)), h_ 17 20 (.callP 383 [(x_ 19)] [.bool]), h_ 17 21 (.un .not (x_ 20)), i_ 22 (.pick (x_ 17) T_ (x_ 21)), m_ 23 22, h_ 23 24 (.addr 5 (x_ 1)), h_ 23 25 (.load [.str] false (some 1) (x_ 24)), h_ 23 26 (.lenS (x_ 25)), h_ 23 27 (.bin .neq (x_ 26) (n_ 480)), i_ 28 (.pick (x_ 23) T_ (x_ 27))],
    if_ 28 (sq [r_ [i_ 2 (.mov (n_ 18))],
      .ret]) (.skip)],
   r_ [i_ 2 (.mov (n_ 0))],
   .ret]⟩

/-! 333: wharfage/octets.Noughts -/
def octets_Noughts.pol : Pol := { pure := [384], heap := [999999], ro := roList, rs := [2] }
def octets_Noughts.a : AFun := ⟨1, [.tmp 2],
  sq [r_ [i_ 2 (.mov F_)],
   r_ [m_ 3 0, i_ 4 (.callP 384 [(x_ 3), (c_ (.string ⟨#[0]⟩))] [ix]), m_ 5 0, i_ 6 (.lenS (x_ 5)), i_ 7 (.bin .eql (x_ 4) (x_ 6)), m_ 2 7],
   .ret]⟩

/-! 334: slices.IndexFunc[[]wharfage/journal.Image,wharfage/journal.Image] -/
def slices_IndexFunc_journal_Image_journal_Image.pol : Pol := { heap := [999999], ro := roList, rs := [4], live := [([0, 1, 7, 8], [])] }
def slices_IndexFunc_journal_Image_journal_Image.L0 : ACode :=
  sq [r_ [i_ 9 (.bin .lss (x_ 8) (x_ 7))],
   if_ 9 (.skip) (.exit 0),
   .block 1 (sq [r_ [m_ 10 8, m_ 5 10],
     r_ [m_ 11 1, m_ 12 0, m_ 13 5, i_ 14 (.indexAddrS 2 (x_ 12) (x_ 13)), i_ 15 (.load [ix, .str] true none (x_ 14)), i_ 16 (.callV (x_ 11) [(x_ 15)] [.bool])],
     if_ 16 (sq [r_ [m_ 17 5, m_ 4 17],
       .ret]) (.skip)]),
   r_ [i_ 18 (.bin .add (x_ 8) (n_ 1)), m_ 8 18]]
def slices_IndexFunc_journal_Image_journal_Image.a : AFun := ⟨2, [.tmp 4],
  sq [r_ [i_ 4 (.mov (n_ 0))],
   sq [r_ [m_ 6 0, i_ 7 (.lenL (x_ 6)), i_ 8 (.mov (n_ 0))],
    .block 0 (.loop [0, 1, 7, 8] [] [4] slices_IndexFunc_journal_Image_journal_Image.L0)],
   r_ [i_ 4 (.mov (n_ (-1)))],
   .ret]⟩
def slices_IndexFunc_journal_Image_journal_Image.R0 (C : CallF) (N : Nat) := round (evalC C N slices_IndexFunc_journal_Image_journal_Image.L0) [0, 1, 7, 8] [] [4]
def slices_IndexFunc_journal_Image_journal_Image.K0 (C : CallF) (N : Nat) : Ex → St → R := contC C N [.snd, .fst, .snd, .blk] slices_IndexFunc_journal_Image_journal_Image.a.body (finish slices_IndexFunc_journal_Image_journal_Image.a)

/-! 335: math/bits.Mul32 -/
def math_bits_Mul32.pol : Pol := { heap := [999999], ro := roList, rs := [4, 5] }
def math_bits_Mul32.a : AFun := ⟨2, [.tmp 4, .tmp 5],
  sq [r_ [i_ 4 (.mov (k_ .u32 0)), i_ 5 (.mov (k_ .u32 0))],
   r_ [m_ 7 0, i_ 8 (.convI .u64 (x_ 7)), m_ 9 1, i_ 10 (.convI .u64 (x_ 9)), i_ 11 (.bin .mul (x_ 8) (x_ 10)), m_ 6 11],
   r_ [m_ 12 6, i_ 13 (.bin .shr (x_ 12) (k_ .u64 32)), i_ 14 (.convI .u32 (x_ 13)), m_ 15 6, i_ 16 (.convI .u32 (x_ 15)), m_ 4 14, m_ 5 16],
   .ret]⟩

/-! 336: math/bits.Mul64 -/
def math_bits_Mul64.pol : Pol := { heap := [999999], ro := roList, rs := [4, 5] }
def math_bits_Mul64.a : AFun := ⟨2, [.tmp 4, .tmp 5],
  sq [r_ [i_ 4 (.mov (k_ .u64 0)), i_ 5 (.mov (k_ .u64 0))],
   r_ [m_ 14 0, i_ 15 (.bin .and (x_ 14) (k_ .u64 4294967295)), m_ 6 15],
   r_ [m_ 16 0, i_ 17 (.bin .shr (x_ 16) (k_ .u64 32)), m_ 7 17],
   r_ [m_ 18 1, i_ 19 (.bin .and (x_ 18) (k_ .u64 4294967295)), m_ 8 19],
   r_ [m_ 20 1, i_ 21 (.bin .shr (x_ 20) (k_ .u64 32)), m_ 9 21],
   r_ [m_ 22 6, m_ 23 8, i_ 24 (.bin .mul (x_ 22) (x_ 23)), m_ 10 24],
   r_ [m_ 25 7, m_ 26 8, i_ 27 (.bin .mul (x_ 25) (x_ 26)), m_ 28 10, i_ 29 (.bin .shr (x_ 28) (k_ .u64 32)), i_ 30 (.bin .add (x_ 27) (x_ 29)), m_ 11 30],
   r_ [m_ 31 11, i_ 32 (.bin .and (x_ 31) (k_ .u64 4294967295)), m_ 12 32],
   r_ [m_ 33 11, i_ 34 (.bin .shr (x_ 33) (k_ .u64 32)), m_ 13 34],
   r_ [m_ 35 12, m_ 36 6, m_ 37 9, i_ 38 (.bin .mul (x_ 36) (x_ 37)), i_ 39 (.bin .add (x_ 35) (x_ 38)), m_ 12 39],
   r_ [m_ 40 7, m_ 41 9, i_ 42 (.bin .mul (x_ 40) (x_ 41)), m_ 43 13, i_ 44 (.bin .add (x_ 42) (x_ 43)), m_ 45 12, i_ 46 (.bin .shr (x_ 45) (k_ .u64 32)), i_ 47 (.bin .add (x_ 44) (x_ 46)), m_ 4 47],
   r_ [m_ 48 0, m_ 49 1, i_ 50 (.bin .mul (x_ 48) (x_ 49)), m_ 5 50],
   .ret]⟩

/-! 353: (*wharfage/octets.Reader).fail -/
def octets_Reader_fail.pol : Pol := { heap := [999999], ro := roList, rs := [4] }
def octets_Reader_fail.a : AFun := ⟨2, [.tmp 4],
  sq [r_ [i_ 4 (.mov (c_ (.string ⟨#[]⟩)))],
   r_ [m_ 5 0, m_ 6 0, m_ 7 1, i_ 8 (.nilCk (x_ 5)), i_ 9 (.addr 0 (x_ 8)), u_ (.store 1 none (x_ 9) (c_ (.string ⟨#[]⟩))), i_ 10 (.nilCk (x_ 6)), i_ 11 (.addr 1 (x_ 10)), u_ (.store 1 none (x_ 11) (x_ 7))],
   r_ [i_ 4 (.mov (c_ (.string ⟨#[]⟩)))],
   .ret]⟩

/-! 380: wharfage/crc.More -/
def crc_More.pol : Pol := { pure := [415], heap := [999999], ro := roList, root := [(5, 5), (13, 13), (17, 13), (27, 5), (34, 5)], rs := [4], live := [([5, 6, 13, 14, 15], [6])] }
def crc_More.L0 : ACode :=
  sq [r_ [i_ 16 (.bin .lss (x_ 15) (x_ 14))],
   if_ 16 (.skip) (.exit 0),
   .block 1 (sq [r_ [i_ 17 (.indexAddrS 1 (x_ 13) (x_ 15)), i_ 18 (.load [.int .u8] false (some 13) (x_ 17)), m_ 8 18],
     r_ [m_ 19 6, m_ 20 8, i_ 21 (.convI .u32 (x_ 20)), i_ 22 (.bin .xor (x_ 19) (x_ 21)), m_ 6 22],
     r_ [m_ 23 6, i_ 24 (.bin .shr (x_ 23) (k_ .u64 4)), m_ 25 6, i_ 26 (.bin .and (x_ 25) (k_ .u32 15)), i_ 27 (.indexAddrA 16 1 (x_ 5) (x_ 26)), i_ 28 (.load [.int .u32] false (some 5) (x_ 27)), i_ 29 (.bin .xor (x_ 24) (x_ 28)), m_ 6 29],
     r_ [m_ 30 6, i_ 31 (.bin .shr (x_ 30) (k_ .u64 4)), m_ 32 6, i_ 33 (.bin .and (x_ 32) (k_ .u32 15)), i_ 34 (.indexAddrA 16 1 (x_ 5) (x_ 33)), i_ 35 (.load [.int .u32] false (some 5) (x_ 34)), i_ 36 (.bin .xor (x_ 31) (x_ 35)), m_ 6 36]]),
   r_ [i_ 37 (.bin .add (x_ 15) (n_ 1)), m_ 15 37]]
def crc_More.a : AFun := ⟨2, [.tmp 4],
  sq [r_ [i_ 4 (.mov (k_ .u32 0))],
   r_ [i_ 9 (.callP 415 [] [.ag]), i_ 5 (.allocL [(.at (.int .u32 0)), (.at (.int .u32 0)), (.at (.int .u32 0)), (.at (.int .u32 0)), (.at (.int .u32 0)), (.at (.int .u32 0)), (.at (.int .u32 0)), (.at (.int .u32 0)), (.at (.int .u32 0)), (.at (.int .u32 0)), (.at (.int .u32 0)), (.at (.int .u32 0)), (.at (.int .u32 0)), (.at (.int .u32 0)), (.at (.int .u32 0)), (.at (.int .u32 0))]), u_ (.store 16 (some 5) (x_ 5) (x_ 9))],
   r_ [m_ 10 0, i_ 11 (.bin .xor (x_ 10) (k_ .u32 4294967295)), m_ 6 11],
   sq [r_ [m_ 12 1, i_ 13 (.toBytes (x_ 12)), i_ 14 (.lenL (x_ 13)), i_ 15 (.mov (n_ 0))],
    .block 0 (.loop [5, 6, 13, 14, 15] [6] [4] crc_More.L0)],
   r_ [m_ 38 6, i_ 39 (.bin .xor (x_ 38) (k_ .u32 4294967295)), m_ 4 39],
   .ret]⟩
def crc_More.R0 (C : CallF) (N : Nat) := round (evalC C N crc_More.L0) [5, 6, 13, 14, 15] [6] [4]
def crc_More.K0 (C : CallF) (N : Nat) : Ex → St → R := contC C N [.snd, .snd, .snd, .fst, .snd, .blk] crc_More.a.body (finish crc_More.a)

/-! 381: wharfage/crc.Sum -/
def crc_Sum.pol : Pol := { pure := [380], heap := [999999], ro := roList, rs := [2] }
def crc_Sum.a : AFun := ⟨1, [.tmp 2],
  sq [r_ [i_ 2 (.mov (k_ .u32 0))],
   r_ [m_ 3 0, i_ 4 (.callP 380 [(k_ .u32 0), (x_ 3)] [.int .u32]), m_ 2 4],
   .ret]⟩

/-! 382: slices.Backward[[]wharfage/disk.write,wharfage/disk.write]$1 -/
def slices_Backward_disk_write_disk_write_1.pol : Pol := { heap := [999999], ro := roList, live := [([0, 1, 3], [])] }
def slices_Backward_disk_write_disk_write_1.L0 : ACode :=
  sq [sq [r_ [m_ 7 3, i_ 8 (.bin .geq (x_ 7) (n_ 0))],
    if_ 8 (.skip) (.exit 0)],
   .block 1 (sq [r_ [m_ 11 0, m_ 12 3, i_ 13 (.load [.sl 2] false none (x_ 1)), m_ 14 3, i_ 15 (.indexAddrS 2 (x_ 13) (x_ 14)), i_ 16 (.load [ix, .str] true none (x_ 15)), i_ 17 (.callV (x_ 11) [(x_ 12), (x_ 16)] [.bool]), i_ 18 (.un .not (x_ 17))],
     if_ 18 (.ret) (.skip)]),
   r_ [m_ 9 3, i_ 10 (.bin .sub (x_ 9) (n_ 1)), m_ 3 10]]
def slices_Backward_disk_write_disk_write_1.a : AFun := ⟨2, [],
  sq [r_ [i_ 4 (.load [.sl 2] false none (x_ 1)), i_ 5 (.lenL (x_ 4)), i_ 6 (.bin .sub (x_ 5) (n_ 1)), m_ 3 6],
   .block 0 (.loop [0, 1, 3] [] [] slices_Backward_disk_write_disk_write_1.L0)]⟩
def slices_Backward_disk_write_disk_write_1.R0 (C : CallF) (N : Nat) := round (evalC C N slices_Backward_disk_write_disk_write_1.L0) [0, 1, 3] [] []
def slices_Backward_disk_write_disk_write_1.K0 (C : CallF) (N : Nat) : Ex → St → R := contC C N [.snd, .blk] slices_Backward_disk_write_disk_write_1.a.body (finish slices_Backward_disk_write_disk_write_1.a)

/-! 383: wharfage/sector.short -/
def sector_short.pol : Pol := { heap := [999999], ro := roList, rs := [2] }
def sector_short.a : AFun := ⟨1, [.tmp 2],
  sq [r_ [i_ 2 (.mov F_)],
   r_ [m_ 3 0, i_ 4 (.bin .geq (x_ 3) (n_ 0)), m_ 5 4, gm_ 5 6 0, g_ 5 7 (.bin .leq (x_ 6) (n_ 65535)), i_ 8 (.pick (x_ 5) (x_ 7) F_), m_ 2 8],
   .ret]⟩

/-! 415: wharfage/crc.fours -/
def crc_fours.pol : Pol := { pure := [435], heap := [999999], ro := roList, root := [(0, 0), (1, 1), (13, 1)], rs := [0], live := [([0, 1, 3], [0, 1])] }
def crc_fours.L0 : ACode :=
  sq [r_ [i_ 4 (.bin .lss (x_ 3) (n_ 16))],
   if_ 4 (.skip) (.exit 0),
   .block 1 (sq [r_ [m_ 5 3, m_ 2 5],
     r_ [m_ 6 2, m_ 7 2, i_ 8 (.convI .u32 (x_ 7)), i_ 9 (.callP 435 [(x_ 8)] [.int .u32]), i_ 10 (.callP 435 [(x_ 9)] [.int .u32]), i_ 11 (.callP 435 [(x_ 10)] [.int .u32]), i_ 12 (.callP 435 [(x_ 11)] [.int .u32]), i_ 13 (.indexAddrA 16 1 (x_ 1) (x_ 6)), u_ (.store 1 (some 1) (x_ 13) (x_ 12))]]),
   r_ [i_ 14 (.bin .add (x_ 3) (n_ 1)), m_ 3 14]]
def crc_fours.a : AFun := ⟨0, [.cell 0 [.int .u32, .int .u32, .int .u32, .int .u32, .int .u32, .int .u32, .int .u32, .int .u32, .int .u32, .int .u32, .int .u32, .int .u32, .int .u32, .int .u32, .int .u32, .int .u32] true],
  sq [r_ [i_ 0 (.allocL [(.at (.int .u32 0)), (.at (.int .u32 0)), (.at (.int .u32 0)), (.at (.int .u32 0)), (.at (.int .u32 0)), (.at (.int .u32 0)), (.at (.int .u32 0)), (.at (.int .u32 0)), (.at (.int .u32 0)), (.at (.int .u32 0)), (.at (.int .u32 0)), (.at (.int .u32 0)), (.at (.int .u32 0)), (.at (.int .u32 0)), (.at (.int .u32 0)), (.at (.int .u32 0))])],
   r_ [i_ 1 (.allocL [(.at (.int .u32 0)), (.at (.int .u32 0)), (.at (.int .u32 0)), (.at (.int .u32 0)), (.at (.int .u32 0)), (.at (.int .u32 0)), (.at (.int .u32 0)), (.at (.int .u32 0)), (.at (.int .u32 0)), (.at (.int .u32 0)), (.at (.int .u32 0)), (.at (.int .u32 0)), (.at (.int .u32 0)), (.at (.int .u32 0)), (.at (.int .u32 0)), (.at (.int .u32 0))])],
   sq [r_ [i_ 3 (.mov (n_ 0))],
    .block 0 (.loop [0, 1, 3] [0, 1] [0] crc_fours.L0)],
   r_ [i_ 15 (.load [.int .u32, .int .u32, .int .u32, .int .u32, .int .u32, .int .u32, .int .u32, .int .u32, .int .u32, .int .u32, .int .u32, .int .u32, .int .u32, .int .u32, .int .u32, .int .u32] true (some 1) (x_ 1)), u_ (.store 16 (some 0) (x_ 0) (x_ 15))],
   .ret]⟩
def crc_fours.R0 (C : CallF) (N : Nat) := round (evalC C N crc_fours.L0) [0, 1, 3] [0, 1] [0]
def crc_fours.K0 (C : CallF) (N : Nat) : Ex → St → R := contC C N [.snd, .snd, .fst, .snd, .blk] crc_fours.a.body (finish crc_fours.a)

/-! 435: wharfage/crc.half -/
def crc_half.pol : Pol := { heap := [999999], ro := roList, rs := [2] }
def crc_half.a : AFun := ⟨1, [.tmp 2],
  sq [r_ [i_ 2 (.mov (k_ .u32 0))],
   r_ [m_ 3 0, i_ 4 (.bin .shr (x_ 3) (k_ .u64 1)), m_ 5 0, i_ 6 (.bin .and (x_ 5) (k_ .u32 1)), i_ 7 (.un .neg (x_ 6)), i_ 8 (.bin .and (k_ .u32 3945912366) (x_ 7)), i_ 9 (.bin .xor (x_ 4) (x_ 8)), m_ 2 9],
   .ret]⟩

end Go.Abs
