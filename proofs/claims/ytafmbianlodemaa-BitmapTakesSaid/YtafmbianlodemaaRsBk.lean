/- THE RESIDUALS: what each function's evaluation comes to, by the kernel. Printed by a program of my own. -/
import Derived.Test.YtafmbianlodemaaCodeBit
import Derived.KernelRfl
namespace Go.Abs
set_option linter.unusedVariables false
set_option linter.unusedSimpArgs false
set_option linter.unusedSectionVars false
set_option maxRecDepth 100000
/-! 8 wharfage/wharfagelaw10.BitmapBack -/
theorem law10_BitmapBack.main (C : CallF) (N : Nat) (s0 : ByteArray) (n1 : Int) (n2 : Int) (n3 : Int) (sg4 : Sg) :
    evalF C N law10_BitmapBack.a [AVal.at (Value.string s0), AVal.at (Value.int IntKind.i64 n1), AVal.at (Value.int IntKind.i64 n2), AVal.at (Value.int IntKind.i64 n3)] sg4 =
    withOut (C (16 : Nat) [] [])
      (fun (v : AVal) (x : Sg) =>
        withB (some v) fun (b : Bool) =>
          if (!b) = true then some (Out.ret (AVal.at (Value.bool false)) sg4)
          else
            withOut (C (25 : Nat) [AVal.at (Value.string s0), AVal.at (Value.int IntKind.i64 n1), AVal.at (Value.int IntKind.i64 n2), AVal.at (Value.int IntKind.i64 n3)] [])
              (fun (v : AVal) (x : Sg) =>
                withT v fun (vs : List AVal) =>
                  bif vs.length.beq (3 : Nat) then
                    withL (1 : Nat) vs[(0 : Nat)]? fun (nn : Bool) (l : List AVal) =>
                      withS vs[(1 : Nat)]? fun (s : ByteArray) =>
                        withI IntKind.i64 vs[(2 : Nat)]? fun (n : Int) =>
                          bif noG (AVal.tup [AVal.sl nn (1 : Nat) l, AVal.at (Value.string s), AVal.at (Value.int IntKind.i64 n)]) then
                            if (n != (0 : Int)) = true then
                              if ((↑l.length : Int) == (0 : Int)) = true then
                                if (s.toList == (ByteArray.mk (#[])).toList) = true then
                                  if (n == (18 : Int)) = false then
                                    if (n == (13 : Int)) = true then
                                      withOut (C (21 : Nat) [AVal.at (Value.string s0), AVal.at (Value.int IntKind.i64 n1), AVal.at (Value.int IntKind.i64 n2)] [])
                                        (fun (v : AVal) (x : Sg) =>
                                          withI IntKind.i64 (some v) fun (n : Int) => some (Out.ret (AVal.at (Value.bool (decide (IntKind.i64.wrap (IntKind.i64.wrap (n2 - n1) - n) < n3)))) sg4))
                                        fun (x : AVal) (x_1 : Sg) => none
                                    else some (Out.ret (AVal.at (Value.bool false)) sg4)
                                  else some (Out.ret (AVal.at (Value.bool true)) sg4)
                                else some (Out.ret (AVal.at (Value.bool false)) sg4)
                              else some (Out.ret (AVal.at (Value.bool false)) sg4)
                            else
                              if ((↑l.length : Int) != n3) = false then
                                withOut (C (21 : Nat) [AVal.at (Value.string s), AVal.at (Value.int IntKind.i64 (0 : Int)), AVal.at (Value.int IntKind.i64 (3840 : Int))] [])
                                  (fun (v : AVal) (x : Sg) =>
                                    withI IntKind.i64 (some v) fun (n : Int) =>
                                      withOut (C (21 : Nat) [AVal.at (Value.string s0), AVal.at (Value.int IntKind.i64 (0 : Int)), AVal.at (Value.int IntKind.i64 (3840 : Int))] [])
                                        (fun (v : AVal) (x : Sg) =>
                                          withI IntKind.i64 (some v) fun (n_1 : Int) =>
                                            if (n != IntKind.i64.wrap (n_1 + n3)) = true then some (Out.ret (AVal.at (Value.bool false)) sg4)
                                            else
                                              iter (law10_BitmapBack.R0 C N) N
                                                (mkS [(0 : Nat), (1 : Nat), (2 : Nat), (3 : Nat), (9 : Nat), (10 : Nat), (71 : Nat), (72 : Nat), (73 : Nat)]
                                                  [Slot.v (AVal.at (Value.string s0)) false, Slot.v (AVal.at (Value.int IntKind.i64 n1)) false, Slot.v (AVal.at (Value.int IntKind.i64 n2)) false,
                                                    Slot.v (AVal.at (Value.int IntKind.i64 n3)) false, Slot.v (AVal.sl nn (1 : Nat) l) false, Slot.v (AVal.at (Value.string s)) false,
                                                    Slot.v (AVal.sl nn (1 : Nat) l) false, Slot.v (AVal.at (Value.int IntKind.i64 (↑l.length : Int))) false,
                                                    Slot.v (AVal.at (Value.int IntKind.i64 (0 : Int))) false]
                                                  [none, none, none, none, none, none, none, none, none] (RVal.sg sg4))
                                                (law10_BitmapBack.K0 C N))
                                        fun (x : AVal) (x_1 : Sg) => none)
                                  fun (x : AVal) (x_1 : Sg) => none
                              else some (Out.ret (AVal.at (Value.bool false)) sg4)
                          else none
                  else none)
              fun (x : AVal) (x_1 : Sg) => none)
      fun (x : AVal) (x_1 : Sg) => none := by kernel_rfl
theorem law10_BitmapBack.r0 (C : CallF) (N : Nat) (s0 : ByteArray) (n1 : Int) (n2 : Int) (n3 : Int) (b4 : Bool) (l5 : List AVal) (s6 : ByteArray) (b7 : Bool) (l8 : List AVal) (n9 : Int) (n10 : Int) (sg11 : Sg) (k : Ex → St → R) :
    law10_BitmapBack.R0 C N
      (mkS [(0 : Nat), (1 : Nat), (2 : Nat), (3 : Nat), (9 : Nat), (10 : Nat), (71 : Nat), (72 : Nat), (73 : Nat)]
        [Slot.v (AVal.at (Value.string s0)) false, Slot.v (AVal.at (Value.int IntKind.i64 n1)) false, Slot.v (AVal.at (Value.int IntKind.i64 n2)) false, Slot.v (AVal.at (Value.int IntKind.i64 n3)) false,
          Slot.v (AVal.sl b4 (1 : Nat) l5) false, Slot.v (AVal.at (Value.string s6)) false, Slot.v (AVal.sl b7 (1 : Nat) l8) false, Slot.v (AVal.at (Value.int IntKind.i64 n9)) false,
          Slot.v (AVal.at (Value.int IntKind.i64 n10)) false]
        [none, none, none, none, none, none, none, none, none] (RVal.sg sg11))
      k =
    if decide (n10 < n9) = true then
      if (0 : Int) ≤ n10 then
        withA l8[n10.toNat]? fun (a : AVal) =>
          bif
              (match a with
                    | AVal.agg cs => cs
                    | v => [v]).length.beq
                (1 : Nat) then
            withI IntKind.i64
              (match a with
                | AVal.agg cs => cs
                | v => [v])[(0 : Nat)]?
              fun (n : Int) =>
              if decide (n < n1) = false then
                if decide (n ≥ n2) = false then
                  withOut (C (19 : Nat) [AVal.at (Value.string s0), AVal.at (Value.int IntKind.i64 n)] [])
                    (fun (v : AVal) (x : Sg) =>
                      withB (some v) fun (b : Bool) =>
                        if b = false then
                          withOut (C (19 : Nat) [AVal.at (Value.string s6), AVal.at (Value.int IntKind.i64 n)] [])
                            (fun (v : AVal) (x : Sg) =>
                              withB (some v) fun (b : Bool) =>
                                if (!b) = false then
                                  if decide (n10 > (0 : Int)) = true then
                                    if (0 : Int) ≤ IntKind.i64.wrap (n10 - (1 : Int)) then
                                      withA l5[(IntKind.i64.wrap (n10 - (1 : Int))).toNat]? fun (a : AVal) =>
                                        bif
                                            (match a with
                                                  | AVal.agg cs => cs
                                                  | v => [v]).length.beq
                                              (1 : Nat) then
                                          withI IntKind.i64
                                            (match a with
                                              | AVal.agg cs => cs
                                              | v => [v])[(0 : Nat)]?
                                            fun (n_1 : Int) =>
                                            if decide (n ≤ n_1) = true then k Ex.ret (mkS [(8 : Nat)] [Slot.v (AVal.at (Value.bool false)) false] [none] (RVal.sg sg11))
                                            else
                                              k Ex.normal
                                                (mkS [(0 : Nat), (1 : Nat), (2 : Nat), (3 : Nat), (9 : Nat), (10 : Nat), (71 : Nat), (72 : Nat), (73 : Nat)]
                                                  [Slot.v (AVal.at (Value.string s0)) false, Slot.v (AVal.at (Value.int IntKind.i64 n1)) false, Slot.v (AVal.at (Value.int IntKind.i64 n2)) false,
                                                    Slot.v (AVal.at (Value.int IntKind.i64 n3)) false, Slot.v (AVal.sl b4 (1 : Nat) l5) false, Slot.v (AVal.at (Value.string s6)) false,
                                                    Slot.v (AVal.sl b7 (1 : Nat) l8) false, Slot.v (AVal.at (Value.int IntKind.i64 n9)) false,
                                                    Slot.v (AVal.at (Value.int IntKind.i64 (IntKind.i64.wrap (n10 + (1 : Int))))) false]
                                                  [none, none, none, none, none, none, none, none, none] (RVal.sg sg11))
                                        else none
                                    else none
                                  else
                                    k Ex.normal
                                      (mkS [(0 : Nat), (1 : Nat), (2 : Nat), (3 : Nat), (9 : Nat), (10 : Nat), (71 : Nat), (72 : Nat), (73 : Nat)]
                                        [Slot.v (AVal.at (Value.string s0)) false, Slot.v (AVal.at (Value.int IntKind.i64 n1)) false, Slot.v (AVal.at (Value.int IntKind.i64 n2)) false,
                                          Slot.v (AVal.at (Value.int IntKind.i64 n3)) false, Slot.v (AVal.sl b4 (1 : Nat) l5) false, Slot.v (AVal.at (Value.string s6)) false,
                                          Slot.v (AVal.sl b7 (1 : Nat) l8) false, Slot.v (AVal.at (Value.int IntKind.i64 n9)) false,
                                          Slot.v (AVal.at (Value.int IntKind.i64 (IntKind.i64.wrap (n10 + (1 : Int))))) false]
                                        [none, none, none, none, none, none, none, none, none] (RVal.sg sg11))
                                else k Ex.ret (mkS [(8 : Nat)] [Slot.v (AVal.at (Value.bool false)) false] [none] (RVal.sg sg11)))
                            fun (x : AVal) (x_1 : Sg) => none
                        else k Ex.ret (mkS [(8 : Nat)] [Slot.v (AVal.at (Value.bool false)) false] [none] (RVal.sg sg11)))
                    fun (x : AVal) (x_1 : Sg) => none
                else k Ex.ret (mkS [(8 : Nat)] [Slot.v (AVal.at (Value.bool false)) false] [none] (RVal.sg sg11))
              else k Ex.ret (mkS [(8 : Nat)] [Slot.v (AVal.at (Value.bool false)) false] [none] (RVal.sg sg11))
          else none
      else none
    else
      k (Ex.exit (0 : Nat))
        (mkS [(0 : Nat), (1 : Nat), (3 : Nat), (9 : Nat), (10 : Nat)]
          [Slot.v (AVal.at (Value.string s0)) false, Slot.v (AVal.at (Value.int IntKind.i64 n1)) false, Slot.v (AVal.at (Value.int IntKind.i64 n3)) false, Slot.v (AVal.sl b4 (1 : Nat) l5) false,
            Slot.v (AVal.at (Value.string s6)) false]
          [none, none, none, none, none] (RVal.sg sg11)) := by kernel_rfl
theorem law10_BitmapBack.k0_1 (C : CallF) (N : Nat) (b0 : Bool) (sg1 : Sg) :
    law10_BitmapBack.K0 C N Ex.ret (mkS [(8 : Nat)] [Slot.v (AVal.at (Value.bool b0)) false] [none] (RVal.sg sg1)) =
    some (Out.ret (AVal.at (Value.bool b0)) sg1) := by kernel_rfl
theorem law10_BitmapBack.k0_2 (C : CallF) (N : Nat) (s0 : ByteArray) (n1 : Int) (n2 : Int) (b3 : Bool) (l4 : List AVal) (s5 : ByteArray) (sg6 : Sg) :
    law10_BitmapBack.K0 C N (Ex.exit (0 : Nat))
      (mkS [(0 : Nat), (1 : Nat), (3 : Nat), (9 : Nat), (10 : Nat)]
        [Slot.v (AVal.at (Value.string s0)) false, Slot.v (AVal.at (Value.int IntKind.i64 n1)) false, Slot.v (AVal.at (Value.int IntKind.i64 n2)) false, Slot.v (AVal.sl b3 (1 : Nat) l4) false,
          Slot.v (AVal.at (Value.string s5)) false]
        [none, none, none, none, none] (RVal.sg sg6)) =
    if decide (n2 > (0 : Int)) = true then
      if (0 : Int) ≤ IntKind.i64.wrap (n2 - (1 : Int)) then
        withA l4[(IntKind.i64.wrap (n2 - (1 : Int))).toNat]? fun (a : AVal) =>
          bif
              (match a with
                    | AVal.agg cs => cs
                    | v => [v]).length.beq
                (1 : Nat) then
            withI IntKind.i64
              (match a with
                | AVal.agg cs => cs
                | v => [v])[(0 : Nat)]?
              fun (n : Int) =>
              withOut (C (21 : Nat) [AVal.at (Value.string s5), AVal.at (Value.int IntKind.i64 n1), AVal.at (Value.int IntKind.i64 (IntKind.i64.wrap (n + (1 : Int))))] [])
                (fun (v : AVal) (x : Sg) =>
                  withI IntKind.i64 (some v) fun (n : Int) =>
                    if (0 : Int) ≤ IntKind.i64.wrap (n2 - (1 : Int)) then
                      withA l4[(IntKind.i64.wrap (n2 - (1 : Int))).toNat]? fun (a : AVal) =>
                        bif
                            (match a with
                                  | AVal.agg cs => cs
                                  | v => [v]).length.beq
                              (1 : Nat) then
                          withI IntKind.i64
                            (match a with
                              | AVal.agg cs => cs
                              | v => [v])[(0 : Nat)]?
                            fun (n_1 : Int) =>
                            if (n != IntKind.i64.wrap (IntKind.i64.wrap (n_1 + (1 : Int)) - n1)) = true then some (Out.ret (AVal.at (Value.bool false)) sg6)
                            else
                              bif noGs [AVal.at (Value.string s5), AVal.sl b3 (1 : Nat) l4] then
                                withOut (C (26 : Nat) [AVal.at (Value.string s5), AVal.sl b3 (1 : Nat) l4] [])
                                  (fun (v : AVal) (x : Sg) =>
                                    withT v fun (vs : List AVal) =>
                                      bif vs.length.beq (2 : Nat) then
                                        withS vs[(0 : Nat)]? fun (s : ByteArray) =>
                                          withI IntKind.i64 vs[(1 : Nat)]? fun (n : Int) =>
                                            if ((0 : Nat) + l4.length) * (8 : Nat) ≤ (35184372088832 : Nat) then
                                              if (l4.length + l4.length) * (8 : Nat) ≤ (35184372088832 : Nat) then
                                                bif noGs [AVal.at (Value.string s5), AVal.sl (bothNil l4 (bothNil l4 false)) (1 : Nat) (l4 ++ l4)] then
                                                  withOut (C (26 : Nat) [AVal.at (Value.string s5), AVal.sl (bothNil l4 (bothNil l4 false)) (1 : Nat) (l4 ++ l4)] [])
                                                    (fun (v : AVal) (x : Sg) =>
                                                      withT v fun (vs : List AVal) =>
                                                        bif vs.length.beq (2 : Nat) then
                                                          withS vs[(0 : Nat)]? fun (s_1 : ByteArray) =>
                                                            withI IntKind.i64 vs[(1 : Nat)]? fun (n_2 : Int) =>
                                                              if (n == (0 : Int)) = true then
                                                                if (s.toList == s0.toList) = true then some (Out.ret (AVal.at (Value.bool (false ^^ (n_2 == (18 : Int)) == decide (n2 > (0 : Int))))) sg6)
                                                                else some (Out.ret (AVal.at (Value.bool false)) sg6)
                                                              else some (Out.ret (AVal.at (Value.bool false)) sg6)
                                                        else none)
                                                    fun (x : AVal) (x_1 : Sg) => none
                                                else none
                                              else none
                                            else none
                                      else none)
                                  fun (x : AVal) (x_1 : Sg) => none
                              else none
                        else none
                    else none)
                fun (x : AVal) (x_1 : Sg) => none
          else none
      else none
    else
      bif noGs [AVal.at (Value.string s5), AVal.sl b3 (1 : Nat) l4] then
        withOut (C (26 : Nat) [AVal.at (Value.string s5), AVal.sl b3 (1 : Nat) l4] [])
          (fun (v : AVal) (x : Sg) =>
            withT v fun (vs : List AVal) =>
              bif vs.length.beq (2 : Nat) then
                withS vs[(0 : Nat)]? fun (s : ByteArray) =>
                  withI IntKind.i64 vs[(1 : Nat)]? fun (n : Int) =>
                    if ((0 : Nat) + l4.length) * (8 : Nat) ≤ (35184372088832 : Nat) then
                      if (l4.length + l4.length) * (8 : Nat) ≤ (35184372088832 : Nat) then
                        bif noGs [AVal.at (Value.string s5), AVal.sl (bothNil l4 (bothNil l4 false)) (1 : Nat) (l4 ++ l4)] then
                          withOut (C (26 : Nat) [AVal.at (Value.string s5), AVal.sl (bothNil l4 (bothNil l4 false)) (1 : Nat) (l4 ++ l4)] [])
                            (fun (v : AVal) (x : Sg) =>
                              withT v fun (vs : List AVal) =>
                                bif vs.length.beq (2 : Nat) then
                                  withS vs[(0 : Nat)]? fun (s_1 : ByteArray) =>
                                    withI IntKind.i64 vs[(1 : Nat)]? fun (n_1 : Int) =>
                                      if (n == (0 : Int)) = true then
                                        if (s.toList == s0.toList) = true then some (Out.ret (AVal.at (Value.bool (false ^^ (n_1 == (18 : Int)) == decide (n2 > (0 : Int))))) sg6)
                                        else some (Out.ret (AVal.at (Value.bool false)) sg6)
                                      else some (Out.ret (AVal.at (Value.bool false)) sg6)
                                else none)
                            fun (x : AVal) (x_1 : Sg) => none
                        else none
                      else none
                    else none
              else none)
          fun (x : AVal) (x_1 : Sg) => none
      else none := by kernel_rfl


/-! 23 wharfage/bitmap.Lowest -/
theorem bitmap_Lowest.main (C : CallF) (N : Nat) (s0 : ByteArray) (n1 : Int) (n2 : Int) (n3 : Int) (sg4 : Sg) :
    evalF C N bitmap_Lowest.a [AVal.at (Value.string s0), AVal.at (Value.int IntKind.i64 n1), AVal.at (Value.int IntKind.i64 n2), AVal.at (Value.int IntKind.i64 n3)] sg4 =
    withOut (C (40 : Nat) [AVal.at (Value.string s0), AVal.at (Value.int IntKind.i64 n1), AVal.at (Value.int IntKind.i64 n2)] sg4)
      (fun (v : AVal) (sg' : Sg) =>
        withB (some v) fun (b : Bool) =>
          if (!b) = false then
            if decide (n3 < (0 : Int)) = true then some (Out.ret (AVal.tup [AVal.sl true (1 : Nat) [], AVal.at (Value.int IntKind.i64 (18 : Int))]) sg')
            else
              withOut (C (41 : Nat) [AVal.at (Value.string s0), AVal.at (Value.int IntKind.i64 n1), AVal.at (Value.int IntKind.i64 n2), AVal.at (Value.int IntKind.i64 n3)] sg')
                (fun (v : AVal) (sg' : Sg) =>
                  withL (1 : Nat) (some v) fun (nn : Bool) (l : List AVal) =>
                    if decide ((↑l.length : Int) < n3) = true then some (Out.ret (AVal.tup [AVal.sl true (1 : Nat) [], AVal.at (Value.int IntKind.i64 (13 : Int))]) sg')
                    else some (Out.ret (AVal.tup [AVal.sl nn (1 : Nat) l, AVal.at (Value.int IntKind.i64 (0 : Int))]) sg'))
                fun (v : AVal) (sg' : Sg) => some (Out.pan v sg')
          else some (Out.ret (AVal.tup [AVal.sl true (1 : Nat) [], AVal.at (Value.int IntKind.i64 (18 : Int))]) sg'))
      fun (v : AVal) (sg' : Sg) => some (Out.pan v sg') := by kernel_rfl


/-! 24 wharfage/wharfageref10.Lowest -/
theorem ref10_Lowest.main (C : CallF) (N : Nat) (s0 : ByteArray) (n1 : Int) (n2 : Int) (n3 : Int) (sg4 : Sg) :
    evalF C N ref10_Lowest.a [AVal.at (Value.string s0), AVal.at (Value.int IntKind.i64 n1), AVal.at (Value.int IntKind.i64 n2), AVal.at (Value.int IntKind.i64 n3)] sg4 =
    withOut (C (42 : Nat) [AVal.at (Value.string s0), AVal.at (Value.int IntKind.i64 n1), AVal.at (Value.int IntKind.i64 n2)] sg4)
      (fun (v : AVal) (sg' : Sg) =>
        withB (some v) fun (b : Bool) =>
          if (!b) = false then
            if decide (n3 < (0 : Int)) = true then some (Out.ret (AVal.tup [AVal.sl true (1 : Nat) [], AVal.at (Value.int IntKind.i64 (18 : Int))]) sg')
            else
              withOut (C (43 : Nat) [AVal.at (Value.string s0), AVal.at (Value.int IntKind.i64 n1), AVal.at (Value.int IntKind.i64 n2)] sg')
                (fun (v : AVal) (sg' : Sg) =>
                  withL (1 : Nat) (some v) fun (nn : Bool) (l : List AVal) =>
                    if decide ((↑l.length : Int) < n3) = true then some (Out.ret (AVal.tup [AVal.sl true (1 : Nat) [], AVal.at (Value.int IntKind.i64 (13 : Int))]) sg')
                    else
                      if (0 : Int) ≤ (0 : Int) ∧ (0 : Int) ≤ n3 ∧ n3 ≤ (↑l.length : Int) then
                        some (Out.ret (AVal.tup [AVal.sl nn (1 : Nat) (List.take (n3.toNat - Int.toNat (0 : Int)) (List.drop (Int.toNat (0 : Int)) l)), AVal.at (Value.int IntKind.i64 (0 : Int))]) sg')
                      else none)
                fun (v : AVal) (sg' : Sg) => some (Out.pan v sg')
          else some (Out.ret (AVal.tup [AVal.sl true (1 : Nat) [], AVal.at (Value.int IntKind.i64 (18 : Int))]) sg'))
      fun (v : AVal) (sg' : Sg) => some (Out.pan v sg') := by kernel_rfl


/-! 25 wharfage/bitmap.Take -/
theorem bitmap_Take.main (C : CallF) (N : Nat) (s0 : ByteArray) (n1 : Int) (n2 : Int) (n3 : Int) (sg4 : Sg) :
    evalF C N bitmap_Take.a [AVal.at (Value.string s0), AVal.at (Value.int IntKind.i64 n1), AVal.at (Value.int IntKind.i64 n2), AVal.at (Value.int IntKind.i64 n3)] sg4 =
    withOut (C (23 : Nat) [AVal.at (Value.string s0), AVal.at (Value.int IntKind.i64 n1), AVal.at (Value.int IntKind.i64 n2), AVal.at (Value.int IntKind.i64 n3)] sg4)
      (fun (v : AVal) (sg' : Sg) =>
        withT v fun (vs : List AVal) =>
          bif vs.length.beq (2 : Nat) then
            withL (1 : Nat) vs[(0 : Nat)]? fun (nn : Bool) (l : List AVal) =>
              withI IntKind.i64 vs[(1 : Nat)]? fun (n : Int) =>
                if (n != (0 : Int)) = true then some (Out.ret (AVal.tup [AVal.sl true (1 : Nat) [], AVal.at (Value.string (ByteArray.mk (#[]))), AVal.at (Value.int IntKind.i64 n)]) sg')
                else
                  bif noGs [AVal.at (Value.string s0), AVal.sl nn (1 : Nat) l, AVal.at (Value.bool true)] then
                    withOut (C (44 : Nat) [AVal.at (Value.string s0), AVal.sl nn (1 : Nat) l, AVal.at (Value.bool true)] [])
                      (fun (v : AVal) (x : Sg) =>
                        withT v fun (vs : List AVal) =>
                          bif vs.length.beq (2 : Nat) then
                            withS vs[(0 : Nat)]? fun (s : ByteArray) =>
                              withI IntKind.i64 vs[(1 : Nat)]? fun (n : Int) => some (Out.ret (AVal.tup [AVal.sl nn (1 : Nat) l, AVal.at (Value.string s), AVal.at (Value.int IntKind.i64 n)]) sg')
                          else none)
                      fun (x : AVal) (x_1 : Sg) => none
                  else none
          else none)
      fun (v : AVal) (sg' : Sg) => some (Out.pan v sg') := by kernel_rfl


/-! 26 wharfage/bitmap.Give -/
theorem bitmap_Give.main (C : CallF) (N : Nat) (s0 : ByteArray) (b1 : Bool) (l2 : List AVal) (sg3 : Sg) :
    evalF C N bitmap_Give.a [AVal.at (Value.string s0), AVal.sl b1 (1 : Nat) l2] sg3 =
    bif noGs [AVal.at (Value.string s0), AVal.sl b1 (1 : Nat) l2, AVal.at (Value.bool false)] then
      withOut (C (44 : Nat) [AVal.at (Value.string s0), AVal.sl b1 (1 : Nat) l2, AVal.at (Value.bool false)] [])
        (fun (v : AVal) (x : Sg) =>
          withT v fun (vs : List AVal) =>
            bif vs.length.beq (2 : Nat) then
              withS vs[(0 : Nat)]? fun (s : ByteArray) => withI IntKind.i64 vs[(1 : Nat)]? fun (n : Int) => some (Out.ret (AVal.tup [AVal.at (Value.string s), AVal.at (Value.int IntKind.i64 n)]) sg3)
            else none)
        fun (x : AVal) (x_1 : Sg) => none
    else none := by kernel_rfl


/-! 27 wharfage/wharfageref10.Give -/
theorem ref10_Give.main (C : CallF) (N : Nat) (s0 : ByteArray) (b1 : Bool) (l2 : List AVal) (sg3 : Sg) :
    evalF C N ref10_Give.a [AVal.at (Value.string s0), AVal.sl b1 (1 : Nat) l2] sg3 =
    if ((↑s0.size : Int) != (480 : Int)) = true then some (Out.ret (AVal.tup [AVal.at (Value.string (ByteArray.mk (#[]))), AVal.at (Value.int IntKind.i64 (18 : Int))]) sg3)
    else
      iter (ref10_Give.R0 C N) N
        (mkS [(0 : Nat), (1 : Nat), (6 : Nat)] [Slot.v (AVal.at (Value.string s0)) false, Slot.v (AVal.sl b1 (1 : Nat) l2) false, Slot.v (AVal.at (Value.int IntKind.i64 (0 : Int))) false]
          [none, none, none] (RVal.sg sg3))
        (ref10_Give.K0 C N) := by kernel_rfl
theorem ref10_Give.r0 (C : CallF) (N : Nat) (s0 : ByteArray) (b1 : Bool) (l2 : List AVal) (n3 : Int) (sg4 : Sg) (k : Ex → St → R) :
    ref10_Give.R0 C N
      (mkS [(0 : Nat), (1 : Nat), (6 : Nat)] [Slot.v (AVal.at (Value.string s0)) false, Slot.v (AVal.sl b1 (1 : Nat) l2) false, Slot.v (AVal.at (Value.int IntKind.i64 n3)) false] [none, none, none]
        (RVal.sg sg4))
      k =
    if decide (n3 < (↑l2.length : Int)) = true then
      if (0 : Int) ≤ n3 then
        withA l2[n3.toNat]? fun (a : AVal) =>
          bif
              (match a with
                    | AVal.agg cs => cs
                    | v => [v]).length.beq
                (1 : Nat) then
            withI IntKind.i64
              (match a with
                | AVal.agg cs => cs
                | v => [v])[(0 : Nat)]?
              fun (n : Int) =>
              withOut (C (20 : Nat) [AVal.at (Value.string s0), AVal.at (Value.int IntKind.i64 n)] sg4)
                (fun (v : AVal) (sg' : Sg) =>
                  withB (some v) fun (b : Bool) =>
                    if (!b) = true then
                      k Ex.ret (mkS [(4 : Nat), (5 : Nat)] [Slot.v (AVal.at (Value.string (ByteArray.mk (#[])))) false, Slot.v (AVal.at (Value.int IntKind.i64 (18 : Int))) false] [none, none] (RVal.sg sg'))
                    else
                      iter (ref10_Give.R1 C N) N
                        (mkS [(0 : Nat), (1 : Nat), (6 : Nat), (7 : Nat)]
                          [Slot.v (AVal.at (Value.string s0)) false, Slot.v (AVal.sl b1 (1 : Nat) l2) false, Slot.v (AVal.at (Value.int IntKind.i64 n3)) false,
                            Slot.v (AVal.at (Value.int IntKind.i64 (0 : Int))) false]
                          [none, none, none, none] (RVal.sg sg'))
                        (ref10_Give.K1 C N k))
                fun (v : AVal) (sg' : Sg) => some (Out.pan v sg')
          else none
      else none
    else k (Ex.exit (0 : Nat)) (mkS [(0 : Nat), (1 : Nat)] [Slot.v (AVal.at (Value.string s0)) false, Slot.v (AVal.sl b1 (1 : Nat) l2) false] [none, none] (RVal.sg sg4)) := by kernel_rfl
theorem ref10_Give.k0_1 (C : CallF) (N : Nat) (s0 : ByteArray) (n1 : Int) (sg2 : Sg) :
    ref10_Give.K0 C N Ex.ret (mkS [(4 : Nat), (5 : Nat)] [Slot.v (AVal.at (Value.string s0)) false, Slot.v (AVal.at (Value.int IntKind.i64 n1)) false] [none, none] (RVal.sg sg2)) =
    some (Out.ret (AVal.tup [AVal.at (Value.string s0), AVal.at (Value.int IntKind.i64 n1)]) sg2) := by kernel_rfl
theorem ref10_Give.k0_2 (C : CallF) (N : Nat) (s0 : ByteArray) (b1 : Bool) (l2 : List AVal) (sg3 : Sg) :
    ref10_Give.K0 C N (Ex.exit (0 : Nat)) (mkS [(0 : Nat), (1 : Nat)] [Slot.v (AVal.at (Value.string s0)) false, Slot.v (AVal.sl b1 (1 : Nat) l2) false] [none, none] (RVal.sg sg3)) =
    withOut (C (28 : Nat) [AVal.at (Value.string s0), AVal.sl b1 (1 : Nat) l2, AVal.at (Value.bool false)] sg3)
      (fun (v : AVal) (sg' : Sg) => withS (some v) fun (s : ByteArray) => some (Out.ret (AVal.tup [AVal.at (Value.string s), AVal.at (Value.int IntKind.i64 (0 : Int))]) sg')) fun (v : AVal) (sg' : Sg) =>
      some (Out.pan v sg') := by kernel_rfl
theorem ref10_Give.r1 (C : CallF) (N : Nat) (s0 : ByteArray) (b1 : Bool) (l2 : List AVal) (n3 : Int) (n4 : Int) (sg5 : Sg) (k : Ex → St → R) :
    ref10_Give.R1 C N
      (mkS [(0 : Nat), (1 : Nat), (6 : Nat), (7 : Nat)]
        [Slot.v (AVal.at (Value.string s0)) false, Slot.v (AVal.sl b1 (1 : Nat) l2) false, Slot.v (AVal.at (Value.int IntKind.i64 n3)) false, Slot.v (AVal.at (Value.int IntKind.i64 n4)) false]
        [none, none, none, none] (RVal.sg sg5))
      k =
    if decide (n4 < n3) = true then
      if (0 : Int) ≤ n4 then
        withA l2[n4.toNat]? fun (a : AVal) =>
          bif
              (match a with
                    | AVal.agg cs => cs
                    | v => [v]).length.beq
                (1 : Nat) then
            withI IntKind.i64
              (match a with
                | AVal.agg cs => cs
                | v => [v])[(0 : Nat)]?
              fun (n : Int) =>
              if (0 : Int) ≤ n3 then
                withA l2[n3.toNat]? fun (a : AVal) =>
                  bif
                      (match a with
                            | AVal.agg cs => cs
                            | v => [v]).length.beq
                        (1 : Nat) then
                    withI IntKind.i64
                      (match a with
                        | AVal.agg cs => cs
                        | v => [v])[(0 : Nat)]?
                      fun (n_1 : Int) =>
                      if (n == n_1) = true then
                        k Ex.ret (mkS [(4 : Nat), (5 : Nat)] [Slot.v (AVal.at (Value.string (ByteArray.mk (#[])))) false, Slot.v (AVal.at (Value.int IntKind.i64 (18 : Int))) false] [none, none] (RVal.sg sg5))
                      else
                        k Ex.normal
                          (mkS [(0 : Nat), (1 : Nat), (6 : Nat), (7 : Nat)]
                            [Slot.v (AVal.at (Value.string s0)) false, Slot.v (AVal.sl b1 (1 : Nat) l2) false, Slot.v (AVal.at (Value.int IntKind.i64 n3)) false,
                              Slot.v (AVal.at (Value.int IntKind.i64 (IntKind.i64.wrap (n4 + (1 : Int))))) false]
                            [none, none, none, none] (RVal.sg sg5))
                  else none
              else none
          else none
      else none
    else
      k (Ex.exit (2 : Nat))
        (mkS [(0 : Nat), (1 : Nat), (6 : Nat)] [Slot.v (AVal.at (Value.string s0)) false, Slot.v (AVal.sl b1 (1 : Nat) l2) false, Slot.v (AVal.at (Value.int IntKind.i64 n3)) false] [none, none, none]
          (RVal.sg sg5)) := by kernel_rfl
theorem ref10_Give.k1_1 (C : CallF) (N : Nat) (s0 : ByteArray) (n1 : Int) (sg2 : Sg) (k : Ex → St → R) :
    ref10_Give.K1 C N k Ex.ret (mkS [(4 : Nat), (5 : Nat)] [Slot.v (AVal.at (Value.string s0)) false, Slot.v (AVal.at (Value.int IntKind.i64 n1)) false] [none, none] (RVal.sg sg2)) =
    k Ex.ret (mkS [(4 : Nat), (5 : Nat)] [Slot.v (AVal.at (Value.string s0)) false, Slot.v (AVal.at (Value.int IntKind.i64 n1)) false] [none, none] (RVal.sg sg2)) := by kernel_rfl
-- way out beyond the holder: Ex.ret
theorem ref10_Give.k1_2 (C : CallF) (N : Nat) (s0 : ByteArray) (b1 : Bool) (l2 : List AVal) (n3 : Int) (sg4 : Sg) (k : Ex → St → R) :
    ref10_Give.K1 C N k (Ex.exit (2 : Nat))
      (mkS [(0 : Nat), (1 : Nat), (6 : Nat)] [Slot.v (AVal.at (Value.string s0)) false, Slot.v (AVal.sl b1 (1 : Nat) l2) false, Slot.v (AVal.at (Value.int IntKind.i64 n3)) false] [none, none, none]
        (RVal.sg sg4)) =
    k Ex.normal
      (mkS [(0 : Nat), (1 : Nat), (6 : Nat)]
        [Slot.v (AVal.at (Value.string s0)) false, Slot.v (AVal.sl b1 (1 : Nat) l2) false, Slot.v (AVal.at (Value.int IntKind.i64 (IntKind.i64.wrap (n3 + (1 : Int))))) false] [none, none, none]
        (RVal.sg sg4)) := by kernel_rfl
-- holder goes on


/-! 28 wharfage/wharfageref10.All -/
theorem ref10_All.main (C : CallF) (N : Nat) (s0 : ByteArray) (b1 : Bool) (l2 : List AVal) (b3 : Bool) (sg4 : Sg) :
    evalF C N ref10_All.a [AVal.at (Value.string s0), AVal.sl b1 (1 : Nat) l2, AVal.at (Value.bool b3)] sg4 =
    iter (ref10_All.R0 C N) N
      (mkS [(0 : Nat), (1 : Nat), (2 : Nat), (7 : Nat)]
        [Slot.v (AVal.at (Value.string s0)) false, Slot.v (AVal.sl b1 (1 : Nat) l2) false, Slot.v (AVal.at (Value.bool b3)) false, Slot.v (AVal.at (Value.int IntKind.i64 (0 : Int))) false]
        [none, none, none, none] (RVal.sg sg4))
      (ref10_All.K0 C N) := by kernel_rfl
theorem ref10_All.r0 (C : CallF) (N : Nat) (s0 : ByteArray) (b1 : Bool) (l2 : List AVal) (b3 : Bool) (n4 : Int) (sg5 : Sg) (k : Ex → St → R) :
    ref10_All.R0 C N
      (mkS [(0 : Nat), (1 : Nat), (2 : Nat), (7 : Nat)]
        [Slot.v (AVal.at (Value.string s0)) false, Slot.v (AVal.sl b1 (1 : Nat) l2) false, Slot.v (AVal.at (Value.bool b3)) false, Slot.v (AVal.at (Value.int IntKind.i64 n4)) false]
        [none, none, none, none] (RVal.sg sg5))
      k =
    if decide (n4 < (↑l2.length : Int)) = true then
      if (0 : Int) ≤ n4 then
        withA l2[n4.toNat]? fun (a : AVal) =>
          bif
              (match a with
                    | AVal.agg cs => cs
                    | v => [v]).length.beq
                (1 : Nat) then
            withI IntKind.i64
              (match a with
                | AVal.agg cs => cs
                | v => [v])[(0 : Nat)]?
              fun (n : Int) =>
              withOut (C (18 : Nat) [AVal.at (Value.string s0), AVal.at (Value.int IntKind.i64 n), AVal.at (Value.bool b3)] sg5)
                (fun (v : AVal) (sg' : Sg) =>
                  withT v fun (vs : List AVal) =>
                    bif vs.length.beq (2 : Nat) then
                      withS vs[(0 : Nat)]? fun (s : ByteArray) =>
                        withI IntKind.i64 vs[(1 : Nat)]? fun (n : Int) =>
                          k Ex.normal
                            (mkS [(0 : Nat), (1 : Nat), (2 : Nat), (7 : Nat)]
                              [Slot.v (AVal.at (Value.string s)) false, Slot.v (AVal.sl b1 (1 : Nat) l2) false, Slot.v (AVal.at (Value.bool b3)) false,
                                Slot.v (AVal.at (Value.int IntKind.i64 (IntKind.i64.wrap (n4 + (1 : Int))))) false]
                              [none, none, none, none] (RVal.sg sg'))
                    else none)
                fun (v : AVal) (sg' : Sg) => some (Out.pan v sg')
          else none
      else none
    else k (Ex.exit (0 : Nat)) (mkS [(0 : Nat)] [Slot.v (AVal.at (Value.string s0)) false] [none] (RVal.sg sg5)) := by kernel_rfl
theorem ref10_All.k0_1 (C : CallF) (N : Nat) (s0 : ByteArray) (sg1 : Sg) :
    ref10_All.K0 C N (Ex.exit (0 : Nat)) (mkS [(0 : Nat)] [Slot.v (AVal.at (Value.string s0)) false] [none] (RVal.sg sg1)) =
    some (Out.ret (AVal.at (Value.string s0)) sg1) := by kernel_rfl


/-! 29 wharfage/wharfageref10.Same -/
theorem ref10_Same.main (C : CallF) (N : Nat) (b0 : Bool) (l1 : List AVal) (b2 : Bool) (l3 : List AVal) (sg4 : Sg) :
    evalF C N ref10_Same.a [AVal.sl b0 (1 : Nat) l1, AVal.sl b2 (1 : Nat) l3] sg4 =
    if ((↑l1.length : Int) != (↑l3.length : Int)) = true then some (Out.ret (AVal.at (Value.bool false)) sg4)
    else
      iter (ref10_Same.R0 C N) N
        (mkS [(0 : Nat), (1 : Nat), (5 : Nat)] [Slot.v (AVal.sl b0 (1 : Nat) l1) false, Slot.v (AVal.sl b2 (1 : Nat) l3) false, Slot.v (AVal.at (Value.int IntKind.i64 (0 : Int))) false] [none, none, none]
          (RVal.sg sg4))
        (ref10_Same.K0 C N) := by kernel_rfl
theorem ref10_Same.r0 (C : CallF) (N : Nat) (b0 : Bool) (l1 : List AVal) (b2 : Bool) (l3 : List AVal) (n4 : Int) (sg5 : Sg) (k : Ex → St → R) :
    ref10_Same.R0 C N
      (mkS [(0 : Nat), (1 : Nat), (5 : Nat)] [Slot.v (AVal.sl b0 (1 : Nat) l1) false, Slot.v (AVal.sl b2 (1 : Nat) l3) false, Slot.v (AVal.at (Value.int IntKind.i64 n4)) false] [none, none, none]
        (RVal.sg sg5))
      k =
    if decide (n4 < (↑l1.length : Int)) = true then
      if (0 : Int) ≤ n4 then
        withA l1[n4.toNat]? fun (a : AVal) =>
          bif
              (match a with
                    | AVal.agg cs => cs
                    | v => [v]).length.beq
                (1 : Nat) then
            withI IntKind.i64
              (match a with
                | AVal.agg cs => cs
                | v => [v])[(0 : Nat)]?
              fun (n : Int) =>
              if (0 : Int) ≤ n4 then
                withA l3[n4.toNat]? fun (a : AVal) =>
                  bif
                      (match a with
                            | AVal.agg cs => cs
                            | v => [v]).length.beq
                        (1 : Nat) then
                    withI IntKind.i64
                      (match a with
                        | AVal.agg cs => cs
                        | v => [v])[(0 : Nat)]?
                      fun (n_1 : Int) =>
                      if (n != n_1) = true then k Ex.ret (mkS [(4 : Nat)] [Slot.v (AVal.at (Value.bool false)) false] [none] (RVal.sg sg5))
                      else
                        k Ex.normal
                          (mkS [(0 : Nat), (1 : Nat), (5 : Nat)]
                            [Slot.v (AVal.sl b0 (1 : Nat) l1) false, Slot.v (AVal.sl b2 (1 : Nat) l3) false, Slot.v (AVal.at (Value.int IntKind.i64 (IntKind.i64.wrap (n4 + (1 : Int))))) false]
                            [none, none, none] (RVal.sg sg5))
                  else none
              else none
          else none
      else none
    else k (Ex.exit (0 : Nat)) (mkS [] [] [] (RVal.sg sg5)) := by kernel_rfl
theorem ref10_Same.k0_1 (C : CallF) (N : Nat) (b0 : Bool) (sg1 : Sg) :
    ref10_Same.K0 C N Ex.ret (mkS [(4 : Nat)] [Slot.v (AVal.at (Value.bool b0)) false] [none] (RVal.sg sg1)) =
    some (Out.ret (AVal.at (Value.bool b0)) sg1) := by kernel_rfl
theorem ref10_Same.k0_2 (C : CallF) (N : Nat) (sg0 : Sg) :
    ref10_Same.K0 C N (Ex.exit (0 : Nat)) (mkS [] [] [] (RVal.sg sg0)) =
    some (Out.ret (AVal.at (Value.bool true)) sg0) := by kernel_rfl


/-! 31 wharfage/wharfageref10.Spans -/
theorem ref10_Spans.main (C : CallF) (N : Nat) (s0 : ByteArray) (n1 : Int) (n2 : Int) (sg3 : Sg) :
    evalF C N ref10_Spans.a [AVal.at (Value.string s0), AVal.at (Value.int IntKind.i64 n1), AVal.at (Value.int IntKind.i64 n2)] sg3 =
    withOut (C (42 : Nat) [AVal.at (Value.string s0), AVal.at (Value.int IntKind.i64 n1), AVal.at (Value.int IntKind.i64 n2)] sg3)
      (fun (v : AVal) (sg' : Sg) =>
        withB (some v) fun (b : Bool) =>
          if (!b) = true then some (Out.ret (AVal.sl false (2 : Nat) []) sg')
          else
            iter (ref10_Spans.R0 C N) N
              (mkS [(0 : Nat), (2 : Nat), (7 : Nat), (8 : Nat)]
                [Slot.v (AVal.at (Value.string s0)) false, Slot.v (AVal.at (Value.int IntKind.i64 n2)) false, Slot.v (AVal.sl false (2 : Nat) []) true, Slot.v (AVal.at (Value.int IntKind.i64 n1)) false]
                [none, none, none, none] (RVal.sg sg'))
              (ref10_Spans.K0 C N))
      fun (v : AVal) (sg' : Sg) => some (Out.pan v sg') := by kernel_rfl
theorem ref10_Spans.r0 (C : CallF) (N : Nat) (s0 : ByteArray) (n1 : Int) (b2 : Bool) (l3 : List AVal) (n4 : Int) (sg5 : Sg) (k : Ex → St → R) :
    ref10_Spans.R0 C N
      (mkS [(0 : Nat), (2 : Nat), (7 : Nat), (8 : Nat)]
        [Slot.v (AVal.at (Value.string s0)) false, Slot.v (AVal.at (Value.int IntKind.i64 n1)) false, Slot.v (AVal.sl b2 (2 : Nat) l3) true, Slot.v (AVal.at (Value.int IntKind.i64 n4)) false]
        [none, none, none, none] (RVal.sg sg5))
      k =
    if decide (n4 < n1) = true then
      withOut (C (20 : Nat) [AVal.at (Value.string s0), AVal.at (Value.int IntKind.i64 n4)] sg5)
        (fun (v : AVal) (sg' : Sg) =>
          withB (some v) fun (b : Bool) =>
            if b = true then
              k Ex.normal
                (mkS [(0 : Nat), (2 : Nat), (7 : Nat), (8 : Nat)]
                  [Slot.v (AVal.at (Value.string s0)) false, Slot.v (AVal.at (Value.int IntKind.i64 n1)) false, Slot.v (AVal.sl b2 (2 : Nat) l3) true,
                    Slot.v (AVal.at (Value.int IntKind.i64 (IntKind.i64.wrap (n4 + (1 : Int))))) false]
                  [none, none, none, none] (RVal.sg sg'))
            else
              iter (ref10_Spans.R1 C N) N
                (mkS [(0 : Nat), (2 : Nat), (7 : Nat), (8 : Nat), (9 : Nat)]
                  [Slot.v (AVal.at (Value.string s0)) false, Slot.v (AVal.at (Value.int IntKind.i64 n1)) false, Slot.v (AVal.sl b2 (2 : Nat) l3) true, Slot.v (AVal.at (Value.int IntKind.i64 n4)) false,
                    Slot.v (AVal.at (Value.int IntKind.i64 n4)) false]
                  [none, none, none, none, none] (RVal.sg sg'))
                (ref10_Spans.K1 C N k))
        fun (v : AVal) (sg' : Sg) => some (Out.pan v sg')
    else k (Ex.exit (0 : Nat)) (mkS [(7 : Nat)] [Slot.v (AVal.sl b2 (2 : Nat) l3) true] [none] (RVal.sg sg5)) := by kernel_rfl
theorem ref10_Spans.k0_1 (C : CallF) (N : Nat) (b0 : Bool) (l1 : List AVal) (sg2 : Sg) :
    ref10_Spans.K0 C N (Ex.exit (0 : Nat)) (mkS [(7 : Nat)] [Slot.v (AVal.sl b0 (2 : Nat) l1) true] [none] (RVal.sg sg2)) =
    some (Out.ret (AVal.sl b0 (2 : Nat) l1) sg2) := by kernel_rfl
theorem ref10_Spans.r1 (C : CallF) (N : Nat) (s0 : ByteArray) (n1 : Int) (b2 : Bool) (l3 : List AVal) (n4 : Int) (n5 : Int) (sg6 : Sg) (k : Ex → St → R) :
    ref10_Spans.R1 C N
      (mkS [(0 : Nat), (2 : Nat), (7 : Nat), (8 : Nat), (9 : Nat)]
        [Slot.v (AVal.at (Value.string s0)) false, Slot.v (AVal.at (Value.int IntKind.i64 n1)) false, Slot.v (AVal.sl b2 (2 : Nat) l3) true, Slot.v (AVal.at (Value.int IntKind.i64 n4)) false,
          Slot.v (AVal.at (Value.int IntKind.i64 n5)) false]
        [none, none, none, none, none] (RVal.sg sg6))
      k =
    if decide (n5 < n1) = true then
      withOut (C (20 : Nat) [AVal.at (Value.string s0), AVal.at (Value.int IntKind.i64 n5)] sg6)
        (fun (v : AVal) (sg' : Sg) =>
          withB (some v) fun (b : Bool) =>
            if (!b) = true then
              k Ex.normal
                (mkS [(0 : Nat), (2 : Nat), (7 : Nat), (8 : Nat), (9 : Nat)]
                  [Slot.v (AVal.at (Value.string s0)) false, Slot.v (AVal.at (Value.int IntKind.i64 n1)) false, Slot.v (AVal.sl b2 (2 : Nat) l3) true, Slot.v (AVal.at (Value.int IntKind.i64 n4)) false,
                    Slot.v (AVal.at (Value.int IntKind.i64 (IntKind.i64.wrap (n5 + (1 : Int))))) false]
                  [none, none, none, none, none] (RVal.sg sg'))
            else
              k (Ex.exit (2 : Nat))
                (mkS [(0 : Nat), (2 : Nat), (7 : Nat), (8 : Nat), (9 : Nat)]
                  [Slot.v (AVal.at (Value.string s0)) false, Slot.v (AVal.at (Value.int IntKind.i64 n1)) false, Slot.v (AVal.sl b2 (2 : Nat) l3) true, Slot.v (AVal.at (Value.int IntKind.i64 n4)) false,
                    Slot.v (AVal.at (Value.int IntKind.i64 n5)) false]
                  [none, none, none, none, none] (RVal.sg sg')))
        fun (v : AVal) (sg' : Sg) => some (Out.pan v sg')
    else
      k (Ex.exit (2 : Nat))
        (mkS [(0 : Nat), (2 : Nat), (7 : Nat), (8 : Nat), (9 : Nat)]
          [Slot.v (AVal.at (Value.string s0)) false, Slot.v (AVal.at (Value.int IntKind.i64 n1)) false, Slot.v (AVal.sl b2 (2 : Nat) l3) true, Slot.v (AVal.at (Value.int IntKind.i64 n4)) false,
            Slot.v (AVal.at (Value.int IntKind.i64 n5)) false]
          [none, none, none, none, none] (RVal.sg sg6)) := by kernel_rfl
theorem ref10_Spans.k1_1 (C : CallF) (N : Nat) (s0 : ByteArray) (n1 : Int) (b2 : Bool) (l3 : List AVal) (n4 : Int) (n5 : Int) (sg6 : Sg) (k : Ex → St → R) :
    ref10_Spans.K1 C N k (Ex.exit (2 : Nat))
      (mkS [(0 : Nat), (2 : Nat), (7 : Nat), (8 : Nat), (9 : Nat)]
        [Slot.v (AVal.at (Value.string s0)) false, Slot.v (AVal.at (Value.int IntKind.i64 n1)) false, Slot.v (AVal.sl b2 (2 : Nat) l3) true, Slot.v (AVal.at (Value.int IntKind.i64 n4)) false,
          Slot.v (AVal.at (Value.int IntKind.i64 n5)) false]
        [none, none, none, none, none] (RVal.sg sg6)) =
    if (l3.length + (1 : Nat)) * (16 : Nat) ≤ (35184372088832 : Nat) then
      k Ex.normal
        (mkS [(0 : Nat), (2 : Nat), (7 : Nat), (8 : Nat)]
          [Slot.v (AVal.at (Value.string s0)) false, Slot.v (AVal.at (Value.int IntKind.i64 n1)) false,
            Slot.v (AVal.sl false (2 : Nat) (l3 ++ [AVal.agg [AVal.at (Value.int IntKind.i64 n4), AVal.at (Value.int IntKind.i64 n5)]])) true,
            Slot.v (AVal.at (Value.int IntKind.i64 (IntKind.i64.wrap (n5 + (1 : Int))))) false]
          [none, none, none, none] (RVal.sg sg6))
    else none := by kernel_rfl
-- holder goes on


/-! 40 wharfage/bitmap.within -/
theorem bitmap_within.main (C : CallF) (N : Nat) (s0 : ByteArray) (n1 : Int) (n2 : Int) (sg3 : Sg) :
    evalF C N bitmap_within.a [AVal.at (Value.string s0), AVal.at (Value.int IntKind.i64 n1), AVal.at (Value.int IntKind.i64 n2)] sg3 =
    withOut (C (37 : Nat) [AVal.at (Value.string s0)] sg3)
      (fun (v : AVal) (sg' : Sg) =>
        withB (some v) fun (b : Bool) =>
          if b = true then
            if decide (n1 ≥ (0 : Int)) = true then
              if decide (n1 ≤ n2) = true then some (Out.ret (AVal.at (Value.bool (decide (n2 ≤ (3840 : Int))))) sg') else some (Out.ret (AVal.at (Value.bool false)) sg')
            else some (Out.ret (AVal.at (Value.bool false)) sg')
          else some (Out.ret (AVal.at (Value.bool false)) sg'))
      fun (v : AVal) (sg' : Sg) => some (Out.pan v sg') := by kernel_rfl


/-! 41 wharfage/bitmap.free -/
theorem bitmap_free.main (C : CallF) (N : Nat) (s0 : ByteArray) (n1 : Int) (n2 : Int) (n3 : Int) (sg4 : Sg) :
    evalF C N bitmap_free.a [AVal.at (Value.string s0), AVal.at (Value.int IntKind.i64 n1), AVal.at (Value.int IntKind.i64 n2), AVal.at (Value.int IntKind.i64 n3)] sg4 =
    iter (bitmap_free.R0 C N) N
      (mkS [(0 : Nat), (2 : Nat), (3 : Nat), (9 : Nat), (10 : Nat)]
        [Slot.v (AVal.at (Value.string s0)) false, Slot.v (AVal.at (Value.int IntKind.i64 n2)) false, Slot.v (AVal.at (Value.int IntKind.i64 n3)) false, Slot.v (AVal.sl true (1 : Nat) []) true,
          Slot.v (AVal.at (Value.int IntKind.i64 n1)) false]
        [none, none, none, none, none] (RVal.sg sg4))
      (bitmap_free.K0 C N) := by kernel_rfl
theorem bitmap_free.r0 (C : CallF) (N : Nat) (s0 : ByteArray) (n1 : Int) (n2 : Int) (b3 : Bool) (l4 : List AVal) (n5 : Int) (sg6 : Sg) (k : Ex → St → R) :
    bitmap_free.R0 C N
      (mkS [(0 : Nat), (2 : Nat), (3 : Nat), (9 : Nat), (10 : Nat)]
        [Slot.v (AVal.at (Value.string s0)) false, Slot.v (AVal.at (Value.int IntKind.i64 n1)) false, Slot.v (AVal.at (Value.int IntKind.i64 n2)) false, Slot.v (AVal.sl b3 (1 : Nat) l4) true,
          Slot.v (AVal.at (Value.int IntKind.i64 n5)) false]
        [none, none, none, none, none] (RVal.sg sg6))
      k =
    if decide (n5 < n1) = true then
      if decide ((↑l4.length : Int) < n2) = true then
        withOut (C (19 : Nat) [AVal.at (Value.string s0), AVal.at (Value.int IntKind.i64 n5)] sg6)
          (fun (v : AVal) (sg' : Sg) =>
            withB (some v) fun (b : Bool) =>
              if (!b) = true then
                if (l4.length + (1 : Nat)) * (8 : Nat) ≤ (35184372088832 : Nat) then
                  k Ex.normal
                    (mkS [(0 : Nat), (2 : Nat), (3 : Nat), (9 : Nat), (10 : Nat)]
                      [Slot.v (AVal.at (Value.string s0)) false, Slot.v (AVal.at (Value.int IntKind.i64 n1)) false, Slot.v (AVal.at (Value.int IntKind.i64 n2)) false,
                        Slot.v (AVal.sl false (1 : Nat) (l4 ++ [AVal.at (Value.int IntKind.i64 n5)])) true, Slot.v (AVal.at (Value.int IntKind.i64 (IntKind.i64.wrap (n5 + (1 : Int))))) false]
                      [none, none, none, none, none] (RVal.sg sg'))
                else none
              else
                k Ex.normal
                  (mkS [(0 : Nat), (2 : Nat), (3 : Nat), (9 : Nat), (10 : Nat)]
                    [Slot.v (AVal.at (Value.string s0)) false, Slot.v (AVal.at (Value.int IntKind.i64 n1)) false, Slot.v (AVal.at (Value.int IntKind.i64 n2)) false, Slot.v (AVal.sl b3 (1 : Nat) l4) true,
                      Slot.v (AVal.at (Value.int IntKind.i64 (IntKind.i64.wrap (n5 + (1 : Int))))) false]
                    [none, none, none, none, none] (RVal.sg sg')))
          fun (v : AVal) (sg' : Sg) => some (Out.pan v sg')
      else k (Ex.exit (0 : Nat)) (mkS [(9 : Nat)] [Slot.v (AVal.sl b3 (1 : Nat) l4) true] [none] (RVal.sg sg6))
    else k (Ex.exit (0 : Nat)) (mkS [(9 : Nat)] [Slot.v (AVal.sl b3 (1 : Nat) l4) true] [none] (RVal.sg sg6)) := by kernel_rfl
theorem bitmap_free.k0_1 (C : CallF) (N : Nat) (b0 : Bool) (l1 : List AVal) (sg2 : Sg) :
    bitmap_free.K0 C N (Ex.exit (0 : Nat)) (mkS [(9 : Nat)] [Slot.v (AVal.sl b0 (1 : Nat) l1) true] [none] (RVal.sg sg2)) =
    some (Out.ret (AVal.sl b0 (1 : Nat) l1) sg2) := by kernel_rfl


/-! 42 wharfage/wharfageref10.Within -/
theorem ref10_Within.main (C : CallF) (N : Nat) (s0 : ByteArray) (n1 : Int) (n2 : Int) (sg3 : Sg) :
    evalF C N ref10_Within.a [AVal.at (Value.string s0), AVal.at (Value.int IntKind.i64 n1), AVal.at (Value.int IntKind.i64 n2)] sg3 =
    if ((↑s0.size : Int) == (480 : Int)) = true then
      if decide (n1 ≥ (0 : Int)) = true then if decide (n1 ≤ n2) = true then some (Out.ret (AVal.at (Value.bool (decide (n2 ≤ (3840 : Int))))) sg3) else some (Out.ret (AVal.at (Value.bool false)) sg3)
      else some (Out.ret (AVal.at (Value.bool false)) sg3)
    else some (Out.ret (AVal.at (Value.bool false)) sg3) := by kernel_rfl


/-! 43 wharfage/wharfageref10.Free -/
theorem ref10_Free.main (C : CallF) (N : Nat) (s0 : ByteArray) (n1 : Int) (n2 : Int) (sg3 : Sg) :
    evalF C N ref10_Free.a [AVal.at (Value.string s0), AVal.at (Value.int IntKind.i64 n1), AVal.at (Value.int IntKind.i64 n2)] sg3 =
    iter (ref10_Free.R0 C N) N
      (mkS [(0 : Nat), (2 : Nat), (7 : Nat), (8 : Nat)]
        [Slot.v (AVal.at (Value.string s0)) false, Slot.v (AVal.at (Value.int IntKind.i64 n2)) false, Slot.v (AVal.sl false (1 : Nat) []) true, Slot.v (AVal.at (Value.int IntKind.i64 n1)) false]
        [none, none, none, none] (RVal.sg sg3))
      (ref10_Free.K0 C N) := by kernel_rfl
theorem ref10_Free.r0 (C : CallF) (N : Nat) (s0 : ByteArray) (n1 : Int) (b2 : Bool) (l3 : List AVal) (n4 : Int) (sg5 : Sg) (k : Ex → St → R) :
    ref10_Free.R0 C N
      (mkS [(0 : Nat), (2 : Nat), (7 : Nat), (8 : Nat)]
        [Slot.v (AVal.at (Value.string s0)) false, Slot.v (AVal.at (Value.int IntKind.i64 n1)) false, Slot.v (AVal.sl b2 (1 : Nat) l3) true, Slot.v (AVal.at (Value.int IntKind.i64 n4)) false]
        [none, none, none, none] (RVal.sg sg5))
      k =
    if decide (n4 < n1) = true then
      withOut (C (20 : Nat) [AVal.at (Value.string s0), AVal.at (Value.int IntKind.i64 n4)] sg5)
        (fun (v : AVal) (sg' : Sg) =>
          withB (some v) fun (b : Bool) =>
            if (!b) = true then
              if (l3.length + (1 : Nat)) * (8 : Nat) ≤ (35184372088832 : Nat) then
                k Ex.normal
                  (mkS [(0 : Nat), (2 : Nat), (7 : Nat), (8 : Nat)]
                    [Slot.v (AVal.at (Value.string s0)) false, Slot.v (AVal.at (Value.int IntKind.i64 n1)) false, Slot.v (AVal.sl false (1 : Nat) (l3 ++ [AVal.at (Value.int IntKind.i64 n4)])) true,
                      Slot.v (AVal.at (Value.int IntKind.i64 (IntKind.i64.wrap (n4 + (1 : Int))))) false]
                    [none, none, none, none] (RVal.sg sg'))
              else none
            else
              k Ex.normal
                (mkS [(0 : Nat), (2 : Nat), (7 : Nat), (8 : Nat)]
                  [Slot.v (AVal.at (Value.string s0)) false, Slot.v (AVal.at (Value.int IntKind.i64 n1)) false, Slot.v (AVal.sl b2 (1 : Nat) l3) true,
                    Slot.v (AVal.at (Value.int IntKind.i64 (IntKind.i64.wrap (n4 + (1 : Int))))) false]
                  [none, none, none, none] (RVal.sg sg')))
        fun (v : AVal) (sg' : Sg) => some (Out.pan v sg')
    else k (Ex.exit (0 : Nat)) (mkS [(7 : Nat)] [Slot.v (AVal.sl b2 (1 : Nat) l3) true] [none] (RVal.sg sg5)) := by kernel_rfl
theorem ref10_Free.k0_1 (C : CallF) (N : Nat) (b0 : Bool) (l1 : List AVal) (sg2 : Sg) :
    ref10_Free.K0 C N (Ex.exit (0 : Nat)) (mkS [(7 : Nat)] [Slot.v (AVal.sl b0 (1 : Nat) l1) true] [none] (RVal.sg sg2)) =
    some (Out.ret (AVal.sl b0 (1 : Nat) l1) sg2) := by kernel_rfl


/-! 44 wharfage/bitmap.turn -/
theorem bitmap_turn.main (C : CallF) (N : Nat) (s0 : ByteArray) (b1 : Bool) (l2 : List AVal) (b3 : Bool) :
    evalF C N bitmap_turn.a [AVal.at (Value.string s0), AVal.sl b1 (1 : Nat) l2, AVal.at (Value.bool b3)] [] =
    iter (bitmap_turn.R0 C N) N
      (mkS [(3 : Nat), (5 : Nat), (8 : Nat), (13 : Nat), (14 : Nat), (15 : Nat)]
        [Slot.v (AVal.gp (0 : Nat) (0 : Nat)) false, Slot.v (AVal.gp (1 : Nat) (0 : Nat)) false, Slot.v (AVal.clo (46 : Nat) [] [AVal.gp (0 : Nat) (0 : Nat), AVal.gp (1 : Nat) (0 : Nat)]) false,
          Slot.v (AVal.sl b1 (1 : Nat) l2) false, Slot.v (AVal.at (Value.int IntKind.i64 (↑l2.length : Int))) false, Slot.v (AVal.at (Value.int IntKind.i64 (0 : Int))) false]
        [none, none, none, none, none, none] (RVal.sg [(Box.mk ([AVal.at (Value.string s0)])), (Box.mk ([AVal.at (Value.bool b3)]))]))
      (bitmap_turn.K0 C N) := by kernel_rfl
theorem bitmap_turn.r0 (C : CallF) (N : Nat) (b0 : Bool) (l1 : List AVal) (n2 : Int) (n3 : Int) (s4 : ByteArray) (b5 : Bool) (k : Ex → St → R) :
    bitmap_turn.R0 C N
      (mkS [(3 : Nat), (5 : Nat), (8 : Nat), (13 : Nat), (14 : Nat), (15 : Nat)]
        [Slot.v (AVal.gp (0 : Nat) (0 : Nat)) false, Slot.v (AVal.gp (1 : Nat) (0 : Nat)) false, Slot.v (AVal.clo (46 : Nat) [] [AVal.gp (0 : Nat) (0 : Nat), AVal.gp (1 : Nat) (0 : Nat)]) false,
          Slot.v (AVal.sl b0 (1 : Nat) l1) false, Slot.v (AVal.at (Value.int IntKind.i64 n2)) false, Slot.v (AVal.at (Value.int IntKind.i64 n3)) false]
        [none, none, none, none, none, none] (RVal.sg [(Box.mk ([AVal.at (Value.string s4)])), (Box.mk ([AVal.at (Value.bool b5)]))]))
      k =
    if decide (n3 < n2) = true then
      if (0 : Int) ≤ n3 then
        withA l1[n3.toNat]? fun (a : AVal) =>
          bif
              (match a with
                    | AVal.agg cs => cs
                    | v => [v]).length.beq
                (1 : Nat) then
            withI IntKind.i64
              (match a with
                | AVal.agg cs => cs
                | v => [v])[(0 : Nat)]?
              fun (n : Int) =>
              withOut
                (C (46 : Nat) [AVal.at (Value.int IntKind.i64 n), AVal.gp (0 : Nat) (0 : Nat), AVal.gp (1 : Nat) (0 : Nat)]
                  [(Box.mk ([AVal.at (Value.string s4)])), (Box.mk ([AVal.at (Value.bool b5)]))])
                (fun (v : AVal) (sg' : Sg) =>
                  withB (some v) fun (b : Bool) =>
                    if b = true then
                      k Ex.ret (mkS [(6 : Nat), (7 : Nat)] [Slot.v (AVal.at (Value.string (ByteArray.mk (#[])))) false, Slot.v (AVal.at (Value.int IntKind.i64 (18 : Int))) false] [none, none] (RVal.sg sg'))
                    else
                      withO sg'[(0 : Nat)]? fun (B : Box) =>
                        bif B.1.isEmpty then none
                        else
                          withS B.1[(0 : Nat)]? fun (s : ByteArray) =>
                            withO sg'[(1 : Nat)]? fun (B : Box) =>
                              bif B.1.isEmpty then none
                              else
                                withB B.1[(0 : Nat)]? fun (b : Bool) =>
                                  withOut (C (17 : Nat) [AVal.at (Value.string s), AVal.at (Value.int IntKind.i64 n), AVal.at (Value.bool b)] [])
                                    (fun (v : AVal) (x : Sg) =>
                                      withT v fun (vs : List AVal) =>
                                        bif vs.length.beq (2 : Nat) then
                                          withS vs[(0 : Nat)]? fun (s : ByteArray) =>
                                            withI IntKind.i64 vs[(1 : Nat)]? fun (n : Int) =>
                                              withO sg'[(0 : Nat)]? fun (B : Box) =>
                                                bif B.1.isEmpty then none
                                                else
                                                  bif Nat.ble (1 : Nat) B.1.length then
                                                    bindL (splice B.1 (0 : Nat) [AVal.at (Value.string s)]) fun (cs : List AVal) =>
                                                      if (n != (0 : Int)) = true then
                                                        k Ex.ret
                                                          (mkS [(6 : Nat), (7 : Nat)] [Slot.v (AVal.at (Value.string (ByteArray.mk (#[])))) false, Slot.v (AVal.at (Value.int IntKind.i64 n)) false] [none, none]
                                                            (RVal.sg (List.set sg' (0 : Nat) (Box.mk (cs)))))
                                                      else
                                                        k Ex.normal
                                                          (mkS [(3 : Nat), (5 : Nat), (8 : Nat), (13 : Nat), (14 : Nat), (15 : Nat)]
                                                            [Slot.v (AVal.gp (0 : Nat) (0 : Nat)) false, Slot.v (AVal.gp (1 : Nat) (0 : Nat)) false,
                                                              Slot.v (AVal.clo (46 : Nat) [] [AVal.gp (0 : Nat) (0 : Nat), AVal.gp (1 : Nat) (0 : Nat)]) false, Slot.v (AVal.sl b0 (1 : Nat) l1) false,
                                                              Slot.v (AVal.at (Value.int IntKind.i64 n2)) false, Slot.v (AVal.at (Value.int IntKind.i64 (IntKind.i64.wrap (n3 + (1 : Int))))) false]
                                                            [none, none, none, none, none, none] (RVal.sg (List.set sg' (0 : Nat) (Box.mk (cs)))))
                                                  else none
                                        else none)
                                    fun (x : AVal) (x_1 : Sg) => none)
                fun (v : AVal) (sg' : Sg) => some (Out.pan v sg')
          else none
      else none
    else k (Ex.exit (0 : Nat)) (mkS [(3 : Nat)] [Slot.v (AVal.gp (0 : Nat) (0 : Nat)) false] [none] (RVal.sg [(Box.mk ([AVal.at (Value.string s4)])), (Box.mk ([AVal.at (Value.bool b5)]))])) := by kernel_rfl
theorem bitmap_turn.k0_1 (C : CallF) (N : Nat) (s0 : ByteArray) (n1 : Int) (sg2 : Sg) :
    bitmap_turn.K0 C N Ex.ret (mkS [(6 : Nat), (7 : Nat)] [Slot.v (AVal.at (Value.string s0)) false, Slot.v (AVal.at (Value.int IntKind.i64 n1)) false] [none, none] (RVal.sg sg2)) =
    some (Out.ret (AVal.tup [AVal.at (Value.string s0), AVal.at (Value.int IntKind.i64 n1)]) sg2) := by kernel_rfl
-- NOTE: loop 0 goes on in another shape
theorem bitmap_turn.k0_2 (C : CallF) (N : Nat) (s0 : ByteArray) (b1 : Bool) :
    bitmap_turn.K0 C N (Ex.exit (0 : Nat))
      (mkS [(3 : Nat)] [Slot.v (AVal.gp (0 : Nat) (0 : Nat)) false] [none] (RVal.sg [(Box.mk ([AVal.at (Value.string s0)])), (Box.mk ([AVal.at (Value.bool b1)]))])) =
    withOut (C (37 : Nat) [AVal.at (Value.string s0)] [])
      (fun (v : AVal) (x : Sg) =>
        withB (some v) fun (b : Bool) =>
          if (!b) = true then
            some
              (Out.ret (AVal.tup [AVal.at (Value.string (ByteArray.mk (#[]))), AVal.at (Value.int IntKind.i64 (18 : Int))]) [(Box.mk ([AVal.at (Value.string s0)])), (Box.mk ([AVal.at (Value.bool b1)]))])
          else some (Out.ret (AVal.tup [AVal.at (Value.string s0), AVal.at (Value.int IntKind.i64 (0 : Int))]) [(Box.mk ([AVal.at (Value.string s0)])), (Box.mk ([AVal.at (Value.bool b1)]))]))
      fun (x : AVal) (x_1 : Sg) => none := by kernel_rfl
theorem bitmap_turn.r0_2 (C : CallF) (N : Nat) (b0 : Bool) (l1 : List AVal) (n2 : Int) (n3 : Int) (sg4 : Sg) (k : Ex → St → R) :
    bitmap_turn.R0 C N
      (mkS [(3 : Nat), (5 : Nat), (8 : Nat), (13 : Nat), (14 : Nat), (15 : Nat)]
        [Slot.v (AVal.gp (0 : Nat) (0 : Nat)) false, Slot.v (AVal.gp (1 : Nat) (0 : Nat)) false, Slot.v (AVal.clo (46 : Nat) [] [AVal.gp (0 : Nat) (0 : Nat), AVal.gp (1 : Nat) (0 : Nat)]) false,
          Slot.v (AVal.sl b0 (1 : Nat) l1) false, Slot.v (AVal.at (Value.int IntKind.i64 n2)) false, Slot.v (AVal.at (Value.int IntKind.i64 n3)) false]
        [none, none, none, none, none, none] (RVal.sg sg4))
      k =
    if decide (n3 < n2) = true then
      if (0 : Int) ≤ n3 then
        withA l1[n3.toNat]? fun (a : AVal) =>
          bif
              (match a with
                    | AVal.agg cs => cs
                    | v => [v]).length.beq
                (1 : Nat) then
            withI IntKind.i64
              (match a with
                | AVal.agg cs => cs
                | v => [v])[(0 : Nat)]?
              fun (n : Int) =>
              withOut (C (46 : Nat) [AVal.at (Value.int IntKind.i64 n), AVal.gp (0 : Nat) (0 : Nat), AVal.gp (1 : Nat) (0 : Nat)] sg4)
                (fun (v : AVal) (sg' : Sg) =>
                  withB (some v) fun (b : Bool) =>
                    if b = true then
                      k Ex.ret (mkS [(6 : Nat), (7 : Nat)] [Slot.v (AVal.at (Value.string (ByteArray.mk (#[])))) false, Slot.v (AVal.at (Value.int IntKind.i64 (18 : Int))) false] [none, none] (RVal.sg sg'))
                    else
                      withO sg'[(0 : Nat)]? fun (B : Box) =>
                        bif B.1.isEmpty then none
                        else
                          withS B.1[(0 : Nat)]? fun (s : ByteArray) =>
                            withO sg'[(1 : Nat)]? fun (B : Box) =>
                              bif B.1.isEmpty then none
                              else
                                withB B.1[(0 : Nat)]? fun (b : Bool) =>
                                  withOut (C (17 : Nat) [AVal.at (Value.string s), AVal.at (Value.int IntKind.i64 n), AVal.at (Value.bool b)] [])
                                    (fun (v : AVal) (x : Sg) =>
                                      withT v fun (vs : List AVal) =>
                                        bif vs.length.beq (2 : Nat) then
                                          withS vs[(0 : Nat)]? fun (s : ByteArray) =>
                                            withI IntKind.i64 vs[(1 : Nat)]? fun (n : Int) =>
                                              withO sg'[(0 : Nat)]? fun (B : Box) =>
                                                bif B.1.isEmpty then none
                                                else
                                                  bif Nat.ble (1 : Nat) B.1.length then
                                                    bindL (splice B.1 (0 : Nat) [AVal.at (Value.string s)]) fun (cs : List AVal) =>
                                                      if (n != (0 : Int)) = true then
                                                        k Ex.ret
                                                          (mkS [(6 : Nat), (7 : Nat)] [Slot.v (AVal.at (Value.string (ByteArray.mk (#[])))) false, Slot.v (AVal.at (Value.int IntKind.i64 n)) false] [none, none]
                                                            (RVal.sg (List.set sg' (0 : Nat) (Box.mk (cs)))))
                                                      else
                                                        k Ex.normal
                                                          (mkS [(3 : Nat), (5 : Nat), (8 : Nat), (13 : Nat), (14 : Nat), (15 : Nat)]
                                                            [Slot.v (AVal.gp (0 : Nat) (0 : Nat)) false, Slot.v (AVal.gp (1 : Nat) (0 : Nat)) false,
                                                              Slot.v (AVal.clo (46 : Nat) [] [AVal.gp (0 : Nat) (0 : Nat), AVal.gp (1 : Nat) (0 : Nat)]) false, Slot.v (AVal.sl b0 (1 : Nat) l1) false,
                                                              Slot.v (AVal.at (Value.int IntKind.i64 n2)) false, Slot.v (AVal.at (Value.int IntKind.i64 (IntKind.i64.wrap (n3 + (1 : Int))))) false]
                                                            [none, none, none, none, none, none] (RVal.sg (List.set sg' (0 : Nat) (Box.mk (cs)))))
                                                  else none
                                        else none)
                                    fun (x : AVal) (x_1 : Sg) => none)
                fun (v : AVal) (sg' : Sg) => some (Out.pan v sg')
          else none
      else none
    else k (Ex.exit (0 : Nat)) (mkS [(3 : Nat)] [Slot.v (AVal.gp (0 : Nat) (0 : Nat)) false] [none] (RVal.sg sg4)) := by kernel_rfl
theorem bitmap_turn.k0_3 (C : CallF) (N : Nat) (sg0 : Sg) :
    bitmap_turn.K0 C N (Ex.exit (0 : Nat)) (mkS [(3 : Nat)] [Slot.v (AVal.gp (0 : Nat) (0 : Nat)) false] [none] (RVal.sg sg0)) =
    withO sg0[(0 : Nat)]? fun (B : Box) =>
      bif B.1.isEmpty then none
      else
        withS B.1[(0 : Nat)]? fun (s : ByteArray) =>
          withOut (C (37 : Nat) [AVal.at (Value.string s)] [])
            (fun (v : AVal) (x : Sg) =>
              withB (some v) fun (b : Bool) =>
                if (!b) = true then some (Out.ret (AVal.tup [AVal.at (Value.string (ByteArray.mk (#[]))), AVal.at (Value.int IntKind.i64 (18 : Int))]) sg0)
                else
                  withO sg0[(0 : Nat)]? fun (B : Box) =>
                    bif B.1.isEmpty then none else withS B.1[(0 : Nat)]? fun (s : ByteArray) => some (Out.ret (AVal.tup [AVal.at (Value.string s), AVal.at (Value.int IntKind.i64 (0 : Int))]) sg0))
            fun (x : AVal) (x_1 : Sg) => none := by kernel_rfl


/-! 45 slices.Clip[[][2]int,[2]int] -/
theorem slices_Clip_2int_2int.main (C : CallF) (N : Nat) (b0 : Bool) (l1 : List AVal) (sg2 : Sg) :
    evalF C N slices_Clip_2int_2int.a [AVal.sl b0 (2 : Nat) l1] sg2 =
    if (0 : Int) ≤ (0 : Int) ∧ (0 : Int) ≤ (↑l1.length : Int) ∧ (↑l1.length : Int) ≤ (↑l1.length : Int) then
      if (↑(↑l1.length : Int).toNat : Int) ≤ (↑l1.length : Int) ∧ (↑l1.length : Int) ≤ (↑l1.length : Int) then
        some (Out.ret (AVal.sl b0 (2 : Nat) (List.take ((↑l1.length : Int).toNat - Int.toNat (0 : Int)) (List.drop (Int.toNat (0 : Int)) l1))) sg2)
      else none
    else none := by kernel_rfl


/-! 46 wharfage/bitmap.turn$1 -/
theorem bitmap_turn_1.main (C : CallF) (N : Nat) (n0 : Int) (s1 : ByteArray) (b2 : Bool) :
    evalF C N bitmap_turn_1.a [AVal.at (Value.int IntKind.i64 n0), AVal.gp (0 : Nat) (0 : Nat), AVal.gp (1 : Nat) (0 : Nat)]
      [(Box.mk ([AVal.at (Value.string s1)])), (Box.mk ([AVal.at (Value.bool b2)]))] =
    withOut (C (38 : Nat) [AVal.at (Value.int IntKind.i64 n0)] [])
      (fun (v : AVal) (x : Sg) =>
        withB (some v) fun (b : Bool) =>
          if (!b) = false then
            withOut (C (19 : Nat) [AVal.at (Value.string s1), AVal.at (Value.int IntKind.i64 n0)] [])
              (fun (v : AVal) (x : Sg) =>
                withB (some v) fun (b : Bool) => some (Out.ret (AVal.at (Value.bool (false ^^ b == b2))) [(Box.mk ([AVal.at (Value.string s1)])), (Box.mk ([AVal.at (Value.bool b2)]))]))
              fun (x : AVal) (x_1 : Sg) => none
          else some (Out.ret (AVal.at (Value.bool true)) [(Box.mk ([AVal.at (Value.string s1)])), (Box.mk ([AVal.at (Value.bool b2)]))]))
      fun (x : AVal) (x_1 : Sg) => none := by kernel_rfl


end Go.Abs
