/- THE RESIDUALS: what each function's evaluation comes to, by the kernel. Printed by a program of my own. -/
import Derived.Test.YtafmbianlodemaaCodeBit
import Derived.KernelRfl
namespace Go.Abs
set_option linter.unusedVariables false
set_option linter.unusedSimpArgs false
set_option linter.unusedSectionVars false
set_option maxRecDepth 100000
/-! 7 wharfage/wharfagelaw10.BitmapTakes -/
theorem law10_BitmapTakes.main (C : CallF) (N : Nat) (s0 : ByteArray) (n1 : Int) (n2 : Int) (n3 : Int) (b4 : Bool) (l5 : List AVal) (sg6 : Sg) :
    evalF C N law10_BitmapTakes.a [AVal.at (Value.string s0), AVal.at (Value.int IntKind.i64 n1), AVal.at (Value.int IntKind.i64 n2), AVal.at (Value.int IntKind.i64 n3), AVal.sl b4 (1 : Nat) l5] sg6 =
    if decide ((↑s0.size : Int) > (4096 : Int)) = false then
      if decide ((↑l5.length : Int) > (100 : Int)) = true then
        withOut (C (16 : Nat) [] []) (fun (v : AVal) (x : Sg) => withB (some v) fun (b : Bool) => some (Out.ret (AVal.at (Value.bool b)) sg6)) fun (x : AVal) (x_1 : Sg) => none
      else
        withOut (C (23 : Nat) [AVal.at (Value.string s0), AVal.at (Value.int IntKind.i64 n1), AVal.at (Value.int IntKind.i64 n2), AVal.at (Value.int IntKind.i64 n3)] [])
          (fun (v : AVal) (x : Sg) =>
            withT v fun (vs : List AVal) =>
              bif vs.length.beq (2 : Nat) then
                withL (1 : Nat) vs[(0 : Nat)]? fun (nn : Bool) (l : List AVal) =>
                  withI IntKind.i64 vs[(1 : Nat)]? fun (n : Int) =>
                    bif noG (AVal.tup [AVal.sl nn (1 : Nat) l, AVal.at (Value.int IntKind.i64 n)]) then
                      withOut (C (24 : Nat) [AVal.at (Value.string s0), AVal.at (Value.int IntKind.i64 n1), AVal.at (Value.int IntKind.i64 n2), AVal.at (Value.int IntKind.i64 n3)] [])
                        (fun (v : AVal) (x : Sg) =>
                          withT v fun (vs : List AVal) =>
                            bif vs.length.beq (2 : Nat) then
                              withL (1 : Nat) vs[(0 : Nat)]? fun (nn_1 : Bool) (l_1 : List AVal) =>
                                withI IntKind.i64 vs[(1 : Nat)]? fun (n_1 : Int) =>
                                  bif noG (AVal.tup [AVal.sl nn_1 (1 : Nat) l_1, AVal.at (Value.int IntKind.i64 n_1)]) then
                                    withOut (C (25 : Nat) [AVal.at (Value.string s0), AVal.at (Value.int IntKind.i64 n1), AVal.at (Value.int IntKind.i64 n2), AVal.at (Value.int IntKind.i64 n3)] [])
                                      (fun (v : AVal) (x : Sg) =>
                                        withT v fun (vs : List AVal) =>
                                          bif vs.length.beq (3 : Nat) then
                                            withL (1 : Nat) vs[(0 : Nat)]? fun (nn_2 : Bool) (l_2 : List AVal) =>
                                              withS vs[(1 : Nat)]? fun (s : ByteArray) =>
                                                withI IntKind.i64 vs[(2 : Nat)]? fun (n_2 : Int) =>
                                                  bif noG (AVal.tup [AVal.sl nn_2 (1 : Nat) l_2, AVal.at (Value.string s), AVal.at (Value.int IntKind.i64 n_2)]) then
                                                    bif noGs [AVal.at (Value.string s0), AVal.sl b4 (1 : Nat) l5] then
                                                      withOut (C (26 : Nat) [AVal.at (Value.string s0), AVal.sl b4 (1 : Nat) l5] [])
                                                        (fun (v : AVal) (x : Sg) =>
                                                          withT v fun (vs : List AVal) =>
                                                            bif vs.length.beq (2 : Nat) then
                                                              withS vs[(0 : Nat)]? fun (s_1 : ByteArray) =>
                                                                withI IntKind.i64 vs[(1 : Nat)]? fun (n_3 : Int) =>
                                                                  bif noGs [AVal.at (Value.string s0), AVal.sl b4 (1 : Nat) l5] then
                                                                    withOut (C (27 : Nat) [AVal.at (Value.string s0), AVal.sl b4 (1 : Nat) l5] [])
                                                                      (fun (v : AVal) (x : Sg) =>
                                                                        withT v fun (vs : List AVal) =>
                                                                          bif vs.length.beq (2 : Nat) then
                                                                            withS vs[(0 : Nat)]? fun (s_2 : ByteArray) =>
                                                                              withI IntKind.i64 vs[(1 : Nat)]? fun (n_4 : Int) =>
                                                                                if (n_1 == (0 : Int)) = true then
                                                                                  bif noGs [AVal.at (Value.string s0), AVal.sl nn_1 (1 : Nat) l_1, AVal.at (Value.bool true)] then
                                                                                    withOut (C (28 : Nat) [AVal.at (Value.string s0), AVal.sl nn_1 (1 : Nat) l_1, AVal.at (Value.bool true)] [])
                                                                                      (fun (v : AVal) (x : Sg) =>
                                                                                        withS (some v) fun (s_3 : ByteArray) =>
                                                                                          bif noGs [AVal.sl nn (1 : Nat) l, AVal.sl nn_1 (1 : Nat) l_1] then
                                                                                            withOut (C (29 : Nat) [AVal.sl nn (1 : Nat) l, AVal.sl nn_1 (1 : Nat) l_1] [])
                                                                                              (fun (v : AVal) (x : Sg) =>
                                                                                                withB (some v) fun (b : Bool) =>
                                                                                                  if (!b) = false then
                                                                                                    if (n != n_1) = false then
                                                                                                      bif noGs [AVal.sl nn_2 (1 : Nat) l_2, AVal.sl nn_1 (1 : Nat) l_1] then
                                                                                                        withOut (C (29 : Nat) [AVal.sl nn_2 (1 : Nat) l_2, AVal.sl nn_1 (1 : Nat) l_1] [])
                                                                                                          (fun (v : AVal) (x : Sg) =>
                                                                                                            withB (some v) fun (b : Bool) =>
                                                                                                              if (!b) = false then
                                                                                                                if (!s.toList == s_3.toList) = false then
                                                                                                                  if (n_2 != n_1) = false then
                                                                                                                    if (!s_1.toList == s_2.toList) = false then
                                                                                                                      if (n_3 != n_4) = true then some (Out.ret (AVal.at (Value.bool false)) sg6)
                                                                                                                      else
                                                                                                                        withOut
                                                                                                                          (C (30 : Nat)
                                                                                                                            [AVal.at (Value.string s0), AVal.at (Value.int IntKind.i64 n1),
                                                                                                                              AVal.at (Value.int IntKind.i64 n2)]
                                                                                                                            [])
                                                                                                                          (fun (v : AVal) (sg' : Sg) =>
                                                                                                                            withO (thaw (8 : Nat) sg' v) fun (v : AVal) =>
                                                                                                                              withL (2 : Nat) (some v) fun (nn : Bool) (l : List AVal) =>
                                                                                                                                bif noG (AVal.sl nn (2 : Nat) l) then
                                                                                                                                  withOut
                                                                                                                                    (C (31 : Nat)
                                                                                                                                      [AVal.at (Value.string s0), AVal.at (Value.int IntKind.i64 n1),
                                                                                                                                        AVal.at (Value.int IntKind.i64 n2)]
                                                                                                                                      [])
                                                                                                                                    (fun (v : AVal) (x : Sg) =>
                                                                                                                                      withL (2 : Nat) (some v) fun (nn_3 : Bool) (l_3 : List AVal) =>
                                                                                                                                        bif noG (AVal.sl nn_3 (2 : Nat) l_3) then
                                                                                                                                          if ((↑l.length : Int) != (↑l_3.length : Int)) = true then
                                                                                                                                            some (Out.ret (AVal.at (Value.bool false)) sg6)
                                                                                                                                          else
                                                                                                                                            iter (law10_BitmapTakes.R0 C N) N
                                                                                                                                              (mkS [(23 : Nat), (24 : Nat), (126 : Nat), (127 : Nat)]
                                                                                                                                                [Slot.v (AVal.sl nn (2 : Nat) l) false,
                                                                                                                                                  Slot.v (AVal.sl nn_3 (2 : Nat) l_3) false,
                                                                                                                                                  Slot.v
                                                                                                                                                    (AVal.at (Value.int IntKind.i64 (↑l_3.length : Int)))
                                                                                                                                                    false,
                                                                                                                                                  Slot.v (AVal.at (Value.int IntKind.i64 (0 : Int))) false]
                                                                                                                                                [none, none, none, none] (RVal.sg sg6))
                                                                                                                                              (law10_BitmapTakes.K0 C N)
                                                                                                                                        else none)
                                                                                                                                    fun (x : AVal) (x_1 : Sg) => none
                                                                                                                                else none)
                                                                                                                          fun (x : AVal) (x_1 : Sg) => none
                                                                                                                    else some (Out.ret (AVal.at (Value.bool false)) sg6)
                                                                                                                  else some (Out.ret (AVal.at (Value.bool false)) sg6)
                                                                                                                else some (Out.ret (AVal.at (Value.bool false)) sg6)
                                                                                                              else some (Out.ret (AVal.at (Value.bool false)) sg6))
                                                                                                          fun (x : AVal) (x_1 : Sg) => none
                                                                                                      else none
                                                                                                    else some (Out.ret (AVal.at (Value.bool false)) sg6)
                                                                                                  else some (Out.ret (AVal.at (Value.bool false)) sg6))
                                                                                              fun (x : AVal) (x_1 : Sg) => none
                                                                                          else none)
                                                                                      fun (x : AVal) (x_1 : Sg) => none
                                                                                  else none
                                                                                else
                                                                                  bif noGs [AVal.sl nn (1 : Nat) l, AVal.sl nn_1 (1 : Nat) l_1] then
                                                                                    withOut (C (29 : Nat) [AVal.sl nn (1 : Nat) l, AVal.sl nn_1 (1 : Nat) l_1] [])
                                                                                      (fun (v : AVal) (x : Sg) =>
                                                                                        withB (some v) fun (b : Bool) =>
                                                                                          if (!b) = false then
                                                                                            if (n != n_1) = false then
                                                                                              bif noGs [AVal.sl nn_2 (1 : Nat) l_2, AVal.sl nn_1 (1 : Nat) l_1] then
                                                                                                withOut (C (29 : Nat) [AVal.sl nn_2 (1 : Nat) l_2, AVal.sl nn_1 (1 : Nat) l_1] [])
                                                                                                  (fun (v : AVal) (x : Sg) =>
                                                                                                    withB (some v) fun (b : Bool) =>
                                                                                                      if (!b) = false then
                                                                                                        if (!s.toList == (ByteArray.mk (#[])).toList) = false then
                                                                                                          if (n_2 != n_1) = false then
                                                                                                            if (!s_1.toList == s_2.toList) = false then
                                                                                                              if (n_3 != n_4) = true then some (Out.ret (AVal.at (Value.bool false)) sg6)
                                                                                                              else
                                                                                                                withOut
                                                                                                                  (C (30 : Nat)
                                                                                                                    [AVal.at (Value.string s0), AVal.at (Value.int IntKind.i64 n1),
                                                                                                                      AVal.at (Value.int IntKind.i64 n2)]
                                                                                                                    [])
                                                                                                                  (fun (v : AVal) (sg' : Sg) =>
                                                                                                                    withO (thaw (8 : Nat) sg' v) fun (v : AVal) =>
                                                                                                                      withL (2 : Nat) (some v) fun (nn : Bool) (l : List AVal) =>
                                                                                                                        bif noG (AVal.sl nn (2 : Nat) l) then
                                                                                                                          withOut
                                                                                                                            (C (31 : Nat)
                                                                                                                              [AVal.at (Value.string s0), AVal.at (Value.int IntKind.i64 n1),
                                                                                                                                AVal.at (Value.int IntKind.i64 n2)]
                                                                                                                              [])
                                                                                                                            (fun (v : AVal) (x : Sg) =>
                                                                                                                              withL (2 : Nat) (some v) fun (nn_3 : Bool) (l_3 : List AVal) =>
                                                                                                                                bif noG (AVal.sl nn_3 (2 : Nat) l_3) then
                                                                                                                                  if ((↑l.length : Int) != (↑l_3.length : Int)) = true then
                                                                                                                                    some (Out.ret (AVal.at (Value.bool false)) sg6)
                                                                                                                                  else
                                                                                                                                    iter (law10_BitmapTakes.R0 C N) N
                                                                                                                                      (mkS [(23 : Nat), (24 : Nat), (126 : Nat), (127 : Nat)]
                                                                                                                                        [Slot.v (AVal.sl nn (2 : Nat) l) false,
                                                                                                                                          Slot.v (AVal.sl nn_3 (2 : Nat) l_3) false,
                                                                                                                                          Slot.v (AVal.at (Value.int IntKind.i64 (↑l_3.length : Int)))
                                                                                                                                            false,
                                                                                                                                          Slot.v (AVal.at (Value.int IntKind.i64 (0 : Int))) false]
                                                                                                                                        [none, none, none, none] (RVal.sg sg6))
                                                                                                                                      (law10_BitmapTakes.K0 C N)
                                                                                                                                else none)
                                                                                                                            fun (x : AVal) (x_1 : Sg) => none
                                                                                                                        else none)
                                                                                                                  fun (x : AVal) (x_1 : Sg) => none
                                                                                                            else some (Out.ret (AVal.at (Value.bool false)) sg6)
                                                                                                          else some (Out.ret (AVal.at (Value.bool false)) sg6)
                                                                                                        else some (Out.ret (AVal.at (Value.bool false)) sg6)
                                                                                                      else some (Out.ret (AVal.at (Value.bool false)) sg6))
                                                                                                  fun (x : AVal) (x_1 : Sg) => none
                                                                                              else none
                                                                                            else some (Out.ret (AVal.at (Value.bool false)) sg6)
                                                                                          else some (Out.ret (AVal.at (Value.bool false)) sg6))
                                                                                      fun (x : AVal) (x_1 : Sg) => none
                                                                                  else none
                                                                          else none)
                                                                      fun (x : AVal) (x_1 : Sg) => none
                                                                  else none
                                                            else none)
                                                        fun (x : AVal) (x_1 : Sg) => none
                                                    else none
                                                  else none
                                          else none)
                                      fun (x : AVal) (x_1 : Sg) => none
                                  else none
                            else none)
                        fun (x : AVal) (x_1 : Sg) => none
                    else none
              else none)
          fun (x : AVal) (x_1 : Sg) => none
    else withOut (C (16 : Nat) [] []) (fun (v : AVal) (x : Sg) => withB (some v) fun (b : Bool) => some (Out.ret (AVal.at (Value.bool b)) sg6)) fun (x : AVal) (x_1 : Sg) => none := by kernel_rfl
theorem law10_BitmapTakes.r0 (C : CallF) (N : Nat) (b0 : Bool) (l1 : List AVal) (b2 : Bool) (l3 : List AVal) (n4 : Int) (n5 : Int) (sg6 : Sg) (k : Ex → St → R) :
    law10_BitmapTakes.R0 C N
      (mkS [(23 : Nat), (24 : Nat), (126 : Nat), (127 : Nat)]
        [Slot.v (AVal.sl b0 (2 : Nat) l1) false, Slot.v (AVal.sl b2 (2 : Nat) l3) false, Slot.v (AVal.at (Value.int IntKind.i64 n4)) false, Slot.v (AVal.at (Value.int IntKind.i64 n5)) false]
        [none, none, none, none] (RVal.sg sg6))
      k =
    if decide (n5 < n4) = true then
      if (0 : Int) ≤ n5 then
        withA l1[n5.toNat]? fun (a : AVal) =>
          bif
              (match a with
                    | AVal.agg cs => cs
                    | v => [v]).length.beq
                (2 : Nat) then
            bif
                Nat.ble (2 : Nat)
                  (match a with
                    | AVal.agg cs => cs
                    | v => [v]).length then
              bindL
                (List.take (2 : Nat)
                  (List.drop (0 : Nat)
                    (match a with
                    | AVal.agg cs => cs
                    | v => [v])))
                fun (l : List AVal) =>
                if (0 : Int) ≤ n5 then
                  withA l3[n5.toNat]? fun (a : AVal) =>
                    bif
                        (match a with
                              | AVal.agg cs => cs
                              | v => [v]).length.beq
                          (2 : Nat) then
                      bif
                          Nat.ble (2 : Nat)
                            (match a with
                              | AVal.agg cs => cs
                              | v => [v]).length then
                        bindL
                          (List.take (2 : Nat)
                            (List.drop (0 : Nat)
                              (match a with
                              | AVal.agg cs => cs
                              | v => [v])))
                          fun (l_1 : List AVal) =>
                          withO (cellsEq [CK.int IntKind.i64, CK.int IntKind.i64] l l_1) fun (r : Bool) =>
                            if (true ^^ r) = true then k Ex.ret (mkS [(10 : Nat)] [Slot.v (AVal.at (Value.bool false)) false] [none] (RVal.sg sg6))
                            else
                              k Ex.normal
                                (mkS [(23 : Nat), (24 : Nat), (126 : Nat), (127 : Nat)]
                                  [Slot.v (AVal.sl b0 (2 : Nat) l1) false, Slot.v (AVal.sl b2 (2 : Nat) l3) false, Slot.v (AVal.at (Value.int IntKind.i64 n4)) false,
                                    Slot.v (AVal.at (Value.int IntKind.i64 (IntKind.i64.wrap (n5 + (1 : Int))))) false]
                                  [none, none, none, none] (RVal.sg sg6))
                      else none
                    else none
                else none
            else none
          else none
      else none
    else k (Ex.exit (0 : Nat)) (mkS [] [] [] (RVal.sg sg6)) := by kernel_rfl
theorem law10_BitmapTakes.k0_1 (C : CallF) (N : Nat) (b0 : Bool) (sg1 : Sg) :
    law10_BitmapTakes.K0 C N Ex.ret (mkS [(10 : Nat)] [Slot.v (AVal.at (Value.bool b0)) false] [none] (RVal.sg sg1)) =
    some (Out.ret (AVal.at (Value.bool b0)) sg1) := by kernel_rfl
theorem law10_BitmapTakes.k0_2 (C : CallF) (N : Nat) (sg0 : Sg) :
    law10_BitmapTakes.K0 C N (Ex.exit (0 : Nat)) (mkS [] [] [] (RVal.sg sg0)) =
    withOut (C (16 : Nat) [] []) (fun (v : AVal) (x : Sg) => withB (some v) fun (b : Bool) => some (Out.ret (AVal.at (Value.bool b)) sg0)) fun (x : AVal) (x_1 : Sg) => none := by kernel_rfl


/-! 30 wharfage/bitmap.Spans -/
theorem bitmap_Spans.main (C : CallF) (N : Nat) (s0 : ByteArray) (n1 : Int) (n2 : Int) :
    evalF C N bitmap_Spans.a [AVal.at (Value.string s0), AVal.at (Value.int IntKind.i64 n1), AVal.at (Value.int IntKind.i64 n2)] [] =
    withOut (C (40 : Nat) [AVal.at (Value.string s0), AVal.at (Value.int IntKind.i64 n1), AVal.at (Value.int IntKind.i64 n2)] [])
      (fun (v : AVal) (sg' : Sg) =>
        withB (some v) fun (b : Bool) =>
          if (!b) = true then some (Out.ret (AVal.sl true (2 : Nat) []) sg')
          else
            withOut (C (41 : Nat) [AVal.at (Value.string s0), AVal.at (Value.int IntKind.i64 n1), AVal.at (Value.int IntKind.i64 n2), AVal.at (Value.int IntKind.i64 (IntKind.i64.wrap (n2 - n1)))] sg')
              (fun (v : AVal) (sg' : Sg) =>
                withL (1 : Nat) (some v) fun (nn : Bool) (l : List AVal) =>
                  iter (bitmap_Spans.R0 C N) N
                    (mkS [(7 : Nat), (22 : Nat), (23 : Nat), (24 : Nat)]
                      [Slot.v (AVal.sl true (2 : Nat) []) true, Slot.v (AVal.sl nn (1 : Nat) l) false, Slot.v (AVal.at (Value.int IntKind.i64 (↑l.length : Int))) false,
                        Slot.v (AVal.at (Value.int IntKind.i64 (0 : Int))) false]
                      [none, none, none, none] (RVal.sg sg'))
                    (bitmap_Spans.K0 C N))
              fun (v : AVal) (sg' : Sg) => some (Out.pan v sg'))
      fun (v : AVal) (sg' : Sg) => some (Out.pan v sg') := by kernel_rfl
theorem bitmap_Spans.r0 (C : CallF) (N : Nat) (b0 : Bool) (l1 : List AVal) (n2 : Int) (n3 : Int) (sg4 : Sg) (k : Ex → St → R) :
    bitmap_Spans.R0 C N
      (mkS [(7 : Nat), (22 : Nat), (23 : Nat), (24 : Nat)]
        [Slot.v (AVal.sl true (2 : Nat) []) true, Slot.v (AVal.sl b0 (1 : Nat) l1) false, Slot.v (AVal.at (Value.int IntKind.i64 n2)) false, Slot.v (AVal.at (Value.int IntKind.i64 n3)) false]
        [none, none, none, none] (RVal.sg sg4))
      k =
    if decide (n3 < n2) = true then
      if (0 : Int) ≤ n3 then
        withA l1[n3.toNat]? fun (a : AVal) =>
          bif
              (match a with
                    | AVal.agg cs => cs
                    | v => [v]).length.beq
                (1 : Nat) then
            withI IntKind.i64
              (match a with
                | AVal.agg cs => cs
                | v => [v])[(0 : Nat)]?
              fun (n : Int) =>
              if decide ((↑(0 : Nat) : Int) > (0 : Int)) = true then if (0 : Int) ≤ IntKind.i64.wrap ((↑(0 : Nat) : Int) - (1 : Int)) then none else none
              else
                if (16 : Nat) ≤ (35184372088832 : Nat) then
                  k Ex.normal
                    (mkS [(7 : Nat), (22 : Nat), (23 : Nat), (24 : Nat)]
                      [Slot.v (AVal.gs (List.length sg4) (2 : Nat) (0 : Nat) (1 : Nat)) false, Slot.v (AVal.sl b0 (1 : Nat) l1) false, Slot.v (AVal.at (Value.int IntKind.i64 n2)) false,
                        Slot.v (AVal.at (Value.int IntKind.i64 (IntKind.i64.wrap (n3 + (1 : Int))))) false]
                      [none, none, none, none] (RVal.sg (sg4 ++ [(Box.mk ([AVal.at (Value.int IntKind.i64 n), AVal.at (Value.int IntKind.i64 (IntKind.i64.wrap (n + (1 : Int))))]))])))
                else none
          else none
      else none
    else k (Ex.exit (0 : Nat)) (mkS [(7 : Nat)] [Slot.v (AVal.sl true (2 : Nat) []) true] [none] (RVal.sg sg4)) := by kernel_rfl
-- NOTE: loop 0 goes on in another shape
theorem bitmap_Spans.r0_2 (C : CallF) (N : Nat) (m0 : Nat) (m1 : Nat) (b2 : Bool) (l3 : List AVal) (n4 : Int) (n5 : Int) (sg6 : Sg) (k : Ex → St → R) :
    bitmap_Spans.R0 C N
      (mkS [(7 : Nat), (22 : Nat), (23 : Nat), (24 : Nat)]
        [Slot.v (AVal.gs m0 (2 : Nat) (0 : Nat) m1) false, Slot.v (AVal.sl b2 (1 : Nat) l3) false, Slot.v (AVal.at (Value.int IntKind.i64 n4)) false, Slot.v (AVal.at (Value.int IntKind.i64 n5)) false]
        [none, none, none, none] (RVal.sg sg6))
      k =
    if decide (n5 < n4) = true then
      if (0 : Int) ≤ n5 then
        withA l3[n5.toNat]? fun (a : AVal) =>
          bif
              (match a with
                    | AVal.agg cs => cs
                    | v => [v]).length.beq
                (1 : Nat) then
            withI IntKind.i64
              (match a with
                | AVal.agg cs => cs
                | v => [v])[(0 : Nat)]?
              fun (n : Int) =>
              if decide ((↑m1 : Int) > (0 : Int)) = true then
                if (0 : Int) ≤ IntKind.i64.wrap ((↑m1 : Int) - (1 : Int)) ∧ IntKind.i64.wrap ((↑m1 : Int) - (1 : Int)) < (↑m1 : Int) then
                  if (0 : Int) ≤ (1 : Int) ∧ (1 : Int) < (↑(2 : Nat) : Int) then
                    withO sg6[m0]? fun (B : Box) =>
                      bif B.1.isEmpty then none
                      else
                        withI IntKind.i64 B.1[(0 : Nat) + (IntKind.i64.wrap ((↑m1 : Int) - (1 : Int))).toNat * (2 : Nat) + Int.toNat (1 : Int) * (1 : Nat)]? fun (n_1 : Int) =>
                          if (n_1 == n) = true then
                            if (0 : Int) ≤ IntKind.i64.wrap ((↑m1 : Int) - (1 : Int)) ∧ IntKind.i64.wrap ((↑m1 : Int) - (1 : Int)) < (↑m1 : Int) then
                              if (0 : Int) ≤ (1 : Int) ∧ (1 : Int) < (↑(2 : Nat) : Int) then
                                withO sg6[m0]? fun (B : Box) =>
                                  bif B.1.isEmpty then none
                                  else
                                    bif ((0 : Nat) + (IntKind.i64.wrap ((↑m1 : Int) - (1 : Int))).toNat * (2 : Nat) + Int.toNat (1 : Int) * (1 : Nat) + (1 : Nat)).ble B.1.length then
                                      bindL
                                        (splice B.1 ((0 : Nat) + (IntKind.i64.wrap ((↑m1 : Int) - (1 : Int))).toNat * (2 : Nat) + Int.toNat (1 : Int) * (1 : Nat))
                                          [AVal.at (Value.int IntKind.i64 (IntKind.i64.wrap (n + (1 : Int))))])
                                        fun (cs : List AVal) =>
                                        k Ex.normal
                                          (mkS [(7 : Nat), (22 : Nat), (23 : Nat), (24 : Nat)]
                                            [Slot.v (AVal.gs m0 (2 : Nat) (0 : Nat) m1) false, Slot.v (AVal.sl b2 (1 : Nat) l3) false, Slot.v (AVal.at (Value.int IntKind.i64 n4)) false,
                                              Slot.v (AVal.at (Value.int IntKind.i64 (IntKind.i64.wrap (n5 + (1 : Int))))) false]
                                            [none, none, none, none] (RVal.sg (List.set sg6 m0 (Box.mk (cs)))))
                                    else none
                              else none
                            else none
                          else
                            withO sg6[m0]? fun (B : Box) =>
                              bif B.1.length.beq (m1 * (2 : Nat)) && Nat.blt (0 : Nat) B.1.length then
                                if (m1 + (1 : Nat)) * (16 : Nat) ≤ (35184372088832 : Nat) then
                                  k Ex.normal
                                    (mkS [(7 : Nat), (22 : Nat), (23 : Nat), (24 : Nat)]
                                      [Slot.v (AVal.gs (List.length sg6) (2 : Nat) (0 : Nat) (m1 + (1 : Nat))) false, Slot.v (AVal.sl b2 (1 : Nat) l3) false,
                                        Slot.v (AVal.at (Value.int IntKind.i64 n4)) false, Slot.v (AVal.at (Value.int IntKind.i64 (IntKind.i64.wrap (n5 + (1 : Int))))) false]
                                      [none, none, none, none]
                                      (RVal.sg
                                        (List.set sg6 m0 (Box.mk ([])) ++ [(Box.mk (B.1 ++ [AVal.at (Value.int IntKind.i64 n), AVal.at (Value.int IntKind.i64 (IntKind.i64.wrap (n + (1 : Int))))]))])))
                                else none
                              else none
                  else none
                else none
              else
                withO sg6[m0]? fun (B : Box) =>
                  bif B.1.length.beq (m1 * (2 : Nat)) && Nat.blt (0 : Nat) B.1.length then
                    if (m1 + (1 : Nat)) * (16 : Nat) ≤ (35184372088832 : Nat) then
                      k Ex.normal
                        (mkS [(7 : Nat), (22 : Nat), (23 : Nat), (24 : Nat)]
                          [Slot.v (AVal.gs (List.length sg6) (2 : Nat) (0 : Nat) (m1 + (1 : Nat))) false, Slot.v (AVal.sl b2 (1 : Nat) l3) false, Slot.v (AVal.at (Value.int IntKind.i64 n4)) false,
                            Slot.v (AVal.at (Value.int IntKind.i64 (IntKind.i64.wrap (n5 + (1 : Int))))) false]
                          [none, none, none, none]
                          (RVal.sg (List.set sg6 m0 (Box.mk ([])) ++ [(Box.mk (B.1 ++ [AVal.at (Value.int IntKind.i64 n), AVal.at (Value.int IntKind.i64 (IntKind.i64.wrap (n + (1 : Int))))]))])))
                    else none
                  else none
          else none
      else none
    else k (Ex.exit (0 : Nat)) (mkS [(7 : Nat)] [Slot.v (AVal.gs m0 (2 : Nat) (0 : Nat) m1) false] [none] (RVal.sg sg6)) := by kernel_rfl
theorem bitmap_Spans.k0_1 (C : CallF) (N : Nat) (sg0 : Sg) :
    bitmap_Spans.K0 C N (Ex.exit (0 : Nat)) (mkS [(7 : Nat)] [Slot.v (AVal.sl true (2 : Nat) []) true] [none] (RVal.sg sg0)) =
    withOut (C (45 : Nat) [AVal.sl true (2 : Nat) []] sg0) (fun (v : AVal) (sg' : Sg) => withA (some v) fun (v : AVal) => match v with | .junk => none | a => some (.ret a sg')) fun (v : AVal) (sg' : Sg) => some (Out.pan v sg') := by kernel_rfl
theorem bitmap_Spans.k0_2 (C : CallF) (N : Nat) (m0 : Nat) (m1 : Nat) (sg2 : Sg) :
    bitmap_Spans.K0 C N (Ex.exit (0 : Nat)) (mkS [(7 : Nat)] [Slot.v (AVal.gs m0 (2 : Nat) (0 : Nat) m1) false] [none] (RVal.sg sg2)) =
    withOut (C (45 : Nat) [AVal.gs m0 (2 : Nat) (0 : Nat) m1] sg2) (fun (v : AVal) (sg' : Sg) => withA (some v) fun (v : AVal) => match v with | .junk => none | a => some (.ret a sg')) fun (v : AVal) (sg' : Sg) => some (Out.pan v sg') := by kernel_rfl
end Go.Abs
