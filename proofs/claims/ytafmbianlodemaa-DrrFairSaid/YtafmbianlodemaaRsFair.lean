/- THE RESIDUALS: what each function's evaluation comes to, by the kernel. Printed by a program of my own. -/
import Derived.Test.YtafmbianlodemaaCodeDrr
import Derived.KernelRfl
namespace Go.Abs
set_option linter.unusedVariables false
set_option linter.unusedSimpArgs false
set_option linter.unusedSectionVars false
set_option maxRecDepth 100000
/-! 4 wharfage/wharfagelaw26.DrrFair -/
theorem law26_DrrFair.main (C : CallF) (N : Nat) (n0 : Int) (n1 : Int) (b2 : Bool) (l3 : List AVal) (n4 : Int) (n5 : Int) (sg6 : Sg) :
    evalF C N law26_DrrFair.a [AVal.at (Value.int IntKind.i64 n0), AVal.at (Value.int IntKind.i64 n1), AVal.sl b2 (8 : Nat) l3, AVal.at (Value.int IntKind.u8 n4), AVal.at (Value.int IntKind.u8 n5)] sg6 =
    withOut (C (14 : Nat) [] sg6)
      (fun (v : AVal) (sg' : Sg) =>
        withB (some v) fun (b : Bool) =>
          if (!b) = true then some (Out.ret (AVal.at (Value.bool false)) sg')
          else
            withOut (C (12 : Nat) [AVal.at (Value.int IntKind.i64 n0), AVal.at (Value.int IntKind.i64 n1)] sg')
              (fun (v : AVal) (sg' : Sg) =>
                withT v fun (vs : List AVal) =>
                  bif vs.length.beq (2 : Nat) then
                    withG vs[(0 : Nat)]? fun (cs : List AVal) =>
                      withI IntKind.i64 vs[(1 : Nat)]? fun (n : Int) =>
                        bif cs.length.beq (11 : Nat) then
                          bindL
                            (splice
                              [AVal.at (Value.int IntKind.i64 (0 : Int)), AVal.at (Value.int IntKind.i64 (0 : Int)), AVal.at (Value.int IntKind.i64 (0 : Int)), AVal.at (Value.int IntKind.i64 (0 : Int)),
                                AVal.at (Value.int IntKind.i64 (0 : Int)), AVal.at (Value.int IntKind.i64 (0 : Int)), AVal.at (Value.int IntKind.i64 (0 : Int)), AVal.at (Value.int IntKind.i64 (0 : Int)),
                                AVal.at (Value.int IntKind.i64 (0 : Int)), AVal.at (Value.int IntKind.i64 (0 : Int)), AVal.at (Value.int IntKind.i64 (0 : Int))]
                              (0 : Nat) cs)
                            fun (cs : List AVal) =>
                            if (n != (0 : Int)) = false then
                              if decide ((↑l3.length : Int) > (100 : Int)) = true then some (Out.ret (AVal.at (Value.bool true)) sg')
                              else
                                if n0 = (0 : Int) then none
                                else
                                  if n0 = (0 : Int) then none
                                  else
                                    iter (law26_DrrFair.R0 C N) N
                                      (mkS [(0 : Nat), (1 : Nat), (11 : Nat), (13 : Nat), (14 : Nat), (15 : Nat), (16 : Nat), (51 : Nat), (52 : Nat), (53 : Nat)]
                                        [Slot.v (AVal.at (Value.int IntKind.i64 n0)) false, Slot.v (AVal.at (Value.int IntKind.i64 n1)) false, Slot.lp (11 : Nat) (0 : Nat),
                                          Slot.v (AVal.at (Value.int IntKind.i64 ((IntKind.i64.wrap n4).tmod n0))) false, Slot.v (AVal.at (Value.int IntKind.i64 ((IntKind.i64.wrap n5).tmod n0))) false,
                                          Slot.v (AVal.at (Value.int IntKind.i64 (0 : Int))) false, Slot.v (AVal.sl false (1 : Nat) [AVal.at (Value.int IntKind.i64 (0 : Int))]) true,
                                          Slot.v (AVal.sl b2 (8 : Nat) l3) false, Slot.v (AVal.at (Value.int IntKind.i64 (↑l3.length : Int))) false,
                                          Slot.v (AVal.at (Value.int IntKind.i64 (0 : Int))) false]
                                        [none, none, some { cells := cs }, none, none, none, none, none, none, none] (RVal.sg sg'))
                                      (law26_DrrFair.K0 C N)
                            else some (Out.ret (AVal.at (Value.bool true)) sg')
                        else none
                  else none)
              fun (v : AVal) (sg' : Sg) => some (Out.pan v sg'))
      fun (v : AVal) (sg' : Sg) => some (Out.pan v sg') := by kernel_rfl
theorem law26_DrrFair.r0 (C : CallF) (N : Nat) (n0 : Int) (n1 : Int) (n2 : Int) (n3 : Int) (n4 : Int) (b5 : Bool) (l6 : List AVal) (b7 : Bool) (l8 : List AVal) (n9 : Int) (n10 : Int) (l11 : List AVal) (sg12 : Sg) (k : Ex → St → R) :
    law26_DrrFair.R0 C N
      (mkS [(0 : Nat), (1 : Nat), (11 : Nat), (13 : Nat), (14 : Nat), (15 : Nat), (16 : Nat), (51 : Nat), (52 : Nat), (53 : Nat)]
        [Slot.v (AVal.at (Value.int IntKind.i64 n0)) false, Slot.v (AVal.at (Value.int IntKind.i64 n1)) false, Slot.lp (11 : Nat) (0 : Nat), Slot.v (AVal.at (Value.int IntKind.i64 n2)) false,
          Slot.v (AVal.at (Value.int IntKind.i64 n3)) false, Slot.v (AVal.at (Value.int IntKind.i64 n4)) false, Slot.v (AVal.sl b5 (1 : Nat) l6) true, Slot.v (AVal.sl b7 (8 : Nat) l8) false,
          Slot.v (AVal.at (Value.int IntKind.i64 n9)) false, Slot.v (AVal.at (Value.int IntKind.i64 n10)) false]
        [none, none, some { cells := l11 }, none, none, none, none, none, none, none] (RVal.sg sg12))
      k =
    if decide (n10 < n9) = true then
      if (0 : Int) ≤ n10 then
        withA l8[n10.toNat]? fun (a : AVal) =>
          bif
              (match a with
                    | AVal.agg cs => cs
                    | v => [v]).length.beq
                (8 : Nat) then
            bif
                Nat.ble (8 : Nat)
                  (match a with
                    | AVal.agg cs => cs
                    | v => [v]).length then
              bindL
                (List.take (8 : Nat)
                  (List.drop (0 : Nat)
                    (match a with
                    | AVal.agg cs => cs
                    | v => [v])))
                fun (l : List AVal) =>
                bif l.length.beq (8 : Nat) then
                  bindL
                    (splice
                      [AVal.at (Value.int IntKind.i64 (0 : Int)), AVal.at (Value.int IntKind.i64 (0 : Int)), AVal.at (Value.int IntKind.i64 (0 : Int)), AVal.at (Value.int IntKind.i64 (0 : Int)),
                        AVal.at (Value.int IntKind.i64 (0 : Int)), AVal.at (Value.int IntKind.i64 (0 : Int)), AVal.at (Value.int IntKind.i64 (0 : Int)), AVal.at (Value.int IntKind.i64 (0 : Int))]
                      (0 : Nat) l)
                    fun (cs : List AVal) =>
                    if (0 : Int) ≤ n2 ∧ n2 < (↑(8 : Nat) : Int) then
                      withI IntKind.i64 cs[(0 : Nat) + n2.toNat * (1 : Nat)]? fun (n : Int) =>
                        if (0 : Int) ≤ n3 ∧ n3 < (↑(8 : Nat) : Int) then
                          withI IntKind.i64 cs[(0 : Nat) + n3.toNat * (1 : Nat)]? fun (n_1 : Int) =>
                            if (0 : Int) ≤ n2 ∧ n2 < (↑(8 : Nat) : Int) then
                              bif ((0 : Nat) + n2.toNat * (1 : Nat) + (1 : Nat)).ble cs.length then
                                bindL (splice cs ((0 : Nat) + n2.toNat * (1 : Nat)) [AVal.at (Value.int IntKind.i64 (bif true then max2 n (1 : Int) else min2 n (1 : Int)))]) fun (cs : List AVal) =>
                                  if (0 : Int) ≤ n3 ∧ n3 < (↑(8 : Nat) : Int) then
                                    bif ((0 : Nat) + n3.toNat * (1 : Nat) + (1 : Nat)).ble cs.length then
                                      bindL (splice cs ((0 : Nat) + n3.toNat * (1 : Nat)) [AVal.at (Value.int IntKind.i64 (bif true then max2 n_1 (1 : Int) else min2 n_1 (1 : Int)))])
                                        fun (cs : List AVal) =>
                                        bif Nat.ble (11 : Nat) l11.length then
                                          bindL (List.take (11 : Nat) l11) fun (l : List AVal) =>
                                            bif Nat.ble (8 : Nat) cs.length then
                                              bindL (List.take (8 : Nat) cs) fun (l_1 : List AVal) =>
                                                withOut (C (9 : Nat) [AVal.agg l, AVal.agg l_1] sg12)
                                                  (fun (v : AVal) (sg' : Sg) =>
                                                    withT v fun (vs : List AVal) =>
                                                      bif vs.length.beq (3 : Nat) then
                                                        withG vs[(0 : Nat)]? fun (cs_1 : List AVal) =>
                                                          withI IntKind.i64 vs[(1 : Nat)]? fun (n : Int) =>
                                                            withB vs[(2 : Nat)]? fun (b : Bool) =>
                                                              bif cs_1.length.beq (11 : Nat) then
                                                                bindL
                                                                  (splice
                                                                    [AVal.at (Value.int IntKind.i64 (0 : Int)), AVal.at (Value.int IntKind.i64 (0 : Int)), AVal.at (Value.int IntKind.i64 (0 : Int)),
                                                                      AVal.at (Value.int IntKind.i64 (0 : Int)), AVal.at (Value.int IntKind.i64 (0 : Int)), AVal.at (Value.int IntKind.i64 (0 : Int)),
                                                                      AVal.at (Value.int IntKind.i64 (0 : Int)), AVal.at (Value.int IntKind.i64 (0 : Int)), AVal.at (Value.int IntKind.i64 (0 : Int)),
                                                                      AVal.at (Value.int IntKind.i64 (0 : Int)), AVal.at (Value.int IntKind.i64 (0 : Int))]
                                                                    (0 : Nat) cs_1)
                                                                  fun (cs_2 : List AVal) =>
                                                                  if (!b) = false then
                                                                    if decide (n < (0 : Int)) = false then
                                                                      if decide (n ≥ n0) = false then
                                                                        if (0 : Int) ≤ n ∧ n < (↑(8 : Nat) : Int) then
                                                                          withI IntKind.i64 cs[(0 : Nat) + n.toNat * (1 : Nat)]? fun (n_2 : Int) =>
                                                                            if decide (n_2 < (1 : Int)) = false then
                                                                              bif Nat.ble (11 : Nat) cs_2.length then
                                                                                bindL (List.take (11 : Nat) cs_2) fun (l : List AVal) =>
                                                                                  withOut (C (15 : Nat) [AVal.agg l] sg')
                                                                                    (fun (v : AVal) (sg' : Sg) =>
                                                                                      withI IntKind.i64 (some v) fun (n_3 : Int) =>
                                                                                        if (n_3 != (0 : Int)) = true then
                                                                                          k Ex.ret (mkS [(10 : Nat)] [Slot.v (AVal.at (Value.bool false)) false] [none] (RVal.sg sg'))
                                                                                        else
                                                                                          bif Nat.ble (11 : Nat) cs_2.length then
                                                                                            bindL (List.take (11 : Nat) cs_2) fun (l : List AVal) =>
                                                                                              bif l.length.beq (11 : Nat) then
                                                                                                bif Nat.ble (11 : Nat) l11.length then
                                                                                                  bindL (splice l11 (0 : Nat) l) fun (cs_3 : List AVal) =>
                                                                                                    if (0 : Int) ≤ n ∧ n < (↑(8 : Nat) : Int) then
                                                                                                      withI IntKind.i64 cs[(0 : Nat) + n.toNat * (1 : Nat)]? fun (n_4 : Int) =>
                                                                                                        if (0 : Int) ≤ IntKind.i64.wrap ((↑l6.length : Int) - (1 : Int)) then
                                                                                                          withA l6[(IntKind.i64.wrap ((↑l6.length : Int) - (1 : Int))).toNat]? fun (a : AVal) =>
                                                                                                            bif
                                                                                                                (match a with
                                                                                                                      | AVal.agg cs => cs
                                                                                                                      | v => [v]).length.beq
                                                                                                                  (1 : Nat) then
                                                                                                              withI IntKind.i64
                                                                                                                (match a with
                                                                                                                  | AVal.agg cs => cs
                                                                                                                  | v => [v])[(0 : Nat)]?
                                                                                                                fun (n_5 : Int) =>
                                                                                                                if (n == n2) = true then
                                                                                                                  if (n == n3) = true then
                                                                                                                    if (n == n2) = false then
                                                                                                                      if (n == n3) = true then
                                                                                                                        if (0 : Int) ≤ n2 ∧ n2 < (↑(8 : Nat) : Int) then
                                                                                                                          withI IntKind.i64 cs[(0 : Nat) + n2.toNat * (1 : Nat)]? fun (n : Int) =>
                                                                                                                            if (0 : Int) ≤ n3 ∧ n3 < (↑(8 : Nat) : Int) then
                                                                                                                              withI IntKind.i64 cs[(0 : Nat) + n3.toNat * (1 : Nat)]? fun (n_6 : Int) =>
                                                                                                                                if (l6.length + (1 : Nat)) * (8 : Nat) ≤ (35184372088832 : Nat) then
                                                                                                                                  k Ex.normal
                                                                                                                                    (mkS
                                                                                                                                      [(0 : Nat), (1 : Nat), (11 : Nat), (13 : Nat), (14 : Nat), (15 : Nat),
                                                                                                                                        (16 : Nat), (51 : Nat), (52 : Nat), (53 : Nat)]
                                                                                                                                      [Slot.v (AVal.at (Value.int IntKind.i64 n0)) false,
                                                                                                                                        Slot.v (AVal.at (Value.int IntKind.i64 n1)) false,
                                                                                                                                        Slot.lp (11 : Nat) (0 : Nat),
                                                                                                                                        Slot.v (AVal.at (Value.int IntKind.i64 n2)) false,
                                                                                                                                        Slot.v (AVal.at (Value.int IntKind.i64 n3)) false,
                                                                                                                                        Slot.v
                                                                                                                                          (AVal.at
                                                                                                                                            (Value.int IntKind.i64
                                                                                                                                              (bif true then
                                                                                                                                                max2
                                                                                                                                                  (bif true then
                                                                                                                                                    max2
                                                                                                                                                      (bif true then
                                                                                                                                                        max2 n4
                                                                                                                                                          (bif false then max2 n_4 n1 else min2 n_4 n1)
                                                                                                                                                      else
                                                                                                                                                        min2 n4
                                                                                                                                                          (bif false then max2 n_4 n1 else min2 n_4 n1))
                                                                                                                                                      (bif false then max2 n n1 else min2 n n1)
                                                                                                                                                  else
                                                                                                                                                    min2
                                                                                                                                                      (bif true then
                                                                                                                                                        max2 n4
                                                                                                                                                          (bif false then max2 n_4 n1 else min2 n_4 n1)
                                                                                                                                                      else
                                                                                                                                                        min2 n4
                                                                                                                                                          (bif false then max2 n_4 n1 else min2 n_4 n1))
                                                                                                                                                      (bif false then max2 n n1 else min2 n n1))
                                                                                                                                                  (bif false then max2 n_6 n1 else min2 n_6 n1)
                                                                                                                                              else
                                                                                                                                                min2
                                                                                                                                                  (bif true then
                                                                                                                                                    max2
                                                                                                                                                      (bif true then
                                                                                                                                                        max2 n4
                                                                                                                                                          (bif false then max2 n_4 n1 else min2 n_4 n1)
                                                                                                                                                      else
                                                                                                                                                        min2 n4
                                                                                                                                                          (bif false then max2 n_4 n1 else min2 n_4 n1))
                                                                                                                                                      (bif false then max2 n n1 else min2 n n1)
                                                                                                                                                  else
                                                                                                                                                    min2
                                                                                                                                                      (bif true then
                                                                                                                                                        max2 n4
                                                                                                                                                          (bif false then max2 n_4 n1 else min2 n_4 n1)
                                                                                                                                                      else
                                                                                                                                                        min2 n4
                                                                                                                                                          (bif false then max2 n_4 n1 else min2 n_4 n1))
                                                                                                                                                      (bif false then max2 n n1 else min2 n n1))
                                                                                                                                                  (bif false then max2 n_6 n1 else min2 n_6 n1))))
                                                                                                                                          false,
                                                                                                                                        Slot.v
                                                                                                                                          (AVal.sl false (1 : Nat)
                                                                                                                                            (l6 ++
                                                                                                                                              [AVal.at
                                                                                                                                                  (Value.int IntKind.i64
                                                                                                                                                    (IntKind.i64.wrap
                                                                                                                                                      (IntKind.i64.wrap
                                                                                                                                                          (n_5 +
                                                                                                                                                            bif false then max2 n_4 n1 else min2 n_4 n1) -
                                                                                                                                                        bif false then max2 n_4 n1 else min2 n_4 n1)))]))
                                                                                                                                          true,
                                                                                                                                        Slot.v (AVal.sl b7 (8 : Nat) l8) false,
                                                                                                                                        Slot.v (AVal.at (Value.int IntKind.i64 n9)) false,
                                                                                                                                        Slot.v
                                                                                                                                          (AVal.at
                                                                                                                                            (Value.int IntKind.i64 (IntKind.i64.wrap (n10 + (1 : Int)))))
                                                                                                                                          false]
                                                                                                                                      [none, none, some { cells := cs_3 }, none, none, none, none, none,
                                                                                                                                        none, none]
                                                                                                                                      (RVal.sg sg'))
                                                                                                                                else none
                                                                                                                            else none
                                                                                                                        else none
                                                                                                                      else
                                                                                                                        if (0 : Int) ≤ n2 ∧ n2 < (↑(8 : Nat) : Int) then
                                                                                                                          withI IntKind.i64 cs[(0 : Nat) + n2.toNat * (1 : Nat)]? fun (n : Int) =>
                                                                                                                            if (0 : Int) ≤ n3 ∧ n3 < (↑(8 : Nat) : Int) then
                                                                                                                              withI IntKind.i64 cs[(0 : Nat) + n3.toNat * (1 : Nat)]? fun (n_6 : Int) =>
                                                                                                                                if (l6.length + (1 : Nat)) * (8 : Nat) ≤ (35184372088832 : Nat) then
                                                                                                                                  k Ex.normal
                                                                                                                                    (mkS
                                                                                                                                      [(0 : Nat), (1 : Nat), (11 : Nat), (13 : Nat), (14 : Nat), (15 : Nat),
                                                                                                                                        (16 : Nat), (51 : Nat), (52 : Nat), (53 : Nat)]
                                                                                                                                      [Slot.v (AVal.at (Value.int IntKind.i64 n0)) false,
                                                                                                                                        Slot.v (AVal.at (Value.int IntKind.i64 n1)) false,
                                                                                                                                        Slot.lp (11 : Nat) (0 : Nat),
                                                                                                                                        Slot.v (AVal.at (Value.int IntKind.i64 n2)) false,
                                                                                                                                        Slot.v (AVal.at (Value.int IntKind.i64 n3)) false,
                                                                                                                                        Slot.v
                                                                                                                                          (AVal.at
                                                                                                                                            (Value.int IntKind.i64
                                                                                                                                              (bif true then
                                                                                                                                                max2
                                                                                                                                                  (bif true then
                                                                                                                                                    max2 n4 (bif false then max2 n n1 else min2 n n1)
                                                                                                                                                  else min2 n4 (bif false then max2 n n1 else min2 n n1))
                                                                                                                                                  (bif false then max2 n_6 n1 else min2 n_6 n1)
                                                                                                                                              else
                                                                                                                                                min2
                                                                                                                                                  (bif true then
                                                                                                                                                    max2 n4 (bif false then max2 n n1 else min2 n n1)
                                                                                                                                                  else min2 n4 (bif false then max2 n n1 else min2 n n1))
                                                                                                                                                  (bif false then max2 n_6 n1 else min2 n_6 n1))))
                                                                                                                                          false,
                                                                                                                                        Slot.v
                                                                                                                                          (AVal.sl false (1 : Nat)
                                                                                                                                            (l6 ++
                                                                                                                                              [AVal.at
                                                                                                                                                  (Value.int IntKind.i64
                                                                                                                                                    (IntKind.i64.wrap
                                                                                                                                                      (IntKind.i64.wrap
                                                                                                                                                          (n_5 +
                                                                                                                                                            bif false then max2 n_4 n1 else min2 n_4 n1) -
                                                                                                                                                        bif false then max2 n_4 n1 else min2 n_4 n1)))]))
                                                                                                                                          true,
                                                                                                                                        Slot.v (AVal.sl b7 (8 : Nat) l8) false,
                                                                                                                                        Slot.v (AVal.at (Value.int IntKind.i64 n9)) false,
                                                                                                                                        Slot.v
                                                                                                                                          (AVal.at
                                                                                                                                            (Value.int IntKind.i64 (IntKind.i64.wrap (n10 + (1 : Int)))))
                                                                                                                                          false]
                                                                                                                                      [none, none, some { cells := cs_3 }, none, none, none, none, none,
                                                                                                                                        none, none]
                                                                                                                                      (RVal.sg sg'))
                                                                                                                                else none
                                                                                                                            else none
                                                                                                                        else none
                                                                                                                    else
                                                                                                                      if (0 : Int) ≤ n2 ∧ n2 < (↑(8 : Nat) : Int) then
                                                                                                                        withI IntKind.i64 cs[(0 : Nat) + n2.toNat * (1 : Nat)]? fun (n : Int) =>
                                                                                                                          if (0 : Int) ≤ n3 ∧ n3 < (↑(8 : Nat) : Int) then
                                                                                                                            withI IntKind.i64 cs[(0 : Nat) + n3.toNat * (1 : Nat)]? fun (n_6 : Int) =>
                                                                                                                              if (l6.length + (1 : Nat)) * (8 : Nat) ≤ (35184372088832 : Nat) then
                                                                                                                                k Ex.normal
                                                                                                                                  (mkS
                                                                                                                                    [(0 : Nat), (1 : Nat), (11 : Nat), (13 : Nat), (14 : Nat), (15 : Nat),
                                                                                                                                      (16 : Nat), (51 : Nat), (52 : Nat), (53 : Nat)]
                                                                                                                                    [Slot.v (AVal.at (Value.int IntKind.i64 n0)) false,
                                                                                                                                      Slot.v (AVal.at (Value.int IntKind.i64 n1)) false,
                                                                                                                                      Slot.lp (11 : Nat) (0 : Nat),
                                                                                                                                      Slot.v (AVal.at (Value.int IntKind.i64 n2)) false,
                                                                                                                                      Slot.v (AVal.at (Value.int IntKind.i64 n3)) false,
                                                                                                                                      Slot.v
                                                                                                                                        (AVal.at
                                                                                                                                          (Value.int IntKind.i64
                                                                                                                                            (bif true then
                                                                                                                                              max2
                                                                                                                                                (bif true then
                                                                                                                                                  max2
                                                                                                                                                    (bif true then
                                                                                                                                                      max2 n4 (bif false then max2 n_4 n1 else min2 n_4 n1)
                                                                                                                                                    else
                                                                                                                                                      min2 n4 (bif false then max2 n_4 n1 else min2 n_4 n1))
                                                                                                                                                    (bif false then max2 n n1 else min2 n n1)
                                                                                                                                                else
                                                                                                                                                  min2
                                                                                                                                                    (bif true then
                                                                                                                                                      max2 n4 (bif false then max2 n_4 n1 else min2 n_4 n1)
                                                                                                                                                    else
                                                                                                                                                      min2 n4 (bif false then max2 n_4 n1 else min2 n_4 n1))
                                                                                                                                                    (bif false then max2 n n1 else min2 n n1))
                                                                                                                                                (bif false then max2 n_6 n1 else min2 n_6 n1)
                                                                                                                                            else
                                                                                                                                              min2
                                                                                                                                                (bif true then
                                                                                                                                                  max2
                                                                                                                                                    (bif true then
                                                                                                                                                      max2 n4 (bif false then max2 n_4 n1 else min2 n_4 n1)
                                                                                                                                                    else
                                                                                                                                                      min2 n4 (bif false then max2 n_4 n1 else min2 n_4 n1))
                                                                                                                                                    (bif false then max2 n n1 else min2 n n1)
                                                                                                                                                else
                                                                                                                                                  min2
                                                                                                                                                    (bif true then
                                                                                                                                                      max2 n4 (bif false then max2 n_4 n1 else min2 n_4 n1)
                                                                                                                                                    else
                                                                                                                                                      min2 n4 (bif false then max2 n_4 n1 else min2 n_4 n1))
                                                                                                                                                    (bif false then max2 n n1 else min2 n n1))
                                                                                                                                                (bif false then max2 n_6 n1 else min2 n_6 n1))))
                                                                                                                                        false,
                                                                                                                                      Slot.v
                                                                                                                                        (AVal.sl false (1 : Nat)
                                                                                                                                          (l6 ++
                                                                                                                                            [AVal.at
                                                                                                                                                (Value.int IntKind.i64
                                                                                                                                                  (IntKind.i64.wrap
                                                                                                                                                    (IntKind.i64.wrap
                                                                                                                                                        (n_5 +
                                                                                                                                                          bif false then max2 n_4 n1 else min2 n_4 n1) -
                                                                                                                                                      bif false then max2 n_4 n1 else min2 n_4 n1)))]))
                                                                                                                                        true,
                                                                                                                                      Slot.v (AVal.sl b7 (8 : Nat) l8) false,
                                                                                                                                      Slot.v (AVal.at (Value.int IntKind.i64 n9)) false,
                                                                                                                                      Slot.v
                                                                                                                                        (AVal.at
                                                                                                                                          (Value.int IntKind.i64 (IntKind.i64.wrap (n10 + (1 : Int)))))
                                                                                                                                        false]
                                                                                                                                    [none, none, some { cells := cs_3 }, none, none, none, none, none, none,
                                                                                                                                      none]
                                                                                                                                    (RVal.sg sg'))
                                                                                                                              else none
                                                                                                                          else none
                                                                                                                      else none
                                                                                                                  else
                                                                                                                    if (n == n2) = false then
                                                                                                                      if (n == n3) = true then
                                                                                                                        if (0 : Int) ≤ n2 ∧ n2 < (↑(8 : Nat) : Int) then
                                                                                                                          withI IntKind.i64 cs[(0 : Nat) + n2.toNat * (1 : Nat)]? fun (n : Int) =>
                                                                                                                            if (0 : Int) ≤ n3 ∧ n3 < (↑(8 : Nat) : Int) then
                                                                                                                              withI IntKind.i64 cs[(0 : Nat) + n3.toNat * (1 : Nat)]? fun (n_6 : Int) =>
                                                                                                                                if (l6.length + (1 : Nat)) * (8 : Nat) ≤ (35184372088832 : Nat) then
                                                                                                                                  k Ex.normal
                                                                                                                                    (mkS
                                                                                                                                      [(0 : Nat), (1 : Nat), (11 : Nat), (13 : Nat), (14 : Nat), (15 : Nat),
                                                                                                                                        (16 : Nat), (51 : Nat), (52 : Nat), (53 : Nat)]
                                                                                                                                      [Slot.v (AVal.at (Value.int IntKind.i64 n0)) false,
                                                                                                                                        Slot.v (AVal.at (Value.int IntKind.i64 n1)) false,
                                                                                                                                        Slot.lp (11 : Nat) (0 : Nat),
                                                                                                                                        Slot.v (AVal.at (Value.int IntKind.i64 n2)) false,
                                                                                                                                        Slot.v (AVal.at (Value.int IntKind.i64 n3)) false,
                                                                                                                                        Slot.v
                                                                                                                                          (AVal.at
                                                                                                                                            (Value.int IntKind.i64
                                                                                                                                              (bif true then
                                                                                                                                                max2
                                                                                                                                                  (bif true then
                                                                                                                                                    max2
                                                                                                                                                      (bif true then
                                                                                                                                                        max2 n4
                                                                                                                                                          (bif false then max2 n_4 n1 else min2 n_4 n1)
                                                                                                                                                      else
                                                                                                                                                        min2 n4
                                                                                                                                                          (bif false then max2 n_4 n1 else min2 n_4 n1))
                                                                                                                                                      (bif false then max2 n n1 else min2 n n1)
                                                                                                                                                  else
                                                                                                                                                    min2
                                                                                                                                                      (bif true then
                                                                                                                                                        max2 n4
                                                                                                                                                          (bif false then max2 n_4 n1 else min2 n_4 n1)
                                                                                                                                                      else
                                                                                                                                                        min2 n4
                                                                                                                                                          (bif false then max2 n_4 n1 else min2 n_4 n1))
                                                                                                                                                      (bif false then max2 n n1 else min2 n n1))
                                                                                                                                                  (bif false then max2 n_6 n1 else min2 n_6 n1)
                                                                                                                                              else
                                                                                                                                                min2
                                                                                                                                                  (bif true then
                                                                                                                                                    max2
                                                                                                                                                      (bif true then
                                                                                                                                                        max2 n4
                                                                                                                                                          (bif false then max2 n_4 n1 else min2 n_4 n1)
                                                                                                                                                      else
                                                                                                                                                        min2 n4
                                                                                                                                                          (bif false then max2 n_4 n1 else min2 n_4 n1))
                                                                                                                                                      (bif false then max2 n n1 else min2 n n1)
                                                                                                                                                  else
                                                                                                                                                    min2
                                                                                                                                                      (bif true then
                                                                                                                                                        max2 n4
                                                                                                                                                          (bif false then max2 n_4 n1 else min2 n_4 n1)
                                                                                                                                                      else
                                                                                                                                                        min2 n4
                                                                                                                                                          (bif false then max2 n_4 n1 else min2 n_4 n1))
                                                                                                                                                      (bif false then max2 n n1 else min2 n n1))
                                                                                                                                                  (bif false then max2 n_6 n1 else min2 n_6 n1))))
                                                                                                                                          false,
                                                                                                                                        Slot.v
                                                                                                                                          (AVal.sl false (1 : Nat)
                                                                                                                                            (l6 ++
                                                                                                                                              [AVal.at
                                                                                                                                                  (Value.int IntKind.i64
                                                                                                                                                    (IntKind.i64.wrap
                                                                                                                                                      (n_5 +
                                                                                                                                                        bif false then max2 n_4 n1 else min2 n_4 n1)))]))
                                                                                                                                          true,
                                                                                                                                        Slot.v (AVal.sl b7 (8 : Nat) l8) false,
                                                                                                                                        Slot.v (AVal.at (Value.int IntKind.i64 n9)) false,
                                                                                                                                        Slot.v
                                                                                                                                          (AVal.at
                                                                                                                                            (Value.int IntKind.i64 (IntKind.i64.wrap (n10 + (1 : Int)))))
                                                                                                                                          false]
                                                                                                                                      [none, none, some { cells := cs_3 }, none, none, none, none, none,
                                                                                                                                        none, none]
                                                                                                                                      (RVal.sg sg'))
                                                                                                                                else none
                                                                                                                            else none
                                                                                                                        else none
                                                                                                                      else
                                                                                                                        if (0 : Int) ≤ n2 ∧ n2 < (↑(8 : Nat) : Int) then
                                                                                                                          withI IntKind.i64 cs[(0 : Nat) + n2.toNat * (1 : Nat)]? fun (n : Int) =>
                                                                                                                            if (0 : Int) ≤ n3 ∧ n3 < (↑(8 : Nat) : Int) then
                                                                                                                              withI IntKind.i64 cs[(0 : Nat) + n3.toNat * (1 : Nat)]? fun (n_6 : Int) =>
                                                                                                                                if (l6.length + (1 : Nat)) * (8 : Nat) ≤ (35184372088832 : Nat) then
                                                                                                                                  k Ex.normal
                                                                                                                                    (mkS
                                                                                                                                      [(0 : Nat), (1 : Nat), (11 : Nat), (13 : Nat), (14 : Nat), (15 : Nat),
                                                                                                                                        (16 : Nat), (51 : Nat), (52 : Nat), (53 : Nat)]
                                                                                                                                      [Slot.v (AVal.at (Value.int IntKind.i64 n0)) false,
                                                                                                                                        Slot.v (AVal.at (Value.int IntKind.i64 n1)) false,
                                                                                                                                        Slot.lp (11 : Nat) (0 : Nat),
                                                                                                                                        Slot.v (AVal.at (Value.int IntKind.i64 n2)) false,
                                                                                                                                        Slot.v (AVal.at (Value.int IntKind.i64 n3)) false,
                                                                                                                                        Slot.v
                                                                                                                                          (AVal.at
                                                                                                                                            (Value.int IntKind.i64
                                                                                                                                              (bif true then
                                                                                                                                                max2
                                                                                                                                                  (bif true then
                                                                                                                                                    max2 n4 (bif false then max2 n n1 else min2 n n1)
                                                                                                                                                  else min2 n4 (bif false then max2 n n1 else min2 n n1))
                                                                                                                                                  (bif false then max2 n_6 n1 else min2 n_6 n1)
                                                                                                                                              else
                                                                                                                                                min2
                                                                                                                                                  (bif true then
                                                                                                                                                    max2 n4 (bif false then max2 n n1 else min2 n n1)
                                                                                                                                                  else min2 n4 (bif false then max2 n n1 else min2 n n1))
                                                                                                                                                  (bif false then max2 n_6 n1 else min2 n_6 n1))))
                                                                                                                                          false,
                                                                                                                                        Slot.v
                                                                                                                                          (AVal.sl false (1 : Nat)
                                                                                                                                            (l6 ++
                                                                                                                                              [AVal.at
                                                                                                                                                  (Value.int IntKind.i64
                                                                                                                                                    (IntKind.i64.wrap
                                                                                                                                                      (n_5 +
                                                                                                                                                        bif false then max2 n_4 n1 else min2 n_4 n1)))]))
                                                                                                                                          true,
                                                                                                                                        Slot.v (AVal.sl b7 (8 : Nat) l8) false,
                                                                                                                                        Slot.v (AVal.at (Value.int IntKind.i64 n9)) false,
                                                                                                                                        Slot.v
                                                                                                                                          (AVal.at
                                                                                                                                            (Value.int IntKind.i64 (IntKind.i64.wrap (n10 + (1 : Int)))))
                                                                                                                                          false]
                                                                                                                                      [none, none, some { cells := cs_3 }, none, none, none, none, none,
                                                                                                                                        none, none]
                                                                                                                                      (RVal.sg sg'))
                                                                                                                                else none
                                                                                                                            else none
                                                                                                                        else none
                                                                                                                    else
                                                                                                                      if (0 : Int) ≤ n2 ∧ n2 < (↑(8 : Nat) : Int) then
                                                                                                                        withI IntKind.i64 cs[(0 : Nat) + n2.toNat * (1 : Nat)]? fun (n : Int) =>
                                                                                                                          if (0 : Int) ≤ n3 ∧ n3 < (↑(8 : Nat) : Int) then
                                                                                                                            withI IntKind.i64 cs[(0 : Nat) + n3.toNat * (1 : Nat)]? fun (n_6 : Int) =>
                                                                                                                              if (l6.length + (1 : Nat)) * (8 : Nat) ≤ (35184372088832 : Nat) then
                                                                                                                                k Ex.normal
                                                                                                                                  (mkS
                                                                                                                                    [(0 : Nat), (1 : Nat), (11 : Nat), (13 : Nat), (14 : Nat), (15 : Nat),
                                                                                                                                      (16 : Nat), (51 : Nat), (52 : Nat), (53 : Nat)]
                                                                                                                                    [Slot.v (AVal.at (Value.int IntKind.i64 n0)) false,
                                                                                                                                      Slot.v (AVal.at (Value.int IntKind.i64 n1)) false,
                                                                                                                                      Slot.lp (11 : Nat) (0 : Nat),
                                                                                                                                      Slot.v (AVal.at (Value.int IntKind.i64 n2)) false,
                                                                                                                                      Slot.v (AVal.at (Value.int IntKind.i64 n3)) false,
                                                                                                                                      Slot.v
                                                                                                                                        (AVal.at
                                                                                                                                          (Value.int IntKind.i64
                                                                                                                                            (bif true then
                                                                                                                                              max2
                                                                                                                                                (bif true then
                                                                                                                                                  max2
                                                                                                                                                    (bif true then
                                                                                                                                                      max2 n4 (bif false then max2 n_4 n1 else min2 n_4 n1)
                                                                                                                                                    else
                                                                                                                                                      min2 n4 (bif false then max2 n_4 n1 else min2 n_4 n1))
                                                                                                                                                    (bif false then max2 n n1 else min2 n n1)
                                                                                                                                                else
                                                                                                                                                  min2
                                                                                                                                                    (bif true then
                                                                                                                                                      max2 n4 (bif false then max2 n_4 n1 else min2 n_4 n1)
                                                                                                                                                    else
                                                                                                                                                      min2 n4 (bif false then max2 n_4 n1 else min2 n_4 n1))
                                                                                                                                                    (bif false then max2 n n1 else min2 n n1))
                                                                                                                                                (bif false then max2 n_6 n1 else min2 n_6 n1)
                                                                                                                                            else
                                                                                                                                              min2
                                                                                                                                                (bif true then
                                                                                                                                                  max2
                                                                                                                                                    (bif true then
                                                                                                                                                      max2 n4 (bif false then max2 n_4 n1 else min2 n_4 n1)
                                                                                                                                                    else
                                                                                                                                                      min2 n4 (bif false then max2 n_4 n1 else min2 n_4 n1))
                                                                                                                                                    (bif false then max2 n n1 else min2 n n1)
                                                                                                                                                else
                                                                                                                                                  min2
                                                                                                                                                    (bif true then
                                                                                                                                                      max2 n4 (bif false then max2 n_4 n1 else min2 n_4 n1)
                                                                                                                                                    else
                                                                                                                                                      min2 n4 (bif false then max2 n_4 n1 else min2 n_4 n1))
                                                                                                                                                    (bif false then max2 n n1 else min2 n n1))
                                                                                                                                                (bif false then max2 n_6 n1 else min2 n_6 n1))))
                                                                                                                                        false,
                                                                                                                                      Slot.v
                                                                                                                                        (AVal.sl false (1 : Nat)
                                                                                                                                          (l6 ++
                                                                                                                                            [AVal.at
                                                                                                                                                (Value.int IntKind.i64
                                                                                                                                                  (IntKind.i64.wrap
                                                                                                                                                    (n_5 + bif false then max2 n_4 n1 else min2 n_4 n1)))]))
                                                                                                                                        true,
                                                                                                                                      Slot.v (AVal.sl b7 (8 : Nat) l8) false,
                                                                                                                                      Slot.v (AVal.at (Value.int IntKind.i64 n9)) false,
                                                                                                                                      Slot.v
                                                                                                                                        (AVal.at
                                                                                                                                          (Value.int IntKind.i64 (IntKind.i64.wrap (n10 + (1 : Int)))))
                                                                                                                                        false]
                                                                                                                                    [none, none, some { cells := cs_3 }, none, none, none, none, none, none,
                                                                                                                                      none]
                                                                                                                                    (RVal.sg sg'))
                                                                                                                              else none
                                                                                                                          else none
                                                                                                                      else none
                                                                                                                else
                                                                                                                  if (n == n3) = true then
                                                                                                                    if (n == n2) = false then
                                                                                                                      if (n == n3) = true then
                                                                                                                        if (0 : Int) ≤ n2 ∧ n2 < (↑(8 : Nat) : Int) then
                                                                                                                          withI IntKind.i64 cs[(0 : Nat) + n2.toNat * (1 : Nat)]? fun (n : Int) =>
                                                                                                                            if (0 : Int) ≤ n3 ∧ n3 < (↑(8 : Nat) : Int) then
                                                                                                                              withI IntKind.i64 cs[(0 : Nat) + n3.toNat * (1 : Nat)]? fun (n_6 : Int) =>
                                                                                                                                if (l6.length + (1 : Nat)) * (8 : Nat) ≤ (35184372088832 : Nat) then
                                                                                                                                  k Ex.normal
                                                                                                                                    (mkS
                                                                                                                                      [(0 : Nat), (1 : Nat), (11 : Nat), (13 : Nat), (14 : Nat), (15 : Nat),
                                                                                                                                        (16 : Nat), (51 : Nat), (52 : Nat), (53 : Nat)]
                                                                                                                                      [Slot.v (AVal.at (Value.int IntKind.i64 n0)) false,
                                                                                                                                        Slot.v (AVal.at (Value.int IntKind.i64 n1)) false,
                                                                                                                                        Slot.lp (11 : Nat) (0 : Nat),
                                                                                                                                        Slot.v (AVal.at (Value.int IntKind.i64 n2)) false,
                                                                                                                                        Slot.v (AVal.at (Value.int IntKind.i64 n3)) false,
                                                                                                                                        Slot.v
                                                                                                                                          (AVal.at
                                                                                                                                            (Value.int IntKind.i64
                                                                                                                                              (bif true then
                                                                                                                                                max2
                                                                                                                                                  (bif true then
                                                                                                                                                    max2
                                                                                                                                                      (bif true then
                                                                                                                                                        max2 n4
                                                                                                                                                          (bif false then max2 n_4 n1 else min2 n_4 n1)
                                                                                                                                                      else
                                                                                                                                                        min2 n4
                                                                                                                                                          (bif false then max2 n_4 n1 else min2 n_4 n1))
                                                                                                                                                      (bif false then max2 n n1 else min2 n n1)
                                                                                                                                                  else
                                                                                                                                                    min2
                                                                                                                                                      (bif true then
                                                                                                                                                        max2 n4
                                                                                                                                                          (bif false then max2 n_4 n1 else min2 n_4 n1)
                                                                                                                                                      else
                                                                                                                                                        min2 n4
                                                                                                                                                          (bif false then max2 n_4 n1 else min2 n_4 n1))
                                                                                                                                                      (bif false then max2 n n1 else min2 n n1))
                                                                                                                                                  (bif false then max2 n_6 n1 else min2 n_6 n1)
                                                                                                                                              else
                                                                                                                                                min2
                                                                                                                                                  (bif true then
                                                                                                                                                    max2
                                                                                                                                                      (bif true then
                                                                                                                                                        max2 n4
                                                                                                                                                          (bif false then max2 n_4 n1 else min2 n_4 n1)
                                                                                                                                                      else
                                                                                                                                                        min2 n4
                                                                                                                                                          (bif false then max2 n_4 n1 else min2 n_4 n1))
                                                                                                                                                      (bif false then max2 n n1 else min2 n n1)
                                                                                                                                                  else
                                                                                                                                                    min2
                                                                                                                                                      (bif true then
                                                                                                                                                        max2 n4
                                                                                                                                                          (bif false then max2 n_4 n1 else min2 n_4 n1)
                                                                                                                                                      else
                                                                                                                                                        min2 n4
                                                                                                                                                          (bif false then max2 n_4 n1 else min2 n_4 n1))
                                                                                                                                                      (bif false then max2 n n1 else min2 n n1))
                                                                                                                                                  (bif false then max2 n_6 n1 else min2 n_6 n1))))
                                                                                                                                          false,
                                                                                                                                        Slot.v
                                                                                                                                          (AVal.sl false (1 : Nat)
                                                                                                                                            (l6 ++
                                                                                                                                              [AVal.at
                                                                                                                                                  (Value.int IntKind.i64
                                                                                                                                                    (IntKind.i64.wrap
                                                                                                                                                      (n_5 -
                                                                                                                                                        bif false then max2 n_4 n1 else min2 n_4 n1)))]))
                                                                                                                                          true,
                                                                                                                                        Slot.v (AVal.sl b7 (8 : Nat) l8) false,
                                                                                                                                        Slot.v (AVal.at (Value.int IntKind.i64 n9)) false,
                                                                                                                                        Slot.v
                                                                                                                                          (AVal.at
                                                                                                                                            (Value.int IntKind.i64 (IntKind.i64.wrap (n10 + (1 : Int)))))
                                                                                                                                          false]
                                                                                                                                      [none, none, some { cells := cs_3 }, none, none, none, none, none,
                                                                                                                                        none, none]
                                                                                                                                      (RVal.sg sg'))
                                                                                                                                else none
                                                                                                                            else none
                                                                                                                        else none
                                                                                                                      else
                                                                                                                        if (0 : Int) ≤ n2 ∧ n2 < (↑(8 : Nat) : Int) then
                                                                                                                          withI IntKind.i64 cs[(0 : Nat) + n2.toNat * (1 : Nat)]? fun (n : Int) =>
                                                                                                                            if (0 : Int) ≤ n3 ∧ n3 < (↑(8 : Nat) : Int) then
                                                                                                                              withI IntKind.i64 cs[(0 : Nat) + n3.toNat * (1 : Nat)]? fun (n_6 : Int) =>
                                                                                                                                if (l6.length + (1 : Nat)) * (8 : Nat) ≤ (35184372088832 : Nat) then
                                                                                                                                  k Ex.normal
                                                                                                                                    (mkS
                                                                                                                                      [(0 : Nat), (1 : Nat), (11 : Nat), (13 : Nat), (14 : Nat), (15 : Nat),
                                                                                                                                        (16 : Nat), (51 : Nat), (52 : Nat), (53 : Nat)]
                                                                                                                                      [Slot.v (AVal.at (Value.int IntKind.i64 n0)) false,
                                                                                                                                        Slot.v (AVal.at (Value.int IntKind.i64 n1)) false,
                                                                                                                                        Slot.lp (11 : Nat) (0 : Nat),
                                                                                                                                        Slot.v (AVal.at (Value.int IntKind.i64 n2)) false,
                                                                                                                                        Slot.v (AVal.at (Value.int IntKind.i64 n3)) false,
                                                                                                                                        Slot.v
                                                                                                                                          (AVal.at
                                                                                                                                            (Value.int IntKind.i64
                                                                                                                                              (bif true then
                                                                                                                                                max2
                                                                                                                                                  (bif true then
                                                                                                                                                    max2 n4 (bif false then max2 n n1 else min2 n n1)
                                                                                                                                                  else min2 n4 (bif false then max2 n n1 else min2 n n1))
                                                                                                                                                  (bif false then max2 n_6 n1 else min2 n_6 n1)
                                                                                                                                              else
                                                                                                                                                min2
                                                                                                                                                  (bif true then
                                                                                                                                                    max2 n4 (bif false then max2 n n1 else min2 n n1)
                                                                                                                                                  else min2 n4 (bif false then max2 n n1 else min2 n n1))
                                                                                                                                                  (bif false then max2 n_6 n1 else min2 n_6 n1))))
                                                                                                                                          false,
                                                                                                                                        Slot.v
                                                                                                                                          (AVal.sl false (1 : Nat)
                                                                                                                                            (l6 ++
                                                                                                                                              [AVal.at
                                                                                                                                                  (Value.int IntKind.i64
                                                                                                                                                    (IntKind.i64.wrap
                                                                                                                                                      (n_5 -
                                                                                                                                                        bif false then max2 n_4 n1 else min2 n_4 n1)))]))
                                                                                                                                          true,
                                                                                                                                        Slot.v (AVal.sl b7 (8 : Nat) l8) false,
                                                                                                                                        Slot.v (AVal.at (Value.int IntKind.i64 n9)) false,
                                                                                                                                        Slot.v
                                                                                                                                          (AVal.at
                                                                                                                                            (Value.int IntKind.i64 (IntKind.i64.wrap (n10 + (1 : Int)))))
                                                                                                                                          false]
                                                                                                                                      [none, none, some { cells := cs_3 }, none, none, none, none, none,
                                                                                                                                        none, none]
                                                                                                                                      (RVal.sg sg'))
                                                                                                                                else none
                                                                                                                            else none
                                                                                                                        else none
                                                                                                                    else
                                                                                                                      if (0 : Int) ≤ n2 ∧ n2 < (↑(8 : Nat) : Int) then
                                                                                                                        withI IntKind.i64 cs[(0 : Nat) + n2.toNat * (1 : Nat)]? fun (n : Int) =>
                                                                                                                          if (0 : Int) ≤ n3 ∧ n3 < (↑(8 : Nat) : Int) then
                                                                                                                            withI IntKind.i64 cs[(0 : Nat) + n3.toNat * (1 : Nat)]? fun (n_6 : Int) =>
                                                                                                                              if (l6.length + (1 : Nat)) * (8 : Nat) ≤ (35184372088832 : Nat) then
                                                                                                                                k Ex.normal
                                                                                                                                  (mkS
                                                                                                                                    [(0 : Nat), (1 : Nat), (11 : Nat), (13 : Nat), (14 : Nat), (15 : Nat),
                                                                                                                                      (16 : Nat), (51 : Nat), (52 : Nat), (53 : Nat)]
                                                                                                                                    [Slot.v (AVal.at (Value.int IntKind.i64 n0)) false,
                                                                                                                                      Slot.v (AVal.at (Value.int IntKind.i64 n1)) false,
                                                                                                                                      Slot.lp (11 : Nat) (0 : Nat),
                                                                                                                                      Slot.v (AVal.at (Value.int IntKind.i64 n2)) false,
                                                                                                                                      Slot.v (AVal.at (Value.int IntKind.i64 n3)) false,
                                                                                                                                      Slot.v
                                                                                                                                        (AVal.at
                                                                                                                                          (Value.int IntKind.i64
                                                                                                                                            (bif true then
                                                                                                                                              max2
                                                                                                                                                (bif true then
                                                                                                                                                  max2
                                                                                                                                                    (bif true then
                                                                                                                                                      max2 n4 (bif false then max2 n_4 n1 else min2 n_4 n1)
                                                                                                                                                    else
                                                                                                                                                      min2 n4 (bif false then max2 n_4 n1 else min2 n_4 n1))
                                                                                                                                                    (bif false then max2 n n1 else min2 n n1)
                                                                                                                                                else
                                                                                                                                                  min2
                                                                                                                                                    (bif true then
                                                                                                                                                      max2 n4 (bif false then max2 n_4 n1 else min2 n_4 n1)
                                                                                                                                                    else
                                                                                                                                                      min2 n4 (bif false then max2 n_4 n1 else min2 n_4 n1))
                                                                                                                                                    (bif false then max2 n n1 else min2 n n1))
                                                                                                                                                (bif false then max2 n_6 n1 else min2 n_6 n1)
                                                                                                                                            else
                                                                                                                                              min2
                                                                                                                                                (bif true then
                                                                                                                                                  max2
                                                                                                                                                    (bif true then
                                                                                                                                                      max2 n4 (bif false then max2 n_4 n1 else min2 n_4 n1)
                                                                                                                                                    else
                                                                                                                                                      min2 n4 (bif false then max2 n_4 n1 else min2 n_4 n1))
                                                                                                                                                    (bif false then max2 n n1 else min2 n n1)
                                                                                                                                                else
                                                                                                                                                  min2
                                                                                                                                                    (bif true then
                                                                                                                                                      max2 n4 (bif false then max2 n_4 n1 else min2 n_4 n1)
                                                                                                                                                    else
                                                                                                                                                      min2 n4 (bif false then max2 n_4 n1 else min2 n_4 n1))
                                                                                                                                                    (bif false then max2 n n1 else min2 n n1))
                                                                                                                                                (bif false then max2 n_6 n1 else min2 n_6 n1))))
                                                                                                                                        false,
                                                                                                                                      Slot.v
                                                                                                                                        (AVal.sl false (1 : Nat)
                                                                                                                                          (l6 ++
                                                                                                                                            [AVal.at
                                                                                                                                                (Value.int IntKind.i64
                                                                                                                                                  (IntKind.i64.wrap
                                                                                                                                                    (n_5 - bif false then max2 n_4 n1 else min2 n_4 n1)))]))
                                                                                                                                        true,
                                                                                                                                      Slot.v (AVal.sl b7 (8 : Nat) l8) false,
                                                                                                                                      Slot.v (AVal.at (Value.int IntKind.i64 n9)) false,
                                                                                                                                      Slot.v
                                                                                                                                        (AVal.at
                                                                                                                                          (Value.int IntKind.i64 (IntKind.i64.wrap (n10 + (1 : Int)))))
                                                                                                                                        false]
                                                                                                                                    [none, none, some { cells := cs_3 }, none, none, none, none, none, none,
                                                                                                                                      none]
                                                                                                                                    (RVal.sg sg'))
                                                                                                                              else none
                                                                                                                          else none
                                                                                                                      else none
                                                                                                                  else
                                                                                                                    if (n == n2) = false then
                                                                                                                      if (n == n3) = true then
                                                                                                                        if (0 : Int) ≤ n2 ∧ n2 < (↑(8 : Nat) : Int) then
                                                                                                                          withI IntKind.i64 cs[(0 : Nat) + n2.toNat * (1 : Nat)]? fun (n : Int) =>
                                                                                                                            if (0 : Int) ≤ n3 ∧ n3 < (↑(8 : Nat) : Int) then
                                                                                                                              withI IntKind.i64 cs[(0 : Nat) + n3.toNat * (1 : Nat)]? fun (n_6 : Int) =>
                                                                                                                                if (l6.length + (1 : Nat)) * (8 : Nat) ≤ (35184372088832 : Nat) then
                                                                                                                                  k Ex.normal
                                                                                                                                    (mkS
                                                                                                                                      [(0 : Nat), (1 : Nat), (11 : Nat), (13 : Nat), (14 : Nat), (15 : Nat),
                                                                                                                                        (16 : Nat), (51 : Nat), (52 : Nat), (53 : Nat)]
                                                                                                                                      [Slot.v (AVal.at (Value.int IntKind.i64 n0)) false,
                                                                                                                                        Slot.v (AVal.at (Value.int IntKind.i64 n1)) false,
                                                                                                                                        Slot.lp (11 : Nat) (0 : Nat),
                                                                                                                                        Slot.v (AVal.at (Value.int IntKind.i64 n2)) false,
                                                                                                                                        Slot.v (AVal.at (Value.int IntKind.i64 n3)) false,
                                                                                                                                        Slot.v
                                                                                                                                          (AVal.at
                                                                                                                                            (Value.int IntKind.i64
                                                                                                                                              (bif true then
                                                                                                                                                max2
                                                                                                                                                  (bif true then
                                                                                                                                                    max2
                                                                                                                                                      (bif true then
                                                                                                                                                        max2 n4
                                                                                                                                                          (bif false then max2 n_4 n1 else min2 n_4 n1)
                                                                                                                                                      else
                                                                                                                                                        min2 n4
                                                                                                                                                          (bif false then max2 n_4 n1 else min2 n_4 n1))
                                                                                                                                                      (bif false then max2 n n1 else min2 n n1)
                                                                                                                                                  else
                                                                                                                                                    min2
                                                                                                                                                      (bif true then
                                                                                                                                                        max2 n4
                                                                                                                                                          (bif false then max2 n_4 n1 else min2 n_4 n1)
                                                                                                                                                      else
                                                                                                                                                        min2 n4
                                                                                                                                                          (bif false then max2 n_4 n1 else min2 n_4 n1))
                                                                                                                                                      (bif false then max2 n n1 else min2 n n1))
                                                                                                                                                  (bif false then max2 n_6 n1 else min2 n_6 n1)
                                                                                                                                              else
                                                                                                                                                min2
                                                                                                                                                  (bif true then
                                                                                                                                                    max2
                                                                                                                                                      (bif true then
                                                                                                                                                        max2 n4
                                                                                                                                                          (bif false then max2 n_4 n1 else min2 n_4 n1)
                                                                                                                                                      else
                                                                                                                                                        min2 n4
                                                                                                                                                          (bif false then max2 n_4 n1 else min2 n_4 n1))
                                                                                                                                                      (bif false then max2 n n1 else min2 n n1)
                                                                                                                                                  else
                                                                                                                                                    min2
                                                                                                                                                      (bif true then
                                                                                                                                                        max2 n4
                                                                                                                                                          (bif false then max2 n_4 n1 else min2 n_4 n1)
                                                                                                                                                      else
                                                                                                                                                        min2 n4
                                                                                                                                                          (bif false then max2 n_4 n1 else min2 n_4 n1))
                                                                                                                                                      (bif false then max2 n n1 else min2 n n1))
                                                                                                                                                  (bif false then max2 n_6 n1 else min2 n_6 n1))))
                                                                                                                                          false,
                                                                                                                                        Slot.v
                                                                                                                                          (AVal.sl false (1 : Nat)
                                                                                                                                            (l6 ++ [AVal.at (Value.int IntKind.i64 n_5)]))
                                                                                                                                          true,
                                                                                                                                        Slot.v (AVal.sl b7 (8 : Nat) l8) false,
                                                                                                                                        Slot.v (AVal.at (Value.int IntKind.i64 n9)) false,
                                                                                                                                        Slot.v
                                                                                                                                          (AVal.at
                                                                                                                                            (Value.int IntKind.i64 (IntKind.i64.wrap (n10 + (1 : Int)))))
                                                                                                                                          false]
                                                                                                                                      [none, none, some { cells := cs_3 }, none, none, none, none, none,
                                                                                                                                        none, none]
                                                                                                                                      (RVal.sg sg'))
                                                                                                                                else none
                                                                                                                            else none
                                                                                                                        else none
                                                                                                                      else
                                                                                                                        if (0 : Int) ≤ n2 ∧ n2 < (↑(8 : Nat) : Int) then
                                                                                                                          withI IntKind.i64 cs[(0 : Nat) + n2.toNat * (1 : Nat)]? fun (n : Int) =>
                                                                                                                            if (0 : Int) ≤ n3 ∧ n3 < (↑(8 : Nat) : Int) then
                                                                                                                              withI IntKind.i64 cs[(0 : Nat) + n3.toNat * (1 : Nat)]? fun (n_6 : Int) =>
                                                                                                                                if (l6.length + (1 : Nat)) * (8 : Nat) ≤ (35184372088832 : Nat) then
                                                                                                                                  k Ex.normal
                                                                                                                                    (mkS
                                                                                                                                      [(0 : Nat), (1 : Nat), (11 : Nat), (13 : Nat), (14 : Nat), (15 : Nat),
                                                                                                                                        (16 : Nat), (51 : Nat), (52 : Nat), (53 : Nat)]
                                                                                                                                      [Slot.v (AVal.at (Value.int IntKind.i64 n0)) false,
                                                                                                                                        Slot.v (AVal.at (Value.int IntKind.i64 n1)) false,
                                                                                                                                        Slot.lp (11 : Nat) (0 : Nat),
                                                                                                                                        Slot.v (AVal.at (Value.int IntKind.i64 n2)) false,
                                                                                                                                        Slot.v (AVal.at (Value.int IntKind.i64 n3)) false,
                                                                                                                                        Slot.v
                                                                                                                                          (AVal.at
                                                                                                                                            (Value.int IntKind.i64
                                                                                                                                              (bif true then
                                                                                                                                                max2
                                                                                                                                                  (bif true then
                                                                                                                                                    max2 n4 (bif false then max2 n n1 else min2 n n1)
                                                                                                                                                  else min2 n4 (bif false then max2 n n1 else min2 n n1))
                                                                                                                                                  (bif false then max2 n_6 n1 else min2 n_6 n1)
                                                                                                                                              else
                                                                                                                                                min2
                                                                                                                                                  (bif true then
                                                                                                                                                    max2 n4 (bif false then max2 n n1 else min2 n n1)
                                                                                                                                                  else min2 n4 (bif false then max2 n n1 else min2 n n1))
                                                                                                                                                  (bif false then max2 n_6 n1 else min2 n_6 n1))))
                                                                                                                                          false,
                                                                                                                                        Slot.v
                                                                                                                                          (AVal.sl false (1 : Nat)
                                                                                                                                            (l6 ++ [AVal.at (Value.int IntKind.i64 n_5)]))
                                                                                                                                          true,
                                                                                                                                        Slot.v (AVal.sl b7 (8 : Nat) l8) false,
                                                                                                                                        Slot.v (AVal.at (Value.int IntKind.i64 n9)) false,
                                                                                                                                        Slot.v
                                                                                                                                          (AVal.at
                                                                                                                                            (Value.int IntKind.i64 (IntKind.i64.wrap (n10 + (1 : Int)))))
                                                                                                                                          false]
                                                                                                                                      [none, none, some { cells := cs_3 }, none, none, none, none, none,
                                                                                                                                        none, none]
                                                                                                                                      (RVal.sg sg'))
                                                                                                                                else none
                                                                                                                            else none
                                                                                                                        else none
                                                                                                                    else
                                                                                                                      if (0 : Int) ≤ n2 ∧ n2 < (↑(8 : Nat) : Int) then
                                                                                                                        withI IntKind.i64 cs[(0 : Nat) + n2.toNat * (1 : Nat)]? fun (n : Int) =>
                                                                                                                          if (0 : Int) ≤ n3 ∧ n3 < (↑(8 : Nat) : Int) then
                                                                                                                            withI IntKind.i64 cs[(0 : Nat) + n3.toNat * (1 : Nat)]? fun (n_6 : Int) =>
                                                                                                                              if (l6.length + (1 : Nat)) * (8 : Nat) ≤ (35184372088832 : Nat) then
                                                                                                                                k Ex.normal
                                                                                                                                  (mkS
                                                                                                                                    [(0 : Nat), (1 : Nat), (11 : Nat), (13 : Nat), (14 : Nat), (15 : Nat),
                                                                                                                                      (16 : Nat), (51 : Nat), (52 : Nat), (53 : Nat)]
                                                                                                                                    [Slot.v (AVal.at (Value.int IntKind.i64 n0)) false,
                                                                                                                                      Slot.v (AVal.at (Value.int IntKind.i64 n1)) false,
                                                                                                                                      Slot.lp (11 : Nat) (0 : Nat),
                                                                                                                                      Slot.v (AVal.at (Value.int IntKind.i64 n2)) false,
                                                                                                                                      Slot.v (AVal.at (Value.int IntKind.i64 n3)) false,
                                                                                                                                      Slot.v
                                                                                                                                        (AVal.at
                                                                                                                                          (Value.int IntKind.i64
                                                                                                                                            (bif true then
                                                                                                                                              max2
                                                                                                                                                (bif true then
                                                                                                                                                  max2
                                                                                                                                                    (bif true then
                                                                                                                                                      max2 n4 (bif false then max2 n_4 n1 else min2 n_4 n1)
                                                                                                                                                    else
                                                                                                                                                      min2 n4 (bif false then max2 n_4 n1 else min2 n_4 n1))
                                                                                                                                                    (bif false then max2 n n1 else min2 n n1)
                                                                                                                                                else
                                                                                                                                                  min2
                                                                                                                                                    (bif true then
                                                                                                                                                      max2 n4 (bif false then max2 n_4 n1 else min2 n_4 n1)
                                                                                                                                                    else
                                                                                                                                                      min2 n4 (bif false then max2 n_4 n1 else min2 n_4 n1))
                                                                                                                                                    (bif false then max2 n n1 else min2 n n1))
                                                                                                                                                (bif false then max2 n_6 n1 else min2 n_6 n1)
                                                                                                                                            else
                                                                                                                                              min2
                                                                                                                                                (bif true then
                                                                                                                                                  max2
                                                                                                                                                    (bif true then
                                                                                                                                                      max2 n4 (bif false then max2 n_4 n1 else min2 n_4 n1)
                                                                                                                                                    else
                                                                                                                                                      min2 n4 (bif false then max2 n_4 n1 else min2 n_4 n1))
                                                                                                                                                    (bif false then max2 n n1 else min2 n n1)
                                                                                                                                                else
                                                                                                                                                  min2
                                                                                                                                                    (bif true then
                                                                                                                                                      max2 n4 (bif false then max2 n_4 n1 else min2 n_4 n1)
                                                                                                                                                    else
                                                                                                                                                      min2 n4 (bif false then max2 n_4 n1 else min2 n_4 n1))
                                                                                                                                                    (bif false then max2 n n1 else min2 n n1))
                                                                                                                                                (bif false then max2 n_6 n1 else min2 n_6 n1))))
                                                                                                                                        false,
                                                                                                                                      Slot.v
                                                                                                                                        (AVal.sl false (1 : Nat)
                                                                                                                                          (l6 ++ [AVal.at (Value.int IntKind.i64 n_5)]))
                                                                                                                                        true,
                                                                                                                                      Slot.v (AVal.sl b7 (8 : Nat) l8) false,
                                                                                                                                      Slot.v (AVal.at (Value.int IntKind.i64 n9)) false,
                                                                                                                                      Slot.v
                                                                                                                                        (AVal.at
                                                                                                                                          (Value.int IntKind.i64 (IntKind.i64.wrap (n10 + (1 : Int)))))
                                                                                                                                        false]
                                                                                                                                    [none, none, some { cells := cs_3 }, none, none, none, none, none, none,
                                                                                                                                      none]
                                                                                                                                    (RVal.sg sg'))
                                                                                                                              else none
                                                                                                                          else none
                                                                                                                      else none
                                                                                                            else none
                                                                                                        else none
                                                                                                    else none
                                                                                                else none
                                                                                              else none
                                                                                          else none)
                                                                                    fun (v : AVal) (sg' : Sg) => some (Out.pan v sg')
                                                                              else none
                                                                            else k Ex.ret (mkS [(10 : Nat)] [Slot.v (AVal.at (Value.bool false)) false] [none] (RVal.sg sg'))
                                                                        else none
                                                                      else k Ex.ret (mkS [(10 : Nat)] [Slot.v (AVal.at (Value.bool false)) false] [none] (RVal.sg sg'))
                                                                    else k Ex.ret (mkS [(10 : Nat)] [Slot.v (AVal.at (Value.bool false)) false] [none] (RVal.sg sg'))
                                                                  else k Ex.ret (mkS [(10 : Nat)] [Slot.v (AVal.at (Value.bool false)) false] [none] (RVal.sg sg'))
                                                              else none
                                                      else none)
                                                  fun (v : AVal) (sg' : Sg) => some (Out.pan v sg')
                                            else none
                                        else none
                                    else none
                                  else none
                              else none
                            else none
                        else none
                    else none
                else none
            else none
          else none
      else none
    else
      k (Ex.exit (0 : Nat))
        (mkS [(1 : Nat), (15 : Nat), (16 : Nat)] [Slot.v (AVal.at (Value.int IntKind.i64 n1)) false, Slot.v (AVal.at (Value.int IntKind.i64 n4)) false, Slot.v (AVal.sl b5 (1 : Nat) l6) true]
          [none, none, none] (RVal.sg sg12)) := by kernel_rfl
theorem law26_DrrFair.k0_1 (C : CallF) (N : Nat) (b0 : Bool) (sg1 : Sg) :
    law26_DrrFair.K0 C N Ex.ret (mkS [(10 : Nat)] [Slot.v (AVal.at (Value.bool b0)) false] [none] (RVal.sg sg1)) =
    some (Out.ret (AVal.at (Value.bool b0)) sg1) := by kernel_rfl
theorem law26_DrrFair.k0_2 (C : CallF) (N : Nat) (n0 : Int) (n1 : Int) (b2 : Bool) (l3 : List AVal) (sg4 : Sg) :
    law26_DrrFair.K0 C N (Ex.exit (0 : Nat))
      (mkS [(1 : Nat), (15 : Nat), (16 : Nat)] [Slot.v (AVal.at (Value.int IntKind.i64 n0)) false, Slot.v (AVal.at (Value.int IntKind.i64 n1)) false, Slot.v (AVal.sl b2 (1 : Nat) l3) true]
        [none, none, none] (RVal.sg sg4)) =
    iter (law26_DrrFair.R1 C N) N
      (mkS [(1 : Nat), (15 : Nat), (16 : Nat), (151 : Nat), (152 : Nat)]
        [Slot.v (AVal.at (Value.int IntKind.i64 n0)) false, Slot.v (AVal.at (Value.int IntKind.i64 n1)) false, Slot.v (AVal.sl b2 (1 : Nat) l3) true,
          Slot.v (AVal.at (Value.int IntKind.i64 (↑l3.length : Int))) false, Slot.v (AVal.at (Value.int IntKind.i64 (0 : Int))) false]
        [none, none, none, none, none] (RVal.sg sg4))
      (law26_DrrFair.K1 C N) := by kernel_rfl
theorem law26_DrrFair.r1 (C : CallF) (N : Nat) (n0 : Int) (n1 : Int) (b2 : Bool) (l3 : List AVal) (n4 : Int) (n5 : Int) (sg6 : Sg) (k : Ex → St → R) :
    law26_DrrFair.R1 C N
      (mkS [(1 : Nat), (15 : Nat), (16 : Nat), (151 : Nat), (152 : Nat)]
        [Slot.v (AVal.at (Value.int IntKind.i64 n0)) false, Slot.v (AVal.at (Value.int IntKind.i64 n1)) false, Slot.v (AVal.sl b2 (1 : Nat) l3) true, Slot.v (AVal.at (Value.int IntKind.i64 n4)) false,
          Slot.v (AVal.at (Value.int IntKind.i64 n5)) false]
        [none, none, none, none, none] (RVal.sg sg6))
      k =
    if decide (n5 < n4) = true then
      if (0 : Int) ≤ (0 : Int) ∧ (0 : Int) ≤ n5 ∧ n5 ≤ (↑l3.length : Int) then
        iter (law26_DrrFair.R2 C N) N
          (mkS [(1 : Nat), (15 : Nat), (16 : Nat), (24 : Nat), (151 : Nat), (152 : Nat), (158 : Nat), (159 : Nat)]
            [Slot.v (AVal.at (Value.int IntKind.i64 n0)) false, Slot.v (AVal.at (Value.int IntKind.i64 n1)) false, Slot.v (AVal.sl b2 (1 : Nat) l3) true, Slot.v (AVal.at (Value.int IntKind.i64 n5)) false,
              Slot.v (AVal.at (Value.int IntKind.i64 n4)) false, Slot.v (AVal.at (Value.int IntKind.i64 n5)) false,
              Slot.v (AVal.at (Value.int IntKind.i64 (↑(List.take (n5.toNat - Int.toNat (0 : Int)) (List.drop (Int.toNat (0 : Int)) l3)).length : Int))) false,
              Slot.v (AVal.at (Value.int IntKind.i64 (0 : Int))) false]
            [none, none, none, none, none, none, none, none] (RVal.sg sg6))
          (law26_DrrFair.K2 C N k)
      else none
    else k (Ex.exit (2 : Nat)) (mkS [] [] [] (RVal.sg sg6)) := by kernel_rfl
theorem law26_DrrFair.k1_1 (C : CallF) (N : Nat) (sg0 : Sg) :
    law26_DrrFair.K1 C N (Ex.exit (2 : Nat)) (mkS [] [] [] (RVal.sg sg0)) =
    some (Out.ret (AVal.at (Value.bool true)) sg0) := by kernel_rfl
theorem law26_DrrFair.r2 (C : CallF) (N : Nat) (n0 : Int) (n1 : Int) (b2 : Bool) (l3 : List AVal) (n4 : Int) (n5 : Int) (n6 : Int) (n7 : Int) (n8 : Int) (sg9 : Sg) (k : Ex → St → R) :
    law26_DrrFair.R2 C N
      (mkS [(1 : Nat), (15 : Nat), (16 : Nat), (24 : Nat), (151 : Nat), (152 : Nat), (158 : Nat), (159 : Nat)]
        [Slot.v (AVal.at (Value.int IntKind.i64 n0)) false, Slot.v (AVal.at (Value.int IntKind.i64 n1)) false, Slot.v (AVal.sl b2 (1 : Nat) l3) true, Slot.v (AVal.at (Value.int IntKind.i64 n4)) false,
          Slot.v (AVal.at (Value.int IntKind.i64 n5)) false, Slot.v (AVal.at (Value.int IntKind.i64 n6)) false, Slot.v (AVal.at (Value.int IntKind.i64 n7)) false,
          Slot.v (AVal.at (Value.int IntKind.i64 n8)) false]
        [none, none, none, none, none, none, none, none] (RVal.sg sg9))
      k =
    if decide (n8 < n7) = true then
      if (0 : Int) ≤ n4 then
        withA l3[n4.toNat]? fun (a : AVal) =>
          bif
              (match a with
                    | AVal.agg cs => cs
                    | v => [v]).length.beq
                (1 : Nat) then
            withI IntKind.i64
              (match a with
                | AVal.agg cs => cs
                | v => [v])[(0 : Nat)]?
              fun (n : Int) =>
              if (0 : Int) ≤ n8 then
                withA l3[n8.toNat]? fun (a : AVal) =>
                  bif
                      (match a with
                            | AVal.agg cs => cs
                            | v => [v]).length.beq
                        (1 : Nat) then
                    withI IntKind.i64
                      (match a with
                        | AVal.agg cs => cs
                        | v => [v])[(0 : Nat)]?
                      fun (n_1 : Int) =>
                      if decide (IntKind.i64.wrap (n - n_1) ≥ IntKind.i64.wrap (n0 + IntKind.i64.wrap ((2 : Int) * n1))) = true then
                        if decide (n1 > (0 : Int)) = false then
                          if decide (IntKind.i64.wrap ((0 : Int) - IntKind.i64.wrap (n - n_1)) ≥ IntKind.i64.wrap (n0 + IntKind.i64.wrap ((2 : Int) * n1))) = true then
                            if decide (n1 > (0 : Int)) = true then k Ex.ret (mkS [(10 : Nat)] [Slot.v (AVal.at (Value.bool false)) false] [none] (RVal.sg sg9))
                            else
                              k Ex.normal
                                (mkS [(1 : Nat), (15 : Nat), (16 : Nat), (24 : Nat), (151 : Nat), (152 : Nat), (158 : Nat), (159 : Nat)]
                                  [Slot.v (AVal.at (Value.int IntKind.i64 n0)) false, Slot.v (AVal.at (Value.int IntKind.i64 n1)) false, Slot.v (AVal.sl b2 (1 : Nat) l3) true,
                                    Slot.v (AVal.at (Value.int IntKind.i64 n4)) false, Slot.v (AVal.at (Value.int IntKind.i64 n5)) false, Slot.v (AVal.at (Value.int IntKind.i64 n6)) false,
                                    Slot.v (AVal.at (Value.int IntKind.i64 n7)) false, Slot.v (AVal.at (Value.int IntKind.i64 (IntKind.i64.wrap (n8 + (1 : Int))))) false]
                                  [none, none, none, none, none, none, none, none] (RVal.sg sg9))
                          else
                            k Ex.normal
                              (mkS [(1 : Nat), (15 : Nat), (16 : Nat), (24 : Nat), (151 : Nat), (152 : Nat), (158 : Nat), (159 : Nat)]
                                [Slot.v (AVal.at (Value.int IntKind.i64 n0)) false, Slot.v (AVal.at (Value.int IntKind.i64 n1)) false, Slot.v (AVal.sl b2 (1 : Nat) l3) true,
                                  Slot.v (AVal.at (Value.int IntKind.i64 n4)) false, Slot.v (AVal.at (Value.int IntKind.i64 n5)) false, Slot.v (AVal.at (Value.int IntKind.i64 n6)) false,
                                  Slot.v (AVal.at (Value.int IntKind.i64 n7)) false, Slot.v (AVal.at (Value.int IntKind.i64 (IntKind.i64.wrap (n8 + (1 : Int))))) false]
                                [none, none, none, none, none, none, none, none] (RVal.sg sg9))
                        else k Ex.ret (mkS [(10 : Nat)] [Slot.v (AVal.at (Value.bool false)) false] [none] (RVal.sg sg9))
                      else
                        if decide (IntKind.i64.wrap ((0 : Int) - IntKind.i64.wrap (n - n_1)) ≥ IntKind.i64.wrap (n0 + IntKind.i64.wrap ((2 : Int) * n1))) = true then
                          if decide (n1 > (0 : Int)) = true then k Ex.ret (mkS [(10 : Nat)] [Slot.v (AVal.at (Value.bool false)) false] [none] (RVal.sg sg9))
                          else
                            k Ex.normal
                              (mkS [(1 : Nat), (15 : Nat), (16 : Nat), (24 : Nat), (151 : Nat), (152 : Nat), (158 : Nat), (159 : Nat)]
                                [Slot.v (AVal.at (Value.int IntKind.i64 n0)) false, Slot.v (AVal.at (Value.int IntKind.i64 n1)) false, Slot.v (AVal.sl b2 (1 : Nat) l3) true,
                                  Slot.v (AVal.at (Value.int IntKind.i64 n4)) false, Slot.v (AVal.at (Value.int IntKind.i64 n5)) false, Slot.v (AVal.at (Value.int IntKind.i64 n6)) false,
                                  Slot.v (AVal.at (Value.int IntKind.i64 n7)) false, Slot.v (AVal.at (Value.int IntKind.i64 (IntKind.i64.wrap (n8 + (1 : Int))))) false]
                                [none, none, none, none, none, none, none, none] (RVal.sg sg9))
                        else
                          k Ex.normal
                            (mkS [(1 : Nat), (15 : Nat), (16 : Nat), (24 : Nat), (151 : Nat), (152 : Nat), (158 : Nat), (159 : Nat)]
                              [Slot.v (AVal.at (Value.int IntKind.i64 n0)) false, Slot.v (AVal.at (Value.int IntKind.i64 n1)) false, Slot.v (AVal.sl b2 (1 : Nat) l3) true,
                                Slot.v (AVal.at (Value.int IntKind.i64 n4)) false, Slot.v (AVal.at (Value.int IntKind.i64 n5)) false, Slot.v (AVal.at (Value.int IntKind.i64 n6)) false,
                                Slot.v (AVal.at (Value.int IntKind.i64 n7)) false, Slot.v (AVal.at (Value.int IntKind.i64 (IntKind.i64.wrap (n8 + (1 : Int))))) false]
                              [none, none, none, none, none, none, none, none] (RVal.sg sg9))
                  else none
              else none
          else none
      else none
    else
      k (Ex.exit (4 : Nat))
        (mkS [(1 : Nat), (15 : Nat), (16 : Nat), (151 : Nat), (152 : Nat)]
          [Slot.v (AVal.at (Value.int IntKind.i64 n0)) false, Slot.v (AVal.at (Value.int IntKind.i64 n1)) false, Slot.v (AVal.sl b2 (1 : Nat) l3) true, Slot.v (AVal.at (Value.int IntKind.i64 n5)) false,
            Slot.v (AVal.at (Value.int IntKind.i64 n6)) false]
          [none, none, none, none, none] (RVal.sg sg9)) := by kernel_rfl
theorem law26_DrrFair.k2_1 (C : CallF) (N : Nat) (b0 : Bool) (sg1 : Sg) (k : Ex → St → R) :
    law26_DrrFair.K2 C N k Ex.ret (mkS [(10 : Nat)] [Slot.v (AVal.at (Value.bool b0)) false] [none] (RVal.sg sg1)) =
    k Ex.ret (mkS [(10 : Nat)] [Slot.v (AVal.at (Value.bool b0)) false] [none] (RVal.sg sg1)) := by kernel_rfl
-- way out beyond the holder: Ex.ret
theorem law26_DrrFair.k2_2 (C : CallF) (N : Nat) (n0 : Int) (n1 : Int) (b2 : Bool) (l3 : List AVal) (n4 : Int) (n5 : Int) (sg6 : Sg) (k : Ex → St → R) :
    law26_DrrFair.K2 C N k (Ex.exit (4 : Nat))
      (mkS [(1 : Nat), (15 : Nat), (16 : Nat), (151 : Nat), (152 : Nat)]
        [Slot.v (AVal.at (Value.int IntKind.i64 n0)) false, Slot.v (AVal.at (Value.int IntKind.i64 n1)) false, Slot.v (AVal.sl b2 (1 : Nat) l3) true, Slot.v (AVal.at (Value.int IntKind.i64 n4)) false,
          Slot.v (AVal.at (Value.int IntKind.i64 n5)) false]
        [none, none, none, none, none] (RVal.sg sg6)) =
    k Ex.normal
      (mkS [(1 : Nat), (15 : Nat), (16 : Nat), (151 : Nat), (152 : Nat)]
        [Slot.v (AVal.at (Value.int IntKind.i64 n0)) false, Slot.v (AVal.at (Value.int IntKind.i64 n1)) false, Slot.v (AVal.sl b2 (1 : Nat) l3) true, Slot.v (AVal.at (Value.int IntKind.i64 n4)) false,
          Slot.v (AVal.at (Value.int IntKind.i64 (IntKind.i64.wrap (n5 + (1 : Int))))) false]
        [none, none, none, none, none] (RVal.sg sg6)) := by kernel_rfl
-- holder goes on


end Go.Abs
