/- THE RESIDUALS: what each function's evaluation comes to, by the kernel. Printed by a program of my own. -/
import Derived.Test.YtafmbianlodemaaCodeDrr
import Derived.KernelRfl
namespace Go.Abs
set_option linter.unusedVariables false
set_option linter.unusedSimpArgs false
set_option linter.unusedSectionVars false
set_option maxRecDepth 100000
/-! 5 wharfage/wharfagelaw26.DrrNobody -/
theorem law26_DrrNobody.main (C : CallF) (N : Nat) (l0 : List AVal) (b1 : Bool) (l2 : List AVal) (n3 : Int) (sg4 : Sg) :
    evalF C N law26_DrrNobody.a [AVal.agg l0, AVal.sl b1 (8 : Nat) l2, AVal.at (Value.int IntKind.u8 n3)] sg4 =
    withOut (C (14 : Nat) [] sg4)
      (fun (v : AVal) (sg' : Sg) =>
        withB (some v) fun (b : Bool) =>
          if (!b) = true then some (Out.ret (AVal.at (Value.bool false)) sg')
          else
            bif Nat.ble (11 : Nat) l0.length then
              bindL (List.take (11 : Nat) l0) fun (l : List AVal) =>
                withOut (C (13 : Nat) [AVal.agg l] sg')
                  (fun (v : AVal) (sg' : Sg) =>
                    withB (some v) fun (b : Bool) =>
                      if (!b) = false then
                        withI IntKind.i64 l0[(1 : Nat)]? fun (n : Int) =>
                          if decide (n > (6 : Int)) = false then
                            if ((↑l2.length : Int) == (0 : Int)) = true then some (Out.ret (AVal.at (Value.bool true)) sg')
                            else
                              bif Nat.ble (11 : Nat) l0.length then
                                bindL (List.take (11 : Nat) l0) fun (l : List AVal) =>
                                  withOut (C (10 : Nat) [AVal.agg l] sg')
                                    (fun (v : AVal) (sg' : Sg) =>
                                      withG (some v) fun (cs : List AVal) =>
                                        bif cs.length.beq (11 : Nat) then
                                          bindL
                                            (splice
                                              [AVal.at (Value.int IntKind.i64 (0 : Int)), AVal.at (Value.int IntKind.i64 (0 : Int)), AVal.at (Value.int IntKind.i64 (0 : Int)),
                                                AVal.at (Value.int IntKind.i64 (0 : Int)), AVal.at (Value.int IntKind.i64 (0 : Int)), AVal.at (Value.int IntKind.i64 (0 : Int)),
                                                AVal.at (Value.int IntKind.i64 (0 : Int)), AVal.at (Value.int IntKind.i64 (0 : Int)), AVal.at (Value.int IntKind.i64 (0 : Int)),
                                                AVal.at (Value.int IntKind.i64 (0 : Int)), AVal.at (Value.int IntKind.i64 (0 : Int))]
                                              (0 : Nat) cs)
                                            fun (cs : List AVal) =>
                                            withI IntKind.i64 l0[(0 : Nat)]? fun (n : Int) =>
                                              if n = (0 : Int) then none
                                              else
                                                withI IntKind.i64 l0[(0 : Nat)]? fun (n_1 : Int) =>
                                                  withI IntKind.i64 l0[(1 : Nat)]? fun (n_2 : Int) =>
                                                    iter (law26_DrrNobody.R0 C N) N
                                                      (mkS [(1 : Nat), (3 : Nat), (7 : Nat), (8 : Nat), (42 : Nat), (43 : Nat)]
                                                        [Slot.v (AVal.sl b1 (8 : Nat) l2) false, Slot.lp (3 : Nat) (0 : Nat), Slot.lp (7 : Nat) (0 : Nat),
                                                          Slot.v (AVal.at (Value.int IntKind.i64 ((IntKind.i64.wrap n3).tmod n))) false,
                                                          Slot.v (AVal.at (Value.int IntKind.i64 (IntKind.i64.wrap (IntKind.i64.wrap (IntKind.i64.wrap (n_1 * (2 : Int)) * n_2) + (1 : Int))))) false,
                                                          Slot.v (AVal.at (Value.int IntKind.i64 (0 : Int))) false]
                                                        [none, some { cells := l0 }, some { cells := cs }, none, none, none] (RVal.sg sg'))
                                                      (law26_DrrNobody.K0 C N)
                                        else none)
                                    fun (v : AVal) (sg' : Sg) => some (Out.pan v sg')
                              else none
                          else some (Out.ret (AVal.at (Value.bool true)) sg')
                      else some (Out.ret (AVal.at (Value.bool true)) sg'))
                  fun (v : AVal) (sg' : Sg) => some (Out.pan v sg')
            else none)
      fun (v : AVal) (sg' : Sg) => some (Out.pan v sg') := by kernel_rfl
theorem law26_DrrNobody.r0 (C : CallF) (N : Nat) (b0 : Bool) (l1 : List AVal) (n2 : Int) (n3 : Int) (n4 : Int) (l5 : List AVal) (l6 : List AVal) (sg7 : Sg) (k : Ex → St → R) :
    law26_DrrNobody.R0 C N
      (mkS [(1 : Nat), (3 : Nat), (7 : Nat), (8 : Nat), (42 : Nat), (43 : Nat)]
        [Slot.v (AVal.sl b0 (8 : Nat) l1) false, Slot.lp (3 : Nat) (0 : Nat), Slot.lp (7 : Nat) (0 : Nat), Slot.v (AVal.at (Value.int IntKind.i64 n2)) false,
          Slot.v (AVal.at (Value.int IntKind.i64 n3)) false, Slot.v (AVal.at (Value.int IntKind.i64 n4)) false]
        [none, some { cells := l5 }, some { cells := l6 }, none, none, none] (RVal.sg sg7))
      k =
    if decide (n4 < n3) = true then
      if (↑l1.length : Int) = (0 : Int) then none
      else
        if (0 : Int) ≤ n4.tmod (↑l1.length : Int) then
          withA l1[(n4.tmod (↑l1.length : Int)).toNat]? fun (a : AVal) =>
            bif
                (match a with
                      | AVal.agg cs => cs
                      | v => [v]).length.beq
                  (8 : Nat) then
              bif
                  Nat.ble (8 : Nat)
                    (match a with
                      | AVal.agg cs => cs
                      | v => [v]).length then
                bindL
                  (List.take (8 : Nat)
                    (List.drop (0 : Nat)
                      (match a with
                      | AVal.agg cs => cs
                      | v => [v])))
                  fun (l : List AVal) =>
                  bif l.length.beq (8 : Nat) then
                    bindL
                      (splice
                        [AVal.at (Value.int IntKind.i64 (0 : Int)), AVal.at (Value.int IntKind.i64 (0 : Int)), AVal.at (Value.int IntKind.i64 (0 : Int)), AVal.at (Value.int IntKind.i64 (0 : Int)),
                          AVal.at (Value.int IntKind.i64 (0 : Int)), AVal.at (Value.int IntKind.i64 (0 : Int)), AVal.at (Value.int IntKind.i64 (0 : Int)), AVal.at (Value.int IntKind.i64 (0 : Int))]
                        (0 : Nat) l)
                      fun (cs : List AVal) =>
                      if (0 : Int) ≤ n2 ∧ n2 < (↑(8 : Nat) : Int) then
                        withI IntKind.i64 cs[(0 : Nat) + n2.toNat * (1 : Nat)]? fun (n : Int) =>
                          if (0 : Int) ≤ n2 ∧ n2 < (↑(8 : Nat) : Int) then
                            bif ((0 : Nat) + n2.toNat * (1 : Nat) + (1 : Nat)).ble cs.length then
                              bindL (splice cs ((0 : Nat) + n2.toNat * (1 : Nat)) [AVal.at (Value.int IntKind.i64 (bif true then max2 n (1 : Int) else min2 n (1 : Int)))]) fun (cs : List AVal) =>
                                bif Nat.ble (11 : Nat) l6.length then
                                  bindL (List.take (11 : Nat) l6) fun (l : List AVal) =>
                                    bif Nat.ble (8 : Nat) cs.length then
                                      bindL (List.take (8 : Nat) cs) fun (l_1 : List AVal) =>
                                        withOut (C (9 : Nat) [AVal.agg l, AVal.agg l_1] sg7)
                                          (fun (v : AVal) (sg' : Sg) =>
                                            withT v fun (vs : List AVal) =>
                                              bif vs.length.beq (3 : Nat) then
                                                withG vs[(0 : Nat)]? fun (cs_1 : List AVal) =>
                                                  withI IntKind.i64 vs[(1 : Nat)]? fun (n : Int) =>
                                                    withB vs[(2 : Nat)]? fun (b : Bool) =>
                                                      bif cs_1.length.beq (11 : Nat) then
                                                        bindL
                                                          (splice
                                                            [AVal.at (Value.int IntKind.i64 (0 : Int)), AVal.at (Value.int IntKind.i64 (0 : Int)), AVal.at (Value.int IntKind.i64 (0 : Int)),
                                                              AVal.at (Value.int IntKind.i64 (0 : Int)), AVal.at (Value.int IntKind.i64 (0 : Int)), AVal.at (Value.int IntKind.i64 (0 : Int)),
                                                              AVal.at (Value.int IntKind.i64 (0 : Int)), AVal.at (Value.int IntKind.i64 (0 : Int)), AVal.at (Value.int IntKind.i64 (0 : Int)),
                                                              AVal.at (Value.int IntKind.i64 (0 : Int)), AVal.at (Value.int IntKind.i64 (0 : Int))]
                                                            (0 : Nat) cs_1)
                                                          fun (cs_2 : List AVal) =>
                                                          if (!b) = false then
                                                            if decide (n < (0 : Int)) = false then
                                                              withI IntKind.i64 l5[(0 : Nat)]? fun (n_1 : Int) =>
                                                                if decide (n ≥ n_1) = false then
                                                                  if (0 : Int) ≤ n ∧ n < (↑(8 : Nat) : Int) then
                                                                    withI IntKind.i64 cs[(0 : Nat) + n.toNat * (1 : Nat)]? fun (n_2 : Int) =>
                                                                      if decide (n_2 < (1 : Int)) = true then k Ex.ret (mkS [(6 : Nat)] [Slot.v (AVal.at (Value.bool false)) false] [none] (RVal.sg sg'))
                                                                      else
                                                                        if (n == n2) = true then k Ex.ret (mkS [(6 : Nat)] [Slot.v (AVal.at (Value.bool true)) false] [none] (RVal.sg sg'))
                                                                        else
                                                                          bif Nat.ble (11 : Nat) cs_2.length then
                                                                            bindL (List.take (11 : Nat) cs_2) fun (l : List AVal) =>
                                                                              bif l.length.beq (11 : Nat) then
                                                                                bif Nat.ble (11 : Nat) l6.length then
                                                                                  bindL (splice l6 (0 : Nat) l) fun (cs : List AVal) =>
                                                                                    k Ex.normal
                                                                                      (mkS [(1 : Nat), (3 : Nat), (7 : Nat), (8 : Nat), (42 : Nat), (43 : Nat)]
                                                                                        [Slot.v (AVal.sl b0 (8 : Nat) l1) false, Slot.lp (3 : Nat) (0 : Nat), Slot.lp (7 : Nat) (0 : Nat),
                                                                                          Slot.v (AVal.at (Value.int IntKind.i64 n2)) false, Slot.v (AVal.at (Value.int IntKind.i64 n3)) false,
                                                                                          Slot.v (AVal.at (Value.int IntKind.i64 (IntKind.i64.wrap (n4 + (1 : Int))))) false]
                                                                                        [none, some { cells := l5 }, some { cells := cs }, none, none, none] (RVal.sg sg'))
                                                                                else none
                                                                              else none
                                                                          else none
                                                                  else none
                                                                else k Ex.ret (mkS [(6 : Nat)] [Slot.v (AVal.at (Value.bool false)) false] [none] (RVal.sg sg'))
                                                            else k Ex.ret (mkS [(6 : Nat)] [Slot.v (AVal.at (Value.bool false)) false] [none] (RVal.sg sg'))
                                                          else k Ex.ret (mkS [(6 : Nat)] [Slot.v (AVal.at (Value.bool false)) false] [none] (RVal.sg sg'))
                                                      else none
                                              else none)
                                          fun (v : AVal) (sg' : Sg) => some (Out.pan v sg')
                                    else none
                                else none
                            else none
                          else none
                      else none
                  else none
              else none
            else none
        else none
    else k (Ex.exit (0 : Nat)) (mkS [] [] [] (RVal.sg sg7)) := by kernel_rfl
theorem law26_DrrNobody.k0_1 (C : CallF) (N : Nat) (b0 : Bool) (sg1 : Sg) :
    law26_DrrNobody.K0 C N Ex.ret (mkS [(6 : Nat)] [Slot.v (AVal.at (Value.bool b0)) false] [none] (RVal.sg sg1)) =
    some (Out.ret (AVal.at (Value.bool b0)) sg1) := by kernel_rfl
theorem law26_DrrNobody.k0_2 (C : CallF) (N : Nat) (sg0 : Sg) :
    law26_DrrNobody.K0 C N (Ex.exit (0 : Nat)) (mkS [] [] [] (RVal.sg sg0)) =
    some (Out.ret (AVal.at (Value.bool false)) sg0) := by kernel_rfl


/-! 9 wharfage/drr.Next -/
theorem drr_Next.main (C : CallF) (N : Nat) (l0 : List AVal) (l1 : List AVal) (sg2 : Sg) :
    evalF C N drr_Next.a [AVal.agg l0, AVal.agg l1] sg2 =
    bif Nat.ble (11 : Nat) l0.length then
      bindL (List.take (11 : Nat) l0) fun (l : List AVal) =>
        withOut (C (15 : Nat) [AVal.agg l] sg2)
          (fun (v : AVal) (sg' : Sg) =>
            withI IntKind.i64 (some v) fun (n : Int) =>
              if (n != (0 : Int)) = true then
                bif Nat.ble (11 : Nat) l0.length then
                  bindL (List.take (11 : Nat) l0) fun (l : List AVal) =>
                    bif l.length.beq (11 : Nat) then
                      bindL
                        (splice
                          [AVal.at (Value.int IntKind.i64 (0 : Int)), AVal.at (Value.int IntKind.i64 (0 : Int)), AVal.at (Value.int IntKind.i64 (0 : Int)), AVal.at (Value.int IntKind.i64 (0 : Int)),
                            AVal.at (Value.int IntKind.i64 (0 : Int)), AVal.at (Value.int IntKind.i64 (0 : Int)), AVal.at (Value.int IntKind.i64 (0 : Int)), AVal.at (Value.int IntKind.i64 (0 : Int)),
                            AVal.at (Value.int IntKind.i64 (0 : Int)), AVal.at (Value.int IntKind.i64 (0 : Int)), AVal.at (Value.int IntKind.i64 (0 : Int))]
                          (0 : Nat) l)
                        fun (cs : List AVal) =>
                        bif Nat.ble (11 : Nat) cs.length then
                          bindL (List.take (11 : Nat) cs) fun (l : List AVal) => some (Out.ret (AVal.tup [AVal.agg l, AVal.at (Value.int IntKind.i64 (0 : Int)), AVal.at (Value.bool false)]) sg')
                        else none
                    else none
                else none
              else
                bif Nat.ble (11 : Nat) l0.length then
                  bindL (List.take (11 : Nat) l0) fun (l : List AVal) =>
                    bif Nat.ble (8 : Nat) l1.length then
                      bindL (List.take (8 : Nat) l1) fun (l_1 : List AVal) =>
                        withOut (C (32 : Nat) [AVal.agg l, AVal.agg l_1] sg')
                          (fun (v : AVal) (sg' : Sg) =>
                            withB (some v) fun (b : Bool) =>
                              if (!b) = true then
                                bif Nat.ble (11 : Nat) l0.length then
                                  bindL
                                    (splice l0 (3 : Nat)
                                      [AVal.at (Value.int IntKind.i64 (0 : Int)), AVal.at (Value.int IntKind.i64 (0 : Int)), AVal.at (Value.int IntKind.i64 (0 : Int)),
                                        AVal.at (Value.int IntKind.i64 (0 : Int)), AVal.at (Value.int IntKind.i64 (0 : Int)), AVal.at (Value.int IntKind.i64 (0 : Int)),
                                        AVal.at (Value.int IntKind.i64 (0 : Int)), AVal.at (Value.int IntKind.i64 (0 : Int))])
                                    fun (cs : List AVal) =>
                                    bif Nat.ble (11 : Nat) cs.length then
                                      bindL (List.take (11 : Nat) cs) fun (l : List AVal) =>
                                        bif l.length.beq (11 : Nat) then
                                          bindL
                                            (splice
                                              [AVal.at (Value.int IntKind.i64 (0 : Int)), AVal.at (Value.int IntKind.i64 (0 : Int)), AVal.at (Value.int IntKind.i64 (0 : Int)),
                                                AVal.at (Value.int IntKind.i64 (0 : Int)), AVal.at (Value.int IntKind.i64 (0 : Int)), AVal.at (Value.int IntKind.i64 (0 : Int)),
                                                AVal.at (Value.int IntKind.i64 (0 : Int)), AVal.at (Value.int IntKind.i64 (0 : Int)), AVal.at (Value.int IntKind.i64 (0 : Int)),
                                                AVal.at (Value.int IntKind.i64 (0 : Int)), AVal.at (Value.int IntKind.i64 (0 : Int))]
                                              (0 : Nat) l)
                                            fun (cs : List AVal) =>
                                            bif Nat.ble (11 : Nat) cs.length then
                                              bindL (List.take (11 : Nat) cs) fun (l : List AVal) =>
                                                some (Out.ret (AVal.tup [AVal.agg l, AVal.at (Value.int IntKind.i64 (0 : Int)), AVal.at (Value.bool false)]) sg')
                                            else none
                                        else none
                                    else none
                                else none
                              else
                                iter (drr_Next.R0 C N) N
                                  (mkS [(2 : Nat), (3 : Nat), (4 : Nat)] [Slot.lp (2 : Nat) (0 : Nat), Slot.lp (3 : Nat) (0 : Nat), Slot.lp (4 : Nat) (0 : Nat)]
                                    [some { cells := l0 }, some { cells := l1 },
                                      some
                                        {
                                          cells :=
                                            [AVal.at (Value.int IntKind.i64 (0 : Int)), AVal.at (Value.int IntKind.i64 (0 : Int)), AVal.at (Value.int IntKind.i64 (0 : Int)),
                                              AVal.at (Value.int IntKind.i64 (0 : Int)), AVal.at (Value.int IntKind.i64 (0 : Int)), AVal.at (Value.int IntKind.i64 (0 : Int)),
                                              AVal.at (Value.int IntKind.i64 (0 : Int)), AVal.at (Value.int IntKind.i64 (0 : Int)), AVal.at (Value.int IntKind.i64 (0 : Int)),
                                              AVal.at (Value.int IntKind.i64 (0 : Int)), AVal.at (Value.int IntKind.i64 (0 : Int))] }]
                                    (RVal.sg sg'))
                                  (drr_Next.K0 C N))
                          fun (v : AVal) (sg' : Sg) => some (Out.pan v sg')
                    else none
                else none)
          fun (v : AVal) (sg' : Sg) => some (Out.pan v sg')
    else none := by kernel_rfl
theorem drr_Next.r0 (C : CallF) (N : Nat) (l0 : List AVal) (l1 : List AVal) (n2 : Int) (n3 : Int) (n4 : Int) (n5 : Int) (n6 : Int) (n7 : Int) (n8 : Int) (n9 : Int) (n10 : Int) (n11 : Int) (n12 : Int) (sg13 : Sg) (k : Ex → St → R) :
    drr_Next.R0 C N
      (mkS [(2 : Nat), (3 : Nat), (4 : Nat)] [Slot.lp (2 : Nat) (0 : Nat), Slot.lp (3 : Nat) (0 : Nat), Slot.lp (4 : Nat) (0 : Nat)]
        [some { cells := l0 }, some { cells := l1 },
          some
            {
              cells :=
                [AVal.at (Value.int IntKind.i64 n2), AVal.at (Value.int IntKind.i64 n3), AVal.at (Value.int IntKind.i64 n4), AVal.at (Value.int IntKind.i64 n5), AVal.at (Value.int IntKind.i64 n6),
                  AVal.at (Value.int IntKind.i64 n7), AVal.at (Value.int IntKind.i64 n8), AVal.at (Value.int IntKind.i64 n9), AVal.at (Value.int IntKind.i64 n10), AVal.at (Value.int IntKind.i64 n11),
                  AVal.at (Value.int IntKind.i64 n12)] }]
        (RVal.sg sg13))
      k =
    bif Nat.ble (11 : Nat) l0.length then
      bindL (List.take (11 : Nat) l0) fun (l : List AVal) =>
        bif Nat.ble (8 : Nat) l1.length then
          bindL (List.take (8 : Nat) l1) fun (l_1 : List AVal) =>
            withI IntKind.i64 l0[(2 : Nat)]? fun (n : Int) =>
              withOut (C (33 : Nat) [AVal.agg l, AVal.agg l_1, AVal.at (Value.int IntKind.i64 n)] sg13)
                (fun (v : AVal) (sg' : Sg) =>
                  withI IntKind.i64 (some v) fun (n : Int) =>
                    if (n == (0 : Int)) = true then
                      withI IntKind.i64 l0[(2 : Nat)]? fun (n : Int) =>
                        if (0 : Int) ≤ n ∧ n < (↑(8 : Nat) : Int) then
                          bif ((3 : Nat) + n.toNat * (1 : Nat) + (1 : Nat)).ble l0.length then
                            bindL (splice l0 ((3 : Nat) + n.toNat * (1 : Nat)) [AVal.at (Value.int IntKind.i64 (0 : Int))]) fun (cs : List AVal) =>
                              bif Nat.ble (11 : Nat) cs.length then
                                bindL (List.take (11 : Nat) cs) fun (l : List AVal) =>
                                  bif Nat.ble (8 : Nat) l1.length then
                                    bindL (List.take (8 : Nat) l1) fun (l_2 : List AVal) =>
                                      withOut (C (34 : Nat) [AVal.agg l, AVal.agg l_2] sg')
                                        (fun (v : AVal) (sg' : Sg) =>
                                          withG (some v) fun (cs_1 : List AVal) =>
                                            bif cs_1.length.beq (11 : Nat) then
                                              bif Nat.ble (11 : Nat) cs.length then
                                                bindL (splice cs (0 : Nat) cs_1) fun (cs : List AVal) =>
                                                  k Ex.normal
                                                    (mkS [(2 : Nat), (3 : Nat), (4 : Nat)] [Slot.lp (2 : Nat) (0 : Nat), Slot.lp (3 : Nat) (0 : Nat), Slot.lp (4 : Nat) (0 : Nat)]
                                                      [some { cells := cs }, some { cells := l1 },
                                                        some
                                                          {
                                                            cells :=
                                                              [AVal.at (Value.int IntKind.i64 n2), AVal.at (Value.int IntKind.i64 n3), AVal.at (Value.int IntKind.i64 n4),
                                                                AVal.at (Value.int IntKind.i64 n5), AVal.at (Value.int IntKind.i64 n6), AVal.at (Value.int IntKind.i64 n7),
                                                                AVal.at (Value.int IntKind.i64 n8), AVal.at (Value.int IntKind.i64 n9), AVal.at (Value.int IntKind.i64 n10),
                                                                AVal.at (Value.int IntKind.i64 n11), AVal.at (Value.int IntKind.i64 n12)] }]
                                                      (RVal.sg sg'))
                                              else none
                                            else none)
                                        fun (v : AVal) (sg' : Sg) => some (Out.pan v sg')
                                  else none
                              else none
                          else none
                        else none
                    else
                      withI IntKind.i64 l0[(2 : Nat)]? fun (n_1 : Int) =>
                        if (0 : Int) ≤ n_1 ∧ n_1 < (↑(8 : Nat) : Int) then
                          withI IntKind.i64 l0[(3 : Nat) + n_1.toNat * (1 : Nat)]? fun (n_2 : Int) =>
                            if decide (n ≤ n_2) = true then
                              withI IntKind.i64 l0[(2 : Nat)]? fun (n_3 : Int) =>
                                if (0 : Int) ≤ n_3 ∧ n_3 < (↑(8 : Nat) : Int) then
                                  withI IntKind.i64 l0[(3 : Nat) + n_3.toNat * (1 : Nat)]? fun (n_4 : Int) =>
                                    if (0 : Int) ≤ n_3 ∧ n_3 < (↑(8 : Nat) : Int) then
                                      bif ((3 : Nat) + n_3.toNat * (1 : Nat) + (1 : Nat)).ble l0.length then
                                        bindL (splice l0 ((3 : Nat) + n_3.toNat * (1 : Nat)) [AVal.at (Value.int IntKind.i64 (IntKind.i64.wrap (n_4 - n)))]) fun (cs : List AVal) =>
                                          bif Nat.ble (11 : Nat) cs.length then
                                            bindL (List.take (11 : Nat) cs) fun (l : List AVal) =>
                                              withI IntKind.i64 cs[(2 : Nat)]? fun (n : Int) =>
                                                bif l.length.beq (11 : Nat) then
                                                  bindL
                                                    (splice
                                                      [AVal.at (Value.int IntKind.i64 n2), AVal.at (Value.int IntKind.i64 n3), AVal.at (Value.int IntKind.i64 n4), AVal.at (Value.int IntKind.i64 n5),
                                                        AVal.at (Value.int IntKind.i64 n6), AVal.at (Value.int IntKind.i64 n7), AVal.at (Value.int IntKind.i64 n8), AVal.at (Value.int IntKind.i64 n9),
                                                        AVal.at (Value.int IntKind.i64 n10), AVal.at (Value.int IntKind.i64 n11), AVal.at (Value.int IntKind.i64 n12)]
                                                      (0 : Nat) l)
                                                    fun (cs : List AVal) =>
                                                    k Ex.ret
                                                      (mkS [(4 : Nat), (5 : Nat), (6 : Nat)]
                                                        [Slot.lp (4 : Nat) (0 : Nat), Slot.v (AVal.at (Value.int IntKind.i64 n)) false, Slot.v (AVal.at (Value.bool true)) false]
                                                        [some { cells := cs }, none, none] (RVal.sg sg'))
                                                else none
                                          else none
                                      else none
                                    else none
                                else none
                            else
                              bif Nat.ble (11 : Nat) l0.length then
                                bindL (List.take (11 : Nat) l0) fun (l : List AVal) =>
                                  bif Nat.ble (8 : Nat) l1.length then
                                    bindL (List.take (8 : Nat) l1) fun (l_2 : List AVal) =>
                                      withOut (C (34 : Nat) [AVal.agg l, AVal.agg l_2] sg')
                                        (fun (v : AVal) (sg' : Sg) =>
                                          withG (some v) fun (cs : List AVal) =>
                                            bif cs.length.beq (11 : Nat) then
                                              bif Nat.ble (11 : Nat) l0.length then
                                                bindL (splice l0 (0 : Nat) cs) fun (cs : List AVal) =>
                                                  k Ex.normal
                                                    (mkS [(2 : Nat), (3 : Nat), (4 : Nat)] [Slot.lp (2 : Nat) (0 : Nat), Slot.lp (3 : Nat) (0 : Nat), Slot.lp (4 : Nat) (0 : Nat)]
                                                      [some { cells := cs }, some { cells := l1 },
                                                        some
                                                          {
                                                            cells :=
                                                              [AVal.at (Value.int IntKind.i64 n2), AVal.at (Value.int IntKind.i64 n3), AVal.at (Value.int IntKind.i64 n4),
                                                                AVal.at (Value.int IntKind.i64 n5), AVal.at (Value.int IntKind.i64 n6), AVal.at (Value.int IntKind.i64 n7),
                                                                AVal.at (Value.int IntKind.i64 n8), AVal.at (Value.int IntKind.i64 n9), AVal.at (Value.int IntKind.i64 n10),
                                                                AVal.at (Value.int IntKind.i64 n11), AVal.at (Value.int IntKind.i64 n12)] }]
                                                      (RVal.sg sg'))
                                              else none
                                            else none)
                                        fun (v : AVal) (sg' : Sg) => some (Out.pan v sg')
                                  else none
                              else none
                        else none)
                fun (v : AVal) (sg' : Sg) => some (Out.pan v sg')
        else none
    else none := by kernel_rfl
theorem drr_Next.k0_1 (C : CallF) (N : Nat) (n0 : Int) (b1 : Bool) (l2 : List AVal) (sg3 : Sg) :
    drr_Next.K0 C N Ex.ret
      (mkS [(4 : Nat), (5 : Nat), (6 : Nat)] [Slot.lp (4 : Nat) (0 : Nat), Slot.v (AVal.at (Value.int IntKind.i64 n0)) false, Slot.v (AVal.at (Value.bool b1)) false] [some { cells := l2 }, none, none]
        (RVal.sg sg3)) =
    bif Nat.ble (11 : Nat) l2.length then bindL (List.take (11 : Nat) l2) fun (l : List AVal) => some (Out.ret (AVal.tup [AVal.agg l, AVal.at (Value.int IntKind.i64 n0), AVal.at (Value.bool b1)]) sg3)
    else none := by kernel_rfl


/-! 10 wharfage/wharfagelaw26.ours -/
theorem law26_ours.main (C : CallF) (N : Nat) (l0 : List AVal) (sg1 : Sg) :
    evalF C N law26_ours.a [AVal.agg l0] sg1 =
    withI IntKind.i64 l0[(0 : Nat)]? fun (n : Int) =>
      withI IntKind.i64 l0[(1 : Nat)]? fun (n_1 : Int) =>
        withI IntKind.i64 l0[(2 : Nat)]? fun (n_2 : Int) =>
          bif Nat.ble (11 : Nat) l0.length then
            bindL (List.take (8 : Nat) (List.drop (3 : Nat) l0)) fun (l : List AVal) =>
              bif l.length.beq (8 : Nat) then
                bindL
                  (AVal.at (Value.int IntKind.i64 n) ::
                    AVal.at (Value.int IntKind.i64 n_1) ::
                      AVal.at (Value.int IntKind.i64 n_2) ::
                        (l ++
                          List.drop ((3 : Nat) + l.length)
                            [AVal.at (Value.int IntKind.i64 n), AVal.at (Value.int IntKind.i64 n_1), AVal.at (Value.int IntKind.i64 n_2), AVal.at (Value.int IntKind.i64 (0 : Int)),
                              AVal.at (Value.int IntKind.i64 (0 : Int)), AVal.at (Value.int IntKind.i64 (0 : Int)), AVal.at (Value.int IntKind.i64 (0 : Int)), AVal.at (Value.int IntKind.i64 (0 : Int)),
                              AVal.at (Value.int IntKind.i64 (0 : Int)), AVal.at (Value.int IntKind.i64 (0 : Int)), AVal.at (Value.int IntKind.i64 (0 : Int))]))
                  fun (cs : List AVal) =>
                  bif cs.length.beq (11 : Nat) then
                    bindL
                      (splice
                        [AVal.at (Value.int IntKind.i64 (0 : Int)), AVal.at (Value.int IntKind.i64 (0 : Int)), AVal.at (Value.int IntKind.i64 (0 : Int)), AVal.at (Value.int IntKind.i64 (0 : Int)),
                          AVal.at (Value.int IntKind.i64 (0 : Int)), AVal.at (Value.int IntKind.i64 (0 : Int)), AVal.at (Value.int IntKind.i64 (0 : Int)), AVal.at (Value.int IntKind.i64 (0 : Int)),
                          AVal.at (Value.int IntKind.i64 (0 : Int)), AVal.at (Value.int IntKind.i64 (0 : Int)), AVal.at (Value.int IntKind.i64 (0 : Int))]
                        (0 : Nat) cs)
                      fun (cs : List AVal) => bif Nat.ble (11 : Nat) cs.length then bindL (List.take (11 : Nat) cs) fun (l : List AVal) => some (Out.ret (AVal.agg l) sg1) else none
                  else none
              else none
          else none := by kernel_rfl


/-! 11 wharfage/wharfageref26.Next -/
theorem ref26_Next.main (C : CallF) (N : Nat) (l0 : List AVal) (l1 : List AVal) (sg2 : Sg) :
    evalF C N ref26_Next.a [AVal.agg l0, AVal.agg l1] sg2 =
    bif Nat.ble (11 : Nat) l0.length then
      bindL (List.take (11 : Nat) l0) fun (l : List AVal) =>
        withOut (C (13 : Nat) [AVal.agg l] sg2)
          (fun (v : AVal) (sg' : Sg) =>
            withB (some v) fun (b : Bool) =>
              if (!b) = true then
                bif Nat.ble (11 : Nat) l0.length then
                  bindL (List.take (11 : Nat) l0) fun (l : List AVal) =>
                    bif l.length.beq (11 : Nat) then
                      bindL
                        (splice
                          [AVal.at (Value.int IntKind.i64 (0 : Int)), AVal.at (Value.int IntKind.i64 (0 : Int)), AVal.at (Value.int IntKind.i64 (0 : Int)), AVal.at (Value.int IntKind.i64 (0 : Int)),
                            AVal.at (Value.int IntKind.i64 (0 : Int)), AVal.at (Value.int IntKind.i64 (0 : Int)), AVal.at (Value.int IntKind.i64 (0 : Int)), AVal.at (Value.int IntKind.i64 (0 : Int)),
                            AVal.at (Value.int IntKind.i64 (0 : Int)), AVal.at (Value.int IntKind.i64 (0 : Int)), AVal.at (Value.int IntKind.i64 (0 : Int))]
                          (0 : Nat) l)
                        fun (cs : List AVal) =>
                        bif Nat.ble (11 : Nat) cs.length then
                          bindL (List.take (11 : Nat) cs) fun (l : List AVal) => some (Out.ret (AVal.tup [AVal.agg l, AVal.at (Value.int IntKind.i64 (0 : Int)), AVal.at (Value.bool false)]) sg')
                        else none
                    else none
                else none
              else
                iter (ref26_Next.R0 C N) N
                  (mkS [(2 : Nat), (3 : Nat), (4 : Nat), (7 : Nat), (8 : Nat)]
                    [Slot.lp (2 : Nat) (0 : Nat), Slot.lp (3 : Nat) (0 : Nat), Slot.lp (4 : Nat) (0 : Nat), Slot.v (AVal.at (Value.bool false)) false,
                      Slot.v (AVal.at (Value.int IntKind.i64 (0 : Int))) false]
                    [some { cells := l0 }, some { cells := l1 },
                      some
                        {
                          cells :=
                            [AVal.at (Value.int IntKind.i64 (0 : Int)), AVal.at (Value.int IntKind.i64 (0 : Int)), AVal.at (Value.int IntKind.i64 (0 : Int)), AVal.at (Value.int IntKind.i64 (0 : Int)),
                              AVal.at (Value.int IntKind.i64 (0 : Int)), AVal.at (Value.int IntKind.i64 (0 : Int)), AVal.at (Value.int IntKind.i64 (0 : Int)), AVal.at (Value.int IntKind.i64 (0 : Int)),
                              AVal.at (Value.int IntKind.i64 (0 : Int)), AVal.at (Value.int IntKind.i64 (0 : Int)), AVal.at (Value.int IntKind.i64 (0 : Int))] },
                      none, none]
                    (RVal.sg sg'))
                  (ref26_Next.K0 C N))
          fun (v : AVal) (sg' : Sg) => some (Out.pan v sg')
    else none := by kernel_rfl
theorem ref26_Next.r0 (C : CallF) (N : Nat) (b0 : Bool) (n1 : Int) (l2 : List AVal) (l3 : List AVal) (n4 : Int) (n5 : Int) (n6 : Int) (n7 : Int) (n8 : Int) (n9 : Int) (n10 : Int) (n11 : Int) (n12 : Int) (n13 : Int) (n14 : Int) (sg15 : Sg) (k : Ex → St → R) :
    ref26_Next.R0 C N
      (mkS [(2 : Nat), (3 : Nat), (4 : Nat), (7 : Nat), (8 : Nat)]
        [Slot.lp (2 : Nat) (0 : Nat), Slot.lp (3 : Nat) (0 : Nat), Slot.lp (4 : Nat) (0 : Nat), Slot.v (AVal.at (Value.bool b0)) false, Slot.v (AVal.at (Value.int IntKind.i64 n1)) false]
        [some { cells := l2 }, some { cells := l3 },
          some
            {
              cells :=
                [AVal.at (Value.int IntKind.i64 n4), AVal.at (Value.int IntKind.i64 n5), AVal.at (Value.int IntKind.i64 n6), AVal.at (Value.int IntKind.i64 n7), AVal.at (Value.int IntKind.i64 n8),
                  AVal.at (Value.int IntKind.i64 n9), AVal.at (Value.int IntKind.i64 n10), AVal.at (Value.int IntKind.i64 n11), AVal.at (Value.int IntKind.i64 n12), AVal.at (Value.int IntKind.i64 n13),
                  AVal.at (Value.int IntKind.i64 n14)] },
          none, none]
        (RVal.sg sg15))
      k =
    withI IntKind.i64 l2[(0 : Nat)]? fun (n : Int) =>
      if decide (n1 < n) = true then
        if b0 = false then
          if (0 : Int) ≤ n1 ∧ n1 < (↑(8 : Nat) : Int) then
            withI IntKind.i64 l3[(0 : Nat) + n1.toNat * (1 : Nat)]? fun (n : Int) =>
              k Ex.normal
                (mkS [(2 : Nat), (3 : Nat), (4 : Nat), (7 : Nat), (8 : Nat)]
                  [Slot.lp (2 : Nat) (0 : Nat), Slot.lp (3 : Nat) (0 : Nat), Slot.lp (4 : Nat) (0 : Nat), Slot.v (AVal.at (Value.bool (decide (n > (0 : Int))))) false,
                    Slot.v (AVal.at (Value.int IntKind.i64 (IntKind.i64.wrap (n1 + (1 : Int))))) false]
                  [some { cells := l2 }, some { cells := l3 },
                    some
                      {
                        cells :=
                          [AVal.at (Value.int IntKind.i64 n4), AVal.at (Value.int IntKind.i64 n5), AVal.at (Value.int IntKind.i64 n6), AVal.at (Value.int IntKind.i64 n7),
                            AVal.at (Value.int IntKind.i64 n8), AVal.at (Value.int IntKind.i64 n9), AVal.at (Value.int IntKind.i64 n10), AVal.at (Value.int IntKind.i64 n11),
                            AVal.at (Value.int IntKind.i64 n12), AVal.at (Value.int IntKind.i64 n13), AVal.at (Value.int IntKind.i64 n14)] },
                    none, none]
                  (RVal.sg sg15))
          else none
        else
          k Ex.normal
            (mkS [(2 : Nat), (3 : Nat), (4 : Nat), (7 : Nat), (8 : Nat)]
              [Slot.lp (2 : Nat) (0 : Nat), Slot.lp (3 : Nat) (0 : Nat), Slot.lp (4 : Nat) (0 : Nat), Slot.v (AVal.at (Value.bool true)) false,
                Slot.v (AVal.at (Value.int IntKind.i64 (IntKind.i64.wrap (n1 + (1 : Int))))) false]
              [some { cells := l2 }, some { cells := l3 },
                some
                  {
                    cells :=
                      [AVal.at (Value.int IntKind.i64 n4), AVal.at (Value.int IntKind.i64 n5), AVal.at (Value.int IntKind.i64 n6), AVal.at (Value.int IntKind.i64 n7), AVal.at (Value.int IntKind.i64 n8),
                        AVal.at (Value.int IntKind.i64 n9), AVal.at (Value.int IntKind.i64 n10), AVal.at (Value.int IntKind.i64 n11), AVal.at (Value.int IntKind.i64 n12),
                        AVal.at (Value.int IntKind.i64 n13), AVal.at (Value.int IntKind.i64 n14)] },
                none, none]
              (RVal.sg sg15))
      else
        k (Ex.exit (0 : Nat))
          (mkS [(2 : Nat), (3 : Nat), (4 : Nat), (7 : Nat)] [Slot.lp (2 : Nat) (0 : Nat), Slot.lp (3 : Nat) (0 : Nat), Slot.lp (4 : Nat) (0 : Nat), Slot.v (AVal.at (Value.bool b0)) false]
            [some { cells := l2 }, some { cells := l3 },
              some
                {
                  cells :=
                    [AVal.at (Value.int IntKind.i64 n4), AVal.at (Value.int IntKind.i64 n5), AVal.at (Value.int IntKind.i64 n6), AVal.at (Value.int IntKind.i64 n7), AVal.at (Value.int IntKind.i64 n8),
                      AVal.at (Value.int IntKind.i64 n9), AVal.at (Value.int IntKind.i64 n10), AVal.at (Value.int IntKind.i64 n11), AVal.at (Value.int IntKind.i64 n12),
                      AVal.at (Value.int IntKind.i64 n13), AVal.at (Value.int IntKind.i64 n14)] },
              none]
            (RVal.sg sg15)) := by kernel_rfl
theorem ref26_Next.k0_1 (C : CallF) (N : Nat) (b0 : Bool) (l1 : List AVal) (l2 : List AVal) (n3 : Int) (n4 : Int) (n5 : Int) (n6 : Int) (n7 : Int) (n8 : Int) (n9 : Int) (n10 : Int) (n11 : Int) (n12 : Int) (n13 : Int) (sg14 : Sg) :
    ref26_Next.K0 C N (Ex.exit (0 : Nat))
      (mkS [(2 : Nat), (3 : Nat), (4 : Nat), (7 : Nat)] [Slot.lp (2 : Nat) (0 : Nat), Slot.lp (3 : Nat) (0 : Nat), Slot.lp (4 : Nat) (0 : Nat), Slot.v (AVal.at (Value.bool b0)) false]
        [some { cells := l1 }, some { cells := l2 },
          some
            {
              cells :=
                [AVal.at (Value.int IntKind.i64 n3), AVal.at (Value.int IntKind.i64 n4), AVal.at (Value.int IntKind.i64 n5), AVal.at (Value.int IntKind.i64 n6), AVal.at (Value.int IntKind.i64 n7),
                  AVal.at (Value.int IntKind.i64 n8), AVal.at (Value.int IntKind.i64 n9), AVal.at (Value.int IntKind.i64 n10), AVal.at (Value.int IntKind.i64 n11), AVal.at (Value.int IntKind.i64 n12),
                  AVal.at (Value.int IntKind.i64 n13)] },
          none]
        (RVal.sg sg14)) =
    if (!b0) = true then
      iter (ref26_Next.R1 C N) N
        (mkS [(2 : Nat), (4 : Nat), (9 : Nat)] [Slot.lp (2 : Nat) (0 : Nat), Slot.lp (4 : Nat) (0 : Nat), Slot.v (AVal.at (Value.int IntKind.i64 (0 : Int))) false]
          [some { cells := l1 },
            some
              {
                cells :=
                  [AVal.at (Value.int IntKind.i64 n3), AVal.at (Value.int IntKind.i64 n4), AVal.at (Value.int IntKind.i64 n5), AVal.at (Value.int IntKind.i64 n6), AVal.at (Value.int IntKind.i64 n7),
                    AVal.at (Value.int IntKind.i64 n8), AVal.at (Value.int IntKind.i64 n9), AVal.at (Value.int IntKind.i64 n10), AVal.at (Value.int IntKind.i64 n11), AVal.at (Value.int IntKind.i64 n12),
                    AVal.at (Value.int IntKind.i64 n13)] },
            none]
          (RVal.sg sg14))
        (ref26_Next.K1 C N)
    else
      iter (ref26_Next.R2 C N) N
        (mkS [(2 : Nat), (3 : Nat), (4 : Nat)] [Slot.lp (2 : Nat) (0 : Nat), Slot.lp (3 : Nat) (0 : Nat), Slot.lp (4 : Nat) (0 : Nat)]
          [some { cells := l1 }, some { cells := l2 },
            some
              {
                cells :=
                  [AVal.at (Value.int IntKind.i64 n3), AVal.at (Value.int IntKind.i64 n4), AVal.at (Value.int IntKind.i64 n5), AVal.at (Value.int IntKind.i64 n6), AVal.at (Value.int IntKind.i64 n7),
                    AVal.at (Value.int IntKind.i64 n8), AVal.at (Value.int IntKind.i64 n9), AVal.at (Value.int IntKind.i64 n10), AVal.at (Value.int IntKind.i64 n11), AVal.at (Value.int IntKind.i64 n12),
                    AVal.at (Value.int IntKind.i64 n13)] }]
          (RVal.sg sg14))
        (ref26_Next.K2 C N) := by kernel_rfl
theorem ref26_Next.r2 (C : CallF) (N : Nat) (l0 : List AVal) (l1 : List AVal) (n2 : Int) (n3 : Int) (n4 : Int) (n5 : Int) (n6 : Int) (n7 : Int) (n8 : Int) (n9 : Int) (n10 : Int) (n11 : Int) (n12 : Int) (sg13 : Sg) (k : Ex → St → R) :
    ref26_Next.R2 C N
      (mkS [(2 : Nat), (3 : Nat), (4 : Nat)] [Slot.lp (2 : Nat) (0 : Nat), Slot.lp (3 : Nat) (0 : Nat), Slot.lp (4 : Nat) (0 : Nat)]
        [some { cells := l0 }, some { cells := l1 },
          some
            {
              cells :=
                [AVal.at (Value.int IntKind.i64 n2), AVal.at (Value.int IntKind.i64 n3), AVal.at (Value.int IntKind.i64 n4), AVal.at (Value.int IntKind.i64 n5), AVal.at (Value.int IntKind.i64 n6),
                  AVal.at (Value.int IntKind.i64 n7), AVal.at (Value.int IntKind.i64 n8), AVal.at (Value.int IntKind.i64 n9), AVal.at (Value.int IntKind.i64 n10), AVal.at (Value.int IntKind.i64 n11),
                  AVal.at (Value.int IntKind.i64 n12)] }]
        (RVal.sg sg13))
      k =
    withI IntKind.i64 l0[(1 : Nat)]? fun (n : Int) =>
      withI IntKind.i64 l0[(2 : Nat)]? fun (n_1 : Int) =>
        if (0 : Int) ≤ n_1 ∧ n_1 < (↑(8 : Nat) : Int) then
          withI IntKind.i64 l1[(0 : Nat) + n_1.toNat * (1 : Nat)]? fun (n_2 : Int) =>
            withOut (C (35 : Nat) [AVal.at (Value.int IntKind.i64 n), AVal.at (Value.int IntKind.i64 n_2)] sg13)
              (fun (v : AVal) (sg' : Sg) =>
                withI IntKind.i64 (some v) fun (n : Int) =>
                  if (n == (0 : Int)) = true then
                    withI IntKind.i64 l0[(2 : Nat)]? fun (n_3 : Int) =>
                      if (0 : Int) ≤ n_3 ∧ n_3 < (↑(8 : Nat) : Int) then
                        bif ((3 : Nat) + n_3.toNat * (1 : Nat) + (1 : Nat)).ble l0.length then
                          bindL (splice l0 ((3 : Nat) + n_3.toNat * (1 : Nat)) [AVal.at (Value.int IntKind.i64 (0 : Int))]) fun (cs : List AVal) =>
                            if decide (n > (0 : Int)) = true then
                              withI IntKind.i64 cs[(2 : Nat)]? fun (n_4 : Int) =>
                                if (0 : Int) ≤ n_4 ∧ n_4 < (↑(8 : Nat) : Int) then
                                  withI IntKind.i64 cs[(3 : Nat) + n_4.toNat * (1 : Nat)]? fun (n_5 : Int) =>
                                    if decide (n_5 ≥ n) = true then
                                      withI IntKind.i64 cs[(2 : Nat)]? fun (n_6 : Int) =>
                                        withI IntKind.i64 cs[(2 : Nat)]? fun (n_7 : Int) =>
                                          if (0 : Int) ≤ n_7 ∧ n_7 < (↑(8 : Nat) : Int) then
                                            withI IntKind.i64 cs[(3 : Nat) + n_7.toNat * (1 : Nat)]? fun (n_8 : Int) =>
                                              if (0 : Int) ≤ n_6 ∧ n_6 < (↑(8 : Nat) : Int) then
                                                bif ((3 : Nat) + n_6.toNat * (1 : Nat) + (1 : Nat)).ble cs.length then
                                                  bindL (splice cs ((3 : Nat) + n_6.toNat * (1 : Nat)) [AVal.at (Value.int IntKind.i64 (IntKind.i64.wrap (n_8 - n)))]) fun (cs : List AVal) =>
                                                    bif Nat.ble (11 : Nat) cs.length then
                                                      bindL (List.take (11 : Nat) cs) fun (l : List AVal) =>
                                                        withI IntKind.i64 cs[(2 : Nat)]? fun (n : Int) =>
                                                          bif l.length.beq (11 : Nat) then
                                                            bindL
                                                              (splice
                                                                [AVal.at (Value.int IntKind.i64 n2), AVal.at (Value.int IntKind.i64 n3), AVal.at (Value.int IntKind.i64 n4),
                                                                  AVal.at (Value.int IntKind.i64 n5), AVal.at (Value.int IntKind.i64 n6), AVal.at (Value.int IntKind.i64 n7),
                                                                  AVal.at (Value.int IntKind.i64 n8), AVal.at (Value.int IntKind.i64 n9), AVal.at (Value.int IntKind.i64 n10),
                                                                  AVal.at (Value.int IntKind.i64 n11), AVal.at (Value.int IntKind.i64 n12)]
                                                                (0 : Nat) l)
                                                              fun (cs : List AVal) =>
                                                              k Ex.ret
                                                                (mkS [(4 : Nat), (5 : Nat), (6 : Nat)]
                                                                  [Slot.lp (4 : Nat) (0 : Nat), Slot.v (AVal.at (Value.int IntKind.i64 n)) false, Slot.v (AVal.at (Value.bool true)) false]
                                                                  [some { cells := cs }, none, none] (RVal.sg sg'))
                                                          else none
                                                    else none
                                                else none
                                              else none
                                          else none
                                    else
                                      withI IntKind.i64 cs[(2 : Nat)]? fun (n : Int) =>
                                        bif Nat.ble (3 : Nat) cs.length then
                                          bindL (splice cs (2 : Nat) [AVal.at (Value.int IntKind.i64 (IntKind.i64.wrap (n + (1 : Int))))]) fun (cs : List AVal) =>
                                            withI IntKind.i64 cs[(2 : Nat)]? fun (n : Int) =>
                                              withI IntKind.i64 cs[(0 : Nat)]? fun (n_6 : Int) =>
                                                if (n == n_6) = true then
                                                  bif Nat.ble (3 : Nat) cs.length then
                                                    bindL (splice cs (2 : Nat) [AVal.at (Value.int IntKind.i64 (0 : Int))]) fun (cs : List AVal) =>
                                                      withI IntKind.i64 cs[(2 : Nat)]? fun (n : Int) =>
                                                        if (0 : Int) ≤ n ∧ n < (↑(8 : Nat) : Int) then
                                                          withI IntKind.i64 l1[(0 : Nat) + n.toNat * (1 : Nat)]? fun (n : Int) =>
                                                            if decide (n > (0 : Int)) = true then
                                                              withI IntKind.i64 cs[(2 : Nat)]? fun (n : Int) =>
                                                                withI IntKind.i64 cs[(2 : Nat)]? fun (n_7 : Int) =>
                                                                  if (0 : Int) ≤ n_7 ∧ n_7 < (↑(8 : Nat) : Int) then
                                                                    withI IntKind.i64 cs[(3 : Nat) + n_7.toNat * (1 : Nat)]? fun (n_8 : Int) =>
                                                                      withI IntKind.i64 cs[(1 : Nat)]? fun (n_9 : Int) =>
                                                                        if (0 : Int) ≤ n ∧ n < (↑(8 : Nat) : Int) then
                                                                          bif ((3 : Nat) + n.toNat * (1 : Nat) + (1 : Nat)).ble cs.length then
                                                                            bindL (splice cs ((3 : Nat) + n.toNat * (1 : Nat)) [AVal.at (Value.int IntKind.i64 (IntKind.i64.wrap (n_8 + n_9)))])
                                                                              fun (cs : List AVal) =>
                                                                              k Ex.normal
                                                                                (mkS [(2 : Nat), (3 : Nat), (4 : Nat)]
                                                                                  [Slot.lp (2 : Nat) (0 : Nat), Slot.lp (3 : Nat) (0 : Nat), Slot.lp (4 : Nat) (0 : Nat)]
                                                                                  [some { cells := cs }, some { cells := l1 },
                                                                                    some
                                                                                      {
                                                                                        cells :=
                                                                                          [AVal.at (Value.int IntKind.i64 n2), AVal.at (Value.int IntKind.i64 n3), AVal.at (Value.int IntKind.i64 n4),
                                                                                            AVal.at (Value.int IntKind.i64 n5), AVal.at (Value.int IntKind.i64 n6), AVal.at (Value.int IntKind.i64 n7),
                                                                                            AVal.at (Value.int IntKind.i64 n8), AVal.at (Value.int IntKind.i64 n9), AVal.at (Value.int IntKind.i64 n10),
                                                                                            AVal.at (Value.int IntKind.i64 n11), AVal.at (Value.int IntKind.i64 n12)] }]
                                                                                  (RVal.sg sg'))
                                                                          else none
                                                                        else none
                                                                  else none
                                                            else
                                                              k Ex.normal
                                                                (mkS [(2 : Nat), (3 : Nat), (4 : Nat)] [Slot.lp (2 : Nat) (0 : Nat), Slot.lp (3 : Nat) (0 : Nat), Slot.lp (4 : Nat) (0 : Nat)]
                                                                  [some { cells := cs }, some { cells := l1 },
                                                                    some
                                                                      {
                                                                        cells :=
                                                                          [AVal.at (Value.int IntKind.i64 n2), AVal.at (Value.int IntKind.i64 n3), AVal.at (Value.int IntKind.i64 n4),
                                                                            AVal.at (Value.int IntKind.i64 n5), AVal.at (Value.int IntKind.i64 n6), AVal.at (Value.int IntKind.i64 n7),
                                                                            AVal.at (Value.int IntKind.i64 n8), AVal.at (Value.int IntKind.i64 n9), AVal.at (Value.int IntKind.i64 n10),
                                                                            AVal.at (Value.int IntKind.i64 n11), AVal.at (Value.int IntKind.i64 n12)] }]
                                                                  (RVal.sg sg'))
                                                        else none
                                                  else none
                                                else
                                                  withI IntKind.i64 cs[(2 : Nat)]? fun (n : Int) =>
                                                    if (0 : Int) ≤ n ∧ n < (↑(8 : Nat) : Int) then
                                                      withI IntKind.i64 l1[(0 : Nat) + n.toNat * (1 : Nat)]? fun (n : Int) =>
                                                        if decide (n > (0 : Int)) = true then
                                                          withI IntKind.i64 cs[(2 : Nat)]? fun (n : Int) =>
                                                            withI IntKind.i64 cs[(2 : Nat)]? fun (n_7 : Int) =>
                                                              if (0 : Int) ≤ n_7 ∧ n_7 < (↑(8 : Nat) : Int) then
                                                                withI IntKind.i64 cs[(3 : Nat) + n_7.toNat * (1 : Nat)]? fun (n_8 : Int) =>
                                                                  withI IntKind.i64 cs[(1 : Nat)]? fun (n_9 : Int) =>
                                                                    if (0 : Int) ≤ n ∧ n < (↑(8 : Nat) : Int) then
                                                                      bif ((3 : Nat) + n.toNat * (1 : Nat) + (1 : Nat)).ble cs.length then
                                                                        bindL (splice cs ((3 : Nat) + n.toNat * (1 : Nat)) [AVal.at (Value.int IntKind.i64 (IntKind.i64.wrap (n_8 + n_9)))])
                                                                          fun (cs : List AVal) =>
                                                                          k Ex.normal
                                                                            (mkS [(2 : Nat), (3 : Nat), (4 : Nat)] [Slot.lp (2 : Nat) (0 : Nat), Slot.lp (3 : Nat) (0 : Nat), Slot.lp (4 : Nat) (0 : Nat)]
                                                                              [some { cells := cs }, some { cells := l1 },
                                                                                some
                                                                                  {
                                                                                    cells :=
                                                                                      [AVal.at (Value.int IntKind.i64 n2), AVal.at (Value.int IntKind.i64 n3), AVal.at (Value.int IntKind.i64 n4),
                                                                                        AVal.at (Value.int IntKind.i64 n5), AVal.at (Value.int IntKind.i64 n6), AVal.at (Value.int IntKind.i64 n7),
                                                                                        AVal.at (Value.int IntKind.i64 n8), AVal.at (Value.int IntKind.i64 n9), AVal.at (Value.int IntKind.i64 n10),
                                                                                        AVal.at (Value.int IntKind.i64 n11), AVal.at (Value.int IntKind.i64 n12)] }]
                                                                              (RVal.sg sg'))
                                                                      else none
                                                                    else none
                                                              else none
                                                        else
                                                          k Ex.normal
                                                            (mkS [(2 : Nat), (3 : Nat), (4 : Nat)] [Slot.lp (2 : Nat) (0 : Nat), Slot.lp (3 : Nat) (0 : Nat), Slot.lp (4 : Nat) (0 : Nat)]
                                                              [some { cells := cs }, some { cells := l1 },
                                                                some
                                                                  {
                                                                    cells :=
                                                                      [AVal.at (Value.int IntKind.i64 n2), AVal.at (Value.int IntKind.i64 n3), AVal.at (Value.int IntKind.i64 n4),
                                                                        AVal.at (Value.int IntKind.i64 n5), AVal.at (Value.int IntKind.i64 n6), AVal.at (Value.int IntKind.i64 n7),
                                                                        AVal.at (Value.int IntKind.i64 n8), AVal.at (Value.int IntKind.i64 n9), AVal.at (Value.int IntKind.i64 n10),
                                                                        AVal.at (Value.int IntKind.i64 n11), AVal.at (Value.int IntKind.i64 n12)] }]
                                                              (RVal.sg sg'))
                                                    else none
                                        else none
                                else none
                            else
                              withI IntKind.i64 cs[(2 : Nat)]? fun (n : Int) =>
                                bif Nat.ble (3 : Nat) cs.length then
                                  bindL (splice cs (2 : Nat) [AVal.at (Value.int IntKind.i64 (IntKind.i64.wrap (n + (1 : Int))))]) fun (cs : List AVal) =>
                                    withI IntKind.i64 cs[(2 : Nat)]? fun (n : Int) =>
                                      withI IntKind.i64 cs[(0 : Nat)]? fun (n_4 : Int) =>
                                        if (n == n_4) = true then
                                          bif Nat.ble (3 : Nat) cs.length then
                                            bindL (splice cs (2 : Nat) [AVal.at (Value.int IntKind.i64 (0 : Int))]) fun (cs : List AVal) =>
                                              withI IntKind.i64 cs[(2 : Nat)]? fun (n : Int) =>
                                                if (0 : Int) ≤ n ∧ n < (↑(8 : Nat) : Int) then
                                                  withI IntKind.i64 l1[(0 : Nat) + n.toNat * (1 : Nat)]? fun (n : Int) =>
                                                    if decide (n > (0 : Int)) = true then
                                                      withI IntKind.i64 cs[(2 : Nat)]? fun (n : Int) =>
                                                        withI IntKind.i64 cs[(2 : Nat)]? fun (n_5 : Int) =>
                                                          if (0 : Int) ≤ n_5 ∧ n_5 < (↑(8 : Nat) : Int) then
                                                            withI IntKind.i64 cs[(3 : Nat) + n_5.toNat * (1 : Nat)]? fun (n_6 : Int) =>
                                                              withI IntKind.i64 cs[(1 : Nat)]? fun (n_7 : Int) =>
                                                                if (0 : Int) ≤ n ∧ n < (↑(8 : Nat) : Int) then
                                                                  bif ((3 : Nat) + n.toNat * (1 : Nat) + (1 : Nat)).ble cs.length then
                                                                    bindL (splice cs ((3 : Nat) + n.toNat * (1 : Nat)) [AVal.at (Value.int IntKind.i64 (IntKind.i64.wrap (n_6 + n_7)))])
                                                                      fun (cs : List AVal) =>
                                                                      k Ex.normal
                                                                        (mkS [(2 : Nat), (3 : Nat), (4 : Nat)] [Slot.lp (2 : Nat) (0 : Nat), Slot.lp (3 : Nat) (0 : Nat), Slot.lp (4 : Nat) (0 : Nat)]
                                                                          [some { cells := cs }, some { cells := l1 },
                                                                            some
                                                                              {
                                                                                cells :=
                                                                                  [AVal.at (Value.int IntKind.i64 n2), AVal.at (Value.int IntKind.i64 n3), AVal.at (Value.int IntKind.i64 n4),
                                                                                    AVal.at (Value.int IntKind.i64 n5), AVal.at (Value.int IntKind.i64 n6), AVal.at (Value.int IntKind.i64 n7),
                                                                                    AVal.at (Value.int IntKind.i64 n8), AVal.at (Value.int IntKind.i64 n9), AVal.at (Value.int IntKind.i64 n10),
                                                                                    AVal.at (Value.int IntKind.i64 n11), AVal.at (Value.int IntKind.i64 n12)] }]
                                                                          (RVal.sg sg'))
                                                                  else none
                                                                else none
                                                          else none
                                                    else
                                                      k Ex.normal
                                                        (mkS [(2 : Nat), (3 : Nat), (4 : Nat)] [Slot.lp (2 : Nat) (0 : Nat), Slot.lp (3 : Nat) (0 : Nat), Slot.lp (4 : Nat) (0 : Nat)]
                                                          [some { cells := cs }, some { cells := l1 },
                                                            some
                                                              {
                                                                cells :=
                                                                  [AVal.at (Value.int IntKind.i64 n2), AVal.at (Value.int IntKind.i64 n3), AVal.at (Value.int IntKind.i64 n4),
                                                                    AVal.at (Value.int IntKind.i64 n5), AVal.at (Value.int IntKind.i64 n6), AVal.at (Value.int IntKind.i64 n7),
                                                                    AVal.at (Value.int IntKind.i64 n8), AVal.at (Value.int IntKind.i64 n9), AVal.at (Value.int IntKind.i64 n10),
                                                                    AVal.at (Value.int IntKind.i64 n11), AVal.at (Value.int IntKind.i64 n12)] }]
                                                          (RVal.sg sg'))
                                                else none
                                          else none
                                        else
                                          withI IntKind.i64 cs[(2 : Nat)]? fun (n : Int) =>
                                            if (0 : Int) ≤ n ∧ n < (↑(8 : Nat) : Int) then
                                              withI IntKind.i64 l1[(0 : Nat) + n.toNat * (1 : Nat)]? fun (n : Int) =>
                                                if decide (n > (0 : Int)) = true then
                                                  withI IntKind.i64 cs[(2 : Nat)]? fun (n : Int) =>
                                                    withI IntKind.i64 cs[(2 : Nat)]? fun (n_5 : Int) =>
                                                      if (0 : Int) ≤ n_5 ∧ n_5 < (↑(8 : Nat) : Int) then
                                                        withI IntKind.i64 cs[(3 : Nat) + n_5.toNat * (1 : Nat)]? fun (n_6 : Int) =>
                                                          withI IntKind.i64 cs[(1 : Nat)]? fun (n_7 : Int) =>
                                                            if (0 : Int) ≤ n ∧ n < (↑(8 : Nat) : Int) then
                                                              bif ((3 : Nat) + n.toNat * (1 : Nat) + (1 : Nat)).ble cs.length then
                                                                bindL (splice cs ((3 : Nat) + n.toNat * (1 : Nat)) [AVal.at (Value.int IntKind.i64 (IntKind.i64.wrap (n_6 + n_7)))]) fun (cs : List AVal) =>
                                                                  k Ex.normal
                                                                    (mkS [(2 : Nat), (3 : Nat), (4 : Nat)] [Slot.lp (2 : Nat) (0 : Nat), Slot.lp (3 : Nat) (0 : Nat), Slot.lp (4 : Nat) (0 : Nat)]
                                                                      [some { cells := cs }, some { cells := l1 },
                                                                        some
                                                                          {
                                                                            cells :=
                                                                              [AVal.at (Value.int IntKind.i64 n2), AVal.at (Value.int IntKind.i64 n3), AVal.at (Value.int IntKind.i64 n4),
                                                                                AVal.at (Value.int IntKind.i64 n5), AVal.at (Value.int IntKind.i64 n6), AVal.at (Value.int IntKind.i64 n7),
                                                                                AVal.at (Value.int IntKind.i64 n8), AVal.at (Value.int IntKind.i64 n9), AVal.at (Value.int IntKind.i64 n10),
                                                                                AVal.at (Value.int IntKind.i64 n11), AVal.at (Value.int IntKind.i64 n12)] }]
                                                                      (RVal.sg sg'))
                                                              else none
                                                            else none
                                                      else none
                                                else
                                                  k Ex.normal
                                                    (mkS [(2 : Nat), (3 : Nat), (4 : Nat)] [Slot.lp (2 : Nat) (0 : Nat), Slot.lp (3 : Nat) (0 : Nat), Slot.lp (4 : Nat) (0 : Nat)]
                                                      [some { cells := cs }, some { cells := l1 },
                                                        some
                                                          {
                                                            cells :=
                                                              [AVal.at (Value.int IntKind.i64 n2), AVal.at (Value.int IntKind.i64 n3), AVal.at (Value.int IntKind.i64 n4),
                                                                AVal.at (Value.int IntKind.i64 n5), AVal.at (Value.int IntKind.i64 n6), AVal.at (Value.int IntKind.i64 n7),
                                                                AVal.at (Value.int IntKind.i64 n8), AVal.at (Value.int IntKind.i64 n9), AVal.at (Value.int IntKind.i64 n10),
                                                                AVal.at (Value.int IntKind.i64 n11), AVal.at (Value.int IntKind.i64 n12)] }]
                                                      (RVal.sg sg'))
                                            else none
                                else none
                        else none
                      else none
                  else
                    if decide (n > (0 : Int)) = true then
                      withI IntKind.i64 l0[(2 : Nat)]? fun (n_3 : Int) =>
                        if (0 : Int) ≤ n_3 ∧ n_3 < (↑(8 : Nat) : Int) then
                          withI IntKind.i64 l0[(3 : Nat) + n_3.toNat * (1 : Nat)]? fun (n_4 : Int) =>
                            if decide (n_4 ≥ n) = true then
                              withI IntKind.i64 l0[(2 : Nat)]? fun (n_5 : Int) =>
                                withI IntKind.i64 l0[(2 : Nat)]? fun (n_6 : Int) =>
                                  if (0 : Int) ≤ n_6 ∧ n_6 < (↑(8 : Nat) : Int) then
                                    withI IntKind.i64 l0[(3 : Nat) + n_6.toNat * (1 : Nat)]? fun (n_7 : Int) =>
                                      if (0 : Int) ≤ n_5 ∧ n_5 < (↑(8 : Nat) : Int) then
                                        bif ((3 : Nat) + n_5.toNat * (1 : Nat) + (1 : Nat)).ble l0.length then
                                          bindL (splice l0 ((3 : Nat) + n_5.toNat * (1 : Nat)) [AVal.at (Value.int IntKind.i64 (IntKind.i64.wrap (n_7 - n)))]) fun (cs : List AVal) =>
                                            bif Nat.ble (11 : Nat) cs.length then
                                              bindL (List.take (11 : Nat) cs) fun (l : List AVal) =>
                                                withI IntKind.i64 cs[(2 : Nat)]? fun (n : Int) =>
                                                  bif l.length.beq (11 : Nat) then
                                                    bindL
                                                      (splice
                                                        [AVal.at (Value.int IntKind.i64 n2), AVal.at (Value.int IntKind.i64 n3), AVal.at (Value.int IntKind.i64 n4), AVal.at (Value.int IntKind.i64 n5),
                                                          AVal.at (Value.int IntKind.i64 n6), AVal.at (Value.int IntKind.i64 n7), AVal.at (Value.int IntKind.i64 n8), AVal.at (Value.int IntKind.i64 n9),
                                                          AVal.at (Value.int IntKind.i64 n10), AVal.at (Value.int IntKind.i64 n11), AVal.at (Value.int IntKind.i64 n12)]
                                                        (0 : Nat) l)
                                                      fun (cs : List AVal) =>
                                                      k Ex.ret
                                                        (mkS [(4 : Nat), (5 : Nat), (6 : Nat)]
                                                          [Slot.lp (4 : Nat) (0 : Nat), Slot.v (AVal.at (Value.int IntKind.i64 n)) false, Slot.v (AVal.at (Value.bool true)) false]
                                                          [some { cells := cs }, none, none] (RVal.sg sg'))
                                                  else none
                                            else none
                                        else none
                                      else none
                                  else none
                            else
                              withI IntKind.i64 l0[(2 : Nat)]? fun (n : Int) =>
                                bif Nat.ble (3 : Nat) l0.length then
                                  bindL (splice l0 (2 : Nat) [AVal.at (Value.int IntKind.i64 (IntKind.i64.wrap (n + (1 : Int))))]) fun (cs : List AVal) =>
                                    withI IntKind.i64 cs[(2 : Nat)]? fun (n : Int) =>
                                      withI IntKind.i64 cs[(0 : Nat)]? fun (n_5 : Int) =>
                                        if (n == n_5) = true then
                                          bif Nat.ble (3 : Nat) cs.length then
                                            bindL (splice cs (2 : Nat) [AVal.at (Value.int IntKind.i64 (0 : Int))]) fun (cs : List AVal) =>
                                              withI IntKind.i64 cs[(2 : Nat)]? fun (n : Int) =>
                                                if (0 : Int) ≤ n ∧ n < (↑(8 : Nat) : Int) then
                                                  withI IntKind.i64 l1[(0 : Nat) + n.toNat * (1 : Nat)]? fun (n : Int) =>
                                                    if decide (n > (0 : Int)) = true then
                                                      withI IntKind.i64 cs[(2 : Nat)]? fun (n : Int) =>
                                                        withI IntKind.i64 cs[(2 : Nat)]? fun (n_6 : Int) =>
                                                          if (0 : Int) ≤ n_6 ∧ n_6 < (↑(8 : Nat) : Int) then
                                                            withI IntKind.i64 cs[(3 : Nat) + n_6.toNat * (1 : Nat)]? fun (n_7 : Int) =>
                                                              withI IntKind.i64 cs[(1 : Nat)]? fun (n_8 : Int) =>
                                                                if (0 : Int) ≤ n ∧ n < (↑(8 : Nat) : Int) then
                                                                  bif ((3 : Nat) + n.toNat * (1 : Nat) + (1 : Nat)).ble cs.length then
                                                                    bindL (splice cs ((3 : Nat) + n.toNat * (1 : Nat)) [AVal.at (Value.int IntKind.i64 (IntKind.i64.wrap (n_7 + n_8)))])
                                                                      fun (cs : List AVal) =>
                                                                      k Ex.normal
                                                                        (mkS [(2 : Nat), (3 : Nat), (4 : Nat)] [Slot.lp (2 : Nat) (0 : Nat), Slot.lp (3 : Nat) (0 : Nat), Slot.lp (4 : Nat) (0 : Nat)]
                                                                          [some { cells := cs }, some { cells := l1 },
                                                                            some
                                                                              {
                                                                                cells :=
                                                                                  [AVal.at (Value.int IntKind.i64 n2), AVal.at (Value.int IntKind.i64 n3), AVal.at (Value.int IntKind.i64 n4),
                                                                                    AVal.at (Value.int IntKind.i64 n5), AVal.at (Value.int IntKind.i64 n6), AVal.at (Value.int IntKind.i64 n7),
                                                                                    AVal.at (Value.int IntKind.i64 n8), AVal.at (Value.int IntKind.i64 n9), AVal.at (Value.int IntKind.i64 n10),
                                                                                    AVal.at (Value.int IntKind.i64 n11), AVal.at (Value.int IntKind.i64 n12)] }]
                                                                          (RVal.sg sg'))
                                                                  else none
                                                                else none
                                                          else none
                                                    else
                                                      k Ex.normal
                                                        (mkS [(2 : Nat), (3 : Nat), (4 : Nat)] [Slot.lp (2 : Nat) (0 : Nat), Slot.lp (3 : Nat) (0 : Nat), Slot.lp (4 : Nat) (0 : Nat)]
                                                          [some { cells := cs }, some { cells := l1 },
                                                            some
                                                              {
                                                                cells :=
                                                                  [AVal.at (Value.int IntKind.i64 n2), AVal.at (Value.int IntKind.i64 n3), AVal.at (Value.int IntKind.i64 n4),
                                                                    AVal.at (Value.int IntKind.i64 n5), AVal.at (Value.int IntKind.i64 n6), AVal.at (Value.int IntKind.i64 n7),
                                                                    AVal.at (Value.int IntKind.i64 n8), AVal.at (Value.int IntKind.i64 n9), AVal.at (Value.int IntKind.i64 n10),
                                                                    AVal.at (Value.int IntKind.i64 n11), AVal.at (Value.int IntKind.i64 n12)] }]
                                                          (RVal.sg sg'))
                                                else none
                                          else none
                                        else
                                          withI IntKind.i64 cs[(2 : Nat)]? fun (n : Int) =>
                                            if (0 : Int) ≤ n ∧ n < (↑(8 : Nat) : Int) then
                                              withI IntKind.i64 l1[(0 : Nat) + n.toNat * (1 : Nat)]? fun (n : Int) =>
                                                if decide (n > (0 : Int)) = true then
                                                  withI IntKind.i64 cs[(2 : Nat)]? fun (n : Int) =>
                                                    withI IntKind.i64 cs[(2 : Nat)]? fun (n_6 : Int) =>
                                                      if (0 : Int) ≤ n_6 ∧ n_6 < (↑(8 : Nat) : Int) then
                                                        withI IntKind.i64 cs[(3 : Nat) + n_6.toNat * (1 : Nat)]? fun (n_7 : Int) =>
                                                          withI IntKind.i64 cs[(1 : Nat)]? fun (n_8 : Int) =>
                                                            if (0 : Int) ≤ n ∧ n < (↑(8 : Nat) : Int) then
                                                              bif ((3 : Nat) + n.toNat * (1 : Nat) + (1 : Nat)).ble cs.length then
                                                                bindL (splice cs ((3 : Nat) + n.toNat * (1 : Nat)) [AVal.at (Value.int IntKind.i64 (IntKind.i64.wrap (n_7 + n_8)))]) fun (cs : List AVal) =>
                                                                  k Ex.normal
                                                                    (mkS [(2 : Nat), (3 : Nat), (4 : Nat)] [Slot.lp (2 : Nat) (0 : Nat), Slot.lp (3 : Nat) (0 : Nat), Slot.lp (4 : Nat) (0 : Nat)]
                                                                      [some { cells := cs }, some { cells := l1 },
                                                                        some
                                                                          {
                                                                            cells :=
                                                                              [AVal.at (Value.int IntKind.i64 n2), AVal.at (Value.int IntKind.i64 n3), AVal.at (Value.int IntKind.i64 n4),
                                                                                AVal.at (Value.int IntKind.i64 n5), AVal.at (Value.int IntKind.i64 n6), AVal.at (Value.int IntKind.i64 n7),
                                                                                AVal.at (Value.int IntKind.i64 n8), AVal.at (Value.int IntKind.i64 n9), AVal.at (Value.int IntKind.i64 n10),
                                                                                AVal.at (Value.int IntKind.i64 n11), AVal.at (Value.int IntKind.i64 n12)] }]
                                                                      (RVal.sg sg'))
                                                              else none
                                                            else none
                                                      else none
                                                else
                                                  k Ex.normal
                                                    (mkS [(2 : Nat), (3 : Nat), (4 : Nat)] [Slot.lp (2 : Nat) (0 : Nat), Slot.lp (3 : Nat) (0 : Nat), Slot.lp (4 : Nat) (0 : Nat)]
                                                      [some { cells := cs }, some { cells := l1 },
                                                        some
                                                          {
                                                            cells :=
                                                              [AVal.at (Value.int IntKind.i64 n2), AVal.at (Value.int IntKind.i64 n3), AVal.at (Value.int IntKind.i64 n4),
                                                                AVal.at (Value.int IntKind.i64 n5), AVal.at (Value.int IntKind.i64 n6), AVal.at (Value.int IntKind.i64 n7),
                                                                AVal.at (Value.int IntKind.i64 n8), AVal.at (Value.int IntKind.i64 n9), AVal.at (Value.int IntKind.i64 n10),
                                                                AVal.at (Value.int IntKind.i64 n11), AVal.at (Value.int IntKind.i64 n12)] }]
                                                      (RVal.sg sg'))
                                            else none
                                else none
                        else none
                    else
                      withI IntKind.i64 l0[(2 : Nat)]? fun (n : Int) =>
                        bif Nat.ble (3 : Nat) l0.length then
                          bindL (splice l0 (2 : Nat) [AVal.at (Value.int IntKind.i64 (IntKind.i64.wrap (n + (1 : Int))))]) fun (cs : List AVal) =>
                            withI IntKind.i64 cs[(2 : Nat)]? fun (n : Int) =>
                              withI IntKind.i64 cs[(0 : Nat)]? fun (n_3 : Int) =>
                                if (n == n_3) = true then
                                  bif Nat.ble (3 : Nat) cs.length then
                                    bindL (splice cs (2 : Nat) [AVal.at (Value.int IntKind.i64 (0 : Int))]) fun (cs : List AVal) =>
                                      withI IntKind.i64 cs[(2 : Nat)]? fun (n : Int) =>
                                        if (0 : Int) ≤ n ∧ n < (↑(8 : Nat) : Int) then
                                          withI IntKind.i64 l1[(0 : Nat) + n.toNat * (1 : Nat)]? fun (n : Int) =>
                                            if decide (n > (0 : Int)) = true then
                                              withI IntKind.i64 cs[(2 : Nat)]? fun (n : Int) =>
                                                withI IntKind.i64 cs[(2 : Nat)]? fun (n_4 : Int) =>
                                                  if (0 : Int) ≤ n_4 ∧ n_4 < (↑(8 : Nat) : Int) then
                                                    withI IntKind.i64 cs[(3 : Nat) + n_4.toNat * (1 : Nat)]? fun (n_5 : Int) =>
                                                      withI IntKind.i64 cs[(1 : Nat)]? fun (n_6 : Int) =>
                                                        if (0 : Int) ≤ n ∧ n < (↑(8 : Nat) : Int) then
                                                          bif ((3 : Nat) + n.toNat * (1 : Nat) + (1 : Nat)).ble cs.length then
                                                            bindL (splice cs ((3 : Nat) + n.toNat * (1 : Nat)) [AVal.at (Value.int IntKind.i64 (IntKind.i64.wrap (n_5 + n_6)))]) fun (cs : List AVal) =>
                                                              k Ex.normal
                                                                (mkS [(2 : Nat), (3 : Nat), (4 : Nat)] [Slot.lp (2 : Nat) (0 : Nat), Slot.lp (3 : Nat) (0 : Nat), Slot.lp (4 : Nat) (0 : Nat)]
                                                                  [some { cells := cs }, some { cells := l1 },
                                                                    some
                                                                      {
                                                                        cells :=
                                                                          [AVal.at (Value.int IntKind.i64 n2), AVal.at (Value.int IntKind.i64 n3), AVal.at (Value.int IntKind.i64 n4),
                                                                            AVal.at (Value.int IntKind.i64 n5), AVal.at (Value.int IntKind.i64 n6), AVal.at (Value.int IntKind.i64 n7),
                                                                            AVal.at (Value.int IntKind.i64 n8), AVal.at (Value.int IntKind.i64 n9), AVal.at (Value.int IntKind.i64 n10),
                                                                            AVal.at (Value.int IntKind.i64 n11), AVal.at (Value.int IntKind.i64 n12)] }]
                                                                  (RVal.sg sg'))
                                                          else none
                                                        else none
                                                  else none
                                            else
                                              k Ex.normal
                                                (mkS [(2 : Nat), (3 : Nat), (4 : Nat)] [Slot.lp (2 : Nat) (0 : Nat), Slot.lp (3 : Nat) (0 : Nat), Slot.lp (4 : Nat) (0 : Nat)]
                                                  [some { cells := cs }, some { cells := l1 },
                                                    some
                                                      {
                                                        cells :=
                                                          [AVal.at (Value.int IntKind.i64 n2), AVal.at (Value.int IntKind.i64 n3), AVal.at (Value.int IntKind.i64 n4), AVal.at (Value.int IntKind.i64 n5),
                                                            AVal.at (Value.int IntKind.i64 n6), AVal.at (Value.int IntKind.i64 n7), AVal.at (Value.int IntKind.i64 n8), AVal.at (Value.int IntKind.i64 n9),
                                                            AVal.at (Value.int IntKind.i64 n10), AVal.at (Value.int IntKind.i64 n11), AVal.at (Value.int IntKind.i64 n12)] }]
                                                  (RVal.sg sg'))
                                        else none
                                  else none
                                else
                                  withI IntKind.i64 cs[(2 : Nat)]? fun (n : Int) =>
                                    if (0 : Int) ≤ n ∧ n < (↑(8 : Nat) : Int) then
                                      withI IntKind.i64 l1[(0 : Nat) + n.toNat * (1 : Nat)]? fun (n : Int) =>
                                        if decide (n > (0 : Int)) = true then
                                          withI IntKind.i64 cs[(2 : Nat)]? fun (n : Int) =>
                                            withI IntKind.i64 cs[(2 : Nat)]? fun (n_4 : Int) =>
                                              if (0 : Int) ≤ n_4 ∧ n_4 < (↑(8 : Nat) : Int) then
                                                withI IntKind.i64 cs[(3 : Nat) + n_4.toNat * (1 : Nat)]? fun (n_5 : Int) =>
                                                  withI IntKind.i64 cs[(1 : Nat)]? fun (n_6 : Int) =>
                                                    if (0 : Int) ≤ n ∧ n < (↑(8 : Nat) : Int) then
                                                      bif ((3 : Nat) + n.toNat * (1 : Nat) + (1 : Nat)).ble cs.length then
                                                        bindL (splice cs ((3 : Nat) + n.toNat * (1 : Nat)) [AVal.at (Value.int IntKind.i64 (IntKind.i64.wrap (n_5 + n_6)))]) fun (cs : List AVal) =>
                                                          k Ex.normal
                                                            (mkS [(2 : Nat), (3 : Nat), (4 : Nat)] [Slot.lp (2 : Nat) (0 : Nat), Slot.lp (3 : Nat) (0 : Nat), Slot.lp (4 : Nat) (0 : Nat)]
                                                              [some { cells := cs }, some { cells := l1 },
                                                                some
                                                                  {
                                                                    cells :=
                                                                      [AVal.at (Value.int IntKind.i64 n2), AVal.at (Value.int IntKind.i64 n3), AVal.at (Value.int IntKind.i64 n4),
                                                                        AVal.at (Value.int IntKind.i64 n5), AVal.at (Value.int IntKind.i64 n6), AVal.at (Value.int IntKind.i64 n7),
                                                                        AVal.at (Value.int IntKind.i64 n8), AVal.at (Value.int IntKind.i64 n9), AVal.at (Value.int IntKind.i64 n10),
                                                                        AVal.at (Value.int IntKind.i64 n11), AVal.at (Value.int IntKind.i64 n12)] }]
                                                              (RVal.sg sg'))
                                                      else none
                                                    else none
                                              else none
                                        else
                                          k Ex.normal
                                            (mkS [(2 : Nat), (3 : Nat), (4 : Nat)] [Slot.lp (2 : Nat) (0 : Nat), Slot.lp (3 : Nat) (0 : Nat), Slot.lp (4 : Nat) (0 : Nat)]
                                              [some { cells := cs }, some { cells := l1 },
                                                some
                                                  {
                                                    cells :=
                                                      [AVal.at (Value.int IntKind.i64 n2), AVal.at (Value.int IntKind.i64 n3), AVal.at (Value.int IntKind.i64 n4), AVal.at (Value.int IntKind.i64 n5),
                                                        AVal.at (Value.int IntKind.i64 n6), AVal.at (Value.int IntKind.i64 n7), AVal.at (Value.int IntKind.i64 n8), AVal.at (Value.int IntKind.i64 n9),
                                                        AVal.at (Value.int IntKind.i64 n10), AVal.at (Value.int IntKind.i64 n11), AVal.at (Value.int IntKind.i64 n12)] }]
                                              (RVal.sg sg'))
                                    else none
                        else none)
              fun (v : AVal) (sg' : Sg) => none
        else none := by kernel_rfl
theorem ref26_Next.k2_1 (C : CallF) (N : Nat) (n0 : Int) (b1 : Bool) (l2 : List AVal) (sg3 : Sg) :
    ref26_Next.K2 C N Ex.ret
      (mkS [(4 : Nat), (5 : Nat), (6 : Nat)] [Slot.lp (4 : Nat) (0 : Nat), Slot.v (AVal.at (Value.int IntKind.i64 n0)) false, Slot.v (AVal.at (Value.bool b1)) false] [some { cells := l2 }, none, none]
        (RVal.sg sg3)) =
    bif Nat.ble (11 : Nat) l2.length then bindL (List.take (11 : Nat) l2) fun (l : List AVal) => some (Out.ret (AVal.tup [AVal.agg l, AVal.at (Value.int IntKind.i64 n0), AVal.at (Value.bool b1)]) sg3)
    else none := by kernel_rfl
theorem ref26_Next.r1 (C : CallF) (N : Nat) (n0 : Int) (l1 : List AVal) (n2 : Int) (n3 : Int) (n4 : Int) (n5 : Int) (n6 : Int) (n7 : Int) (n8 : Int) (n9 : Int) (n10 : Int) (n11 : Int) (n12 : Int) (sg13 : Sg) (k : Ex → St → R) :
    ref26_Next.R1 C N
      (mkS [(2 : Nat), (4 : Nat), (9 : Nat)] [Slot.lp (2 : Nat) (0 : Nat), Slot.lp (4 : Nat) (0 : Nat), Slot.v (AVal.at (Value.int IntKind.i64 n0)) false]
        [some { cells := l1 },
          some
            {
              cells :=
                [AVal.at (Value.int IntKind.i64 n2), AVal.at (Value.int IntKind.i64 n3), AVal.at (Value.int IntKind.i64 n4), AVal.at (Value.int IntKind.i64 n5), AVal.at (Value.int IntKind.i64 n6),
                  AVal.at (Value.int IntKind.i64 n7), AVal.at (Value.int IntKind.i64 n8), AVal.at (Value.int IntKind.i64 n9), AVal.at (Value.int IntKind.i64 n10), AVal.at (Value.int IntKind.i64 n11),
                  AVal.at (Value.int IntKind.i64 n12)] },
          none]
        (RVal.sg sg13))
      k =
    if decide (n0 < (8 : Int)) = true then
      if (0 : Int) ≤ n0 ∧ n0 < (↑(8 : Nat) : Int) then
        bif ((3 : Nat) + n0.toNat * (1 : Nat) + (1 : Nat)).ble l1.length then
          bindL (splice l1 ((3 : Nat) + n0.toNat * (1 : Nat)) [AVal.at (Value.int IntKind.i64 (0 : Int))]) fun (cs : List AVal) =>
            k Ex.normal
              (mkS [(2 : Nat), (4 : Nat), (9 : Nat)] [Slot.lp (2 : Nat) (0 : Nat), Slot.lp (4 : Nat) (0 : Nat), Slot.v (AVal.at (Value.int IntKind.i64 (IntKind.i64.wrap (n0 + (1 : Int))))) false]
                [some { cells := cs },
                  some
                    {
                      cells :=
                        [AVal.at (Value.int IntKind.i64 n2), AVal.at (Value.int IntKind.i64 n3), AVal.at (Value.int IntKind.i64 n4), AVal.at (Value.int IntKind.i64 n5), AVal.at (Value.int IntKind.i64 n6),
                          AVal.at (Value.int IntKind.i64 n7), AVal.at (Value.int IntKind.i64 n8), AVal.at (Value.int IntKind.i64 n9), AVal.at (Value.int IntKind.i64 n10),
                          AVal.at (Value.int IntKind.i64 n11), AVal.at (Value.int IntKind.i64 n12)] },
                  none]
                (RVal.sg sg13))
        else none
      else none
    else
      k (Ex.exit (2 : Nat))
        (mkS [(2 : Nat), (4 : Nat)] [Slot.lp (2 : Nat) (0 : Nat), Slot.lp (4 : Nat) (0 : Nat)]
          [some { cells := l1 },
            some
              {
                cells :=
                  [AVal.at (Value.int IntKind.i64 n2), AVal.at (Value.int IntKind.i64 n3), AVal.at (Value.int IntKind.i64 n4), AVal.at (Value.int IntKind.i64 n5), AVal.at (Value.int IntKind.i64 n6),
                    AVal.at (Value.int IntKind.i64 n7), AVal.at (Value.int IntKind.i64 n8), AVal.at (Value.int IntKind.i64 n9), AVal.at (Value.int IntKind.i64 n10), AVal.at (Value.int IntKind.i64 n11),
                    AVal.at (Value.int IntKind.i64 n12)] }]
          (RVal.sg sg13)) := by kernel_rfl
theorem ref26_Next.k1_1 (C : CallF) (N : Nat) (l0 : List AVal) (n1 : Int) (n2 : Int) (n3 : Int) (n4 : Int) (n5 : Int) (n6 : Int) (n7 : Int) (n8 : Int) (n9 : Int) (n10 : Int) (n11 : Int) (sg12 : Sg) :
    ref26_Next.K1 C N (Ex.exit (2 : Nat))
      (mkS [(2 : Nat), (4 : Nat)] [Slot.lp (2 : Nat) (0 : Nat), Slot.lp (4 : Nat) (0 : Nat)]
        [some { cells := l0 },
          some
            {
              cells :=
                [AVal.at (Value.int IntKind.i64 n1), AVal.at (Value.int IntKind.i64 n2), AVal.at (Value.int IntKind.i64 n3), AVal.at (Value.int IntKind.i64 n4), AVal.at (Value.int IntKind.i64 n5),
                  AVal.at (Value.int IntKind.i64 n6), AVal.at (Value.int IntKind.i64 n7), AVal.at (Value.int IntKind.i64 n8), AVal.at (Value.int IntKind.i64 n9), AVal.at (Value.int IntKind.i64 n10),
                  AVal.at (Value.int IntKind.i64 n11)] }]
        (RVal.sg sg12)) =
    bif Nat.ble (11 : Nat) l0.length then
      bindL (List.take (11 : Nat) l0) fun (l : List AVal) =>
        bif l.length.beq (11 : Nat) then
          bindL
            (splice
              [AVal.at (Value.int IntKind.i64 n1), AVal.at (Value.int IntKind.i64 n2), AVal.at (Value.int IntKind.i64 n3), AVal.at (Value.int IntKind.i64 n4), AVal.at (Value.int IntKind.i64 n5),
                AVal.at (Value.int IntKind.i64 n6), AVal.at (Value.int IntKind.i64 n7), AVal.at (Value.int IntKind.i64 n8), AVal.at (Value.int IntKind.i64 n9), AVal.at (Value.int IntKind.i64 n10),
                AVal.at (Value.int IntKind.i64 n11)]
              (0 : Nat) l)
            fun (cs : List AVal) =>
            bif Nat.ble (11 : Nat) cs.length then
              bindL (List.take (11 : Nat) cs) fun (l : List AVal) => some (Out.ret (AVal.tup [AVal.agg l, AVal.at (Value.int IntKind.i64 (0 : Int)), AVal.at (Value.bool false)]) sg12)
            else none
        else none
    else none := by kernel_rfl


/-! 12 wharfage/drr.New -/
theorem drr_New.main (C : CallF) (N : Nat) (n0 : Int) (n1 : Int) (sg2 : Sg) :
    evalF C N drr_New.a [AVal.at (Value.int IntKind.i64 n0), AVal.at (Value.int IntKind.i64 n1)] sg2 =
    if decide (n0 > (0 : Int)) = true then
      withOut
        (C (15 : Nat)
          [AVal.agg
              [AVal.at (Value.int IntKind.i64 n0), AVal.at (Value.int IntKind.i64 n1), AVal.at (Value.int IntKind.i64 (IntKind.i64.wrap (n0 - (1 : Int)))), AVal.at (Value.int IntKind.i64 (0 : Int)),
                AVal.at (Value.int IntKind.i64 (0 : Int)), AVal.at (Value.int IntKind.i64 (0 : Int)), AVal.at (Value.int IntKind.i64 (0 : Int)), AVal.at (Value.int IntKind.i64 (0 : Int)),
                AVal.at (Value.int IntKind.i64 (0 : Int)), AVal.at (Value.int IntKind.i64 (0 : Int)), AVal.at (Value.int IntKind.i64 (0 : Int))]]
          sg2)
        (fun (v : AVal) (sg' : Sg) =>
          withI IntKind.i64 (some v) fun (n : Int) =>
            if (n != (0 : Int)) = true then
              some
                (Out.ret
                  (AVal.tup
                    [AVal.agg
                        [AVal.at (Value.int IntKind.i64 (0 : Int)), AVal.at (Value.int IntKind.i64 (0 : Int)), AVal.at (Value.int IntKind.i64 (0 : Int)), AVal.at (Value.int IntKind.i64 (0 : Int)),
                          AVal.at (Value.int IntKind.i64 (0 : Int)), AVal.at (Value.int IntKind.i64 (0 : Int)), AVal.at (Value.int IntKind.i64 (0 : Int)), AVal.at (Value.int IntKind.i64 (0 : Int)),
                          AVal.at (Value.int IntKind.i64 (0 : Int)), AVal.at (Value.int IntKind.i64 (0 : Int)), AVal.at (Value.int IntKind.i64 (0 : Int))],
                      AVal.at (Value.int IntKind.i64 n)])
                  sg')
            else
              some
                (Out.ret
                  (AVal.tup
                    [AVal.agg
                        [AVal.at (Value.int IntKind.i64 n0), AVal.at (Value.int IntKind.i64 n1), AVal.at (Value.int IntKind.i64 (IntKind.i64.wrap (n0 - (1 : Int)))),
                          AVal.at (Value.int IntKind.i64 (0 : Int)), AVal.at (Value.int IntKind.i64 (0 : Int)), AVal.at (Value.int IntKind.i64 (0 : Int)), AVal.at (Value.int IntKind.i64 (0 : Int)),
                          AVal.at (Value.int IntKind.i64 (0 : Int)), AVal.at (Value.int IntKind.i64 (0 : Int)), AVal.at (Value.int IntKind.i64 (0 : Int)), AVal.at (Value.int IntKind.i64 (0 : Int))],
                      AVal.at (Value.int IntKind.i64 (0 : Int))])
                  sg'))
        fun (v : AVal) (sg' : Sg) => some (Out.pan v sg')
    else
      withOut
        (C (15 : Nat)
          [AVal.agg
              [AVal.at (Value.int IntKind.i64 n0), AVal.at (Value.int IntKind.i64 n1), AVal.at (Value.int IntKind.i64 (0 : Int)), AVal.at (Value.int IntKind.i64 (0 : Int)),
                AVal.at (Value.int IntKind.i64 (0 : Int)), AVal.at (Value.int IntKind.i64 (0 : Int)), AVal.at (Value.int IntKind.i64 (0 : Int)), AVal.at (Value.int IntKind.i64 (0 : Int)),
                AVal.at (Value.int IntKind.i64 (0 : Int)), AVal.at (Value.int IntKind.i64 (0 : Int)), AVal.at (Value.int IntKind.i64 (0 : Int))]]
          sg2)
        (fun (v : AVal) (sg' : Sg) =>
          withI IntKind.i64 (some v) fun (n : Int) =>
            if (n != (0 : Int)) = true then
              some
                (Out.ret
                  (AVal.tup
                    [AVal.agg
                        [AVal.at (Value.int IntKind.i64 (0 : Int)), AVal.at (Value.int IntKind.i64 (0 : Int)), AVal.at (Value.int IntKind.i64 (0 : Int)), AVal.at (Value.int IntKind.i64 (0 : Int)),
                          AVal.at (Value.int IntKind.i64 (0 : Int)), AVal.at (Value.int IntKind.i64 (0 : Int)), AVal.at (Value.int IntKind.i64 (0 : Int)), AVal.at (Value.int IntKind.i64 (0 : Int)),
                          AVal.at (Value.int IntKind.i64 (0 : Int)), AVal.at (Value.int IntKind.i64 (0 : Int)), AVal.at (Value.int IntKind.i64 (0 : Int))],
                      AVal.at (Value.int IntKind.i64 n)])
                  sg')
            else
              some
                (Out.ret
                  (AVal.tup
                    [AVal.agg
                        [AVal.at (Value.int IntKind.i64 n0), AVal.at (Value.int IntKind.i64 n1), AVal.at (Value.int IntKind.i64 (0 : Int)), AVal.at (Value.int IntKind.i64 (0 : Int)),
                          AVal.at (Value.int IntKind.i64 (0 : Int)), AVal.at (Value.int IntKind.i64 (0 : Int)), AVal.at (Value.int IntKind.i64 (0 : Int)), AVal.at (Value.int IntKind.i64 (0 : Int)),
                          AVal.at (Value.int IntKind.i64 (0 : Int)), AVal.at (Value.int IntKind.i64 (0 : Int)), AVal.at (Value.int IntKind.i64 (0 : Int))],
                      AVal.at (Value.int IntKind.i64 (0 : Int))])
                  sg'))
        fun (v : AVal) (sg' : Sg) => some (Out.pan v sg') := by kernel_rfl


/-! 13 wharfage/wharfageref26.Right -/
theorem ref26_Right.main (C : CallF) (N : Nat) (l0 : List AVal) (sg1 : Sg) :
    evalF C N ref26_Right.a [AVal.agg l0] sg1 =
    withI IntKind.i64 l0[(0 : Nat)]? fun (n : Int) =>
      if decide (n < (1 : Int)) = false then
        withI IntKind.i64 l0[(0 : Nat)]? fun (n : Int) =>
          if decide (n > (8 : Int)) = false then
            withI IntKind.i64 l0[(1 : Nat)]? fun (n : Int) =>
              if decide (n < (1 : Int)) = false then
                withI IntKind.i64 l0[(1 : Nat)]? fun (n : Int) =>
                  if decide (n > (65536 : Int)) = false then
                    withI IntKind.i64 l0[(2 : Nat)]? fun (n : Int) =>
                      if decide (n < (0 : Int)) = false then
                        withI IntKind.i64 l0[(2 : Nat)]? fun (n : Int) =>
                          withI IntKind.i64 l0[(0 : Nat)]? fun (n_1 : Int) =>
                            if decide (n ≥ n_1) = true then some (Out.ret (AVal.at (Value.bool false)) sg1)
                            else
                              iter (ref26_Right.R0 C N) N
                                (mkS [(1 : Nat), (3 : Nat)] [Slot.lp (1 : Nat) (0 : Nat), Slot.v (AVal.at (Value.int IntKind.i64 (0 : Int))) false] [some { cells := l0 }, none] (RVal.sg sg1))
                                (ref26_Right.K0 C N)
                      else some (Out.ret (AVal.at (Value.bool false)) sg1)
                  else some (Out.ret (AVal.at (Value.bool false)) sg1)
              else some (Out.ret (AVal.at (Value.bool false)) sg1)
          else some (Out.ret (AVal.at (Value.bool false)) sg1)
      else some (Out.ret (AVal.at (Value.bool false)) sg1) := by kernel_rfl
theorem ref26_Right.r0 (C : CallF) (N : Nat) (n0 : Int) (l1 : List AVal) (sg2 : Sg) (k : Ex → St → R) :
    ref26_Right.R0 C N (mkS [(1 : Nat), (3 : Nat)] [Slot.lp (1 : Nat) (0 : Nat), Slot.v (AVal.at (Value.int IntKind.i64 n0)) false] [some { cells := l1 }, none] (RVal.sg sg2)) k =
    if decide (n0 < (8 : Int)) = true then
      if (0 : Int) ≤ n0 ∧ n0 < (↑(8 : Nat) : Int) then
        withI IntKind.i64 l1[(3 : Nat) + n0.toNat * (1 : Nat)]? fun (n : Int) =>
          if decide (n < (0 : Int)) = false then
            if (0 : Int) ≤ n0 ∧ n0 < (↑(8 : Nat) : Int) then
              withI IntKind.i64 l1[(3 : Nat) + n0.toNat * (1 : Nat)]? fun (n : Int) =>
                withI IntKind.i64 l1[(1 : Nat)]? fun (n_1 : Int) =>
                  withI IntKind.i64 l1[(1 : Nat)]? fun (n_2 : Int) =>
                    if decide (n > IntKind.i64.wrap (n_1 + n_2)) = false then
                      if (0 : Int) ≤ n0 ∧ n0 < (↑(8 : Nat) : Int) then
                        withI IntKind.i64 l1[(3 : Nat) + n0.toNat * (1 : Nat)]? fun (n : Int) =>
                          withI IntKind.i64 l1[(1 : Nat)]? fun (n_3 : Int) =>
                            if decide (n > n_3) = true then
                              withI IntKind.i64 l1[(2 : Nat)]? fun (n : Int) =>
                                if (n0 != n) = false then
                                  withI IntKind.i64 l1[(0 : Nat)]? fun (n : Int) =>
                                    if decide (n0 ≥ n) = true then
                                      if (0 : Int) ≤ n0 ∧ n0 < (↑(8 : Nat) : Int) then
                                        withI IntKind.i64 l1[(3 : Nat) + n0.toNat * (1 : Nat)]? fun (n : Int) =>
                                          if (n != (0 : Int)) = true then k Ex.ret (mkS [(2 : Nat)] [Slot.v (AVal.at (Value.bool false)) false] [none] (RVal.sg sg2))
                                          else
                                            k Ex.normal
                                              (mkS [(1 : Nat), (3 : Nat)] [Slot.lp (1 : Nat) (0 : Nat), Slot.v (AVal.at (Value.int IntKind.i64 (IntKind.i64.wrap (n0 + (1 : Int))))) false]
                                                [some { cells := l1 }, none] (RVal.sg sg2))
                                      else none
                                    else
                                      k Ex.normal
                                        (mkS [(1 : Nat), (3 : Nat)] [Slot.lp (1 : Nat) (0 : Nat), Slot.v (AVal.at (Value.int IntKind.i64 (IntKind.i64.wrap (n0 + (1 : Int))))) false]
                                          [some { cells := l1 }, none] (RVal.sg sg2))
                                else k Ex.ret (mkS [(2 : Nat)] [Slot.v (AVal.at (Value.bool false)) false] [none] (RVal.sg sg2))
                            else
                              withI IntKind.i64 l1[(0 : Nat)]? fun (n : Int) =>
                                if decide (n0 ≥ n) = true then
                                  if (0 : Int) ≤ n0 ∧ n0 < (↑(8 : Nat) : Int) then
                                    withI IntKind.i64 l1[(3 : Nat) + n0.toNat * (1 : Nat)]? fun (n : Int) =>
                                      if (n != (0 : Int)) = true then k Ex.ret (mkS [(2 : Nat)] [Slot.v (AVal.at (Value.bool false)) false] [none] (RVal.sg sg2))
                                      else
                                        k Ex.normal
                                          (mkS [(1 : Nat), (3 : Nat)] [Slot.lp (1 : Nat) (0 : Nat), Slot.v (AVal.at (Value.int IntKind.i64 (IntKind.i64.wrap (n0 + (1 : Int))))) false]
                                            [some { cells := l1 }, none] (RVal.sg sg2))
                                  else none
                                else
                                  k Ex.normal
                                    (mkS [(1 : Nat), (3 : Nat)] [Slot.lp (1 : Nat) (0 : Nat), Slot.v (AVal.at (Value.int IntKind.i64 (IntKind.i64.wrap (n0 + (1 : Int))))) false]
                                      [some { cells := l1 }, none] (RVal.sg sg2))
                      else none
                    else k Ex.ret (mkS [(2 : Nat)] [Slot.v (AVal.at (Value.bool false)) false] [none] (RVal.sg sg2))
            else none
          else k Ex.ret (mkS [(2 : Nat)] [Slot.v (AVal.at (Value.bool false)) false] [none] (RVal.sg sg2))
      else none
    else k (Ex.exit (0 : Nat)) (mkS [] [] [] (RVal.sg sg2)) := by kernel_rfl
theorem ref26_Right.k0_1 (C : CallF) (N : Nat) (b0 : Bool) (sg1 : Sg) :
    ref26_Right.K0 C N Ex.ret (mkS [(2 : Nat)] [Slot.v (AVal.at (Value.bool b0)) false] [none] (RVal.sg sg1)) =
    some (Out.ret (AVal.at (Value.bool b0)) sg1) := by kernel_rfl
theorem ref26_Right.k0_2 (C : CallF) (N : Nat) (sg0 : Sg) :
    ref26_Right.K0 C N (Ex.exit (0 : Nat)) (mkS [] [] [] (RVal.sg sg0)) =
    some (Out.ret (AVal.at (Value.bool true)) sg0) := by kernel_rfl


/-! 15 wharfage/drr.Check -/
theorem drr_Check.main (C : CallF) (N : Nat) (l0 : List AVal) (sg1 : Sg) :
    evalF C N drr_Check.a [AVal.agg l0] sg1 =
    withI IntKind.i64 l0[(0 : Nat)]? fun (n : Int) =>
      if decide (n < (1 : Int)) = false then
        withI IntKind.i64 l0[(0 : Nat)]? fun (n : Int) =>
          if decide (n > (8 : Int)) = false then
            withI IntKind.i64 l0[(1 : Nat)]? fun (n : Int) =>
              if decide (n < (1 : Int)) = false then
                withI IntKind.i64 l0[(1 : Nat)]? fun (n : Int) =>
                  if decide (n > (65536 : Int)) = false then
                    withI IntKind.i64 l0[(2 : Nat)]? fun (n : Int) =>
                      if decide (n < (0 : Int)) = false then
                        withI IntKind.i64 l0[(2 : Nat)]? fun (n : Int) =>
                          withI IntKind.i64 l0[(0 : Nat)]? fun (n_1 : Int) =>
                            if decide (n ≥ n_1) = true then some (Out.ret (AVal.at (Value.int IntKind.i64 (18 : Int))) sg1)
                            else
                              bif Nat.ble (11 : Nat) l0.length then
                                bindL (List.take (8 : Nat) (List.drop (3 : Nat) l0)) fun (l : List AVal) =>
                                  iter (drr_Check.R0 C N) N
                                    (mkS [(1 : Nat), (36 : Nat), (37 : Nat)] [Slot.lp (1 : Nat) (0 : Nat), Slot.v (AVal.agg l) false, Slot.v (AVal.at (Value.int IntKind.i64 (0 : Int))) false]
                                      [some { cells := l0 }, none, none] (RVal.sg sg1))
                                    (drr_Check.K0 C N)
                              else none
                      else some (Out.ret (AVal.at (Value.int IntKind.i64 (18 : Int))) sg1)
                  else some (Out.ret (AVal.at (Value.int IntKind.i64 (18 : Int))) sg1)
              else some (Out.ret (AVal.at (Value.int IntKind.i64 (18 : Int))) sg1)
          else some (Out.ret (AVal.at (Value.int IntKind.i64 (18 : Int))) sg1)
      else some (Out.ret (AVal.at (Value.int IntKind.i64 (18 : Int))) sg1) := by kernel_rfl
theorem drr_Check.r0 (C : CallF) (N : Nat) (l0 : List AVal) (n1 : Int) (l2 : List AVal) (sg3 : Sg) (k : Ex → St → R) :
    drr_Check.R0 C N
      (mkS [(1 : Nat), (36 : Nat), (37 : Nat)] [Slot.lp (1 : Nat) (0 : Nat), Slot.v (AVal.agg l0) false, Slot.v (AVal.at (Value.int IntKind.i64 n1)) false] [some { cells := l2 }, none, none]
        (RVal.sg sg3))
      k =
    if decide (n1 < (8 : Int)) = true then
      if (0 : Int) ≤ n1 ∧ n1 < (↑(8 : Nat) : Int) then
        withI IntKind.i64 l0[n1.toNat * (1 : Nat)]? fun (n : Int) =>
          if decide (n < (0 : Int)) = false then
            bif Nat.ble (11 : Nat) l2.length then
              bindL (List.take (11 : Nat) l2) fun (l : List AVal) =>
                withOut (C (36 : Nat) [AVal.agg l, AVal.at (Value.int IntKind.i64 n1)] sg3)
                  (fun (v : AVal) (sg' : Sg) =>
                    withI IntKind.i64 (some v) fun (n_1 : Int) =>
                      if decide (n > n_1) = true then k Ex.ret (mkS [(2 : Nat)] [Slot.v (AVal.at (Value.int IntKind.i64 (18 : Int))) false] [none] (RVal.sg sg'))
                      else
                        k Ex.normal
                          (mkS [(1 : Nat), (36 : Nat), (37 : Nat)]
                            [Slot.lp (1 : Nat) (0 : Nat), Slot.v (AVal.agg l0) false, Slot.v (AVal.at (Value.int IntKind.i64 (IntKind.i64.wrap (n1 + (1 : Int))))) false] [some { cells := l2 }, none, none]
                            (RVal.sg sg')))
                  fun (v : AVal) (sg' : Sg) => some (Out.pan v sg')
            else none
          else k Ex.ret (mkS [(2 : Nat)] [Slot.v (AVal.at (Value.int IntKind.i64 (18 : Int))) false] [none] (RVal.sg sg3))
      else none
    else k (Ex.exit (0 : Nat)) (mkS [] [] [] (RVal.sg sg3)) := by kernel_rfl
theorem drr_Check.k0_1 (C : CallF) (N : Nat) (n0 : Int) (sg1 : Sg) :
    drr_Check.K0 C N Ex.ret (mkS [(2 : Nat)] [Slot.v (AVal.at (Value.int IntKind.i64 n0)) false] [none] (RVal.sg sg1)) =
    some (Out.ret (AVal.at (Value.int IntKind.i64 n0)) sg1) := by kernel_rfl
theorem drr_Check.k0_2 (C : CallF) (N : Nat) (sg0 : Sg) :
    drr_Check.K0 C N (Ex.exit (0 : Nat)) (mkS [] [] [] (RVal.sg sg0)) =
    some (Out.ret (AVal.at (Value.int IntKind.i64 (0 : Int))) sg0) := by kernel_rfl


/-! 32 (wharfage/drr.Turns).some -/
theorem drr_Turns_some.main (C : CallF) (N : Nat) (l0 : List AVal) (l1 : List AVal) (sg2 : Sg) :
    evalF C N drr_Turns_some.a [AVal.agg l0, AVal.agg l1] sg2 =
    withI IntKind.i64 l0[(0 : Nat)]? fun (n : Int) =>
      iter (drr_Turns_some.R0 C N) N
        (mkS [(2 : Nat), (3 : Nat), (7 : Nat), (8 : Nat)]
          [Slot.lp (2 : Nat) (0 : Nat), Slot.lp (3 : Nat) (0 : Nat), Slot.v (AVal.at (Value.int IntKind.i64 n)) false, Slot.v (AVal.at (Value.int IntKind.i64 (0 : Int))) false]
          [some { cells := l0 }, some { cells := l1 }, none, none] (RVal.sg sg2))
        (drr_Turns_some.K0 C N) := by kernel_rfl
theorem drr_Turns_some.r0 (C : CallF) (N : Nat) (n0 : Int) (n1 : Int) (l2 : List AVal) (l3 : List AVal) (sg4 : Sg) (k : Ex → St → R) :
    drr_Turns_some.R0 C N
      (mkS [(2 : Nat), (3 : Nat), (7 : Nat), (8 : Nat)]
        [Slot.lp (2 : Nat) (0 : Nat), Slot.lp (3 : Nat) (0 : Nat), Slot.v (AVal.at (Value.int IntKind.i64 n0)) false, Slot.v (AVal.at (Value.int IntKind.i64 n1)) false]
        [some { cells := l2 }, some { cells := l3 }, none, none] (RVal.sg sg4))
      k =
    if decide (n1 < n0) = true then
      bif Nat.ble (11 : Nat) l2.length then
        bindL (List.take (11 : Nat) l2) fun (l : List AVal) =>
          bif Nat.ble (8 : Nat) l3.length then
            bindL (List.take (8 : Nat) l3) fun (l_1 : List AVal) =>
              withOut (C (33 : Nat) [AVal.agg l, AVal.agg l_1, AVal.at (Value.int IntKind.i64 n1)] sg4)
                (fun (v : AVal) (sg' : Sg) =>
                  withI IntKind.i64 (some v) fun (n : Int) =>
                    if decide (n > (0 : Int)) = true then k Ex.ret (mkS [(4 : Nat)] [Slot.v (AVal.at (Value.bool true)) false] [none] (RVal.sg sg'))
                    else
                      k Ex.normal
                        (mkS [(2 : Nat), (3 : Nat), (7 : Nat), (8 : Nat)]
                          [Slot.lp (2 : Nat) (0 : Nat), Slot.lp (3 : Nat) (0 : Nat), Slot.v (AVal.at (Value.int IntKind.i64 n0)) false,
                            Slot.v (AVal.at (Value.int IntKind.i64 (IntKind.i64.wrap (n1 + (1 : Int))))) false]
                          [some { cells := l2 }, some { cells := l3 }, none, none] (RVal.sg sg')))
                fun (v : AVal) (sg' : Sg) => some (Out.pan v sg')
          else none
      else none
    else k (Ex.exit (0 : Nat)) (mkS [] [] [] (RVal.sg sg4)) := by kernel_rfl
theorem drr_Turns_some.k0_1 (C : CallF) (N : Nat) (b0 : Bool) (sg1 : Sg) :
    drr_Turns_some.K0 C N Ex.ret (mkS [(4 : Nat)] [Slot.v (AVal.at (Value.bool b0)) false] [none] (RVal.sg sg1)) =
    some (Out.ret (AVal.at (Value.bool b0)) sg1) := by kernel_rfl
theorem drr_Turns_some.k0_2 (C : CallF) (N : Nat) (sg0 : Sg) :
    drr_Turns_some.K0 C N (Ex.exit (0 : Nat)) (mkS [] [] [] (RVal.sg sg0)) =
    some (Out.ret (AVal.at (Value.bool false)) sg0) := by kernel_rfl


/-! 33 (wharfage/drr.Turns).cost -/
theorem drr_Turns_cost.main (C : CallF) (N : Nat) (l0 : List AVal) (l1 : List AVal) (n2 : Int) (sg3 : Sg) :
    evalF C N drr_Turns_cost.a [AVal.agg l0, AVal.agg l1, AVal.at (Value.int IntKind.i64 n2)] sg3 =
    if (0 : Int) ≤ n2 ∧ n2 < (↑(8 : Nat) : Int) then
      withI IntKind.i64 l1[(0 : Nat) + n2.toNat * (1 : Nat)]? fun (n : Int) =>
        withI IntKind.i64 l0[(1 : Nat)]? fun (n_1 : Int) =>
          some
            (Out.ret (AVal.at (Value.int IntKind.i64 (bif false then max2 (bif true then max2 n (0 : Int) else min2 n (0 : Int)) n_1 else min2 (bif true then max2 n (0 : Int) else min2 n (0 : Int)) n_1)))
              sg3)
    else none := by kernel_rfl


/-! 34 (wharfage/drr.Turns).move -/
theorem drr_Turns_move.main (C : CallF) (N : Nat) (l0 : List AVal) (l1 : List AVal) (sg2 : Sg) :
    evalF C N drr_Turns_move.a [AVal.agg l0, AVal.agg l1] sg2 =
    withI IntKind.i64 l0[(2 : Nat)]? fun (n : Int) =>
      withI IntKind.i64 l0[(0 : Nat)]? fun (n_1 : Int) =>
        if n_1 = (0 : Int) then none
        else
          bif Nat.ble (3 : Nat) l0.length then
            bindL (splice l0 (2 : Nat) [AVal.at (Value.int IntKind.i64 ((IntKind.i64.wrap (n + (1 : Int))).tmod n_1))]) fun (cs : List AVal) =>
              bif Nat.ble (11 : Nat) cs.length then
                bindL (List.take (11 : Nat) cs) fun (l : List AVal) =>
                  bif Nat.ble (8 : Nat) l1.length then
                    bindL (List.take (8 : Nat) l1) fun (l_1 : List AVal) =>
                      withI IntKind.i64 cs[(2 : Nat)]? fun (n : Int) =>
                        withOut (C (33 : Nat) [AVal.agg l, AVal.agg l_1, AVal.at (Value.int IntKind.i64 n)] sg2)
                          (fun (v : AVal) (sg' : Sg) =>
                            withI IntKind.i64 (some v) fun (n : Int) =>
                              if decide (n > (0 : Int)) = true then
                                withI IntKind.i64 cs[(2 : Nat)]? fun (n : Int) =>
                                  if (0 : Int) ≤ n ∧ n < (↑(8 : Nat) : Int) then
                                    withI IntKind.i64 cs[(3 : Nat) + n.toNat * (1 : Nat)]? fun (n_2 : Int) =>
                                      withI IntKind.i64 cs[(1 : Nat)]? fun (n_3 : Int) =>
                                        if (0 : Int) ≤ n ∧ n < (↑(8 : Nat) : Int) then
                                          bif ((3 : Nat) + n.toNat * (1 : Nat) + (1 : Nat)).ble cs.length then
                                            bindL (splice cs ((3 : Nat) + n.toNat * (1 : Nat)) [AVal.at (Value.int IntKind.i64 (IntKind.i64.wrap (n_2 + n_3)))]) fun (cs : List AVal) =>
                                              bif Nat.ble (11 : Nat) cs.length then
                                                bindL (List.take (11 : Nat) cs) fun (l : List AVal) =>
                                                  bif l.length.beq (11 : Nat) then
                                                    bindL
                                                      (splice
                                                        [AVal.at (Value.int IntKind.i64 (0 : Int)), AVal.at (Value.int IntKind.i64 (0 : Int)), AVal.at (Value.int IntKind.i64 (0 : Int)),
                                                          AVal.at (Value.int IntKind.i64 (0 : Int)), AVal.at (Value.int IntKind.i64 (0 : Int)), AVal.at (Value.int IntKind.i64 (0 : Int)),
                                                          AVal.at (Value.int IntKind.i64 (0 : Int)), AVal.at (Value.int IntKind.i64 (0 : Int)), AVal.at (Value.int IntKind.i64 (0 : Int)),
                                                          AVal.at (Value.int IntKind.i64 (0 : Int)), AVal.at (Value.int IntKind.i64 (0 : Int))]
                                                        (0 : Nat) l)
                                                      fun (cs : List AVal) =>
                                                      bif Nat.ble (11 : Nat) cs.length then bindL (List.take (11 : Nat) cs) fun (l : List AVal) => some (Out.ret (AVal.agg l) sg') else none
                                                  else none
                                              else none
                                          else none
                                        else none
                                  else none
                              else
                                bif Nat.ble (11 : Nat) cs.length then
                                  bindL (List.take (11 : Nat) cs) fun (l : List AVal) =>
                                    bif l.length.beq (11 : Nat) then
                                      bindL
                                        (splice
                                          [AVal.at (Value.int IntKind.i64 (0 : Int)), AVal.at (Value.int IntKind.i64 (0 : Int)), AVal.at (Value.int IntKind.i64 (0 : Int)),
                                            AVal.at (Value.int IntKind.i64 (0 : Int)), AVal.at (Value.int IntKind.i64 (0 : Int)), AVal.at (Value.int IntKind.i64 (0 : Int)),
                                            AVal.at (Value.int IntKind.i64 (0 : Int)), AVal.at (Value.int IntKind.i64 (0 : Int)), AVal.at (Value.int IntKind.i64 (0 : Int)),
                                            AVal.at (Value.int IntKind.i64 (0 : Int)), AVal.at (Value.int IntKind.i64 (0 : Int))]
                                          (0 : Nat) l)
                                        fun (cs : List AVal) => bif Nat.ble (11 : Nat) cs.length then bindL (List.take (11 : Nat) cs) fun (l : List AVal) => some (Out.ret (AVal.agg l) sg') else none
                                    else none
                                else none)
                          fun (v : AVal) (sg' : Sg) => some (Out.pan v sg')
                  else none
              else none
          else none := by kernel_rfl


/-! 35 wharfage/wharfageref26.Cost -/
theorem ref26_Cost.main (C : CallF) (N : Nat) (n0 : Int) (n1 : Int) (sg2 : Sg) :
    evalF C N ref26_Cost.a [AVal.at (Value.int IntKind.i64 n0), AVal.at (Value.int IntKind.i64 n1)] sg2 =
    if decide (n1 < (0 : Int)) = true then some (Out.ret (AVal.at (Value.int IntKind.i64 (0 : Int))) sg2)
    else if decide (n1 > n0) = true then some (Out.ret (AVal.at (Value.int IntKind.i64 n0)) sg2) else some (Out.ret (AVal.at (Value.int IntKind.i64 n1)) sg2) := by kernel_rfl


/-! 36 (wharfage/drr.Turns).most -/
theorem drr_Turns_most.main (C : CallF) (N : Nat) (l0 : List AVal) (n1 : Int) (sg2 : Sg) :
    evalF C N drr_Turns_most.a [AVal.agg l0, AVal.at (Value.int IntKind.i64 n1)] sg2 =
    withI IntKind.i64 l0[(0 : Nat)]? fun (n : Int) =>
      if decide (n1 ≥ n) = true then some (Out.ret (AVal.at (Value.int IntKind.i64 (0 : Int))) sg2)
      else
        withI IntKind.i64 l0[(2 : Nat)]? fun (n : Int) =>
          if (n1 == n) = true then withI IntKind.i64 l0[(1 : Nat)]? fun (n : Int) => some (Out.ret (AVal.at (Value.int IntKind.i64 (IntKind.i64.wrap ((2 : Int) * n)))) sg2)
          else withI IntKind.i64 l0[(1 : Nat)]? fun (n : Int) => some (Out.ret (AVal.at (Value.int IntKind.i64 n)) sg2) := by kernel_rfl


end Go.Abs
