/- THE RESIDUALS: what each function's evaluation comes to, by the kernel. Printed by a program of my own. -/
import Derived.Test.YtafmbianlodemaaCodeBit
import Derived.KernelRfl
namespace Go.Abs
set_option linter.unusedVariables false
set_option linter.unusedSimpArgs false
set_option linter.unusedSectionVars false
set_option maxRecDepth 100000
/-! 6 wharfage/wharfagelaw10.BitmapTells -/
theorem law10_BitmapTells.main (C : CallF) (N : Nat) (s0 : ByteArray) (n1 : Int) (b2 : Bool) (n3 : Int) (n4 : Int) (sg5 : Sg) :
    evalF C N law10_BitmapTells.a [AVal.at (Value.string s0), AVal.at (Value.int IntKind.i64 n1), AVal.at (Value.bool b2), AVal.at (Value.int IntKind.i64 n3), AVal.at (Value.int IntKind.i64 n4)] sg5 =
    if decide ((↑s0.size : Int) > (4096 : Int)) = true then
      withOut (C (16 : Nat) [] []) (fun (v : AVal) (x : Sg) => withB (some v) fun (b : Bool) => some (Out.ret (AVal.at (Value.bool b)) sg5)) fun (x : AVal) (x_1 : Sg) => none
    else
      withOut (C (17 : Nat) [AVal.at (Value.string s0), AVal.at (Value.int IntKind.i64 n1), AVal.at (Value.bool b2)] [])
        (fun (v : AVal) (x : Sg) =>
          withT v fun (vs : List AVal) =>
            bif vs.length.beq (2 : Nat) then
              withS vs[(0 : Nat)]? fun (s : ByteArray) =>
                withI IntKind.i64 vs[(1 : Nat)]? fun (n : Int) =>
                  withOut (C (18 : Nat) [AVal.at (Value.string s0), AVal.at (Value.int IntKind.i64 n1), AVal.at (Value.bool b2)] [])
                    (fun (v : AVal) (x : Sg) =>
                      withT v fun (vs : List AVal) =>
                        bif vs.length.beq (2 : Nat) then
                          withS vs[(0 : Nat)]? fun (s_1 : ByteArray) =>
                            withI IntKind.i64 vs[(1 : Nat)]? fun (n_1 : Int) =>
                              withOut (C (16 : Nat) [] [])
                                (fun (v : AVal) (x : Sg) =>
                                  withB (some v) fun (b : Bool) =>
                                    if b = true then
                                      withOut (C (19 : Nat) [AVal.at (Value.string s0), AVal.at (Value.int IntKind.i64 n1)] [])
                                        (fun (v : AVal) (x : Sg) =>
                                          withB (some v) fun (b : Bool) =>
                                            withOut (C (20 : Nat) [AVal.at (Value.string s0), AVal.at (Value.int IntKind.i64 n1)] [])
                                              (fun (v : AVal) (x : Sg) =>
                                                withB (some v) fun (b_1 : Bool) =>
                                                  if (false ^^ b == b_1) = true then
                                                    if (s.toList == s_1.toList) = true then
                                                      if (n == n_1) = true then
                                                        withOut (C (21 : Nat) [AVal.at (Value.string s0), AVal.at (Value.int IntKind.i64 n3), AVal.at (Value.int IntKind.i64 n4)] [])
                                                          (fun (v : AVal) (x : Sg) =>
                                                            withI IntKind.i64 (some v) fun (n : Int) =>
                                                              withOut (C (22 : Nat) [AVal.at (Value.string s0), AVal.at (Value.int IntKind.i64 n3), AVal.at (Value.int IntKind.i64 n4)] [])
                                                                (fun (v : AVal) (x : Sg) => withI IntKind.i64 (some v) fun (n_2 : Int) => some (Out.ret (AVal.at (Value.bool (n == n_2))) sg5))
                                                                fun (x : AVal) (x_1 : Sg) => none)
                                                          fun (x : AVal) (x_1 : Sg) => none
                                                      else some (Out.ret (AVal.at (Value.bool false)) sg5)
                                                    else some (Out.ret (AVal.at (Value.bool false)) sg5)
                                                  else some (Out.ret (AVal.at (Value.bool false)) sg5))
                                              fun (x : AVal) (x_1 : Sg) => none)
                                        fun (x : AVal) (x_1 : Sg) => none
                                    else some (Out.ret (AVal.at (Value.bool false)) sg5))
                                fun (x : AVal) (x_1 : Sg) => none
                        else none)
                    fun (x : AVal) (x_1 : Sg) => none
            else none)
        fun (x : AVal) (x_1 : Sg) => none := by kernel_rfl


/-! 17 wharfage/bitmap.Set -/
theorem bitmap_Set.main (C : CallF) (N : Nat) (s0 : ByteArray) (n1 : Int) (b2 : Bool) (sg3 : Sg) :
    evalF C N bitmap_Set.a [AVal.at (Value.string s0), AVal.at (Value.int IntKind.i64 n1), AVal.at (Value.bool b2)] sg3 =
    withOut (C (37 : Nat) [AVal.at (Value.string s0)] sg3)
      (fun (v : AVal) (sg' : Sg) =>
        withB (some v) fun (b : Bool) =>
          if (!b) = false then
            withOut (C (38 : Nat) [AVal.at (Value.int IntKind.i64 n1)] sg')
              (fun (v : AVal) (sg' : Sg) =>
                withB (some v) fun (b : Bool) =>
                  if (!b) = true then some (Out.ret (AVal.tup [AVal.at (Value.string (ByteArray.mk (#[]))), AVal.at (Value.int IntKind.i64 (18 : Int))]) sg')
                  else
                    if (8 : Int) = (0 : Int) then none
                    else
                      if (0 : Int) ≤ IntKind.i64.wrap (n1.tdiv (8 : Int)) ∧ IntKind.i64.wrap (n1.tdiv (8 : Int)) < (↑s0.size : Int) then
                        withI IntKind.u8 (ofBytes s0.data.toList)[(0 : Nat) + (IntKind.i64.wrap (n1.tdiv (8 : Int))).toNat * (1 : Nat)]? fun (n : Int) =>
                          if (8 : Int) = (0 : Int) then none
                          else
                            if n1.tmod (8 : Int) < (0 : Int) then none
                            else
                              if (0 : Int) ≤ IntKind.i64.wrap (n1.tdiv (8 : Int)) ∧ IntKind.i64.wrap (n1.tdiv (8 : Int)) < (↑s0.size : Int) then
                                bif ((0 : Nat) + (IntKind.i64.wrap (n1.tdiv (8 : Int))).toNat * (1 : Nat) + (1 : Nat)).ble (ofBytes s0.data.toList).length then
                                  bindL
                                    (splice (ofBytes s0.data.toList) ((0 : Nat) + (IntKind.i64.wrap (n1.tdiv (8 : Int))).toNat * (1 : Nat))
                                      [AVal.at (Value.int IntKind.u8 (bitsI BinOp.andNot IntKind.u8 n (shiftI BinOp.shl IntKind.u8 (1 : Int) (n1.tmod (8 : Int)))))])
                                    fun (cs : List AVal) =>
                                    if b2 = true then
                                      if (8 : Int) = (0 : Int) then none
                                      else
                                        if (0 : Int) ≤ IntKind.i64.wrap (n1.tdiv (8 : Int)) ∧ IntKind.i64.wrap (n1.tdiv (8 : Int)) < (↑s0.size : Int) then
                                          withI IntKind.u8 cs[(0 : Nat) + (IntKind.i64.wrap (n1.tdiv (8 : Int))).toNat * (1 : Nat)]? fun (n : Int) =>
                                            if (8 : Int) = (0 : Int) then none
                                            else
                                              if n1.tmod (8 : Int) < (0 : Int) then none
                                              else
                                                if (0 : Int) ≤ IntKind.i64.wrap (n1.tdiv (8 : Int)) ∧ IntKind.i64.wrap (n1.tdiv (8 : Int)) < (↑s0.size : Int) then
                                                  bif ((0 : Nat) + (IntKind.i64.wrap (n1.tdiv (8 : Int))).toNat * (1 : Nat) + (1 : Nat)).ble cs.length then
                                                    bindL
                                                      (splice cs ((0 : Nat) + (IntKind.i64.wrap (n1.tdiv (8 : Int))).toNat * (1 : Nat))
                                                        [AVal.at (Value.int IntKind.u8 (bitsI BinOp.or IntKind.u8 n (shiftI BinOp.shl IntKind.u8 (1 : Int) (n1.tmod (8 : Int)))))])
                                                      fun (cs : List AVal) =>
                                                      withO (bytesOf (List.take s0.size cs)) fun (bs : List UInt8) =>
                                                        if bs.length = s0.size then some (Out.ret (AVal.tup [AVal.at (Value.string (ByteArray.mk (bs.toArray))), AVal.at (Value.int IntKind.i64 (0 : Int))]) sg')
                                                        else none
                                                  else none
                                                else none
                                        else none
                                    else
                                      withO (bytesOf (List.take s0.size cs)) fun (bs : List UInt8) =>
                                        if bs.length = s0.size then some (Out.ret (AVal.tup [AVal.at (Value.string (ByteArray.mk (bs.toArray))), AVal.at (Value.int IntKind.i64 (0 : Int))]) sg') else none
                                else none
                              else none
                      else none)
              fun (v : AVal) (sg' : Sg) => some (Out.pan v sg')
          else some (Out.ret (AVal.tup [AVal.at (Value.string (ByteArray.mk (#[]))), AVal.at (Value.int IntKind.i64 (18 : Int))]) sg'))
      fun (v : AVal) (sg' : Sg) => some (Out.pan v sg') := by kernel_rfl


/-! 18 wharfage/wharfageref10.Set -/
theorem ref10_Set.main (C : CallF) (N : Nat) (s0 : ByteArray) (n1 : Int) (b2 : Bool) (sg3 : Sg) :
    evalF C N ref10_Set.a [AVal.at (Value.string s0), AVal.at (Value.int IntKind.i64 n1), AVal.at (Value.bool b2)] sg3 =
    if ((↑s0.size : Int) != (480 : Int)) = false then
      if decide (n1 < (0 : Int)) = false then
        if decide (n1 > (3839 : Int)) = true then some (Out.ret (AVal.tup [AVal.at (Value.string (ByteArray.mk (#[]))), AVal.at (Value.int IntKind.i64 (18 : Int))]) sg3)
        else
          iter (ref10_Set.R0 C N) N
            (mkS [(0 : Nat), (1 : Nat), (2 : Nat), (8 : Nat), (9 : Nat)]
              [Slot.v (AVal.at (Value.string s0)) false, Slot.v (AVal.at (Value.int IntKind.i64 n1)) false, Slot.v (AVal.at (Value.bool b2)) false,
                Slot.v (AVal.at (Value.int IntKind.i64 (1 : Int))) false, Slot.v (AVal.at (Value.int IntKind.i64 (0 : Int))) false]
              [none, none, none, none, none] (RVal.sg sg3))
            (ref10_Set.K0 C N)
      else some (Out.ret (AVal.tup [AVal.at (Value.string (ByteArray.mk (#[]))), AVal.at (Value.int IntKind.i64 (18 : Int))]) sg3)
    else some (Out.ret (AVal.tup [AVal.at (Value.string (ByteArray.mk (#[]))), AVal.at (Value.int IntKind.i64 (18 : Int))]) sg3) := by kernel_rfl
theorem ref10_Set.r0 (C : CallF) (N : Nat) (s0 : ByteArray) (n1 : Int) (b2 : Bool) (n3 : Int) (n4 : Int) (sg5 : Sg) (k : Ex → St → R) :
    ref10_Set.R0 C N
      (mkS [(0 : Nat), (1 : Nat), (2 : Nat), (8 : Nat), (9 : Nat)]
        [Slot.v (AVal.at (Value.string s0)) false, Slot.v (AVal.at (Value.int IntKind.i64 n1)) false, Slot.v (AVal.at (Value.bool b2)) false, Slot.v (AVal.at (Value.int IntKind.i64 n3)) false,
          Slot.v (AVal.at (Value.int IntKind.i64 n4)) false]
        [none, none, none, none, none] (RVal.sg sg5))
      k =
    if (8 : Int) = (0 : Int) then none
    else
      if decide (n4 < n1.tmod (8 : Int)) = true then
        k Ex.normal
          (mkS [(0 : Nat), (1 : Nat), (2 : Nat), (8 : Nat), (9 : Nat)]
            [Slot.v (AVal.at (Value.string s0)) false, Slot.v (AVal.at (Value.int IntKind.i64 n1)) false, Slot.v (AVal.at (Value.bool b2)) false,
              Slot.v (AVal.at (Value.int IntKind.i64 (IntKind.i64.wrap ((2 : Int) * n3)))) false, Slot.v (AVal.at (Value.int IntKind.i64 (IntKind.i64.wrap (n4 + (1 : Int))))) false]
            [none, none, none, none, none] (RVal.sg sg5))
      else
        k (Ex.exit (0 : Nat))
          (mkS [(0 : Nat), (1 : Nat), (2 : Nat), (8 : Nat)]
            [Slot.v (AVal.at (Value.string s0)) false, Slot.v (AVal.at (Value.int IntKind.i64 n1)) false, Slot.v (AVal.at (Value.bool b2)) false, Slot.v (AVal.at (Value.int IntKind.i64 n3)) false]
            [none, none, none, none] (RVal.sg sg5)) := by kernel_rfl
theorem ref10_Set.k0_1 (C : CallF) (N : Nat) (s0 : ByteArray) (n1 : Int) (b2 : Bool) (n3 : Int) (sg4 : Sg) :
    ref10_Set.K0 C N (Ex.exit (0 : Nat))
      (mkS [(0 : Nat), (1 : Nat), (2 : Nat), (8 : Nat)]
        [Slot.v (AVal.at (Value.string s0)) false, Slot.v (AVal.at (Value.int IntKind.i64 n1)) false, Slot.v (AVal.at (Value.bool b2)) false, Slot.v (AVal.at (Value.int IntKind.i64 n3)) false]
        [none, none, none, none] (RVal.sg sg4)) =
    if (8 : Int) = (0 : Int) then none
    else
      if (0 : Int) ≤ IntKind.i64.wrap (n1.tdiv (8 : Int)) ∧ IntKind.i64.wrap (n1.tdiv (8 : Int)) < (↑s0.size : Int) then
        withOut (C (20 : Nat) [AVal.at (Value.string s0), AVal.at (Value.int IntKind.i64 n1)] sg4)
          (fun (v : AVal) (sg' : Sg) =>
            withB (some v) fun (b : Bool) =>
              if b = true then
                if b2 = true then
                  if (8 : Int) = (0 : Int) then none
                  else
                    if (0 : Int) ≤ (0 : Int) ∧ (0 : Int) ≤ IntKind.i64.wrap (n1.tdiv (8 : Int)) ∧ IntKind.i64.wrap (n1.tdiv (8 : Int)) ≤ (↑s0.size : Int) then
                      withO
                        (bytesOf
                          [AVal.at
                              (Value.int IntKind.u8
                                (IntKind.u8.wrap
                                  (IntKind.i64.wrap (IntKind.i64.wrap (IntKind.i64.wrap (↑(s0.data.getD (IntKind.i64.wrap (n1.tdiv (8 : Int))).toNat (0 : UInt8)).toNat : Int) - n3) + n3))))])
                        fun (bs : List UInt8) =>
                        if (↑((s0.extract (Int.toNat (0 : Int)) (IntKind.i64.wrap (n1.tdiv (8 : Int))).toNat).size + (ByteArray.mk (bs.toArray)).size) : Int) > IntKind.i64.max then none
                        else
                          if (8 : Int) = (0 : Int) then none
                          else
                            if
                                (0 : Int) ≤ IntKind.i64.wrap (IntKind.i64.wrap (n1.tdiv (8 : Int)) + (1 : Int)) ∧
                                  IntKind.i64.wrap (IntKind.i64.wrap (n1.tdiv (8 : Int)) + (1 : Int)) ≤ (↑s0.size : Int) ∧ (↑s0.size : Int) ≤ (↑s0.size : Int) then
                              if
                                  (↑((s0.extract (Int.toNat (0 : Int)) (IntKind.i64.wrap (n1.tdiv (8 : Int))).toNat ++ (ByteArray.mk (bs.toArray))).size +
                                          (s0.extract (IntKind.i64.wrap (IntKind.i64.wrap (n1.tdiv (8 : Int)) + (1 : Int))).toNat (↑s0.size : Int).toNat).size) :
                                      Int) >
                                    IntKind.i64.max then
                                none
                              else
                                some
                                  (Out.ret
                                    (AVal.tup
                                      [AVal.at
                                          (Value.string
                                            (s0.extract (Int.toNat (0 : Int)) (IntKind.i64.wrap (n1.tdiv (8 : Int))).toNat ++ (ByteArray.mk (bs.toArray)) ++
                                              s0.extract (IntKind.i64.wrap (IntKind.i64.wrap (n1.tdiv (8 : Int)) + (1 : Int))).toNat (↑s0.size : Int).toNat)),
                                        AVal.at (Value.int IntKind.i64 (0 : Int))])
                                    sg')
                            else none
                    else none
                else
                  if (8 : Int) = (0 : Int) then none
                  else
                    if (0 : Int) ≤ (0 : Int) ∧ (0 : Int) ≤ IntKind.i64.wrap (n1.tdiv (8 : Int)) ∧ IntKind.i64.wrap (n1.tdiv (8 : Int)) ≤ (↑s0.size : Int) then
                      withO
                        (bytesOf
                          [AVal.at
                              (Value.int IntKind.u8 (IntKind.u8.wrap (IntKind.i64.wrap (IntKind.i64.wrap (↑(s0.data.getD (IntKind.i64.wrap (n1.tdiv (8 : Int))).toNat (0 : UInt8)).toNat : Int) - n3))))])
                        fun (bs : List UInt8) =>
                        if (↑((s0.extract (Int.toNat (0 : Int)) (IntKind.i64.wrap (n1.tdiv (8 : Int))).toNat).size + (ByteArray.mk (bs.toArray)).size) : Int) > IntKind.i64.max then none
                        else
                          if (8 : Int) = (0 : Int) then none
                          else
                            if
                                (0 : Int) ≤ IntKind.i64.wrap (IntKind.i64.wrap (n1.tdiv (8 : Int)) + (1 : Int)) ∧
                                  IntKind.i64.wrap (IntKind.i64.wrap (n1.tdiv (8 : Int)) + (1 : Int)) ≤ (↑s0.size : Int) ∧ (↑s0.size : Int) ≤ (↑s0.size : Int) then
                              if
                                  (↑((s0.extract (Int.toNat (0 : Int)) (IntKind.i64.wrap (n1.tdiv (8 : Int))).toNat ++ (ByteArray.mk (bs.toArray))).size +
                                          (s0.extract (IntKind.i64.wrap (IntKind.i64.wrap (n1.tdiv (8 : Int)) + (1 : Int))).toNat (↑s0.size : Int).toNat).size) :
                                      Int) >
                                    IntKind.i64.max then
                                none
                              else
                                some
                                  (Out.ret
                                    (AVal.tup
                                      [AVal.at
                                          (Value.string
                                            (s0.extract (Int.toNat (0 : Int)) (IntKind.i64.wrap (n1.tdiv (8 : Int))).toNat ++ (ByteArray.mk (bs.toArray)) ++
                                              s0.extract (IntKind.i64.wrap (IntKind.i64.wrap (n1.tdiv (8 : Int)) + (1 : Int))).toNat (↑s0.size : Int).toNat)),
                                        AVal.at (Value.int IntKind.i64 (0 : Int))])
                                    sg')
                            else none
                    else none
              else
                if b2 = true then
                  if (8 : Int) = (0 : Int) then none
                  else
                    if (0 : Int) ≤ (0 : Int) ∧ (0 : Int) ≤ IntKind.i64.wrap (n1.tdiv (8 : Int)) ∧ IntKind.i64.wrap (n1.tdiv (8 : Int)) ≤ (↑s0.size : Int) then
                      withO
                        (bytesOf
                          [AVal.at
                              (Value.int IntKind.u8 (IntKind.u8.wrap (IntKind.i64.wrap (IntKind.i64.wrap (↑(s0.data.getD (IntKind.i64.wrap (n1.tdiv (8 : Int))).toNat (0 : UInt8)).toNat : Int) + n3))))])
                        fun (bs : List UInt8) =>
                        if (↑((s0.extract (Int.toNat (0 : Int)) (IntKind.i64.wrap (n1.tdiv (8 : Int))).toNat).size + (ByteArray.mk (bs.toArray)).size) : Int) > IntKind.i64.max then none
                        else
                          if (8 : Int) = (0 : Int) then none
                          else
                            if
                                (0 : Int) ≤ IntKind.i64.wrap (IntKind.i64.wrap (n1.tdiv (8 : Int)) + (1 : Int)) ∧
                                  IntKind.i64.wrap (IntKind.i64.wrap (n1.tdiv (8 : Int)) + (1 : Int)) ≤ (↑s0.size : Int) ∧ (↑s0.size : Int) ≤ (↑s0.size : Int) then
                              if
                                  (↑((s0.extract (Int.toNat (0 : Int)) (IntKind.i64.wrap (n1.tdiv (8 : Int))).toNat ++ (ByteArray.mk (bs.toArray))).size +
                                          (s0.extract (IntKind.i64.wrap (IntKind.i64.wrap (n1.tdiv (8 : Int)) + (1 : Int))).toNat (↑s0.size : Int).toNat).size) :
                                      Int) >
                                    IntKind.i64.max then
                                none
                              else
                                some
                                  (Out.ret
                                    (AVal.tup
                                      [AVal.at
                                          (Value.string
                                            (s0.extract (Int.toNat (0 : Int)) (IntKind.i64.wrap (n1.tdiv (8 : Int))).toNat ++ (ByteArray.mk (bs.toArray)) ++
                                              s0.extract (IntKind.i64.wrap (IntKind.i64.wrap (n1.tdiv (8 : Int)) + (1 : Int))).toNat (↑s0.size : Int).toNat)),
                                        AVal.at (Value.int IntKind.i64 (0 : Int))])
                                    sg')
                            else none
                    else none
                else
                  if (8 : Int) = (0 : Int) then none
                  else
                    if (0 : Int) ≤ (0 : Int) ∧ (0 : Int) ≤ IntKind.i64.wrap (n1.tdiv (8 : Int)) ∧ IntKind.i64.wrap (n1.tdiv (8 : Int)) ≤ (↑s0.size : Int) then
                      withO (bytesOf [AVal.at (Value.int IntKind.u8 (IntKind.u8.wrap (IntKind.i64.wrap (↑(s0.data.getD (IntKind.i64.wrap (n1.tdiv (8 : Int))).toNat (0 : UInt8)).toNat : Int))))])
                        fun (bs : List UInt8) =>
                        if (↑((s0.extract (Int.toNat (0 : Int)) (IntKind.i64.wrap (n1.tdiv (8 : Int))).toNat).size + (ByteArray.mk (bs.toArray)).size) : Int) > IntKind.i64.max then none
                        else
                          if (8 : Int) = (0 : Int) then none
                          else
                            if
                                (0 : Int) ≤ IntKind.i64.wrap (IntKind.i64.wrap (n1.tdiv (8 : Int)) + (1 : Int)) ∧
                                  IntKind.i64.wrap (IntKind.i64.wrap (n1.tdiv (8 : Int)) + (1 : Int)) ≤ (↑s0.size : Int) ∧ (↑s0.size : Int) ≤ (↑s0.size : Int) then
                              if
                                  (↑((s0.extract (Int.toNat (0 : Int)) (IntKind.i64.wrap (n1.tdiv (8 : Int))).toNat ++ (ByteArray.mk (bs.toArray))).size +
                                          (s0.extract (IntKind.i64.wrap (IntKind.i64.wrap (n1.tdiv (8 : Int)) + (1 : Int))).toNat (↑s0.size : Int).toNat).size) :
                                      Int) >
                                    IntKind.i64.max then
                                none
                              else
                                some
                                  (Out.ret
                                    (AVal.tup
                                      [AVal.at
                                          (Value.string
                                            (s0.extract (Int.toNat (0 : Int)) (IntKind.i64.wrap (n1.tdiv (8 : Int))).toNat ++ (ByteArray.mk (bs.toArray)) ++
                                              s0.extract (IntKind.i64.wrap (IntKind.i64.wrap (n1.tdiv (8 : Int)) + (1 : Int))).toNat (↑s0.size : Int).toNat)),
                                        AVal.at (Value.int IntKind.i64 (0 : Int))])
                                    sg')
                            else none
                    else none)
          fun (v : AVal) (sg' : Sg) => some (Out.pan v sg')
      else none := by kernel_rfl


/-! 19 wharfage/bitmap.Used -/
theorem bitmap_Used.main (C : CallF) (N : Nat) (s0 : ByteArray) (n1 : Int) (sg2 : Sg) :
    evalF C N bitmap_Used.a [AVal.at (Value.string s0), AVal.at (Value.int IntKind.i64 n1)] sg2 =
    withOut (C (37 : Nat) [AVal.at (Value.string s0)] sg2)
      (fun (v : AVal) (sg' : Sg) =>
        withB (some v) fun (b : Bool) =>
          if b = true then
            withOut (C (38 : Nat) [AVal.at (Value.int IntKind.i64 n1)] sg')
              (fun (v : AVal) (sg' : Sg) =>
                withB (some v) fun (b : Bool) =>
                  if b = true then
                    if (8 : Int) = (0 : Int) then none
                    else
                      if (0 : Int) ≤ IntKind.i64.wrap (n1.tdiv (8 : Int)) ∧ IntKind.i64.wrap (n1.tdiv (8 : Int)) < (↑s0.size : Int) then
                        if (8 : Int) = (0 : Int) then none
                        else
                          if n1.tmod (8 : Int) < (0 : Int) then none
                          else
                            some
                              (Out.ret
                                (AVal.at
                                  (Value.bool
                                    (bitsI BinOp.and IntKind.u8 (shiftI BinOp.shr IntKind.u8 (↑(s0.data.getD (IntKind.i64.wrap (n1.tdiv (8 : Int))).toNat (0 : UInt8)).toNat : Int) (n1.tmod (8 : Int)))
                                        (1 : Int) ==
                                      (1 : Int))))
                                sg')
                      else none
                  else some (Out.ret (AVal.at (Value.bool false)) sg'))
              fun (v : AVal) (sg' : Sg) => some (Out.pan v sg')
          else some (Out.ret (AVal.at (Value.bool false)) sg'))
      fun (v : AVal) (sg' : Sg) => some (Out.pan v sg') := by kernel_rfl


/-! 20 wharfage/wharfageref10.Used -/
theorem ref10_Used.main (C : CallF) (N : Nat) (s0 : ByteArray) (n1 : Int) (sg2 : Sg) :
    evalF C N ref10_Used.a [AVal.at (Value.string s0), AVal.at (Value.int IntKind.i64 n1)] sg2 =
    if ((↑s0.size : Int) != (480 : Int)) = false then
      if decide (n1 < (0 : Int)) = false then
        if decide (n1 > (3839 : Int)) = true then some (Out.ret (AVal.at (Value.bool false)) sg2)
        else
          if (8 : Int) = (0 : Int) then none
          else
            if (0 : Int) ≤ IntKind.i64.wrap (n1.tdiv (8 : Int)) ∧ IntKind.i64.wrap (n1.tdiv (8 : Int)) < (↑s0.size : Int) then
              iter (ref10_Used.R0 C N) N
                (mkS [(1 : Nat), (5 : Nat), (6 : Nat)]
                  [Slot.v (AVal.at (Value.int IntKind.i64 n1)) false,
                    Slot.v (AVal.at (Value.int IntKind.i64 (IntKind.i64.wrap (↑(s0.data.getD (IntKind.i64.wrap (n1.tdiv (8 : Int))).toNat (0 : UInt8)).toNat : Int)))) false,
                    Slot.v (AVal.at (Value.int IntKind.i64 (0 : Int))) false]
                  [none, none, none] (RVal.sg sg2))
                (ref10_Used.K0 C N)
            else none
      else some (Out.ret (AVal.at (Value.bool false)) sg2)
    else some (Out.ret (AVal.at (Value.bool false)) sg2) := by kernel_rfl
theorem ref10_Used.r0 (C : CallF) (N : Nat) (n0 : Int) (n1 : Int) (n2 : Int) (sg3 : Sg) (k : Ex → St → R) :
    ref10_Used.R0 C N
      (mkS [(1 : Nat), (5 : Nat), (6 : Nat)] [Slot.v (AVal.at (Value.int IntKind.i64 n0)) false, Slot.v (AVal.at (Value.int IntKind.i64 n1)) false, Slot.v (AVal.at (Value.int IntKind.i64 n2)) false]
        [none, none, none] (RVal.sg sg3))
      k =
    if (8 : Int) = (0 : Int) then none
    else
      if decide (n2 < n0.tmod (8 : Int)) = true then
        if (2 : Int) = (0 : Int) then none
        else
          k Ex.normal
            (mkS [(1 : Nat), (5 : Nat), (6 : Nat)]
              [Slot.v (AVal.at (Value.int IntKind.i64 n0)) false, Slot.v (AVal.at (Value.int IntKind.i64 (IntKind.i64.wrap (n1.tdiv (2 : Int))))) false,
                Slot.v (AVal.at (Value.int IntKind.i64 (IntKind.i64.wrap (n2 + (1 : Int))))) false]
              [none, none, none] (RVal.sg sg3))
      else k (Ex.exit (0 : Nat)) (mkS [(5 : Nat)] [Slot.v (AVal.at (Value.int IntKind.i64 n1)) false] [none] (RVal.sg sg3)) := by kernel_rfl
theorem ref10_Used.k0_1 (C : CallF) (N : Nat) (n0 : Int) (sg1 : Sg) :
    ref10_Used.K0 C N (Ex.exit (0 : Nat)) (mkS [(5 : Nat)] [Slot.v (AVal.at (Value.int IntKind.i64 n0)) false] [none] (RVal.sg sg1)) =
    if (2 : Int) = (0 : Int) then none else some (Out.ret (AVal.at (Value.bool (n0.tmod (2 : Int) == (1 : Int)))) sg1) := by kernel_rfl


/-! 21 wharfage/bitmap.Many -/
theorem bitmap_Many.main (C : CallF) (N : Nat) (s0 : ByteArray) (n1 : Int) (n2 : Int) (sg3 : Sg) :
    evalF C N bitmap_Many.a [AVal.at (Value.string s0), AVal.at (Value.int IntKind.i64 n1), AVal.at (Value.int IntKind.i64 n2)] sg3 =
    withOut (C (37 : Nat) [AVal.at (Value.string s0)] sg3)
      (fun (v : AVal) (sg' : Sg) =>
        withB (some v) fun (b : Bool) =>
          if (!b) = true then some (Out.ret (AVal.at (Value.int IntKind.i64 (0 : Int))) sg')
          else
            iter (bitmap_Many.R0 C N) N
              (mkS [(0 : Nat), (2 : Nat), (7 : Nat), (8 : Nat)]
                [Slot.v (AVal.at (Value.string s0)) false, Slot.v (AVal.at (Value.int IntKind.i64 (bif false then max2 n2 (3840 : Int) else min2 n2 (3840 : Int)))) false,
                  Slot.v (AVal.at (Value.int IntKind.i64 (0 : Int))) false, Slot.v (AVal.at (Value.int IntKind.i64 (bif true then max2 n1 (0 : Int) else min2 n1 (0 : Int)))) false]
                [none, none, none, none] (RVal.sg sg'))
              (bitmap_Many.K0 C N))
      fun (v : AVal) (sg' : Sg) => some (Out.pan v sg') := by kernel_rfl
theorem bitmap_Many.r0 (C : CallF) (N : Nat) (s0 : ByteArray) (n1 : Int) (n2 : Int) (n3 : Int) (sg4 : Sg) (k : Ex → St → R) :
    bitmap_Many.R0 C N
      (mkS [(0 : Nat), (2 : Nat), (7 : Nat), (8 : Nat)]
        [Slot.v (AVal.at (Value.string s0)) false, Slot.v (AVal.at (Value.int IntKind.i64 n1)) false, Slot.v (AVal.at (Value.int IntKind.i64 n2)) false, Slot.v (AVal.at (Value.int IntKind.i64 n3)) false]
        [none, none, none, none] (RVal.sg sg4))
      k =
    if decide (n3 < n1) = true then
      if (8 : Int) = (0 : Int) then none
      else
        if (n3.tmod (8 : Int) == (0 : Int)) = true then
          if decide (IntKind.i64.wrap (n3 + (8 : Int)) ≤ n1) = true then
            if (8 : Int) = (0 : Int) then none
            else
              if (0 : Int) ≤ IntKind.i64.wrap (n3.tdiv (8 : Int)) ∧ IntKind.i64.wrap (n3.tdiv (8 : Int)) < (↑s0.size : Int) then
                withOut (C (39 : Nat) [AVal.at (Value.int IntKind.u8 (↑(s0.data.getD (IntKind.i64.wrap (n3.tdiv (8 : Int))).toNat (0 : UInt8)).toNat : Int))] sg4)
                  (fun (v : AVal) (sg' : Sg) =>
                    withI IntKind.i64 (some v) fun (n : Int) =>
                      k Ex.normal
                        (mkS [(0 : Nat), (2 : Nat), (7 : Nat), (8 : Nat)]
                          [Slot.v (AVal.at (Value.string s0)) false, Slot.v (AVal.at (Value.int IntKind.i64 n1)) false, Slot.v (AVal.at (Value.int IntKind.i64 (IntKind.i64.wrap (n2 + n)))) false,
                            Slot.v (AVal.at (Value.int IntKind.i64 (IntKind.i64.wrap (n3 + (8 : Int))))) false]
                          [none, none, none, none] (RVal.sg sg')))
                  fun (v : AVal) (sg' : Sg) => some (Out.pan v sg')
              else none
          else
            withOut (C (19 : Nat) [AVal.at (Value.string s0), AVal.at (Value.int IntKind.i64 n3)] sg4)
              (fun (v : AVal) (sg' : Sg) =>
                withB (some v) fun (b : Bool) =>
                  if b = true then
                    k Ex.normal
                      (mkS [(0 : Nat), (2 : Nat), (7 : Nat), (8 : Nat)]
                        [Slot.v (AVal.at (Value.string s0)) false, Slot.v (AVal.at (Value.int IntKind.i64 n1)) false, Slot.v (AVal.at (Value.int IntKind.i64 (IntKind.i64.wrap (n2 + (1 : Int))))) false,
                          Slot.v (AVal.at (Value.int IntKind.i64 (IntKind.i64.wrap (n3 + (1 : Int))))) false]
                        [none, none, none, none] (RVal.sg sg'))
                  else
                    k Ex.normal
                      (mkS [(0 : Nat), (2 : Nat), (7 : Nat), (8 : Nat)]
                        [Slot.v (AVal.at (Value.string s0)) false, Slot.v (AVal.at (Value.int IntKind.i64 n1)) false, Slot.v (AVal.at (Value.int IntKind.i64 n2)) false,
                          Slot.v (AVal.at (Value.int IntKind.i64 (IntKind.i64.wrap (n3 + (1 : Int))))) false]
                        [none, none, none, none] (RVal.sg sg')))
              fun (v : AVal) (sg' : Sg) => some (Out.pan v sg')
        else
          withOut (C (19 : Nat) [AVal.at (Value.string s0), AVal.at (Value.int IntKind.i64 n3)] sg4)
            (fun (v : AVal) (sg' : Sg) =>
              withB (some v) fun (b : Bool) =>
                if b = true then
                  k Ex.normal
                    (mkS [(0 : Nat), (2 : Nat), (7 : Nat), (8 : Nat)]
                      [Slot.v (AVal.at (Value.string s0)) false, Slot.v (AVal.at (Value.int IntKind.i64 n1)) false, Slot.v (AVal.at (Value.int IntKind.i64 (IntKind.i64.wrap (n2 + (1 : Int))))) false,
                        Slot.v (AVal.at (Value.int IntKind.i64 (IntKind.i64.wrap (n3 + (1 : Int))))) false]
                      [none, none, none, none] (RVal.sg sg'))
                else
                  k Ex.normal
                    (mkS [(0 : Nat), (2 : Nat), (7 : Nat), (8 : Nat)]
                      [Slot.v (AVal.at (Value.string s0)) false, Slot.v (AVal.at (Value.int IntKind.i64 n1)) false, Slot.v (AVal.at (Value.int IntKind.i64 n2)) false,
                        Slot.v (AVal.at (Value.int IntKind.i64 (IntKind.i64.wrap (n3 + (1 : Int))))) false]
                      [none, none, none, none] (RVal.sg sg')))
            fun (v : AVal) (sg' : Sg) => some (Out.pan v sg')
    else k (Ex.exit (0 : Nat)) (mkS [(7 : Nat)] [Slot.v (AVal.at (Value.int IntKind.i64 n2)) false] [none] (RVal.sg sg4)) := by kernel_rfl
theorem bitmap_Many.k0_1 (C : CallF) (N : Nat) (n0 : Int) (sg1 : Sg) :
    bitmap_Many.K0 C N (Ex.exit (0 : Nat)) (mkS [(7 : Nat)] [Slot.v (AVal.at (Value.int IntKind.i64 n0)) false] [none] (RVal.sg sg1)) =
    some (Out.ret (AVal.at (Value.int IntKind.i64 n0)) sg1) := by kernel_rfl


/-! 22 wharfage/wharfageref10.Many -/
theorem ref10_Many.main (C : CallF) (N : Nat) (s0 : ByteArray) (n1 : Int) (n2 : Int) (sg3 : Sg) :
    evalF C N ref10_Many.a [AVal.at (Value.string s0), AVal.at (Value.int IntKind.i64 n1), AVal.at (Value.int IntKind.i64 n2)] sg3 =
    iter (ref10_Many.R0 C N) N
      (mkS [(0 : Nat), (1 : Nat), (2 : Nat), (7 : Nat), (8 : Nat)]
        [Slot.v (AVal.at (Value.string s0)) false, Slot.v (AVal.at (Value.int IntKind.i64 n1)) false, Slot.v (AVal.at (Value.int IntKind.i64 n2)) false,
          Slot.v (AVal.at (Value.int IntKind.i64 (0 : Int))) false, Slot.v (AVal.at (Value.int IntKind.i64 (0 : Int))) false]
        [none, none, none, none, none] (RVal.sg sg3))
      (ref10_Many.K0 C N) := by kernel_rfl
theorem ref10_Many.r0 (C : CallF) (N : Nat) (s0 : ByteArray) (n1 : Int) (n2 : Int) (n3 : Int) (n4 : Int) (sg5 : Sg) (k : Ex → St → R) :
    ref10_Many.R0 C N
      (mkS [(0 : Nat), (1 : Nat), (2 : Nat), (7 : Nat), (8 : Nat)]
        [Slot.v (AVal.at (Value.string s0)) false, Slot.v (AVal.at (Value.int IntKind.i64 n1)) false, Slot.v (AVal.at (Value.int IntKind.i64 n2)) false, Slot.v (AVal.at (Value.int IntKind.i64 n3)) false,
          Slot.v (AVal.at (Value.int IntKind.i64 n4)) false]
        [none, none, none, none, none] (RVal.sg sg5))
      k =
    if decide (n4 < (3840 : Int)) = true then
      if decide (n4 ≥ n1) = true then
        if decide (n4 < n2) = true then
          withOut (C (20 : Nat) [AVal.at (Value.string s0), AVal.at (Value.int IntKind.i64 n4)] sg5)
            (fun (v : AVal) (sg' : Sg) =>
              withB (some v) fun (b : Bool) =>
                if b = true then
                  k Ex.normal
                    (mkS [(0 : Nat), (1 : Nat), (2 : Nat), (7 : Nat), (8 : Nat)]
                      [Slot.v (AVal.at (Value.string s0)) false, Slot.v (AVal.at (Value.int IntKind.i64 n1)) false, Slot.v (AVal.at (Value.int IntKind.i64 n2)) false,
                        Slot.v (AVal.at (Value.int IntKind.i64 (IntKind.i64.wrap (n3 + (1 : Int))))) false, Slot.v (AVal.at (Value.int IntKind.i64 (IntKind.i64.wrap (n4 + (1 : Int))))) false]
                      [none, none, none, none, none] (RVal.sg sg'))
                else
                  k Ex.normal
                    (mkS [(0 : Nat), (1 : Nat), (2 : Nat), (7 : Nat), (8 : Nat)]
                      [Slot.v (AVal.at (Value.string s0)) false, Slot.v (AVal.at (Value.int IntKind.i64 n1)) false, Slot.v (AVal.at (Value.int IntKind.i64 n2)) false,
                        Slot.v (AVal.at (Value.int IntKind.i64 n3)) false, Slot.v (AVal.at (Value.int IntKind.i64 (IntKind.i64.wrap (n4 + (1 : Int))))) false]
                      [none, none, none, none, none] (RVal.sg sg')))
            fun (v : AVal) (sg' : Sg) => some (Out.pan v sg')
        else
          k Ex.normal
            (mkS [(0 : Nat), (1 : Nat), (2 : Nat), (7 : Nat), (8 : Nat)]
              [Slot.v (AVal.at (Value.string s0)) false, Slot.v (AVal.at (Value.int IntKind.i64 n1)) false, Slot.v (AVal.at (Value.int IntKind.i64 n2)) false,
                Slot.v (AVal.at (Value.int IntKind.i64 n3)) false, Slot.v (AVal.at (Value.int IntKind.i64 (IntKind.i64.wrap (n4 + (1 : Int))))) false]
              [none, none, none, none, none] (RVal.sg sg5))
      else
        k Ex.normal
          (mkS [(0 : Nat), (1 : Nat), (2 : Nat), (7 : Nat), (8 : Nat)]
            [Slot.v (AVal.at (Value.string s0)) false, Slot.v (AVal.at (Value.int IntKind.i64 n1)) false, Slot.v (AVal.at (Value.int IntKind.i64 n2)) false,
              Slot.v (AVal.at (Value.int IntKind.i64 n3)) false, Slot.v (AVal.at (Value.int IntKind.i64 (IntKind.i64.wrap (n4 + (1 : Int))))) false]
            [none, none, none, none, none] (RVal.sg sg5))
    else k (Ex.exit (0 : Nat)) (mkS [(7 : Nat)] [Slot.v (AVal.at (Value.int IntKind.i64 n3)) false] [none] (RVal.sg sg5)) := by kernel_rfl
theorem ref10_Many.k0_1 (C : CallF) (N : Nat) (n0 : Int) (sg1 : Sg) :
    ref10_Many.K0 C N (Ex.exit (0 : Nat)) (mkS [(7 : Nat)] [Slot.v (AVal.at (Value.int IntKind.i64 n0)) false] [none] (RVal.sg sg1)) =
    some (Out.ret (AVal.at (Value.int IntKind.i64 n0)) sg1) := by kernel_rfl


/-! 37 wharfage/bitmap.is -/
theorem bitmap_is.main (C : CallF) (N : Nat) (s0 : ByteArray) (sg1 : Sg) :
    evalF C N bitmap_is.a [AVal.at (Value.string s0)] sg1 =
    some (Out.ret (AVal.at (Value.bool ((↑s0.size : Int) == (480 : Int)))) sg1) := by kernel_rfl


/-! 38 wharfage/bitmap.page -/
theorem bitmap_page.main (C : CallF) (N : Nat) (n0 : Int) (sg1 : Sg) :
    evalF C N bitmap_page.a [AVal.at (Value.int IntKind.i64 n0)] sg1 =
    if decide (n0 ≥ (0 : Int)) = true then some (Out.ret (AVal.at (Value.bool (decide (n0 < (3840 : Int))))) sg1) else some (Out.ret (AVal.at (Value.bool false)) sg1) := by kernel_rfl


/-! 39 math/bits.OnesCount8 -/
def popTab : ByteArray := ⟨#[0, 1, 1, 2, 1, 2, 2, 3, 1, 2, 2, 3, 2, 3, 3, 4, 1, 2, 2, 3, 2, 3, 3, 4, 2, 3, 3, 4, 3, 4, 4, 5, 1, 2, 2, 3, 2, 3, 3, 4, 2, 3, 3, 4, 3, 4, 4, 5, 2, 3, 3, 4, 3, 4, 4, 5, 3, 4, 4, 5, 4, 5, 5, 6, 1, 2, 2, 3, 2, 3, 3, 4, 2, 3, 3, 4, 3, 4, 4, 5, 2, 3, 3, 4, 3, 4, 4, 5, 3, 4, 4, 5, 4, 5, 5, 6, 2, 3, 3, 4, 3, 4, 4, 5, 3, 4, 4, 5, 4, 5, 5, 6, 3, 4, 4, 5, 4, 5, 5, 6, 4, 5, 5, 6, 5, 6, 6, 7, 1, 2, 2, 3, 2, 3, 3, 4, 2, 3, 3, 4, 3, 4, 4, 5, 2, 3, 3, 4, 3, 4, 4, 5, 3, 4, 4, 5, 4, 5, 5, 6, 2, 3, 3, 4, 3, 4, 4, 5, 3, 4, 4, 5, 4, 5, 5, 6, 3, 4, 4, 5, 4, 5, 5, 6, 4, 5, 5, 6, 5, 6, 6, 7, 2, 3, 3, 4, 3, 4, 4, 5, 3, 4, 4, 5, 4, 5, 5, 6, 3, 4, 4, 5, 4, 5, 5, 6, 4, 5, 5, 6, 5, 6, 6, 7, 3, 4, 4, 5, 4, 5, 5, 6, 4, 5, 5, 6, 5, 6, 6, 7, 4, 5, 5, 6, 5, 6, 6, 7, 5, 6, 6, 7, 6, 7, 7, 8]⟩
theorem math_bits_OnesCount8.main (C : CallF) (N : Nat) (n0 : Int) (sg1 : Sg) :
    evalF C N math_bits_OnesCount8.a [AVal.at (Value.int IntKind.u8 n0)] sg1 =
    if (0 : Int) ≤ n0 ∧ n0 < (↑popTab.size : Int) then
      some (Out.ret (AVal.at (Value.int IntKind.i64 (IntKind.i64.wrap (↑(popTab.data.getD n0.toNat (0 : UInt8)).toNat : Int)))) sg1)
    else none := by kernel_rfl
end Go.Abs
