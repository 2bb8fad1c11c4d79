import Derived.Test.YtimoaolannkpcaaGreatCodeP
import Derived.Test.YtimoaolannkpcaaGreatEngC
set_option linter.unusedVariables false
set_option linter.unusedSimpArgs false
set_option linter.unusedSectionVars false
namespace Go.Abs
set_option maxRecDepth 100000
set_option linter.unusedVariables false
/-! 24 wharfage/wharfagelaw08.Page -/
theorem law08_Page.main (C : CallF) (N : Nat) (n0 : Int) (sg1 : Sg) :
    evalF C N law08_Page.a [AVal.at (Value.int IntKind.u8 n0)] sg1 =
    if (0 : Int) < (480 : Int) ∧ (480 : Int) ≤ (480 : Int) ∧ (480 : Int) * (↑(1 : Nat) : Int) ≤ (35184372088832 : Int) then
      iter (law08_Page.R0 C N) N
        (mkS [(0 : Nat), (3 : Nat), (7 : Nat), (8 : Nat)]
          [Slot.v (AVal.at (Value.int IntKind.u8 n0)) false, Slot.v (AVal.gs (List.length sg1) (1 : Nat) (0 : Nat) (Int.toNat (480 : Int))) false,
            Slot.v (AVal.at (Value.int IntKind.i64 (↑(Int.toNat (480 : Int)) : Int))) false, Slot.v (AVal.at (Value.int IntKind.i64 (0 : Int))) false]
          [none, none, none, none] (RVal.sg (sg1 ++ [Box.mk (List.replicate (Int.toNat (480 : Int)) [AVal.at (Value.int IntKind.u8 (0 : Int))]).flatten])))
        (law08_Page.K0 C N)
    else none := by kernel_rfl
theorem law08_Page.r0 (C : CallF) (N : Nat) (n0 : Int) (m1 : Nat) (m2 : Nat) (n3 : Int) (n4 : Int) (sg5 : Sg) (k : Ex → St → R) :
    law08_Page.R0 C N
      (mkS [(0 : Nat), (3 : Nat), (7 : Nat), (8 : Nat)]
        [Slot.v (AVal.at (Value.int IntKind.u8 n0)) false, Slot.v (AVal.gs m1 (1 : Nat) (0 : Nat) m2) false, Slot.v (AVal.at (Value.int IntKind.i64 n3)) false,
          Slot.v (AVal.at (Value.int IntKind.i64 n4)) false]
        [none, none, none, none] (RVal.sg sg5))
      k =
    if decide (n4 < n3) = true then
      if (0 : Int) ≤ n4 ∧ n4 < (↑m2 : Int) then
        withO sg5[m1]? fun (B : Box) =>
          bif
              (match B with
                | Box.mk cs => cs
                | x => []).isEmpty then
            none
          else
            bif
                ((0 : Nat) + n4.toNat * (1 : Nat) + (1 : Nat)).ble
                  (match B with
                    | Box.mk cs => cs
                    | x => []).length then
              bindL
                (splice
                  (match B with
                  | Box.mk cs => cs
                  | x => [])
                  ((0 : Nat) + n4.toNat * (1 : Nat)) [AVal.at (Value.int IntKind.u8 n0)])
                fun (cs : List AVal) =>
                k Ex.normal
                  (mkS [(0 : Nat), (3 : Nat), (7 : Nat), (8 : Nat)]
                    [Slot.v (AVal.at (Value.int IntKind.u8 n0)) false, Slot.v (AVal.gs m1 (1 : Nat) (0 : Nat) m2) false, Slot.v (AVal.at (Value.int IntKind.i64 n3)) false,
                      Slot.v (AVal.at (Value.int IntKind.i64 (IntKind.i64.wrap (n4 + (1 : Int))))) false]
                    [none, none, none, none] (RVal.sg (List.set sg5 m1 (Box.mk cs))))
            else none
      else none
    else k (Ex.exit (0 : Nat)) (mkS [(3 : Nat)] [Slot.v (AVal.gs m1 (1 : Nat) (0 : Nat) m2) false] [none] (RVal.sg sg5)) := by kernel_rfl
theorem law08_Page.k0_1 (C : CallF) (N : Nat) (m0 : Nat) (m1 : Nat) (sg2 : Sg) :
    law08_Page.K0 C N (Ex.exit (0 : Nat)) (mkS [(3 : Nat)] [Slot.v (AVal.gs m0 (1 : Nat) (0 : Nat) m1) false] [none] (RVal.sg sg2)) =
    withO
      (bif true then
        Option.rec none
          (fun (val : Box) =>
            bif
                ((0 : Nat) + m1 * (1 : Nat)).ble
                    (match val with
                      | Box.mk cs => cs
                      | x => []).length &&
                  Nat.blt (0 : Nat)
                    (match val with
                      | Box.mk cs => cs
                      | x => []).length then
              some
                (m1,
                  List.take (m1 * (1 : Nat))
                    (List.drop (0 : Nat)
                      (match val with
                      | Box.mk cs => cs
                      | x => [])))
            else none)
          sg2[m0]?
      else none)
      fun (x : Nat × List AVal) => withO (bytesOf x.snd) fun (bs : List UInt8) => some (Out.ret (AVal.at (Value.string { data := bs.toArray })) sg2) := by kernel_rfl


end Go.Abs
