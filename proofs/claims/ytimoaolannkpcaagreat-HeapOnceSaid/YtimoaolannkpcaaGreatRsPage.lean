/- THE RESIDUALS: what each function's evaluation comes to, by the kernel. Printed by a program of my own. -/
import Derived.Test.YtimoaolannkpcaaGreatCodeP
import Derived.Test.YtimoaolannkpcaaGreatEngC
import Derived.KernelRfl
set_option linter.unusedVariables false
set_option linter.unusedSimpArgs false
set_option linter.unusedSectionVars false
namespace Go.Abs
set_option maxRecDepth 100000
set_option linter.unusedVariables false
/-! 24 wharfage/wharfagelaw08.Page -/
theorem law08_Page.main (C : CallF) (N : Nat) (n0 : Int) (sg1 : Sg) :
    evalF C N law08_Page.a [AVal.at (Value.int IntKind.u8 n0)] sg1 =
    if (0 : Int) < (480 : Int) ∧ (480 : Int) ≤ (480 : Int) ∧ (480 : Int) * (↑(1 : Nat) : Int) ≤ (35184372088832 : Int) then
      iter (law08_Page.R0 C N) N
        (mkS [(0 : Nat), (3 : Nat), (7 : Nat), (8 : Nat)]
          [Slot.v (AVal.at (Value.int IntKind.u8 n0)) false, Slot.v (AVal.gs (List.length sg1) (1 : Nat) (0 : Nat) (Int.toNat (480 : Int))) false,
            Slot.v (AVal.at (Value.int IntKind.i64 (↑(Int.toNat (480 : Int)) : Int))) false, Slot.v (AVal.at (Value.int IntKind.i64 (0 : Int))) false]
          [none, none, none, none] (RVal.sg (sg1 ++ [Box.mk (List.replicate (Int.toNat (480 : Int)) [AVal.at (Value.int IntKind.u8 (0 : Int))]).flatten])))
        (law08_Page.K0 C N)
    else none := by kernel_rfl
theorem law08_Page.r0 (C : CallF) (N : Nat) (n0 : Int) (m1 : Nat) (m2 : Nat) (n3 : Int) (n4 : Int) (sg5 : Sg) (k : Ex → St → R) :
    law08_Page.R0 C N
      (mkS [(0 : Nat), (3 : Nat), (7 : Nat), (8 : Nat)]
        [Slot.v (AVal.at (Value.int IntKind.u8 n0)) false, Slot.v (AVal.gs m1 (1 : Nat) (0 : Nat) m2) false, Slot.v (AVal.at (Value.int IntKind.i64 n3)) false,
          Slot.v (AVal.at (Value.int IntKind.i64 n4)) false]
        [none, none, none, none] (RVal.sg sg5))
      k =
    if decide (n4 < n3) = true then
      withO (elemV (1 : Nat) n4 (AVal.gs m1 (1 : Nat) (0 : Nat) m2)) fun (r : AVal) =>
        withO (storeG none sg5 r (1 : Nat) (AVal.at (Value.int IntKind.u8 n0))) fun (sg : Sg) =>
          k Ex.normal
            (mkS [(0 : Nat), (3 : Nat), (7 : Nat), (8 : Nat)]
              [Slot.v (AVal.at (Value.int IntKind.u8 n0)) false, Slot.v (AVal.gs m1 (1 : Nat) (0 : Nat) m2) false, Slot.v (AVal.at (Value.int IntKind.i64 n3)) false,
                Slot.v (AVal.at (Value.int IntKind.i64 (IntKind.i64.wrap (n4 + (1 : Int))))) false]
              [none, none, none, none] (RVal.sg sg))
    else k (Ex.exit (0 : Nat)) (mkS [(3 : Nat)] [Slot.v (AVal.gs m1 (1 : Nat) (0 : Nat) m2) false] [none] (RVal.sg sg5)) := by kernel_rfl
theorem law08_Page.k0_1 (C : CallF) (N : Nat) (m0 : Nat) (m1 : Nat) (sg2 : Sg) :
    law08_Page.K0 C N (Ex.exit (0 : Nat)) (mkS [(3 : Nat)] [Slot.v (AVal.gs m0 (1 : Nat) (0 : Nat) m1) false] [none] (RVal.sg sg2)) =
    withO (flatG sg2 (1 : Nat) (AVal.gs m0 (1 : Nat) (0 : Nat) m1)) fun (p : Nat × List AVal) =>
      withO (bytesOf p.snd) fun (bs : List UInt8) => some (Out.ret (AVal.at (Value.string (ByteArray.mk (bs.toArray)))) sg2) := by kernel_rfl


end Go.Abs
