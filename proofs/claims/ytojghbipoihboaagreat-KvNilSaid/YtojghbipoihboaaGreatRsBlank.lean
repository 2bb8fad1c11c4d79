/- THE RESIDUALS of tree.blank. Printed by a program of my own. -/
import Derived.Test.YtojghbipoihboaaGreatCodeP
import Derived.Test.YtojghbipoihboaaGreatEngC
import Derived.KernelRfl
set_option linter.unusedVariables false
set_option linter.unusedSimpArgs false
set_option linter.unusedSectionVars false
namespace Go.Abs
set_option maxRecDepth 100000
set_option linter.unusedVariables false
/-! 68 wharfage/tree.blank -/
theorem tree_blank.main (C : CallF) (N : Nat) (s0 : ByteArray) (sg1 : Sg) :
    evalF C N tree_blank.a [AVal.at (Value.string s0)] sg1 =
    if (0 : Int) ≤ (10 : Int) ∧ (10 : Int) ≤ (↑s0.size : Int) ∧ (↑s0.size : Int) ≤ (↑s0.size : Int) then
      iter (tree_blank.R0 C N) N
        (mkS [(7 : Nat), (8 : Nat), (9 : Nat)]
          [Slot.ls (7 : Nat) (0 : Nat) (cutS s0 (Int.toNat (10 : Int)) (↑s0.size : Int).toNat).size,
            Slot.v (AVal.at (Value.int IntKind.i64 (↑(cutS s0 (Int.toNat (10 : Int)) (↑s0.size : Int).toNat).size : Int))) false, Slot.v (AVal.at (Value.int IntKind.i64 (0 : Int))) false]
          [some (Box.mk (ofBytes (cutS s0 (Int.toNat (10 : Int)) (↑s0.size : Int).toNat).data.toList)), none, none] (RVal.sg sg1))
        (tree_blank.K0 C N)
    else none := by kernel_rfl
theorem tree_blank.r0 (C : CallF) (N : Nat) (m0 : Nat) (n1 : Int) (n2 : Int) (l3 : List AVal) (sg4 : Sg) (k : Ex → St → R) :
    tree_blank.R0 C N
      (mkS [(7 : Nat), (8 : Nat), (9 : Nat)] [Slot.ls (7 : Nat) (0 : Nat) m0, Slot.v (AVal.at (Value.int IntKind.i64 n1)) false, Slot.v (AVal.at (Value.int IntKind.i64 n2)) false]
        [some (Box.mk l3), none, none] (RVal.sg sg4))
      k =
    if decide (n2 < n1) = true then
      if (0 : Int) ≤ n2 ∧ n2 < (↑m0 : Int) then
        withI IntKind.u8 l3[(0 : Nat) + n2.toNat * (1 : Nat)]? fun (n : Int) =>
          if (n != (0 : Int)) = true then k Ex.ret (mkS [(2 : Nat)] [Slot.v (AVal.at (Value.bool false)) false] [none] (RVal.sg sg4))
          else
            k Ex.normal
              (mkS [(7 : Nat), (8 : Nat), (9 : Nat)]
                [Slot.ls (7 : Nat) (0 : Nat) m0, Slot.v (AVal.at (Value.int IntKind.i64 n1)) false, Slot.v (AVal.at (Value.int IntKind.i64 (IntKind.i64.wrap (n2 + (1 : Int))))) false]
                [some (Box.mk l3), none, none] (RVal.sg sg4))
      else none
    else k (Ex.exit (0 : Nat)) (mkS [] [] [] (RVal.sg sg4)) := by kernel_rfl
theorem tree_blank.k0_1 (C : CallF) (N : Nat) (b0 : Bool) (sg1 : Sg) :
    tree_blank.K0 C N Ex.ret (mkS [(2 : Nat)] [Slot.v (AVal.at (Value.bool b0)) false] [none] (RVal.sg sg1)) =
    some (Out.ret (AVal.at (Value.bool b0)) sg1) := by kernel_rfl
theorem tree_blank.k0_2 (C : CallF) (N : Nat) (sg0 : Sg) :
    tree_blank.K0 C N (Ex.exit (0 : Nat)) (mkS [] [] [] (RVal.sg sg0)) =
    some (Out.ret (AVal.at (Value.bool true)) sg0) := by kernel_rfl



end Go.Abs
