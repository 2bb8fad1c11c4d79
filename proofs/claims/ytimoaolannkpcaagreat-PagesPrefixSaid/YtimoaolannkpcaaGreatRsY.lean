/- THE RESIDUALS: what each function's evaluation comes to, by the kernel. Printed by a program of my own. -/
import Derived.Test.YtimoaolannkpcaaGreatCodeP
import Derived.Test.YtimoaolannkpcaaGreatEngC
import Derived.KernelRfl
set_option linter.unusedVariables false
set_option linter.unusedSimpArgs false
set_option linter.unusedSectionVars false
namespace Go.Abs
set_option maxRecDepth 100000
set_option linter.unusedVariables false
/-! 382 slices.Backward[[]wharfage/disk.write,wharfage/disk.write]$1 -/
theorem slices_Backward_disk_write_disk_write_1.main (C : CallF) (N : Nat) (m0 : Nat) (m1 : Nat) (sg2 : Sg) :
  evalF C N slices_Backward_disk_write_disk_write_1.a [AVal.yl m0, AVal.gp m1 (0 : Nat)] sg2 =
  withO (loadC none sg2 (AVal.gp m1 (0 : Nat))) fun p =>
   withA p.fst[p.snd]? fun (r : AVal) =>
   withO (lenV r) fun (n : Nat) =>
    iter (slices_Backward_disk_write_disk_write_1.R0 C N) N
    (mkS [(0 : Nat), (1 : Nat), (3 : Nat)]
     [Slot.v (AVal.yl m0) false, Slot.v (AVal.gp m1 (0 : Nat)) false, Slot.v (AVal.at (Value.int IntKind.i64 (IntKind.i64.wrap ((↑n : Int) - (1 : Int))))) false] [none, none, none] (RVal.sg sg2))
    (slices_Backward_disk_write_disk_write_1.K0 C N) := by kernel_rfl
theorem slices_Backward_disk_write_disk_write_1.r0 (C : CallF) (N : Nat) (m0 : Nat) (m1 : Nat) (n2 : Int) (sg3 : Sg) (k : Ex → St → R) :
  slices_Backward_disk_write_disk_write_1.R0 C N
   (mkS [(0 : Nat), (1 : Nat), (3 : Nat)] [Slot.v (AVal.yl m0) false, Slot.v (AVal.gp m1 (0 : Nat)) false, Slot.v (AVal.at (Value.int IntKind.i64 n2)) false] [none, none, none] (RVal.sg sg3)) k =
  if decide (n2 ≥ (0 : Int)) = true then
   withO (loadC none sg3 (AVal.gp m1 (0 : Nat))) fun p =>
   withA p.fst[p.snd]? fun (r : AVal) =>
    withO (elemV (2 : Nat) n2 r) fun (r : AVal) =>
    withO (loadC none sg3 r) fun p =>
     bif (p.snd + (2 : Nat)).ble p.fst.length then
     bindL (List.take (2 : Nat) (List.drop p.snd p.fst)) fun (l : List AVal) =>
      withO (loopW sg3 m0) fun (p : Nat × List AVal × Nat) =>
      withOut (C ((1000000 : Nat) + p.fst) [AVal.yl m0, AVal.at (Value.int IntKind.i64 n2), AVal.agg l] sg3)
       (fun v sg' =>
       withB (some v) fun (b : Bool) =>
        if (!b) = true then k Ex.ret (mkS [] [] [] (RVal.sg sg'))
        else
        k Ex.normal
         (mkS [(0 : Nat), (1 : Nat), (3 : Nat)]
         [Slot.v (AVal.yl m0) false, Slot.v (AVal.gp m1 (0 : Nat)) false, Slot.v (AVal.at (Value.int IntKind.i64 (IntKind.i64.wrap (n2 - (1 : Int))))) false] [none, none, none]
         (RVal.sg sg')))
       fun v sg' => some (Out.pan v sg')
     else none
  else k (Ex.exit (0 : Nat)) (mkS [] [] [] (RVal.sg sg3)) := by kernel_rfl
theorem slices_Backward_disk_write_disk_write_1.k0_1 (C : CallF) (N : Nat) (sg0 : Sg) :
  slices_Backward_disk_write_disk_write_1.K0 C N Ex.ret (mkS [] [] [] (RVal.sg sg0)) =
  some (Out.ret (AVal.tup []) sg0) := by kernel_rfl
theorem slices_Backward_disk_write_disk_write_1.k0_2 (C : CallF) (N : Nat) (sg0 : Sg) :
  slices_Backward_disk_write_disk_write_1.K0 C N (Ex.exit (0 : Nat)) (mkS [] [] [] (RVal.sg sg0)) =
  some (Out.ret (AVal.tup []) sg0) := by kernel_rfl

/-! a round -/
theorem disk_Disk_Read.y900000 (C : CallF) (N : Nat) (m0 : Nat) (m1 : Nat) (m2 : Nat) (m3 : Nat) (n4 : Int) (n5 : Int) (s6 : ByteArray) (sg7 : Sg) :
  evalC C N disk_Disk_Read.Y900000.asg
   (startY disk_Disk_Read.Y900000 [AVal.gp m1 (0 : Nat), AVal.gp m2 (0 : Nat), AVal.gp m3 (0 : Nat)]
   [AVal.at (Value.int IntKind.i64 n4), AVal.agg [AVal.at (Value.int IntKind.i64 n5), AVal.at (Value.string s6)]] sg7)
   (beginY C N disk_Disk_Read.Y900000 m0) =
  withO
   (storeG none (sg7 ++ [Box.mk [AVal.at (Value.int IntKind.i64 (0 : Int)), AVal.at (Value.string (ByteArray.mk (#[])))]]) (AVal.gp (List.length sg7) (0 : Nat)) (2 : Nat)
   (AVal.agg [AVal.at (Value.int IntKind.i64 n5), AVal.at (Value.string s6)]))
   fun (sg : Sg) =>
   withO (loopS sg m0) fun (sg' : Sg) =>
   withO (loadC none sg' (AVal.gp (List.length sg7) (0 : Nat))) fun p =>
    withI IntKind.i64 p.fst[p.snd]? fun (n : Int) =>
    withO (loadC none sg' (AVal.gp m1 (0 : Nat))) fun p =>
     withI IntKind.i64 p.fst[p.snd]? fun (n_1 : Int) =>
     if (n == n_1) = true then
      withO (loadC none sg' (AVal.gp (List.length sg7) (1 : Nat))) fun p =>
      withS p.fst[p.snd]? fun (s : ByteArray) =>
       withO (storeG none sg' (AVal.gp m2 (0 : Nat)) (1 : Nat) (AVal.at (Value.string s))) fun (sg : Sg) =>
       withO (storeG none sg (AVal.gp m3 (0 : Nat)) (1 : Nat) (AVal.at (Value.int IntKind.i64 (0 : Int)))) fun (sg : Sg) =>
        withO (loopE sg m0 (2 : Nat)) fun (sg' : Sg) => some (Out.ret (AVal.at (Value.bool false)) sg')
     else withO (loopE sg' m0 (0 : Nat)) fun (sg' : Sg) => some (Out.ret (AVal.at (Value.bool true)) sg') := by kernel_rfl

end Go.Abs
