/- THE RESIDUALS: what each function's evaluation comes to, by the kernel. Printed by a program of my own. -/
import Derived.Test.YtimoaolannkpcaaGreatCodeP
import Derived.Test.YtimoaolannkpcaaGreatEngC
import Derived.KernelRfl
set_option linter.unusedVariables false
set_option linter.unusedSimpArgs false
set_option linter.unusedSectionVars false
namespace Go.Abs
set_option maxRecDepth 100000
set_option linter.unusedVariables false
/-! 129 (*wharfage/disk.Disk).Len -/
theorem disk_Disk_Len.main (C : CallF) (N : Nat) (m0 : Nat) (sg1 : Sg) :
  evalF C N disk_Disk_Len.a [AVal.gp m0 (0 : Nat)] sg1 =
  if (false ^^ false) = true then some (Out.ret (AVal.at (Value.int IntKind.i64 (0 : Int))) sg1)
  else
   withO (loadC none sg1 (AVal.gp m0 (0 : Nat))) fun p =>
   withA p.fst[p.snd]? fun (r : AVal) => withO (lenV r) fun (n : Nat) => some (Out.ret (AVal.at (Value.int IntKind.i64 (↑n : Int))) sg1) := by kernel_rfl


/-! 130 (*wharfage/disk.Disk).Write -/
theorem disk_Disk_Write.main (C : CallF) (N : Nat) (m0 : Nat) (n1 : Int) (s2 : ByteArray) (sg3 : Sg) :
  evalF C N disk_Disk_Write.a [AVal.gp m0 (0 : Nat), AVal.at (Value.int IntKind.i64 n1), AVal.at (Value.string s2)] sg3 =
  withOut (bif Nat.blt (234 : Nat) (1000000 : Nat) then C (234 : FuncId) [AVal.gp m0 (0 : Nat), AVal.at (Value.int IntKind.i64 n1)] sg3 else none)
   (fun v x =>
   withB (some v) fun (b : Bool) =>
    if (!b) = false then
    if ((↑s2.size : Int) != (512 : Int)) = true then some (Out.ret (AVal.at (Value.int IntKind.i64 (18 : Int))) sg3)
    else
     withOut (bif Nat.blt (235 : Nat) (1000000 : Nat) then C (235 : FuncId) [AVal.gp m0 (0 : Nat)] sg3 else none)
     (fun v sg' =>
      withI IntKind.i64 (some v) fun (n : Int) =>
      if (n == (0 : Int)) = true then
       withO (loadC none sg' (AVal.gp m0 (1 : Nat))) fun p =>
       withA p.fst[p.snd]? fun (r : AVal) =>
        bif true && Nat.blt (0 : Nat) (2 : Nat) then
        withO (flatG (sg' ++ [Box.mk [AVal.at (Value.int IntKind.i64 n1), AVal.at (Value.string s2)]]) (2 : Nat) (AVal.gs (List.length sg') (2 : Nat) (0 : Nat) (1 : Nat)))
         fun (p : Nat × List AVal) =>
         bif p.fst.beq (0 : Nat) then
         withO (app0 (2 : Nat) r) fun (r : AVal) =>
          withA (plainA r) fun (v : AVal) =>
          withO (storeG none (sg' ++ [Box.mk [AVal.at (Value.int IntKind.i64 n1), AVal.at (Value.string s2)]]) (AVal.gp m0 (1 : Nat)) (1 : Nat) v) fun (sg : Sg) =>
           some (Out.ret (AVal.at (Value.int IntKind.i64 n)) sg)
         else
         if p.fst * (24 : Nat) ≤ (35184372088832 : Nat) then
          withO (app1 none (2 : Nat) (24 : Nat) (sg' ++ [Box.mk [AVal.at (Value.int IntKind.i64 n1), AVal.at (Value.string s2)]]) r p.fst p.snd) fun (q : AVal × Sg) =>
          withA (plainA q.fst) fun (v : AVal) =>
           withO (storeG none q.snd (AVal.gp m0 (1 : Nat)) (1 : Nat) v) fun (sg : Sg) => some (Out.ret (AVal.at (Value.int IntKind.i64 n)) sg)
         else none
        else none
      else some (Out.ret (AVal.at (Value.int IntKind.i64 n)) sg'))
     fun v sg' => some (Out.pan v sg')
    else some (Out.ret (AVal.at (Value.int IntKind.i64 (18 : Int))) sg3))
   fun v x => some (Out.pan v sg3) := by kernel_rfl


/-! 131 wharfage/sector.Blank -/
theorem sector_Blank.main (C : CallF) (N : Nat) (sg0 : Sg) :
  evalF C N sector_Blank.a [] sg0 =
  withOut (bif Nat.blt (126 : Nat) (1000000 : Nat) then C (126 : FuncId) [ofConst (Value.string (ByteArray.mk (#[]))), ofConst (Value.int IntKind.i64 (512 : Int))] [] else none)
   (fun v x => withS (some v) fun (s : ByteArray) => some (Out.ret (AVal.at (Value.string s)) sg0)) fun x x_1 => none := by kernel_rfl


/-! 132 (*wharfage/disk.Disk).Flush -/
theorem disk_Disk_Flush.main (C : CallF) (N : Nat) (m0 : Nat) (sg1 : Sg) :
  evalF C N disk_Disk_Flush.a [AVal.gp m0 (0 : Nat)] sg1 =
  if (false ^^ false) = true then some (Out.ret (AVal.at (Value.int IntKind.i64 (18 : Int))) sg1)
  else
   withOut (bif Nat.blt (235 : Nat) (1000000 : Nat) then C (235 : FuncId) [AVal.gp m0 (0 : Nat)] sg1 else none)
   (fun v sg' =>
    withI IntKind.i64 (some v) fun (n : Int) =>
    if (n == (0 : Int)) = true then
     withOut (bif Nat.blt (150 : Nat) (1000000 : Nat) then C (150 : FuncId) [AVal.gp m0 (0 : Nat), AVal.clo (236 : FuncId) [] []] sg' else none)
     (fun v sg' => withI IntKind.i64 (some v) fun (n_1 : Int) => some (Out.ret (AVal.at (Value.int IntKind.i64 n)) sg')) fun v sg' => some (Out.pan v sg')
    else some (Out.ret (AVal.at (Value.int IntKind.i64 n)) sg'))
   fun v sg' => some (Out.pan v sg') := by kernel_rfl


/-! 141 (*wharfage/disk.Disk).Down -/
theorem disk_Disk_Down.main (C : CallF) (N : Nat) (m0 : Nat) (sg1 : Sg) :
  evalF C N disk_Disk_Down.a [AVal.gp m0 (0 : Nat)] sg1 =
  if (false ^^ false) = false then withO (loadC none sg1 (AVal.gp m0 (3 : Nat))) fun p => withB p.fst[p.snd]? fun (b : Bool) => some (Out.ret (AVal.at (Value.bool b)) sg1)
  else some (Out.ret (AVal.at (Value.bool true)) sg1) := by kernel_rfl


/-! 150 (*wharfage/disk.Disk).settle -/
theorem disk_Disk_settle.main (C : CallF) (N : Nat) (m0 : Nat) (a1 : FuncId) (l2 : List AVal) (l3 : List AVal) (sg4 : Sg) :
  evalF C N disk_Disk_settle.a [AVal.gp m0 (0 : Nat), AVal.clo a1 l2 l3] sg4 =
  withO (loadC none sg4 (AVal.gp m0 (1 : Nat))) fun p =>
   withA p.fst[p.snd]? fun (r : AVal) =>
   withO (lenV r) fun (n : Nat) =>
    iter (disk_Disk_settle.R0 C N) N
    (mkS [(0 : Nat), (1 : Nat), (5 : Nat), (11 : Nat), (12 : Nat), (13 : Nat)]
     [Slot.v (AVal.gp m0 (0 : Nat)) false, Slot.v (AVal.clo a1 l2 l3) false, Slot.v (AVal.at (Value.int IntKind.i64 (0 : Int))) false, Slot.v r false,
     Slot.v (AVal.at (Value.int IntKind.i64 (↑n : Int))) false, Slot.v (AVal.at (Value.int IntKind.i64 (0 : Int))) false]
     [none, none, none, none, none, none] (RVal.sg sg4))
    (disk_Disk_settle.K0 C N) := by kernel_rfl
theorem disk_Disk_settle.r0 (C : CallF) (N : Nat) (m0 : Nat) (a1 : FuncId) (l2 : List AVal) (l3 : List AVal) (n4 : Int) (a5 : AVal) (n6 : Int) (n7 : Int) (sg8 : Sg) (k : Ex → St → R) :
  disk_Disk_settle.R0 C N
   (mkS [(0 : Nat), (1 : Nat), (5 : Nat), (11 : Nat), (12 : Nat), (13 : Nat)]
   [Slot.v (AVal.gp m0 (0 : Nat)) false, Slot.v (AVal.clo a1 l2 l3) false, Slot.v (AVal.at (Value.int IntKind.i64 n4)) false, Slot.v a5 false, Slot.v (AVal.at (Value.int IntKind.i64 n6)) false,
    Slot.v (AVal.at (Value.int IntKind.i64 n7)) false]
   [none, none, none, none, none, none] (RVal.sg sg8))
   k =
  if decide (n7 < n6) = true then
   withO (elemV (2 : Nat) n7 a5) fun (r : AVal) =>
   withO (loadC none sg8 r) fun p =>
    bif (p.snd + (2 : Nat)).ble p.fst.length then
    bindL (List.take (2 : Nat) (List.drop p.snd p.fst)) fun (l : List AVal) =>
     bif (AVal.agg l).cells.length.beq (2 : Nat) then
     bindL (splice [AVal.at (Value.int IntKind.i64 (0 : Int)), AVal.at (Value.string (ByteArray.mk (#[])))] (0 : Nat) (AVal.agg l).cells) fun (cs : List AVal) =>
      withOut (bif Nat.blt a1 (1000000 : Nat) then C a1 (l2 ++ ([AVal.at (Value.int IntKind.i64 n7)] ++ l3)) sg8 else none)
      (fun v sg' =>
       withB (some v) fun (b : Bool) =>
       if b = true then
        withO (loadC none sg' (AVal.gp m0 (0 : Nat))) fun p =>
        withA p.fst[p.snd]? fun (r : AVal) =>
         withI IntKind.i64 cs[(0 : Nat)]? fun (n : Int) =>
         withS cs[(1 : Nat)]? fun (s : ByteArray) =>
          withO (elemV (1 : Nat) n r) fun (r : AVal) =>
          withO (storeG none sg' r (1 : Nat) (AVal.at (Value.string s))) fun (sg : Sg) =>
           k Ex.normal
           (mkS [(0 : Nat), (1 : Nat), (5 : Nat), (11 : Nat), (12 : Nat), (13 : Nat)]
            [Slot.v (AVal.gp m0 (0 : Nat)) false, Slot.v (AVal.clo a1 l2 l3) false, Slot.v (AVal.at (Value.int IntKind.i64 (IntKind.i64.wrap (n4 + (1 : Int))))) false,
            Slot.v a5 false, Slot.v (AVal.at (Value.int IntKind.i64 n6)) false, Slot.v (AVal.at (Value.int IntKind.i64 (IntKind.i64.wrap (n7 + (1 : Int))))) false]
            [none, none, none, none, none, none] (RVal.sg sg))
       else
        k Ex.normal
        (mkS [(0 : Nat), (1 : Nat), (5 : Nat), (11 : Nat), (12 : Nat), (13 : Nat)]
         [Slot.v (AVal.gp m0 (0 : Nat)) false, Slot.v (AVal.clo a1 l2 l3) false, Slot.v (AVal.at (Value.int IntKind.i64 n4)) false, Slot.v a5 false,
         Slot.v (AVal.at (Value.int IntKind.i64 n6)) false, Slot.v (AVal.at (Value.int IntKind.i64 (IntKind.i64.wrap (n7 + (1 : Int))))) false]
         [none, none, none, none, none, none] (RVal.sg sg')))
      fun v sg' => some (Out.pan v sg')
     else none
    else none
  else k (Ex.exit (0 : Nat)) (mkS [(0 : Nat), (5 : Nat)] [Slot.v (AVal.gp m0 (0 : Nat)) false, Slot.v (AVal.at (Value.int IntKind.i64 n4)) false] [none, none] (RVal.sg sg8)) := by kernel_rfl
theorem disk_Disk_settle.k0_1 (C : CallF) (N : Nat) (m0 : Nat) (n1 : Int) (sg2 : Sg) :
  disk_Disk_settle.K0 C N (Ex.exit (0 : Nat)) (mkS [(0 : Nat), (5 : Nat)] [Slot.v (AVal.gp m0 (0 : Nat)) false, Slot.v (AVal.at (Value.int IntKind.i64 n1)) false] [none, none] (RVal.sg sg2)) =
  withO (storeG none sg2 (AVal.gp m0 (1 : Nat)) (1 : Nat) (AVal.sl true (0 : Nat) [])) fun (sg : Sg) => some (Out.ret (AVal.at (Value.int IntKind.i64 n1)) sg) := by kernel_rfl


/-! 234 (*wharfage/disk.Disk).has -/
theorem disk_Disk_has.main (C : CallF) (N : Nat) (m0 : Nat) (n1 : Int) (sg2 : Sg) :
  evalF C N disk_Disk_has.a [AVal.gp m0 (0 : Nat), AVal.at (Value.int IntKind.i64 n1)] sg2 =
  if decide (n1 ≥ (0 : Int)) = true then
   withOut (bif Nat.blt (129 : Nat) (1000000 : Nat) then C (129 : FuncId) [AVal.gp m0 (0 : Nat)] sg2 else none)
   (fun v x => withI IntKind.i64 (some v) fun (n : Int) => some (Out.ret (AVal.at (Value.bool (decide (n1 < n)))) sg2)) fun v x => some (Out.pan v sg2)
  else some (Out.ret (AVal.at (Value.bool false)) sg2) := by kernel_rfl


/-! 235 (*wharfage/disk.Disk).step -/
theorem disk_Disk_step.main (C : CallF) (N : Nat) (m0 : Nat) (sg1 : Sg) :
  evalF C N disk_Disk_step.a [AVal.gp m0 (0 : Nat)] sg1 =
  withO (loadC none sg1 (AVal.gp m0 (3 : Nat))) fun p =>
   withB p.fst[p.snd]? fun (b : Bool) =>
   if b = false then
    withO (loadC none sg1 (AVal.gp m0 (2 : Nat))) fun p =>
    withI IntKind.i64 p.fst[p.snd]? fun (n : Int) =>
     if (n == (1 : Int)) = true then
     withO (storeG none sg1 (AVal.gp m0 (3 : Nat)) (1 : Nat) (AVal.at (Value.bool true))) fun (sg : Sg) =>
      withO (storeG none sg (AVal.gp m0 (2 : Nat)) (1 : Nat) (AVal.at (Value.int IntKind.i64 (0 : Int)))) fun (sg : Sg) => some (Out.ret (AVal.at (Value.int IntKind.i64 (17 : Int))) sg)
     else
     withO (loadC none sg1 (AVal.gp m0 (2 : Nat))) fun p =>
      withI IntKind.i64 p.fst[p.snd]? fun (n : Int) =>
      withO
       (storeG none sg1 (AVal.gp m0 (2 : Nat)) (1 : Nat)
       (AVal.at (Value.int IntKind.i64 (bif true then max2 (IntKind.i64.wrap (n - (1 : Int))) (0 : Int) else min2 (IntKind.i64.wrap (n - (1 : Int))) (0 : Int)))))
       fun (sg : Sg) =>
       withO (loadC none sg (AVal.gp m0 (4 : Nat))) fun p =>
       withI IntKind.i64 p.fst[p.snd]? fun (n : Int) =>
        withO (storeG none sg (AVal.gp m0 (4 : Nat)) (1 : Nat) (AVal.at (Value.int IntKind.i64 (IntKind.i64.wrap (n + (1 : Int)))))) fun (sg : Sg) =>
        some (Out.ret (AVal.at (Value.int IntKind.i64 (0 : Int))) sg)
   else
    withO (storeG none sg1 (AVal.gp m0 (3 : Nat)) (1 : Nat) (AVal.at (Value.bool true))) fun (sg : Sg) =>
    withO (storeG none sg (AVal.gp m0 (2 : Nat)) (1 : Nat) (AVal.at (Value.int IntKind.i64 (0 : Int)))) fun (sg : Sg) => some (Out.ret (AVal.at (Value.int IntKind.i64 (17 : Int))) sg) := by kernel_rfl


/-! 236 (*wharfage/disk.Disk).Flush$1 -/
theorem disk_Disk_Flush_1.main (C : CallF) (N : Nat) (n0 : Int) (sg1 : Sg) :
  evalF C N disk_Disk_Flush_1.a [AVal.at (Value.int IntKind.i64 n0)] sg1 =
  some (Out.ret (AVal.at (Value.bool true)) sg1) := by kernel_rfl


/-! 43 wharfage/disk.New -/
theorem disk_New.main (C : CallF) (N : Nat) (n0 : Int) (sg1 : Sg) :
  evalF C N disk_New.a [AVal.at (Value.int IntKind.i64 n0)] sg1 =
  if decide (n0 < (1 : Int)) = false then
   if decide (n0 > (4865 : Int)) = true then some (Out.ret (AVal.tup [AVal.at (Value.pointer none), AVal.at (Value.int IntKind.i64 (18 : Int))]) sg1)
   else
   withOut (bif Nat.blt (131 : Nat) (1000000 : Nat) then C (131 : FuncId) [] [] else none)
    (fun v x =>
    withS (some v) fun (s : ByteArray) =>
     bif true && Nat.blt (0 : Nat) (1 : Nat) then
     withOut
      (bif Nat.blt (149 : Nat) (1000000 : Nat) then
      C (149 : FuncId) [AVal.gs (List.length sg1) (1 : Nat) (0 : Nat) (1 : Nat), AVal.at (Value.int IntKind.i64 n0)] (sg1 ++ [Box.mk [AVal.at (Value.string s)]])
      else none)
      (fun v sg' =>
      withA (plainA v) fun (a : AVal) =>
       bif a.cells.length.beq (1 : Nat) then
       bindL
        (a.cells ++
        List.drop ((0 : Nat) + a.cells.length)
         [AVal.sl true (1 : Nat) [], AVal.sl true (2 : Nat) [], AVal.at (Value.int IntKind.i64 (0 : Int)), AVal.at (Value.bool false), AVal.at (Value.int IntKind.i64 (0 : Int))])
        fun (cs : List AVal) => some (Out.ret (AVal.tup [AVal.gp (List.length sg') (0 : Nat), AVal.at (Value.int IntKind.i64 (0 : Int))]) (sg' ++ [Box.mk (AVal.agg cs).cells]))
       else none)
      fun v sg' => some (Out.pan v sg')
     else none)
    fun x x_1 => none
  else some (Out.ret (AVal.tup [AVal.at (Value.pointer none), AVal.at (Value.int IntKind.i64 (18 : Int))]) sg1) := by kernel_rfl


/-! 194 wharfage/octets.Num -/
theorem octets_Num.main (C : CallF) (N : Nat) (n0 : Int) (n1 : Int) (sg2 : Sg) :
  evalF C N octets_Num.a [AVal.at (Value.int IntKind.i64 n0), AVal.at (Value.int IntKind.u64 n1)] sg2 =
  withOut (bif Nat.blt (277 : Nat) (1000000 : Nat) then C (277 : FuncId) [AVal.at (Value.int IntKind.i64 n0)] [] else none)
   (fun v x =>
   withB (some v) fun (b : Bool) =>
    if (!b) = true then some (Out.ret (AVal.at (Value.string (ByteArray.mk (#[])))) sg2)
    else
    iter (octets_Num.R0 C N) N
     (mkS [(0 : Nat), (1 : Nat), (5 : Nat), (10 : Nat), (11 : Nat)]
     [Slot.v (AVal.at (Value.int IntKind.i64 n0)) false, Slot.v (AVal.at (Value.int IntKind.u64 n1)) false, Slot.v (AVal.gp (List.length sg2) (0 : Nat)) false,
      Slot.v (AVal.at (Value.int IntKind.i64 n0)) false, Slot.v (AVal.at (Value.int IntKind.i64 (0 : Int))) false]
     [none, none, none, none, none]
     (RVal.sg
      (sg2 ++
      [Box.mk
       [AVal.at (Value.int IntKind.u8 (0 : Int)), AVal.at (Value.int IntKind.u8 (0 : Int)), AVal.at (Value.int IntKind.u8 (0 : Int)), AVal.at (Value.int IntKind.u8 (0 : Int)),
        AVal.at (Value.int IntKind.u8 (0 : Int)), AVal.at (Value.int IntKind.u8 (0 : Int)), AVal.at (Value.int IntKind.u8 (0 : Int)), AVal.at (Value.int IntKind.u8 (0 : Int))]])))
     (octets_Num.K0 C N))
   fun x x_1 => none := by kernel_rfl
theorem octets_Num.r0 (C : CallF) (N : Nat) (n0 : Int) (n1 : Int) (m2 : Nat) (n3 : Int) (n4 : Int) (sg5 : Sg) (k : Ex → St → R) :
  octets_Num.R0 C N
   (mkS [(0 : Nat), (1 : Nat), (5 : Nat), (10 : Nat), (11 : Nat)]
   [Slot.v (AVal.at (Value.int IntKind.i64 n0)) false, Slot.v (AVal.at (Value.int IntKind.u64 n1)) false, Slot.v (AVal.gp m2 (0 : Nat)) false, Slot.v (AVal.at (Value.int IntKind.i64 n3)) false,
    Slot.v (AVal.at (Value.int IntKind.i64 n4)) false]
   [none, none, none, none, none] (RVal.sg sg5))
   k =
  if decide (n4 < n3) = true then
   if IntKind.i64.wrap ((8 : Int) * n4) < (0 : Int) then none
   else
   if (0 : Int) ≤ IntKind.i64.wrap (IntKind.i64.wrap (n0 - (1 : Int)) - n4) ∧ IntKind.i64.wrap (IntKind.i64.wrap (n0 - (1 : Int)) - n4) < (↑(8 : Nat) : Int) then
    withO
    (storeG none sg5 (AVal.gp m2 ((0 : Nat) + (IntKind.i64.wrap (IntKind.i64.wrap (n0 - (1 : Int)) - n4)).toNat * (1 : Nat))) (1 : Nat)
     (AVal.at (Value.int IntKind.u8 (IntKind.u8.wrap (shiftI BinOp.shr IntKind.u64 n1 (IntKind.i64.wrap ((8 : Int) * n4)))))))
    fun (sg : Sg) =>
    k Ex.normal
     (mkS [(0 : Nat), (1 : Nat), (5 : Nat), (10 : Nat), (11 : Nat)]
     [Slot.v (AVal.at (Value.int IntKind.i64 n0)) false, Slot.v (AVal.at (Value.int IntKind.u64 n1)) false, Slot.v (AVal.gp m2 (0 : Nat)) false,
      Slot.v (AVal.at (Value.int IntKind.i64 n3)) false, Slot.v (AVal.at (Value.int IntKind.i64 (IntKind.i64.wrap (n4 + (1 : Int))))) false]
     [none, none, none, none, none] (RVal.sg sg))
   else none
  else k (Ex.exit (0 : Nat)) (mkS [(0 : Nat), (5 : Nat)] [Slot.v (AVal.at (Value.int IntKind.i64 n0)) false, Slot.v (AVal.gp m2 (0 : Nat)) false] [none, none] (RVal.sg sg5)) := by kernel_rfl
theorem octets_Num.k0_1 (C : CallF) (N : Nat) (n0 : Int) (m1 : Nat) (sg2 : Sg) :
  octets_Num.K0 C N (Ex.exit (0 : Nat)) (mkS [(0 : Nat), (5 : Nat)] [Slot.v (AVal.at (Value.int IntKind.i64 n0)) false, Slot.v (AVal.gp m1 (0 : Nat)) false] [none, none] (RVal.sg sg2)) =
  if (0 : Int) ≤ (0 : Int) ∧ (0 : Int) ≤ n0 ∧ n0 ≤ (↑(8 : Nat) : Int) then
   withO sg2[m1]? fun (B : Box) =>
   bif Nat.blt (0 : Nat) B.cells.length && Nat.ble (8 : Nat) B.cells.length then
    withO (flatG sg2 (1 : Nat) (AVal.gs m1 (1 : Nat) (bif Nat.beq (8 : Nat) (Int.toNat (0 : Int)) then (0 : Nat) else (0 : Nat) + Int.toNat (0 : Int) * (1 : Nat)) (n0.toNat - Int.toNat (0 : Int))))
    fun (p : Nat × List AVal) => withO (bytesOf p.snd) fun (bs : List UInt8) => some (Out.ret (AVal.at (Value.string (ByteArray.mk (bs.toArray)))) sg2)
   else none
  else none := by kernel_rfl


/-! 277 wharfage/octets.width -/
theorem octets_width.main (C : CallF) (N : Nat) (n0 : Int) (sg1 : Sg) :
  evalF C N octets_width.a [AVal.at (Value.int IntKind.i64 n0)] sg1 =
  if decide (n0 ≥ (1 : Int)) = true then some (Out.ret (AVal.at (Value.bool (decide (n0 ≤ (8 : Int))))) sg1) else some (Out.ret (AVal.at (Value.bool false)) sg1) := by kernel_rfl


/-! 328 wharfage/sector.Seal -/
theorem sector_Seal.main (C : CallF) (N : Nat) (n0 : Int) (n1 : Int) (n2 : Int) (n3 : Int) (n4 : Int) (s5 : ByteArray) (sg6 : Sg) :
  evalF C N sector_Seal.a
   [AVal.agg
    [AVal.at (Value.int IntKind.i64 n0), AVal.at (Value.int IntKind.u64 n1), AVal.at (Value.int IntKind.u64 n2), AVal.at (Value.int IntKind.i64 n3), AVal.at (Value.int IntKind.i64 n4),
    AVal.at (Value.string s5)]]
   sg6 =
  withOut
   (bif Nat.blt (332 : Nat) (1000000 : Nat) then
   C (332 : FuncId)
    [AVal.agg
     [AVal.at (Value.int IntKind.i64 n0), AVal.at (Value.int IntKind.u64 n1), AVal.at (Value.int IntKind.u64 n2), AVal.at (Value.int IntKind.i64 n3), AVal.at (Value.int IntKind.i64 n4),
     AVal.at (Value.string s5)]]
    []
   else none)
   (fun v x =>
   withI IntKind.i64 (some v) fun (n : Int) =>
    if (n != (0 : Int)) = true then some (Out.ret (AVal.tup [AVal.at (Value.string (ByteArray.mk (#[]))), AVal.at (Value.int IntKind.i64 n)]) sg6)
    else
    withI IntKind.i64
     [AVal.at (Value.int IntKind.i64 n0), AVal.at (Value.int IntKind.u64 n1), AVal.at (Value.int IntKind.u64 n2), AVal.at (Value.int IntKind.i64 n3), AVal.at (Value.int IntKind.i64 n4),
      AVal.at (Value.string s5)][(0 : Nat)]?
     fun (n : Int) =>
     withOut (bif Nat.blt (194 : Nat) (1000000 : Nat) then C (194 : FuncId) [ofConst (Value.int IntKind.i64 (1 : Int)), AVal.at (Value.int IntKind.u64 (IntKind.u64.wrap n))] [] else none)
     (fun v x =>
      withS (some v) fun (s : ByteArray) =>
      withOut (bif Nat.blt (194 : Nat) (1000000 : Nat) then C (194 : FuncId) [ofConst (Value.int IntKind.i64 (1 : Int)), ofConst (Value.int IntKind.u64 (0 : Int))] [] else none)
       (fun v x =>
       withS (some v) fun (s_1 : ByteArray) =>
        if (↑(s.size + s_1.size) : Int) > IntKind.i64.max then none
        else
        withI IntKind.i64
         [AVal.at (Value.int IntKind.i64 n0), AVal.at (Value.int IntKind.u64 n1), AVal.at (Value.int IntKind.u64 n2), AVal.at (Value.int IntKind.i64 n3),
          AVal.at (Value.int IntKind.i64 n4), AVal.at (Value.string s5)][(3 : Nat)]?
         fun (n : Int) =>
         withOut
         (bif Nat.blt (194 : Nat) (1000000 : Nat) then C (194 : FuncId) [ofConst (Value.int IntKind.i64 (2 : Int)), AVal.at (Value.int IntKind.u64 (IntKind.u64.wrap n))] []
         else none)
         (fun v x =>
          withS (some v) fun (s_2 : ByteArray) =>
          if (↑((catS s s_1).size + s_2.size) : Int) > IntKind.i64.max then none
          else
           withI IntKind.i64
           [AVal.at (Value.int IntKind.i64 n0), AVal.at (Value.int IntKind.u64 n1), AVal.at (Value.int IntKind.u64 n2), AVal.at (Value.int IntKind.i64 n3),
            AVal.at (Value.int IntKind.i64 n4), AVal.at (Value.string s5)][(4 : Nat)]?
           fun (n : Int) =>
           withOut
            (bif Nat.blt (194 : Nat) (1000000 : Nat) then
            C (194 : FuncId) [ofConst (Value.int IntKind.i64 (2 : Int)), AVal.at (Value.int IntKind.u64 (IntKind.u64.wrap n))] []
            else none)
            (fun v x =>
            withS (some v) fun (s_3 : ByteArray) =>
            if (↑((catS (catS s s_1) s_2).size + s_3.size) : Int) > IntKind.i64.max then none
            else
            withOut
            (bif Nat.blt (194 : Nat) (1000000 : Nat) then C (194 : FuncId) [ofConst (Value.int IntKind.i64 (2 : Int)), ofConst (Value.int IntKind.u64 (0 : Int))] []
            else none)
            (fun v x =>
            withS (some v) fun (s_4 : ByteArray) =>
            if (↑((catS (catS (catS s s_1) s_2) s_3).size + s_4.size) : Int) > IntKind.i64.max then none
            else
            withI IntKind.u64
            [AVal.at (Value.int IntKind.i64 n0), AVal.at (Value.int IntKind.u64 n1), AVal.at (Value.int IntKind.u64 n2), AVal.at (Value.int IntKind.i64 n3),
            AVal.at (Value.int IntKind.i64 n4), AVal.at (Value.string s5)][(1 : Nat)]?
            fun (n : Int) =>
            withOut
            (bif Nat.blt (194 : Nat) (1000000 : Nat) then C (194 : FuncId) [ofConst (Value.int IntKind.i64 (8 : Int)), AVal.at (Value.int IntKind.u64 n)] []
            else none)
            (fun v x =>
            withS (some v) fun (s_5 : ByteArray) =>
            if (↑((catS (catS (catS (catS s s_1) s_2) s_3) s_4).size + s_5.size) : Int) > IntKind.i64.max then none
            else
            withI IntKind.u64
            [AVal.at (Value.int IntKind.i64 n0), AVal.at (Value.int IntKind.u64 n1), AVal.at (Value.int IntKind.u64 n2),
            AVal.at (Value.int IntKind.i64 n3), AVal.at (Value.int IntKind.i64 n4), AVal.at (Value.string s5)][(2 : Nat)]?
            fun (n : Int) =>
            withOut
            (bif Nat.blt (194 : Nat) (1000000 : Nat) then
            C (194 : FuncId) [ofConst (Value.int IntKind.i64 (8 : Int)), AVal.at (Value.int IntKind.u64 n)] []
            else none)
            (fun v x =>
            withS (some v) fun (s_6 : ByteArray) =>
            if (↑((catS (catS (catS (catS (catS s s_1) s_2) s_3) s_4) s_5).size + s_6.size) : Int) > IntKind.i64.max then none
            else
            withOut
            (bif Nat.blt (194 : Nat) (1000000 : Nat) then
            C (194 : FuncId) [ofConst (Value.int IntKind.i64 (4 : Int)), ofConst (Value.int IntKind.u64 (0 : Int))] []
            else none)
            (fun v x =>
            withS (some v) fun (s_7 : ByteArray) =>
            if (↑((catS (catS (catS (catS (catS (catS s s_1) s_2) s_3) s_4) s_5) s_6).size + s_7.size) : Int) > IntKind.i64.max then
            none
            else
            withOut
            (bif Nat.blt (381 : Nat) (1000000 : Nat) then
            C (381 : FuncId)
            [AVal.at (Value.string (catS (catS (catS (catS (catS (catS (catS s s_1) s_2) s_3) s_4) s_5) s_6) s_7))] []
            else none)
            (fun v x =>
            withI IntKind.u32 (some v) fun (n : Int) =>
            withS
            [AVal.at (Value.int IntKind.i64 n0), AVal.at (Value.int IntKind.u64 n1), AVal.at (Value.int IntKind.u64 n2),
            AVal.at (Value.int IntKind.i64 n3), AVal.at (Value.int IntKind.i64 n4),
            AVal.at (Value.string s5)][(5 : Nat)]?
            fun (s_8 : ByteArray) =>
            withOut
            (bif Nat.blt (380 : Nat) (1000000 : Nat) then
            C (380 : FuncId) [AVal.at (Value.int IntKind.u32 n), AVal.at (Value.string s_8)] []
            else none)
            (fun v x =>
            withI IntKind.u32 (some v) fun (n : Int) =>
            withOut
            (bif Nat.blt (194 : Nat) (1000000 : Nat) then
            C (194 : FuncId)
            [ofConst (Value.int IntKind.i64 (4 : Int)), AVal.at (Value.int IntKind.u64 (IntKind.u64.wrap n))] []
            else none)
            (fun v x =>
            withS (some v) fun (s_9 : ByteArray) =>
            if
            (↑((catS (catS (catS (catS (catS (catS (catS s s_1) s_2) s_3) s_4) s_5) s_6) s_7).size +
            s_9.size) :
            Int) >
            IntKind.i64.max then
            none
            else
            withS
            [AVal.at (Value.int IntKind.i64 n0), AVal.at (Value.int IntKind.u64 n1),
            AVal.at (Value.int IntKind.u64 n2), AVal.at (Value.int IntKind.i64 n3),
            AVal.at (Value.int IntKind.i64 n4), AVal.at (Value.string s5)][(5 : Nat)]?
            fun (s_10 : ByteArray) =>
            if
            (↑((catS (catS (catS (catS (catS (catS (catS (catS s s_1) s_2) s_3) s_4) s_5) s_6) s_7)
            s_9).size +
            s_10.size) :
            Int) >
            IntKind.i64.max then
            none
            else
            some
            (Out.ret
            (AVal.tup
            [AVal.at
            (Value.string
            (catS
            (catS
            (catS (catS (catS (catS (catS (catS (catS s s_1) s_2) s_3) s_4) s_5) s_6) s_7)
            s_9)
            s_10)),
            AVal.at (Value.int IntKind.i64 (0 : Int))])
            sg6))
            fun x x_1 => none)
            fun x x_1 => none)
            fun x x_1 => none)
            fun x x_1 => none)
            fun x x_1 => none)
            fun x x_1 => none)
            fun x x_1 => none)
            fun x x_1 => none)
         fun x x_1 => none)
       fun x x_1 => none)
     fun x x_1 => none)
   fun x x_1 => none := by kernel_rfl


/-! 332 wharfage/sector.Check -/
theorem sector_Check.main (C : CallF) (N : Nat) (n0 : Int) (n1 : Int) (n2 : Int) (n3 : Int) (n4 : Int) (s5 : ByteArray) (sg6 : Sg) :
  evalF C N sector_Check.a
   [AVal.agg
    [AVal.at (Value.int IntKind.i64 n0), AVal.at (Value.int IntKind.u64 n1), AVal.at (Value.int IntKind.u64 n2), AVal.at (Value.int IntKind.i64 n3), AVal.at (Value.int IntKind.i64 n4),
    AVal.at (Value.string s5)]]
   sg6 =
  withI IntKind.i64
   [AVal.at (Value.int IntKind.i64 n0), AVal.at (Value.int IntKind.u64 n1), AVal.at (Value.int IntKind.u64 n2), AVal.at (Value.int IntKind.i64 n3), AVal.at (Value.int IntKind.i64 n4),
    AVal.at (Value.string s5)][(0 : Nat)]?
   fun (n : Int) =>
   if decide (n ≤ (0 : Int)) = false then
   withI IntKind.i64
    [AVal.at (Value.int IntKind.i64 n0), AVal.at (Value.int IntKind.u64 n1), AVal.at (Value.int IntKind.u64 n2), AVal.at (Value.int IntKind.i64 n3), AVal.at (Value.int IntKind.i64 n4),
     AVal.at (Value.string s5)][(0 : Nat)]?
    fun (n : Int) =>
    if decide (n ≥ (5 : Int)) = false then
    withI IntKind.i64
     [AVal.at (Value.int IntKind.i64 n0), AVal.at (Value.int IntKind.u64 n1), AVal.at (Value.int IntKind.u64 n2), AVal.at (Value.int IntKind.i64 n3), AVal.at (Value.int IntKind.i64 n4),
      AVal.at (Value.string s5)][(3 : Nat)]?
     fun (n : Int) =>
     withOut (bif Nat.blt (383 : Nat) (1000000 : Nat) then C (383 : FuncId) [AVal.at (Value.int IntKind.i64 n)] [] else none)
     (fun v x =>
      withB (some v) fun (b : Bool) =>
      if (!b) = false then
       withI IntKind.i64
       [AVal.at (Value.int IntKind.i64 n0), AVal.at (Value.int IntKind.u64 n1), AVal.at (Value.int IntKind.u64 n2), AVal.at (Value.int IntKind.i64 n3), AVal.at (Value.int IntKind.i64 n4),
        AVal.at (Value.string s5)][(4 : Nat)]?
       fun (n : Int) =>
       withOut (bif Nat.blt (383 : Nat) (1000000 : Nat) then C (383 : FuncId) [AVal.at (Value.int IntKind.i64 n)] [] else none)
        (fun v x =>
        withB (some v) fun (b : Bool) =>
         if (!b) = false then
         withS
          [AVal.at (Value.int IntKind.i64 n0), AVal.at (Value.int IntKind.u64 n1), AVal.at (Value.int IntKind.u64 n2), AVal.at (Value.int IntKind.i64 n3),
           AVal.at (Value.int IntKind.i64 n4), AVal.at (Value.string s5)][(5 : Nat)]?
          fun (s : ByteArray) =>
          if ((↑s.size : Int) != (480 : Int)) = true then some (Out.ret (AVal.at (Value.int IntKind.i64 (18 : Int))) sg6)
          else some (Out.ret (AVal.at (Value.int IntKind.i64 (0 : Int))) sg6)
         else some (Out.ret (AVal.at (Value.int IntKind.i64 (18 : Int))) sg6))
        fun x x_1 => none
      else some (Out.ret (AVal.at (Value.int IntKind.i64 (18 : Int))) sg6))
     fun x x_1 => none
    else some (Out.ret (AVal.at (Value.int IntKind.i64 (18 : Int))) sg6)
   else some (Out.ret (AVal.at (Value.int IntKind.i64 (18 : Int))) sg6) := by kernel_rfl


/-! 383 wharfage/sector.short -/
theorem sector_short.main (C : CallF) (N : Nat) (n0 : Int) (sg1 : Sg) :
  evalF C N sector_short.a [AVal.at (Value.int IntKind.i64 n0)] sg1 =
  if decide (n0 ≥ (0 : Int)) = true then some (Out.ret (AVal.at (Value.bool (decide (n0 ≤ (65535 : Int))))) sg1) else some (Out.ret (AVal.at (Value.bool false)) sg1) := by kernel_rfl


/-! 381 wharfage/crc.Sum -/
theorem crc_Sum.main (C : CallF) (N : Nat) (s0 : ByteArray) (sg1 : Sg) :
  evalF C N crc_Sum.a [AVal.at (Value.string s0)] sg1 =
  withOut (bif Nat.blt (380 : Nat) (1000000 : Nat) then C (380 : FuncId) [ofConst (Value.int IntKind.u32 (0 : Int)), AVal.at (Value.string s0)] [] else none)
   (fun v x => withI IntKind.u32 (some v) fun (n : Int) => some (Out.ret (AVal.at (Value.int IntKind.u32 n)) sg1)) fun x x_1 => none := by kernel_rfl


/-! 126 wharfage/octets.Pad -/
theorem octets_Pad.main (C : CallF) (N : Nat) (s0 : ByteArray) (n1 : Int) (sg2 : Sg) :
  evalF C N octets_Pad.a [AVal.at (Value.string s0), AVal.at (Value.int IntKind.i64 n1)] sg2 =
  if decide (n1 > (65536 : Int)) = false then
   if decide (n1 ≤ (↑s0.size : Int)) = true then some (Out.ret (AVal.at (Value.string s0)) sg2)
   else
   withOut
    (bif Nat.blt (230 : Nat) (1000000 : Nat) then C (230 : FuncId) [ofConst (Value.string (ByteArray.mk (#[(0 : UInt8)]))), AVal.at (Value.int IntKind.i64 (IntKind.i64.wrap (n1 - (↑s0.size : Int))))] []
    else none)
    (fun v x => withS (some v) fun (s : ByteArray) => if (↑(s0.size + s.size) : Int) > IntKind.i64.max then none else some (Out.ret (AVal.at (Value.string (catS s0 s))) sg2))
    fun x x_1 => none
  else some (Out.ret (AVal.at (Value.string s0)) sg2) := by kernel_rfl


/-! 245 wharfage/sector.Home -/
theorem sector_Home.main (C : CallF) (N : Nat) (n0 : Int) (s1 : ByteArray) (sg2 : Sg) :
  evalF C N sector_Home.a [AVal.at (Value.int IntKind.i64 n0), AVal.at (Value.string s1)] sg2 =
  withOut
   (bif Nat.blt (332 : Nat) (1000000 : Nat) then
   C (332 : FuncId)
    [AVal.agg
     [AVal.at (Value.int IntKind.i64 (4 : Int)), AVal.at (Value.int IntKind.u64 (0 : Int)), AVal.at (Value.int IntKind.u64 (0 : Int)), AVal.at (Value.int IntKind.i64 n0),
     AVal.at (Value.int IntKind.i64 (0 : Int)), AVal.at (Value.string s1)]]
    []
   else none)
   (fun v x =>
   withI IntKind.i64 (some v) fun (n : Int) =>
    if (n == (0 : Int)) = true then
    withOut (bif Nat.blt (333 : Nat) (1000000 : Nat) then C (333 : FuncId) [AVal.at (Value.string s1)] [] else none)
     (fun v x =>
     withB (some v) fun (b : Bool) =>
      if b = true then
      withOut (bif Nat.blt (131 : Nat) (1000000 : Nat) then C (131 : FuncId) [] [] else none)
       (fun v x => withS (some v) fun (s : ByteArray) => some (Out.ret (AVal.tup [AVal.at (Value.string s), AVal.at (Value.int IntKind.i64 (0 : Int))]) sg2))
       fun x x_1 => none
      else
      withOut
       (bif Nat.blt (328 : Nat) (1000000 : Nat) then
       C (328 : FuncId)
        [AVal.agg
         [AVal.at (Value.int IntKind.i64 (4 : Int)), AVal.at (Value.int IntKind.u64 (0 : Int)), AVal.at (Value.int IntKind.u64 (0 : Int)), AVal.at (Value.int IntKind.i64 n0),
         AVal.at (Value.int IntKind.i64 (0 : Int)), AVal.at (Value.string s1)]]
        []
       else none)
       (fun v x =>
       withT v fun (vs : List AVal) =>
        bif vs.length.beq (2 : Nat) then
        withS vs[(0 : Nat)]? fun (s : ByteArray) =>
         withI IntKind.i64 vs[(1 : Nat)]? fun (n : Int) => some (Out.ret (AVal.tup [AVal.at (Value.string s), AVal.at (Value.int IntKind.i64 n)]) sg2)
        else none)
       fun x x_1 => none)
     fun x x_1 => none
    else
    withOut
     (bif Nat.blt (328 : Nat) (1000000 : Nat) then
     C (328 : FuncId)
      [AVal.agg
       [AVal.at (Value.int IntKind.i64 (4 : Int)), AVal.at (Value.int IntKind.u64 (0 : Int)), AVal.at (Value.int IntKind.u64 (0 : Int)), AVal.at (Value.int IntKind.i64 n0),
       AVal.at (Value.int IntKind.i64 (0 : Int)), AVal.at (Value.string s1)]]
      []
     else none)
     (fun v x =>
     withT v fun (vs : List AVal) =>
      bif vs.length.beq (2 : Nat) then
      withS vs[(0 : Nat)]? fun (s : ByteArray) =>
       withI IntKind.i64 vs[(1 : Nat)]? fun (n : Int) => some (Out.ret (AVal.tup [AVal.at (Value.string s), AVal.at (Value.int IntKind.i64 n)]) sg2)
      else none)
     fun x x_1 => none)
   fun x x_1 => none := by kernel_rfl


/-! 333 wharfage/octets.Noughts -/
theorem octets_Noughts.main (C : CallF) (N : Nat) (s0 : ByteArray) (sg1 : Sg) :
  evalF C N octets_Noughts.a [AVal.at (Value.string s0)] sg1 =
  withOut (bif Nat.blt (384 : Nat) (1000000 : Nat) then C (384 : FuncId) [AVal.at (Value.string s0), ofConst (Value.string (ByteArray.mk (#[(0 : UInt8)])))] [] else none)
   (fun v x => withI IntKind.i64 (some v) fun (n : Int) => some (Out.ret (AVal.at (Value.bool (n == (↑s0.size : Int)))) sg1)) fun x x_1 => none := by kernel_rfl


/-! 249 (*wharfage/journal.Journal).write -/
theorem journal_Journal_write.main (C : CallF) (N : Nat) (m0 : Nat) (n1 : Int) (n2 : Int) (n3 : Int) (n4 : Int) (n5 : Int) (n6 : Int) (s7 : ByteArray) (sg8 : Sg) :
  evalF C N journal_Journal_write.a
   [AVal.gp m0 (0 : Nat), AVal.at (Value.int IntKind.i64 n1),
   AVal.agg
    [AVal.at (Value.int IntKind.i64 n2), AVal.at (Value.int IntKind.u64 n3), AVal.at (Value.int IntKind.u64 n4), AVal.at (Value.int IntKind.i64 n5), AVal.at (Value.int IntKind.i64 n6),
    AVal.at (Value.string s7)]]
   sg8 =
  withO (loadC none sg8 (AVal.gp m0 (2 : Nat))) fun p =>
   withI IntKind.u64 p.fst[p.snd]? fun (n : Int) =>
   withO (loadC none sg8 (AVal.gp m0 (4 : Nat))) fun p =>
    withI IntKind.u64 p.fst[p.snd]? fun (n_1 : Int) =>
    withOut
     (bif Nat.blt (328 : Nat) (1000000 : Nat) then
     C (328 : FuncId)
      [AVal.agg
       [AVal.at (Value.int IntKind.i64 n2), AVal.at (Value.int IntKind.u64 n), AVal.at (Value.int IntKind.u64 (IntKind.u64.wrap (n_1 + (1 : Int)))), AVal.at (Value.int IntKind.i64 n5),
       AVal.at (Value.int IntKind.i64 n6), AVal.at (Value.string s7)]]
      []
     else none)
     (fun v x =>
     withT v fun (vs : List AVal) =>
      bif vs.length.beq (2 : Nat) then
      withS vs[(0 : Nat)]? fun (s : ByteArray) =>
       withI IntKind.i64 vs[(1 : Nat)]? fun (n : Int) =>
       if (n != (0 : Int)) = true then some (Out.ret (AVal.at (Value.int IntKind.i64 n)) sg8)
       else
        withO (loadC none sg8 (AVal.gp m0 (0 : Nat))) fun p =>
        withA p.fst[p.snd]? fun (r : AVal) =>
         withO (loadC none sg8 (AVal.gp m0 (3 : Nat))) fun p =>
         withI IntKind.i64 p.fst[p.snd]? fun (n : Int) =>
          withA (plainA r) fun (a : AVal) =>
          withOut
           (bif Nat.blt (130 : Nat) (1000000 : Nat) then
           C (130 : FuncId) [a, AVal.at (Value.int IntKind.i64 (IntKind.i64.wrap (IntKind.i64.wrap ((1 : Int) + n) + n1))), AVal.at (Value.string s)] sg8
           else none)
           (fun v sg' => withI IntKind.i64 (some v) fun (n : Int) => some (Out.ret (AVal.at (Value.int IntKind.i64 n)) sg')) fun v sg' => none
      else none)
     fun x x_1 => none := by kernel_rfl


/-! 146 (*wharfage/journal.Journal).Room -/
theorem journal_Journal_Room.main (C : CallF) (N : Nat) (m0 : Nat) (sg1 : Sg) :
  evalF C N journal_Journal_Room.a [AVal.gp m0 (0 : Nat)] sg1 =
  if (false ^^ false) = true then some (Out.ret (AVal.at (Value.int IntKind.i64 (0 : Int))) sg1)
  else
   withO (loadC none sg1 (AVal.gp m0 (1 : Nat))) fun p =>
   withI IntKind.i64 p.fst[p.snd]? fun (n : Int) =>
    withO (loadC none sg1 (AVal.gp m0 (3 : Nat))) fun p =>
    withI IntKind.i64 p.fst[p.snd]? fun (n_1 : Int) => some (Out.ret (AVal.at (Value.int IntKind.i64 (IntKind.i64.wrap (n - n_1)))) sg1) := by kernel_rfl


/-! 145 (*wharfage/journal.Journal).Number -/
theorem journal_Journal_Number.main (C : CallF) (N : Nat) (m0 : Nat) (sg1 : Sg) :
  evalF C N journal_Journal_Number.a [AVal.gp m0 (0 : Nat)] sg1 =
  if (false ^^ false) = true then some (Out.ret (AVal.at (Value.int IntKind.u64 (0 : Int))) sg1)
  else withO (loadC none sg1 (AVal.gp m0 (4 : Nat))) fun p => withI IntKind.u64 p.fst[p.snd]? fun (n : Int) => some (Out.ret (AVal.at (Value.int IntKind.u64 n)) sg1) := by kernel_rfl


/-! 147 (*wharfage/journal.Journal).Epoch -/
theorem journal_Journal_Epoch.main (C : CallF) (N : Nat) (m0 : Nat) (sg1 : Sg) :
  evalF C N journal_Journal_Epoch.a [AVal.gp m0 (0 : Nat)] sg1 =
  if (false ^^ false) = true then some (Out.ret (AVal.at (Value.int IntKind.u64 (0 : Int))) sg1)
  else withO (loadC none sg1 (AVal.gp m0 (2 : Nat))) fun p => withI IntKind.u64 p.fst[p.snd]? fun (n : Int) => some (Out.ret (AVal.at (Value.int IntKind.u64 n)) sg1) := by kernel_rfl


/-! 238 wharfage/journal.Open -/
theorem journal_Open.main (C : CallF) (N : Nat) (m0 : Nat) (n1 : Int) (n2 : Int) (sg3 : Sg) :
  evalF C N journal_Open.a [AVal.gp m0 (0 : Nat), AVal.at (Value.int IntKind.i64 n1), AVal.at (Value.int IntKind.u64 n2)] sg3 =
  if (false ^^ false) = false then
   if decide (n1 < (4 : Int)) = false then
   if decide (n1 > (1024 : Int)) = false then
    withOut (bif Nat.blt (129 : Nat) (1000000 : Nat) then C (129 : FuncId) [AVal.gp m0 (0 : Nat)] sg3 else none)
    (fun v x =>
     withI IntKind.i64 (some v) fun (n : Int) =>
     if decide (n ≤ n1) = true then some (Out.ret (AVal.tup [AVal.at (Value.pointer none), AVal.at (Value.int IntKind.i64 (18 : Int))]) sg3)
     else
      some
      (Out.ret (AVal.tup [AVal.gp (List.length sg3) (0 : Nat), AVal.at (Value.int IntKind.i64 (0 : Int))])
       (sg3 ++
       [Box.mk
        [AVal.gp m0 (0 : Nat), AVal.at (Value.int IntKind.i64 n1), AVal.at (Value.int IntKind.u64 n2), AVal.at (Value.int IntKind.i64 (0 : Int)),
         AVal.at (Value.int IntKind.u64 (0 : Int))]])))
    fun v x => some (Out.pan v sg3)
   else some (Out.ret (AVal.tup [AVal.at (Value.pointer none), AVal.at (Value.int IntKind.i64 (18 : Int))]) sg3)
   else some (Out.ret (AVal.tup [AVal.at (Value.pointer none), AVal.at (Value.int IntKind.i64 (18 : Int))]) sg3)
  else some (Out.ret (AVal.tup [AVal.at (Value.pointer none), AVal.at (Value.int IntKind.i64 (18 : Int))]) sg3) := by kernel_rfl


/-! 139 wharfage/journal.Check -/
theorem journal_Check.main (C : CallF) (N : Nat) (a0 : AVal) (sg1 : Sg) :
  evalF C N journal_Check.a [a0] sg1 =
  withO (lenV a0) fun (n : Nat) =>
   iter (journal_Check.R0 C N) N
   (mkS [(0 : Nat), (3 : Nat), (7 : Nat), (8 : Nat), (9 : Nat)]
    [Slot.v a0 false, Slot.v (AVal.gm (List.length sg1)) false, Slot.v a0 false, Slot.v (AVal.at (Value.int IntKind.i64 (↑n : Int))) false, Slot.v (AVal.at (Value.int IntKind.i64 (0 : Int))) false]
    [none, none, none, none, none] (RVal.sg (sg1 ++ [Box.map []])))
   (journal_Check.K0 C N) := by kernel_rfl
theorem journal_Check.r0 (C : CallF) (N : Nat) (a0 : AVal) (a1 : AVal) (a2 : AVal) (n3 : Int) (n4 : Int) (sg5 : Sg) (k : Ex → St → R) :
  journal_Check.R0 C N
   (mkS [(0 : Nat), (3 : Nat), (7 : Nat), (8 : Nat), (9 : Nat)]
   [Slot.v a0 false, Slot.v a1 false, Slot.v a2 false, Slot.v (AVal.at (Value.int IntKind.i64 n3)) false, Slot.v (AVal.at (Value.int IntKind.i64 n4)) false] [none, none, none, none, none]
   (RVal.sg sg5))
   k =
  if decide (n4 < n3) = true then
   withO (elemV (2 : Nat) n4 a2) fun (r : AVal) =>
   withO (loadC none sg5 r) fun p =>
    bif (p.snd + (2 : Nat)).ble p.fst.length then
    bindL (List.take (2 : Nat) (List.drop p.snd p.fst)) fun (l : List AVal) =>
     bif (AVal.agg l).cells.length.beq (2 : Nat) then
     bindL (splice [AVal.at (Value.int IntKind.i64 (0 : Int)), AVal.at (Value.string (ByteArray.mk (#[])))] (0 : Nat) (AVal.agg l).cells) fun (cs : List AVal) =>
      withI IntKind.i64 cs[(0 : Nat)]? fun (n : Int) =>
      withOut (bif Nat.blt (246 : Nat) (1000000 : Nat) then C (246 : FuncId) [AVal.at (Value.int IntKind.i64 n)] [] else none)
       (fun v x =>
       withB (some v) fun (b : Bool) =>
        if (!b) = false then
        withS cs[(1 : Nat)]? fun (s : ByteArray) =>
         if ((↑s.size : Int) != (480 : Int)) = false then
         withI IntKind.i64 cs[(0 : Nat)]? fun (n : Int) =>
          withA (plainA a1) fun (m : AVal) =>
          withO (mapV sg5 m) fun (p : Nat × List (AVal × AVal)) =>
           withO (mGet (AVal.at (Value.int IntKind.i64 n)) p.snd) fun (r : Option AVal) =>
           withA (plainA (getOr [AVal.at (Value.bool false)] false r)) fun (y : AVal) =>
            withB (plainA y) fun (t : Bool) =>
            if t = true then k Ex.ret (mkS [(2 : Nat)] [Slot.v (AVal.at (Value.int IntKind.i64 (18 : Int))) false] [none] (RVal.sg sg5))
            else
            withI IntKind.i64 cs[(0 : Nat)]? fun (n : Int) =>
            withA (plainA a1) fun (m : AVal) =>
            withO (mapV sg5 m) fun (p : Nat × List (AVal × AVal)) =>
            withO (mSet (AVal.at (Value.int IntKind.i64 n)) (AVal.at (Value.bool true)) p.snd) fun (es : List (AVal × AVal)) =>
            k Ex.normal
            (mkS [(0 : Nat), (3 : Nat), (7 : Nat), (8 : Nat), (9 : Nat)]
            [Slot.v a0 false, Slot.v a1 false, Slot.v a2 false, Slot.v (AVal.at (Value.int IntKind.i64 n3)) false,
            Slot.v (AVal.at (Value.int IntKind.i64 (IntKind.i64.wrap (n4 + (1 : Int))))) false]
            [none, none, none, none, none] (RVal.sg (List.set sg5 p.fst (Box.map es))))
         else k Ex.ret (mkS [(2 : Nat)] [Slot.v (AVal.at (Value.int IntKind.i64 (18 : Int))) false] [none] (RVal.sg sg5))
        else k Ex.ret (mkS [(2 : Nat)] [Slot.v (AVal.at (Value.int IntKind.i64 (18 : Int))) false] [none] (RVal.sg sg5)))
       fun x x_1 => none
     else none
    else none
  else k (Ex.exit (0 : Nat)) (mkS [(0 : Nat)] [Slot.v a0 false] [none] (RVal.sg sg5)) := by kernel_rfl
theorem journal_Check.k0_1 (C : CallF) (N : Nat) (n0 : Int) (sg1 : Sg) :
  journal_Check.K0 C N Ex.ret (mkS [(2 : Nat)] [Slot.v (AVal.at (Value.int IntKind.i64 n0)) false] [none] (RVal.sg sg1)) =
  some (Out.ret (AVal.at (Value.int IntKind.i64 n0)) sg1) := by kernel_rfl
theorem journal_Check.k0_2 (C : CallF) (N : Nat) (a0 : AVal) (sg1 : Sg) :
  journal_Check.K0 C N (Ex.exit (0 : Nat)) (mkS [(0 : Nat)] [Slot.v a0 false] [none] (RVal.sg sg1)) =
  withO (lenV a0) fun (n : Nat) =>
   if ((↑n : Int) == (0 : Int)) = true then some (Out.ret (AVal.at (Value.int IntKind.i64 (18 : Int))) sg1) else some (Out.ret (AVal.at (Value.int IntKind.i64 (0 : Int))) sg1) := by kernel_rfl


/-! 142 (*wharfage/journal.Journal).Append -/
theorem journal_Journal_Append.main (C : CallF) (N : Nat) (m0 : Nat) (a1 : AVal) (sg2 : Sg) :
  evalF C N journal_Journal_Append.a [AVal.gp m0 (0 : Nat), a1] sg2 =
  if (false ^^ false) = false then
   withA (plainA a1) fun (a : AVal) =>
   withOut (bif Nat.blt (139 : Nat) (1000000 : Nat) then C (139 : FuncId) [a] sg2 else none)
    (fun v sg' =>
    withI IntKind.i64 (some v) fun (n : Int) =>
     if (n != (0 : Int)) = true then some (Out.ret (AVal.at (Value.int IntKind.i64 (18 : Int))) sg')
     else
     withO (lenV a1) fun (n : Nat) =>
      withOut (bif Nat.blt (146 : Nat) (1000000 : Nat) then C (146 : FuncId) [AVal.gp m0 (0 : Nat)] sg' else none)
      (fun v x =>
       withI IntKind.i64 (some v) fun (n_1 : Int) =>
       if decide ((↑n : Int) ≥ n_1) = true then some (Out.ret (AVal.at (Value.int IntKind.i64 (14 : Int))) sg')
       else
        withO (lenV a1) fun (n : Nat) =>
        iter (journal_Journal_Append.R0 C N) N
         (mkS [(0 : Nat), (1 : Nat), (24 : Nat), (25 : Nat), (26 : Nat)]
         [Slot.v (AVal.gp m0 (0 : Nat)) false, Slot.v a1 false, Slot.v a1 false, Slot.v (AVal.at (Value.int IntKind.i64 (↑n : Int))) false,
          Slot.v (AVal.at (Value.int IntKind.i64 (0 : Int))) false]
         [none, none, none, none, none] (RVal.sg sg'))
         (journal_Journal_Append.K0 C N))
      fun v x => some (Out.pan v sg'))
    fun v sg' => some (Out.pan v sg')
  else some (Out.ret (AVal.at (Value.int IntKind.i64 (18 : Int))) sg2) := by kernel_rfl
theorem journal_Journal_Append.r0 (C : CallF) (N : Nat) (m0 : Nat) (a1 : AVal) (a2 : AVal) (n3 : Int) (n4 : Int) (sg5 : Sg) (k : Ex → St → R) :
  journal_Journal_Append.R0 C N
   (mkS [(0 : Nat), (1 : Nat), (24 : Nat), (25 : Nat), (26 : Nat)]
   [Slot.v (AVal.gp m0 (0 : Nat)) false, Slot.v a1 false, Slot.v a2 false, Slot.v (AVal.at (Value.int IntKind.i64 n3)) false, Slot.v (AVal.at (Value.int IntKind.i64 n4)) false]
   [none, none, none, none, none] (RVal.sg sg5))
   k =
  if decide (n4 < n3) = true then
   withO (elemV (2 : Nat) n4 a2) fun (r : AVal) =>
   withO (loadC none sg5 r) fun p =>
    bif (p.snd + (2 : Nat)).ble p.fst.length then
    bindL (List.take (2 : Nat) (List.drop p.snd p.fst)) fun (l : List AVal) =>
     bif (AVal.agg l).cells.length.beq (2 : Nat) then
     bindL (splice [AVal.at (Value.int IntKind.i64 (0 : Int)), AVal.at (Value.string (ByteArray.mk (#[])))] (0 : Nat) (AVal.agg l).cells) fun (cs : List AVal) =>
      withI IntKind.i64 cs[(0 : Nat)]? fun (n : Int) =>
      withS cs[(1 : Nat)]? fun (s : ByteArray) =>
       withOut
       (bif Nat.blt (249 : Nat) (1000000 : Nat) then
        C (249 : FuncId)
        [AVal.gp m0 (0 : Nat), AVal.at (Value.int IntKind.i64 n4),
         AVal.agg
         [AVal.at (Value.int IntKind.i64 (2 : Int)), AVal.at (Value.int IntKind.u64 (0 : Int)), AVal.at (Value.int IntKind.u64 (0 : Int)), AVal.at (Value.int IntKind.i64 n),
          AVal.at (Value.int IntKind.i64 n4), AVal.at (Value.string s)]]
        sg5
       else none)
       (fun v sg' =>
        withI IntKind.i64 (some v) fun (n : Int) =>
        if (n != (0 : Int)) = true then k Ex.ret (mkS [(4 : Nat)] [Slot.v (AVal.at (Value.int IntKind.i64 n)) false] [none] (RVal.sg sg'))
        else
         k Ex.normal
         (mkS [(0 : Nat), (1 : Nat), (24 : Nat), (25 : Nat), (26 : Nat)]
          [Slot.v (AVal.gp m0 (0 : Nat)) false, Slot.v a1 false, Slot.v a2 false, Slot.v (AVal.at (Value.int IntKind.i64 n3)) false,
          Slot.v (AVal.at (Value.int IntKind.i64 (IntKind.i64.wrap (n4 + (1 : Int))))) false]
          [none, none, none, none, none] (RVal.sg sg')))
       fun v sg' => some (Out.pan v sg')
     else none
    else none
  else k (Ex.exit (1 : Nat)) (mkS [(0 : Nat), (1 : Nat)] [Slot.v (AVal.gp m0 (0 : Nat)) false, Slot.v a1 false] [none, none] (RVal.sg sg5)) := by kernel_rfl
theorem journal_Journal_Append.k0_1 (C : CallF) (N : Nat) (n0 : Int) (sg1 : Sg) :
  journal_Journal_Append.K0 C N Ex.ret (mkS [(4 : Nat)] [Slot.v (AVal.at (Value.int IntKind.i64 n0)) false] [none] (RVal.sg sg1)) =
  some (Out.ret (AVal.at (Value.int IntKind.i64 n0)) sg1) := by kernel_rfl
theorem journal_Journal_Append.k0_2 (C : CallF) (N : Nat) (m0 : Nat) (a1 : AVal) (sg2 : Sg) :
  journal_Journal_Append.K0 C N (Ex.exit (1 : Nat)) (mkS [(0 : Nat), (1 : Nat)] [Slot.v (AVal.gp m0 (0 : Nat)) false, Slot.v a1 false] [none, none] (RVal.sg sg2)) =
  withO (lenV a1) fun (n : Nat) =>
   withOut (bif Nat.blt (126 : Nat) (1000000 : Nat) then C (126 : FuncId) [ofConst (Value.string (ByteArray.mk (#[]))), ofConst (Value.int IntKind.i64 (480 : Int))] [] else none)
   (fun v x =>
    withS (some v) fun (s : ByteArray) =>
    withO (lenV a1) fun (n_1 : Nat) =>
     withOut
     (bif Nat.blt (249 : Nat) (1000000 : Nat) then
      C (249 : FuncId)
      [AVal.gp m0 (0 : Nat), AVal.at (Value.int IntKind.i64 (↑n_1 : Int)),
       AVal.agg
       [AVal.at (Value.int IntKind.i64 (3 : Int)), AVal.at (Value.int IntKind.u64 (0 : Int)), AVal.at (Value.int IntKind.u64 (0 : Int)), AVal.at (Value.int IntKind.i64 (0 : Int)),
        AVal.at (Value.int IntKind.i64 (↑n : Int)), AVal.at (Value.string s)]]
      sg2
     else none)
     (fun v sg' =>
      withI IntKind.i64 (some v) fun (n : Int) =>
      if (n != (0 : Int)) = true then some (Out.ret (AVal.at (Value.int IntKind.i64 n)) sg')
      else
       withO (loadC none sg' (AVal.gp m0 (3 : Nat))) fun p =>
       withI IntKind.i64 p.fst[p.snd]? fun (n : Int) =>
        withO (lenV a1) fun (n_2 : Nat) =>
        withO (storeG none sg' (AVal.gp m0 (3 : Nat)) (1 : Nat) (AVal.at (Value.int IntKind.i64 (IntKind.i64.wrap (n + IntKind.i64.wrap ((↑n_2 : Int) + (1 : Int))))))) fun (sg : Sg) =>
         withO (loadC none sg (AVal.gp m0 (4 : Nat))) fun p =>
         withI IntKind.u64 p.fst[p.snd]? fun (n : Int) =>
          withO (storeG none sg (AVal.gp m0 (4 : Nat)) (1 : Nat) (AVal.at (Value.int IntKind.u64 (IntKind.u64.wrap (n + (1 : Int)))))) fun (sg : Sg) =>
          some (Out.ret (AVal.at (Value.int IntKind.i64 (0 : Int))) sg))
     fun v sg' => some (Out.pan v sg'))
   fun x x_1 => none := by kernel_rfl


/-! 246 wharfage/journal.page -/
theorem journal_page.main (C : CallF) (N : Nat) (n0 : Int) (sg1 : Sg) :
  evalF C N journal_page.a [AVal.at (Value.int IntKind.i64 n0)] sg1 =
  if decide (n0 ≥ (0 : Int)) = true then some (Out.ret (AVal.at (Value.bool (decide (n0 < (3840 : Int))))) sg1) else some (Out.ret (AVal.at (Value.bool false)) sg1) := by kernel_rfl


end Go.Abs
