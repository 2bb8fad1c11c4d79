/- THE RESIDUALS: what each function's evaluation comes to, by the kernel. Printed by a program of my own. -/
import Derived.Test.YtimoaolannkpcaaGreatCodeP
import Derived.Test.YtimoaolannkpcaaGreatEngC
import Derived.KernelRfl
set_option linter.unusedVariables false
set_option linter.unusedSimpArgs false
set_option linter.unusedSectionVars false
namespace Go.Abs
set_option maxRecDepth 100000
set_option linter.unusedVariables false
/-! 18 wharfage/heap.Do -/
theorem heap_Do.main (C : CallF) (N : Nat) (m0 : Nat) (a1 : FuncId) (l2 : List AVal) (l3 : List AVal) (sg4 : Sg) :
  evalF C N heap_Do.a [AVal.gp m0 (0 : Nat), AVal.clo a1 l2 l3] sg4 =
  if (false ^^ false) = false then
   if (false ^^ false) = true then some (Out.ret (AVal.at (Value.int IntKind.i64 (18 : Int))) sg4)
   else
   withOut
    (bif Nat.blt (121 : Nat) (1000000 : Nat) then
    C (121 : FuncId) [AVal.gp (List.length (sg4 ++ [Box.map []])) (0 : Nat), AVal.clo a1 l2 l3] (sg4 ++ [Box.map []] ++ [Box.mk [AVal.gp m0 (0 : Nat), AVal.gm (List.length sg4)]])
    else none)
    (fun v sg' =>
    withI IntKind.i64 (some v) fun (n : Int) =>
     if (n != (0 : Int)) = true then some (Out.ret (AVal.at (Value.int IntKind.i64 n)) sg')
     else
     withOut (bif Nat.blt (122 : Nat) (1000000 : Nat) then C (122 : FuncId) [AVal.gp (List.length (sg4 ++ [Box.map []])) (0 : Nat)] sg' else none)
      (fun v sg' =>
      withO (lenV v) fun (n : Nat) =>
       if ((↑n : Int) == (0 : Int)) = true then some (Out.ret (AVal.at (Value.int IntKind.i64 (0 : Int))) sg')
       else
       withA (plainA v) fun (a : AVal) =>
        withOut (bif Nat.blt (32 : Nat) (1000000 : Nat) then C (32 : FuncId) [AVal.gp m0 (0 : Nat), a] sg' else none)
        (fun v sg' => withI IntKind.i64 (some v) fun (n : Int) => some (Out.ret (AVal.at (Value.int IntKind.i64 n)) sg')) fun v sg' =>
        some (Out.pan v sg'))
      fun v sg' => some (Out.pan v sg'))
    fun v sg' => some (Out.pan v sg')
  else some (Out.ret (AVal.at (Value.int IntKind.i64 (18 : Int))) sg4) := by kernel_rfl


/-! 20 (*wharfage/heap.Heap).Put -/
theorem heap_Heap_Put.main (C : CallF) (N : Nat) (m0 : Nat) (n1 : Int) (s2 : ByteArray) (sg3 : Sg) :
  evalF C N heap_Heap_Put.a [AVal.gp m0 (0 : Nat), AVal.at (Value.int IntKind.i64 n1), AVal.at (Value.string s2)] sg3 =
  if decide (n1 < (0 : Int)) = false then
   withOut (bif Nat.blt (123 : Nat) (1000000 : Nat) then C (123 : FuncId) [AVal.gp m0 (0 : Nat)] sg3 else none)
   (fun v x =>
    withI IntKind.i64 (some v) fun (n : Int) =>
    if decide (n1 ≥ n) = false then
     if ((↑s2.size : Int) != (480 : Int)) = true then
     withOut (bif Nat.blt (26 : Nat) (1000000 : Nat) then C (26 : FuncId) [AVal.gp m0 (0 : Nat), ofConst (Value.int IntKind.i64 (18 : Int))] sg3 else none)
      (fun v x =>
      withO (loadC none sg3 (AVal.gp m0 (1 : Nat))) fun p =>
       withA p.fst[p.snd]? fun (r : AVal) =>
       withA (plainA r) fun (m : AVal) =>
        withO (mapV sg3 m) fun (p : Nat × List (AVal × AVal)) =>
        withO (mSet (AVal.at (Value.int IntKind.i64 n1)) (AVal.at (Value.string s2)) p.snd) fun (es : List (AVal × AVal)) =>
         some (Out.ret (AVal.tup []) (List.set sg3 p.fst (Box.map es))))
      fun v x => some (Out.pan v sg3)
     else
     withO (loadC none sg3 (AVal.gp m0 (1 : Nat))) fun p =>
      withA p.fst[p.snd]? fun (r : AVal) =>
      withA (plainA r) fun (m : AVal) =>
       withO (mapV sg3 m) fun (p : Nat × List (AVal × AVal)) =>
       withO (mSet (AVal.at (Value.int IntKind.i64 n1)) (AVal.at (Value.string s2)) p.snd) fun (es : List (AVal × AVal)) => some (Out.ret (AVal.tup []) (List.set sg3 p.fst (Box.map es)))
    else
     withOut (bif Nat.blt (26 : Nat) (1000000 : Nat) then C (26 : FuncId) [AVal.gp m0 (0 : Nat), ofConst (Value.int IntKind.i64 (18 : Int))] sg3 else none)
     (fun v x =>
      withO (loadC none sg3 (AVal.gp m0 (1 : Nat))) fun p =>
      withA p.fst[p.snd]? fun (r : AVal) =>
       withA (plainA r) fun (m : AVal) =>
       withO (mapV sg3 m) fun (p : Nat × List (AVal × AVal)) =>
        withO (mSet (AVal.at (Value.int IntKind.i64 n1)) (AVal.at (Value.string s2)) p.snd) fun (es : List (AVal × AVal)) =>
        some (Out.ret (AVal.tup []) (List.set sg3 p.fst (Box.map es))))
     fun v x => some (Out.pan v sg3))
   fun v x => some (Out.pan v sg3)
  else
   withOut (bif Nat.blt (26 : Nat) (1000000 : Nat) then C (26 : FuncId) [AVal.gp m0 (0 : Nat), ofConst (Value.int IntKind.i64 (18 : Int))] sg3 else none)
   (fun v x =>
    withO (loadC none sg3 (AVal.gp m0 (1 : Nat))) fun p =>
    withA p.fst[p.snd]? fun (r : AVal) =>
     withA (plainA r) fun (m : AVal) =>
     withO (mapV sg3 m) fun (p : Nat × List (AVal × AVal)) =>
      withO (mSet (AVal.at (Value.int IntKind.i64 n1)) (AVal.at (Value.string s2)) p.snd) fun (es : List (AVal × AVal)) => some (Out.ret (AVal.tup []) (List.set sg3 p.fst (Box.map es))))
   fun v x => some (Out.pan v sg3) := by kernel_rfl


/-! 22 (*wharfage/heap.Heap).Take -/
theorem heap_Heap_Take.main (C : CallF) (N : Nat) (m0 : Nat) (sg1 : Sg) :
  evalF C N heap_Heap_Take.a [AVal.gp m0 (0 : Nat)] sg1 =
  withOut (bif Nat.blt (23 : Nat) (1000000 : Nat) then C (23 : FuncId) [AVal.gp m0 (0 : Nat), ofConst (Value.int IntKind.i64 (1 : Int))] sg1 else none)
   (fun v x =>
   withS (some v) fun (s : ByteArray) =>
    withOut (bif Nat.blt (123 : Nat) (1000000 : Nat) then C (123 : FuncId) [AVal.gp m0 (0 : Nat)] sg1 else none)
    (fun v x =>
     withI IntKind.i64 (some v) fun (n : Int) =>
     withOut (bif Nat.blt (123 : Nat) (1000000 : Nat) then C (123 : FuncId) [AVal.gp m0 (0 : Nat)] sg1 else none)
      (fun v x =>
      withI IntKind.i64 (some v) fun (n_1 : Int) =>
       withOut
       (bif Nat.blt (124 : Nat) (1000000 : Nat) then
        C (124 : FuncId)
        [AVal.at (Value.string s), AVal.at (Value.int IntKind.i64 (bif false then max2 (2 : Int) n else min2 (2 : Int) n)), AVal.at (Value.int IntKind.i64 n_1),
         ofConst (Value.int IntKind.i64 (1 : Int))]
        []
       else none)
       (fun v sg' =>
        withO (thaw (8 : Nat) sg' v) fun (v : AVal) =>
        withT v fun (vs : List AVal) =>
         bif vs.length.beq (3 : Nat) then
         withA vs[(0 : Nat)]? fun (a : AVal) =>
          withS vs[(1 : Nat)]? fun (s : ByteArray) =>
          withI IntKind.i64 vs[(2 : Nat)]? fun (n : Int) =>
           bif noG (AVal.tup [a, AVal.at (Value.string s), AVal.at (Value.int IntKind.i64 n)]) then
           withOut (bif Nat.blt (125 : Nat) (1000000 : Nat) then C (125 : FuncId) [AVal.gp m0 (0 : Nat), AVal.at (Value.int IntKind.i64 n)] sg1 else none)
            (fun v x =>
            withOut
            (bif Nat.blt (20 : Nat) (1000000 : Nat) then C (20 : FuncId) [AVal.gp m0 (0 : Nat), ofConst (Value.int IntKind.i64 (1 : Int)), AVal.at (Value.string s)] sg1
            else none)
            (fun v sg' =>
            withO (elemV (1 : Nat) (0 : Int) a) fun (r : AVal) =>
            withO (loadC none sg' r) fun p =>
            withI IntKind.i64 p.fst[p.snd]? fun (n : Int) =>
            withOut
            (bif Nat.blt (126 : Nat) (1000000 : Nat) then
            C (126 : FuncId) [ofConst (Value.string (ByteArray.mk (#[]))), ofConst (Value.int IntKind.i64 (480 : Int))] []
            else none)
            (fun v x =>
            withS (some v) fun (s : ByteArray) =>
            withOut
            (bif Nat.blt (20 : Nat) (1000000 : Nat) then
            C (20 : FuncId) [AVal.gp m0 (0 : Nat), AVal.at (Value.int IntKind.i64 n), AVal.at (Value.string s)] sg'
            else none)
            (fun v sg' =>
            withO (elemV (1 : Nat) (0 : Int) a) fun (r : AVal) =>
            withO (loadC none sg' r) fun p =>
            withI IntKind.i64 p.fst[p.snd]? fun (n : Int) => some (Out.ret (AVal.at (Value.int IntKind.i64 n)) sg'))
            fun v sg' => some (Out.pan v sg'))
            fun x x_1 => none)
            fun v sg' => some (Out.pan v sg'))
            fun v x => some (Out.pan v sg1)
           else none
         else none)
       fun x x_1 => none)
      fun v x => some (Out.pan v sg1))
    fun v x => some (Out.pan v sg1))
   fun v x => some (Out.pan v sg1) := by kernel_rfl


/-! 23 (*wharfage/heap.Heap).Get -/
theorem heap_Heap_Get.main (C : CallF) (N : Nat) (m0 : Nat) (n1 : Int) (sg2 : Sg) :
  evalF C N heap_Heap_Get.a [AVal.gp m0 (0 : Nat), AVal.at (Value.int IntKind.i64 n1)] sg2 =
  withO (loadC none sg2 (AVal.gp m0 (1 : Nat))) fun p =>
   withA p.fst[p.snd]? fun (r : AVal) =>
   withA (plainA r) fun (m : AVal) =>
    withO (mapV sg2 m) fun (p : Nat × List (AVal × AVal)) =>
    withO (mGet (AVal.at (Value.int IntKind.i64 n1)) p.snd) fun (r : Option AVal) =>
     if hasV r = true then withA (jk (getOr [AVal.at (Value.string (ByteArray.mk (#[])))] false r)) fun (a : AVal) => some (Out.ret a sg2)
     else
     withO (loadC none sg2 (AVal.gp m0 (0 : Nat))) fun p =>
      withA p.fst[p.snd]? fun (r : AVal) =>
      withA (plainA r) fun (a : AVal) =>
       withOut (bif Nat.blt (31 : Nat) (1000000 : Nat) then C (31 : FuncId) [a, AVal.at (Value.int IntKind.i64 n1)] sg2 else none)
       (fun v x =>
        withT v fun (vs : List AVal) =>
        bif vs.length.beq (2 : Nat) then
         withS vs[(0 : Nat)]? fun (s : ByteArray) =>
         withI IntKind.i64 vs[(1 : Nat)]? fun (n : Int) =>
          withOut (bif Nat.blt (125 : Nat) (1000000 : Nat) then C (125 : FuncId) [AVal.gp m0 (0 : Nat), AVal.at (Value.int IntKind.i64 n)] sg2 else none)
          (fun v x => some (Out.ret (AVal.at (Value.string s)) sg2)) fun v x => some (Out.pan v sg2)
        else none)
       fun v x => some (Out.pan v sg2) := by kernel_rfl


/-! 25 (*wharfage/heap.Heap).Give -/
theorem heap_Heap_Give.main (C : CallF) (N : Nat) (m0 : Nat) (n1 : Int) (sg2 : Sg) :
  evalF C N heap_Heap_Give.a [AVal.gp m0 (0 : Nat), AVal.at (Value.int IntKind.i64 n1)] sg2 =
  if decide (n1 < (2 : Int)) = false then
   withOut (bif Nat.blt (123 : Nat) (1000000 : Nat) then C (123 : FuncId) [AVal.gp m0 (0 : Nat)] sg2 else none)
   (fun v x =>
    withI IntKind.i64 (some v) fun (n : Int) =>
    if decide (n1 ≥ n) = true then
     withOut (bif Nat.blt (26 : Nat) (1000000 : Nat) then C (26 : FuncId) [AVal.gp m0 (0 : Nat), ofConst (Value.int IntKind.i64 (18 : Int))] sg2 else none)
     (fun v x =>
      withOut (bif Nat.blt (23 : Nat) (1000000 : Nat) then C (23 : FuncId) [AVal.gp m0 (0 : Nat), ofConst (Value.int IntKind.i64 (1 : Int))] sg2 else none)
      (fun v x =>
       withS (some v) fun (s : ByteArray) =>
       bif true && Nat.blt (0 : Nat) (1 : Nat) then
        withOut
        (bif Nat.blt (127 : Nat) (1000000 : Nat) then
         C (127 : FuncId) [AVal.at (Value.string s), AVal.gs (List.length sg2) (1 : Nat) (0 : Nat) (1 : Nat)] (sg2 ++ [Box.mk [AVal.at (Value.int IntKind.i64 n1)]])
        else none)
        (fun v sg' =>
         withT v fun (vs : List AVal) =>
         bif vs.length.beq (2 : Nat) then
          withS vs[(0 : Nat)]? fun (s : ByteArray) =>
          withI IntKind.i64 vs[(1 : Nat)]? fun (n : Int) =>
           withOut (bif Nat.blt (125 : Nat) (1000000 : Nat) then C (125 : FuncId) [AVal.gp m0 (0 : Nat), AVal.at (Value.int IntKind.i64 n)] sg' else none)
           (fun v x =>
            withOut
            (bif Nat.blt (20 : Nat) (1000000 : Nat) then C (20 : FuncId) [AVal.gp m0 (0 : Nat), ofConst (Value.int IntKind.i64 (1 : Int)), AVal.at (Value.string s)] sg'
            else none)
            (fun v sg' => some (Out.ret (AVal.tup []) sg')) fun v sg' => some (Out.pan v sg'))
           fun v x => some (Out.pan v sg')
         else none)
        fun v sg' => some (Out.pan v sg')
       else none)
      fun v x => some (Out.pan v sg2))
     fun v x => some (Out.pan v sg2)
    else
     withOut (bif Nat.blt (23 : Nat) (1000000 : Nat) then C (23 : FuncId) [AVal.gp m0 (0 : Nat), ofConst (Value.int IntKind.i64 (1 : Int))] sg2 else none)
     (fun v x =>
      withS (some v) fun (s : ByteArray) =>
      bif true && Nat.blt (0 : Nat) (1 : Nat) then
       withOut
       (bif Nat.blt (127 : Nat) (1000000 : Nat) then
        C (127 : FuncId) [AVal.at (Value.string s), AVal.gs (List.length sg2) (1 : Nat) (0 : Nat) (1 : Nat)] (sg2 ++ [Box.mk [AVal.at (Value.int IntKind.i64 n1)]])
       else none)
       (fun v sg' =>
        withT v fun (vs : List AVal) =>
        bif vs.length.beq (2 : Nat) then
         withS vs[(0 : Nat)]? fun (s : ByteArray) =>
         withI IntKind.i64 vs[(1 : Nat)]? fun (n : Int) =>
          withOut (bif Nat.blt (125 : Nat) (1000000 : Nat) then C (125 : FuncId) [AVal.gp m0 (0 : Nat), AVal.at (Value.int IntKind.i64 n)] sg' else none)
          (fun v x =>
           withOut
           (bif Nat.blt (20 : Nat) (1000000 : Nat) then C (20 : FuncId) [AVal.gp m0 (0 : Nat), ofConst (Value.int IntKind.i64 (1 : Int)), AVal.at (Value.string s)] sg'
           else none)
           (fun v sg' => some (Out.ret (AVal.tup []) sg')) fun v sg' => some (Out.pan v sg'))
          fun v x => some (Out.pan v sg')
        else none)
       fun v sg' => some (Out.pan v sg')
      else none)
     fun v x => some (Out.pan v sg2))
   fun v x => some (Out.pan v sg2)
  else
   withOut (bif Nat.blt (26 : Nat) (1000000 : Nat) then C (26 : FuncId) [AVal.gp m0 (0 : Nat), ofConst (Value.int IntKind.i64 (18 : Int))] sg2 else none)
   (fun v x =>
    withOut (bif Nat.blt (23 : Nat) (1000000 : Nat) then C (23 : FuncId) [AVal.gp m0 (0 : Nat), ofConst (Value.int IntKind.i64 (1 : Int))] sg2 else none)
    (fun v x =>
     withS (some v) fun (s : ByteArray) =>
     bif true && Nat.blt (0 : Nat) (1 : Nat) then
      withOut
      (bif Nat.blt (127 : Nat) (1000000 : Nat) then
       C (127 : FuncId) [AVal.at (Value.string s), AVal.gs (List.length sg2) (1 : Nat) (0 : Nat) (1 : Nat)] (sg2 ++ [Box.mk [AVal.at (Value.int IntKind.i64 n1)]])
      else none)
      (fun v sg' =>
       withT v fun (vs : List AVal) =>
       bif vs.length.beq (2 : Nat) then
        withS vs[(0 : Nat)]? fun (s : ByteArray) =>
        withI IntKind.i64 vs[(1 : Nat)]? fun (n : Int) =>
         withOut (bif Nat.blt (125 : Nat) (1000000 : Nat) then C (125 : FuncId) [AVal.gp m0 (0 : Nat), AVal.at (Value.int IntKind.i64 n)] sg' else none)
         (fun v x =>
          withOut
          (bif Nat.blt (20 : Nat) (1000000 : Nat) then C (20 : FuncId) [AVal.gp m0 (0 : Nat), ofConst (Value.int IntKind.i64 (1 : Int)), AVal.at (Value.string s)] sg' else none)
          (fun v sg' => some (Out.ret (AVal.tup []) sg')) fun v sg' => some (Out.pan v sg'))
         fun v x => some (Out.pan v sg')
       else none)
      fun v sg' => some (Out.pan v sg')
     else none)
    fun v x => some (Out.pan v sg2))
   fun v x => some (Out.pan v sg2) := by kernel_rfl


/-! 26 (*wharfage/heap.Heap).Stop -/
theorem heap_Heap_Stop.main (C : CallF) (N : Nat) (m0 : Nat) (n1 : Int) (sg2 : Sg) :
  evalF C N heap_Heap_Stop.a [AVal.gp m0 (0 : Nat), AVal.at (Value.int IntKind.i64 n1)] sg2 =
  if (n1 == (0 : Int)) = true then some (Out.pan (AVal.ifc (182 : Nat) (AVal.agg [AVal.at (Value.int IntKind.i64 (18 : Int))])) sg2)
  else some (Out.pan (AVal.ifc (182 : Nat) (AVal.agg [AVal.at (Value.int IntKind.i64 n1)])) sg2) := by kernel_rfl


/-! 27 (*wharfage/heap.Heap).Free -/
theorem heap_Heap_Free.main (C : CallF) (N : Nat) (m0 : Nat) (sg1 : Sg) :
  evalF C N heap_Heap_Free.a [AVal.gp m0 (0 : Nat)] sg1 =
  withOut (bif Nat.blt (123 : Nat) (1000000 : Nat) then C (123 : FuncId) [AVal.gp m0 (0 : Nat)] sg1 else none)
   (fun v x =>
   withI IntKind.i64 (some v) fun (n : Int) =>
    withOut (bif Nat.blt (23 : Nat) (1000000 : Nat) then C (23 : FuncId) [AVal.gp m0 (0 : Nat), ofConst (Value.int IntKind.i64 (1 : Int))] sg1 else none)
    (fun v x =>
     withS (some v) fun (s : ByteArray) =>
     withOut (bif Nat.blt (123 : Nat) (1000000 : Nat) then C (123 : FuncId) [AVal.gp m0 (0 : Nat)] sg1 else none)
      (fun v x =>
      withI IntKind.i64 (some v) fun (n_1 : Int) =>
       withOut
       (bif Nat.blt (128 : Nat) (1000000 : Nat) then C (128 : FuncId) [AVal.at (Value.string s), ofConst (Value.int IntKind.i64 (2 : Int)), AVal.at (Value.int IntKind.i64 n_1)] []
       else none)
       (fun v x =>
        withI IntKind.i64 (some v) fun (n_2 : Int) => some (Out.ret (AVal.at (Value.int IntKind.i64 (IntKind.i64.wrap (IntKind.i64.wrap (n - (2 : Int)) - n_2)))) sg1))
       fun x x_1 => none)
      fun v x => some (Out.pan v sg1))
    fun v x => some (Out.pan v sg1))
   fun v x => some (Out.pan v sg1) := by kernel_rfl


/-! 122 (*wharfage/heap.Heap).images -/
theorem heap_Heap_images.main (C : CallF) (N : Nat) (m0 : Nat) (sg1 : Sg) :
  evalF C N heap_Heap_images.a [AVal.gp m0 (0 : Nat)] sg1 =
  withO (loadC none sg1 (AVal.gp m0 (1 : Nat))) fun p =>
   withA p.fst[p.snd]? fun (r : AVal) =>
   withA (plainA r) fun (a : AVal) =>
    withOut (bif Nat.blt (227 : Nat) (1000000 : Nat) then C (227 : FuncId) [a] sg1 else none)
    (fun v sg' =>
     withA (plainA v) fun (a : AVal) =>
     withOut (bif Nat.blt (226 : Nat) (1000000 : Nat) then C (226 : FuncId) [a] sg' else none)
      (fun v sg' =>
      withO (lenV v) fun (n : Nat) =>
       iter (heap_Heap_images.R0 C N) N
       (mkS [(0 : Nat), (3 : Nat), (13 : Nat), (14 : Nat), (15 : Nat)]
        [Slot.v (AVal.gp m0 (0 : Nat)) false, Slot.v (AVal.sl true (2 : Nat) []) true, Slot.v v false, Slot.v (AVal.at (Value.int IntKind.i64 (↑n : Int))) false,
        Slot.v (AVal.at (Value.int IntKind.i64 (0 : Int))) false]
        [none, none, none, none, none] (RVal.sg sg'))
       (heap_Heap_images.K0 C N))
      fun v sg' => some (Out.pan v sg'))
    fun v sg' => some (Out.pan v sg') := by kernel_rfl
theorem heap_Heap_images.r0 (C : CallF) (N : Nat) (m0 : Nat) (b1 : Bool) (l2 : List AVal) (a3 : AVal) (n4 : Int) (n5 : Int) (sg6 : Sg) (k : Ex → St → R) :
  heap_Heap_images.R0 C N
   (mkS [(0 : Nat), (3 : Nat), (13 : Nat), (14 : Nat), (15 : Nat)]
   [Slot.v (AVal.gp m0 (0 : Nat)) false, Slot.v (AVal.sl b1 (2 : Nat) l2) true, Slot.v a3 false, Slot.v (AVal.at (Value.int IntKind.i64 n4)) false, Slot.v (AVal.at (Value.int IntKind.i64 n5)) false]
   [none, none, none, none, none] (RVal.sg sg6))
   k =
  if decide (n5 < n4) = true then
   withO (elemV (1 : Nat) n5 a3) fun (r : AVal) =>
   withO (loadC none sg6 r) fun p =>
    withI IntKind.i64 p.fst[p.snd]? fun (n : Int) =>
    withO (loadC none sg6 (AVal.gp m0 (0 : Nat))) fun p =>
     withA p.fst[p.snd]? fun (r : AVal) =>
     withA (plainA r) fun (a : AVal) =>
      withOut (bif Nat.blt (31 : Nat) (1000000 : Nat) then C (31 : FuncId) [a, AVal.at (Value.int IntKind.i64 n)] sg6 else none)
      (fun v x =>
       withT v fun (vs : List AVal) =>
       bif vs.length.beq (2 : Nat) then
        withS vs[(0 : Nat)]? fun (s : ByteArray) =>
        withI IntKind.i64 vs[(1 : Nat)]? fun (n_1 : Int) =>
         withO (loadC none sg6 (AVal.gp m0 (1 : Nat))) fun p =>
         withA p.fst[p.snd]? fun (r : AVal) =>
          withA (plainA r) fun (m : AVal) =>
          withO (mapV sg6 m) fun (p : Nat × List (AVal × AVal)) =>
           withO (mGet (AVal.at (Value.int IntKind.i64 n)) p.snd) fun (r : Option AVal) =>
           withA (plainA (getOr [AVal.at (Value.string (ByteArray.mk (#[])))] false r)) fun (b : AVal) =>
            withS (some b) fun (t : ByteArray) =>
            if (!eqS s t) = true then
            withO (loadC none sg6 (AVal.gp m0 (1 : Nat))) fun p =>
            withA p.fst[p.snd]? fun (r : AVal) =>
            withA (plainA r) fun (m : AVal) =>
            withO (mapV sg6 m) fun (p : Nat × List (AVal × AVal)) =>
            withO (mGet (AVal.at (Value.int IntKind.i64 n)) p.snd) fun (r : Option AVal) =>
            withA (plainA (getOr [AVal.at (Value.string (ByteArray.mk (#[])))] false r)) fun (a : AVal) =>
            bif a.cells.length.beq (1 : Nat) then
            bindL
            (AVal.at (Value.int IntKind.i64 n) ::
            (a.cells ++ List.drop ((1 : Nat) + a.cells.length) [AVal.at (Value.int IntKind.i64 n), AVal.at (Value.string (ByteArray.mk (#[])))]))
            fun (cs : List AVal) =>
            bif allSz (2 : Nat) [AVal.agg cs] && Nat.blt (0 : Nat) (2 : Nat) then
            withO (flatG (sg6 ++ [Box.mk ((AVal.agg cs).cells ++ [])]) (2 : Nat) (AVal.gs (List.length sg6) (2 : Nat) (0 : Nat) (1 : Nat)))
            fun (p : Nat × List AVal) =>
            bif p.fst.beq (0 : Nat) then
            k Ex.normal
            (mkS [(0 : Nat), (3 : Nat), (13 : Nat), (14 : Nat), (15 : Nat)]
            [Slot.v (AVal.gp m0 (0 : Nat)) false, Slot.v (AVal.sl b1 (2 : Nat) l2) false, Slot.v a3 false,
            Slot.v (AVal.at (Value.int IntKind.i64 n4)) false,
            Slot.v (AVal.at (Value.int IntKind.i64 (IntKind.i64.wrap (n5 + (1 : Int))))) false]
            [none, none, none, none, none] (RVal.sg (sg6 ++ [Box.mk ((AVal.agg cs).cells ++ [])])))
            else
            if p.fst * (24 : Nat) ≤ (35184372088832 : Nat) then
            withO (app1 none (2 : Nat) (24 : Nat) (sg6 ++ [Box.mk ((AVal.agg cs).cells ++ [])]) (AVal.sl b1 (2 : Nat) l2) p.fst p.snd)
            fun (q : AVal × Sg) =>
            k Ex.normal
            (mkS [(0 : Nat), (3 : Nat), (13 : Nat), (14 : Nat), (15 : Nat)]
            [Slot.v (AVal.gp m0 (0 : Nat)) false, Slot.v q.fst false, Slot.v a3 false, Slot.v (AVal.at (Value.int IntKind.i64 n4)) false,
            Slot.v (AVal.at (Value.int IntKind.i64 (IntKind.i64.wrap (n5 + (1 : Int))))) false]
            [none, none, none, none, none] (RVal.sg q.snd))
            else none
            else none
            else none
            else
            k Ex.normal
            (mkS [(0 : Nat), (3 : Nat), (13 : Nat), (14 : Nat), (15 : Nat)]
            [Slot.v (AVal.gp m0 (0 : Nat)) false, Slot.v (AVal.sl b1 (2 : Nat) l2) true, Slot.v a3 false, Slot.v (AVal.at (Value.int IntKind.i64 n4)) false,
            Slot.v (AVal.at (Value.int IntKind.i64 (IntKind.i64.wrap (n5 + (1 : Int))))) false]
            [none, none, none, none, none] (RVal.sg sg6))
       else none)
      fun v x => some (Out.pan v sg6)
  else k (Ex.exit (0 : Nat)) (mkS [(3 : Nat)] [Slot.v (AVal.sl b1 (2 : Nat) l2) true] [none] (RVal.sg sg6)) := by kernel_rfl
-- NOTE: loop 0 goes on in another shape
-- NOTE: loop 0 goes on in another shape
theorem heap_Heap_images.k0_1 (C : CallF) (N : Nat) (b0 : Bool) (l1 : List AVal) (sg2 : Sg) :
  heap_Heap_images.K0 C N (Ex.exit (0 : Nat)) (mkS [(3 : Nat)] [Slot.v (AVal.sl b0 (2 : Nat) l1) true] [none] (RVal.sg sg2)) =
  some (Out.ret (AVal.sl b0 (2 : Nat) l1) sg2) := by kernel_rfl
theorem heap_Heap_images.r0_2 (C : CallF) (N : Nat) (m0 : Nat) (a1 : AVal) (a2 : AVal) (n3 : Int) (n4 : Int) (sg5 : Sg) (k : Ex → St → R) :
  heap_Heap_images.R0 C N
   (mkS [(0 : Nat), (3 : Nat), (13 : Nat), (14 : Nat), (15 : Nat)]
   [Slot.v (AVal.gp m0 (0 : Nat)) false, Slot.v a1 false, Slot.v a2 false, Slot.v (AVal.at (Value.int IntKind.i64 n3)) false, Slot.v (AVal.at (Value.int IntKind.i64 n4)) false]
   [none, none, none, none, none] (RVal.sg sg5))
   k =
  if decide (n4 < n3) = true then
   withO (elemV (1 : Nat) n4 a2) fun (r : AVal) =>
   withO (loadC none sg5 r) fun p =>
    withI IntKind.i64 p.fst[p.snd]? fun (n : Int) =>
    withO (loadC none sg5 (AVal.gp m0 (0 : Nat))) fun p =>
     withA p.fst[p.snd]? fun (r : AVal) =>
     withA (plainA r) fun (a : AVal) =>
      withOut (bif Nat.blt (31 : Nat) (1000000 : Nat) then C (31 : FuncId) [a, AVal.at (Value.int IntKind.i64 n)] sg5 else none)
      (fun v x =>
       withT v fun (vs : List AVal) =>
       bif vs.length.beq (2 : Nat) then
        withS vs[(0 : Nat)]? fun (s : ByteArray) =>
        withI IntKind.i64 vs[(1 : Nat)]? fun (n_1 : Int) =>
         withO (loadC none sg5 (AVal.gp m0 (1 : Nat))) fun p =>
         withA p.fst[p.snd]? fun (r : AVal) =>
          withA (plainA r) fun (m : AVal) =>
          withO (mapV sg5 m) fun (p : Nat × List (AVal × AVal)) =>
           withO (mGet (AVal.at (Value.int IntKind.i64 n)) p.snd) fun (r : Option AVal) =>
           withA (plainA (getOr [AVal.at (Value.string (ByteArray.mk (#[])))] false r)) fun (b : AVal) =>
            withS (some b) fun (t : ByteArray) =>
            if (!eqS s t) = true then
            withO (loadC none sg5 (AVal.gp m0 (1 : Nat))) fun p =>
            withA p.fst[p.snd]? fun (r : AVal) =>
            withA (plainA r) fun (m : AVal) =>
            withO (mapV sg5 m) fun (p : Nat × List (AVal × AVal)) =>
            withO (mGet (AVal.at (Value.int IntKind.i64 n)) p.snd) fun (r : Option AVal) =>
            withA (plainA (getOr [AVal.at (Value.string (ByteArray.mk (#[])))] false r)) fun (a : AVal) =>
            bif a.cells.length.beq (1 : Nat) then
            bindL
            (AVal.at (Value.int IntKind.i64 n) ::
            (a.cells ++ List.drop ((1 : Nat) + a.cells.length) [AVal.at (Value.int IntKind.i64 n), AVal.at (Value.string (ByteArray.mk (#[])))]))
            fun (cs : List AVal) =>
            bif allSz (2 : Nat) [AVal.agg cs] && Nat.blt (0 : Nat) (2 : Nat) then
            withO (flatG (sg5 ++ [Box.mk ((AVal.agg cs).cells ++ [])]) (2 : Nat) (AVal.gs (List.length sg5) (2 : Nat) (0 : Nat) (1 : Nat)))
            fun (p : Nat × List AVal) =>
            bif p.fst.beq (0 : Nat) then
            withO (app0 (2 : Nat) a1) fun (r : AVal) =>
            k Ex.normal
            (mkS [(0 : Nat), (3 : Nat), (13 : Nat), (14 : Nat), (15 : Nat)]
            [Slot.v (AVal.gp m0 (0 : Nat)) false, Slot.v r false, Slot.v a2 false, Slot.v (AVal.at (Value.int IntKind.i64 n3)) false,
            Slot.v (AVal.at (Value.int IntKind.i64 (IntKind.i64.wrap (n4 + (1 : Int))))) false]
            [none, none, none, none, none] (RVal.sg (sg5 ++ [Box.mk ((AVal.agg cs).cells ++ [])])))
            else
            if p.fst * (24 : Nat) ≤ (35184372088832 : Nat) then
            withO (app1 none (2 : Nat) (24 : Nat) (sg5 ++ [Box.mk ((AVal.agg cs).cells ++ [])]) a1 p.fst p.snd) fun (q : AVal × Sg) =>
            k Ex.normal
            (mkS [(0 : Nat), (3 : Nat), (13 : Nat), (14 : Nat), (15 : Nat)]
            [Slot.v (AVal.gp m0 (0 : Nat)) false, Slot.v q.fst false, Slot.v a2 false, Slot.v (AVal.at (Value.int IntKind.i64 n3)) false,
            Slot.v (AVal.at (Value.int IntKind.i64 (IntKind.i64.wrap (n4 + (1 : Int))))) false]
            [none, none, none, none, none] (RVal.sg q.snd))
            else none
            else none
            else none
            else
            k Ex.normal
            (mkS [(0 : Nat), (3 : Nat), (13 : Nat), (14 : Nat), (15 : Nat)]
            [Slot.v (AVal.gp m0 (0 : Nat)) false, Slot.v a1 false, Slot.v a2 false, Slot.v (AVal.at (Value.int IntKind.i64 n3)) false,
            Slot.v (AVal.at (Value.int IntKind.i64 (IntKind.i64.wrap (n4 + (1 : Int))))) false]
            [none, none, none, none, none] (RVal.sg sg5))
       else none)
      fun v x => some (Out.pan v sg5)
  else k (Ex.exit (0 : Nat)) (mkS [(3 : Nat)] [Slot.v a1 false] [none] (RVal.sg sg5)) := by kernel_rfl
theorem heap_Heap_images.k0_2 (C : CallF) (N : Nat) (a0 : AVal) (sg1 : Sg) :
  heap_Heap_images.K0 C N (Ex.exit (0 : Nat)) (mkS [(3 : Nat)] [Slot.v a0 false] [none] (RVal.sg sg1)) =
  withA (jk a0) fun (a : AVal) => some (Out.ret a sg1) := by kernel_rfl
theorem heap_Heap_images.r0_3 (C : CallF) (N : Nat) (m0 : Nat) (b1 : Bool) (l2 : List AVal) (a3 : AVal) (n4 : Int) (n5 : Int) (sg6 : Sg) (k : Ex → St → R) :
  heap_Heap_images.R0 C N
   (mkS [(0 : Nat), (3 : Nat), (13 : Nat), (14 : Nat), (15 : Nat)]
   [Slot.v (AVal.gp m0 (0 : Nat)) false, Slot.v (AVal.sl b1 (2 : Nat) l2) false, Slot.v a3 false, Slot.v (AVal.at (Value.int IntKind.i64 n4)) false, Slot.v (AVal.at (Value.int IntKind.i64 n5)) false]
   [none, none, none, none, none] (RVal.sg sg6))
   k =
  if decide (n5 < n4) = true then
   withO (elemV (1 : Nat) n5 a3) fun (r : AVal) =>
   withO (loadC none sg6 r) fun p =>
    withI IntKind.i64 p.fst[p.snd]? fun (n : Int) =>
    withO (loadC none sg6 (AVal.gp m0 (0 : Nat))) fun p =>
     withA p.fst[p.snd]? fun (r : AVal) =>
     withA (plainA r) fun (a : AVal) =>
      withOut (bif Nat.blt (31 : Nat) (1000000 : Nat) then C (31 : FuncId) [a, AVal.at (Value.int IntKind.i64 n)] sg6 else none)
      (fun v x =>
       withT v fun (vs : List AVal) =>
       bif vs.length.beq (2 : Nat) then
        withS vs[(0 : Nat)]? fun (s : ByteArray) =>
        withI IntKind.i64 vs[(1 : Nat)]? fun (n_1 : Int) =>
         withO (loadC none sg6 (AVal.gp m0 (1 : Nat))) fun p =>
         withA p.fst[p.snd]? fun (r : AVal) =>
          withA (plainA r) fun (m : AVal) =>
          withO (mapV sg6 m) fun (p : Nat × List (AVal × AVal)) =>
           withO (mGet (AVal.at (Value.int IntKind.i64 n)) p.snd) fun (r : Option AVal) =>
           withA (plainA (getOr [AVal.at (Value.string (ByteArray.mk (#[])))] false r)) fun (b : AVal) =>
            withS (some b) fun (t : ByteArray) =>
            if (!eqS s t) = true then
            withO (loadC none sg6 (AVal.gp m0 (1 : Nat))) fun p =>
            withA p.fst[p.snd]? fun (r : AVal) =>
            withA (plainA r) fun (m : AVal) =>
            withO (mapV sg6 m) fun (p : Nat × List (AVal × AVal)) =>
            withO (mGet (AVal.at (Value.int IntKind.i64 n)) p.snd) fun (r : Option AVal) =>
            withA (plainA (getOr [AVal.at (Value.string (ByteArray.mk (#[])))] false r)) fun (a : AVal) =>
            bif a.cells.length.beq (1 : Nat) then
            bindL
            (AVal.at (Value.int IntKind.i64 n) ::
            (a.cells ++ List.drop ((1 : Nat) + a.cells.length) [AVal.at (Value.int IntKind.i64 n), AVal.at (Value.string (ByteArray.mk (#[])))]))
            fun (cs : List AVal) =>
            bif allSz (2 : Nat) [AVal.agg cs] && Nat.blt (0 : Nat) (2 : Nat) then
            withO (flatG (sg6 ++ [Box.mk ((AVal.agg cs).cells ++ [])]) (2 : Nat) (AVal.gs (List.length sg6) (2 : Nat) (0 : Nat) (1 : Nat)))
            fun (p : Nat × List AVal) =>
            bif p.fst.beq (0 : Nat) then
            k Ex.normal
            (mkS [(0 : Nat), (3 : Nat), (13 : Nat), (14 : Nat), (15 : Nat)]
            [Slot.v (AVal.gp m0 (0 : Nat)) false, Slot.v (AVal.sl b1 (2 : Nat) l2) false, Slot.v a3 false,
            Slot.v (AVal.at (Value.int IntKind.i64 n4)) false,
            Slot.v (AVal.at (Value.int IntKind.i64 (IntKind.i64.wrap (n5 + (1 : Int))))) false]
            [none, none, none, none, none] (RVal.sg (sg6 ++ [Box.mk ((AVal.agg cs).cells ++ [])])))
            else
            if p.fst * (24 : Nat) ≤ (35184372088832 : Nat) then
            withO (app1 none (2 : Nat) (24 : Nat) (sg6 ++ [Box.mk ((AVal.agg cs).cells ++ [])]) (AVal.sl b1 (2 : Nat) l2) p.fst p.snd)
            fun (q : AVal × Sg) =>
            k Ex.normal
            (mkS [(0 : Nat), (3 : Nat), (13 : Nat), (14 : Nat), (15 : Nat)]
            [Slot.v (AVal.gp m0 (0 : Nat)) false, Slot.v q.fst false, Slot.v a3 false, Slot.v (AVal.at (Value.int IntKind.i64 n4)) false,
            Slot.v (AVal.at (Value.int IntKind.i64 (IntKind.i64.wrap (n5 + (1 : Int))))) false]
            [none, none, none, none, none] (RVal.sg q.snd))
            else none
            else none
            else none
            else
            k Ex.normal
            (mkS [(0 : Nat), (3 : Nat), (13 : Nat), (14 : Nat), (15 : Nat)]
            [Slot.v (AVal.gp m0 (0 : Nat)) false, Slot.v (AVal.sl b1 (2 : Nat) l2) false, Slot.v a3 false, Slot.v (AVal.at (Value.int IntKind.i64 n4)) false,
            Slot.v (AVal.at (Value.int IntKind.i64 (IntKind.i64.wrap (n5 + (1 : Int))))) false]
            [none, none, none, none, none] (RVal.sg sg6))
       else none)
      fun v x => some (Out.pan v sg6)
  else k (Ex.exit (0 : Nat)) (mkS [(3 : Nat)] [Slot.v (AVal.sl b1 (2 : Nat) l2) false] [none] (RVal.sg sg6)) := by kernel_rfl
theorem heap_Heap_images.k0_3 (C : CallF) (N : Nat) (b0 : Bool) (l1 : List AVal) (sg2 : Sg) :
  heap_Heap_images.K0 C N (Ex.exit (0 : Nat)) (mkS [(3 : Nat)] [Slot.v (AVal.sl b0 (2 : Nat) l1) false] [none] (RVal.sg sg2)) =
  some (Out.ret (AVal.sl b0 (2 : Nat) l1) sg2) := by kernel_rfl


/-! 123 (*wharfage/heap.Heap).Pages -/
theorem heap_Heap_Pages.main (C : CallF) (N : Nat) (m0 : Nat) (sg1 : Sg) :
  evalF C N heap_Heap_Pages.a [AVal.gp m0 (0 : Nat)] sg1 =
  withO (loadC none sg1 (AVal.gp m0 (0 : Nat))) fun p =>
   withA p.fst[p.snd]? fun (r : AVal) =>
   withA (plainA r) fun (a : AVal) =>
    withOut (bif Nat.blt (35 : Nat) (1000000 : Nat) then C (35 : FuncId) [a] sg1 else none)
    (fun v x => withI IntKind.i64 (some v) fun (n : Int) => some (Out.ret (AVal.at (Value.int IntKind.i64 n)) sg1)) fun v x => some (Out.pan v sg1) := by kernel_rfl


/-! 124 wharfage/bitmap.Take -/
theorem bitmap_Take.main (C : CallF) (N : Nat) (s0 : ByteArray) (n1 : Int) (n2 : Int) (n3 : Int) (sg4 : Sg) :
  evalF C N bitmap_Take.a [AVal.at (Value.string s0), AVal.at (Value.int IntKind.i64 n1), AVal.at (Value.int IntKind.i64 n2), AVal.at (Value.int IntKind.i64 n3)] sg4 =
  withOut
   (bif Nat.blt (228 : Nat) (1000000 : Nat) then
   C (228 : FuncId) [AVal.at (Value.string s0), AVal.at (Value.int IntKind.i64 n1), AVal.at (Value.int IntKind.i64 n2), AVal.at (Value.int IntKind.i64 n3)] []
   else none)
   (fun v sg' =>
   withO (thaw (8 : Nat) sg' v) fun (v : AVal) =>
    withT v fun (vs : List AVal) =>
    bif vs.length.beq (2 : Nat) then
     withA vs[(0 : Nat)]? fun (a : AVal) =>
     withI IntKind.i64 vs[(1 : Nat)]? fun (n : Int) =>
      bif noG (AVal.tup [a, AVal.at (Value.int IntKind.i64 n)]) then
      if (n != (0 : Int)) = true then some (Out.ret (AVal.tup [AVal.sl true (1 : Nat) [], AVal.at (Value.string (ByteArray.mk (#[]))), AVal.at (Value.int IntKind.i64 n)]) sg4)
      else
       withA (plainA a) fun (a_1 : AVal) =>
       withOut (bif Nat.blt (229 : Nat) (1000000 : Nat) then C (229 : FuncId) [AVal.at (Value.string s0), a_1, ofConst (Value.bool true)] sg4 else none)
        (fun v sg' =>
        withT v fun (vs : List AVal) =>
         bif vs.length.beq (2 : Nat) then
         withS vs[(0 : Nat)]? fun (s : ByteArray) =>
          withI IntKind.i64 vs[(1 : Nat)]? fun (n : Int) =>
          withA (jk a) fun (a : AVal) => some (Out.ret (AVal.tup [a, AVal.at (Value.string s), AVal.at (Value.int IntKind.i64 n)]) sg')
         else none)
        fun v sg' => some (Out.pan v sg')
      else none
    else none)
   fun x x_1 => none := by kernel_rfl


/-! 125 (*wharfage/heap.Heap).must -/
theorem heap_Heap_must.main (C : CallF) (N : Nat) (m0 : Nat) (n1 : Int) (sg2 : Sg) :
  evalF C N heap_Heap_must.a [AVal.gp m0 (0 : Nat), AVal.at (Value.int IntKind.i64 n1)] sg2 =
  if (n1 != (0 : Int)) = true then
   withOut (bif Nat.blt (26 : Nat) (1000000 : Nat) then C (26 : FuncId) [AVal.gp m0 (0 : Nat), AVal.at (Value.int IntKind.i64 n1)] sg2 else none)
   (fun v x => some (Out.ret (AVal.tup []) sg2)) fun v x => some (Out.pan v sg2)
  else some (Out.ret (AVal.tup []) sg2) := by kernel_rfl


/-! 127 wharfage/bitmap.Give -/
theorem bitmap_Give.main (C : CallF) (N : Nat) (s0 : ByteArray) (a1 : AVal) (sg2 : Sg) :
  evalF C N bitmap_Give.a [AVal.at (Value.string s0), a1] sg2 =
  withA (plainA a1) fun (a : AVal) =>
   withOut (bif Nat.blt (229 : Nat) (1000000 : Nat) then C (229 : FuncId) [AVal.at (Value.string s0), a, ofConst (Value.bool false)] sg2 else none)
   (fun v sg' =>
    withT v fun (vs : List AVal) =>
    bif vs.length.beq (2 : Nat) then
     withS vs[(0 : Nat)]? fun (s : ByteArray) => withI IntKind.i64 vs[(1 : Nat)]? fun (n : Int) => some (Out.ret (AVal.tup [AVal.at (Value.string s), AVal.at (Value.int IntKind.i64 n)]) sg')
    else none)
   fun v sg' => some (Out.pan v sg') := by kernel_rfl


/-! 128 wharfage/bitmap.Many -/
theorem bitmap_Many.main (C : CallF) (N : Nat) (s0 : ByteArray) (n1 : Int) (n2 : Int) (sg3 : Sg) :
  evalF C N bitmap_Many.a [AVal.at (Value.string s0), AVal.at (Value.int IntKind.i64 n1), AVal.at (Value.int IntKind.i64 n2)] sg3 =
  withOut (bif Nat.blt (231 : Nat) (1000000 : Nat) then C (231 : FuncId) [AVal.at (Value.string s0)] [] else none)
   (fun v x =>
   withB (some v) fun (b : Bool) =>
    if (!b) = true then some (Out.ret (AVal.at (Value.int IntKind.i64 (0 : Int))) sg3)
    else
    iter (bitmap_Many.R0 C N) N
     (mkS [(0 : Nat), (2 : Nat), (7 : Nat), (8 : Nat)]
     [Slot.v (AVal.at (Value.string s0)) false, Slot.v (AVal.at (Value.int IntKind.i64 (bif false then max2 n2 (3840 : Int) else min2 n2 (3840 : Int)))) false,
      Slot.v (AVal.at (Value.int IntKind.i64 (0 : Int))) false, Slot.v (AVal.at (Value.int IntKind.i64 (bif true then max2 n1 (0 : Int) else min2 n1 (0 : Int)))) false]
     [none, none, none, none] (RVal.sg sg3))
     (bitmap_Many.K0 C N))
   fun x x_1 => none := by kernel_rfl
theorem bitmap_Many.r0 (C : CallF) (N : Nat) (s0 : ByteArray) (n1 : Int) (n2 : Int) (n3 : Int) (sg4 : Sg) (k : Ex → St → R) :
  bitmap_Many.R0 C N
   (mkS [(0 : Nat), (2 : Nat), (7 : Nat), (8 : Nat)]
   [Slot.v (AVal.at (Value.string s0)) false, Slot.v (AVal.at (Value.int IntKind.i64 n1)) false, Slot.v (AVal.at (Value.int IntKind.i64 n2)) false, Slot.v (AVal.at (Value.int IntKind.i64 n3)) false]
   [none, none, none, none] (RVal.sg sg4))
   k =
  if decide (n3 < n1) = true then
   if (8 : Int) = (0 : Int) then none
   else
   if (n3.tmod (8 : Int) == (0 : Int)) = true then
    if decide (IntKind.i64.wrap (n3 + (8 : Int)) ≤ n1) = true then
    if (8 : Int) = (0 : Int) then none
    else
     if (0 : Int) ≤ IntKind.i64.wrap (n3.tdiv (8 : Int)) ∧ IntKind.i64.wrap (n3.tdiv (8 : Int)) < (↑s0.size : Int) then
     withOut
      (bif Nat.blt (232 : Nat) (1000000 : Nat) then
      C (232 : FuncId) [AVal.at (Value.int IntKind.u8 (↑(s0.data.toList.getD (IntKind.i64.wrap (n3.tdiv (8 : Int))).toNat (0 : UInt8)).toNat : Int))] []
      else none)
      (fun v x =>
      withI IntKind.i64 (some v) fun (n : Int) =>
       k Ex.normal
       (mkS [(0 : Nat), (2 : Nat), (7 : Nat), (8 : Nat)]
        [Slot.v (AVal.at (Value.string s0)) false, Slot.v (AVal.at (Value.int IntKind.i64 n1)) false, Slot.v (AVal.at (Value.int IntKind.i64 (IntKind.i64.wrap (n2 + n)))) false,
        Slot.v (AVal.at (Value.int IntKind.i64 (IntKind.i64.wrap (n3 + (8 : Int))))) false]
        [none, none, none, none] (RVal.sg sg4)))
      fun x x_1 => none
     else none
    else
    withOut (bif Nat.blt (233 : Nat) (1000000 : Nat) then C (233 : FuncId) [AVal.at (Value.string s0), AVal.at (Value.int IntKind.i64 n3)] [] else none)
     (fun v x =>
     withB (some v) fun (b : Bool) =>
      if b = true then
      k Ex.normal
       (mkS [(0 : Nat), (2 : Nat), (7 : Nat), (8 : Nat)]
       [Slot.v (AVal.at (Value.string s0)) false, Slot.v (AVal.at (Value.int IntKind.i64 n1)) false, Slot.v (AVal.at (Value.int IntKind.i64 (IntKind.i64.wrap (n2 + (1 : Int))))) false,
        Slot.v (AVal.at (Value.int IntKind.i64 (IntKind.i64.wrap (n3 + (1 : Int))))) false]
       [none, none, none, none] (RVal.sg sg4))
      else
      k Ex.normal
       (mkS [(0 : Nat), (2 : Nat), (7 : Nat), (8 : Nat)]
       [Slot.v (AVal.at (Value.string s0)) false, Slot.v (AVal.at (Value.int IntKind.i64 n1)) false, Slot.v (AVal.at (Value.int IntKind.i64 n2)) false,
        Slot.v (AVal.at (Value.int IntKind.i64 (IntKind.i64.wrap (n3 + (1 : Int))))) false]
       [none, none, none, none] (RVal.sg sg4)))
     fun x x_1 => none
   else
    withOut (bif Nat.blt (233 : Nat) (1000000 : Nat) then C (233 : FuncId) [AVal.at (Value.string s0), AVal.at (Value.int IntKind.i64 n3)] [] else none)
    (fun v x =>
     withB (some v) fun (b : Bool) =>
     if b = true then
      k Ex.normal
      (mkS [(0 : Nat), (2 : Nat), (7 : Nat), (8 : Nat)]
       [Slot.v (AVal.at (Value.string s0)) false, Slot.v (AVal.at (Value.int IntKind.i64 n1)) false, Slot.v (AVal.at (Value.int IntKind.i64 (IntKind.i64.wrap (n2 + (1 : Int))))) false,
       Slot.v (AVal.at (Value.int IntKind.i64 (IntKind.i64.wrap (n3 + (1 : Int))))) false]
       [none, none, none, none] (RVal.sg sg4))
     else
      k Ex.normal
      (mkS [(0 : Nat), (2 : Nat), (7 : Nat), (8 : Nat)]
       [Slot.v (AVal.at (Value.string s0)) false, Slot.v (AVal.at (Value.int IntKind.i64 n1)) false, Slot.v (AVal.at (Value.int IntKind.i64 n2)) false,
       Slot.v (AVal.at (Value.int IntKind.i64 (IntKind.i64.wrap (n3 + (1 : Int))))) false]
       [none, none, none, none] (RVal.sg sg4)))
    fun x x_1 => none
  else k (Ex.exit (0 : Nat)) (mkS [(7 : Nat)] [Slot.v (AVal.at (Value.int IntKind.i64 n2)) false] [none] (RVal.sg sg4)) := by kernel_rfl
theorem bitmap_Many.k0_1 (C : CallF) (N : Nat) (n0 : Int) (sg1 : Sg) :
  bitmap_Many.K0 C N (Ex.exit (0 : Nat)) (mkS [(7 : Nat)] [Slot.v (AVal.at (Value.int IntKind.i64 n0)) false] [none] (RVal.sg sg1)) =
  some (Out.ret (AVal.at (Value.int IntKind.i64 n0)) sg1) := by kernel_rfl


/-! 227 maps.Keys[map[int]string,int,string] -/
theorem maps_Keys_map_intstring_int_string.main (C : CallF) (N : Nat) (a0 : AVal) (sg1 : Sg) :
  evalF C N maps_Keys_map_intstring_int_string.a [a0] sg1 =
  withA (plainA a0) fun (a : AVal) => some (Out.ret (AVal.clo (320 : Nat) [] [AVal.gp (List.length sg1) (0 : Nat)]) (sg1 ++ [Box.mk a.cells])) := by kernel_rfl


/-! 228 wharfage/bitmap.Lowest -/
theorem bitmap_Lowest.main (C : CallF) (N : Nat) (s0 : ByteArray) (n1 : Int) (n2 : Int) (n3 : Int) (sg4 : Sg) :
  evalF C N bitmap_Lowest.a [AVal.at (Value.string s0), AVal.at (Value.int IntKind.i64 n1), AVal.at (Value.int IntKind.i64 n2), AVal.at (Value.int IntKind.i64 n3)] sg4 =
  withOut (bif Nat.blt (321 : Nat) (1000000 : Nat) then C (321 : FuncId) [AVal.at (Value.string s0), AVal.at (Value.int IntKind.i64 n1), AVal.at (Value.int IntKind.i64 n2)] [] else none)
   (fun v x =>
   withB (some v) fun (b : Bool) =>
    if (!b) = false then
    if decide (n3 < (0 : Int)) = true then some (Out.ret (AVal.tup [AVal.sl true (1 : Nat) [], AVal.at (Value.int IntKind.i64 (18 : Int))]) sg4)
    else
     withOut
     (bif Nat.blt (322 : Nat) (1000000 : Nat) then
      C (322 : FuncId) [AVal.at (Value.string s0), AVal.at (Value.int IntKind.i64 n1), AVal.at (Value.int IntKind.i64 n2), AVal.at (Value.int IntKind.i64 n3)] []
     else none)
     (fun v sg' =>
      withO (thaw (8 : Nat) sg' v) fun (v : AVal) =>
      bif noG v then
       withO (lenV v) fun (n : Nat) =>
       if decide ((↑n : Int) < n3) = true then some (Out.ret (AVal.tup [AVal.sl true (1 : Nat) [], AVal.at (Value.int IntKind.i64 (13 : Int))]) sg4)
       else withA (jk v) fun (a : AVal) => some (Out.ret (AVal.tup [a, AVal.at (Value.int IntKind.i64 (0 : Int))]) sg4)
      else none)
     fun x x_1 => none
    else some (Out.ret (AVal.tup [AVal.sl true (1 : Nat) [], AVal.at (Value.int IntKind.i64 (18 : Int))]) sg4))
   fun x x_1 => none := by kernel_rfl


/-! 229 wharfage/bitmap.turn -/
theorem bitmap_turn.main (C : CallF) (N : Nat) (s0 : ByteArray) (a1 : AVal) (b2 : Bool) (sg3 : Sg) :
  evalF C N bitmap_turn.a [AVal.at (Value.string s0), a1, AVal.at (Value.bool b2)] sg3 =
  withO (lenV a1) fun (n : Nat) =>
   iter (bitmap_turn.R0 C N) N
   (mkS [(3 : Nat), (5 : Nat), (8 : Nat), (13 : Nat), (14 : Nat), (15 : Nat)]
    [Slot.v (AVal.gp (List.length sg3) (0 : Nat)) false, Slot.v (AVal.gp (List.length (sg3 ++ [Box.mk [AVal.at (Value.string s0)]])) (0 : Nat)) false,
    Slot.v (AVal.clo (323 : Nat) [] [AVal.gp (List.length sg3) (0 : Nat), AVal.gp (List.length (sg3 ++ [Box.mk [AVal.at (Value.string s0)]])) (0 : Nat)]) false, Slot.v a1 false,
    Slot.v (AVal.at (Value.int IntKind.i64 (↑n : Int))) false, Slot.v (AVal.at (Value.int IntKind.i64 (0 : Int))) false]
    [none, none, none, none, none, none] (RVal.sg (sg3 ++ [Box.mk [AVal.at (Value.string s0)]] ++ [Box.mk [AVal.at (Value.bool b2)]])))
   (bitmap_turn.K0 C N) := by kernel_rfl
theorem bitmap_turn.r0 (C : CallF) (N : Nat) (m0 : Nat) (m1 : Nat) (m2 : Nat) (m3 : Nat) (a4 : AVal) (n5 : Int) (n6 : Int) (sg7 : Sg) (k : Ex → St → R) :
  bitmap_turn.R0 C N
   (mkS [(3 : Nat), (5 : Nat), (8 : Nat), (13 : Nat), (14 : Nat), (15 : Nat)]
   [Slot.v (AVal.gp m0 (0 : Nat)) false, Slot.v (AVal.gp m1 (0 : Nat)) false, Slot.v (AVal.clo (323 : Nat) [] [AVal.gp m2 (0 : Nat), AVal.gp m3 (0 : Nat)]) false, Slot.v a4 false,
    Slot.v (AVal.at (Value.int IntKind.i64 n5)) false, Slot.v (AVal.at (Value.int IntKind.i64 n6)) false]
   [none, none, none, none, none, none] (RVal.sg sg7))
   k =
  if decide (n6 < n5) = true then
   withO (elemV (1 : Nat) n6 a4) fun (r : AVal) =>
   withO (loadC none sg7 r) fun p =>
    withI IntKind.i64 p.fst[p.snd]? fun (n : Int) =>
    withOut (bif Nat.blt (323 : Nat) (1000000 : Nat) then C (323 : Nat) ([] ++ ([AVal.at (Value.int IntKind.i64 n)] ++ [AVal.gp m2 (0 : Nat), AVal.gp m3 (0 : Nat)])) sg7 else none)
     (fun v sg' =>
     withB (some v) fun (b : Bool) =>
      if b = true then
      k Ex.ret (mkS [(6 : Nat), (7 : Nat)] [Slot.v (AVal.at (Value.string (ByteArray.mk (#[])))) false, Slot.v (AVal.at (Value.int IntKind.i64 (18 : Int))) false] [none, none] (RVal.sg sg'))
      else
      withO (loadC none sg' (AVal.gp m0 (0 : Nat))) fun p =>
       withS p.fst[p.snd]? fun (s : ByteArray) =>
       withO (loadC none sg' (AVal.gp m1 (0 : Nat))) fun p =>
        withB p.fst[p.snd]? fun (b : Bool) =>
        withOut (bif Nat.blt (325 : Nat) (1000000 : Nat) then C (325 : FuncId) [AVal.at (Value.string s), AVal.at (Value.int IntKind.i64 n), AVal.at (Value.bool b)] [] else none)
         (fun v x =>
         withT v fun (vs : List AVal) =>
          bif vs.length.beq (2 : Nat) then
          withS vs[(0 : Nat)]? fun (s : ByteArray) =>
           withI IntKind.i64 vs[(1 : Nat)]? fun (n : Int) =>
           withO (storeG none sg' (AVal.gp m0 (0 : Nat)) (1 : Nat) (AVal.at (Value.string s))) fun (sg : Sg) =>
            if (n != (0 : Int)) = true then
            k Ex.ret
            (mkS [(6 : Nat), (7 : Nat)] [Slot.v (AVal.at (Value.string (ByteArray.mk (#[])))) false, Slot.v (AVal.at (Value.int IntKind.i64 n)) false] [none, none]
            (RVal.sg sg))
            else
            k Ex.normal
            (mkS [(3 : Nat), (5 : Nat), (8 : Nat), (13 : Nat), (14 : Nat), (15 : Nat)]
            [Slot.v (AVal.gp m0 (0 : Nat)) false, Slot.v (AVal.gp m1 (0 : Nat)) false,
            Slot.v (AVal.clo (323 : Nat) [] [AVal.gp m2 (0 : Nat), AVal.gp m3 (0 : Nat)]) false, Slot.v a4 false, Slot.v (AVal.at (Value.int IntKind.i64 n5)) false,
            Slot.v (AVal.at (Value.int IntKind.i64 (IntKind.i64.wrap (n6 + (1 : Int))))) false]
            [none, none, none, none, none, none] (RVal.sg sg))
          else none)
         fun x x_1 => none)
     fun v sg' => some (Out.pan v sg')
  else k (Ex.exit (0 : Nat)) (mkS [(3 : Nat)] [Slot.v (AVal.gp m0 (0 : Nat)) false] [none] (RVal.sg sg7)) := by kernel_rfl
theorem bitmap_turn.k0_1 (C : CallF) (N : Nat) (s0 : ByteArray) (n1 : Int) (sg2 : Sg) :
  bitmap_turn.K0 C N Ex.ret (mkS [(6 : Nat), (7 : Nat)] [Slot.v (AVal.at (Value.string s0)) false, Slot.v (AVal.at (Value.int IntKind.i64 n1)) false] [none, none] (RVal.sg sg2)) =
  some (Out.ret (AVal.tup [AVal.at (Value.string s0), AVal.at (Value.int IntKind.i64 n1)]) sg2) := by kernel_rfl
theorem bitmap_turn.k0_2 (C : CallF) (N : Nat) (m0 : Nat) (sg1 : Sg) :
  bitmap_turn.K0 C N (Ex.exit (0 : Nat)) (mkS [(3 : Nat)] [Slot.v (AVal.gp m0 (0 : Nat)) false] [none] (RVal.sg sg1)) =
  withO (loadC none sg1 (AVal.gp m0 (0 : Nat))) fun p =>
   withS p.fst[p.snd]? fun (s : ByteArray) =>
   withOut (bif Nat.blt (231 : Nat) (1000000 : Nat) then C (231 : FuncId) [AVal.at (Value.string s)] [] else none)
    (fun v x =>
    withB (some v) fun (b : Bool) =>
     if (!b) = true then some (Out.ret (AVal.tup [AVal.at (Value.string (ByteArray.mk (#[]))), AVal.at (Value.int IntKind.i64 (18 : Int))]) sg1)
     else
     withO (loadC none sg1 (AVal.gp m0 (0 : Nat))) fun p =>
      withS p.fst[p.snd]? fun (s : ByteArray) => some (Out.ret (AVal.tup [AVal.at (Value.string s), AVal.at (Value.int IntKind.i64 (0 : Int))]) sg1))
    fun x x_1 => none := by kernel_rfl


/-! 231 wharfage/bitmap.is -/
theorem bitmap_is.main (C : CallF) (N : Nat) (s0 : ByteArray) (sg1 : Sg) :
  evalF C N bitmap_is.a [AVal.at (Value.string s0)] sg1 =
  some (Out.ret (AVal.at (Value.bool ((↑s0.size : Int) == (480 : Int)))) sg1) := by kernel_rfl


/-! 233 wharfage/bitmap.Used -/
theorem bitmap_Used.main (C : CallF) (N : Nat) (s0 : ByteArray) (n1 : Int) (sg2 : Sg) :
  evalF C N bitmap_Used.a [AVal.at (Value.string s0), AVal.at (Value.int IntKind.i64 n1)] sg2 =
  withOut (bif Nat.blt (231 : Nat) (1000000 : Nat) then C (231 : FuncId) [AVal.at (Value.string s0)] [] else none)
   (fun v x =>
   withB (some v) fun (b : Bool) =>
    if b = true then
    withOut (bif Nat.blt (324 : Nat) (1000000 : Nat) then C (324 : FuncId) [AVal.at (Value.int IntKind.i64 n1)] [] else none)
     (fun v x =>
     withB (some v) fun (b : Bool) =>
      if b = true then
      if (8 : Int) = (0 : Int) then none
      else
       if (0 : Int) ≤ IntKind.i64.wrap (n1.tdiv (8 : Int)) ∧ IntKind.i64.wrap (n1.tdiv (8 : Int)) < (↑s0.size : Int) then
       if (8 : Int) = (0 : Int) then none
       else
        if n1.tmod (8 : Int) < (0 : Int) then none
        else
        some
         (Out.ret
         (AVal.at
          (Value.bool
          (bitsI BinOp.and IntKind.u8
           (shiftI BinOp.shr IntKind.u8 (↑(s0.data.toList.getD (IntKind.i64.wrap (n1.tdiv (8 : Int))).toNat (0 : UInt8)).toNat : Int) (n1.tmod (8 : Int))) (1 : Int) ==
           (1 : Int))))
         sg2)
       else none
      else some (Out.ret (AVal.at (Value.bool false)) sg2))
     fun x x_1 => none
    else some (Out.ret (AVal.at (Value.bool false)) sg2))
   fun x x_1 => none := by kernel_rfl


/-! 321 wharfage/bitmap.within -/
theorem bitmap_within.main (C : CallF) (N : Nat) (s0 : ByteArray) (n1 : Int) (n2 : Int) (sg3 : Sg) :
  evalF C N bitmap_within.a [AVal.at (Value.string s0), AVal.at (Value.int IntKind.i64 n1), AVal.at (Value.int IntKind.i64 n2)] sg3 =
  withOut (bif Nat.blt (231 : Nat) (1000000 : Nat) then C (231 : FuncId) [AVal.at (Value.string s0)] [] else none)
   (fun v x =>
   withB (some v) fun (b : Bool) =>
    if b = true then
    if decide (n1 ≥ (0 : Int)) = true then
     if decide (n1 ≤ n2) = true then some (Out.ret (AVal.at (Value.bool (decide (n2 ≤ (3840 : Int))))) sg3) else some (Out.ret (AVal.at (Value.bool false)) sg3)
    else some (Out.ret (AVal.at (Value.bool false)) sg3)
    else some (Out.ret (AVal.at (Value.bool false)) sg3))
   fun x x_1 => none := by kernel_rfl


/-! 322 wharfage/bitmap.free -/
theorem bitmap_free.main (C : CallF) (N : Nat) (s0 : ByteArray) (n1 : Int) (n2 : Int) (n3 : Int) (sg4 : Sg) :
  evalF C N bitmap_free.a [AVal.at (Value.string s0), AVal.at (Value.int IntKind.i64 n1), AVal.at (Value.int IntKind.i64 n2), AVal.at (Value.int IntKind.i64 n3)] sg4 =
  iter (bitmap_free.R0 C N) N
   (mkS [(0 : Nat), (2 : Nat), (3 : Nat), (9 : Nat), (10 : Nat)]
   [Slot.v (AVal.at (Value.string s0)) false, Slot.v (AVal.at (Value.int IntKind.i64 n2)) false, Slot.v (AVal.at (Value.int IntKind.i64 n3)) false, Slot.v (AVal.sl true (1 : Nat) []) true,
    Slot.v (AVal.at (Value.int IntKind.i64 n1)) false]
   [none, none, none, none, none] (RVal.sg sg4))
   (bitmap_free.K0 C N) := by kernel_rfl
theorem bitmap_free.r0 (C : CallF) (N : Nat) (s0 : ByteArray) (n1 : Int) (n2 : Int) (b3 : Bool) (l4 : List AVal) (n5 : Int) (sg6 : Sg) (k : Ex → St → R) :
  bitmap_free.R0 C N
   (mkS [(0 : Nat), (2 : Nat), (3 : Nat), (9 : Nat), (10 : Nat)]
   [Slot.v (AVal.at (Value.string s0)) false, Slot.v (AVal.at (Value.int IntKind.i64 n1)) false, Slot.v (AVal.at (Value.int IntKind.i64 n2)) false, Slot.v (AVal.sl b3 (1 : Nat) l4) true,
    Slot.v (AVal.at (Value.int IntKind.i64 n5)) false]
   [none, none, none, none, none] (RVal.sg sg6))
   k =
  if decide (n5 < n1) = true then
   if decide ((↑l4.length : Int) < n2) = true then
   withOut (bif Nat.blt (233 : Nat) (1000000 : Nat) then C (233 : FuncId) [AVal.at (Value.string s0), AVal.at (Value.int IntKind.i64 n5)] [] else none)
    (fun v x =>
    withB (some v) fun (b : Bool) =>
     if (!b) = true then
     bif true && Nat.blt (0 : Nat) (1 : Nat) then
      withO (flatG (sg6 ++ [Box.mk [AVal.at (Value.int IntKind.i64 n5)]]) (1 : Nat) (AVal.gs (List.length sg6) (1 : Nat) (0 : Nat) (1 : Nat))) fun (p : Nat × List AVal) =>
      bif p.fst.beq (0 : Nat) then
       k Ex.normal
       (mkS [(0 : Nat), (2 : Nat), (3 : Nat), (9 : Nat), (10 : Nat)]
        [Slot.v (AVal.at (Value.string s0)) false, Slot.v (AVal.at (Value.int IntKind.i64 n1)) false, Slot.v (AVal.at (Value.int IntKind.i64 n2)) false,
        Slot.v (AVal.sl b3 (1 : Nat) l4) false, Slot.v (AVal.at (Value.int IntKind.i64 (IntKind.i64.wrap (n5 + (1 : Int))))) false]
        [none, none, none, none, none] (RVal.sg (sg6 ++ [Box.mk [AVal.at (Value.int IntKind.i64 n5)]])))
      else
       if p.fst * (8 : Nat) ≤ (35184372088832 : Nat) then
       withO (app1 none (1 : Nat) (8 : Nat) (sg6 ++ [Box.mk [AVal.at (Value.int IntKind.i64 n5)]]) (AVal.sl b3 (1 : Nat) l4) p.fst p.snd) fun (q : AVal × Sg) =>
        k Ex.normal
        (mkS [(0 : Nat), (2 : Nat), (3 : Nat), (9 : Nat), (10 : Nat)]
         [Slot.v (AVal.at (Value.string s0)) false, Slot.v (AVal.at (Value.int IntKind.i64 n1)) false, Slot.v (AVal.at (Value.int IntKind.i64 n2)) false, Slot.v q.fst false,
         Slot.v (AVal.at (Value.int IntKind.i64 (IntKind.i64.wrap (n5 + (1 : Int))))) false]
         [none, none, none, none, none] (RVal.sg q.snd))
       else none
     else none
     else
     k Ex.normal
      (mkS [(0 : Nat), (2 : Nat), (3 : Nat), (9 : Nat), (10 : Nat)]
      [Slot.v (AVal.at (Value.string s0)) false, Slot.v (AVal.at (Value.int IntKind.i64 n1)) false, Slot.v (AVal.at (Value.int IntKind.i64 n2)) false, Slot.v (AVal.sl b3 (1 : Nat) l4) true,
       Slot.v (AVal.at (Value.int IntKind.i64 (IntKind.i64.wrap (n5 + (1 : Int))))) false]
      [none, none, none, none, none] (RVal.sg sg6)))
    fun x x_1 => none
   else k (Ex.exit (0 : Nat)) (mkS [(9 : Nat)] [Slot.v (AVal.sl b3 (1 : Nat) l4) true] [none] (RVal.sg sg6))
  else k (Ex.exit (0 : Nat)) (mkS [(9 : Nat)] [Slot.v (AVal.sl b3 (1 : Nat) l4) true] [none] (RVal.sg sg6)) := by kernel_rfl
-- NOTE: loop 0 goes on in another shape
-- NOTE: loop 0 goes on in another shape
theorem bitmap_free.k0_1 (C : CallF) (N : Nat) (b0 : Bool) (l1 : List AVal) (sg2 : Sg) :
  bitmap_free.K0 C N (Ex.exit (0 : Nat)) (mkS [(9 : Nat)] [Slot.v (AVal.sl b0 (1 : Nat) l1) true] [none] (RVal.sg sg2)) =
  some (Out.ret (AVal.sl b0 (1 : Nat) l1) sg2) := by kernel_rfl
theorem bitmap_free.r0_2 (C : CallF) (N : Nat) (s0 : ByteArray) (n1 : Int) (n2 : Int) (a3 : AVal) (n4 : Int) (sg5 : Sg) (k : Ex → St → R) :
  bitmap_free.R0 C N
   (mkS [(0 : Nat), (2 : Nat), (3 : Nat), (9 : Nat), (10 : Nat)]
   [Slot.v (AVal.at (Value.string s0)) false, Slot.v (AVal.at (Value.int IntKind.i64 n1)) false, Slot.v (AVal.at (Value.int IntKind.i64 n2)) false, Slot.v a3 false,
    Slot.v (AVal.at (Value.int IntKind.i64 n4)) false]
   [none, none, none, none, none] (RVal.sg sg5))
   k =
  if decide (n4 < n1) = true then
   withO (lenV a3) fun (n : Nat) =>
   if decide ((↑n : Int) < n2) = true then
    withOut (bif Nat.blt (233 : Nat) (1000000 : Nat) then C (233 : FuncId) [AVal.at (Value.string s0), AVal.at (Value.int IntKind.i64 n4)] [] else none)
    (fun v x =>
     withB (some v) fun (b : Bool) =>
     if (!b) = true then
      bif true && Nat.blt (0 : Nat) (1 : Nat) then
      withO (flatG (sg5 ++ [Box.mk [AVal.at (Value.int IntKind.i64 n4)]]) (1 : Nat) (AVal.gs (List.length sg5) (1 : Nat) (0 : Nat) (1 : Nat))) fun (p : Nat × List AVal) =>
       bif p.fst.beq (0 : Nat) then
       withO (app0 (1 : Nat) a3) fun (r : AVal) =>
        k Ex.normal
        (mkS [(0 : Nat), (2 : Nat), (3 : Nat), (9 : Nat), (10 : Nat)]
         [Slot.v (AVal.at (Value.string s0)) false, Slot.v (AVal.at (Value.int IntKind.i64 n1)) false, Slot.v (AVal.at (Value.int IntKind.i64 n2)) false, Slot.v r false,
         Slot.v (AVal.at (Value.int IntKind.i64 (IntKind.i64.wrap (n4 + (1 : Int))))) false]
         [none, none, none, none, none] (RVal.sg (sg5 ++ [Box.mk [AVal.at (Value.int IntKind.i64 n4)]])))
       else
       if p.fst * (8 : Nat) ≤ (35184372088832 : Nat) then
        withO (app1 none (1 : Nat) (8 : Nat) (sg5 ++ [Box.mk [AVal.at (Value.int IntKind.i64 n4)]]) a3 p.fst p.snd) fun (q : AVal × Sg) =>
        k Ex.normal
         (mkS [(0 : Nat), (2 : Nat), (3 : Nat), (9 : Nat), (10 : Nat)]
         [Slot.v (AVal.at (Value.string s0)) false, Slot.v (AVal.at (Value.int IntKind.i64 n1)) false, Slot.v (AVal.at (Value.int IntKind.i64 n2)) false, Slot.v q.fst false,
          Slot.v (AVal.at (Value.int IntKind.i64 (IntKind.i64.wrap (n4 + (1 : Int))))) false]
         [none, none, none, none, none] (RVal.sg q.snd))
       else none
      else none
     else
      k Ex.normal
      (mkS [(0 : Nat), (2 : Nat), (3 : Nat), (9 : Nat), (10 : Nat)]
       [Slot.v (AVal.at (Value.string s0)) false, Slot.v (AVal.at (Value.int IntKind.i64 n1)) false, Slot.v (AVal.at (Value.int IntKind.i64 n2)) false, Slot.v a3 false,
       Slot.v (AVal.at (Value.int IntKind.i64 (IntKind.i64.wrap (n4 + (1 : Int))))) false]
       [none, none, none, none, none] (RVal.sg sg5)))
    fun x x_1 => none
   else k (Ex.exit (0 : Nat)) (mkS [(9 : Nat)] [Slot.v a3 false] [none] (RVal.sg sg5))
  else k (Ex.exit (0 : Nat)) (mkS [(9 : Nat)] [Slot.v a3 false] [none] (RVal.sg sg5)) := by kernel_rfl
theorem bitmap_free.k0_2 (C : CallF) (N : Nat) (a0 : AVal) (sg1 : Sg) :
  bitmap_free.K0 C N (Ex.exit (0 : Nat)) (mkS [(9 : Nat)] [Slot.v a0 false] [none] (RVal.sg sg1)) =
  withA (jk a0) fun (a : AVal) => some (Out.ret a sg1) := by kernel_rfl
theorem bitmap_free.r0_3 (C : CallF) (N : Nat) (s0 : ByteArray) (n1 : Int) (n2 : Int) (b3 : Bool) (l4 : List AVal) (n5 : Int) (sg6 : Sg) (k : Ex → St → R) :
  bitmap_free.R0 C N
   (mkS [(0 : Nat), (2 : Nat), (3 : Nat), (9 : Nat), (10 : Nat)]
   [Slot.v (AVal.at (Value.string s0)) false, Slot.v (AVal.at (Value.int IntKind.i64 n1)) false, Slot.v (AVal.at (Value.int IntKind.i64 n2)) false, Slot.v (AVal.sl b3 (1 : Nat) l4) false,
    Slot.v (AVal.at (Value.int IntKind.i64 n5)) false]
   [none, none, none, none, none] (RVal.sg sg6))
   k =
  if decide (n5 < n1) = true then
   if decide ((↑l4.length : Int) < n2) = true then
   withOut (bif Nat.blt (233 : Nat) (1000000 : Nat) then C (233 : FuncId) [AVal.at (Value.string s0), AVal.at (Value.int IntKind.i64 n5)] [] else none)
    (fun v x =>
    withB (some v) fun (b : Bool) =>
     if (!b) = true then
     bif true && Nat.blt (0 : Nat) (1 : Nat) then
      withO (flatG (sg6 ++ [Box.mk [AVal.at (Value.int IntKind.i64 n5)]]) (1 : Nat) (AVal.gs (List.length sg6) (1 : Nat) (0 : Nat) (1 : Nat))) fun (p : Nat × List AVal) =>
      bif p.fst.beq (0 : Nat) then
       k Ex.normal
       (mkS [(0 : Nat), (2 : Nat), (3 : Nat), (9 : Nat), (10 : Nat)]
        [Slot.v (AVal.at (Value.string s0)) false, Slot.v (AVal.at (Value.int IntKind.i64 n1)) false, Slot.v (AVal.at (Value.int IntKind.i64 n2)) false,
        Slot.v (AVal.sl b3 (1 : Nat) l4) false, Slot.v (AVal.at (Value.int IntKind.i64 (IntKind.i64.wrap (n5 + (1 : Int))))) false]
        [none, none, none, none, none] (RVal.sg (sg6 ++ [Box.mk [AVal.at (Value.int IntKind.i64 n5)]])))
      else
       if p.fst * (8 : Nat) ≤ (35184372088832 : Nat) then
       withO (app1 none (1 : Nat) (8 : Nat) (sg6 ++ [Box.mk [AVal.at (Value.int IntKind.i64 n5)]]) (AVal.sl b3 (1 : Nat) l4) p.fst p.snd) fun (q : AVal × Sg) =>
        k Ex.normal
        (mkS [(0 : Nat), (2 : Nat), (3 : Nat), (9 : Nat), (10 : Nat)]
         [Slot.v (AVal.at (Value.string s0)) false, Slot.v (AVal.at (Value.int IntKind.i64 n1)) false, Slot.v (AVal.at (Value.int IntKind.i64 n2)) false, Slot.v q.fst false,
         Slot.v (AVal.at (Value.int IntKind.i64 (IntKind.i64.wrap (n5 + (1 : Int))))) false]
         [none, none, none, none, none] (RVal.sg q.snd))
       else none
     else none
     else
     k Ex.normal
      (mkS [(0 : Nat), (2 : Nat), (3 : Nat), (9 : Nat), (10 : Nat)]
      [Slot.v (AVal.at (Value.string s0)) false, Slot.v (AVal.at (Value.int IntKind.i64 n1)) false, Slot.v (AVal.at (Value.int IntKind.i64 n2)) false, Slot.v (AVal.sl b3 (1 : Nat) l4) false,
       Slot.v (AVal.at (Value.int IntKind.i64 (IntKind.i64.wrap (n5 + (1 : Int))))) false]
      [none, none, none, none, none] (RVal.sg sg6)))
    fun x x_1 => none
   else k (Ex.exit (0 : Nat)) (mkS [(9 : Nat)] [Slot.v (AVal.sl b3 (1 : Nat) l4) false] [none] (RVal.sg sg6))
  else k (Ex.exit (0 : Nat)) (mkS [(9 : Nat)] [Slot.v (AVal.sl b3 (1 : Nat) l4) false] [none] (RVal.sg sg6)) := by kernel_rfl
theorem bitmap_free.k0_3 (C : CallF) (N : Nat) (b0 : Bool) (l1 : List AVal) (sg2 : Sg) :
  bitmap_free.K0 C N (Ex.exit (0 : Nat)) (mkS [(9 : Nat)] [Slot.v (AVal.sl b0 (1 : Nat) l1) false] [none] (RVal.sg sg2)) =
  some (Out.ret (AVal.sl b0 (1 : Nat) l1) sg2) := by kernel_rfl


/-! 323 wharfage/bitmap.turn$1 -/
theorem bitmap_turn_1.main (C : CallF) (N : Nat) (n0 : Int) (m1 : Nat) (m2 : Nat) (sg3 : Sg) :
  evalF C N bitmap_turn_1.a [AVal.at (Value.int IntKind.i64 n0), AVal.gp m1 (0 : Nat), AVal.gp m2 (0 : Nat)] sg3 =
  withOut (bif Nat.blt (324 : Nat) (1000000 : Nat) then C (324 : FuncId) [AVal.at (Value.int IntKind.i64 n0)] [] else none)
   (fun v x =>
   withB (some v) fun (b : Bool) =>
    if (!b) = false then
    withO (loadC none sg3 (AVal.gp m1 (0 : Nat))) fun p =>
     withS p.fst[p.snd]? fun (s : ByteArray) =>
     withOut (bif Nat.blt (233 : Nat) (1000000 : Nat) then C (233 : FuncId) [AVal.at (Value.string s), AVal.at (Value.int IntKind.i64 n0)] [] else none)
      (fun v x =>
      withB (some v) fun (b : Bool) =>
       withO (loadC none sg3 (AVal.gp m2 (0 : Nat))) fun p => withB p.fst[p.snd]? fun (b_1 : Bool) => some (Out.ret (AVal.at (Value.bool (false ^^ b == b_1))) sg3))
      fun x x_1 => none
    else some (Out.ret (AVal.at (Value.bool true)) sg3))
   fun x x_1 => none := by kernel_rfl


/-! 324 wharfage/bitmap.page -/
theorem bitmap_page.main (C : CallF) (N : Nat) (n0 : Int) (sg1 : Sg) :
  evalF C N bitmap_page.a [AVal.at (Value.int IntKind.i64 n0)] sg1 =
  if decide (n0 ≥ (0 : Int)) = true then some (Out.ret (AVal.at (Value.bool (decide (n0 < (3840 : Int))))) sg1) else some (Out.ret (AVal.at (Value.bool false)) sg1) := by kernel_rfl


/-! 325 wharfage/bitmap.Set -/
theorem bitmap_Set.main (C : CallF) (N : Nat) (s0 : ByteArray) (n1 : Int) (b2 : Bool) (sg3 : Sg) :
  evalF C N bitmap_Set.a [AVal.at (Value.string s0), AVal.at (Value.int IntKind.i64 n1), AVal.at (Value.bool b2)] sg3 =
  withOut (bif Nat.blt (231 : Nat) (1000000 : Nat) then C (231 : FuncId) [AVal.at (Value.string s0)] [] else none)
   (fun v x =>
   withB (some v) fun (b : Bool) =>
    if (!b) = false then
    withOut (bif Nat.blt (324 : Nat) (1000000 : Nat) then C (324 : FuncId) [AVal.at (Value.int IntKind.i64 n1)] [] else none)
     (fun v x =>
     withB (some v) fun (b : Bool) =>
      if (!b) = true then some (Out.ret (AVal.tup [AVal.at (Value.string (ByteArray.mk (#[]))), AVal.at (Value.int IntKind.i64 (18 : Int))]) sg3)
      else
      if (8 : Int) = (0 : Int) then none
      else
       if (0 : Int) ≤ IntKind.i64.wrap (n1.tdiv (8 : Int)) ∧ IntKind.i64.wrap (n1.tdiv (8 : Int)) < (↑s0.size : Int) then
       withI IntKind.u8 (ofBytes s0.data.toList)[(0 : Nat) + (IntKind.i64.wrap (n1.tdiv (8 : Int))).toNat * (1 : Nat)]? fun (n : Int) =>
        if (8 : Int) = (0 : Int) then none
        else
        if n1.tmod (8 : Int) < (0 : Int) then none
        else
         if (0 : Int) ≤ IntKind.i64.wrap (n1.tdiv (8 : Int)) ∧ IntKind.i64.wrap (n1.tdiv (8 : Int)) < (↑s0.size : Int) then
         bif ((0 : Nat) + (IntKind.i64.wrap (n1.tdiv (8 : Int))).toNat * (1 : Nat) + (1 : Nat)).ble (ofBytes s0.data.toList).length then
          bindL
          (splice (ofBytes s0.data.toList) ((0 : Nat) + (IntKind.i64.wrap (n1.tdiv (8 : Int))).toNat * (1 : Nat))
           [AVal.at (Value.int IntKind.u8 (bitsI BinOp.andNot IntKind.u8 n (shiftI BinOp.shl IntKind.u8 (1 : Int) (n1.tmod (8 : Int)))))])
          fun (cs : List AVal) =>
          if b2 = true then
           if (8 : Int) = (0 : Int) then none
           else
           if (0 : Int) ≤ IntKind.i64.wrap (n1.tdiv (8 : Int)) ∧ IntKind.i64.wrap (n1.tdiv (8 : Int)) < (↑s0.size : Int) then
            withI IntKind.u8 cs[(0 : Nat) + (IntKind.i64.wrap (n1.tdiv (8 : Int))).toNat * (1 : Nat)]? fun (n : Int) =>
            if (8 : Int) = (0 : Int) then none
            else
            if n1.tmod (8 : Int) < (0 : Int) then none
            else
            if (0 : Int) ≤ IntKind.i64.wrap (n1.tdiv (8 : Int)) ∧ IntKind.i64.wrap (n1.tdiv (8 : Int)) < (↑s0.size : Int) then
            bif ((0 : Nat) + (IntKind.i64.wrap (n1.tdiv (8 : Int))).toNat * (1 : Nat) + (1 : Nat)).ble cs.length then
            bindL
            (splice cs ((0 : Nat) + (IntKind.i64.wrap (n1.tdiv (8 : Int))).toNat * (1 : Nat))
            [AVal.at (Value.int IntKind.u8 (bitsI BinOp.or IntKind.u8 n (shiftI BinOp.shl IntKind.u8 (1 : Int) (n1.tmod (8 : Int)))))])
            fun (cs : List AVal) =>
            withO (bytesOf (List.take s0.size cs)) fun (bs : List UInt8) =>
            if bs.length = s0.size then some (Out.ret (AVal.tup [AVal.at (Value.string (ByteArray.mk (bs.toArray))), AVal.at (Value.int IntKind.i64 (0 : Int))]) sg3)
            else none
            else none
            else none
           else none
          else
           withO (bytesOf (List.take s0.size cs)) fun (bs : List UInt8) =>
           if bs.length = s0.size then some (Out.ret (AVal.tup [AVal.at (Value.string (ByteArray.mk (bs.toArray))), AVal.at (Value.int IntKind.i64 (0 : Int))]) sg3) else none
         else none
         else none
       else none)
     fun x x_1 => none
    else some (Out.ret (AVal.tup [AVal.at (Value.string (ByteArray.mk (#[]))), AVal.at (Value.int IntKind.i64 (18 : Int))]) sg3))
   fun x x_1 => none := by kernel_rfl


end Go.Abs
