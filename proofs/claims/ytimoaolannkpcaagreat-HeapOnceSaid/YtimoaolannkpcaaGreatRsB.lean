/- THE RESIDUALS: what each function's evaluation comes to, by the kernel. Printed by a program of my own. -/
import Derived.Test.YtimoaolannkpcaaGreatCodeP
import Derived.Test.YtimoaolannkpcaaGreatEngC
import Derived.KernelRfl
set_option linter.unusedVariables false
set_option linter.unusedSimpArgs false
set_option linter.unusedSectionVars false
namespace Go.Abs
set_option maxRecDepth 100000
set_option linter.unusedVariables false
/-! 29 wharfage/pages.Format -/
theorem pages_Format.main (C : CallF) (N : Nat) (m0 : Nat) (n1 : Int) (n2 : Int) (sg3 : Sg) :
  evalF C N pages_Format.a [AVal.gp m0 (0 : Nat), AVal.at (Value.int IntKind.i64 n1), AVal.at (Value.int IntKind.i64 n2)] sg3 =
  withOut (bif Nat.blt (41 : Nat) (1000000 : Nat) then C (41 : FuncId) [AVal.at (Value.int IntKind.i64 n1), AVal.at (Value.int IntKind.i64 n2)] [] else none)
   (fun v x =>
   withT v fun (vs : List AVal) =>
    bif vs.length.beq (2 : Nat) then
    withI IntKind.i64 vs[(0 : Nat)]? fun (n : Int) =>
     withI IntKind.i64 vs[(1 : Nat)]? fun (n_1 : Int) =>
     if (n_1 != (0 : Int)) = false then
      withOut (bif Nat.blt (129 : Nat) (1000000 : Nat) then C (129 : FuncId) [AVal.gp m0 (0 : Nat)] sg3 else none)
      (fun v x =>
       withI IntKind.i64 (some v) fun (n_2 : Int) =>
       if (n_2 != n) = true then some (Out.ret (AVal.tup [AVal.at (Value.pointer none), AVal.at (Value.int IntKind.i64 (18 : Int))]) sg3)
       else
        iter (pages_Format.R0 C N) N
        (mkS [(0 : Nat), (1 : Nat), (2 : Nat), (8 : Nat), (10 : Nat)]
         [Slot.v (AVal.gp m0 (0 : Nat)) false, Slot.v (AVal.at (Value.int IntKind.i64 n1)) false, Slot.v (AVal.at (Value.int IntKind.i64 n2)) false,
         Slot.v (AVal.at (Value.int IntKind.i64 n)) false, Slot.v (AVal.at (Value.int IntKind.i64 (1 : Int))) false]
         [none, none, none, none, none] (RVal.sg sg3))
        (pages_Format.K0 C N))
      fun v x => some (Out.pan v sg3)
     else some (Out.ret (AVal.tup [AVal.at (Value.pointer none), AVal.at (Value.int IntKind.i64 (18 : Int))]) sg3)
    else none)
   fun x x_1 => none := by kernel_rfl
theorem pages_Format.r0 (C : CallF) (N : Nat) (m0 : Nat) (n1 : Int) (n2 : Int) (n3 : Int) (n4 : Int) (sg5 : Sg) (k : Ex → St → R) :
  pages_Format.R0 C N
   (mkS [(0 : Nat), (1 : Nat), (2 : Nat), (8 : Nat), (10 : Nat)]
   [Slot.v (AVal.gp m0 (0 : Nat)) false, Slot.v (AVal.at (Value.int IntKind.i64 n1)) false, Slot.v (AVal.at (Value.int IntKind.i64 n2)) false, Slot.v (AVal.at (Value.int IntKind.i64 n3)) false,
    Slot.v (AVal.at (Value.int IntKind.i64 n4)) false]
   [none, none, none, none, none] (RVal.sg sg5))
   k =
  if decide (n4 < n3) = true then
   withOut (bif Nat.blt (131 : Nat) (1000000 : Nat) then C (131 : FuncId) [] [] else none)
   (fun v x =>
    withS (some v) fun (s : ByteArray) =>
    withOut (bif Nat.blt (130 : Nat) (1000000 : Nat) then C (130 : FuncId) [AVal.gp m0 (0 : Nat), AVal.at (Value.int IntKind.i64 n4), AVal.at (Value.string s)] sg5 else none)
     (fun v sg' =>
     withI IntKind.i64 (some v) fun (n : Int) =>
      if (n != (0 : Int)) = true then
      k Ex.ret (mkS [(6 : Nat), (7 : Nat)] [Slot.v (AVal.at (Value.pointer none)) false, Slot.v (AVal.at (Value.int IntKind.i64 n)) false] [none, none] (RVal.sg sg'))
      else
      k Ex.normal
       (mkS [(0 : Nat), (1 : Nat), (2 : Nat), (8 : Nat), (10 : Nat)]
       [Slot.v (AVal.gp m0 (0 : Nat)) false, Slot.v (AVal.at (Value.int IntKind.i64 n1)) false, Slot.v (AVal.at (Value.int IntKind.i64 n2)) false,
        Slot.v (AVal.at (Value.int IntKind.i64 n3)) false, Slot.v (AVal.at (Value.int IntKind.i64 (IntKind.i64.wrap (n4 + (1 : Int))))) false]
       [none, none, none, none, none] (RVal.sg sg')))
     fun v sg' => some (Out.pan v sg'))
   fun x x_1 => none
  else
   k (Ex.exit (0 : Nat))
   (mkS [(0 : Nat), (1 : Nat), (2 : Nat)] [Slot.v (AVal.gp m0 (0 : Nat)) false, Slot.v (AVal.at (Value.int IntKind.i64 n1)) false, Slot.v (AVal.at (Value.int IntKind.i64 n2)) false]
    [none, none, none] (RVal.sg sg5)) := by kernel_rfl
theorem pages_Format.k0_1 (C : CallF) (N : Nat) (n0 : Int) (sg1 : Sg) :
  pages_Format.K0 C N Ex.ret (mkS [(6 : Nat), (7 : Nat)] [Slot.v (AVal.at (Value.pointer none)) false, Slot.v (AVal.at (Value.int IntKind.i64 n0)) false] [none, none] (RVal.sg sg1)) =
  some (Out.ret (AVal.tup [AVal.at (Value.pointer none), AVal.at (Value.int IntKind.i64 n0)]) sg1) := by kernel_rfl
theorem pages_Format.k0_2 (C : CallF) (N : Nat) (m0 : Nat) (n1 : Int) (n2 : Int) (sg3 : Sg) :
  pages_Format.K0 C N (Ex.exit (0 : Nat))
   (mkS [(0 : Nat), (1 : Nat), (2 : Nat)] [Slot.v (AVal.gp m0 (0 : Nat)) false, Slot.v (AVal.at (Value.int IntKind.i64 n1)) false, Slot.v (AVal.at (Value.int IntKind.i64 n2)) false] [none, none, none]
   (RVal.sg sg3)) =
  withOut (bif Nat.blt (132 : Nat) (1000000 : Nat) then C (132 : FuncId) [AVal.gp m0 (0 : Nat)] sg3 else none)
   (fun v sg' =>
   withI IntKind.i64 (some v) fun (n : Int) =>
    if (n != (0 : Int)) = true then some (Out.ret (AVal.tup [AVal.at (Value.pointer none), AVal.at (Value.int IntKind.i64 n)]) sg')
    else
    withOut (bif Nat.blt (133 : Nat) (1000000 : Nat) then C (133 : FuncId) [AVal.gp m0 (0 : Nat), AVal.at (Value.int IntKind.i64 n1), AVal.at (Value.int IntKind.i64 n2)] sg' else none)
     (fun v sg' =>
     withA (plainA v) fun (a : AVal) =>
      withOut (bif Nat.blt (134 : Nat) (1000000 : Nat) then C (134 : FuncId) [a, ofConst (Value.int IntKind.u64 (1 : Int))] sg' else none)
      (fun (v_1 : AVal) (sg' : Sg) =>
       withI IntKind.i64 (some v_1) fun (n : Int) =>
       if (n != (0 : Int)) = true then some (Out.ret (AVal.tup [AVal.at (Value.pointer none), AVal.at (Value.int IntKind.i64 n)]) sg')
       else withA (jk v) fun (a : AVal) => some (Out.ret (AVal.tup [a, AVal.at (Value.int IntKind.i64 (0 : Int))]) sg'))
      fun v sg' => some (Out.pan v sg'))
     fun v sg' => some (Out.pan v sg'))
   fun v sg' => some (Out.pan v sg') := by kernel_rfl


/-! 31 (*wharfage/pages.Store).Read -/
theorem pages_Store_Read.main (C : CallF) (N : Nat) (m0 : Nat) (n1 : Int) (sg2 : Sg) :
  evalF C N pages_Store_Read.a [AVal.gp m0 (0 : Nat), AVal.at (Value.int IntKind.i64 n1)] sg2 =
  if decide (n1 < (0 : Int)) = false then
   withOut (bif Nat.blt (35 : Nat) (1000000 : Nat) then C (35 : FuncId) [AVal.gp m0 (0 : Nat)] sg2 else none)
   (fun v x =>
    withI IntKind.i64 (some v) fun (n : Int) =>
    if decide (n1 ≥ n) = true then some (Out.ret (AVal.tup [AVal.at (Value.string (ByteArray.mk (#[]))), AVal.at (Value.int IntKind.i64 (18 : Int))]) sg2)
    else
     withO (loadC none sg2 (AVal.gp m0 (2 : Nat))) fun p =>
     withA p.fst[p.snd]? fun (r : AVal) =>
      withO (elemV (1 : Nat) n1 r) fun (r : AVal) =>
      withO (loadC none sg2 r) fun p =>
       withS p.fst[p.snd]? fun (s : ByteArray) => some (Out.ret (AVal.tup [AVal.at (Value.string s), AVal.at (Value.int IntKind.i64 (0 : Int))]) sg2))
   fun v x => some (Out.pan v sg2)
  else some (Out.ret (AVal.tup [AVal.at (Value.string (ByteArray.mk (#[]))), AVal.at (Value.int IntKind.i64 (18 : Int))]) sg2) := by kernel_rfl


/-! 32 (*wharfage/pages.Store).Commit -/
theorem pages_Store_Commit.main (C : CallF) (N : Nat) (m0 : Nat) (a1 : AVal) (sg2 : Sg) :
  evalF C N pages_Store_Commit.a [AVal.gp m0 (0 : Nat), a1] sg2 =
  if (false ^^ false) = false then
   withA (plainA a1) fun (a : AVal) =>
   withOut (bif Nat.blt (139 : Nat) (1000000 : Nat) then C (139 : FuncId) [a] sg2 else none)
    (fun v sg' =>
    withI IntKind.i64 (some v) fun (n : Int) =>
     if (n != (0 : Int)) = false then
     withA (plainA a1) fun (a : AVal) =>
      withOut (bif Nat.blt (140 : Nat) (1000000 : Nat) then C (140 : FuncId) [AVal.gp m0 (0 : Nat), a] sg' else none)
      (fun v sg' =>
       withB (some v) fun (b : Bool) =>
       if (!b) = true then some (Out.ret (AVal.at (Value.int IntKind.i64 (18 : Int))) sg')
       else
        withO (lenV a1) fun (n : Nat) =>
        withO (loadC none sg' (AVal.gp m0 (1 : Nat))) fun p =>
         withI IntKind.i64 p.fst[p.snd]? fun (n_1 : Int) =>
         if decide ((↑n : Int) ≥ n_1) = true then some (Out.ret (AVal.at (Value.int IntKind.i64 (14 : Int))) sg')
         else
          withO (loadC none sg' (AVal.gp m0 (0 : Nat))) fun p =>
          withA p.fst[p.snd]? fun (r : AVal) =>
           withA (plainA r) fun (a : AVal) =>
           withOut (bif Nat.blt (141 : Nat) (1000000 : Nat) then C (141 : FuncId) [a] sg' else none)
            (fun v x =>
            withB (some v) fun (b : Bool) =>
            if b = true then some (Out.ret (AVal.at (Value.int IntKind.i64 (17 : Int))) sg')
            else
            withO (lenV a1) fun (n : Nat) =>
            withOut (bif Nat.blt (36 : Nat) (1000000 : Nat) then C (36 : FuncId) [AVal.gp m0 (0 : Nat)] sg' else none)
            (fun v x =>
            withI IntKind.i64 (some v) fun (n_2 : Int) =>
            if decide ((↑n : Int) ≥ n_2) = true then
            withOut (bif Nat.blt (39 : Nat) (1000000 : Nat) then C (39 : FuncId) [AVal.gp m0 (0 : Nat)] sg' else none)
            (fun v x =>
            withI IntKind.u64 (some v) fun (n : Int) =>
            withOut
            (bif Nat.blt (138 : Nat) (1000000 : Nat) then
            C (138 : FuncId) [AVal.gp m0 (0 : Nat), AVal.at (Value.int IntKind.u64 (IntKind.u64.wrap (n + (1 : Int))))] sg'
            else none)
            (fun v sg' =>
            withI IntKind.i64 (some v) fun (n : Int) =>
            if (n != (0 : Int)) = true then some (Out.ret (AVal.at (Value.int IntKind.i64 n)) sg')
            else
            withO (loadC none sg' (AVal.gp m0 (4 : Nat))) fun p =>
            withA p.fst[p.snd]? fun (r : AVal) =>
            withA (plainA r) fun (a : AVal) =>
            withA (plainA a1) fun (a_1 : AVal) =>
            withOut (bif Nat.blt (142 : Nat) (1000000 : Nat) then C (142 : FuncId) [a, a_1] sg' else none)
            (fun v sg' =>
            withI IntKind.i64 (some v) fun (n : Int) =>
            if (n != (0 : Int)) = true then some (Out.ret (AVal.at (Value.int IntKind.i64 n)) sg')
            else
            withA (plainA a1) fun (a : AVal) =>
            withOut (bif Nat.blt (143 : Nat) (1000000 : Nat) then C (143 : FuncId) [AVal.gp m0 (0 : Nat), a] sg' else none)
            (fun v sg' =>
            withO (loadC none sg' (AVal.gp m0 (5 : Nat))) fun p =>
            withI IntKind.i64 p.fst[p.snd]? fun (n : Int) =>
            withO
            (storeG none sg' (AVal.gp m0 (5 : Nat)) (1 : Nat)
            (AVal.at (Value.int IntKind.i64 (IntKind.i64.wrap (n + (1 : Int))))))
            fun (sg : Sg) => some (Out.ret (AVal.at (Value.int IntKind.i64 (0 : Int))) sg))
            fun v sg' => some (Out.pan v sg'))
            fun v sg' => some (Out.pan v sg'))
            fun v sg' => some (Out.pan v sg'))
            fun v x => some (Out.pan v sg')
            else
            withO (loadC none sg' (AVal.gp m0 (4 : Nat))) fun p =>
            withA p.fst[p.snd]? fun (r : AVal) =>
            withA (plainA r) fun (a : AVal) =>
            withA (plainA a1) fun (a_1 : AVal) =>
            withOut (bif Nat.blt (142 : Nat) (1000000 : Nat) then C (142 : FuncId) [a, a_1] sg' else none)
            (fun v sg' =>
            withI IntKind.i64 (some v) fun (n : Int) =>
            if (n != (0 : Int)) = true then some (Out.ret (AVal.at (Value.int IntKind.i64 n)) sg')
            else
            withA (plainA a1) fun (a : AVal) =>
            withOut (bif Nat.blt (143 : Nat) (1000000 : Nat) then C (143 : FuncId) [AVal.gp m0 (0 : Nat), a] sg' else none)
            (fun v sg' =>
            withO (loadC none sg' (AVal.gp m0 (5 : Nat))) fun p =>
            withI IntKind.i64 p.fst[p.snd]? fun (n : Int) =>
            withO
            (storeG none sg' (AVal.gp m0 (5 : Nat)) (1 : Nat)
            (AVal.at (Value.int IntKind.i64 (IntKind.i64.wrap (n + (1 : Int))))))
            fun (sg : Sg) => some (Out.ret (AVal.at (Value.int IntKind.i64 (0 : Int))) sg))
            fun v sg' => some (Out.pan v sg'))
            fun v sg' => some (Out.pan v sg'))
            fun v x => some (Out.pan v sg'))
            fun v x => some (Out.pan v sg'))
      fun v sg' => some (Out.pan v sg')
     else some (Out.ret (AVal.at (Value.int IntKind.i64 (18 : Int))) sg'))
    fun v sg' => some (Out.pan v sg')
  else some (Out.ret (AVal.at (Value.int IntKind.i64 (18 : Int))) sg2) := by kernel_rfl


/-! 33 (*wharfage/pages.Store).Flush -/
theorem pages_Store_Flush.main (C : CallF) (N : Nat) (m0 : Nat) (sg1 : Sg) :
  evalF C N pages_Store_Flush.a [AVal.gp m0 (0 : Nat)] sg1 =
  withOut (bif Nat.blt (144 : Nat) (1000000 : Nat) then C (144 : FuncId) [AVal.gp m0 (0 : Nat)] sg1 else none)
   (fun v x =>
   withI IntKind.i64 (some v) fun (n : Int) =>
    if (n != (0 : Int)) = false then
    withO (loadC none sg1 (AVal.gp m0 (5 : Nat))) fun p =>
     withI IntKind.i64 p.fst[p.snd]? fun (n_1 : Int) =>
     if (n_1 == (0 : Int)) = true then some (Out.ret (AVal.at (Value.int IntKind.i64 n)) sg1)
     else
      withO (loadC none sg1 (AVal.gp m0 (0 : Nat))) fun p =>
      withA p.fst[p.snd]? fun (r : AVal) =>
       withA (plainA r) fun (a : AVal) =>
       withOut (bif Nat.blt (132 : Nat) (1000000 : Nat) then C (132 : FuncId) [a] sg1 else none)
        (fun v sg' =>
        withI IntKind.i64 (some v) fun (n : Int) =>
         if (n == (0 : Int)) = true then
         withO (storeG none sg' (AVal.gp m0 (5 : Nat)) (1 : Nat) (AVal.at (Value.int IntKind.i64 (0 : Int)))) fun (sg : Sg) => some (Out.ret (AVal.at (Value.int IntKind.i64 n)) sg)
         else some (Out.ret (AVal.at (Value.int IntKind.i64 n)) sg'))
        fun v sg' => some (Out.pan v sg')
    else some (Out.ret (AVal.at (Value.int IntKind.i64 n)) sg1))
   fun v x => some (Out.pan v sg1) := by kernel_rfl


/-! 35 (*wharfage/pages.Store).Pages -/
theorem pages_Store_Pages.main (C : CallF) (N : Nat) (m0 : Nat) (sg1 : Sg) :
  evalF C N pages_Store_Pages.a [AVal.gp m0 (0 : Nat)] sg1 =
  if (false ^^ false) = true then some (Out.ret (AVal.at (Value.int IntKind.i64 (0 : Int))) sg1)
  else
   withO (loadC none sg1 (AVal.gp m0 (2 : Nat))) fun p =>
   withA p.fst[p.snd]? fun (r : AVal) => withO (lenV r) fun (n : Nat) => some (Out.ret (AVal.at (Value.int IntKind.i64 (↑n : Int))) sg1) := by kernel_rfl


/-! 36 (*wharfage/pages.Store).Room -/
theorem pages_Store_Room.main (C : CallF) (N : Nat) (m0 : Nat) (sg1 : Sg) :
  evalF C N pages_Store_Room.a [AVal.gp m0 (0 : Nat)] sg1 =
  if (false ^^ false) = true then some (Out.ret (AVal.at (Value.int IntKind.i64 (0 : Int))) sg1)
  else
   withO (loadC none sg1 (AVal.gp m0 (4 : Nat))) fun p =>
   withA p.fst[p.snd]? fun (r : AVal) =>
    withA (plainA r) fun (a : AVal) =>
    withOut (bif Nat.blt (146 : Nat) (1000000 : Nat) then C (146 : FuncId) [a] sg1 else none)
     (fun v x => withI IntKind.i64 (some v) fun (n : Int) => some (Out.ret (AVal.at (Value.int IntKind.i64 n)) sg1)) fun v x => some (Out.pan v sg1) := by kernel_rfl


/-! 39 (*wharfage/pages.Store).Epoch -/
theorem pages_Store_Epoch.main (C : CallF) (N : Nat) (m0 : Nat) (sg1 : Sg) :
  evalF C N pages_Store_Epoch.a [AVal.gp m0 (0 : Nat)] sg1 =
  if (false ^^ false) = true then some (Out.ret (AVal.at (Value.int IntKind.u64 (0 : Int))) sg1)
  else
   withO (loadC none sg1 (AVal.gp m0 (4 : Nat))) fun p =>
   withA p.fst[p.snd]? fun (r : AVal) =>
    withA (plainA r) fun (a : AVal) =>
    withOut (bif Nat.blt (147 : Nat) (1000000 : Nat) then C (147 : FuncId) [a] sg1 else none)
     (fun v x => withI IntKind.u64 (some v) fun (n : Int) => some (Out.ret (AVal.at (Value.int IntKind.u64 n)) sg1)) fun v x => some (Out.pan v sg1) := by kernel_rfl


/-! 41 wharfage/pages.Size -/
theorem pages_Size.main (C : CallF) (N : Nat) (n0 : Int) (n1 : Int) (sg2 : Sg) :
  evalF C N pages_Size.a [AVal.at (Value.int IntKind.i64 n0), AVal.at (Value.int IntKind.i64 n1)] sg2 =
  withOut (bif Nat.blt (148 : Nat) (1000000 : Nat) then C (148 : FuncId) [AVal.at (Value.int IntKind.i64 n0), AVal.at (Value.int IntKind.i64 n1)] [] else none)
   (fun v x =>
   withB (some v) fun (b : Bool) =>
    if (!b) = true then some (Out.ret (AVal.tup [AVal.at (Value.int IntKind.i64 (0 : Int)), AVal.at (Value.int IntKind.i64 (18 : Int))]) sg2)
    else some (Out.ret (AVal.tup [AVal.at (Value.int IntKind.i64 (IntKind.i64.wrap (IntKind.i64.wrap ((1 : Int) + n1) + n0))), AVal.at (Value.int IntKind.i64 (0 : Int))]) sg2))
   fun x x_1 => none := by kernel_rfl


/-! 133 wharfage/pages.held -/
theorem pages_held.main (C : CallF) (N : Nat) (m0 : Nat) (n1 : Int) (n2 : Int) (sg3 : Sg) :
  evalF C N pages_held.a [AVal.gp m0 (0 : Nat), AVal.at (Value.int IntKind.i64 n1), AVal.at (Value.int IntKind.i64 n2)] sg3 =
  withOut (bif Nat.blt (126 : Nat) (1000000 : Nat) then C (126 : FuncId) [ofConst (Value.string (ByteArray.mk (#[]))), ofConst (Value.int IntKind.i64 (480 : Int))] [] else none)
   (fun v x =>
   withS (some v) fun (s : ByteArray) =>
    bif true && Nat.blt (0 : Nat) (1 : Nat) then
    withOut
     (bif Nat.blt (149 : Nat) (1000000 : Nat) then
     C (149 : FuncId) [AVal.gs (List.length sg3) (1 : Nat) (0 : Nat) (1 : Nat), AVal.at (Value.int IntKind.i64 n1)] (sg3 ++ [Box.mk [AVal.at (Value.string s)]])
     else none)
     (fun v sg' =>
     withA (plainA v) fun (a : AVal) =>
      bif a.cells.length.beq (1 : Nat) then
      bindL
       (AVal.gp m0 (0 : Nat) ::
       AVal.at (Value.int IntKind.i64 n2) ::
        (List.take._f (1 : Nat) ⟨fun (x : List AVal) => [], PUnit.unit⟩
         (List.append._f [] PUnit.unit
         (a.cells ++
          List.drop ((2 : Nat) + a.cells.length)
          [AVal.gp m0 (0 : Nat), AVal.at (Value.int IntKind.i64 n2), AVal.sl true (1 : Nat) [], AVal.at (Value.map none), AVal.at (Value.pointer none),
           AVal.at (Value.int IntKind.i64 (0 : Int))])) ++
        AVal.gm (List.length sg') ::
         List.drop (4 : Nat)
         (AVal.gp m0 (0 : Nat) ::
          AVal.at (Value.int IntKind.i64 n2) ::
          (a.cells ++
           List.drop ((2 : Nat) + a.cells.length)
           [AVal.gp m0 (0 : Nat), AVal.at (Value.int IntKind.i64 n2), AVal.sl true (1 : Nat) [], AVal.at (Value.map none), AVal.at (Value.pointer none),
            AVal.at (Value.int IntKind.i64 (0 : Int))]))))
       fun (cs : List AVal) => some (Out.ret (AVal.gp (List.length (sg' ++ [Box.map []])) (0 : Nat)) (sg' ++ [Box.map []] ++ [Box.mk (AVal.agg cs).cells]))
      else none)
     fun v sg' => some (Out.pan v sg')
    else none)
   fun x x_1 => none := by kernel_rfl


/-! 134 (*wharfage/pages.Store).write -/
theorem pages_Store_write.main (C : CallF) (N : Nat) (m0 : Nat) (n1 : Int) (sg2 : Sg) :
  evalF C N pages_Store_write.a [AVal.gp m0 (0 : Nat), AVal.at (Value.int IntKind.u64 n1)] sg2 =
  withO (loadC none sg2 (AVal.gp m0 (2 : Nat))) fun p =>
   withA p.fst[p.snd]? fun (r : AVal) =>
   withO (lenV r) fun (n : Nat) =>
    withO (loadC none sg2 (AVal.gp m0 (1 : Nat))) fun p =>
    withI IntKind.i64 p.fst[p.snd]? fun (n_1 : Int) =>
     withOut
     (bif Nat.blt (237 : Nat) (1000000 : Nat) then C (237 : FuncId) [AVal.at (Value.int IntKind.i64 (↑n : Int)), AVal.at (Value.int IntKind.i64 n_1), AVal.at (Value.int IntKind.u64 n1)] []
     else none)
     (fun v x =>
      withT v fun (vs : List AVal) =>
      bif vs.length.beq (2 : Nat) then
       withS vs[(0 : Nat)]? fun (s : ByteArray) =>
       withI IntKind.i64 vs[(1 : Nat)]? fun (n : Int) =>
        if (n != (0 : Int)) = true then some (Out.ret (AVal.at (Value.int IntKind.i64 n)) sg2)
        else
        withO (loadC none sg2 (AVal.gp m0 (0 : Nat))) fun p =>
         withA p.fst[p.snd]? fun (r : AVal) =>
         withA (plainA r) fun (a : AVal) =>
          withOut (bif Nat.blt (130 : Nat) (1000000 : Nat) then C (130 : FuncId) [a, ofConst (Value.int IntKind.i64 (0 : Int)), AVal.at (Value.string s)] sg2 else none)
          (fun v sg' =>
           withI IntKind.i64 (some v) fun (n : Int) =>
           if (n != (0 : Int)) = true then some (Out.ret (AVal.at (Value.int IntKind.i64 n)) sg')
           else
            withO (loadC none sg' (AVal.gp m0 (0 : Nat))) fun p =>
            withA p.fst[p.snd]? fun (r : AVal) =>
            withA (plainA r) fun (a : AVal) =>
            withOut (bif Nat.blt (132 : Nat) (1000000 : Nat) then C (132 : FuncId) [a] sg' else none)
            (fun v sg' =>
            withI IntKind.i64 (some v) fun (n : Int) =>
            if (n != (0 : Int)) = true then some (Out.ret (AVal.at (Value.int IntKind.i64 n)) sg')
            else
            withO (loadC none sg' (AVal.gp m0 (0 : Nat))) fun p =>
            withA p.fst[p.snd]? fun (r : AVal) =>
            withO (loadC none sg' (AVal.gp m0 (1 : Nat))) fun p =>
            withI IntKind.i64 p.fst[p.snd]? fun (n : Int) =>
            withA (plainA r) fun (a : AVal) =>
            withOut
            (bif Nat.blt (238 : Nat) (1000000 : Nat) then
            C (238 : FuncId) [a, AVal.at (Value.int IntKind.i64 n), AVal.at (Value.int IntKind.u64 n1)] sg'
            else none)
            (fun v sg' =>
            withT v fun (vs : List AVal) =>
            bif vs.length.beq (2 : Nat) then
            withA vs[(0 : Nat)]? fun (a : AVal) =>
            withI IntKind.i64 vs[(1 : Nat)]? fun (n : Int) =>
            withA (plainA a) fun (v : AVal) =>
            withO (storeG none sg' (AVal.gp m0 (4 : Nat)) (1 : Nat) v) fun (sg : Sg) =>
            some (Out.ret (AVal.at (Value.int IntKind.i64 n)) sg)
            else none)
            fun v sg' => none)
            fun v sg' => some (Out.pan v sg'))
          fun v sg' => some (Out.pan v sg')
      else none)
     fun x x_1 => none := by kernel_rfl


/-! 138 (*wharfage/pages.Store).checkpoint -/
theorem pages_Store_checkpoint.main (C : CallF) (N : Nat) (m0 : Nat) (n1 : Int) (sg2 : Sg) :
  evalF C N pages_Store_checkpoint.a [AVal.gp m0 (0 : Nat), AVal.at (Value.int IntKind.u64 n1)] sg2 =
  withO (loadC none sg2 (AVal.gp m0 (0 : Nat))) fun p =>
   withA p.fst[p.snd]? fun (r : AVal) =>
   withA (plainA r) fun (a : AVal) =>
    withOut (bif Nat.blt (132 : Nat) (1000000 : Nat) then C (132 : FuncId) [a] sg2 else none)
    (fun v sg' =>
     withI IntKind.i64 (some v) fun (n : Int) =>
     if (n != (0 : Int)) = true then some (Out.ret (AVal.at (Value.int IntKind.i64 n)) sg')
     else
      withO (loadC none sg' (AVal.gp m0 (3 : Nat))) fun p =>
      withA p.fst[p.snd]? fun (r : AVal) =>
       withA (plainA r) fun (a : AVal) =>
       withOut (bif Nat.blt (244 : Nat) (1000000 : Nat) then C (244 : FuncId) [a] sg' else none)
        (fun v sg' =>
        withA (plainA v) fun (a : AVal) =>
         withOut (bif Nat.blt (226 : Nat) (1000000 : Nat) then C (226 : FuncId) [a] sg' else none)
         (fun v sg' =>
          withO (lenV v) fun (n : Nat) =>
          iter (pages_Store_checkpoint.R0 C N) N
           (mkS [(0 : Nat), (1 : Nat), (26 : Nat), (27 : Nat), (28 : Nat)]
           [Slot.v (AVal.gp m0 (0 : Nat)) false, Slot.v (AVal.at (Value.int IntKind.u64 n1)) false, Slot.v v false, Slot.v (AVal.at (Value.int IntKind.i64 (↑n : Int))) false,
            Slot.v (AVal.at (Value.int IntKind.i64 (0 : Int))) false]
           [none, none, none, none, none] (RVal.sg sg'))
           (pages_Store_checkpoint.K0 C N))
         fun v sg' => some (Out.pan v sg'))
        fun v sg' => some (Out.pan v sg'))
    fun v sg' => some (Out.pan v sg') := by kernel_rfl
theorem pages_Store_checkpoint.r0 (C : CallF) (N : Nat) (m0 : Nat) (n1 : Int) (a2 : AVal) (n3 : Int) (n4 : Int) (sg5 : Sg) (k : Ex → St → R) :
  pages_Store_checkpoint.R0 C N
   (mkS [(0 : Nat), (1 : Nat), (26 : Nat), (27 : Nat), (28 : Nat)]
   [Slot.v (AVal.gp m0 (0 : Nat)) false, Slot.v (AVal.at (Value.int IntKind.u64 n1)) false, Slot.v a2 false, Slot.v (AVal.at (Value.int IntKind.i64 n3)) false,
    Slot.v (AVal.at (Value.int IntKind.i64 n4)) false]
   [none, none, none, none, none] (RVal.sg sg5))
   k =
  if decide (n4 < n3) = true then
   withO (elemV (1 : Nat) n4 a2) fun (r : AVal) =>
   withO (loadC none sg5 r) fun p =>
    withI IntKind.i64 p.fst[p.snd]? fun (n : Int) =>
    withO (loadC none sg5 (AVal.gp m0 (2 : Nat))) fun p =>
     withA p.fst[p.snd]? fun (r : AVal) =>
     withO (elemV (1 : Nat) n r) fun (r : AVal) =>
      withO (loadC none sg5 r) fun p =>
      withS p.fst[p.snd]? fun (s : ByteArray) =>
       withOut (bif Nat.blt (245 : Nat) (1000000 : Nat) then C (245 : FuncId) [AVal.at (Value.int IntKind.i64 n), AVal.at (Value.string s)] [] else none)
       (fun v x =>
        withT v fun (vs : List AVal) =>
        bif vs.length.beq (2 : Nat) then
         withS vs[(0 : Nat)]? fun (s : ByteArray) =>
         withI IntKind.i64 vs[(1 : Nat)]? fun (n_1 : Int) =>
          if (n_1 != (0 : Int)) = true then k Ex.ret (mkS [(4 : Nat)] [Slot.v (AVal.at (Value.int IntKind.i64 n_1)) false] [none] (RVal.sg sg5))
          else
          withO (loadC none sg5 (AVal.gp m0 (0 : Nat))) fun p =>
           withA p.fst[p.snd]? fun (r : AVal) =>
           withOut (bif Nat.blt (241 : Nat) (1000000 : Nat) then C (241 : FuncId) [AVal.gp m0 (0 : Nat), AVal.at (Value.int IntKind.i64 n)] sg5 else none)
            (fun v x =>
            withI IntKind.i64 (some v) fun (n : Int) =>
            withA (plainA r) fun (a : AVal) =>
            withOut (bif Nat.blt (130 : Nat) (1000000 : Nat) then C (130 : FuncId) [a, AVal.at (Value.int IntKind.i64 n), AVal.at (Value.string s)] sg5 else none)
            (fun v sg' =>
            withI IntKind.i64 (some v) fun (n : Int) =>
            if (n != (0 : Int)) = true then k Ex.ret (mkS [(4 : Nat)] [Slot.v (AVal.at (Value.int IntKind.i64 n)) false] [none] (RVal.sg sg'))
            else
            k Ex.normal
            (mkS [(0 : Nat), (1 : Nat), (26 : Nat), (27 : Nat), (28 : Nat)]
            [Slot.v (AVal.gp m0 (0 : Nat)) false, Slot.v (AVal.at (Value.int IntKind.u64 n1)) false, Slot.v a2 false,
            Slot.v (AVal.at (Value.int IntKind.i64 n3)) false, Slot.v (AVal.at (Value.int IntKind.i64 (IntKind.i64.wrap (n4 + (1 : Int))))) false]
            [none, none, none, none, none] (RVal.sg sg')))
            fun v sg' => none)
            fun v x => none
        else none)
       fun x x_1 => none
  else k (Ex.exit (0 : Nat)) (mkS [(0 : Nat), (1 : Nat)] [Slot.v (AVal.gp m0 (0 : Nat)) false, Slot.v (AVal.at (Value.int IntKind.u64 n1)) false] [none, none] (RVal.sg sg5)) := by kernel_rfl
theorem pages_Store_checkpoint.k0_1 (C : CallF) (N : Nat) (n0 : Int) (sg1 : Sg) :
  pages_Store_checkpoint.K0 C N Ex.ret (mkS [(4 : Nat)] [Slot.v (AVal.at (Value.int IntKind.i64 n0)) false] [none] (RVal.sg sg1)) =
  some (Out.ret (AVal.at (Value.int IntKind.i64 n0)) sg1) := by kernel_rfl
theorem pages_Store_checkpoint.k0_2 (C : CallF) (N : Nat) (m0 : Nat) (n1 : Int) (sg2 : Sg) :
  pages_Store_checkpoint.K0 C N (Ex.exit (0 : Nat)) (mkS [(0 : Nat), (1 : Nat)] [Slot.v (AVal.gp m0 (0 : Nat)) false, Slot.v (AVal.at (Value.int IntKind.u64 n1)) false] [none, none] (RVal.sg sg2)) =
  withO (loadC none sg2 (AVal.gp m0 (0 : Nat))) fun p =>
   withA p.fst[p.snd]? fun (r : AVal) =>
   withA (plainA r) fun (a : AVal) =>
    withOut (bif Nat.blt (132 : Nat) (1000000 : Nat) then C (132 : FuncId) [a] sg2 else none)
    (fun v sg' =>
     withI IntKind.i64 (some v) fun (n : Int) =>
     if (n != (0 : Int)) = true then some (Out.ret (AVal.at (Value.int IntKind.i64 n)) sg')
     else
      withOut (bif Nat.blt (134 : Nat) (1000000 : Nat) then C (134 : FuncId) [AVal.gp m0 (0 : Nat), AVal.at (Value.int IntKind.u64 n1)] sg' else none)
      (fun v sg' =>
       withI IntKind.i64 (some v) fun (n : Int) =>
       if (n != (0 : Int)) = true then some (Out.ret (AVal.at (Value.int IntKind.i64 n)) sg')
       else
        withO (loadC none sg' (AVal.gp m0 (3 : Nat))) fun p =>
        withA p.fst[p.snd]? fun (r : AVal) =>
         withA (plainA r) fun (m : AVal) =>
         withO (mapV sg' m) fun (p : Nat × List (AVal × AVal)) =>
          withO (storeG none (List.set sg' p.fst (Box.map [])) (AVal.gp m0 (5 : Nat)) (1 : Nat) (AVal.at (Value.int IntKind.i64 (0 : Int)))) fun (sg : Sg) =>
          some (Out.ret (AVal.at (Value.int IntKind.i64 (0 : Int))) sg))
      fun v sg' => some (Out.pan v sg'))
    fun v sg' => some (Out.pan v sg') := by kernel_rfl


/-! 140 (*wharfage/pages.Store).has -/
theorem pages_Store_has.main (C : CallF) (N : Nat) (m0 : Nat) (a1 : AVal) (sg2 : Sg) :
  evalF C N pages_Store_has.a [AVal.gp m0 (0 : Nat), a1] sg2 =
  withA (plainA a1) fun (a : AVal) =>
   withOut (bif Nat.blt (247 : Nat) (1000000 : Nat) then C (247 : FuncId) [a, AVal.clo (248 : Nat) [] [AVal.gp (List.length sg2) (0 : Nat)]] (sg2 ++ [Box.mk [AVal.gp m0 (0 : Nat)]]) else none)
   (fun v sg' => withB (some v) fun (b : Bool) => some (Out.ret (AVal.at (Value.bool !b)) sg')) fun v sg' => some (Out.pan v sg') := by kernel_rfl


/-! 143 (*wharfage/pages.Store).change -/
theorem pages_Store_change.main (C : CallF) (N : Nat) (m0 : Nat) (a1 : AVal) (sg2 : Sg) :
  evalF C N pages_Store_change.a [AVal.gp m0 (0 : Nat), a1] sg2 =
  withO (lenV a1) fun (n : Nat) =>
   iter (pages_Store_change.R0 C N) N
   (mkS [(0 : Nat), (6 : Nat), (7 : Nat), (8 : Nat)]
    [Slot.v (AVal.gp m0 (0 : Nat)) false, Slot.v a1 false, Slot.v (AVal.at (Value.int IntKind.i64 (↑n : Int))) false, Slot.v (AVal.at (Value.int IntKind.i64 (0 : Int))) false]
    [none, none, none, none] (RVal.sg sg2))
   (pages_Store_change.K0 C N) := by kernel_rfl
theorem pages_Store_change.r0 (C : CallF) (N : Nat) (m0 : Nat) (a1 : AVal) (n2 : Int) (n3 : Int) (sg4 : Sg) (k : Ex → St → R) :
  pages_Store_change.R0 C N
   (mkS [(0 : Nat), (6 : Nat), (7 : Nat), (8 : Nat)]
   [Slot.v (AVal.gp m0 (0 : Nat)) false, Slot.v a1 false, Slot.v (AVal.at (Value.int IntKind.i64 n2)) false, Slot.v (AVal.at (Value.int IntKind.i64 n3)) false] [none, none, none, none] (RVal.sg sg4))
   k =
  if decide (n3 < n2) = true then
   withO (elemV (2 : Nat) n3 a1) fun (r : AVal) =>
   withO (loadC none sg4 r) fun p =>
    bif (p.snd + (2 : Nat)).ble p.fst.length then
    bindL (List.take (2 : Nat) (List.drop p.snd p.fst)) fun (l : List AVal) =>
     bif (AVal.agg l).cells.length.beq (2 : Nat) then
     bindL (splice [AVal.at (Value.int IntKind.i64 (0 : Int)), AVal.at (Value.string (ByteArray.mk (#[])))] (0 : Nat) (AVal.agg l).cells) fun (cs : List AVal) =>
      withO (loadC none sg4 (AVal.gp m0 (2 : Nat))) fun p =>
      withA p.fst[p.snd]? fun (r : AVal) =>
       withI IntKind.i64 cs[(0 : Nat)]? fun (n : Int) =>
       withS cs[(1 : Nat)]? fun (s : ByteArray) =>
        withO (elemV (1 : Nat) n r) fun (r : AVal) =>
        withO (storeG none sg4 r (1 : Nat) (AVal.at (Value.string s))) fun (sg : Sg) =>
         withO (loadC none sg (AVal.gp m0 (3 : Nat))) fun p =>
         withA p.fst[p.snd]? fun (r : AVal) =>
          withI IntKind.i64 cs[(0 : Nat)]? fun (n : Int) =>
          withA (plainA r) fun (m : AVal) =>
           withO (mapV sg m) fun (p : Nat × List (AVal × AVal)) =>
           withO (mSet (AVal.at (Value.int IntKind.i64 n)) (AVal.at (Value.bool true)) p.snd) fun (es : List (AVal × AVal)) =>
            k Ex.normal
            (mkS [(0 : Nat), (6 : Nat), (7 : Nat), (8 : Nat)]
            [Slot.v (AVal.gp m0 (0 : Nat)) false, Slot.v a1 false, Slot.v (AVal.at (Value.int IntKind.i64 n2)) false,
            Slot.v (AVal.at (Value.int IntKind.i64 (IntKind.i64.wrap (n3 + (1 : Int))))) false]
            [none, none, none, none] (RVal.sg (List.set sg p.fst (Box.map es))))
     else none
    else none
  else k (Ex.exit (0 : Nat)) (mkS [] [] [] (RVal.sg sg4)) := by kernel_rfl
theorem pages_Store_change.k0_1 (C : CallF) (N : Nat) (sg0 : Sg) :
  pages_Store_change.K0 C N (Ex.exit (0 : Nat)) (mkS [] [] [] (RVal.sg sg0)) =
  some (Out.ret (AVal.tup []) sg0) := by kernel_rfl


/-! 144 (*wharfage/pages.Store).may -/
theorem pages_Store_may.main (C : CallF) (N : Nat) (m0 : Nat) (sg1 : Sg) :
  evalF C N pages_Store_may.a [AVal.gp m0 (0 : Nat)] sg1 =
  if (false ^^ false) = true then some (Out.ret (AVal.at (Value.int IntKind.i64 (18 : Int))) sg1)
  else
   withO (loadC none sg1 (AVal.gp m0 (0 : Nat))) fun p =>
   withA p.fst[p.snd]? fun (r : AVal) =>
    withA (plainA r) fun (a : AVal) =>
    withOut (bif Nat.blt (141 : Nat) (1000000 : Nat) then C (141 : FuncId) [a] sg1 else none)
     (fun v x =>
     withB (some v) fun (b : Bool) => if b = true then some (Out.ret (AVal.at (Value.int IntKind.i64 (17 : Int))) sg1) else some (Out.ret (AVal.at (Value.int IntKind.i64 (0 : Int))) sg1))
     fun v x => some (Out.pan v sg1) := by kernel_rfl


/-! 148 wharfage/pages.sizes -/
theorem pages_sizes.main (C : CallF) (N : Nat) (n0 : Int) (n1 : Int) (sg2 : Sg) :
  evalF C N pages_sizes.a [AVal.at (Value.int IntKind.i64 n0), AVal.at (Value.int IntKind.i64 n1)] sg2 =
  if decide (n0 ≥ (8 : Int)) = true then
   if decide (n0 ≤ (3840 : Int)) = true then
   if decide (n1 ≥ (4 : Int)) = true then some (Out.ret (AVal.at (Value.bool (decide (n1 ≤ (1024 : Int))))) sg2) else some (Out.ret (AVal.at (Value.bool false)) sg2)
   else some (Out.ret (AVal.at (Value.bool false)) sg2)
  else some (Out.ret (AVal.at (Value.bool false)) sg2) := by kernel_rfl


/-! 149 slices.Repeat[[]string,string] -/
theorem slices_Repeat_string_string.main (C : CallF) (N : Nat) (a0 : AVal) (n1 : Int) (sg2 : Sg) :
  evalF C N slices_Repeat_string_string.a [a0, AVal.at (Value.int IntKind.i64 n1)] sg2 =
  if decide (n1 < (0 : Int)) = true then
   some
   (Out.pan
    (AVal.ifc (9 : Nat)
    (AVal.at
     (Value.string
     (ByteArray.mk (#[(99 : UInt8), (97 : UInt8), (110 : UInt8), (110 : UInt8), (111 : UInt8), (116 : UInt8), (32 : UInt8), (98 : UInt8), (101 : UInt8), (32 : UInt8), (110 : UInt8), (101 : UInt8),
       (103 : UInt8), (97 : UInt8), (116 : UInt8), (105 : UInt8), (118 : UInt8), (101 : UInt8)])))))
    sg2)
  else
   withO (lenV a0) fun (n : Nat) =>
   withOut
    (bif Nat.blt (250 : Nat) (1000000 : Nat) then C (250 : FuncId) [AVal.at (Value.int IntKind.u64 (IntKind.u64.wrap (↑n : Int))), AVal.at (Value.int IntKind.u64 (IntKind.u64.wrap n1))] []
    else none)
    (fun v x =>
    withT v fun (vs : List AVal) =>
     bif vs.length.beq (2 : Nat) then
     withI IntKind.u64 vs[(0 : Nat)]? fun (n : Int) =>
      withI IntKind.u64 vs[(1 : Nat)]? fun (n_1 : Int) =>
      if decide (n > (0 : Int)) = false then
       if decide (n_1 > (9223372036854775807 : Int)) = true then
       some
        (Out.pan
        (AVal.ifc (9 : Nat)
         (AVal.at
         (Value.string
          (ByteArray.mk (#[(116 : UInt8), (104 : UInt8), (101 : UInt8), (32 : UInt8), (114 : UInt8), (101 : UInt8), (115 : UInt8), (117 : UInt8), (108 : UInt8), (116 : UInt8), (32 : UInt8),
           (111 : UInt8), (102 : UInt8), (32 : UInt8), (40 : UInt8), (108 : UInt8), (101 : UInt8), (110 : UInt8), (40 : UInt8), (120 : UInt8), (41 : UInt8), (32 : UInt8),
           (42 : UInt8), (32 : UInt8), (99 : UInt8), (111 : UInt8), (117 : UInt8), (110 : UInt8), (116 : UInt8), (41 : UInt8), (32 : UInt8), (111 : UInt8), (118 : UInt8),
           (101 : UInt8), (114 : UInt8), (102 : UInt8), (108 : UInt8), (111 : UInt8), (119 : UInt8), (115 : UInt8)])))))
        sg2)
       else
       if (0 : Int) < IntKind.i64.wrap n_1 ∧ IntKind.i64.wrap n_1 ≤ IntKind.i64.wrap n_1 ∧ IntKind.i64.wrap n_1 * (↑(16 : Nat) : Int) ≤ (35184372088832 : Int) then
        withA (plainA a0) fun (b : AVal) =>
        withO (flatG (sg2 ++ [Box.mk (List.replicate (IntKind.i64.wrap n_1).toNat [AVal.at (Value.string (ByteArray.mk (#[])))]).flatten]) (1 : Nat) b) fun (p : Nat × List AVal) =>
         withO
         (copyV (1 : Nat) (sg2 ++ [Box.mk (List.replicate (IntKind.i64.wrap n_1).toNat [AVal.at (Value.string (ByteArray.mk (#[])))]).flatten])
          (AVal.gs (List.length sg2) (1 : Nat) (0 : Nat) (IntKind.i64.wrap n_1).toNat) p.fst p.snd)
         fun (q : Nat × Sg) =>
         iter (slices_Repeat_string_string.R0 C N) N
          (mkS [(7 : Nat), (8 : Nat)]
          [Slot.v (AVal.gs (List.length sg2) (1 : Nat) (0 : Nat) (IntKind.i64.wrap n_1).toNat) false, Slot.v (AVal.at (Value.int IntKind.i64 (↑q.fst : Int))) false] [none, none]
          (RVal.sg q.snd))
          (slices_Repeat_string_string.K0 C N)
       else none
      else
       some
       (Out.pan
        (AVal.ifc (9 : Nat)
        (AVal.at
         (Value.string
         (ByteArray.mk (#[(116 : UInt8), (104 : UInt8), (101 : UInt8), (32 : UInt8), (114 : UInt8), (101 : UInt8), (115 : UInt8), (117 : UInt8), (108 : UInt8), (116 : UInt8), (32 : UInt8),
           (111 : UInt8), (102 : UInt8), (32 : UInt8), (40 : UInt8), (108 : UInt8), (101 : UInt8), (110 : UInt8), (40 : UInt8), (120 : UInt8), (41 : UInt8), (32 : UInt8),
           (42 : UInt8), (32 : UInt8), (99 : UInt8), (111 : UInt8), (117 : UInt8), (110 : UInt8), (116 : UInt8), (41 : UInt8), (32 : UInt8), (111 : UInt8), (118 : UInt8),
           (101 : UInt8), (114 : UInt8), (102 : UInt8), (108 : UInt8), (111 : UInt8), (119 : UInt8), (115 : UInt8)])))))
        sg2)
     else none)
    fun x x_1 => none := by kernel_rfl
theorem slices_Repeat_string_string.r0 (C : CallF) (N : Nat) (m0 : Nat) (m1 : Nat) (n2 : Int) (sg3 : Sg) (k : Ex → St → R) :
  slices_Repeat_string_string.R0 C N (mkS [(7 : Nat), (8 : Nat)] [Slot.v (AVal.gs m0 (1 : Nat) (0 : Nat) m1) false, Slot.v (AVal.at (Value.int IntKind.i64 n2)) false] [none, none] (RVal.sg sg3)) k =
  if decide (n2 < (↑m1 : Int)) = true then
   if (0 : Int) ≤ n2 ∧ n2 ≤ (↑m1 : Int) ∧ (↑m1 : Int) ≤ (↑m1 : Int) then
   withO (cutV (AVal.gs m0 (1 : Nat) (0 : Nat) m1) n2.toNat (↑m1 : Int).toNat) fun (r : AVal) =>
    if (0 : Int) ≤ (0 : Int) ∧ (0 : Int) ≤ n2 ∧ n2 ≤ (↑m1 : Int) then
    withO (cutV (AVal.gs m0 (1 : Nat) (0 : Nat) m1) (Int.toNat (0 : Int)) n2.toNat) fun (r_1 : AVal) =>
     withA (plainA r_1) fun (b : AVal) =>
     withO (flatG sg3 (1 : Nat) b) fun (p : Nat × List AVal) =>
      withA (plainA r) fun (a : AVal) =>
      withO (copyV (1 : Nat) sg3 a p.fst p.snd) fun (q : Nat × Sg) =>
       k Ex.normal
       (mkS [(7 : Nat), (8 : Nat)] [Slot.v (AVal.gs m0 (1 : Nat) (0 : Nat) m1) false, Slot.v (AVal.at (Value.int IntKind.i64 (IntKind.i64.wrap (n2 + (↑q.fst : Int))))) false] [none, none]
        (RVal.sg q.snd))
    else none
   else none
  else k (Ex.exit (0 : Nat)) (mkS [(7 : Nat)] [Slot.v (AVal.gs m0 (1 : Nat) (0 : Nat) m1) false] [none] (RVal.sg sg3)) := by kernel_rfl
theorem slices_Repeat_string_string.k0_1 (C : CallF) (N : Nat) (m0 : Nat) (m1 : Nat) (sg2 : Sg) :
  slices_Repeat_string_string.K0 C N (Ex.exit (0 : Nat)) (mkS [(7 : Nat)] [Slot.v (AVal.gs m0 (1 : Nat) (0 : Nat) m1) false] [none] (RVal.sg sg2)) =
  some (Out.ret (AVal.gs m0 (1 : Nat) (0 : Nat) m1) sg2) := by kernel_rfl


/-! 237 wharfage/pages.head -/
theorem pages_head.main (C : CallF) (N : Nat) (n0 : Int) (n1 : Int) (n2 : Int) (sg3 : Sg) :
  evalF C N pages_head.a [AVal.at (Value.int IntKind.i64 n0), AVal.at (Value.int IntKind.i64 n1), AVal.at (Value.int IntKind.u64 n2)] sg3 =
  withOut (bif Nat.blt (126 : Nat) (1000000 : Nat) then C (126 : FuncId) [ofConst (Value.string (ByteArray.mk (#[]))), ofConst (Value.int IntKind.i64 (480 : Int))] [] else none)
   (fun v x =>
   withS (some v) fun (s : ByteArray) =>
    withOut
    (bif Nat.blt (328 : Nat) (1000000 : Nat) then
     C (328 : FuncId)
     [AVal.agg
      [AVal.at (Value.int IntKind.i64 (1 : Int)), AVal.at (Value.int IntKind.u64 n2), AVal.at (Value.int IntKind.u64 (0 : Int)), AVal.at (Value.int IntKind.i64 n0),
       AVal.at (Value.int IntKind.i64 n1), AVal.at (Value.string s)]]
     []
    else none)
    (fun v x =>
     withT v fun (vs : List AVal) =>
     bif vs.length.beq (2 : Nat) then
      withS vs[(0 : Nat)]? fun (s : ByteArray) => withI IntKind.i64 vs[(1 : Nat)]? fun (n : Int) => some (Out.ret (AVal.tup [AVal.at (Value.string s), AVal.at (Value.int IntKind.i64 n)]) sg3)
     else none)
    fun x x_1 => none)
   fun x x_1 => none := by kernel_rfl


/-! 241 (*wharfage/pages.Store).home -/
theorem pages_Store_home.main (C : CallF) (N : Nat) (m0 : Nat) (n1 : Int) (sg2 : Sg) :
  evalF C N pages_Store_home.a [AVal.gp m0 (0 : Nat), AVal.at (Value.int IntKind.i64 n1)] sg2 =
  withO (loadC none sg2 (AVal.gp m0 (1 : Nat))) fun p =>
   withI IntKind.i64 p.fst[p.snd]? fun (n : Int) => some (Out.ret (AVal.at (Value.int IntKind.i64 (IntKind.i64.wrap (IntKind.i64.wrap ((1 : Int) + n) + n1)))) sg2) := by kernel_rfl


/-! 244 maps.Keys[map[int]bool,int,bool] -/
theorem maps_Keys_map_intbool_int_bool.main (C : CallF) (N : Nat) (a0 : AVal) (sg1 : Sg) :
  evalF C N maps_Keys_map_intbool_int_bool.a [a0] sg1 =
  withA (plainA a0) fun (a : AVal) => some (Out.ret (AVal.clo (331 : Nat) [] [AVal.gp (List.length sg1) (0 : Nat)]) (sg1 ++ [Box.mk a.cells])) := by kernel_rfl


/-! 247 slices.ContainsFunc[[]wharfage/journal.Image,wharfage/journal.Image] -/
theorem slices_ContainsFunc_journal_Image_journal_Image.main (C : CallF) (N : Nat) (a0 : AVal) (a1 : FuncId) (l2 : List AVal) (l3 : List AVal) (sg4 : Sg) :
  evalF C N slices_ContainsFunc_journal_Image_journal_Image.a [a0, AVal.clo a1 l2 l3] sg4 =
  withA (plainA a0) fun (a : AVal) =>
   withOut (bif Nat.blt (334 : Nat) (1000000 : Nat) then C (334 : FuncId) [a, AVal.clo a1 l2 l3] sg4 else none)
   (fun v sg' => withI IntKind.i64 (some v) fun (n : Int) => some (Out.ret (AVal.at (Value.bool (decide (n ≥ (0 : Int))))) sg')) fun v sg' => some (Out.pan v sg') := by kernel_rfl


/-! 248 (*wharfage/pages.Store).has$1 -/
theorem pages_Store_has_1.main (C : CallF) (N : Nat) (n0 : Int) (s1 : ByteArray) (m2 : Nat) (sg3 : Sg) :
  evalF C N pages_Store_has_1.a [AVal.agg [AVal.at (Value.int IntKind.i64 n0), AVal.at (Value.string s1)], AVal.gp m2 (0 : Nat)] sg3 =
  withI IntKind.i64 [AVal.at (Value.int IntKind.i64 n0), AVal.at (Value.string s1)][(0 : Nat)]? fun (n : Int) =>
   withO (loadC none sg3 (AVal.gp m2 (0 : Nat))) fun p =>
   withA p.fst[p.snd]? fun (r : AVal) =>
    withO (nilV r) fun (r : AVal) =>
    withO (addrV (2 : Nat) r) fun (r : AVal) =>
     withO (loadC none sg3 r) fun p =>
     withA p.fst[p.snd]? fun (r : AVal) => withO (lenV r) fun (n_1 : Nat) => some (Out.ret (AVal.at (Value.bool (decide (n ≥ (↑n_1 : Int))))) sg3) := by kernel_rfl


/-! 334 slices.IndexFunc[[]wharfage/journal.Image,wharfage/journal.Image] -/
theorem slices_IndexFunc_journal_Image_journal_Image.main (C : CallF) (N : Nat) (a0 : AVal) (a1 : FuncId) (l2 : List AVal) (l3 : List AVal) (sg4 : Sg) :
  evalF C N slices_IndexFunc_journal_Image_journal_Image.a [a0, AVal.clo a1 l2 l3] sg4 =
  withO (lenV a0) fun (n : Nat) =>
   iter (slices_IndexFunc_journal_Image_journal_Image.R0 C N) N
   (mkS [(0 : Nat), (1 : Nat), (7 : Nat), (8 : Nat)]
    [Slot.v a0 false, Slot.v (AVal.clo a1 l2 l3) false, Slot.v (AVal.at (Value.int IntKind.i64 (↑n : Int))) false, Slot.v (AVal.at (Value.int IntKind.i64 (0 : Int))) false] [none, none, none, none]
    (RVal.sg sg4))
   (slices_IndexFunc_journal_Image_journal_Image.K0 C N) := by kernel_rfl
theorem slices_IndexFunc_journal_Image_journal_Image.r0 (C : CallF) (N : Nat) (a0 : AVal) (a1 : FuncId) (l2 : List AVal) (l3 : List AVal) (n4 : Int) (n5 : Int) (sg6 : Sg) (k : Ex → St → R) :
  slices_IndexFunc_journal_Image_journal_Image.R0 C N
   (mkS [(0 : Nat), (1 : Nat), (7 : Nat), (8 : Nat)]
   [Slot.v a0 false, Slot.v (AVal.clo a1 l2 l3) false, Slot.v (AVal.at (Value.int IntKind.i64 n4)) false, Slot.v (AVal.at (Value.int IntKind.i64 n5)) false] [none, none, none, none] (RVal.sg sg6))
   k =
  if decide (n5 < n4) = true then
   withO (elemV (2 : Nat) n5 a0) fun (r : AVal) =>
   withO (loadC none sg6 r) fun p =>
    bif (p.snd + (2 : Nat)).ble p.fst.length then
    bindL (List.take (2 : Nat) (List.drop p.snd p.fst)) fun (l : List AVal) =>
     withOut (bif Nat.blt a1 (1000000 : Nat) then C a1 (l2 ++ ([AVal.agg l] ++ l3)) sg6 else none)
     (fun v sg' =>
      withB (some v) fun (b : Bool) =>
      if b = true then k Ex.ret (mkS [(4 : Nat)] [Slot.v (AVal.at (Value.int IntKind.i64 n5)) false] [none] (RVal.sg sg'))
      else
       k Ex.normal
       (mkS [(0 : Nat), (1 : Nat), (7 : Nat), (8 : Nat)]
        [Slot.v a0 false, Slot.v (AVal.clo a1 l2 l3) false, Slot.v (AVal.at (Value.int IntKind.i64 n4)) false,
        Slot.v (AVal.at (Value.int IntKind.i64 (IntKind.i64.wrap (n5 + (1 : Int))))) false]
        [none, none, none, none] (RVal.sg sg')))
     fun v sg' => some (Out.pan v sg')
    else none
  else k (Ex.exit (0 : Nat)) (mkS [] [] [] (RVal.sg sg6)) := by kernel_rfl
theorem slices_IndexFunc_journal_Image_journal_Image.k0_1 (C : CallF) (N : Nat) (n0 : Int) (sg1 : Sg) :
  slices_IndexFunc_journal_Image_journal_Image.K0 C N Ex.ret (mkS [(4 : Nat)] [Slot.v (AVal.at (Value.int IntKind.i64 n0)) false] [none] (RVal.sg sg1)) =
  some (Out.ret (AVal.at (Value.int IntKind.i64 n0)) sg1) := by kernel_rfl
theorem slices_IndexFunc_journal_Image_journal_Image.k0_2 (C : CallF) (N : Nat) (sg0 : Sg) :
  slices_IndexFunc_journal_Image_journal_Image.K0 C N (Ex.exit (0 : Nat)) (mkS [] [] [] (RVal.sg sg0)) =
  some (Out.ret (AVal.at (Value.int IntKind.i64 (-1 : Int))) sg0) := by kernel_rfl


/-! 250 math/bits.Mul -/
theorem math_bits_Mul.main (C : CallF) (N : Nat) (n0 : Int) (n1 : Int) (sg2 : Sg) :
  evalF C N math_bits_Mul.a [AVal.at (Value.int IntKind.u64 n0), AVal.at (Value.int IntKind.u64 n1)] sg2 =
  withOut (bif Nat.blt (336 : Nat) (1000000 : Nat) then C (336 : FuncId) [AVal.at (Value.int IntKind.u64 n0), AVal.at (Value.int IntKind.u64 n1)] [] else none)
   (fun v x =>
   withT v fun (vs : List AVal) =>
    bif vs.length.beq (2 : Nat) then
    withI IntKind.u64 vs[(0 : Nat)]? fun (n : Int) =>
     withI IntKind.u64 vs[(1 : Nat)]? fun (n_1 : Int) => some (Out.ret (AVal.tup [AVal.at (Value.int IntKind.u64 n), AVal.at (Value.int IntKind.u64 n_1)]) sg2)
    else none)
   fun x x_1 => none := by kernel_rfl


/-! 336 math/bits.Mul64 -/
theorem math_bits_Mul64.main (C : CallF) (N : Nat) (n0 : Int) (n1 : Int) (sg2 : Sg) :
  evalF C N math_bits_Mul64.a [AVal.at (Value.int IntKind.u64 n0), AVal.at (Value.int IntKind.u64 n1)] sg2 =
  if (32 : Int) < (0 : Int) then none
  else
   if (32 : Int) < (0 : Int) then none
   else
   if (32 : Int) < (0 : Int) then none
   else
    if (32 : Int) < (0 : Int) then none
    else
    if (32 : Int) < (0 : Int) then none
    else
     some
     (Out.ret
      (AVal.tup
      [AVal.at
       (Value.int IntKind.u64
        (IntKind.u64.wrap
        (IntKind.u64.wrap
         (IntKind.u64.wrap (shiftI BinOp.shr IntKind.u64 n0 (32 : Int) * shiftI BinOp.shr IntKind.u64 n1 (32 : Int)) +
          shiftI BinOp.shr IntKind.u64
          (IntKind.u64.wrap
           (IntKind.u64.wrap (shiftI BinOp.shr IntKind.u64 n0 (32 : Int) * bitsI BinOp.and IntKind.u64 n1 (4294967295 : Int)) +
           shiftI BinOp.shr IntKind.u64 (IntKind.u64.wrap (bitsI BinOp.and IntKind.u64 n0 (4294967295 : Int) * bitsI BinOp.and IntKind.u64 n1 (4294967295 : Int))) (32 : Int)))
          (32 : Int)) +
         shiftI BinOp.shr IntKind.u64
         (IntKind.u64.wrap
          (bitsI BinOp.and IntKind.u64
           (IntKind.u64.wrap
           (IntKind.u64.wrap (shiftI BinOp.shr IntKind.u64 n0 (32 : Int) * bitsI BinOp.and IntKind.u64 n1 (4294967295 : Int)) +
            shiftI BinOp.shr IntKind.u64 (IntKind.u64.wrap (bitsI BinOp.and IntKind.u64 n0 (4294967295 : Int) * bitsI BinOp.and IntKind.u64 n1 (4294967295 : Int)))
            (32 : Int)))
           (4294967295 : Int) +
          IntKind.u64.wrap (bitsI BinOp.and IntKind.u64 n0 (4294967295 : Int) * shiftI BinOp.shr IntKind.u64 n1 (32 : Int))))
         (32 : Int)))),
       AVal.at (Value.int IntKind.u64 (IntKind.u64.wrap (n0 * n1)))])
      sg2) := by kernel_rfl


end Go.Abs
