/- THE RESIDUALS: what each function's evaluation comes to, by the kernel. Printed by a program of my own. -/
import Derived.Test.YtimoaolannkpcaaGreatCodeP
import Derived.Test.YtimoaolannkpcaaGreatEngC
import Derived.KernelRfl
set_option linter.unusedVariables false
set_option linter.unusedSimpArgs false
set_option linter.unusedSectionVars false
namespace Go.Abs
set_option maxRecDepth 100000
set_option linter.unusedVariables false
/-! 15 wharfage/wharfagelaw11.lives -/
theorem law11_lives.main (C : CallF) (N : Nat) (sg0 : Sg) :
  evalF C N law11_lives.a [] sg0 =
  withOut (bif Nat.blt (16 : Nat) (1000000 : Nat) then C (16 : FuncId) [ofConst (Value.int IntKind.i64 (8 : Int)), ofConst (Value.int IntKind.i64 (6 : Int))] sg0 else none)
   (fun v sg' =>
   withT v fun (vs : List AVal) =>
    bif vs.length.beq (3 : Nat) then
    withA vs[(0 : Nat)]? fun (a : AVal) =>
     withA vs[(1 : Nat)]? fun (a_1 : AVal) =>
     withB vs[(2 : Nat)]? fun (b : Bool) =>
      if (!b) = true then some (Out.ret (AVal.at (Value.bool false)) sg')
      else
      withO
       (storeG none
       (sg' ++ [Box.mk [AVal.at (Value.int IntKind.i64 (0 : Int))]] ++ [Box.mk [AVal.at (Value.int IntKind.i64 (0 : Int))]] ++ [Box.mk [AVal.at (Value.int IntKind.i64 (0 : Int))]])
       (AVal.gp (List.length sg') (0 : Nat)) (1 : Nat) (AVal.at (Value.int IntKind.i64 (0 : Int))))
       fun (sg : Sg) =>
       withO (storeG none sg (AVal.gp (List.length (sg' ++ [Box.mk [AVal.at (Value.int IntKind.i64 (0 : Int))]])) (0 : Nat)) (1 : Nat) (AVal.at (Value.int IntKind.i64 (0 : Int))))
       fun (sg : Sg) =>
       withO
        (storeG none sg (AVal.gp (List.length (sg' ++ [Box.mk [AVal.at (Value.int IntKind.i64 (0 : Int))]] ++ [Box.mk [AVal.at (Value.int IntKind.i64 (0 : Int))]])) (0 : Nat)) (1 : Nat)
        (AVal.at (Value.int IntKind.i64 (0 : Int))))
        fun (sg : Sg) =>
        withA (plainA a) fun (a_2 : AVal) =>
        withOut
         (bif Nat.blt (18 : Nat) (1000000 : Nat) then
         C (18 : FuncId)
          [a_2,
          AVal.clo (118 : Nat) []
           [AVal.gp (List.length sg') (0 : Nat), AVal.gp (List.length (sg' ++ [Box.mk [AVal.at (Value.int IntKind.i64 (0 : Int))]])) (0 : Nat),
           AVal.gp (List.length (sg' ++ [Box.mk [AVal.at (Value.int IntKind.i64 (0 : Int))]] ++ [Box.mk [AVal.at (Value.int IntKind.i64 (0 : Int))]])) (0 : Nat)]]
          sg
         else none)
         (fun (v : AVal) (sg'_1 : Sg) =>
         withI IntKind.i64 (some v) fun (n : Int) =>
          withA (plainA a) fun (a_3 : AVal) =>
          withOut
           (bif Nat.blt (18 : Nat) (1000000 : Nat) then
           C (18 : FuncId)
            [a_3,
            AVal.clo (119 : Nat) []
            [AVal.gp (List.length sg') (0 : Nat),
            AVal.gp (List.length (sg' ++ [Box.mk [AVal.at (Value.int IntKind.i64 (0 : Int))]] ++ [Box.mk [AVal.at (Value.int IntKind.i64 (0 : Int))]])) (0 : Nat)]]
            sg'_1
           else none)
           (fun (v : AVal) (sg'_2 : Sg) =>
           withI IntKind.i64 (some v) fun (n_1 : Int) =>
            withA (plainA a) fun (a_4 : AVal) =>
            withOut (bif Nat.blt (31 : Nat) (1000000 : Nat) then C (31 : FuncId) [a_4, ofConst (Value.int IntKind.i64 (2 : Int))] sg'_2 else none)
            (fun v x =>
            withT v fun (vs : List AVal) =>
            bif vs.length.beq (2 : Nat) then
            withS vs[(0 : Nat)]? fun (s : ByteArray) =>
            withI IntKind.i64 vs[(1 : Nat)]? fun (n_2 : Int) =>
            withA (plainA a) fun (a : AVal) =>
            withOut (bif Nat.blt (65 : Nat) (1000000 : Nat) then C (65 : FuncId) [a, AVal.clo (120 : FuncId) [] []] sg'_2 else none)
            (fun (v : AVal) (sg'_3 : Sg) =>
            withI IntKind.i64 (some v) fun (n_3 : Int) =>
            if (n == (0 : Int)) = true then
            withO (loadC none sg'_3 (AVal.gp (List.length sg') (0 : Nat))) fun p =>
            withI IntKind.i64 p.fst[p.snd]? fun (n : Int) =>
            if (n == (2 : Int)) = true then
            withO (loadC none sg'_3 (AVal.gp (List.length (sg' ++ [Box.mk [AVal.at (Value.int IntKind.i64 (0 : Int))]])) (0 : Nat)))
            fun p =>
            withI IntKind.i64 p.fst[p.snd]? fun (n : Int) =>
            if (n == (3 : Int)) = true then
            withO
            (loadC none sg'_3
            (AVal.gp
            (List.length
            (sg' ++ [Box.mk [AVal.at (Value.int IntKind.i64 (0 : Int))]] ++ [Box.mk [AVal.at (Value.int IntKind.i64 (0 : Int))]]))
            (0 : Nat)))
            fun p =>
            withI IntKind.i64 p.fst[p.snd]? fun (n : Int) =>
            if (n == (4 : Int)) = true then
            if (n_1 == (12 : Int)) = true then
            withOut
            (bif Nat.blt (24 : Nat) (1000000 : Nat) then C (24 : FuncId) [ofConst (Value.int IntKind.u8 (5 : Int))] []
            else none)
            (fun v x =>
            withS (some v) fun (s_1 : ByteArray) =>
            if eqS s s_1 = true then
            if (n_2 == (0 : Int)) = true then
            if (n_3 == (18 : Int)) = true then
            withOut
            (bif Nat.blt (18 : Nat) (1000000 : Nat) then
            C (18 : FuncId) [ofConst (Value.pointer none), ofConst Value.nilFunc] sg'_3
            else none)
            (fun v sg' =>
            withI IntKind.i64 (some v) fun (n : Int) =>
            some (Out.ret (AVal.at (Value.bool (n == (18 : Int)))) sg'))
            fun v sg' => some (Out.pan v sg')
            else some (Out.ret (AVal.at (Value.bool false)) sg'_3)
            else some (Out.ret (AVal.at (Value.bool false)) sg'_3)
            else some (Out.ret (AVal.at (Value.bool false)) sg'_3))
            fun x x_1 => none
            else some (Out.ret (AVal.at (Value.bool false)) sg'_3)
            else some (Out.ret (AVal.at (Value.bool false)) sg'_3)
            else some (Out.ret (AVal.at (Value.bool false)) sg'_3)
            else some (Out.ret (AVal.at (Value.bool false)) sg'_3)
            else some (Out.ret (AVal.at (Value.bool false)) sg'_3))
            fun v sg' => some (Out.pan v sg')
            else none)
            fun v x => some (Out.pan v sg'_2))
           fun v sg' => some (Out.pan v sg'))
         fun v sg' => some (Out.pan v sg')
    else none)
   fun v sg' => some (Out.pan v sg') := by kernel_rfl


/-! 65 wharfage/heap.View -/
theorem heap_View.main (C : CallF) (N : Nat) (m0 : Nat) (a1 : FuncId) (l2 : List AVal) (l3 : List AVal) (sg4 : Sg) :
  evalF C N heap_View.a [AVal.gp m0 (0 : Nat), AVal.clo a1 l2 l3] sg4 =
  if (false ^^ false) = false then
   if (false ^^ false) = true then some (Out.ret (AVal.at (Value.int IntKind.i64 (18 : Int))) sg4)
   else
   withOut
    (bif Nat.blt (121 : Nat) (1000000 : Nat) then
    C (121 : FuncId) [AVal.gp (List.length (sg4 ++ [Box.map []])) (0 : Nat), AVal.clo a1 l2 l3] (sg4 ++ [Box.map []] ++ [Box.mk [AVal.gp m0 (0 : Nat), AVal.gm (List.length sg4)]])
    else none)
    (fun v sg' => withI IntKind.i64 (some v) fun (n : Int) => some (Out.ret (AVal.at (Value.int IntKind.i64 n)) sg')) fun v sg' => some (Out.pan v sg')
  else some (Out.ret (AVal.at (Value.int IntKind.i64 (18 : Int))) sg4) := by kernel_rfl


/-! 118 wharfage/wharfagelaw11.lives$1 -/
theorem law11_lives_1.main (C : CallF) (N : Nat) (m0 : Nat) (m1 : Nat) (m2 : Nat) (m3 : Nat) (sg4 : Sg) :
  evalF C N law11_lives_1.a [AVal.gp m0 (0 : Nat), AVal.gp m1 (0 : Nat), AVal.gp m2 (0 : Nat), AVal.gp m3 (0 : Nat)] sg4 =
  withOut (bif Nat.blt (22 : Nat) (1000000 : Nat) then C (22 : FuncId) [AVal.gp m0 (0 : Nat)] sg4 else none)
   (fun v sg' =>
   withI IntKind.i64 (some v) fun (n : Int) =>
    withO (storeG none sg' (AVal.gp m1 (0 : Nat)) (1 : Nat) (AVal.at (Value.int IntKind.i64 n))) fun (sg : Sg) =>
    withOut (bif Nat.blt (22 : Nat) (1000000 : Nat) then C (22 : FuncId) [AVal.gp m0 (0 : Nat)] sg else none)
     (fun v sg' =>
     withI IntKind.i64 (some v) fun (n : Int) =>
      withO (storeG none sg' (AVal.gp m2 (0 : Nat)) (1 : Nat) (AVal.at (Value.int IntKind.i64 n))) fun (sg : Sg) =>
      withO (loadC none sg (AVal.gp m1 (0 : Nat))) fun p =>
       withI IntKind.i64 p.fst[p.snd]? fun (n : Int) =>
       withOut (bif Nat.blt (24 : Nat) (1000000 : Nat) then C (24 : FuncId) [ofConst (Value.int IntKind.u8 (5 : Int))] [] else none)
        (fun v x =>
        withS (some v) fun (s : ByteArray) =>
         withOut (bif Nat.blt (20 : Nat) (1000000 : Nat) then C (20 : FuncId) [AVal.gp m0 (0 : Nat), AVal.at (Value.int IntKind.i64 n), AVal.at (Value.string s)] sg else none)
         (fun v sg' =>
          withOut (bif Nat.blt (27 : Nat) (1000000 : Nat) then C (27 : FuncId) [AVal.gp m0 (0 : Nat)] sg' else none)
          (fun v x =>
           withI IntKind.i64 (some v) fun (n : Int) =>
           withO (storeG none sg' (AVal.gp m3 (0 : Nat)) (1 : Nat) (AVal.at (Value.int IntKind.i64 n))) fun (sg : Sg) => some (Out.ret (AVal.tup []) sg))
          fun v x => some (Out.pan v sg'))
         fun v sg' => some (Out.pan v sg'))
        fun x x_1 => none)
     fun v sg' => some (Out.pan v sg'))
   fun v sg' => some (Out.pan v sg') := by kernel_rfl


/-! 119 wharfage/wharfagelaw11.lives$2 -/
theorem law11_lives_2.main (C : CallF) (N : Nat) (m0 : Nat) (m1 : Nat) (m2 : Nat) (sg3 : Sg) :
  evalF C N law11_lives_2.a [AVal.gp m0 (0 : Nat), AVal.gp m1 (0 : Nat), AVal.gp m2 (0 : Nat)] sg3 =
  withO (loadC none sg3 (AVal.gp m1 (0 : Nat))) fun p =>
   withI IntKind.i64 p.fst[p.snd]? fun (n : Int) =>
   withOut (bif Nat.blt (25 : Nat) (1000000 : Nat) then C (25 : FuncId) [AVal.gp m0 (0 : Nat), AVal.at (Value.int IntKind.i64 n)] sg3 else none)
    (fun v sg' =>
    withOut (bif Nat.blt (26 : Nat) (1000000 : Nat) then C (26 : FuncId) [AVal.gp m0 (0 : Nat), ofConst (Value.int IntKind.i64 (12 : Int))] sg' else none)
     (fun v x => withO (storeG none sg' (AVal.gp m2 (0 : Nat)) (1 : Nat) (AVal.at (Value.int IntKind.i64 (-1 : Int)))) fun (sg : Sg) => some (Out.ret (AVal.tup []) sg))
     fun v x => some (Out.pan v sg'))
    fun v sg' => some (Out.pan v sg') := by kernel_rfl


/-! 120 wharfage/wharfagelaw11.lives$3 -/
theorem law11_lives_3.main (C : CallF) (N : Nat) (m0 : Nat) (sg1 : Sg) :
  evalF C N law11_lives_3.a [AVal.gp m0 (0 : Nat)] sg1 =
  withOut (bif Nat.blt (23 : Nat) (1000000 : Nat) then C (23 : FuncId) [AVal.gp m0 (0 : Nat), ofConst (Value.int IntKind.i64 (8 : Int))] sg1 else none)
   (fun v x => withS (some v) fun (s : ByteArray) => some (Out.ret (AVal.tup []) sg1)) fun v x => some (Out.pan v sg1) := by kernel_rfl


end Go.Abs
