/- THE RESIDUALS: what each function's evaluation comes to, by the kernel. Printed by a program of my own. -/
import Derived.Test.YtimoaolannkpcaaGreatCodeP
import Derived.Test.YtimoaolannkpcaaGreatEngC
import Derived.KernelRfl
set_option linter.unusedVariables false
set_option linter.unusedSimpArgs false
set_option linter.unusedSectionVars false
namespace Go.Abs
set_option maxRecDepth 100000
set_option linter.unusedVariables false
/-! 3 wharfage/wharfagelaw11.HeapOnce -/
theorem law11_HeapOnce.main (C : CallF) (N : Nat) (n0 : Int) (n1 : Int) (a2 : AVal) (sg3 : Sg) :
  evalF C N law11_HeapOnce.a [AVal.at (Value.int IntKind.i64 n0), AVal.at (Value.int IntKind.i64 n1), a2] sg3 =
  withOut (bif Nat.blt (15 : Nat) (1000000 : Nat) then C (15 : FuncId) [] [] else none)
   (fun v x =>
   withB (some v) fun (b : Bool) =>
    if (!b) = true then some (Out.ret (AVal.at (Value.bool false)) (sg3 ++ [Box.mk [AVal.at (Value.int IntKind.i64 n0)]]))
    else
    withO (loadC none (sg3 ++ [Box.mk [AVal.at (Value.int IntKind.i64 n0)]]) (AVal.gp (List.length sg3) (0 : Nat))) fun p =>
     withI IntKind.i64 p.fst[p.snd]? fun (n : Int) =>
     withOut
      (bif Nat.blt (16 : Nat) (1000000 : Nat) then
      C (16 : FuncId) [AVal.at (Value.int IntKind.i64 n), AVal.at (Value.int IntKind.i64 n1)] (sg3 ++ [Box.mk [AVal.at (Value.int IntKind.i64 n0)]])
      else none)
      (fun v sg' =>
      withT v fun (vs : List AVal) =>
       bif vs.length.beq (3 : Nat) then
       withA vs[(0 : Nat)]? fun (a : AVal) =>
        withA vs[(1 : Nat)]? fun (a_1 : AVal) =>
        withB vs[(2 : Nat)]? fun (b : Bool) =>
         if (!b) = false then
         withO (lenV a2) fun (n : Nat) =>
          if decide ((↑n : Int) > (12 : Int)) = true then some (Out.ret (AVal.at (Value.bool true)) sg')
          else
          withO (lenV a2) fun (n : Nat) =>
           iter (law11_HeapOnce.R0 C N) N
           (mkS [(3 : Nat), (7 : Nat), (10 : Nat), (40 : Nat), (41 : Nat), (42 : Nat)]
            [Slot.v (AVal.gp (List.length sg3) (0 : Nat)) false, Slot.v a false, Slot.v (AVal.gm (List.length sg')) false, Slot.v a2 false,
            Slot.v (AVal.at (Value.int IntKind.i64 (↑n : Int))) false, Slot.v (AVal.at (Value.int IntKind.i64 (0 : Int))) false]
            [none, none, none, none, none, none] (RVal.sg (sg' ++ [Box.map []])))
           (law11_HeapOnce.K0 C N)
         else some (Out.ret (AVal.at (Value.bool true)) sg')
       else none)
      fun v sg' => some (Out.pan v sg'))
   fun x x_1 => none := by kernel_rfl
theorem law11_HeapOnce.r0 (C : CallF) (N : Nat) (m0 : Nat) (a1 : AVal) (a2 : AVal) (a3 : AVal) (n4 : Int) (n5 : Int) (sg6 : Sg) (k : Ex → St → R) :
  law11_HeapOnce.R0 C N
   (mkS [(3 : Nat), (7 : Nat), (10 : Nat), (40 : Nat), (41 : Nat), (42 : Nat)]
   [Slot.v (AVal.gp m0 (0 : Nat)) false, Slot.v a1 false, Slot.v a2 false, Slot.v a3 false, Slot.v (AVal.at (Value.int IntKind.i64 n4)) false, Slot.v (AVal.at (Value.int IntKind.i64 n5)) false]
   [none, none, none, none, none, none] (RVal.sg sg6))
   k =
  if decide (n5 < n4) = true then
   withO (elemV (3 : Nat) n5 a3) fun (r : AVal) =>
   withO (loadC none sg6 r) fun p =>
    bif (p.snd + (3 : Nat)).ble p.fst.length then
    bindL (List.take (3 : Nat) (List.drop p.snd p.fst)) fun (l : List AVal) =>
     withO
     (storeG none (sg6 ++ [Box.mk [AVal.at (Value.int IntKind.i64 (0 : Int)), AVal.sl true (4 : Nat) [], AVal.at (Value.int IntKind.i64 (0 : Int))]]) (AVal.gp (List.length sg6) (0 : Nat))
      (3 : Nat) (AVal.agg l))
     fun (sg : Sg) =>
     withO (loadC none sg (AVal.gp (List.length sg6) (1 : Nat))) fun p =>
      withA p.fst[p.snd]? fun (r : AVal) =>
      withO (lenV r) fun (n : Nat) =>
       if decide ((↑n : Int) > (40 : Int)) = false then
       withO (loadC none sg (AVal.gp (List.length sg6) (0 : Nat))) fun p =>
        withI IntKind.i64 p.fst[p.snd]? fun (n : Int) =>
        if (n != (0 : Int)) = true then
         k Ex.normal
         (mkS [(3 : Nat), (7 : Nat), (10 : Nat), (40 : Nat), (41 : Nat), (42 : Nat)]
          [Slot.v (AVal.gp m0 (0 : Nat)) false, Slot.v a1 false, Slot.v a2 false, Slot.v a3 false, Slot.v (AVal.at (Value.int IntKind.i64 n4)) false,
          Slot.v (AVal.at (Value.int IntKind.i64 (IntKind.i64.wrap (n5 + (1 : Int))))) false]
          [none, none, none, none, none, none] (RVal.sg sg))
        else
         withA (plainA a1) fun (a : AVal) =>
         withOut (bif Nat.blt (17 : Nat) (1000000 : Nat) then C (17 : FuncId) [a] sg else none)
          (fun v sg' =>
          withO
           (storeG none (sg' ++ [Box.map []] ++ [Box.mk [AVal.at (Value.map none)]]) (AVal.gp (List.length (sg' ++ [Box.map []])) (0 : Nat)) (1 : Nat)
           (AVal.gm (List.length sg')))
           fun (sg : Sg) =>
           withO
           (storeG none (sg ++ [Box.map []] ++ [Box.mk [AVal.at (Value.map none)]] ++ [Box.mk [AVal.at (Value.bool false)]])
            (AVal.gp (List.length (sg ++ [Box.map []])) (0 : Nat)) (1 : Nat) (AVal.gm (List.length sg)))
           fun (sg_1 : Sg) =>
           withO (storeG none sg_1 (AVal.gp (List.length (sg ++ [Box.map []] ++ [Box.mk [AVal.at (Value.map none)]])) (0 : Nat)) (1 : Nat) (AVal.at (Value.bool true)))
            fun (sg_2 : Sg) =>
            withO (loadC none sg_2 (AVal.gp m0 (0 : Nat))) fun p =>
            withI IntKind.i64 p.fst[p.snd]? fun (n : Int) =>
            iter (law11_HeapOnce.R1 C N) N
            (mkS
            [(3 : Nat), (7 : Nat), (10 : Nat), (12 : Nat), (13 : Nat), (14 : Nat), (15 : Nat), (16 : Nat), (40 : Nat), (41 : Nat), (42 : Nat), (59 : Nat), (60 : Nat)]
            [Slot.v (AVal.gp m0 (0 : Nat)) false, Slot.v a1 false, Slot.v a2 false, Slot.v (AVal.gp (List.length sg6) (0 : Nat)) false, Slot.v v false,
            Slot.v (AVal.gp (List.length (sg' ++ [Box.map []])) (0 : Nat)) false, Slot.v (AVal.gp (List.length (sg ++ [Box.map []])) (0 : Nat)) false,
            Slot.v (AVal.gp (List.length (sg ++ [Box.map []] ++ [Box.mk [AVal.at (Value.map none)]])) (0 : Nat)) false, Slot.v a3 false,
            Slot.v (AVal.at (Value.int IntKind.i64 n4)) false, Slot.v (AVal.at (Value.int IntKind.i64 n5)) false, Slot.v (AVal.at (Value.int IntKind.i64 n)) false,
            Slot.v (AVal.at (Value.int IntKind.i64 (0 : Int))) false]
            [none, none, none, none, none, none, none, none, none, none, none, none, none] (RVal.sg sg_2))
            (law11_HeapOnce.K1 C N k))
          fun v sg' => some (Out.pan v sg')
       else
       k Ex.normal
        (mkS [(3 : Nat), (7 : Nat), (10 : Nat), (40 : Nat), (41 : Nat), (42 : Nat)]
        [Slot.v (AVal.gp m0 (0 : Nat)) false, Slot.v a1 false, Slot.v a2 false, Slot.v a3 false, Slot.v (AVal.at (Value.int IntKind.i64 n4)) false,
         Slot.v (AVal.at (Value.int IntKind.i64 (IntKind.i64.wrap (n5 + (1 : Int))))) false]
        [none, none, none, none, none, none] (RVal.sg sg))
    else none
  else k (Ex.exit (0 : Nat)) (mkS [] [] [] (RVal.sg sg6)) := by kernel_rfl
theorem law11_HeapOnce.k0_1 (C : CallF) (N : Nat) (sg0 : Sg) :
  law11_HeapOnce.K0 C N (Ex.exit (0 : Nat)) (mkS [] [] [] (RVal.sg sg0)) =
  some (Out.ret (AVal.at (Value.bool true)) sg0) := by kernel_rfl
theorem law11_HeapOnce.r1 (C : CallF) (N : Nat) (m0 : Nat) (a1 : AVal) (a2 : AVal) (m3 : Nat) (a4 : AVal) (m5 : Nat) (m6 : Nat) (m7 : Nat) (a8 : AVal) (n9 : Int) (n10 : Int) (n11 : Int) (n12 : Int) (sg13 : Sg) (k : Ex → St → R) :
  law11_HeapOnce.R1 C N
   (mkS [(3 : Nat), (7 : Nat), (10 : Nat), (12 : Nat), (13 : Nat), (14 : Nat), (15 : Nat), (16 : Nat), (40 : Nat), (41 : Nat), (42 : Nat), (59 : Nat), (60 : Nat)]
   [Slot.v (AVal.gp m0 (0 : Nat)) false, Slot.v a1 false, Slot.v a2 false, Slot.v (AVal.gp m3 (0 : Nat)) false, Slot.v a4 false, Slot.v (AVal.gp m5 (0 : Nat)) false,
    Slot.v (AVal.gp m6 (0 : Nat)) false, Slot.v (AVal.gp m7 (0 : Nat)) false, Slot.v a8 false, Slot.v (AVal.at (Value.int IntKind.i64 n9)) false, Slot.v (AVal.at (Value.int IntKind.i64 n10)) false,
    Slot.v (AVal.at (Value.int IntKind.i64 n11)) false, Slot.v (AVal.at (Value.int IntKind.i64 n12)) false]
   [none, none, none, none, none, none, none, none, none, none, none, none, none] (RVal.sg sg13))
   k =
  if decide (n12 < n11) = true then
   withA (plainA a2) fun (m : AVal) =>
   withO (mapV sg13 m) fun (p : Nat × List (AVal × AVal)) =>
    withO (mGet (AVal.at (Value.int IntKind.i64 n12)) p.snd) fun (r : Option AVal) =>
    withB (plainA (getOr [AVal.at (Value.bool false)] false r)) fun (t : Bool) =>
     if t = true then
     withO (loadC none sg13 (AVal.gp m6 (0 : Nat))) fun p =>
      withA p.fst[p.snd]? fun (r : AVal) =>
      withA (plainA r) fun (m : AVal) =>
       withO (mapV sg13 m) fun (p : Nat × List (AVal × AVal)) =>
       withO (mSet (AVal.at (Value.int IntKind.i64 n12)) (AVal.at (Value.bool true)) p.snd) fun (es : List (AVal × AVal)) =>
        k Ex.normal
        (mkS [(3 : Nat), (7 : Nat), (10 : Nat), (12 : Nat), (13 : Nat), (14 : Nat), (15 : Nat), (16 : Nat), (40 : Nat), (41 : Nat), (42 : Nat), (59 : Nat), (60 : Nat)]
         [Slot.v (AVal.gp m0 (0 : Nat)) false, Slot.v a1 false, Slot.v a2 false, Slot.v (AVal.gp m3 (0 : Nat)) false, Slot.v a4 false, Slot.v (AVal.gp m5 (0 : Nat)) false,
         Slot.v (AVal.gp m6 (0 : Nat)) false, Slot.v (AVal.gp m7 (0 : Nat)) false, Slot.v a8 false, Slot.v (AVal.at (Value.int IntKind.i64 n9)) false,
         Slot.v (AVal.at (Value.int IntKind.i64 n10)) false, Slot.v (AVal.at (Value.int IntKind.i64 n11)) false,
         Slot.v (AVal.at (Value.int IntKind.i64 (IntKind.i64.wrap (n12 + (1 : Int))))) false]
         [none, none, none, none, none, none, none, none, none, none, none, none, none] (RVal.sg (List.set sg13 p.fst (Box.map es))))
     else
     k Ex.normal
      (mkS [(3 : Nat), (7 : Nat), (10 : Nat), (12 : Nat), (13 : Nat), (14 : Nat), (15 : Nat), (16 : Nat), (40 : Nat), (41 : Nat), (42 : Nat), (59 : Nat), (60 : Nat)]
      [Slot.v (AVal.gp m0 (0 : Nat)) false, Slot.v a1 false, Slot.v a2 false, Slot.v (AVal.gp m3 (0 : Nat)) false, Slot.v a4 false, Slot.v (AVal.gp m5 (0 : Nat)) false,
       Slot.v (AVal.gp m6 (0 : Nat)) false, Slot.v (AVal.gp m7 (0 : Nat)) false, Slot.v a8 false, Slot.v (AVal.at (Value.int IntKind.i64 n9)) false,
       Slot.v (AVal.at (Value.int IntKind.i64 n10)) false, Slot.v (AVal.at (Value.int IntKind.i64 n11)) false,
       Slot.v (AVal.at (Value.int IntKind.i64 (IntKind.i64.wrap (n12 + (1 : Int))))) false]
      [none, none, none, none, none, none, none, none, none, none, none, none, none] (RVal.sg sg13))
  else
   k (Ex.exit (2 : Nat))
   (mkS [(3 : Nat), (7 : Nat), (10 : Nat), (12 : Nat), (13 : Nat), (14 : Nat), (15 : Nat), (16 : Nat), (40 : Nat), (41 : Nat), (42 : Nat)]
    [Slot.v (AVal.gp m0 (0 : Nat)) false, Slot.v a1 false, Slot.v a2 false, Slot.v (AVal.gp m3 (0 : Nat)) false, Slot.v a4 false, Slot.v (AVal.gp m5 (0 : Nat)) false,
    Slot.v (AVal.gp m6 (0 : Nat)) false, Slot.v (AVal.gp m7 (0 : Nat)) false, Slot.v a8 false, Slot.v (AVal.at (Value.int IntKind.i64 n9)) false,
    Slot.v (AVal.at (Value.int IntKind.i64 n10)) false]
    [none, none, none, none, none, none, none, none, none, none, none] (RVal.sg sg13)) := by kernel_rfl
theorem law11_HeapOnce.k1_1 (C : CallF) (N : Nat) (m0 : Nat) (a1 : AVal) (a2 : AVal) (m3 : Nat) (a4 : AVal) (m5 : Nat) (m6 : Nat) (m7 : Nat) (a8 : AVal) (n9 : Int) (n10 : Int) (sg11 : Sg) (k : Ex → St → R) :
  law11_HeapOnce.K1 C N k (Ex.exit (2 : Nat))
   (mkS [(3 : Nat), (7 : Nat), (10 : Nat), (12 : Nat), (13 : Nat), (14 : Nat), (15 : Nat), (16 : Nat), (40 : Nat), (41 : Nat), (42 : Nat)]
   [Slot.v (AVal.gp m0 (0 : Nat)) false, Slot.v a1 false, Slot.v a2 false, Slot.v (AVal.gp m3 (0 : Nat)) false, Slot.v a4 false, Slot.v (AVal.gp m5 (0 : Nat)) false,
    Slot.v (AVal.gp m6 (0 : Nat)) false, Slot.v (AVal.gp m7 (0 : Nat)) false, Slot.v a8 false, Slot.v (AVal.at (Value.int IntKind.i64 n9)) false, Slot.v (AVal.at (Value.int IntKind.i64 n10)) false]
   [none, none, none, none, none, none, none, none, none, none, none] (RVal.sg sg11)) =
  withA (plainA a1) fun (a : AVal) =>
   withOut
   (bif Nat.blt (18 : Nat) (1000000 : Nat) then
    C (18 : FuncId) [a, AVal.clo (19 : Nat) [] [AVal.gp m3 (0 : Nat), AVal.gp m5 (0 : Nat), AVal.gp m7 (0 : Nat), AVal.gp m6 (0 : Nat), AVal.gp m0 (0 : Nat)]] sg11
   else none)
   (fun v sg' =>
    withI IntKind.i64 (some v) fun (n : Int) =>
    withA (plainA a1) fun (a : AVal) =>
     withOut (bif Nat.blt (17 : Nat) (1000000 : Nat) then C (17 : FuncId) [a] sg' else none)
     (fun v sg' =>
      withO (loadC none sg' (AVal.gp m7 (0 : Nat))) fun p =>
      withB p.fst[p.snd]? fun (b : Bool) =>
       if (!b) = true then k Ex.ret (mkS [(6 : Nat)] [Slot.v (AVal.at (Value.bool false)) false] [none] (RVal.sg sg'))
       else
       if (n != (0 : Int)) = true then
        withA (plainA a4) fun (a : AVal) =>
        withA (plainA v) fun (a_1 : AVal) =>
         withOut (bif Nat.blt (28 : Nat) (1000000 : Nat) then C (28 : FuncId) [a, a_1] sg' else none)
         (fun v x =>
          withB (some v) fun (b : Bool) =>
          if (!b) = true then k Ex.ret (mkS [(6 : Nat)] [Slot.v (AVal.at (Value.bool false)) false] [none] (RVal.sg sg'))
          else
           k Ex.normal
           (mkS [(3 : Nat), (7 : Nat), (10 : Nat), (40 : Nat), (41 : Nat), (42 : Nat)]
            [Slot.v (AVal.gp m0 (0 : Nat)) false, Slot.v a1 false, Slot.v a2 false, Slot.v a8 false, Slot.v (AVal.at (Value.int IntKind.i64 n9)) false,
            Slot.v (AVal.at (Value.int IntKind.i64 (IntKind.i64.wrap (n10 + (1 : Int))))) false]
            [none, none, none, none, none, none] (RVal.sg sg')))
         fun v x => some (Out.pan v sg')
       else
        withO (loadC none sg' (AVal.gp m6 (0 : Nat))) fun p =>
        withA p.fst[p.snd]? fun (r : AVal) =>
         withO (lenV v) fun (n : Nat) =>
         iter (law11_HeapOnce.R2 C N) N
          (mkS [(3 : Nat), (7 : Nat), (10 : Nat), (13 : Nat), (14 : Nat), (19 : Nat), (40 : Nat), (41 : Nat), (42 : Nat), (84 : Nat), (85 : Nat)]
          [Slot.v (AVal.gp m0 (0 : Nat)) false, Slot.v a1 false, Slot.v r false, Slot.v a4 false, Slot.v (AVal.gp m5 (0 : Nat)) false, Slot.v v false, Slot.v a8 false,
           Slot.v (AVal.at (Value.int IntKind.i64 n9)) false, Slot.v (AVal.at (Value.int IntKind.i64 n10)) false, Slot.v (AVal.at (Value.int IntKind.i64 (↑n : Int))) false,
           Slot.v (AVal.at (Value.int IntKind.i64 (0 : Int))) false]
          [none, none, none, none, none, none, none, none, none, none, none] (RVal.sg sg'))
          (law11_HeapOnce.K2 C N k))
     fun v sg' => some (Out.pan v sg'))
   fun v sg' => some (Out.pan v sg') := by kernel_rfl
-- way out beyond the holder: Ex.ret
-- way out beyond the holder: Ex.ret
-- holder goes on
theorem law11_HeapOnce.r2 (C : CallF) (N : Nat) (m0 : Nat) (a1 : AVal) (a2 : AVal) (a3 : AVal) (m4 : Nat) (a5 : AVal) (a6 : AVal) (n7 : Int) (n8 : Int) (n9 : Int) (n10 : Int) (sg11 : Sg) (k : Ex → St → R) :
  law11_HeapOnce.R2 C N
   (mkS [(3 : Nat), (7 : Nat), (10 : Nat), (13 : Nat), (14 : Nat), (19 : Nat), (40 : Nat), (41 : Nat), (42 : Nat), (84 : Nat), (85 : Nat)]
   [Slot.v (AVal.gp m0 (0 : Nat)) false, Slot.v a1 false, Slot.v a2 false, Slot.v a3 false, Slot.v (AVal.gp m4 (0 : Nat)) false, Slot.v a5 false, Slot.v a6 false,
    Slot.v (AVal.at (Value.int IntKind.i64 n7)) false, Slot.v (AVal.at (Value.int IntKind.i64 n8)) false, Slot.v (AVal.at (Value.int IntKind.i64 n9)) false,
    Slot.v (AVal.at (Value.int IntKind.i64 n10)) false]
   [none, none, none, none, none, none, none, none, none, none, none] (RVal.sg sg11))
   k =
  if decide (n10 < n9) = true then
   withO (loadC none sg11 (AVal.gp m4 (0 : Nat))) fun p =>
   withA p.fst[p.snd]? fun (r : AVal) =>
    withA (plainA r) fun (m : AVal) =>
    withO (mapV sg11 m) fun (p : Nat × List (AVal × AVal)) =>
     withO (mGet (AVal.at (Value.int IntKind.i64 n10)) p.snd) fun (r : Option AVal) =>
     if (n10 != (1 : Int)) = true then
      if hasV r = true then
      withO (elemV (1 : Nat) n10 a5) fun (r_1 : AVal) =>
       withO (loadC none sg11 r_1) fun p =>
       withS p.fst[p.snd]? fun (s : ByteArray) =>
        withA (plainA (getOr [AVal.at (Value.string (ByteArray.mk (#[])))] false r)) fun (b : AVal) =>
        withS (some b) fun (t : ByteArray) =>
         if (!eqS s t) = false then
         if (!hasV r) = true then
          withO (elemV (1 : Nat) n10 a5) fun (r : AVal) =>
          withO (loadC none sg11 r) fun p =>
           withS p.fst[p.snd]? fun (s : ByteArray) =>
           withO (elemV (1 : Nat) n10 a3) fun (r : AVal) =>
            withO (loadC none sg11 r) fun p =>
            withS p.fst[p.snd]? fun (s_1 : ByteArray) =>
            if (!eqS s s_1) = true then k Ex.ret (mkS [(6 : Nat)] [Slot.v (AVal.at (Value.bool false)) false] [none] (RVal.sg sg11))
            else
            k Ex.normal
            (mkS [(3 : Nat), (7 : Nat), (10 : Nat), (13 : Nat), (14 : Nat), (19 : Nat), (40 : Nat), (41 : Nat), (42 : Nat), (84 : Nat), (85 : Nat)]
            [Slot.v (AVal.gp m0 (0 : Nat)) false, Slot.v a1 false, Slot.v a2 false, Slot.v a3 false, Slot.v (AVal.gp m4 (0 : Nat)) false, Slot.v a5 false,
            Slot.v a6 false, Slot.v (AVal.at (Value.int IntKind.i64 n7)) false, Slot.v (AVal.at (Value.int IntKind.i64 n8)) false,
            Slot.v (AVal.at (Value.int IntKind.i64 n9)) false, Slot.v (AVal.at (Value.int IntKind.i64 (IntKind.i64.wrap (n10 + (1 : Int))))) false]
            [none, none, none, none, none, none, none, none, none, none, none] (RVal.sg sg11))
         else
          k Ex.normal
          (mkS [(3 : Nat), (7 : Nat), (10 : Nat), (13 : Nat), (14 : Nat), (19 : Nat), (40 : Nat), (41 : Nat), (42 : Nat), (84 : Nat), (85 : Nat)]
           [Slot.v (AVal.gp m0 (0 : Nat)) false, Slot.v a1 false, Slot.v a2 false, Slot.v a3 false, Slot.v (AVal.gp m4 (0 : Nat)) false, Slot.v a5 false, Slot.v a6 false,
           Slot.v (AVal.at (Value.int IntKind.i64 n7)) false, Slot.v (AVal.at (Value.int IntKind.i64 n8)) false, Slot.v (AVal.at (Value.int IntKind.i64 n9)) false,
           Slot.v (AVal.at (Value.int IntKind.i64 (IntKind.i64.wrap (n10 + (1 : Int))))) false]
           [none, none, none, none, none, none, none, none, none, none, none] (RVal.sg sg11))
         else k Ex.ret (mkS [(6 : Nat)] [Slot.v (AVal.at (Value.bool false)) false] [none] (RVal.sg sg11))
      else
      if (!hasV r) = true then
       withO (elemV (1 : Nat) n10 a5) fun (r : AVal) =>
       withO (loadC none sg11 r) fun p =>
        withS p.fst[p.snd]? fun (s : ByteArray) =>
        withO (elemV (1 : Nat) n10 a3) fun (r : AVal) =>
         withO (loadC none sg11 r) fun p =>
         withS p.fst[p.snd]? fun (s_1 : ByteArray) =>
          if (!eqS s s_1) = true then k Ex.ret (mkS [(6 : Nat)] [Slot.v (AVal.at (Value.bool false)) false] [none] (RVal.sg sg11))
          else
          k Ex.normal
           (mkS [(3 : Nat), (7 : Nat), (10 : Nat), (13 : Nat), (14 : Nat), (19 : Nat), (40 : Nat), (41 : Nat), (42 : Nat), (84 : Nat), (85 : Nat)]
           [Slot.v (AVal.gp m0 (0 : Nat)) false, Slot.v a1 false, Slot.v a2 false, Slot.v a3 false, Slot.v (AVal.gp m4 (0 : Nat)) false, Slot.v a5 false, Slot.v a6 false,
            Slot.v (AVal.at (Value.int IntKind.i64 n7)) false, Slot.v (AVal.at (Value.int IntKind.i64 n8)) false, Slot.v (AVal.at (Value.int IntKind.i64 n9)) false,
            Slot.v (AVal.at (Value.int IntKind.i64 (IntKind.i64.wrap (n10 + (1 : Int))))) false]
           [none, none, none, none, none, none, none, none, none, none, none] (RVal.sg sg11))
      else
       k Ex.normal
       (mkS [(3 : Nat), (7 : Nat), (10 : Nat), (13 : Nat), (14 : Nat), (19 : Nat), (40 : Nat), (41 : Nat), (42 : Nat), (84 : Nat), (85 : Nat)]
        [Slot.v (AVal.gp m0 (0 : Nat)) false, Slot.v a1 false, Slot.v a2 false, Slot.v a3 false, Slot.v (AVal.gp m4 (0 : Nat)) false, Slot.v a5 false, Slot.v a6 false,
        Slot.v (AVal.at (Value.int IntKind.i64 n7)) false, Slot.v (AVal.at (Value.int IntKind.i64 n8)) false, Slot.v (AVal.at (Value.int IntKind.i64 n9)) false,
        Slot.v (AVal.at (Value.int IntKind.i64 (IntKind.i64.wrap (n10 + (1 : Int))))) false]
        [none, none, none, none, none, none, none, none, none, none, none] (RVal.sg sg11))
     else
      k Ex.normal
      (mkS [(3 : Nat), (7 : Nat), (10 : Nat), (13 : Nat), (14 : Nat), (19 : Nat), (40 : Nat), (41 : Nat), (42 : Nat), (84 : Nat), (85 : Nat)]
       [Slot.v (AVal.gp m0 (0 : Nat)) false, Slot.v a1 false, Slot.v a2 false, Slot.v a3 false, Slot.v (AVal.gp m4 (0 : Nat)) false, Slot.v a5 false, Slot.v a6 false,
       Slot.v (AVal.at (Value.int IntKind.i64 n7)) false, Slot.v (AVal.at (Value.int IntKind.i64 n8)) false, Slot.v (AVal.at (Value.int IntKind.i64 n9)) false,
       Slot.v (AVal.at (Value.int IntKind.i64 (IntKind.i64.wrap (n10 + (1 : Int))))) false]
       [none, none, none, none, none, none, none, none, none, none, none] (RVal.sg sg11))
  else
   k (Ex.exit (4 : Nat))
   (mkS [(3 : Nat), (7 : Nat), (10 : Nat), (40 : Nat), (41 : Nat), (42 : Nat)]
    [Slot.v (AVal.gp m0 (0 : Nat)) false, Slot.v a1 false, Slot.v a2 false, Slot.v a6 false, Slot.v (AVal.at (Value.int IntKind.i64 n7)) false, Slot.v (AVal.at (Value.int IntKind.i64 n8)) false]
    [none, none, none, none, none, none] (RVal.sg sg11)) := by kernel_rfl
theorem law11_HeapOnce.k2_1 (C : CallF) (N : Nat) (b0 : Bool) (sg1 : Sg) (k : Ex → St → R) :
  law11_HeapOnce.K2 C N k Ex.ret (mkS [(6 : Nat)] [Slot.v (AVal.at (Value.bool b0)) false] [none] (RVal.sg sg1)) =
  k Ex.ret (mkS [(6 : Nat)] [Slot.v (AVal.at (Value.bool b0)) false] [none] (RVal.sg sg1)) := by kernel_rfl
-- way out beyond the holder: Ex.ret
theorem law11_HeapOnce.k2_2 (C : CallF) (N : Nat) (m0 : Nat) (a1 : AVal) (a2 : AVal) (a3 : AVal) (n4 : Int) (n5 : Int) (sg6 : Sg) (k : Ex → St → R) :
  law11_HeapOnce.K2 C N k (Ex.exit (4 : Nat))
   (mkS [(3 : Nat), (7 : Nat), (10 : Nat), (40 : Nat), (41 : Nat), (42 : Nat)]
   [Slot.v (AVal.gp m0 (0 : Nat)) false, Slot.v a1 false, Slot.v a2 false, Slot.v a3 false, Slot.v (AVal.at (Value.int IntKind.i64 n4)) false, Slot.v (AVal.at (Value.int IntKind.i64 n5)) false]
   [none, none, none, none, none, none] (RVal.sg sg6)) =
  k Ex.normal
   (mkS [(3 : Nat), (7 : Nat), (10 : Nat), (40 : Nat), (41 : Nat), (42 : Nat)]
   [Slot.v (AVal.gp m0 (0 : Nat)) false, Slot.v a1 false, Slot.v a2 false, Slot.v a3 false, Slot.v (AVal.at (Value.int IntKind.i64 n4)) false,
    Slot.v (AVal.at (Value.int IntKind.i64 (IntKind.i64.wrap (n5 + (1 : Int))))) false]
   [none, none, none, none, none, none] (RVal.sg sg6)) := by kernel_rfl
-- holder goes on


/-! 16 wharfage/wharfagelaw11.Made -/
theorem law11_Made.main (C : CallF) (N : Nat) (n0 : Int) (n1 : Int) (sg2 : Sg) :
  evalF C N law11_Made.a [AVal.at (Value.int IntKind.i64 n0), AVal.at (Value.int IntKind.i64 n1)] sg2 =
  withOut (bif Nat.blt (41 : Nat) (1000000 : Nat) then C (41 : FuncId) [AVal.at (Value.int IntKind.i64 n0), AVal.at (Value.int IntKind.i64 n1)] [] else none)
   (fun v x =>
   withT v fun (vs : List AVal) =>
    bif vs.length.beq (2 : Nat) then
    withI IntKind.i64 vs[(0 : Nat)]? fun (n : Int) =>
     withI IntKind.i64 vs[(1 : Nat)]? fun (n_1 : Int) =>
     if (n_1 != (0 : Int)) = false then
      if decide (n > (80 : Int)) = true then some (Out.ret (AVal.tup [AVal.at (Value.pointer none), AVal.at (Value.pointer none), AVal.at (Value.bool false)]) sg2)
      else
      withOut (bif Nat.blt (43 : Nat) (1000000 : Nat) then C (43 : FuncId) [AVal.at (Value.int IntKind.i64 n)] sg2 else none)
       (fun v sg' =>
       withT v fun (vs : List AVal) =>
        bif vs.length.beq (2 : Nat) then
        withA vs[(0 : Nat)]? fun (a : AVal) =>
         withI IntKind.i64 vs[(1 : Nat)]? fun (n : Int) =>
         withA (plainA a) fun (a_1 : AVal) =>
          withOut (bif Nat.blt (29 : Nat) (1000000 : Nat) then C (29 : FuncId) [a_1, AVal.at (Value.int IntKind.i64 n0), AVal.at (Value.int IntKind.i64 n1)] sg' else none)
          (fun v sg' =>
           withT v fun (vs : List AVal) =>
           bif vs.length.beq (2 : Nat) then
            withA vs[(0 : Nat)]? fun (a_2 : AVal) =>
            withI IntKind.i64 vs[(1 : Nat)]? fun (n_2 : Int) =>
            if (n == (0 : Int)) = true then
            if (n_2 == (0 : Int)) = true then
            withO (isNil (1 : Nat) (Slot.v a_2 false)) fun (b : Bool) =>
            if (true ^^ b) = true then
            withO (isNil (1 : Nat) (Slot.v a false)) fun (b : Bool) =>
            withA (jk a_2) fun (a_3 : AVal) => withA (jk a) fun (a : AVal) => some (Out.ret (AVal.tup [a_3, a, AVal.at (Value.bool (true ^^ b))]) sg')
            else withA (jk a_2) fun (a_3 : AVal) => withA (jk a) fun (a : AVal) => some (Out.ret (AVal.tup [a_3, a, AVal.at (Value.bool false)]) sg')
            else withA (jk a_2) fun (a_3 : AVal) => withA (jk a) fun (a : AVal) => some (Out.ret (AVal.tup [a_3, a, AVal.at (Value.bool false)]) sg')
            else withA (jk a_2) fun (a_3 : AVal) => withA (jk a) fun (a : AVal) => some (Out.ret (AVal.tup [a_3, a, AVal.at (Value.bool false)]) sg')
           else none)
          fun v sg' => some (Out.pan v sg')
        else none)
       fun v sg' => some (Out.pan v sg')
     else some (Out.ret (AVal.tup [AVal.at (Value.pointer none), AVal.at (Value.pointer none), AVal.at (Value.bool false)]) sg2)
    else none)
   fun x x_1 => none := by kernel_rfl


/-! 17 wharfage/wharfagelaw11.all -/
theorem law11_all.main (C : CallF) (N : Nat) (m0 : Nat) (sg1 : Sg) :
  evalF C N law11_all.a [AVal.gp m0 (0 : Nat)] sg1 =
  withOut (bif Nat.blt (35 : Nat) (1000000 : Nat) then C (35 : FuncId) [AVal.gp m0 (0 : Nat)] sg1 else none)
   (fun v x =>
   withI IntKind.i64 (some v) fun (n : Int) =>
    iter (law11_all.R0 C N) N
    (mkS [(0 : Nat), (3 : Nat), (8 : Nat), (9 : Nat)]
     [Slot.v (AVal.gp m0 (0 : Nat)) false, Slot.v (AVal.sl true (1 : Nat) []) true, Slot.v (AVal.at (Value.int IntKind.i64 n)) false, Slot.v (AVal.at (Value.int IntKind.i64 (0 : Int))) false]
     [none, none, none, none] (RVal.sg sg1))
    (law11_all.K0 C N))
   fun v x => some (Out.pan v sg1) := by kernel_rfl
theorem law11_all.r0 (C : CallF) (N : Nat) (m0 : Nat) (b1 : Bool) (l2 : List AVal) (n3 : Int) (n4 : Int) (sg5 : Sg) (k : Ex → St → R) :
  law11_all.R0 C N
   (mkS [(0 : Nat), (3 : Nat), (8 : Nat), (9 : Nat)]
   [Slot.v (AVal.gp m0 (0 : Nat)) false, Slot.v (AVal.sl b1 (1 : Nat) l2) true, Slot.v (AVal.at (Value.int IntKind.i64 n3)) false, Slot.v (AVal.at (Value.int IntKind.i64 n4)) false]
   [none, none, none, none] (RVal.sg sg5))
   k =
  if decide (n4 < n3) = true then
   withOut (bif Nat.blt (31 : Nat) (1000000 : Nat) then C (31 : FuncId) [AVal.gp m0 (0 : Nat), AVal.at (Value.int IntKind.i64 n4)] sg5 else none)
   (fun v x =>
    withT v fun (vs : List AVal) =>
    bif vs.length.beq (2 : Nat) then
     withS vs[(0 : Nat)]? fun (s : ByteArray) =>
     withI IntKind.i64 vs[(1 : Nat)]? fun (n : Int) =>
      bif true && Nat.blt (0 : Nat) (1 : Nat) then
      withO (flatG (sg5 ++ [Box.mk [AVal.at (Value.string s)]]) (1 : Nat) (AVal.gs (List.length sg5) (1 : Nat) (0 : Nat) (1 : Nat))) fun (p : Nat × List AVal) =>
       bif p.fst.beq (0 : Nat) then
       k Ex.normal
        (mkS [(0 : Nat), (3 : Nat), (8 : Nat), (9 : Nat)]
        [Slot.v (AVal.gp m0 (0 : Nat)) false, Slot.v (AVal.sl b1 (1 : Nat) l2) false, Slot.v (AVal.at (Value.int IntKind.i64 n3)) false,
         Slot.v (AVal.at (Value.int IntKind.i64 (IntKind.i64.wrap (n4 + (1 : Int))))) false]
        [none, none, none, none] (RVal.sg (sg5 ++ [Box.mk [AVal.at (Value.string s)]])))
       else
       if p.fst * (16 : Nat) ≤ (35184372088832 : Nat) then
        withO (app1 none (1 : Nat) (16 : Nat) (sg5 ++ [Box.mk [AVal.at (Value.string s)]]) (AVal.sl b1 (1 : Nat) l2) p.fst p.snd) fun (q : AVal × Sg) =>
        k Ex.normal
         (mkS [(0 : Nat), (3 : Nat), (8 : Nat), (9 : Nat)]
         [Slot.v (AVal.gp m0 (0 : Nat)) false, Slot.v q.fst false, Slot.v (AVal.at (Value.int IntKind.i64 n3)) false,
          Slot.v (AVal.at (Value.int IntKind.i64 (IntKind.i64.wrap (n4 + (1 : Int))))) false]
         [none, none, none, none] (RVal.sg q.snd))
       else none
      else none
    else none)
   fun v x => some (Out.pan v sg5)
  else k (Ex.exit (0 : Nat)) (mkS [(3 : Nat)] [Slot.v (AVal.sl b1 (1 : Nat) l2) true] [none] (RVal.sg sg5)) := by kernel_rfl
-- NOTE: loop 0 goes on in another shape
-- NOTE: loop 0 goes on in another shape
theorem law11_all.k0_1 (C : CallF) (N : Nat) (b0 : Bool) (l1 : List AVal) (sg2 : Sg) :
  law11_all.K0 C N (Ex.exit (0 : Nat)) (mkS [(3 : Nat)] [Slot.v (AVal.sl b0 (1 : Nat) l1) true] [none] (RVal.sg sg2)) =
  some (Out.ret (AVal.sl b0 (1 : Nat) l1) sg2) := by kernel_rfl
theorem law11_all.r0_2 (C : CallF) (N : Nat) (m0 : Nat) (a1 : AVal) (n2 : Int) (n3 : Int) (sg4 : Sg) (k : Ex → St → R) :
  law11_all.R0 C N
   (mkS [(0 : Nat), (3 : Nat), (8 : Nat), (9 : Nat)]
   [Slot.v (AVal.gp m0 (0 : Nat)) false, Slot.v a1 false, Slot.v (AVal.at (Value.int IntKind.i64 n2)) false, Slot.v (AVal.at (Value.int IntKind.i64 n3)) false] [none, none, none, none] (RVal.sg sg4))
   k =
  if decide (n3 < n2) = true then
   withOut (bif Nat.blt (31 : Nat) (1000000 : Nat) then C (31 : FuncId) [AVal.gp m0 (0 : Nat), AVal.at (Value.int IntKind.i64 n3)] sg4 else none)
   (fun v x =>
    withT v fun (vs : List AVal) =>
    bif vs.length.beq (2 : Nat) then
     withS vs[(0 : Nat)]? fun (s : ByteArray) =>
     withI IntKind.i64 vs[(1 : Nat)]? fun (n : Int) =>
      bif true && Nat.blt (0 : Nat) (1 : Nat) then
      withO (flatG (sg4 ++ [Box.mk [AVal.at (Value.string s)]]) (1 : Nat) (AVal.gs (List.length sg4) (1 : Nat) (0 : Nat) (1 : Nat))) fun (p : Nat × List AVal) =>
       bif p.fst.beq (0 : Nat) then
       withO (app0 (1 : Nat) a1) fun (r : AVal) =>
        k Ex.normal
        (mkS [(0 : Nat), (3 : Nat), (8 : Nat), (9 : Nat)]
         [Slot.v (AVal.gp m0 (0 : Nat)) false, Slot.v r false, Slot.v (AVal.at (Value.int IntKind.i64 n2)) false,
         Slot.v (AVal.at (Value.int IntKind.i64 (IntKind.i64.wrap (n3 + (1 : Int))))) false]
         [none, none, none, none] (RVal.sg (sg4 ++ [Box.mk [AVal.at (Value.string s)]])))
       else
       if p.fst * (16 : Nat) ≤ (35184372088832 : Nat) then
        withO (app1 none (1 : Nat) (16 : Nat) (sg4 ++ [Box.mk [AVal.at (Value.string s)]]) a1 p.fst p.snd) fun (q : AVal × Sg) =>
        k Ex.normal
         (mkS [(0 : Nat), (3 : Nat), (8 : Nat), (9 : Nat)]
         [Slot.v (AVal.gp m0 (0 : Nat)) false, Slot.v q.fst false, Slot.v (AVal.at (Value.int IntKind.i64 n2)) false,
          Slot.v (AVal.at (Value.int IntKind.i64 (IntKind.i64.wrap (n3 + (1 : Int))))) false]
         [none, none, none, none] (RVal.sg q.snd))
       else none
      else none
    else none)
   fun v x => some (Out.pan v sg4)
  else k (Ex.exit (0 : Nat)) (mkS [(3 : Nat)] [Slot.v a1 false] [none] (RVal.sg sg4)) := by kernel_rfl
theorem law11_all.k0_2 (C : CallF) (N : Nat) (a0 : AVal) (sg1 : Sg) :
  law11_all.K0 C N (Ex.exit (0 : Nat)) (mkS [(3 : Nat)] [Slot.v a0 false] [none] (RVal.sg sg1)) =
  withA (jk a0) fun (a : AVal) => some (Out.ret a sg1) := by kernel_rfl
theorem law11_all.r0_3 (C : CallF) (N : Nat) (m0 : Nat) (b1 : Bool) (l2 : List AVal) (n3 : Int) (n4 : Int) (sg5 : Sg) (k : Ex → St → R) :
  law11_all.R0 C N
   (mkS [(0 : Nat), (3 : Nat), (8 : Nat), (9 : Nat)]
   [Slot.v (AVal.gp m0 (0 : Nat)) false, Slot.v (AVal.sl b1 (1 : Nat) l2) false, Slot.v (AVal.at (Value.int IntKind.i64 n3)) false, Slot.v (AVal.at (Value.int IntKind.i64 n4)) false]
   [none, none, none, none] (RVal.sg sg5))
   k =
  if decide (n4 < n3) = true then
   withOut (bif Nat.blt (31 : Nat) (1000000 : Nat) then C (31 : FuncId) [AVal.gp m0 (0 : Nat), AVal.at (Value.int IntKind.i64 n4)] sg5 else none)
   (fun v x =>
    withT v fun (vs : List AVal) =>
    bif vs.length.beq (2 : Nat) then
     withS vs[(0 : Nat)]? fun (s : ByteArray) =>
     withI IntKind.i64 vs[(1 : Nat)]? fun (n : Int) =>
      bif true && Nat.blt (0 : Nat) (1 : Nat) then
      withO (flatG (sg5 ++ [Box.mk [AVal.at (Value.string s)]]) (1 : Nat) (AVal.gs (List.length sg5) (1 : Nat) (0 : Nat) (1 : Nat))) fun (p : Nat × List AVal) =>
       bif p.fst.beq (0 : Nat) then
       k Ex.normal
        (mkS [(0 : Nat), (3 : Nat), (8 : Nat), (9 : Nat)]
        [Slot.v (AVal.gp m0 (0 : Nat)) false, Slot.v (AVal.sl b1 (1 : Nat) l2) false, Slot.v (AVal.at (Value.int IntKind.i64 n3)) false,
         Slot.v (AVal.at (Value.int IntKind.i64 (IntKind.i64.wrap (n4 + (1 : Int))))) false]
        [none, none, none, none] (RVal.sg (sg5 ++ [Box.mk [AVal.at (Value.string s)]])))
       else
       if p.fst * (16 : Nat) ≤ (35184372088832 : Nat) then
        withO (app1 none (1 : Nat) (16 : Nat) (sg5 ++ [Box.mk [AVal.at (Value.string s)]]) (AVal.sl b1 (1 : Nat) l2) p.fst p.snd) fun (q : AVal × Sg) =>
        k Ex.normal
         (mkS [(0 : Nat), (3 : Nat), (8 : Nat), (9 : Nat)]
         [Slot.v (AVal.gp m0 (0 : Nat)) false, Slot.v q.fst false, Slot.v (AVal.at (Value.int IntKind.i64 n3)) false,
          Slot.v (AVal.at (Value.int IntKind.i64 (IntKind.i64.wrap (n4 + (1 : Int))))) false]
         [none, none, none, none] (RVal.sg q.snd))
       else none
      else none
    else none)
   fun v x => some (Out.pan v sg5)
  else k (Ex.exit (0 : Nat)) (mkS [(3 : Nat)] [Slot.v (AVal.sl b1 (1 : Nat) l2) false] [none] (RVal.sg sg5)) := by kernel_rfl
theorem law11_all.k0_3 (C : CallF) (N : Nat) (b0 : Bool) (l1 : List AVal) (sg2 : Sg) :
  law11_all.K0 C N (Ex.exit (0 : Nat)) (mkS [(3 : Nat)] [Slot.v (AVal.sl b0 (1 : Nat) l1) false] [none] (RVal.sg sg2)) =
  some (Out.ret (AVal.sl b0 (1 : Nat) l1) sg2) := by kernel_rfl


/-! 19 wharfage/wharfagelaw11.HeapOnce$1 -/
theorem law11_HeapOnce_1.main (C : CallF) (N : Nat) (m0 : Nat) (m1 : Nat) (m2 : Nat) (m3 : Nat) (m4 : Nat) (m5 : Nat) (sg6 : Sg) :
  evalF C N law11_HeapOnce_1.a [AVal.gp m0 (0 : Nat), AVal.gp m1 (0 : Nat), AVal.gp m2 (0 : Nat), AVal.gp m3 (0 : Nat), AVal.gp m4 (0 : Nat), AVal.gp m5 (0 : Nat)] sg6 =
  withO (loadC none sg6 (AVal.gp m1 (1 : Nat))) fun p =>
   withA p.fst[p.snd]? fun (r : AVal) =>
   withO (lenV r) fun (n : Nat) =>
    iter (law11_HeapOnce_1.R0 C N) N
    (mkS [(0 : Nat), (2 : Nat), (3 : Nat), (4 : Nat), (5 : Nat), (11 : Nat), (12 : Nat), (13 : Nat)]
     [Slot.v (AVal.gp m0 (0 : Nat)) false, Slot.v (AVal.gp m2 (0 : Nat)) false, Slot.v (AVal.gp m3 (0 : Nat)) false, Slot.v (AVal.gp m4 (0 : Nat)) false, Slot.v (AVal.gp m5 (0 : Nat)) false,
     Slot.v r false, Slot.v (AVal.at (Value.int IntKind.i64 (↑n : Int))) false, Slot.v (AVal.at (Value.int IntKind.i64 (0 : Int))) false]
     [none, none, none, none, none, none, none, none] (RVal.sg sg6))
    (law11_HeapOnce_1.K0 C N) := by kernel_rfl
theorem law11_HeapOnce_1.r0 (C : CallF) (N : Nat) (m0 : Nat) (m1 : Nat) (m2 : Nat) (m3 : Nat) (m4 : Nat) (a5 : AVal) (n6 : Int) (n7 : Int) (sg8 : Sg) (k : Ex → St → R) :
  law11_HeapOnce_1.R0 C N
   (mkS [(0 : Nat), (2 : Nat), (3 : Nat), (4 : Nat), (5 : Nat), (11 : Nat), (12 : Nat), (13 : Nat)]
   [Slot.v (AVal.gp m0 (0 : Nat)) false, Slot.v (AVal.gp m1 (0 : Nat)) false, Slot.v (AVal.gp m2 (0 : Nat)) false, Slot.v (AVal.gp m3 (0 : Nat)) false, Slot.v (AVal.gp m4 (0 : Nat)) false,
    Slot.v a5 false, Slot.v (AVal.at (Value.int IntKind.i64 n6)) false, Slot.v (AVal.at (Value.int IntKind.i64 n7)) false]
   [none, none, none, none, none, none, none, none] (RVal.sg sg8))
   k =
  if decide (n7 < n6) = true then
   withO (elemV (4 : Nat) n7 a5) fun (r : AVal) =>
   withO (loadC none sg8 r) fun p =>
    bif (p.snd + (4 : Nat)).ble p.fst.length then
    bindL (List.take (4 : Nat) (List.drop p.snd p.fst)) fun (l : List AVal) =>
     bif (AVal.agg l).cells.length.beq (4 : Nat) then
     bindL
      (splice [AVal.at (Value.int IntKind.i64 (0 : Int)), AVal.at (Value.int IntKind.i64 (0 : Int)), AVal.at (Value.int IntKind.u8 (0 : Int)), AVal.at (Value.bool false)] (0 : Nat)
      (AVal.agg l).cells)
      fun (cs : List AVal) =>
      withI IntKind.i64 cs[(0 : Nat)]? fun (n : Int) =>
      if (n == (1 : Int)) = true then
       withI IntKind.i64 cs[(1 : Nat)]? fun (n : Int) =>
       if (n != (1 : Int)) = true then
        withI IntKind.i64 cs[(1 : Nat)]? fun (n : Int) =>
        bif Nat.ble (4 : Nat) cs.length then
         bindL (List.take (4 : Nat) cs) fun (l : List AVal) =>
         bif noGs [AVal.agg l] then
          withOut (bif Nat.blt (21 : Nat) (1000000 : Nat) then C (21 : FuncId) [AVal.agg l] [] else none)
          (fun v x =>
           withS (some v) fun (s : ByteArray) =>
           withOut
            (bif Nat.blt (20 : Nat) (1000000 : Nat) then C (20 : FuncId) [AVal.gp m0 (0 : Nat), AVal.at (Value.int IntKind.i64 n), AVal.at (Value.string s)] sg8 else none)
            (fun v sg' =>
            withO (loadC none sg' (AVal.gp m1 (0 : Nat))) fun p =>
            withA p.fst[p.snd]? fun (r : AVal) =>
            withI IntKind.i64 cs[(1 : Nat)]? fun (n : Int) =>
            bif Nat.ble (4 : Nat) cs.length then
            bindL (List.take (4 : Nat) cs) fun (l : List AVal) =>
            bif noGs [AVal.agg l] then
            withOut (bif Nat.blt (21 : Nat) (1000000 : Nat) then C (21 : FuncId) [AVal.agg l] [] else none)
            (fun v x =>
            withS (some v) fun (s : ByteArray) =>
            withA (plainA r) fun (m : AVal) =>
            withO (mapV sg' m) fun (p : Nat × List (AVal × AVal)) =>
            withO (mSet (AVal.at (Value.int IntKind.i64 n)) (AVal.at (Value.string s)) p.snd) fun (es : List (AVal × AVal)) =>
            k Ex.normal
            (mkS [(0 : Nat), (2 : Nat), (3 : Nat), (4 : Nat), (5 : Nat), (11 : Nat), (12 : Nat), (13 : Nat)]
            [Slot.v (AVal.gp m0 (0 : Nat)) false, Slot.v (AVal.gp m1 (0 : Nat)) false, Slot.v (AVal.gp m2 (0 : Nat)) false,
            Slot.v (AVal.gp m3 (0 : Nat)) false, Slot.v (AVal.gp m4 (0 : Nat)) false, Slot.v a5 false,
            Slot.v (AVal.at (Value.int IntKind.i64 n6)) false,
            Slot.v (AVal.at (Value.int IntKind.i64 (IntKind.i64.wrap (n7 + (1 : Int))))) false]
            [none, none, none, none, none, none, none, none] (RVal.sg (List.set sg' p.fst (Box.map es)))))
            fun x x_1 => none
            else none
            else none)
            fun v sg' => some (Out.pan v sg'))
          fun x x_1 => none
         else none
        else none
       else
        k Ex.normal
        (mkS [(0 : Nat), (2 : Nat), (3 : Nat), (4 : Nat), (5 : Nat), (11 : Nat), (12 : Nat), (13 : Nat)]
         [Slot.v (AVal.gp m0 (0 : Nat)) false, Slot.v (AVal.gp m1 (0 : Nat)) false, Slot.v (AVal.gp m2 (0 : Nat)) false, Slot.v (AVal.gp m3 (0 : Nat)) false,
         Slot.v (AVal.gp m4 (0 : Nat)) false, Slot.v a5 false, Slot.v (AVal.at (Value.int IntKind.i64 n6)) false,
         Slot.v (AVal.at (Value.int IntKind.i64 (IntKind.i64.wrap (n7 + (1 : Int))))) false]
         [none, none, none, none, none, none, none, none] (RVal.sg sg8))
      else
       if (n == (2 : Int)) = true then
       withOut (bif Nat.blt (22 : Nat) (1000000 : Nat) then C (22 : FuncId) [AVal.gp m0 (0 : Nat)] sg8 else none)
        (fun v sg' =>
        withI IntKind.i64 (some v) fun (n : Int) =>
         withO (loadC none sg' (AVal.gp m2 (0 : Nat))) fun p =>
         withB p.fst[p.snd]? fun (b : Bool) =>
          if b = true then
          withO (loadC none sg' (AVal.gp m3 (0 : Nat))) fun p =>
           withA p.fst[p.snd]? fun (r : AVal) =>
           withA (plainA r) fun (m : AVal) =>
            withO (mapV sg' m) fun (p : Nat × List (AVal × AVal)) =>
            withO (mGet (AVal.at (Value.int IntKind.i64 n)) p.snd) fun (r : Option AVal) =>
            withA (plainA (getOr [AVal.at (Value.bool false)] false r)) fun (a : AVal) =>
            withB (some a) fun (b : Bool) =>
            if (!b) = true then
            if decide (n ≥ (2 : Int)) = true then
            withO (loadC none sg' (AVal.gp m4 (0 : Nat))) fun p =>
            withI IntKind.i64 p.fst[p.snd]? fun (n_1 : Int) =>
            if decide (n < n_1) = true then
            withOut (bif Nat.blt (23 : Nat) (1000000 : Nat) then C (23 : FuncId) [AVal.gp m0 (0 : Nat), AVal.at (Value.int IntKind.i64 n)] sg' else none)
            (fun v x =>
            withS (some v) fun (s : ByteArray) =>
            withOut (bif Nat.blt (24 : Nat) (1000000 : Nat) then C (24 : FuncId) [ofConst (Value.int IntKind.u8 (0 : Int))] [] else none)
            (fun v x =>
            withS (some v) fun (s_1 : ByteArray) =>
            withO (storeG none sg' (AVal.gp m2 (0 : Nat)) (1 : Nat) (AVal.at (Value.bool (eqS s s_1)))) fun (sg : Sg) =>
            withO (loadC none sg (AVal.gp m3 (0 : Nat))) fun p =>
            withA p.fst[p.snd]? fun (r : AVal) =>
            withA (plainA r) fun (m : AVal) =>
            withO (mapV sg m) fun (p : Nat × List (AVal × AVal)) =>
            withO (mSet (AVal.at (Value.int IntKind.i64 n)) (AVal.at (Value.bool true)) p.snd) fun (es : List (AVal × AVal)) =>
            withO (loadC none (List.set sg p.fst (Box.map es)) (AVal.gp m1 (0 : Nat))) fun (p_1 : List AVal × Nat) =>
            withA p_1.fst[p_1.snd]? fun (r : AVal) =>
            withOut
            (bif Nat.blt (24 : Nat) (1000000 : Nat) then C (24 : FuncId) [ofConst (Value.int IntKind.u8 (0 : Int))] []
            else none)
            (fun v x =>
            withS (some v) fun (s : ByteArray) =>
            withA (plainA r) fun (m : AVal) =>
            withO (mapV (List.set sg p.fst (Box.map es)) m) fun (p_2 : Nat × List (AVal × AVal)) =>
            withO (mSet (AVal.at (Value.int IntKind.i64 n)) (AVal.at (Value.string s)) p_2.snd)
            fun (es_1 : List (AVal × AVal)) =>
            k Ex.normal
            (mkS [(0 : Nat), (2 : Nat), (3 : Nat), (4 : Nat), (5 : Nat), (11 : Nat), (12 : Nat), (13 : Nat)]
            [Slot.v (AVal.gp m0 (0 : Nat)) false, Slot.v (AVal.gp m1 (0 : Nat)) false,
            Slot.v (AVal.gp m2 (0 : Nat)) false, Slot.v (AVal.gp m3 (0 : Nat)) false,
            Slot.v (AVal.gp m4 (0 : Nat)) false, Slot.v a5 false,
            Slot.v (AVal.at (Value.int IntKind.i64 n6)) false,
            Slot.v (AVal.at (Value.int IntKind.i64 (IntKind.i64.wrap (n7 + (1 : Int))))) false]
            [none, none, none, none, none, none, none, none]
            (RVal.sg ((List.set sg p.fst (Box.map es)).set p_2.fst (Box.map es_1)))))
            fun x x_1 => none)
            fun x x_1 => none)
            fun v x => some (Out.pan v sg')
            else
            withO (storeG none sg' (AVal.gp m2 (0 : Nat)) (1 : Nat) (AVal.at (Value.bool false))) fun (sg : Sg) =>
            withO (loadC none sg (AVal.gp m3 (0 : Nat))) fun p =>
            withA p.fst[p.snd]? fun (r : AVal) =>
            withA (plainA r) fun (m : AVal) =>
            withO (mapV sg m) fun (p : Nat × List (AVal × AVal)) =>
            withO (mSet (AVal.at (Value.int IntKind.i64 n)) (AVal.at (Value.bool true)) p.snd) fun (es : List (AVal × AVal)) =>
            withO (loadC none (List.set sg p.fst (Box.map es)) (AVal.gp m1 (0 : Nat))) fun (p_1 : List AVal × Nat) =>
            withA p_1.fst[p_1.snd]? fun (r : AVal) =>
            withOut (bif Nat.blt (24 : Nat) (1000000 : Nat) then C (24 : FuncId) [ofConst (Value.int IntKind.u8 (0 : Int))] [] else none)
            (fun v x =>
            withS (some v) fun (s : ByteArray) =>
            withA (plainA r) fun (m : AVal) =>
            withO (mapV (List.set sg p.fst (Box.map es)) m) fun (p_2 : Nat × List (AVal × AVal)) =>
            withO (mSet (AVal.at (Value.int IntKind.i64 n)) (AVal.at (Value.string s)) p_2.snd) fun (es_1 : List (AVal × AVal)) =>
            k Ex.normal
            (mkS [(0 : Nat), (2 : Nat), (3 : Nat), (4 : Nat), (5 : Nat), (11 : Nat), (12 : Nat), (13 : Nat)]
            [Slot.v (AVal.gp m0 (0 : Nat)) false, Slot.v (AVal.gp m1 (0 : Nat)) false, Slot.v (AVal.gp m2 (0 : Nat)) false,
            Slot.v (AVal.gp m3 (0 : Nat)) false, Slot.v (AVal.gp m4 (0 : Nat)) false, Slot.v a5 false,
            Slot.v (AVal.at (Value.int IntKind.i64 n6)) false,
            Slot.v (AVal.at (Value.int IntKind.i64 (IntKind.i64.wrap (n7 + (1 : Int))))) false]
            [none, none, none, none, none, none, none, none]
            (RVal.sg ((List.set sg p.fst (Box.map es)).set p_2.fst (Box.map es_1)))))
            fun x x_1 => none
            else
            withO (storeG none sg' (AVal.gp m2 (0 : Nat)) (1 : Nat) (AVal.at (Value.bool false))) fun (sg : Sg) =>
            withO (loadC none sg (AVal.gp m3 (0 : Nat))) fun p =>
            withA p.fst[p.snd]? fun (r : AVal) =>
            withA (plainA r) fun (m : AVal) =>
            withO (mapV sg m) fun (p : Nat × List (AVal × AVal)) =>
            withO (mSet (AVal.at (Value.int IntKind.i64 n)) (AVal.at (Value.bool true)) p.snd) fun (es : List (AVal × AVal)) =>
            withO (loadC none (List.set sg p.fst (Box.map es)) (AVal.gp m1 (0 : Nat))) fun (p_1 : List AVal × Nat) =>
            withA p_1.fst[p_1.snd]? fun (r : AVal) =>
            withOut (bif Nat.blt (24 : Nat) (1000000 : Nat) then C (24 : FuncId) [ofConst (Value.int IntKind.u8 (0 : Int))] [] else none)
            (fun v x =>
            withS (some v) fun (s : ByteArray) =>
            withA (plainA r) fun (m : AVal) =>
            withO (mapV (List.set sg p.fst (Box.map es)) m) fun (p_2 : Nat × List (AVal × AVal)) =>
            withO (mSet (AVal.at (Value.int IntKind.i64 n)) (AVal.at (Value.string s)) p_2.snd) fun (es_1 : List (AVal × AVal)) =>
            k Ex.normal
            (mkS [(0 : Nat), (2 : Nat), (3 : Nat), (4 : Nat), (5 : Nat), (11 : Nat), (12 : Nat), (13 : Nat)]
            [Slot.v (AVal.gp m0 (0 : Nat)) false, Slot.v (AVal.gp m1 (0 : Nat)) false, Slot.v (AVal.gp m2 (0 : Nat)) false,
            Slot.v (AVal.gp m3 (0 : Nat)) false, Slot.v (AVal.gp m4 (0 : Nat)) false, Slot.v a5 false,
            Slot.v (AVal.at (Value.int IntKind.i64 n6)) false,
            Slot.v (AVal.at (Value.int IntKind.i64 (IntKind.i64.wrap (n7 + (1 : Int))))) false]
            [none, none, none, none, none, none, none, none]
            (RVal.sg ((List.set sg p.fst (Box.map es)).set p_2.fst (Box.map es_1)))))
            fun x x_1 => none
            else
            withO (storeG none sg' (AVal.gp m2 (0 : Nat)) (1 : Nat) (AVal.at (Value.bool false))) fun (sg : Sg) =>
            withO (loadC none sg (AVal.gp m3 (0 : Nat))) fun p =>
            withA p.fst[p.snd]? fun (r : AVal) =>
            withA (plainA r) fun (m : AVal) =>
            withO (mapV sg m) fun (p : Nat × List (AVal × AVal)) =>
            withO (mSet (AVal.at (Value.int IntKind.i64 n)) (AVal.at (Value.bool true)) p.snd) fun (es : List (AVal × AVal)) =>
            withO (loadC none (List.set sg p.fst (Box.map es)) (AVal.gp m1 (0 : Nat))) fun (p_1 : List AVal × Nat) =>
            withA p_1.fst[p_1.snd]? fun (r : AVal) =>
            withOut (bif Nat.blt (24 : Nat) (1000000 : Nat) then C (24 : FuncId) [ofConst (Value.int IntKind.u8 (0 : Int))] [] else none)
            (fun v x =>
            withS (some v) fun (s : ByteArray) =>
            withA (plainA r) fun (m : AVal) =>
            withO (mapV (List.set sg p.fst (Box.map es)) m) fun (p_2 : Nat × List (AVal × AVal)) =>
            withO (mSet (AVal.at (Value.int IntKind.i64 n)) (AVal.at (Value.string s)) p_2.snd) fun (es_1 : List (AVal × AVal)) =>
            k Ex.normal
            (mkS [(0 : Nat), (2 : Nat), (3 : Nat), (4 : Nat), (5 : Nat), (11 : Nat), (12 : Nat), (13 : Nat)]
            [Slot.v (AVal.gp m0 (0 : Nat)) false, Slot.v (AVal.gp m1 (0 : Nat)) false, Slot.v (AVal.gp m2 (0 : Nat)) false,
            Slot.v (AVal.gp m3 (0 : Nat)) false, Slot.v (AVal.gp m4 (0 : Nat)) false, Slot.v a5 false,
            Slot.v (AVal.at (Value.int IntKind.i64 n6)) false,
            Slot.v (AVal.at (Value.int IntKind.i64 (IntKind.i64.wrap (n7 + (1 : Int))))) false]
            [none, none, none, none, none, none, none, none]
            (RVal.sg ((List.set sg p.fst (Box.map es)).set p_2.fst (Box.map es_1)))))
            fun x x_1 => none
          else
          withO (storeG none sg' (AVal.gp m2 (0 : Nat)) (1 : Nat) (AVal.at (Value.bool false))) fun (sg : Sg) =>
           withO (loadC none sg (AVal.gp m3 (0 : Nat))) fun p =>
           withA p.fst[p.snd]? fun (r : AVal) =>
            withA (plainA r) fun (m : AVal) =>
            withO (mapV sg m) fun (p : Nat × List (AVal × AVal)) =>
            withO (mSet (AVal.at (Value.int IntKind.i64 n)) (AVal.at (Value.bool true)) p.snd) fun (es : List (AVal × AVal)) =>
            withO (loadC none (List.set sg p.fst (Box.map es)) (AVal.gp m1 (0 : Nat))) fun (p_1 : List AVal × Nat) =>
            withA p_1.fst[p_1.snd]? fun (r : AVal) =>
            withOut (bif Nat.blt (24 : Nat) (1000000 : Nat) then C (24 : FuncId) [ofConst (Value.int IntKind.u8 (0 : Int))] [] else none)
            (fun v x =>
            withS (some v) fun (s : ByteArray) =>
            withA (plainA r) fun (m : AVal) =>
            withO (mapV (List.set sg p.fst (Box.map es)) m) fun (p_2 : Nat × List (AVal × AVal)) =>
            withO (mSet (AVal.at (Value.int IntKind.i64 n)) (AVal.at (Value.string s)) p_2.snd) fun (es_1 : List (AVal × AVal)) =>
            k Ex.normal
            (mkS [(0 : Nat), (2 : Nat), (3 : Nat), (4 : Nat), (5 : Nat), (11 : Nat), (12 : Nat), (13 : Nat)]
            [Slot.v (AVal.gp m0 (0 : Nat)) false, Slot.v (AVal.gp m1 (0 : Nat)) false, Slot.v (AVal.gp m2 (0 : Nat)) false,
            Slot.v (AVal.gp m3 (0 : Nat)) false, Slot.v (AVal.gp m4 (0 : Nat)) false, Slot.v a5 false,
            Slot.v (AVal.at (Value.int IntKind.i64 n6)) false, Slot.v (AVal.at (Value.int IntKind.i64 (IntKind.i64.wrap (n7 + (1 : Int))))) false]
            [none, none, none, none, none, none, none, none] (RVal.sg ((List.set sg p.fst (Box.map es)).set p_2.fst (Box.map es_1)))))
            fun x x_1 => none)
        fun v sg' => some (Out.pan v sg')
       else
       if (n == (3 : Int)) = true then
        withI IntKind.i64 cs[(1 : Nat)]? fun (n : Int) =>
        withOut (bif Nat.blt (25 : Nat) (1000000 : Nat) then C (25 : FuncId) [AVal.gp m0 (0 : Nat), AVal.at (Value.int IntKind.i64 n)] sg8 else none)
         (fun v sg' =>
         withO (loadC none sg' (AVal.gp m2 (0 : Nat))) fun p =>
          withB p.fst[p.snd]? fun (b : Bool) =>
          if b = true then
           withO (loadC none sg' (AVal.gp m3 (0 : Nat))) fun p =>
           withA p.fst[p.snd]? fun (r : AVal) =>
            withI IntKind.i64 cs[(1 : Nat)]? fun (n : Int) =>
            withA (plainA r) fun (m : AVal) =>
            withO (mapV sg' m) fun (p : Nat × List (AVal × AVal)) =>
            withO (mGet (AVal.at (Value.int IntKind.i64 n)) p.snd) fun (r : Option AVal) =>
            withA (plainA (getOr [AVal.at (Value.bool false)] false r)) fun (x : AVal) =>
            withA (plainA x) fun (v : AVal) =>
            withO (storeG none sg' (AVal.gp m2 (0 : Nat)) (1 : Nat) v) fun (sg : Sg) =>
            withO (loadC none sg (AVal.gp m3 (0 : Nat))) fun p =>
            withA p.fst[p.snd]? fun (r : AVal) =>
            withI IntKind.i64 cs[(1 : Nat)]? fun (n : Int) =>
            withA (plainA r) fun (m : AVal) =>
            withO (mapV sg m) fun (p : Nat × List (AVal × AVal)) =>
            withO (mDel (AVal.at (Value.int IntKind.i64 n)) p.snd) fun (es : List (AVal × AVal)) =>
            k Ex.normal
            (mkS [(0 : Nat), (2 : Nat), (3 : Nat), (4 : Nat), (5 : Nat), (11 : Nat), (12 : Nat), (13 : Nat)]
            [Slot.v (AVal.gp m0 (0 : Nat)) false, Slot.v (AVal.gp m1 (0 : Nat)) false, Slot.v (AVal.gp m2 (0 : Nat)) false,
            Slot.v (AVal.gp m3 (0 : Nat)) false, Slot.v (AVal.gp m4 (0 : Nat)) false, Slot.v a5 false,
            Slot.v (AVal.at (Value.int IntKind.i64 n6)) false,
            Slot.v (AVal.at (Value.int IntKind.i64 (IntKind.i64.wrap (n7 + (1 : Int))))) false]
            [none, none, none, none, none, none, none, none] (RVal.sg (List.set sg p.fst (Box.map es))))
          else
           withO (storeG none sg' (AVal.gp m2 (0 : Nat)) (1 : Nat) (AVal.at (Value.bool false))) fun (sg : Sg) =>
           withO (loadC none sg (AVal.gp m3 (0 : Nat))) fun p =>
            withA p.fst[p.snd]? fun (r : AVal) =>
            withI IntKind.i64 cs[(1 : Nat)]? fun (n : Int) =>
            withA (plainA r) fun (m : AVal) =>
            withO (mapV sg m) fun (p : Nat × List (AVal × AVal)) =>
            withO (mDel (AVal.at (Value.int IntKind.i64 n)) p.snd) fun (es : List (AVal × AVal)) =>
            k Ex.normal
            (mkS [(0 : Nat), (2 : Nat), (3 : Nat), (4 : Nat), (5 : Nat), (11 : Nat), (12 : Nat), (13 : Nat)]
            [Slot.v (AVal.gp m0 (0 : Nat)) false, Slot.v (AVal.gp m1 (0 : Nat)) false, Slot.v (AVal.gp m2 (0 : Nat)) false, Slot.v (AVal.gp m3 (0 : Nat)) false,
            Slot.v (AVal.gp m4 (0 : Nat)) false, Slot.v a5 false, Slot.v (AVal.at (Value.int IntKind.i64 n6)) false,
            Slot.v (AVal.at (Value.int IntKind.i64 (IntKind.i64.wrap (n7 + (1 : Int))))) false]
            [none, none, none, none, none, none, none, none] (RVal.sg (List.set sg p.fst (Box.map es)))))
         fun v sg' => some (Out.pan v sg')
       else
        if (n == (5 : Int)) = true then
        withI IntKind.i64 cs[(1 : Nat)]? fun (n : Int) =>
         withOut (bif Nat.blt (26 : Nat) (1000000 : Nat) then C (26 : FuncId) [AVal.gp m0 (0 : Nat), AVal.at (Value.int IntKind.i64 n)] sg8 else none)
         (fun v x =>
          k Ex.normal
          (mkS [(0 : Nat), (2 : Nat), (3 : Nat), (4 : Nat), (5 : Nat), (11 : Nat), (12 : Nat), (13 : Nat)]
           [Slot.v (AVal.gp m0 (0 : Nat)) false, Slot.v (AVal.gp m1 (0 : Nat)) false, Slot.v (AVal.gp m2 (0 : Nat)) false, Slot.v (AVal.gp m3 (0 : Nat)) false,
           Slot.v (AVal.gp m4 (0 : Nat)) false, Slot.v a5 false, Slot.v (AVal.at (Value.int IntKind.i64 n6)) false,
           Slot.v (AVal.at (Value.int IntKind.i64 (IntKind.i64.wrap (n7 + (1 : Int))))) false]
           [none, none, none, none, none, none, none, none] (RVal.sg sg8)))
         fun v x => some (Out.pan v sg8)
        else
        k Ex.normal
         (mkS [(0 : Nat), (2 : Nat), (3 : Nat), (4 : Nat), (5 : Nat), (11 : Nat), (12 : Nat), (13 : Nat)]
         [Slot.v (AVal.gp m0 (0 : Nat)) false, Slot.v (AVal.gp m1 (0 : Nat)) false, Slot.v (AVal.gp m2 (0 : Nat)) false, Slot.v (AVal.gp m3 (0 : Nat)) false,
          Slot.v (AVal.gp m4 (0 : Nat)) false, Slot.v a5 false, Slot.v (AVal.at (Value.int IntKind.i64 n6)) false,
          Slot.v (AVal.at (Value.int IntKind.i64 (IntKind.i64.wrap (n7 + (1 : Int))))) false]
         [none, none, none, none, none, none, none, none] (RVal.sg sg8))
     else none
    else none
  else
   k (Ex.exit (0 : Nat))
   (mkS [(0 : Nat), (3 : Nat), (4 : Nat), (5 : Nat)]
    [Slot.v (AVal.gp m0 (0 : Nat)) false, Slot.v (AVal.gp m2 (0 : Nat)) false, Slot.v (AVal.gp m3 (0 : Nat)) false, Slot.v (AVal.gp m4 (0 : Nat)) false] [none, none, none, none] (RVal.sg sg8)) := by kernel_rfl
theorem law11_HeapOnce_1.k0_1 (C : CallF) (N : Nat) (m0 : Nat) (m1 : Nat) (m2 : Nat) (m3 : Nat) (sg4 : Sg) :
  law11_HeapOnce_1.K0 C N (Ex.exit (0 : Nat))
   (mkS [(0 : Nat), (3 : Nat), (4 : Nat), (5 : Nat)] [Slot.v (AVal.gp m0 (0 : Nat)) false, Slot.v (AVal.gp m1 (0 : Nat)) false, Slot.v (AVal.gp m2 (0 : Nat)) false, Slot.v (AVal.gp m3 (0 : Nat)) false]
   [none, none, none, none] (RVal.sg sg4)) =
  withO (loadC none sg4 (AVal.gp m1 (0 : Nat))) fun p =>
   withB p.fst[p.snd]? fun (b : Bool) =>
   if b = true then
    withOut (bif Nat.blt (27 : Nat) (1000000 : Nat) then C (27 : FuncId) [AVal.gp m0 (0 : Nat)] sg4 else none)
    (fun v x =>
     withI IntKind.i64 (some v) fun (n : Int) =>
     withO (loadC none sg4 (AVal.gp m3 (0 : Nat))) fun p =>
      withI IntKind.i64 p.fst[p.snd]? fun (n_1 : Int) =>
      withO (loadC none sg4 (AVal.gp m2 (0 : Nat))) fun p =>
       withA p.fst[p.snd]? fun (r : AVal) =>
       withA (plainA r) fun (m : AVal) =>
        withO (mapV sg4 m) fun (p : Nat × List (AVal × AVal)) =>
        withO (storeG none sg4 (AVal.gp m1 (0 : Nat)) (1 : Nat) (AVal.at (Value.bool (n == IntKind.i64.wrap (IntKind.i64.wrap (n_1 - (2 : Int)) - (↑p.snd.length : Int))))))
         fun (sg : Sg) => some (Out.ret (AVal.tup []) sg))
    fun v x => none
   else withO (storeG none sg4 (AVal.gp m1 (0 : Nat)) (1 : Nat) (AVal.at (Value.bool false))) fun (sg : Sg) => some (Out.ret (AVal.tup []) sg) := by kernel_rfl


/-! 21 (wharfage/wharfagelaw11.Act).text -/
theorem law11_Act_text.main (C : CallF) (N : Nat) (n0 : Int) (n1 : Int) (n2 : Int) (b3 : Bool) (sg4 : Sg) :
  evalF C N law11_Act_text.a [AVal.agg [AVal.at (Value.int IntKind.i64 n0), AVal.at (Value.int IntKind.i64 n1), AVal.at (Value.int IntKind.u8 n2), AVal.at (Value.bool b3)]] sg4 =
  withB [AVal.at (Value.int IntKind.i64 n0), AVal.at (Value.int IntKind.i64 n1), AVal.at (Value.int IntKind.u8 n2), AVal.at (Value.bool b3)][(3 : Nat)]? fun (b : Bool) =>
   if b = true then
   withI IntKind.u8 [AVal.at (Value.int IntKind.i64 n0), AVal.at (Value.int IntKind.i64 n1), AVal.at (Value.int IntKind.u8 n2), AVal.at (Value.bool b3)][(2 : Nat)]? fun (n : Int) =>
    withOut (bif Nat.blt (24 : Nat) (1000000 : Nat) then C (24 : FuncId) [AVal.at (Value.int IntKind.u8 n)] [] else none)
    (fun v x =>
     withS (some v) fun (s : ByteArray) =>
     if (0 : Int) ≤ (1 : Int) ∧ (1 : Int) ≤ (↑s.size : Int) ∧ (↑s.size : Int) ≤ (↑s.size : Int) then
      some (Out.ret (AVal.at (Value.string (cutS s (Int.toNat (1 : Int)) (↑s.size : Int).toNat))) sg4)
     else none)
    fun x x_1 => none
   else
   withI IntKind.u8 [AVal.at (Value.int IntKind.i64 n0), AVal.at (Value.int IntKind.i64 n1), AVal.at (Value.int IntKind.u8 n2), AVal.at (Value.bool b3)][(2 : Nat)]? fun (n : Int) =>
    withOut (bif Nat.blt (24 : Nat) (1000000 : Nat) then C (24 : FuncId) [AVal.at (Value.int IntKind.u8 n)] [] else none)
    (fun v x => withS (some v) fun (s : ByteArray) => some (Out.ret (AVal.at (Value.string s)) sg4)) fun x x_1 => none := by kernel_rfl


/-! 28 wharfage/wharfageref03.Same -/
theorem ref03_Same.main (C : CallF) (N : Nat) (a0 : AVal) (a1 : AVal) (sg2 : Sg) :
  evalF C N ref03_Same.a [a0, a1] sg2 =
  withO (lenV a0) fun (n : Nat) =>
   withO (lenV a1) fun (n_1 : Nat) =>
   if ((↑n : Int) != (↑n_1 : Int)) = true then some (Out.ret (AVal.at (Value.bool false)) sg2)
   else
    iter (ref03_Same.R0 C N) N (mkS [(0 : Nat), (1 : Nat), (5 : Nat)] [Slot.v a0 false, Slot.v a1 false, Slot.v (AVal.at (Value.int IntKind.i64 (0 : Int))) false] [none, none, none] (RVal.sg sg2))
    (ref03_Same.K0 C N) := by kernel_rfl
theorem ref03_Same.r0 (C : CallF) (N : Nat) (a0 : AVal) (a1 : AVal) (n2 : Int) (sg3 : Sg) (k : Ex → St → R) :
  ref03_Same.R0 C N (mkS [(0 : Nat), (1 : Nat), (5 : Nat)] [Slot.v a0 false, Slot.v a1 false, Slot.v (AVal.at (Value.int IntKind.i64 n2)) false] [none, none, none] (RVal.sg sg3)) k =
  withO (lenV a0) fun (n : Nat) =>
   if decide (n2 < (↑n : Int)) = true then
   withO (elemV (1 : Nat) n2 a0) fun (r : AVal) =>
    withO (loadC none sg3 r) fun p =>
    withS p.fst[p.snd]? fun (s : ByteArray) =>
     withO (elemV (1 : Nat) n2 a1) fun (r : AVal) =>
     withO (loadC none sg3 r) fun p =>
      withS p.fst[p.snd]? fun (s_1 : ByteArray) =>
      if (!eqS s s_1) = true then k Ex.ret (mkS [(4 : Nat)] [Slot.v (AVal.at (Value.bool false)) false] [none] (RVal.sg sg3))
      else
       k Ex.normal
       (mkS [(0 : Nat), (1 : Nat), (5 : Nat)] [Slot.v a0 false, Slot.v a1 false, Slot.v (AVal.at (Value.int IntKind.i64 (IntKind.i64.wrap (n2 + (1 : Int))))) false] [none, none, none]
        (RVal.sg sg3))
   else k (Ex.exit (0 : Nat)) (mkS [] [] [] (RVal.sg sg3)) := by kernel_rfl
theorem ref03_Same.k0_1 (C : CallF) (N : Nat) (b0 : Bool) (sg1 : Sg) :
  ref03_Same.K0 C N Ex.ret (mkS [(4 : Nat)] [Slot.v (AVal.at (Value.bool b0)) false] [none] (RVal.sg sg1)) =
  some (Out.ret (AVal.at (Value.bool b0)) sg1) := by kernel_rfl
theorem ref03_Same.k0_2 (C : CallF) (N : Nat) (sg0 : Sg) :
  ref03_Same.K0 C N (Ex.exit (0 : Nat)) (mkS [] [] [] (RVal.sg sg0)) =
  some (Out.ret (AVal.at (Value.bool true)) sg0) := by kernel_rfl


end Go.Abs
