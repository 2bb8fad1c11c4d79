/- THE RESIDUALS: what each function's evaluation comes to, by the kernel. Printed by a program of my own. -/
import Derived.Test.YtimoaolannkpcaaGreatCodeP
import Derived.Test.YtimoaolannkpcaaGreatEngC
import Derived.KernelRfl
set_option linter.unusedVariables false
set_option linter.unusedSimpArgs false
set_option linter.unusedSectionVars false
namespace Go.Abs
set_option maxRecDepth 100000
set_option linter.unusedVariables false
variable (C : CallF) (N : Nat)
theorem law09_texts.k0_2 (a0 : AVal) (sg1 : Sg) :
  law09_texts.K0 C N (.exit 0) (mkS [3] [.v a0 false] [none] (.sg sg1)) =
  withA (jk a0) fun a => some (.ret a sg1) := by kernel_rfl
theorem law08_Images.main (a0 : AVal) (sg1 : Sg) :
  evalF C N law08_Images.a [a0] sg1 =
  withO (lenV a0) fun n =>
  iter (law08_Images.R0 C N) N
  (mkS [3, 7, 8, 9]
  [.v (.sl true 2 []) true, .v a0 false, .v (.at (.int .i64 (↑n : Int))) false, .v (.at (.int .i64 (0 : Int))) false]
  [none, none, none, none] (.sg sg1))
  (law08_Images.K0 C N) := by kernel_rfl
theorem law08_Images.r0 (b0 : Bool) (l1 : List AVal) (a2 : AVal) (n3 : Int) (n4 : Int) (sg5 : Sg) (k : Ex → St → R) :
  law08_Images.R0 C N
  (mkS [3, 7, 8, 9]
  [.v (.sl b0 2 l1) true, .v a2 false, .v (.at (.int .i64 n3)) false, .v (.at (.int .i64 n4)) false] [none, none, none, none]
  (.sg sg5))
  k =
  if decide (n4 < n3) = true then
  withO (elemV 3 n4 a2) fun r =>
  withO (loadC none sg5 r) fun p =>
  bif (p.snd + 3).ble p.fst.length then
  bindL (List.take 3 (List.drop p.snd p.fst)) fun l =>
  bif (AVal.agg l).cells.length.beq 3 then
  bindL (splice [.at (.int .i64 (0 : Int)), .at (.int .u8 (0 : Int)), .at (.bool false)] 0 (AVal.agg l).cells) fun cs =>
  withI .u8 cs[1]? fun n =>
  withOut (bif Nat.blt 24 1000000 then C (24 : FuncId) [.at (.int .u8 n)] [] else none)
  (fun v x =>
  withS (some v) fun s =>
  withB cs[2]? fun b =>
  if b = true then
  if (0 : Int) ≤ (1 : Int) ∧ (1 : Int) ≤ (↑s.size : Int) ∧ (↑s.size : Int) ≤ (↑s.size : Int) then
  withI .i64 cs[0]? fun n =>
  bif true && Nat.blt 0 2 then
  withO
  (flatG (sg5 ++ [Box.mk [.at (.int .i64 n), .at (.string (cutS s (Int.toNat (1 : Int)) (↑s.size : Int).toNat))]]) 2
  (AVal.gs (List.length sg5) 2 0 1))
  fun p =>
  bif p.fst.beq 0 then
  k .normal
  (mkS [3, 7, 8, 9]
  [.v (.sl b0 2 l1) false, .v a2 false, .v (.at (.int .i64 n3)) false,
  .v (.at (.int .i64 (IntKind.i64.wrap (n4 + (1 : Int))))) false]
  [none, none, none, none]
  (.sg (sg5 ++ [Box.mk [.at (.int .i64 n), .at (.string (cutS s (Int.toNat (1 : Int)) (↑s.size : Int).toNat))]])))
  else
  if p.fst * 24 ≤ 35184372088832 then
  withO
  (app1 none 2 24
  (sg5 ++ [Box.mk [.at (.int .i64 n), .at (.string (cutS s (Int.toNat (1 : Int)) (↑s.size : Int).toNat))]]) (.sl b0 2 l1)
  p.fst p.snd)
  fun q =>
  k .normal
  (mkS [3, 7, 8, 9]
  [.v q.fst false, .v a2 false, .v (.at (.int .i64 n3)) false,
  .v (.at (.int .i64 (IntKind.i64.wrap (n4 + (1 : Int))))) false]
  [none, none, none, none] (.sg q.snd))
  else none
  else none
  else none
  else
  withI .i64 cs[0]? fun n =>
  bif true && Nat.blt 0 2 then
  withO (flatG (sg5 ++ [Box.mk [.at (.int .i64 n), .at (.string s)]]) 2 (AVal.gs (List.length sg5) 2 0 1))
  fun p =>
  bif p.fst.beq 0 then
  k .normal
  (mkS [3, 7, 8, 9]
  [.v (.sl b0 2 l1) false, .v a2 false, .v (.at (.int .i64 n3)) false,
  .v (.at (.int .i64 (IntKind.i64.wrap (n4 + (1 : Int))))) false]
  [none, none, none, none] (.sg (sg5 ++ [Box.mk [.at (.int .i64 n), .at (.string s)]])))
  else
  if p.fst * 24 ≤ 35184372088832 then
  withO (app1 none 2 24 (sg5 ++ [Box.mk [.at (.int .i64 n), .at (.string s)]]) (.sl b0 2 l1) p.fst p.snd)
  fun q =>
  k .normal
  (mkS [3, 7, 8, 9]
  [.v q.fst false, .v a2 false, .v (.at (.int .i64 n3)) false,
  .v (.at (.int .i64 (IntKind.i64.wrap (n4 + (1 : Int))))) false]
  [none, none, none, none] (.sg q.snd))
  else none
  else none)
  fun x x_1 => none
  else none
  else none
  else k (.exit 0) (mkS [3] [.v (.sl b0 2 l1) true] [none] (.sg sg5)) := by kernel_rfl
theorem law08_Images.k0_1 (b0 : Bool) (l1 : List AVal) (sg2 : Sg) :
  law08_Images.K0 C N (.exit 0) (mkS [3] [.v (.sl b0 2 l1) true] [none] (.sg sg2)) =
  some (.ret (.sl b0 2 l1) sg2) := by kernel_rfl
theorem law08_Images.r0_2 (a0 : AVal) (a1 : AVal) (n2 : Int) (n3 : Int) (sg4 : Sg) (k : Ex → St → R) :
  law08_Images.R0 C N
  (mkS [3, 7, 8, 9] [.v a0 false, .v a1 false, .v (.at (.int .i64 n2)) false, .v (.at (.int .i64 n3)) false]
  [none, none, none, none] (.sg sg4))
  k =
  if decide (n3 < n2) = true then
  withO (elemV 3 n3 a1) fun r =>
  withO (loadC none sg4 r) fun p =>
  bif (p.snd + 3).ble p.fst.length then
  bindL (List.take 3 (List.drop p.snd p.fst)) fun l =>
  bif (AVal.agg l).cells.length.beq 3 then
  bindL (splice [.at (.int .i64 (0 : Int)), .at (.int .u8 (0 : Int)), .at (.bool false)] 0 (AVal.agg l).cells) fun cs =>
  withI .u8 cs[1]? fun n =>
  withOut (bif Nat.blt 24 1000000 then C (24 : FuncId) [.at (.int .u8 n)] [] else none)
  (fun v x =>
  withS (some v) fun s =>
  withB cs[2]? fun b =>
  if b = true then
  if (0 : Int) ≤ (1 : Int) ∧ (1 : Int) ≤ (↑s.size : Int) ∧ (↑s.size : Int) ≤ (↑s.size : Int) then
  withI .i64 cs[0]? fun n =>
  bif true && Nat.blt 0 2 then
  withO
  (flatG (sg4 ++ [Box.mk [.at (.int .i64 n), .at (.string (cutS s (Int.toNat (1 : Int)) (↑s.size : Int).toNat))]]) 2
  (AVal.gs (List.length sg4) 2 0 1))
  fun p =>
  bif p.fst.beq 0 then
  withO (app0 2 a0) fun r =>
  k .normal
  (mkS [3, 7, 8, 9]
  [.v r false, .v a1 false, .v (.at (.int .i64 n2)) false,
  .v (.at (.int .i64 (IntKind.i64.wrap (n3 + (1 : Int))))) false]
  [none, none, none, none]
  (.sg (sg4 ++ [Box.mk [.at (.int .i64 n), .at (.string (cutS s (Int.toNat (1 : Int)) (↑s.size : Int).toNat))]])))
  else
  if p.fst * 24 ≤ 35184372088832 then
  withO
  (app1 none 2 24
  (sg4 ++ [Box.mk [.at (.int .i64 n), .at (.string (cutS s (Int.toNat (1 : Int)) (↑s.size : Int).toNat))]]) a0 p.fst p.snd)
  fun q =>
  k .normal
  (mkS [3, 7, 8, 9]
  [.v q.fst false, .v a1 false, .v (.at (.int .i64 n2)) false,
  .v (.at (.int .i64 (IntKind.i64.wrap (n3 + (1 : Int))))) false]
  [none, none, none, none] (.sg q.snd))
  else none
  else none
  else none
  else
  withI .i64 cs[0]? fun n =>
  bif true && Nat.blt 0 2 then
  withO (flatG (sg4 ++ [Box.mk [.at (.int .i64 n), .at (.string s)]]) 2 (AVal.gs (List.length sg4) 2 0 1))
  fun p =>
  bif p.fst.beq 0 then
  withO (app0 2 a0) fun r =>
  k .normal
  (mkS [3, 7, 8, 9]
  [.v r false, .v a1 false, .v (.at (.int .i64 n2)) false,
  .v (.at (.int .i64 (IntKind.i64.wrap (n3 + (1 : Int))))) false]
  [none, none, none, none] (.sg (sg4 ++ [Box.mk [.at (.int .i64 n), .at (.string s)]])))
  else
  if p.fst * 24 ≤ 35184372088832 then
  withO (app1 none 2 24 (sg4 ++ [Box.mk [.at (.int .i64 n), .at (.string s)]]) a0 p.fst p.snd) fun q =>
  k .normal
  (mkS [3, 7, 8, 9]
  [.v q.fst false, .v a1 false, .v (.at (.int .i64 n2)) false,
  .v (.at (.int .i64 (IntKind.i64.wrap (n3 + (1 : Int))))) false]
  [none, none, none, none] (.sg q.snd))
  else none
  else none)
  fun x x_1 => none
  else none
  else none
  else k (.exit 0) (mkS [3] [.v a0 false] [none] (.sg sg4)) := by kernel_rfl
theorem law08_Images.k0_2 (a0 : AVal) (sg1 : Sg) :
  law08_Images.K0 C N (.exit 0) (mkS [3] [.v a0 false] [none] (.sg sg1)) =
  withA (jk a0) fun a => some (.ret a sg1) := by kernel_rfl
theorem law08_Ours.main (a0 : AVal) (sg1 : Sg) :
  evalF C N law08_Ours.a [a0] sg1 =
  withO (lenV a0) fun n =>
  iter (law08_Ours.R0 C N) N
  (mkS [3, 6, 7, 8]
  [.v (.sl true 2 []) true, .v a0 false, .v (.at (.int .i64 (↑n : Int))) false, .v (.at (.int .i64 (0 : Int))) false]
  [none, none, none, none] (.sg sg1))
  (law08_Ours.K0 C N) := by kernel_rfl
theorem law08_Ours.r0 (b0 : Bool) (l1 : List AVal) (a2 : AVal) (n3 : Int) (n4 : Int) (sg5 : Sg) (k : Ex → St → R) :
  law08_Ours.R0 C N
  (mkS [3, 6, 7, 8]
  [.v (.sl b0 2 l1) true, .v a2 false, .v (.at (.int .i64 n3)) false, .v (.at (.int .i64 n4)) false] [none, none, none, none]
  (.sg sg5))
  k =
  if decide (n4 < n3) = true then
  withO (elemV 2 n4 a2) fun r =>
  withO (loadC none sg5 r) fun p =>
  bif (p.snd + 2).ble p.fst.length then
  bindL (List.take 2 (List.drop p.snd p.fst)) fun l =>
  bif (AVal.agg l).cells.length.beq 2 then
  bindL (splice [.at (.int .i64 (0 : Int)), .at (.string (ByteArray.mk (#[])))] 0 (AVal.agg l).cells) fun cs =>
  withI .i64 cs[0]? fun n =>
  withS cs[1]? fun s =>
  bif true && Nat.blt 0 2 then
  withO (flatG (sg5 ++ [Box.mk [.at (.int .i64 n), .at (.string s)]]) 2 (AVal.gs (List.length sg5) 2 0 1))
  fun p =>
  bif p.fst.beq 0 then
  k .normal
  (mkS [3, 6, 7, 8]
  [.v (.sl b0 2 l1) false, .v a2 false, .v (.at (.int .i64 n3)) false,
  .v (.at (.int .i64 (IntKind.i64.wrap (n4 + (1 : Int))))) false]
  [none, none, none, none] (.sg (sg5 ++ [Box.mk [.at (.int .i64 n), .at (.string s)]])))
  else
  if p.fst * 24 ≤ 35184372088832 then
  withO (app1 none 2 24 (sg5 ++ [Box.mk [.at (.int .i64 n), .at (.string s)]]) (.sl b0 2 l1) p.fst p.snd)
  fun q =>
  k .normal
  (mkS [3, 6, 7, 8]
  [.v q.fst false, .v a2 false, .v (.at (.int .i64 n3)) false,
  .v (.at (.int .i64 (IntKind.i64.wrap (n4 + (1 : Int))))) false]
  [none, none, none, none] (.sg q.snd))
  else none
  else none
  else none
  else none
  else k (.exit 0) (mkS [3] [.v (.sl b0 2 l1) true] [none] (.sg sg5)) := by kernel_rfl
theorem law08_Ours.k0_1 (b0 : Bool) (l1 : List AVal) (sg2 : Sg) :
  law08_Ours.K0 C N (.exit 0) (mkS [3] [.v (.sl b0 2 l1) true] [none] (.sg sg2)) =
  some (.ret (.sl b0 2 l1) sg2) := by kernel_rfl
theorem law08_Ours.r0_2 (a0 : AVal) (a1 : AVal) (n2 : Int) (n3 : Int) (sg4 : Sg) (k : Ex → St → R) :
  law08_Ours.R0 C N
  (mkS [3, 6, 7, 8] [.v a0 false, .v a1 false, .v (.at (.int .i64 n2)) false, .v (.at (.int .i64 n3)) false]
  [none, none, none, none] (.sg sg4))
  k =
  if decide (n3 < n2) = true then
  withO (elemV 2 n3 a1) fun r =>
  withO (loadC none sg4 r) fun p =>
  bif (p.snd + 2).ble p.fst.length then
  bindL (List.take 2 (List.drop p.snd p.fst)) fun l =>
  bif (AVal.agg l).cells.length.beq 2 then
  bindL (splice [.at (.int .i64 (0 : Int)), .at (.string (ByteArray.mk (#[])))] 0 (AVal.agg l).cells) fun cs =>
  withI .i64 cs[0]? fun n =>
  withS cs[1]? fun s =>
  bif true && Nat.blt 0 2 then
  withO (flatG (sg4 ++ [Box.mk [.at (.int .i64 n), .at (.string s)]]) 2 (AVal.gs (List.length sg4) 2 0 1))
  fun p =>
  bif p.fst.beq 0 then
  withO (app0 2 a0) fun r =>
  k .normal
  (mkS [3, 6, 7, 8]
  [.v r false, .v a1 false, .v (.at (.int .i64 n2)) false, .v (.at (.int .i64 (IntKind.i64.wrap (n3 + (1 : Int))))) false]
  [none, none, none, none] (.sg (sg4 ++ [Box.mk [.at (.int .i64 n), .at (.string s)]])))
  else
  if p.fst * 24 ≤ 35184372088832 then
  withO (app1 none 2 24 (sg4 ++ [Box.mk [.at (.int .i64 n), .at (.string s)]]) a0 p.fst p.snd) fun q =>
  k .normal
  (mkS [3, 6, 7, 8]
  [.v q.fst false, .v a1 false, .v (.at (.int .i64 n2)) false,
  .v (.at (.int .i64 (IntKind.i64.wrap (n3 + (1 : Int))))) false]
  [none, none, none, none] (.sg q.snd))
  else none
  else none
  else none
  else none
  else k (.exit 0) (mkS [3] [.v a0 false] [none] (.sg sg4)) := by kernel_rfl
theorem law08_Ours.k0_2 (a0 : AVal) (sg1 : Sg) :
  law08_Ours.K0 C N (.exit 0) (mkS [3] [.v a0 false] [none] (.sg sg1)) =
  withA (jk a0) fun a => some (.ret a sg1) := by kernel_rfl
theorem disk_Disk_Arm.main (m0 : Nat) (n1 : Int) (sg2 : Sg) :
  evalF C N disk_Disk_Arm.a [.gp m0 0, .at (.int .i64 n1)] sg2 =
  if (true ^^ false) = true then
  withO (storeG none sg2 (AVal.gp m0 2) 1 (.at (.int .i64 (bif true then max2 n1 (0 : Int) else min2 n1 (0 : Int))))) fun sg => some (.ret (.tup []) sg)
  else some (.ret (.tup []) sg2) := by kernel_rfl
theorem disk_Disk_Up.main (m0 : Nat) (a1 : AVal) (sg2 : Sg) :
  evalF C N disk_Disk_Up.a [.gp m0 0, a1] sg2 =
  withA (plainA a1) fun a =>
  if (false ^^ false) = true then some (.ret (.at (.int .i64 (0 : Int))) (sg2 ++ [Box.mk a.cells]))
  else
  withO (storeG none (sg2 ++ [Box.mk a.cells]) (AVal.gp m0 3) 1 (.at (.bool false))) fun sg =>
  withO (storeG none sg (AVal.gp m0 2) 1 (.at (.int .i64 (0 : Int)))) fun sg =>
  withOut (bif Nat.blt 150 1000000 then C (150 : FuncId) [.gp m0 0, AVal.clo 151 [] [.gp (List.length sg2) 0]] sg else none)
  (fun v sg' => withI .i64 (some v) fun n => some (.ret (.at (.int .i64 n)) sg')) fun v sg' => some (.pan v sg') := by kernel_rfl
theorem pages_open.main (m0 : Nat) (sg1 : Sg) :
  evalF C N pages_open.a [.gp m0 0] sg1 =
  withOut (bif Nat.blt 239 1000000 then C (239 : FuncId) [.gp m0 0, ofConst (Value.int IntKind.i64 (0 : Int))] sg1 else none)
  (fun v sg' =>
  withT v fun vs =>
  bif vs.length.beq 2 then
  withS vs[0]? fun s =>
  withI .i64 vs[1]? fun n =>
  if (n != (0 : Int)) = true then some (.ret (.tup [.at (.pointer none), .at (.int .u64 (0 : Int)), .at (.int .i64 n)]) sg')
  else
  withOut (bif Nat.blt 240 1000000 then C (240 : FuncId) [.at (.string s)] [] else none)
  (fun v x =>
  withT v fun vs =>
  bif vs.length.beq 2 then
  withG vs[0]? fun cs =>
  withI .i64 vs[1]? fun n =>
  bif noG (AVal.tup [AVal.agg cs, .at (.int .i64 n)]) then
  bif (AVal.agg cs).cells.length.beq 6 then
  bindL
  (splice
  [.at (.int .i64 (0 : Int)), .at (.int .u64 (0 : Int)), .at (.int .u64 (0 : Int)),
  .at (.int .i64 (0 : Int)), .at (.int .i64 (0 : Int)), .at (.string (ByteArray.mk (#[])))]
  0 (AVal.agg cs).cells)
  fun cs =>
  if (n != (0 : Int)) = true then
  some (.ret (.tup [.at (.pointer none), .at (.int .u64 (0 : Int)), .at (.int .i64 n)]) sg')
  else
  withI .i64 cs[3]? fun n =>
  withI .i64 cs[4]? fun n_1 =>
  withOut (bif Nat.blt 41 1000000 then C (41 : FuncId) [.at (.int .i64 n), .at (.int .i64 n_1)] [] else none)
  (fun v x =>
  withT v fun vs =>
  bif vs.length.beq 2 then
  withI .i64 vs[0]? fun n =>
  withI .i64 vs[1]? fun n_2 =>
  withI .i64 cs[3]? fun n_3 =>
  withI .i64 cs[4]? fun n_4 =>
  withI .u64 cs[1]? fun n_5 =>
  withOut
  (bif Nat.blt 237 1000000 then
  C (237 : FuncId) [.at (.int .i64 n_3), .at (.int .i64 n_4), .at (.int .u64 n_5)] []
  else none)
  (fun v x =>
  withT v fun vs =>
  bif vs.length.beq 2 then
  withS vs[0]? fun s_1 =>
  withI .i64 vs[1]? fun n_6 =>
  if (n_2 != (0 : Int)) = false then
  withOut (bif Nat.blt 129 1000000 then C (129 : FuncId) [.gp m0 0] sg' else none)
  (fun v x =>
  withI .i64 (some v) fun n_7 =>
  if (n != n_7) = false then
  if (!eqS s s_1) = true then
  some
  (Out.ret
  (AVal.tup
  [.at (.pointer none), .at (.int .u64 (0 : Int)),
  .at (.int .i64 (19 : Int))])
  sg')
  else
  withI .i64 cs[3]? fun n =>
  withI .i64 cs[4]? fun n_8 =>
  withOut
  (bif Nat.blt 133 1000000 then
  C (133 : FuncId) [.gp m0 0, .at (.int .i64 n), .at (.int .i64 n_8)]
  sg'
  else none)
  (fun v sg' =>
  withI .u64 cs[1]? fun n =>
  withA (jk v) fun a =>
  some
  (Out.ret (AVal.tup [a, .at (.int .u64 n), .at (.int .i64 (0 : Int))])
  sg'))
  fun v sg' => none
  else
  some
  (Out.ret
  (AVal.tup
  [.at (.pointer none), .at (.int .u64 (0 : Int)),
  .at (.int .i64 (19 : Int))])
  sg'))
  fun v x => some (.pan v sg')
  else
  some
  (Out.ret
  (AVal.tup
  [.at (.pointer none), .at (.int .u64 (0 : Int)), .at (.int .i64 (19 : Int))])
  sg')
  else none)
  fun x x_1 => none
  else none)
  fun x x_1 => none
  else none
  else none
  else none)
  fun x x_1 => none
  else none)
  fun v sg' => some (.pan v sg') := by kernel_rfl
theorem pages_Store_read.main (m0 : Nat) (sg1 : Sg) :
  evalF C N pages_Store_read.a [.gp m0 0] sg1 =
  withO (loadC none sg1 (AVal.gp m0 2)) fun p =>
  withA p.fst[p.snd]? fun r =>
  withO (lenV r) fun n =>
  iter (pages_Store_read.R0 C N) N
  (mkS [0, 10, 11]
  [.v (.gp m0 0) false, .v (.at (.int .i64 (↑n : Int))) false, .v (.at (.int .i64 (0 : Int))) false] [none, none, none] (.sg sg1))
  (pages_Store_read.K0 C N) := by kernel_rfl
theorem pages_Store_read.r0 (m0 : Nat) (n1 : Int) (n2 : Int) (sg3 : Sg) (k : Ex → St → R) :
  pages_Store_read.R0 C N
  (mkS [0, 10, 11] [.v (.gp m0 0) false, .v (.at (.int .i64 n1)) false, .v (.at (.int .i64 n2)) false]
  [none, none, none] (.sg sg3))
  k =
  if decide (n2 < n1) = true then
  withO (loadC none sg3 (AVal.gp m0 0)) fun p =>
  withA p.fst[p.snd]? fun r =>
  withOut (bif Nat.blt 241 1000000 then C (241 : FuncId) [.gp m0 0, .at (.int .i64 n2)] sg3 else none)
  (fun v x =>
  withI .i64 (some v) fun n =>
  withA (plainA r) fun a =>
  withOut (bif Nat.blt 239 1000000 then C (239 : FuncId) [a, .at (.int .i64 n)] sg3 else none)
  (fun v sg' =>
  withT v fun vs =>
  bif vs.length.beq 2 then
  withS vs[0]? fun s =>
  withI .i64 vs[1]? fun n =>
  if (n != (0 : Int)) = true then k .ret (mkS [2] [.v (.at (.int .i64 n)) false] [none] (.sg sg'))
  else
  withO (loadC none sg' (AVal.gp m0 2)) fun p =>
  withA p.fst[p.snd]? fun r =>
  withOut (bif Nat.blt 242 1000000 then C (242 : FuncId) [.at (.string s), .at (.int .i64 n2)] [] else none)
  (fun v x =>
  withT v fun vs =>
  bif vs.length.beq 2 then
  withS vs[0]? fun s =>
  withI .i64 vs[1]? fun n =>
  withO (elemV 1 n2 r) fun r =>
  withO (storeG none sg' r 1 (.at (.string s))) fun sg =>
  if (n != (0 : Int)) = true then k .ret (mkS [2] [.v (.at (.int .i64 n)) false] [none] (.sg sg))
  else
  k .normal
  (mkS [0, 10, 11]
  [.v (.gp m0 0) false, .v (.at (.int .i64 n1)) false,
  .v (.at (.int .i64 (IntKind.i64.wrap (n2 + (1 : Int))))) false]
  [none, none, none] (.sg sg))
  else none)
  fun x x_1 => none
  else none)
  fun v sg' => none)
  fun v x => none
  else k (.exit 0) (mkS [] [] [] (.sg sg3)) := by kernel_rfl
theorem pages_Store_read.k0_2 (sg0 : Sg) :
  pages_Store_read.K0 C N (.exit 0) (mkS [] [] [] (.sg sg0)) =
  some (.ret (.at (.int .i64 (0 : Int))) sg0) := by kernel_rfl
theorem pages_Store_replay.main (m0 : Nat) (n1 : Int) (sg2 : Sg) :
  evalF C N pages_Store_replay.a [.gp m0 0, .at (.int .u64 n1)] sg2 =
  withO (loadC none sg2 (AVal.gp m0 0)) fun p =>
  withA p.fst[p.snd]? fun r =>
  withO (loadC none sg2 (AVal.gp m0 1)) fun p =>
  withI .i64 p.fst[p.snd]? fun n =>
  withA (plainA r) fun a =>
  withOut (bif Nat.blt 243 1000000 then C (243 : FuncId) [a, .at (.int .i64 n), .at (.int .u64 n1)] sg2 else none)
  (fun v sg' =>
  withT v fun vs =>
  bif vs.length.beq 2 then
  withA vs[0]? fun a =>
  withI .i64 vs[1]? fun n =>
  if (n != (0 : Int)) = true then some (.ret (.at (.int .i64 n)) sg')
  else
  withO (lenV a) fun n =>
  iter (pages_Store_replay.R0 C N) N
  (mkS [0, 25, 26, 27]
  [.v (.gp m0 0) false, .v a false, .v (.at (.int .i64 (↑n : Int))) false, .v (.at (.int .i64 (0 : Int))) false]
  [none, none, none, none] (.sg sg'))
  (pages_Store_replay.K0 C N)
  else none)
  fun v sg' => none := by kernel_rfl
theorem pages_Store_replay.r0 (m0 : Nat) (a1 : AVal) (n2 : Int) (n3 : Int) (sg4 : Sg) (k : Ex → St → R) :
  pages_Store_replay.R0 C N
  (mkS [0, 25, 26, 27]
  [.v (.gp m0 0) false, .v a1 false, .v (.at (.int .i64 n2)) false, .v (.at (.int .i64 n3)) false] [none, none, none, none] (.sg sg4))
  k =
  if decide (n3 < n2) = true then
  withO (elemV 1 n3 a1) fun r =>
  withO (loadC none sg4 r) fun p =>
  withA p.fst[p.snd]? fun r =>
  withA (plainA r) fun a =>
  withOut (bif Nat.blt 140 1000000 then C (140 : FuncId) [.gp m0 0, a] sg4 else none)
  (fun v sg' =>
  withB (some v) fun b =>
  if (!b) = true then k .ret (mkS [4] [.v (.at (.int .i64 (19 : Int))) false] [none] (.sg sg'))
  else
  withA (plainA r) fun a =>
  withOut (bif Nat.blt 143 1000000 then C (143 : FuncId) [.gp m0 0, a] sg' else none)
  (fun v sg' =>
  k .normal
  (mkS [0, 25, 26, 27]
  [.v (.gp m0 0) false, .v a1 false, .v (.at (.int .i64 n2)) false,
  .v (.at (.int .i64 (IntKind.i64.wrap (n3 + (1 : Int))))) false]
  [none, none, none, none] (.sg sg')))
  fun v sg' => some (.pan v sg'))
  fun v sg' => some (.pan v sg')
  else k (.exit 0) (mkS [] [] [] (.sg sg4)) := by kernel_rfl
theorem pages_Store_replay.k0_2 (sg0 : Sg) :
  pages_Store_replay.K0 C N (.exit 0) (mkS [] [] [] (.sg sg0)) =
  some (.ret (.at (.int .i64 (0 : Int))) sg0) := by kernel_rfl
theorem disk_Disk_Up_1.main (n0 : Int) (m1 : Nat) (sg2 : Sg) :
  evalF C N disk_Disk_Up_1.a [.at (.int .i64 n0), .gp m1 0] sg2 =
  withO (loadC none sg2 (AVal.gp m1 0)) fun p =>
  withA p.fst[p.snd]? fun r =>
  withO (lenV r) fun n =>
  if decide (n0 < (↑n : Int)) = true then
  withO (loadC none sg2 (AVal.gp m1 0)) fun p =>
  withA p.fst[p.snd]? fun r =>
  withO (elemV 1 n0 r) fun r => withO (loadC none sg2 r) fun p => withB p.fst[p.snd]? fun b => some (.ret (.at (.bool b)) sg2)
  else some (.ret (.at (.bool false)) sg2) := by kernel_rfl
theorem octets_Open.main (s0 : ByteArray) (sg1 : Sg) :
  evalF C N octets_Open.a [.at (.string s0)] sg1 =
  some (.ret (AVal.gp (List.length sg1) 0) (sg1 ++ [Box.mk [.at (.string s0), .at (.int .i64 (0 : Int))]])) := by kernel_rfl
theorem octets_Reader_Num.main (m0 : Nat) (n1 : Int) (sg2 : Sg) :
  evalF C N octets_Reader_Num.a [.gp m0 0, .at (.int .i64 n1)] sg2 =
  withOut (bif Nat.blt 277 1000000 then C (277 : FuncId) [.at (.int .i64 n1)] [] else none)
  (fun v x =>
  withB (some v) fun b =>
  if (!b) = true then
  withOut (bif Nat.blt 278 1000000 then C (278 : FuncId) [.gp m0 0, .at (.int .i64 (-1 : Int))] sg2 else none)
  (fun v sg' =>
  withS (some v) fun s =>
  iter (octets_Reader_Num.R0 C N) N
  (mkS [5, 14, 15, 16]
  [.v (.at (.int .u64 (0 : Int))) false, Slot.ls 14 0 s.size, .v (.at (.int .i64 (↑s.size : Int))) false,
  .v (.at (.int .i64 (0 : Int))) false]
  [none, some (Box.mk (ofBytes s.data.toList)), none, none] (.sg sg'))
  (octets_Reader_Num.K0 C N))
  fun v sg' => some (.pan v sg')
  else
  withOut (bif Nat.blt 278 1000000 then C (278 : FuncId) [.gp m0 0, .at (.int .i64 n1)] sg2 else none)
  (fun v sg' =>
  withS (some v) fun s =>
  iter (octets_Reader_Num.R0 C N) N
  (mkS [5, 14, 15, 16]
  [.v (.at (.int .u64 (0 : Int))) false, Slot.ls 14 0 s.size, .v (.at (.int .i64 (↑s.size : Int))) false,
  .v (.at (.int .i64 (0 : Int))) false]
  [none, some (Box.mk (ofBytes s.data.toList)), none, none] (.sg sg'))
  (octets_Reader_Num.K0 C N))
  fun v sg' => some (.pan v sg'))
  fun x x_1 => none := by kernel_rfl
theorem octets_Reader_Num.r0 (n0 : Int) (m1 : Nat) (n2 : Int) (n3 : Int) (l4 : List AVal) (sg5 : Sg) (k : Ex → St → R) :
  octets_Reader_Num.R0 C N
  (mkS [5, 14, 15, 16]
  [.v (.at (.int .u64 n0)) false, Slot.ls 14 0 m1, .v (.at (.int .i64 n2)) false, .v (.at (.int .i64 n3)) false]
  [none, some (Box.mk l4), none, none] (.sg sg5))
  k =
  if decide (n3 < n2) = true then
  if (0 : Int) ≤ n3 ∧ n3 < (↑m1 : Int) then
  withI .u8 l4[0 + n3.toNat * 1]? fun n =>
  if (8 : Int) < (0 : Int) then none
  else
  k .normal
  (mkS [5, 14, 15, 16]
  [.v (.at (.int .u64 (bitsI BinOp.or IntKind.u64 (shiftI BinOp.shl IntKind.u64 n0 (8 : Int)) (IntKind.u64.wrap n)))) false, Slot.ls 14 0 m1,
  .v (.at (.int .i64 n2)) false, .v (.at (.int .i64 (IntKind.i64.wrap (n3 + (1 : Int))))) false]
  [none, some (Box.mk l4), none, none] (.sg sg5))
  else none
  else k (.exit 0) (mkS [5] [.v (.at (.int .u64 n0)) false] [none] (.sg sg5)) := by kernel_rfl
theorem octets_Reader_Num.k0_1 (n0 : Int) (sg1 : Sg) :
  octets_Reader_Num.K0 C N (.exit 0) (mkS [5] [.v (.at (.int .u64 n0)) false] [none] (.sg sg1)) =
  some (.ret (.at (.int .u64 n0)) sg1) := by kernel_rfl
theorem sector_Open.main (s0 : ByteArray) (sg1 : Sg) :
  evalF C N sector_Open.a [.at (.string s0)] sg1 =
  withOut (bif Nat.blt 186 1000000 then C (186 : FuncId) [.at (.string s0)] sg1 else none)
  (fun v sg' =>
  withA (plainA v) fun a =>
  withOut (bif Nat.blt 187 1000000 then C (187 : FuncId) [a, ofConst (Value.int IntKind.i64 (1 : Int))] sg' else none)
  (fun (v_1 : AVal) (sg' : Sg) =>
  withI .u64 (some v_1) fun n =>
  withA (plainA v) fun a =>
  withOut (bif Nat.blt 187 1000000 then C (187 : FuncId) [a, ofConst (Value.int IntKind.i64 (1 : Int))] sg' else none)
  (fun (v_2 : AVal) (sg' : Sg) =>
  withI .u64 (some v_2) fun n_1 =>
  withA (plainA v) fun a =>
  withOut (bif Nat.blt 187 1000000 then C (187 : FuncId) [a, ofConst (Value.int IntKind.i64 (2 : Int))] sg' else none)
  (fun (v_3 : AVal) (sg' : Sg) =>
  withI .u64 (some v_3) fun n_2 =>
  withA (plainA v) fun a =>
  withOut (bif Nat.blt 187 1000000 then C (187 : FuncId) [a, ofConst (Value.int IntKind.i64 (2 : Int))] sg' else none)
  (fun (v_4 : AVal) (sg' : Sg) =>
  withI .u64 (some v_4) fun n_3 =>
  withA (plainA v) fun a =>
  withOut (bif Nat.blt 187 1000000 then C (187 : FuncId) [a, ofConst (Value.int IntKind.i64 (2 : Int))] sg' else none)
  (fun (v_5 : AVal) (sg' : Sg) =>
  withI .u64 (some v_5) fun n_4 =>
  withA (plainA v) fun a =>
  withOut (bif Nat.blt 187 1000000 then C (187 : FuncId) [a, ofConst (Value.int IntKind.i64 (8 : Int))] sg' else none)
  (fun (v_6 : AVal) (sg' : Sg) =>
  withI .u64 (some v_6) fun n_5 =>
  withA (plainA v) fun a =>
  withOut (bif Nat.blt 187 1000000 then C (187 : FuncId) [a, ofConst (Value.int IntKind.i64 (8 : Int))] sg' else none)
  (fun (v_7 : AVal) (sg' : Sg) =>
  withI .u64 (some v_7) fun n_6 =>
  withA (plainA v) fun a =>
  withOut (bif Nat.blt 187 1000000 then C (187 : FuncId) [a, ofConst (Value.int IntKind.i64 (8 : Int))] sg' else none)
  (fun (v_8 : AVal) (sg' : Sg) =>
  withI .u64 (some v_8) fun n_7 =>
  withA (plainA v) fun a =>
  withOut
  (bif Nat.blt 278 1000000 then C (278 : FuncId) [a, ofConst (Value.int IntKind.i64 (480 : Int))] sg' else none)
  (fun v sg' =>
  withS (some v) fun s =>
  withOut
  (bif Nat.blt 328 1000000 then
  C (328 : FuncId)
  [AVal.agg
  [.at (.int .i64 (IntKind.i64.wrap n)), .at (.int .u64 n_5),
  .at (.int .u64 n_6), .at (.int .i64 (IntKind.i64.wrap n_2)),
  .at (.int .i64 (IntKind.i64.wrap n_3)), .at (.string s)]]
  []
  else none)
  (fun v x =>
  withT v fun vs =>
  bif vs.length.beq 2 then
  withS vs[0]? fun s_1 =>
  withI .i64 vs[1]? fun n_8 =>
  if (n_8 != (0 : Int)) = false then
  if (!eqS s_1 s0) = true then
  some
  (Out.ret
  (AVal.tup
  [AVal.agg
  [.at (.int .i64 (0 : Int)), .at (.int .u64 (0 : Int)),
  .at (.int .u64 (0 : Int)), .at (.int .i64 (0 : Int)),
  .at (.int .i64 (0 : Int)), .at (.string (ByteArray.mk (#[])))],
  .at (.int .i64 (19 : Int))])
  sg')
  else
  some
  (Out.ret
  (AVal.tup
  [AVal.agg
  [.at (.int .i64 (IntKind.i64.wrap n)), .at (.int .u64 n_5),
  .at (.int .u64 n_6), .at (.int .i64 (IntKind.i64.wrap n_2)),
  .at (.int .i64 (IntKind.i64.wrap n_3)), .at (.string s)],
  .at (.int .i64 (0 : Int))])
  sg')
  else
  some
  (Out.ret
  (AVal.tup
  [AVal.agg
  [.at (.int .i64 (0 : Int)), .at (.int .u64 (0 : Int)),
  .at (.int .u64 (0 : Int)), .at (.int .i64 (0 : Int)),
  .at (.int .i64 (0 : Int)), .at (.string (ByteArray.mk (#[])))],
  .at (.int .i64 (19 : Int))])
  sg')
  else none)
  fun x x_1 => none)
  fun v sg' => some (.pan v sg'))
  fun v sg' => some (.pan v sg'))
  fun v sg' => some (.pan v sg'))
  fun v sg' => some (.pan v sg'))
  fun v sg' => some (.pan v sg'))
  fun v sg' => some (.pan v sg'))
  fun v sg' => some (.pan v sg'))
  fun v sg' => some (.pan v sg'))
  fun v sg' => some (.pan v sg'))
  fun v sg' => some (.pan v sg') := by kernel_rfl
theorem sector_OfHome.main (s0 : ByteArray) (n1 : Int) (sg2 : Sg) :
  evalF C N sector_OfHome.a [.at (.string s0), .at (.int .i64 n1)] sg2 =
  withOut (bif Nat.blt 131 1000000 then C (131 : FuncId) [] [] else none)
  (fun v x =>
  withS (some v) fun s =>
  if eqS s0 s = true then
  withOut (bif Nat.blt 126 1000000 then C (126 : FuncId) [ofConst (Value.string (ByteArray.mk (#[]))), ofConst (Value.int IntKind.i64 (480 : Int))] [] else none)
  (fun v x => withS (some v) fun s => some (.ret (.tup [.at (.string s), .at (.int .i64 (0 : Int))]) sg2))
  fun x x_1 => none
  else
  withOut (bif Nat.blt 240 1000000 then C (240 : FuncId) [.at (.string s0)] [] else none)
  (fun v x =>
  withT v fun vs =>
  bif vs.length.beq 2 then
  withG vs[0]? fun cs =>
  withI .i64 vs[1]? fun n =>
  bif noG (AVal.tup [AVal.agg cs, .at (.int .i64 n)]) then
  bif (AVal.agg cs).cells.length.beq 6 then
  bindL
  (splice
  [.at (.int .i64 (0 : Int)), .at (.int .u64 (0 : Int)), .at (.int .u64 (0 : Int)), .at (.int .i64 (0 : Int)),
  .at (.int .i64 (0 : Int)), .at (.string (ByteArray.mk (#[])))]
  0 (AVal.agg cs).cells)
  fun cs =>
  if (n != (0 : Int)) = false then
  bif Nat.ble 6 cs.length then
  bindL (List.take 6 cs) fun l =>
  withS cs[5]? fun s =>
  withO
  (eqAV [CK.int IntKind.i64, CK.int IntKind.u64, CK.int IntKind.u64, CK.int IntKind.i64, CK.int IntKind.i64, CK.str] (AVal.agg l)
  (AVal.agg
  [.at (.int .i64 (4 : Int)), .at (.int .u64 (0 : Int)), .at (.int .u64 (0 : Int)),
  .at (.int .i64 n1), .at (.int .i64 (0 : Int)), .at (.string s)]))
  fun r =>
  if (true ^^ r) = true then some (.ret (.tup [.at (.string (ByteArray.mk (#[]))), .at (.int .i64 (19 : Int))]) sg2)
  else withS cs[5]? fun s => some (.ret (.tup [.at (.string s), .at (.int .i64 (0 : Int))]) sg2)
  else none
  else some (.ret (.tup [.at (.string (ByteArray.mk (#[]))), .at (.int .i64 (19 : Int))]) sg2)
  else none
  else none
  else none)
  fun x x_1 => none)
  fun x x_1 => none := by kernel_rfl
theorem journal_Scan.main (m0 : Nat) (n1 : Int) (n2 : Int) (sg3 : Sg) :
  evalF C N journal_Scan.a [.gp m0 0, .at (.int .i64 n1), .at (.int .u64 n2)] sg3 =
  withOut (bif Nat.blt 238 1000000 then C (238 : FuncId) [.gp m0 0, .at (.int .i64 n1), .at (.int .u64 n2)] sg3 else none)
  (fun v sg' =>
  withT v fun vs =>
  bif vs.length.beq 2 then
  withA vs[0]? fun a =>
  withI .i64 vs[1]? fun n =>
  if (n != (0 : Int)) = true then some (.ret (.tup [.sl true 1 [], .at (.int .i64 n)]) sg')
  else
  iter (journal_Scan.R0 C N) N
  (mkS [10, 11, 12]
  [.v (.gp (List.length sg') 0) false, .v (.sl true 1 []) true, .v (.at (.int .u64 (1 : Int))) false] [none, none, none]
  (.sg (sg' ++ [Box.mk [.gp m0 0, .at (.int .i64 n1), .at (.int .u64 n2), .at (.int .i64 (0 : Int))]])))
  (journal_Scan.K0 C N)
  else none)
  fun v sg' => some (.pan v sg') := by kernel_rfl
theorem journal_Scan.r0 (m0 : Nat) (b1 : Bool) (l2 : List AVal) (n3 : Int) (sg4 : Sg) (k : Ex → St → R) :
  journal_Scan.R0 C N
  (mkS [10, 11, 12] [.v (.gp m0 0) false, .v (.sl b1 1 l2) true, .v (.at (.int .u64 n3)) false] [none, none, none]
  (.sg sg4))
  k =
  withOut (bif Nat.blt 330 1000000 then C (330 : FuncId) [.gp m0 0, .at (.int .u64 n3)] sg4 else none)
  (fun v sg' =>
  withT v fun vs =>
  bif vs.length.beq 2 then
  withA vs[0]? fun a =>
  withI .i64 vs[1]? fun n =>
  if (n != (0 : Int)) = true then k .ret (mkS [6, 7] [.v (.sl true 1 []) true, .v (.at (.int .i64 n)) false] [none, none] (.sg sg'))
  else
  withO (lenV a) fun n =>
  if ((↑n : Int) == (0 : Int)) = true then
  k .ret (mkS [6, 7] [.v (.sl b1 1 l2) false, .v (.at (.int .i64 (0 : Int))) false] [none, none] (.sg sg'))
  else
  withA (plainA a) fun a =>
  bif allSz 1 [a] && Nat.blt 0 1 then
  withO (flatG (sg' ++ [Box.mk (a.cells ++ [])]) 1 (AVal.gs (List.length sg') 1 0 1)) fun p =>
  bif p.fst.beq 0 then
  k .normal
  (mkS [10, 11, 12]
  [.v (.gp m0 0) false, .v (.sl b1 1 l2) false, .v (.at (.int .u64 (IntKind.u64.wrap (n3 + (1 : Int))))) false]
  [none, none, none] (.sg (sg' ++ [Box.mk (a.cells ++ [])])))
  else
  if p.fst * 24 ≤ 35184372088832 then
  withO (app1 none 1 24 (sg' ++ [Box.mk (a.cells ++ [])]) (.sl b1 1 l2) p.fst p.snd) fun q =>
  k .normal
  (mkS [10, 11, 12]
  [.v (.gp m0 0) false, .v q.fst false, .v (.at (.int .u64 (IntKind.u64.wrap (n3 + (1 : Int))))) false] [none, none, none]
  (.sg q.snd))
  else none
  else none
  else none)
  fun v sg' => some (.pan v sg') := by kernel_rfl
theorem journal_Scan.k0_2 (b0 : Bool) (l1 : List AVal) (n2 : Int) (sg3 : Sg) :
  journal_Scan.K0 C N .ret (mkS [6, 7] [.v (.sl b0 1 l1) false, .v (.at (.int .i64 n2)) false] [none, none] (.sg sg3)) =
  some (.ret (.tup [.sl b0 1 l1, .at (.int .i64 n2)]) sg3) := by kernel_rfl
theorem journal_Scan.r0_2 (m0 : Nat) (a1 : AVal) (n2 : Int) (sg3 : Sg) (k : Ex → St → R) :
  journal_Scan.R0 C N
  (mkS [10, 11, 12] [.v (.gp m0 0) false, .v a1 false, .v (.at (.int .u64 n2)) false] [none, none, none] (.sg sg3)) k =
  withOut (bif Nat.blt 330 1000000 then C (330 : FuncId) [.gp m0 0, .at (.int .u64 n2)] sg3 else none)
  (fun v sg' =>
  withT v fun vs =>
  bif vs.length.beq 2 then
  withA vs[0]? fun a =>
  withI .i64 vs[1]? fun n =>
  if (n != (0 : Int)) = true then k .ret (mkS [6, 7] [.v (.sl true 1 []) true, .v (.at (.int .i64 n)) false] [none, none] (.sg sg'))
  else
  withO (lenV a) fun n =>
  if ((↑n : Int) == (0 : Int)) = true then k .ret (mkS [6, 7] [.v a1 false, .v (.at (.int .i64 (0 : Int))) false] [none, none] (.sg sg'))
  else
  withA (plainA a) fun a =>
  bif allSz 1 [a] && Nat.blt 0 1 then
  withO (flatG (sg' ++ [Box.mk (a.cells ++ [])]) 1 (AVal.gs (List.length sg') 1 0 1)) fun p =>
  bif p.fst.beq 0 then
  withO (app0 1 a1) fun r =>
  k .normal
  (mkS [10, 11, 12]
  [.v (.gp m0 0) false, .v r false, .v (.at (.int .u64 (IntKind.u64.wrap (n2 + (1 : Int))))) false] [none, none, none]
  (.sg (sg' ++ [Box.mk (a.cells ++ [])])))
  else
  if p.fst * 24 ≤ 35184372088832 then
  withO (app1 none 1 24 (sg' ++ [Box.mk (a.cells ++ [])]) a1 p.fst p.snd) fun q =>
  k .normal
  (mkS [10, 11, 12]
  [.v (.gp m0 0) false, .v q.fst false, .v (.at (.int .u64 (IntKind.u64.wrap (n2 + (1 : Int))))) false] [none, none, none]
  (.sg q.snd))
  else none
  else none
  else none)
  fun v sg' => some (.pan v sg') := by kernel_rfl
theorem journal_Scan.k0_3 (a0 : AVal) (n1 : Int) (sg2 : Sg) :
  journal_Scan.K0 C N .ret (mkS [6, 7] [.v a0 false, .v (.at (.int .i64 n1)) false] [none, none] (.sg sg2)) =
  withA (jk a0) fun a => some (.ret (.tup [a, .at (.int .i64 n1)]) sg2) := by kernel_rfl
theorem octets_Reader_Raw.main (m0 : Nat) (n1 : Int) (sg2 : Sg) :
  evalF C N octets_Reader_Raw.a [.gp m0 0, .at (.int .i64 n1)] sg2 =
  if (false ^^ false) = false then
  withO (loadC none sg2 (AVal.gp m0 1)) fun p =>
  withI .i64 p.fst[p.snd]? fun n =>
  if (n != (0 : Int)) = true then some (.ret (.at (.string (ByteArray.mk (#[])))) sg2)
  else
  if decide (n1 < (0 : Int)) = true then
  withOut (bif Nat.blt 353 1000000 then C (353 : FuncId) [.gp m0 0, ofConst (Value.int IntKind.i64 (18 : Int))] sg2 else none)
  (fun v sg' => withS (some v) fun s => some (.ret (.at (.string s)) sg')) fun v sg' => some (.pan v sg')
  else
  withO (loadC none sg2 (AVal.gp m0 0)) fun p =>
  withS p.fst[p.snd]? fun s =>
  if decide (n1 > (↑s.size : Int)) = true then
  withOut (bif Nat.blt 353 1000000 then C (353 : FuncId) [.gp m0 0, ofConst (Value.int IntKind.i64 (20 : Int))] sg2 else none)
  (fun v sg' => withS (some v) fun s => some (.ret (.at (.string s)) sg')) fun v sg' => some (.pan v sg')
  else
  withO (loadC none sg2 (AVal.gp m0 0)) fun p =>
  withS p.fst[p.snd]? fun s =>
  if (0 : Int) ≤ (0 : Int) ∧ (0 : Int) ≤ n1 ∧ n1 ≤ (↑s.size : Int) then
  withO (loadC none sg2 (AVal.gp m0 0)) fun p =>
  withS p.fst[p.snd]? fun s_1 =>
  if (0 : Int) ≤ n1 ∧ n1 ≤ (↑s_1.size : Int) ∧ (↑s_1.size : Int) ≤ (↑s_1.size : Int) then
  withO (storeG none sg2 (AVal.gp m0 0) 1 (.at (.string (cutS s_1 n1.toNat (↑s_1.size : Int).toNat)))) fun sg =>
  some (.ret (.at (.string (cutS s (Int.toNat (0 : Int)) n1.toNat))) sg)
  else none
  else none
  else some (.ret (.at (.string (ByteArray.mk (#[])))) sg2) := by kernel_rfl
theorem slices_Backward_disk_write_disk_write.main (a0 : AVal) (sg1 : Sg) :
  evalF C N slices_Backward_disk_write_disk_write.a [a0] sg1 =
  withA (plainA a0) fun a => some (.ret (AVal.clo 382 [] [.gp (List.length sg1) 0]) (sg1 ++ [Box.mk a.cells])) := by kernel_rfl
theorem journal_scanner_next.main (m0 : Nat) (n1 : Int) (sg2 : Sg) :
  evalF C N journal_scanner_next.a [.gp m0 0, .at (.int .u64 n1)] sg2 =
  withO (loadC none sg2 (AVal.gp m0 3)) fun p =>
  withI .i64 p.fst[p.snd]? fun n =>
  iter (journal_scanner_next.R0 C N) N
  (mkS [0, 1, 6, 7]
  [.v (.gp m0 0) false, .v (.at (.int .u64 n1)) false, .v (.sl true 2 []) true, .v (.at (.int .i64 n)) false]
  [none, none, none, none] (.sg sg2))
  (journal_scanner_next.K0 C N) := by kernel_rfl
theorem journal_scanner_next.r0 (m0 : Nat) (n1 : Int) (b2 : Bool) (l3 : List AVal) (n4 : Int) (sg5 : Sg) (k : Ex → St → R) :
  journal_scanner_next.R0 C N
  (mkS [0, 1, 6, 7]
  [.v (.gp m0 0) false, .v (.at (.int .u64 n1)) false, .v (.sl b2 2 l3) true, .v (.at (.int .i64 n4)) false]
  [none, none, none, none] (.sg sg5))
  k =
  withO (loadC none sg5 (AVal.gp m0 1)) fun p =>
  withI .i64 p.fst[p.snd]? fun n =>
  if decide (n4 < n) = true then
  withO (loadC none sg5 (AVal.gp m0 0)) fun p =>
  withA p.fst[p.snd]? fun r =>
  withA (plainA r) fun a =>
  withOut (bif Nat.blt 239 1000000 then C (239 : FuncId) [a, .at (.int .i64 (IntKind.i64.wrap ((1 : Int) + n4)))] sg5 else none)
  (fun v sg' =>
  withT v fun vs =>
  bif vs.length.beq 2 then
  withS vs[0]? fun s =>
  withI .i64 vs[1]? fun n =>
  if (n != (0 : Int)) = true then
  k .ret (mkS [4, 5] [.v (.sl true 2 []) true, .v (.at (.int .i64 n)) false] [none, none] (.sg sg'))
  else
  withOut (bif Nat.blt 240 1000000 then C (240 : FuncId) [.at (.string s)] [] else none)
  (fun v x =>
  withT v fun vs =>
  bif vs.length.beq 2 then
  withG vs[0]? fun cs =>
  withI .i64 vs[1]? fun n =>
  bif noG (AVal.tup [AVal.agg cs, .at (.int .i64 n)]) then
  bif (AVal.agg cs).cells.length.beq 6 then
  bindL
  (splice
  [.at (.int .i64 (0 : Int)), .at (.int .u64 (0 : Int)), .at (.int .u64 (0 : Int)),
  .at (.int .i64 (0 : Int)), .at (.int .i64 (0 : Int)), .at (.string (ByteArray.mk (#[])))]
  0 (AVal.agg cs).cells)
  fun cs =>
  if (n != (0 : Int)) = false then
  withI .u64 cs[1]? fun n =>
  withO (loadC none sg' (AVal.gp m0 2)) fun p =>
  withI .u64 p.fst[p.snd]? fun n_1 =>
  if (n != n_1) = false then
  withI .u64 cs[2]? fun n =>
  if (n != n1) = true then
  k .ret
  (mkS [4, 5] [.v (.sl true 2 []) true, .v (.at (.int .i64 (0 : Int))) false] [none, none]
  (.sg sg'))
  else
  withI .i64 cs[0]? fun n =>
  if (n == (2 : Int)) = true then
  withI .i64 cs[4]? fun n =>
  if (n == (↑l3.length : Int)) = true then
  withI .i64 cs[3]? fun n =>
  withOut (bif Nat.blt 246 1000000 then C (246 : FuncId) [.at (.int .i64 n)] [] else none)
  (fun v x =>
  withB (some v) fun b =>
  if b = true then
  withI .i64 cs[3]? fun n =>
  withS cs[5]? fun s =>
  bif true && Nat.blt 0 2 then
  withO
  (flatG (sg' ++ [Box.mk [.at (.int .i64 n), .at (.string s)]]) 2
  (AVal.gs (List.length sg') 2 0 1))
  fun p =>
  bif p.fst.beq 0 then
  k .normal
  (mkS [0, 1, 6, 7]
  [.v (.gp m0 0) false, .v (.at (.int .u64 n1)) false,
  .v (.sl b2 2 l3) false,
  .v (.at (.int .i64 (IntKind.i64.wrap (n4 + (1 : Int))))) false]
  [none, none, none, none]
  (.sg (sg' ++ [Box.mk [.at (.int .i64 n), .at (.string s)]])))
  else
  if p.fst * 24 ≤ 35184372088832 then
  withO
  (app1 none 2 24
  (sg' ++ [Box.mk [.at (.int .i64 n), .at (.string s)]]) (.sl b2 2 l3)
  p.fst p.snd)
  fun q =>
  k .normal
  (mkS [0, 1, 6, 7]
  [.v (.gp m0 0) false, .v (.at (.int .u64 n1)) false,
  .v q.fst false, .v (.at (.int .i64 (IntKind.i64.wrap (n4 + (1 : Int))))) false]
  [none, none, none, none] (.sg q.snd))
  else none
  else none
  else
  withI .i64 cs[0]? fun n =>
  if (n == (3 : Int)) = true then
  withI .i64 cs[4]? fun n =>
  if (n == (↑l3.length : Int)) = true then
  withI .i64 cs[3]? fun n =>
  if (n == (0 : Int)) = true then
  withS cs[5]? fun s =>
  withOut
  (bif Nat.blt 333 1000000 then C (333 : FuncId) [.at (.string s)] [] else none)
  (fun v x =>
  withB (some v) fun b =>
  if b = true then
  withO
  (storeG none sg' (AVal.gp m0 3) 1
  (.at (.int .i64 (IntKind.i64.wrap (n4 + (1 : Int))))))
  fun sg =>
  k .ret
  (mkS [4, 5]
  [.v (.sl b2 2 l3) false,
  .v (.at (.int .i64 (0 : Int))) false]
  [none, none] (.sg sg))
  else
  k .ret
  (mkS [4, 5]
  [.v (.sl true 2 []) true,
  .v (.at (.int .i64 (0 : Int))) false]
  [none, none] (.sg sg')))
  fun x x_1 => none
  else
  k .ret
  (mkS [4, 5]
  [.v (.sl true 2 []) true, .v (.at (.int .i64 (0 : Int))) false]
  [none, none] (.sg sg'))
  else
  k .ret
  (mkS [4, 5]
  [.v (.sl true 2 []) true, .v (.at (.int .i64 (0 : Int))) false] [none, none]
  (.sg sg'))
  else
  k .ret
  (mkS [4, 5]
  [.v (.sl true 2 []) true, .v (.at (.int .i64 (0 : Int))) false] [none, none]
  (.sg sg')))
  fun x x_1 => none
  else
  withI .i64 cs[0]? fun n =>
  if (n == (3 : Int)) = true then
  withI .i64 cs[4]? fun n =>
  if (n == (↑l3.length : Int)) = true then
  withI .i64 cs[3]? fun n =>
  if (n == (0 : Int)) = true then
  withS cs[5]? fun s =>
  withOut (bif Nat.blt 333 1000000 then C (333 : FuncId) [.at (.string s)] [] else none)
  (fun v x =>
  withB (some v) fun b =>
  if b = true then
  withO
  (storeG none sg' (AVal.gp m0 3) 1
  (.at (.int .i64 (IntKind.i64.wrap (n4 + (1 : Int))))))
  fun sg =>
  k .ret
  (mkS [4, 5]
  [.v (.sl b2 2 l3) false, .v (.at (.int .i64 (0 : Int))) false]
  [none, none] (.sg sg))
  else
  k .ret
  (mkS [4, 5]
  [.v (.sl true 2 []) true, .v (.at (.int .i64 (0 : Int))) false]
  [none, none] (.sg sg')))
  fun x x_1 => none
  else
  k .ret
  (mkS [4, 5]
  [.v (.sl true 2 []) true, .v (.at (.int .i64 (0 : Int))) false] [none, none]
  (.sg sg'))
  else
  k .ret
  (mkS [4, 5]
  [.v (.sl true 2 []) true, .v (.at (.int .i64 (0 : Int))) false] [none, none]
  (.sg sg'))
  else
  k .ret
  (mkS [4, 5] [.v (.sl true 2 []) true, .v (.at (.int .i64 (0 : Int))) false]
  [none, none] (.sg sg'))
  else
  withI .i64 cs[0]? fun n =>
  if (n == (3 : Int)) = true then
  withI .i64 cs[4]? fun n =>
  if (n == (↑l3.length : Int)) = true then
  withI .i64 cs[3]? fun n =>
  if (n == (0 : Int)) = true then
  withS cs[5]? fun s =>
  withOut (bif Nat.blt 333 1000000 then C (333 : FuncId) [.at (.string s)] [] else none)
  (fun v x =>
  withB (some v) fun b =>
  if b = true then
  withO
  (storeG none sg' (AVal.gp m0 3) 1
  (.at (.int .i64 (IntKind.i64.wrap (n4 + (1 : Int))))))
  fun sg =>
  k .ret
  (mkS [4, 5]
  [.v (.sl b2 2 l3) false, .v (.at (.int .i64 (0 : Int))) false]
  [none, none] (.sg sg))
  else
  k .ret
  (mkS [4, 5]
  [.v (.sl true 2 []) true, .v (.at (.int .i64 (0 : Int))) false] [none, none]
  (.sg sg')))
  fun x x_1 => none
  else
  k .ret
  (mkS [4, 5]
  [.v (.sl true 2 []) true, .v (.at (.int .i64 (0 : Int))) false] [none, none]
  (.sg sg'))
  else
  k .ret
  (mkS [4, 5] [.v (.sl true 2 []) true, .v (.at (.int .i64 (0 : Int))) false]
  [none, none] (.sg sg'))
  else
  k .ret
  (mkS [4, 5] [.v (.sl true 2 []) true, .v (.at (.int .i64 (0 : Int))) false]
  [none, none] (.sg sg'))
  else
  k .ret
  (mkS [4, 5] [.v (.sl true 2 []) true, .v (.at (.int .i64 (0 : Int))) false] [none, none]
  (.sg sg'))
  else
  k .ret
  (mkS [4, 5] [.v (.sl true 2 []) true, .v (.at (.int .i64 (0 : Int))) false] [none, none]
  (.sg sg'))
  else none
  else none
  else none)
  fun x x_1 => none
  else none)
  fun v sg' => some (.pan v sg')
  else k (.exit 0) (mkS [] [] [] (.sg sg5)) := by kernel_rfl
theorem journal_scanner_next.k0_1 (b0 : Bool) (l1 : List AVal) (n2 : Int) (sg3 : Sg) :
  journal_scanner_next.K0 C N .ret (mkS [4, 5] [.v (.sl b0 2 l1) true, .v (.at (.int .i64 n2)) false] [none, none] (.sg sg3)) =
  some (.ret (.tup [.sl b0 2 l1, .at (.int .i64 n2)]) sg3) := by kernel_rfl
theorem journal_scanner_next.k0_2 (b0 : Bool) (l1 : List AVal) (n2 : Int) (sg3 : Sg) :
  journal_scanner_next.K0 C N .ret (mkS [4, 5] [.v (.sl b0 2 l1) false, .v (.at (.int .i64 n2)) false] [none, none] (.sg sg3)) =
  some (.ret (.tup [.sl b0 2 l1, .at (.int .i64 n2)]) sg3) := by kernel_rfl
theorem journal_scanner_next.k0_3 (sg0 : Sg) :
  journal_scanner_next.K0 C N (.exit 0) (mkS [] [] [] (.sg sg0)) =
  some (.ret (.tup [.sl true 2 [], .at (.int .i64 (0 : Int))]) sg0) := by kernel_rfl
theorem journal_scanner_next.r0_2 (m0 : Nat) (n1 : Int) (a2 : AVal) (n3 : Int) (sg4 : Sg) (k : Ex → St → R) :
  journal_scanner_next.R0 C N
  (mkS [0, 1, 6, 7]
  [.v (.gp m0 0) false, .v (.at (.int .u64 n1)) false, .v a2 false, .v (.at (.int .i64 n3)) false] [none, none, none, none] (.sg sg4))
  k =
  withO (loadC none sg4 (AVal.gp m0 1)) fun p =>
  withI .i64 p.fst[p.snd]? fun n =>
  if decide (n3 < n) = true then
  withO (loadC none sg4 (AVal.gp m0 0)) fun p =>
  withA p.fst[p.snd]? fun r =>
  withA (plainA r) fun a =>
  withOut (bif Nat.blt 239 1000000 then C (239 : FuncId) [a, .at (.int .i64 (IntKind.i64.wrap ((1 : Int) + n3)))] sg4 else none)
  (fun v sg' =>
  withT v fun vs =>
  bif vs.length.beq 2 then
  withS vs[0]? fun s =>
  withI .i64 vs[1]? fun n =>
  if (n != (0 : Int)) = true then
  k .ret (mkS [4, 5] [.v (.sl true 2 []) true, .v (.at (.int .i64 n)) false] [none, none] (.sg sg'))
  else
  withOut (bif Nat.blt 240 1000000 then C (240 : FuncId) [.at (.string s)] [] else none)
  (fun v x =>
  withT v fun vs =>
  bif vs.length.beq 2 then
  withG vs[0]? fun cs =>
  withI .i64 vs[1]? fun n =>
  bif noG (AVal.tup [AVal.agg cs, .at (.int .i64 n)]) then
  bif (AVal.agg cs).cells.length.beq 6 then
  bindL
  (splice
  [.at (.int .i64 (0 : Int)), .at (.int .u64 (0 : Int)), .at (.int .u64 (0 : Int)),
  .at (.int .i64 (0 : Int)), .at (.int .i64 (0 : Int)), .at (.string (ByteArray.mk (#[])))]
  0 (AVal.agg cs).cells)
  fun cs =>
  if (n != (0 : Int)) = false then
  withI .u64 cs[1]? fun n =>
  withO (loadC none sg' (AVal.gp m0 2)) fun p =>
  withI .u64 p.fst[p.snd]? fun n_1 =>
  if (n != n_1) = false then
  withI .u64 cs[2]? fun n =>
  if (n != n1) = true then
  k .ret
  (mkS [4, 5] [.v (.sl true 2 []) true, .v (.at (.int .i64 (0 : Int))) false] [none, none]
  (.sg sg'))
  else
  withI .i64 cs[0]? fun n =>
  if (n == (2 : Int)) = true then
  withI .i64 cs[4]? fun n =>
  withO (lenV a2) fun n_2 =>
  if (n == (↑n_2 : Int)) = true then
  withI .i64 cs[3]? fun n =>
  withOut (bif Nat.blt 246 1000000 then C (246 : FuncId) [.at (.int .i64 n)] [] else none)
  (fun v x =>
  withB (some v) fun b =>
  if b = true then
  withI .i64 cs[3]? fun n =>
  withS cs[5]? fun s =>
  bif true && Nat.blt 0 2 then
  withO
  (flatG (sg' ++ [Box.mk [.at (.int .i64 n), .at (.string s)]]) 2
  (AVal.gs (List.length sg') 2 0 1))
  fun p =>
  bif p.fst.beq 0 then
  withO (app0 2 a2) fun r =>
  k .normal
  (mkS [0, 1, 6, 7]
  [.v (.gp m0 0) false, .v (.at (.int .u64 n1)) false, .v r false,
  .v (.at (.int .i64 (IntKind.i64.wrap (n3 + (1 : Int))))) false]
  [none, none, none, none]
  (.sg (sg' ++ [Box.mk [.at (.int .i64 n), .at (.string s)]])))
  else
  if p.fst * 24 ≤ 35184372088832 then
  withO
  (app1 none 2 24
  (sg' ++ [Box.mk [.at (.int .i64 n), .at (.string s)]]) a2 p.fst p.snd)
  fun q =>
  k .normal
  (mkS [0, 1, 6, 7]
  [.v (.gp m0 0) false, .v (.at (.int .u64 n1)) false,
  .v q.fst false,
  .v (.at (.int .i64 (IntKind.i64.wrap (n3 + (1 : Int))))) false]
  [none, none, none, none] (.sg q.snd))
  else none
  else none
  else
  withI .i64 cs[0]? fun n =>
  if (n == (3 : Int)) = true then
  withI .i64 cs[4]? fun n =>
  withO (lenV a2) fun n_3 =>
  if (n == (↑n_3 : Int)) = true then
  withI .i64 cs[3]? fun n =>
  if (n == (0 : Int)) = true then
  withS cs[5]? fun s =>
  withOut
  (bif Nat.blt 333 1000000 then C (333 : FuncId) [.at (.string s)] [] else none)
  (fun v x =>
  withB (some v) fun b =>
  if b = true then
  withO
  (storeG none sg' (AVal.gp m0 3) 1
  (.at (.int .i64 (IntKind.i64.wrap (n3 + (1 : Int))))))
  fun sg =>
  k .ret
  (mkS [4, 5]
  [.v a2 false, .v (.at (.int .i64 (0 : Int))) false] [none, none]
  (.sg sg))
  else
  k .ret
  (mkS [4, 5]
  [.v (.sl true 2 []) true,
  .v (.at (.int .i64 (0 : Int))) false]
  [none, none] (.sg sg')))
  fun x x_1 => none
  else
  k .ret
  (mkS [4, 5]
  [.v (.sl true 2 []) true, .v (.at (.int .i64 (0 : Int))) false]
  [none, none] (.sg sg'))
  else
  k .ret
  (mkS [4, 5]
  [.v (.sl true 2 []) true, .v (.at (.int .i64 (0 : Int))) false]
  [none, none] (.sg sg'))
  else
  k .ret
  (mkS [4, 5]
  [.v (.sl true 2 []) true, .v (.at (.int .i64 (0 : Int))) false] [none, none]
  (.sg sg')))
  fun x x_1 => none
  else
  withI .i64 cs[0]? fun n =>
  if (n == (3 : Int)) = true then
  withI .i64 cs[4]? fun n =>
  withO (lenV a2) fun n_3 =>
  if (n == (↑n_3 : Int)) = true then
  withI .i64 cs[3]? fun n =>
  if (n == (0 : Int)) = true then
  withS cs[5]? fun s =>
  withOut (bif Nat.blt 333 1000000 then C (333 : FuncId) [.at (.string s)] [] else none)
  (fun v x =>
  withB (some v) fun b =>
  if b = true then
  withO
  (storeG none sg' (AVal.gp m0 3) 1
  (.at (.int .i64 (IntKind.i64.wrap (n3 + (1 : Int))))))
  fun sg =>
  k .ret
  (mkS [4, 5] [.v a2 false, .v (.at (.int .i64 (0 : Int))) false]
  [none, none] (.sg sg))
  else
  k .ret
  (mkS [4, 5]
  [.v (.sl true 2 []) true, .v (.at (.int .i64 (0 : Int))) false]
  [none, none] (.sg sg')))
  fun x x_1 => none
  else
  k .ret
  (mkS [4, 5]
  [.v (.sl true 2 []) true, .v (.at (.int .i64 (0 : Int))) false] [none, none]
  (.sg sg'))
  else
  k .ret
  (mkS [4, 5]
  [.v (.sl true 2 []) true, .v (.at (.int .i64 (0 : Int))) false] [none, none]
  (.sg sg'))
  else
  k .ret
  (mkS [4, 5]
  [.v (.sl true 2 []) true, .v (.at (.int .i64 (0 : Int))) false] [none, none]
  (.sg sg'))
  else
  withI .i64 cs[0]? fun n =>
  if (n == (3 : Int)) = true then
  withI .i64 cs[4]? fun n =>
  withO (lenV a2) fun n_2 =>
  if (n == (↑n_2 : Int)) = true then
  withI .i64 cs[3]? fun n =>
  if (n == (0 : Int)) = true then
  withS cs[5]? fun s =>
  withOut (bif Nat.blt 333 1000000 then C (333 : FuncId) [.at (.string s)] [] else none)
  (fun v x =>
  withB (some v) fun b =>
  if b = true then
  withO
  (storeG none sg' (AVal.gp m0 3) 1
  (.at (.int .i64 (IntKind.i64.wrap (n3 + (1 : Int))))))
  fun sg =>
  k .ret
  (mkS [4, 5] [.v a2 false, .v (.at (.int .i64 (0 : Int))) false]
  [none, none] (.sg sg))
  else
  k .ret
  (mkS [4, 5]
  [.v (.sl true 2 []) true, .v (.at (.int .i64 (0 : Int))) false]
  [none, none] (.sg sg')))
  fun x x_1 => none
  else
  k .ret
  (mkS [4, 5]
  [.v (.sl true 2 []) true, .v (.at (.int .i64 (0 : Int))) false] [none, none]
  (.sg sg'))
  else
  k .ret
  (mkS [4, 5]
  [.v (.sl true 2 []) true, .v (.at (.int .i64 (0 : Int))) false] [none, none]
  (.sg sg'))
  else
  k .ret
  (mkS [4, 5] [.v (.sl true 2 []) true, .v (.at (.int .i64 (0 : Int))) false]
  [none, none] (.sg sg'))
  else
  k .ret
  (mkS [4, 5] [.v (.sl true 2 []) true, .v (.at (.int .i64 (0 : Int))) false] [none, none]
  (.sg sg'))
  else
  k .ret
  (mkS [4, 5] [.v (.sl true 2 []) true, .v (.at (.int .i64 (0 : Int))) false] [none, none]
  (.sg sg'))
  else none
  else none
  else none)
  fun x x_1 => none
  else none)
  fun v sg' => some (.pan v sg')
  else k (.exit 0) (mkS [] [] [] (.sg sg4)) := by kernel_rfl
theorem journal_scanner_next.k0_4 (a0 : AVal) (n1 : Int) (sg2 : Sg) :
  journal_scanner_next.K0 C N .ret (mkS [4, 5] [.v a0 false, .v (.at (.int .i64 n1)) false] [none, none] (.sg sg2)) =
  withA (jk a0) fun a => some (.ret (.tup [a, .at (.int .i64 n1)]) sg2) := by kernel_rfl
theorem law09_PagesPrefix.main (n0 : Int) (n1 : Int) (a2 : AVal) (sg3 : Sg) :
  evalF C N law09_PagesPrefix.a [.at (.int .i64 n0), .at (.int .i64 n1), a2] sg3 =
  withOut (bif Nat.blt 40 1000000 then C (40 : FuncId) [] [] else none)
  (fun v x =>
  withB (some v) fun b =>
  if (!b) = true then some (.ret (.at (.bool false)) sg3)
  else
  withOut (bif Nat.blt 41 1000000 then C (41 : FuncId) [.at (.int .i64 n0), .at (.int .i64 n1)] [] else none)
  (fun v x =>
  withT v fun vs =>
  bif vs.length.beq 2 then
  withI .i64 vs[0]? fun n =>
  withI .i64 vs[1]? fun n_1 =>
  if (n_1 != (0 : Int)) = false then
  if decide (n > (80 : Int)) = false then
  withA (plainA a2) fun a =>
  withOut (bif Nat.blt 42 1000000 then C (42 : FuncId) [a] sg3 else none)
  (fun v x =>
  withB (some v) fun b =>
  if (!b) = true then some (.ret (.at (.bool true)) sg3)
  else
  withOut (bif Nat.blt 43 1000000 then C (43 : FuncId) [.at (.int .i64 n)] sg3 else none)
  (fun v sg' =>
  withT v fun vs =>
  bif vs.length.beq 2 then
  withA vs[0]? fun a =>
  withI .i64 vs[1]? fun n =>
  if (n != (0 : Int)) = false then
  withO (isNil 1 (.v a false)) fun b =>
  if (false ^^ b) = true then some (.ret (.at (.bool false)) sg')
  else
  withA (plainA a) fun a_1 =>
  withOut
  (bif Nat.blt 29 1000000 then C (29 : FuncId) [a_1, .at (.int .i64 n0), .at (.int .i64 n1)] sg'
  else none)
  (fun v sg' =>
  withT v fun vs =>
  bif vs.length.beq 2 then
  withA vs[0]? fun a_2 =>
  withI .i64 vs[1]? fun n =>
  if (n != (0 : Int)) = false then
  withO (isNil 1 (.v a_2 false)) fun b =>
  if (false ^^ b) = true then some (.ret (.at (.bool false)) sg')
  else
  withA (plainA a_2) fun a_3 =>
  withOut (bif Nat.blt 44 1000000 then C (44 : FuncId) [a_3] sg' else none)
  (fun v sg' =>
  withA (plainA v) fun a_4 =>
  bif allSz 1 [a_4] && Nat.blt 0 1 then
  withA (plainA a2) fun b =>
  withO (flatG (sg' ++ [Box.mk (a_4.cells ++ [])]) 5 b) fun p =>
  bif p.fst.beq 0 then
  bif true && Nat.blt 0 5 then
  withO
  (flatG
  (sg' ++ [Box.mk (a_4.cells ++ [])] ++
  [Box.mk
  [.at (.int .i64 (4 : Int)), .sl true 3 [],
  .at (.int .i64 (0 : Int)), .at (.int .u8 (0 : Int)),
  AVal.sl true 1 []]])
  5 (AVal.gs (List.length (sg' ++ [Box.mk (a_4.cells ++ [])])) 5 0 1))
  fun p =>
  bif p.fst.beq 0 then
  iter (law09_PagesPrefix.R0 C N) N
  (mkS [9, 11, 13, 77, 78, 79]
  [.v a false, .v a_2 false,
  .v (.gs (List.length sg') 1 0 1) false, .v (.e0 true) false,
  .v (.at (.int .i64 (↑0 : Int))) false,
  .v (.at (.int .i64 (0 : Int))) false]
  [none, none, none, none, none, none]
  (RVal.sg
  (sg' ++ [Box.mk (a_4.cells ++ [])] ++
  [Box.mk
  [.at (.int .i64 (4 : Int)), .sl true 3 [],
  .at (.int .i64 (0 : Int)), .at (.int .u8 (0 : Int)),
  AVal.sl true 1 []]])))
  (law09_PagesPrefix.K0 C N)
  else
  if p.fst * 72 ≤ 35184372088832 then
  withO
  (lenV
  (AVal.gs
  (List.length
  (sg' ++ [Box.mk (a_4.cells ++ [])] ++
  [Box.mk
  [.at (.int .i64 (4 : Int)), .sl true 3 [],
  .at (.int .i64 (0 : Int)), .at (.int .u8 (0 : Int)),
  AVal.sl true 1 []]]))
  5 0 p.fst,
  sg' ++ [Box.mk (a_4.cells ++ [])] ++
  [Box.mk
  [.at (.int .i64 (4 : Int)), .sl true 3 [],
  .at (.int .i64 (0 : Int)), .at (.int .u8 (0 : Int)),
  AVal.sl true 1 []]] ++
  [Box.mk p.snd]).fst)
  fun n =>
  iter (law09_PagesPrefix.R0 C N) N
  (mkS [9, 11, 13, 77, 78, 79]
  [.v a false, .v a_2 false,
  .v (.gs (List.length sg') 1 0 1) false,
  Slot.v
  (AVal.gs
  (List.length
  (sg' ++ [Box.mk (a_4.cells ++ [])] ++
  [Box.mk
  [.at (.int .i64 (4 : Int)), .sl true 3 [],
  .at (.int .i64 (0 : Int)),
  .at (.int .u8 (0 : Int)), .sl true 1 []]]))
  5 0 p.fst,
  sg' ++ [Box.mk (a_4.cells ++ [])] ++
  [Box.mk
  [.at (.int .i64 (4 : Int)), .sl true 3 [],
  .at (.int .i64 (0 : Int)),
  .at (.int .u8 (0 : Int)), .sl true 1 []]] ++
  [Box.mk p.snd]).fst
  false,
  .v (.at (.int .i64 (↑n : Int))) false,
  .v (.at (.int .i64 (0 : Int))) false]
  [none, none, none, none, none, none]
  (RVal.sg
  (AVal.gs
  (List.length
  (sg' ++ [Box.mk (a_4.cells ++ [])] ++
  [Box.mk
  [.at (.int .i64 (4 : Int)), .sl true 3 [],
  .at (.int .i64 (0 : Int)),
  .at (.int .u8 (0 : Int)), .sl true 1 []]]))
  5 0 p.fst,
  sg' ++ [Box.mk (a_4.cells ++ [])] ++
  [Box.mk
  [.at (.int .i64 (4 : Int)), .sl true 3 [],
  .at (.int .i64 (0 : Int)),
  .at (.int .u8 (0 : Int)), .sl true 1 []]] ++
  [Box.mk p.snd]).snd))
  (law09_PagesPrefix.K0 C N)
  else none
  else none
  else
  if p.fst * 72 ≤ 35184372088832 then
  bif true && Nat.blt 0 5 then
  withO
  (flatG
  ((AVal.gs (List.length (sg' ++ [Box.mk (a_4.cells ++ [])])) 5 0 p.fst,
  sg' ++ [Box.mk (a_4.cells ++ [])] ++ [Box.mk p.snd]).snd ++
  [Box.mk
  [.at (.int .i64 (4 : Int)), .sl true 3 [],
  .at (.int .i64 (0 : Int)), .at (.int .u8 (0 : Int)),
  AVal.sl true 1 []]])
  5
  (AVal.gs
  (List.length
  (AVal.gs (List.length (sg' ++ [Box.mk (a_4.cells ++ [])])) 5 0 p.fst,
  sg' ++ [Box.mk (a_4.cells ++ [])] ++ [Box.mk p.snd]).snd)
  5 0 1))
  fun p_1 =>
  bif p_1.fst.beq 0 then
  withO
  (app0 5
  (AVal.gs (List.length (sg' ++ [Box.mk (a_4.cells ++ [])])) 5 0 p.fst,
  sg' ++ [Box.mk (a_4.cells ++ [])] ++ [Box.mk p.snd]).fst)
  fun r =>
  withO (lenV r) fun n =>
  iter (law09_PagesPrefix.R0 C N) N
  (mkS [9, 11, 13, 77, 78, 79]
  [.v a false, .v a_2 false,
  .v (.gs (List.length sg') 1 0 1) false, .v r false,
  .v (.at (.int .i64 (↑n : Int))) false,
  .v (.at (.int .i64 (0 : Int))) false]
  [none, none, none, none, none, none]
  (RVal.sg
  ((AVal.gs (List.length (sg' ++ [Box.mk (a_4.cells ++ [])])) 5 0 p.fst,
  sg' ++ [Box.mk (a_4.cells ++ [])] ++ [Box.mk p.snd]).snd ++
  [Box.mk
  [.at (.int .i64 (4 : Int)), .sl true 3 [],
  .at (.int .i64 (0 : Int)), .at (.int .u8 (0 : Int)),
  AVal.sl true 1 []]])))
  (law09_PagesPrefix.K0 C N)
  else
  if p_1.fst * 72 ≤ 35184372088832 then
  withO
  (app1 none 5 72
  ((AVal.gs (List.length (sg' ++ [Box.mk (a_4.cells ++ [])])) 5 0 p.fst,
  sg' ++ [Box.mk (a_4.cells ++ [])] ++ [Box.mk p.snd]).snd ++
  [Box.mk
  [.at (.int .i64 (4 : Int)), .sl true 3 [],
  .at (.int .i64 (0 : Int)), .at (.int .u8 (0 : Int)),
  AVal.sl true 1 []]])
  (AVal.gs (List.length (sg' ++ [Box.mk (a_4.cells ++ [])])) 5 0 p.fst,
  sg' ++ [Box.mk (a_4.cells ++ [])] ++ [Box.mk p.snd]).fst
  p_1.fst p_1.snd)
  fun q =>
  withO (lenV q.fst) fun n =>
  iter (law09_PagesPrefix.R0 C N) N
  (mkS [9, 11, 13, 77, 78, 79]
  [.v a false, .v a_2 false,
  .v (.gs (List.length sg') 1 0 1) false, .v q.fst false,
  .v (.at (.int .i64 (↑n : Int))) false,
  .v (.at (.int .i64 (0 : Int))) false]
  [none, none, none, none, none, none] (.sg q.snd))
  (law09_PagesPrefix.K0 C N)
  else none
  else none
  else none
  else none)
  fun v sg' => some (.pan v sg')
  else some (.ret (.at (.bool false)) sg')
  else none)
  fun v sg' => some (.pan v sg')
  else some (.ret (.at (.bool false)) sg')
  else none)
  fun v sg' => some (.pan v sg'))
  fun v x => some (.pan v sg3)
  else some (.ret (.at (.bool true)) sg3)
  else some (.ret (.at (.bool true)) sg3)
  else none)
  fun x x_1 => none)
  fun x x_1 => none := by kernel_rfl
theorem law09_PagesPrefix.k0_2 (sg0 : Sg) :
  law09_PagesPrefix.K0 C N (.exit 0) (mkS [] [] [] (.sg sg0)) =
  some (.ret (.at (.bool true)) sg0) := by kernel_rfl
theorem law09_PagesPrefix.r0_2 (a0 : AVal) (a1 : AVal) (a2 : AVal) (a3 : AVal) (n4 : Int) (n5 : Int) (sg6 : Sg) (k : Ex → St → R) :
  law09_PagesPrefix.R0 C N
  (mkS [9, 11, 13, 77, 78, 79]
  [.v a0 false, .v a1 false, .v a2 false, .v a3 false, .v (.at (.int .i64 n4)) false, .v (.at (.int .i64 n5)) false]
  [none, none, none, none, none, none] (.sg sg6))
  k =
  if decide (n5 < n4) = true then
  withO (elemV 5 n5 a3) fun r =>
  withO (loadC none sg6 r) fun p =>
  bif (p.snd + 5).ble p.fst.length then
  bindL (List.take 5 (List.drop p.snd p.fst)) fun l =>
  bif (AVal.agg l).cells.length.beq 5 then
  bindL
  (splice
  [.at (.int .i64 (0 : Int)), .sl true 3 [], .at (.int .i64 (0 : Int)), .at (.int .u8 (0 : Int)), .sl true 1 []]
  0 (AVal.agg l).cells)
  fun cs =>
  withI .i64 cs[0]? fun n =>
  if (n == (0 : Int)) = true then
  withO (lenV a2) fun n =>
  withO (elemV 1 (IntKind.i64.wrap ((↑n : Int) - (1 : Int))) a2) fun r =>
  withO (loadC none sg6 r) fun p =>
  withA p.fst[p.snd]? fun r =>
  withA (plainA r) fun b =>
  withO (flatG sg6 1 b) fun p =>
  bif p.fst.beq 0 then
  withA cs[1]? fun r =>
  withA (plainA r) fun a =>
  withOut (bif Nat.blt 45 1000000 then C (45 : FuncId) [a] sg6 else none)
  (fun v sg' =>
  withA (plainA v) fun a =>
  withOut (bif Nat.blt 46 1000000 then C (46 : FuncId) [a] sg' else none)
  (fun (v_1 : AVal) (sg' : Sg) =>
  withA (plainA a1) fun a =>
  withA (plainA v_1) fun a_1 =>
  withOut (bif Nat.blt 32 1000000 then C (32 : FuncId) [a, a_1] sg' else none)
  (fun (v_2 : AVal) (sg' : Sg) =>
  withI .i64 (some v_2) fun n =>
  if (n != (0 : Int)) = true then
  if (n != (17 : Int)) = true then
  k .normal
  (mkS [9, 11, 13, 77, 78, 79]
  [.v a0 false, .v a1 false, .v a2 false, .v a3 false, .v (.at (.int .i64 n4)) false,
  .v (.at (.int .i64 (IntKind.i64.wrap (n5 + (1 : Int))))) false]
  [none, none, none, none, none, none] (.sg sg'))
  else
  withO (lenV v) fun n =>
  iter (law09_PagesPrefix.R1 C N) N
  (mkS [9, 11, 13, 16, 77, 78, 79, 108, 109, 110]
  [.v a0 false, .v a1 false, .v a2 false, .v (.e0 true) false, .v a3 false,
  .v (.at (.int .i64 n4)) false, .v (.at (.int .i64 n5)) false, .v v false,
  .v (.at (.int .i64 (↑n : Int))) false, .v (.at (.int .i64 (0 : Int))) false]
  [none, none, none, none, none, none, none, none, none, none] (.sg sg'))
  (law09_PagesPrefix.K1 C N k)
  else
  withO (lenV v) fun n =>
  iter (law09_PagesPrefix.R1 C N) N
  (mkS [9, 11, 13, 16, 77, 78, 79, 108, 109, 110]
  [.v a0 false, .v a1 false, .v a2 false, .v (.e0 true) false, .v a3 false,
  .v (.at (.int .i64 n4)) false, .v (.at (.int .i64 n5)) false, .v v false,
  .v (.at (.int .i64 (↑n : Int))) false, .v (.at (.int .i64 (0 : Int))) false]
  [none, none, none, none, none, none, none, none, none, none] (.sg sg'))
  (law09_PagesPrefix.K1 C N k))
  fun v sg' => some (.pan v sg'))
  fun v sg' => some (.pan v sg'))
  fun v sg' => some (.pan v sg')
  else
  if p.fst * 16 ≤ 35184372088832 then
  withA cs[1]? fun r =>
  withA (plainA r) fun a =>
  withOut
  (bif Nat.blt 45 1000000 then C (45 : FuncId) [a] (AVal.gs (List.length sg6) 1 0 p.fst, sg6 ++ [Box.mk p.snd]).snd else none)
  (fun v sg' =>
  withA (plainA v) fun a =>
  withOut (bif Nat.blt 46 1000000 then C (46 : FuncId) [a] sg' else none)
  (fun (v_1 : AVal) (sg' : Sg) =>
  withA (plainA a1) fun a =>
  withA (plainA v_1) fun a_1 =>
  withOut (bif Nat.blt 32 1000000 then C (32 : FuncId) [a, a_1] sg' else none)
  (fun (v_2 : AVal) (sg' : Sg) =>
  withI .i64 (some v_2) fun n =>
  if (n != (0 : Int)) = true then
  if (n != (17 : Int)) = true then
  k .normal
  (mkS [9, 11, 13, 77, 78, 79]
  [.v a0 false, .v a1 false, .v a2 false, .v a3 false, .v (.at (.int .i64 n4)) false,
  .v (.at (.int .i64 (IntKind.i64.wrap (n5 + (1 : Int))))) false]
  [none, none, none, none, none, none] (.sg sg'))
  else
  withO (lenV v) fun n =>
  iter (law09_PagesPrefix.R1 C N) N
  (mkS [9, 11, 13, 16, 77, 78, 79, 108, 109, 110]
  [.v a0 false, .v a1 false, .v a2 false,
  .v (.gs (List.length sg6) 1 0 p.fst, sg6 ++ [Box.mk p.snd]).fst false, .v a3 false,
  .v (.at (.int .i64 n4)) false, .v (.at (.int .i64 n5)) false, .v v false,
  .v (.at (.int .i64 (↑n : Int))) false, .v (.at (.int .i64 (0 : Int))) false]
  [none, none, none, none, none, none, none, none, none, none] (.sg sg'))
  (law09_PagesPrefix.K1 C N k)
  else
  withO (lenV v) fun n =>
  iter (law09_PagesPrefix.R1 C N) N
  (mkS [9, 11, 13, 16, 77, 78, 79, 108, 109, 110]
  [.v a0 false, .v a1 false, .v a2 false,
  .v (.gs (List.length sg6) 1 0 p.fst, sg6 ++ [Box.mk p.snd]).fst false, .v a3 false,
  .v (.at (.int .i64 n4)) false, .v (.at (.int .i64 n5)) false, .v v false,
  .v (.at (.int .i64 (↑n : Int))) false, .v (.at (.int .i64 (0 : Int))) false]
  [none, none, none, none, none, none, none, none, none, none] (.sg sg'))
  (law09_PagesPrefix.K1 C N k))
  fun v sg' => some (.pan v sg'))
  fun v sg' => some (.pan v sg'))
  fun v sg' => some (.pan v sg')
  else none
  else
  if (n == (1 : Int)) = true then
  withA (plainA a1) fun a =>
  withOut (bif Nat.blt 33 1000000 then C (33 : FuncId) [a] sg6 else none)
  (fun v sg' =>
  withI .i64 (some v) fun n =>
  if (n == (0 : Int)) = true then
  withO (lenV a2) fun n =>
  withA (plainA a2) fun a =>
  withO (lenZ 1 a) fun n_1 =>
  if (0 : Int) ≤ IntKind.i64.wrap ((↑n : Int) - (1 : Int)) ∧ IntKind.i64.wrap ((↑n : Int) - (1 : Int)) ≤ (↑n_1 : Int) ∧ (↑n_1 : Int) ≤ (↑n_1 : Int) then
  withO (cutV a (IntKind.i64.wrap ((↑n : Int) - (1 : Int))).toNat (↑n_1 : Int).toNat) fun r =>
  k .normal
  (mkS [9, 11, 13, 77, 78, 79]
  [.v a0 false, .v a1 false, .v r false, .v a3 false, .v (.at (.int .i64 n4)) false,
  .v (.at (.int .i64 (IntKind.i64.wrap (n5 + (1 : Int))))) false]
  [none, none, none, none, none, none] (.sg sg'))
  else none
  else
  k .normal
  (mkS [9, 11, 13, 77, 78, 79]
  [.v a0 false, .v a1 false, .v a2 false, .v a3 false, .v (.at (.int .i64 n4)) false,
  .v (.at (.int .i64 (IntKind.i64.wrap (n5 + (1 : Int))))) false]
  [none, none, none, none, none, none] (.sg sg')))
  fun v sg' => some (.pan v sg')
  else
  if (n == (2 : Int)) = true then
  withA (plainA a1) fun a =>
  withOut (bif Nat.blt 34 1000000 then C (34 : FuncId) [a] sg6 else none)
  (fun v sg' =>
  withI .i64 (some v) fun n =>
  if (n == (0 : Int)) = true then
  withO (lenV a2) fun n =>
  withA (plainA a2) fun a =>
  withO (lenZ 1 a) fun n_1 =>
  if (0 : Int) ≤ IntKind.i64.wrap ((↑n : Int) - (1 : Int)) ∧ IntKind.i64.wrap ((↑n : Int) - (1 : Int)) ≤ (↑n_1 : Int) ∧ (↑n_1 : Int) ≤ (↑n_1 : Int) then
  withO (cutV a (IntKind.i64.wrap ((↑n : Int) - (1 : Int))).toNat (↑n_1 : Int).toNat) fun r =>
  k .normal
  (mkS [9, 11, 13, 77, 78, 79]
  [.v a0 false, .v a1 false, .v r false, .v a3 false, .v (.at (.int .i64 n4)) false,
  .v (.at (.int .i64 (IntKind.i64.wrap (n5 + (1 : Int))))) false]
  [none, none, none, none, none, none] (.sg sg'))
  else none
  else
  k .normal
  (mkS [9, 11, 13, 77, 78, 79]
  [.v a0 false, .v a1 false, .v a2 false, .v a3 false, .v (.at (.int .i64 n4)) false,
  .v (.at (.int .i64 (IntKind.i64.wrap (n5 + (1 : Int))))) false]
  [none, none, none, none, none, none] (.sg sg')))
  fun v sg' => some (.pan v sg')
  else
  if (n == (3 : Int)) = true then
  withI .i64 cs[2]? fun n =>
  withA (plainA a0) fun a =>
  withOut (bif Nat.blt 47 1000000 then C (47 : FuncId) [a, .at (.int .i64 n)] sg6 else none)
  (fun v sg' =>
  k .normal
  (mkS [9, 11, 13, 77, 78, 79]
  [.v a0 false, .v a1 false, .v a2 false, .v a3 false, .v (.at (.int .i64 n4)) false,
  .v (.at (.int .i64 (IntKind.i64.wrap (n5 + (1 : Int))))) false]
  [none, none, none, none, none, none] (.sg sg')))
  fun v sg' => some (.pan v sg')
  else
  if (n == (4 : Int)) = true then
  withA cs[4]? fun r =>
  withA (plainA a0) fun a =>
  withA (plainA r) fun a_1 =>
  withOut (bif Nat.blt 48 1000000 then C (48 : FuncId) [a, a_1] sg6 else none)
  (fun v sg' =>
  withI .i64 (some v) fun n =>
  withI .i64 cs[2]? fun n =>
  withA (plainA a0) fun a =>
  withOut (bif Nat.blt 47 1000000 then C (47 : FuncId) [a, .at (.int .i64 n)] sg' else none)
  (fun v sg' =>
  withA (plainA a0) fun a =>
  withOut (bif Nat.blt 30 1000000 then C (30 : FuncId) [a] sg' else none)
  (fun v sg' =>
  withT v fun vs =>
  bif vs.length.beq 2 then
  withA vs[0]? fun a =>
  withI .i64 vs[1]? fun n =>
  if (n == (17 : Int)) = true then
  withA cs[4]? fun r =>
  withA (plainA a0) fun a =>
  withA (plainA r) fun a_2 =>
  withOut (bif Nat.blt 48 1000000 then C (48 : FuncId) [a, a_2] sg' else none)
  (fun v sg' =>
  withI .i64 (some v) fun n =>
  withA (plainA a0) fun a =>
  withOut (bif Nat.blt 30 1000000 then C (30 : FuncId) [a] sg' else none)
  (fun v sg' =>
  withT v fun vs =>
  bif vs.length.beq 2 then
  withA vs[0]? fun a =>
  withI .i64 vs[1]? fun n =>
  if (n != (0 : Int)) = false then
  withO (isNil 1 (.v a false)) fun b =>
  if (false ^^ b) = true then
  k .ret (mkS [6] [.v (.at (.bool false)) false] [none] (.sg sg'))
  else
  withO (lenV a2) fun n =>
  iter (law09_PagesPrefix.R2 C N) N
  (mkS
  [9, 21, 23, 77, 78, 79, 193, 194,
  195]
  [.v a0 false, .v a false, .v (.at (.bool false)) false, .v a3 false,
  .v (.at (.int .i64 n4)) false,
  .v (.at (.int .i64 n5)) false, .v a2 false,
  .v (.at (.int .i64 (↑n : Int))) false,
  .v (.at (.int .i64 (0 : Int))) false]
  [none, none, none, none, none, none, none, none, none] (.sg sg'))
  (law09_PagesPrefix.K2 C N k)
  else k .ret (mkS [6] [.v (.at (.bool false)) false] [none] (.sg sg'))
  else none)
  fun v sg' => some (.pan v sg'))
  fun v sg' => some (.pan v sg')
  else
  if (n != (0 : Int)) = false then
  withO (isNil 1 (.v a false)) fun b =>
  if (false ^^ b) = true then k .ret (mkS [6] [.v (.at (.bool false)) false] [none] (.sg sg'))
  else
  withO (lenV a2) fun n =>
  iter (law09_PagesPrefix.R2 C N) N
  (mkS [9, 21, 23, 77, 78, 79, 193, 194, 195]
  [.v a0 false, .v a false, .v (.at (.bool false)) false, .v a3 false,
  .v (.at (.int .i64 n4)) false, .v (.at (.int .i64 n5)) false, .v a2 false,
  .v (.at (.int .i64 (↑n : Int))) false, .v (.at (.int .i64 (0 : Int))) false]
  [none, none, none, none, none, none, none, none, none] (.sg sg'))
  (law09_PagesPrefix.K2 C N k)
  else k .ret (mkS [6] [.v (.at (.bool false)) false] [none] (.sg sg'))
  else none)
  fun v sg' => some (.pan v sg'))
  fun v sg' => some (.pan v sg'))
  fun v sg' => some (.pan v sg')
  else
  k .normal
  (mkS [9, 11, 13, 77, 78, 79]
  [.v a0 false, .v a1 false, .v a2 false, .v a3 false, .v (.at (.int .i64 n4)) false,
  .v (.at (.int .i64 (IntKind.i64.wrap (n5 + (1 : Int))))) false]
  [none, none, none, none, none, none] (.sg sg6))
  else none
  else none
  else k (.exit 0) (mkS [] [] [] (.sg sg6)) := by kernel_rfl
theorem law09_PagesPrefix.r2 (a0 : AVal) (a1 : AVal) (b2 : Bool) (a3 : AVal) (n4 : Int) (n5 : Int) (a6 : AVal) (n7 : Int) (n8 : Int) (sg9 : Sg) (k : Ex → St → R) :
  law09_PagesPrefix.R2 C N
  (mkS [9, 21, 23, 77, 78, 79, 193, 194, 195]
  [.v a0 false, .v a1 false, .v (.at (.bool b2)) false, .v a3 false, .v (.at (.int .i64 n4)) false, .v (.at (.int .i64 n5)) false,
  .v a6 false, .v (.at (.int .i64 n7)) false, .v (.at (.int .i64 n8)) false]
  [none, none, none, none, none, none, none, none, none] (.sg sg9))
  k =
  if decide (n8 < n7) = true then
  withO (elemV 1 n8 a6) fun r =>
  withO (loadC none sg9 r) fun p =>
  withA p.fst[p.snd]? fun r =>
  if b2 = false then
  withA (plainA a1) fun a =>
  withOut (bif Nat.blt 44 1000000 then C (44 : FuncId) [a] sg9 else none)
  (fun v sg' =>
  withA (plainA r) fun a =>
  withA (plainA v) fun a_1 =>
  withOut (bif Nat.blt 28 1000000 then C (28 : FuncId) [a, a_1] sg' else none)
  (fun v x =>
  withB (some v) fun b =>
  k .normal
  (mkS [9, 21, 23, 77, 78, 79, 193, 194, 195]
  [.v a0 false, .v a1 false, .v (.at (.bool b)) false, .v a3 false, .v (.at (.int .i64 n4)) false,
  .v (.at (.int .i64 n5)) false, .v a6 false, .v (.at (.int .i64 n7)) false,
  .v (.at (.int .i64 (IntKind.i64.wrap (n8 + (1 : Int))))) false]
  [none, none, none, none, none, none, none, none, none] (.sg sg')))
  fun v x => some (.pan v sg'))
  fun v sg' => some (.pan v sg')
  else
  k .normal
  (mkS [9, 21, 23, 77, 78, 79, 193, 194, 195]
  [.v a0 false, .v a1 false, .v (.at (.bool true)) false, .v a3 false, .v (.at (.int .i64 n4)) false,
  .v (.at (.int .i64 n5)) false, .v a6 false, .v (.at (.int .i64 n7)) false,
  .v (.at (.int .i64 (IntKind.i64.wrap (n8 + (1 : Int))))) false]
  [none, none, none, none, none, none, none, none, none] (.sg sg9))
  else
  k (.exit 5)
  (mkS [9, 21, 23, 77, 78, 79]
  [.v a0 false, .v a1 false, .v (.at (.bool b2)) false, .v a3 false, .v (.at (.int .i64 n4)) false, .v (.at (.int .i64 n5)) false]
  [none, none, none, none, none, none] (.sg sg9)) := by kernel_rfl
theorem law09_PagesPrefix.k2_1 (a0 : AVal) (a1 : AVal) (b2 : Bool) (a3 : AVal) (n4 : Int) (n5 : Int) (sg6 : Sg) (k : Ex → St → R) :
  law09_PagesPrefix.K2 C N k (.exit 5)
  (mkS [9, 21, 23, 77, 78, 79]
  [.v a0 false, .v a1 false, .v (.at (.bool b2)) false, .v a3 false, .v (.at (.int .i64 n4)) false, .v (.at (.int .i64 n5)) false]
  [none, none, none, none, none, none] (.sg sg6)) =
  if (!b2) = true then k .ret (mkS [6] [.v (.at (.bool false)) false] [none] (.sg sg6))
  else
  withA (plainA a1) fun a =>
  withOut (bif Nat.blt 44 1000000 then C (44 : FuncId) [a] sg6 else none)
  (fun v sg' =>
  withA (plainA v) fun a =>
  bif allSz 1 [a] && Nat.blt 0 1 then
  k .normal
  (mkS [9, 11, 13, 77, 78, 79]
  [.v a0 false, .v a1 false, .v (.gs (List.length sg') 1 0 1) false, .v a3 false, .v (.at (.int .i64 n4)) false,
  .v (.at (.int .i64 (IntKind.i64.wrap (n5 + (1 : Int))))) false]
  [none, none, none, none, none, none] (.sg (sg' ++ [Box.mk (a.cells ++ [])])))
  else none)
  fun v sg' => some (.pan v sg') := by kernel_rfl
theorem law09_PagesPrefix.r1 (a0 : AVal) (a1 : AVal) (a2 : AVal) (a3 : AVal) (a4 : AVal) (n5 : Int) (n6 : Int) (a7 : AVal) (n8 : Int) (n9 : Int) (sg10 : Sg) (k : Ex → St → R) :
  law09_PagesPrefix.R1 C N
  (mkS [9, 11, 13, 16, 77, 78, 79, 108, 109, 110]
  [.v a0 false, .v a1 false, .v a2 false, .v a3 false, .v a4 false, .v (.at (.int .i64 n5)) false, .v (.at (.int .i64 n6)) false,
  .v a7 false, .v (.at (.int .i64 n8)) false, .v (.at (.int .i64 n9)) false]
  [none, none, none, none, none, none, none, none, none, none] (.sg sg10))
  k =
  if decide (n9 < n8) = true then
  withO (elemV 2 n9 a7) fun r =>
  withO (loadC none sg10 r) fun p =>
  bif (p.snd + 2).ble p.fst.length then
  bindL (List.take 2 (List.drop p.snd p.fst)) fun l =>
  bif (AVal.agg l).cells.length.beq 2 then
  bindL (splice [.at (.int .i64 (0 : Int)), .at (.string (ByteArray.mk (#[])))] 0 (AVal.agg l).cells) fun cs =>
  withI .i64 cs[0]? fun n =>
  if decide (n < (0 : Int)) = false then
  withI .i64 cs[0]? fun n =>
  withO (lenV a3) fun n_1 =>
  if decide (n ≥ (↑n_1 : Int)) = true then k .ret (mkS [6] [.v (.at (.bool false)) false] [none] (.sg sg10))
  else
  withI .i64 cs[0]? fun n =>
  withS cs[1]? fun s =>
  withO (elemV 1 n a3) fun r =>
  withO (storeG none sg10 r 1 (.at (.string s))) fun sg =>
  k .normal
  (mkS [9, 11, 13, 16, 77, 78, 79, 108, 109, 110]
  [.v a0 false, .v a1 false, .v a2 false, .v a3 false, .v a4 false, .v (.at (.int .i64 n5)) false,
  .v (.at (.int .i64 n6)) false, .v a7 false, .v (.at (.int .i64 n8)) false,
  .v (.at (.int .i64 (IntKind.i64.wrap (n9 + (1 : Int))))) false]
  [none, none, none, none, none, none, none, none, none, none] (.sg sg))
  else k .ret (mkS [6] [.v (.at (.bool false)) false] [none] (.sg sg10))
  else none
  else none
  else
  k (.exit 3)
  (mkS [9, 11, 13, 16, 77, 78, 79]
  [.v a0 false, .v a1 false, .v a2 false, .v a3 false, .v a4 false, .v (.at (.int .i64 n5)) false, .v (.at (.int .i64 n6)) false]
  [none, none, none, none, none, none, none] (.sg sg10)) := by kernel_rfl
theorem law09_PagesPrefix.k1_2 (a0 : AVal) (a1 : AVal) (a2 : AVal) (a3 : AVal) (a4 : AVal) (n5 : Int) (n6 : Int) (sg7 : Sg) (k : Ex → St → R) :
  law09_PagesPrefix.K1 C N k (.exit 3)
  (mkS [9, 11, 13, 16, 77, 78, 79]
  [.v a0 false, .v a1 false, .v a2 false, .v a3 false, .v a4 false, .v (.at (.int .i64 n5)) false, .v (.at (.int .i64 n6)) false]
  [none, none, none, none, none, none, none] (.sg sg7)) =
  withA (plainA a3) fun a =>
  bif allSz 1 [a] && Nat.blt 0 1 then
  withO (flatG (sg7 ++ [Box.mk (a.cells ++ [])]) 1 (AVal.gs (List.length sg7) 1 0 1)) fun p =>
  bif p.fst.beq 0 then
  withO (app0 1 a2) fun r =>
  k .normal
  (mkS [9, 11, 13, 77, 78, 79]
  [.v a0 false, .v a1 false, .v r false, .v a4 false, .v (.at (.int .i64 n5)) false,
  .v (.at (.int .i64 (IntKind.i64.wrap (n6 + (1 : Int))))) false]
  [none, none, none, none, none, none] (.sg (sg7 ++ [Box.mk (a.cells ++ [])])))
  else
  if p.fst * 24 ≤ 35184372088832 then
  withO (app1 none 1 24 (sg7 ++ [Box.mk (a.cells ++ [])]) a2 p.fst p.snd) fun q =>
  k .normal
  (mkS [9, 11, 13, 77, 78, 79]
  [.v a0 false, .v a1 false, .v q.fst false, .v a4 false, .v (.at (.int .i64 n5)) false,
  .v (.at (.int .i64 (IntKind.i64.wrap (n6 + (1 : Int))))) false]
  [none, none, none, none, none, none] (.sg q.snd))
  else none
  else none := by kernel_rfl
theorem law09_lives.main (sg0 : Sg) : evalF C N law09_lives.a [] sg0 = withOut (bif Nat.blt 41 1000000 then C (41 : FuncId) [ofConst (Value.int IntKind.i64 (8 : Int)), ofConst (Value.int IntKind.i64 (6 : Int))] [] else
  none) (fun v x => withT v fun vs => bif vs.length.beq 2 then withI .i64 vs[0]? fun n => withI .i64 vs[1]? fun
  (n_1 : Int) => withOut (bif Nat.blt 43 1000000 then C (43 : FuncId) [ofConst (Value.int IntKind.i64 (15 : Int))] sg0 else none) (fun (v : AVal) (sg' : Sg) => withT v fun
  (vs : List AVal) => bif vs.length.beq 2 then withA vs[0]? fun a => withI .i64 vs[1]? fun n_2 => if (n_1 != (0 : Int)) = false then
  if (n != (15 : Int)) = false then if (n_2 != (0 : Int)) = false then withO (isNil 1 (.v a false)) fun b => if (false ^^ b) = true then
  some (.ret (.at (.bool false)) sg') else withA (plainA a) fun a_1 => withOut (bif Nat.blt 29 1000000 then C (29 : FuncId) [a_1, ofConst (Value.int IntKind.i64 (8 : Int)), ofConst (Value.int IntKind.i64 (6 : Int))] sg' else
  none) (fun (v : AVal) (sg' : Sg) => withT v fun vs => bif vs.length.beq 2 then withA vs[0]? fun a_2 => withI .i64 vs[1]? fun
  (n : Int) => withA (plainA a) fun a_3 => withOut (bif Nat.blt 29 1000000 then C (29 : FuncId) [a_3, ofConst (Value.int IntKind.i64 (9 : Int)), ofConst (Value.int IntKind.i64 (6 : Int))] sg' else
  none) (fun (v : AVal) (sg' : Sg) => withT v fun vs => bif vs.length.beq 2 then withA vs[0]? fun a_4 => withI .i64 vs[1]? fun
  (n_3 : Int) => if (n != (0 : Int)) = false then withO (isNil 1 (.v a_2 false)) fun b => if (false ^^ b) = false then if (n_3 != (18 : Int)) = true then
  some (.ret (.at (.bool false)) sg') else withOut (bif Nat.blt 24 1000000 then C (24 : FuncId) [ofConst (Value.int IntKind.u8 (7 : Int))] [] else
  none) (fun v x => withS (some v) fun s => bif true && Nat.blt 0 2 then withA (plainA a_2) fun a_5 => withOut (bif Nat.blt 32 1000000 then
  C (32 : FuncId) [a_5, AVal.gs (List.length sg') 2 0 1] (sg' ++ [Box.mk [.at (.int .i64 (3 : Int)), .at (.string s)]]) else
  none) (fun (v : AVal) (sg' : Sg) => withI .i64 (some v) fun n => withOut (bif Nat.blt 24 1000000 then C (24 : FuncId) [ofConst (Value.int IntKind.u8 (7 : Int))] [] else
  none) (fun v x => withS (some v) fun s => bif true && Nat.blt 0 2 then withA (plainA a_2) fun a_6 => withOut (bif Nat.blt 32 1000000 then
  C (32 : FuncId) [a_6, AVal.gs (List.length sg') 2 0 1] (sg' ++ [Box.mk [.at (.int .i64 (8 : Int)), .at (.string s)]]) else
  none) (fun (v : AVal) (sg' : Sg) => withI .i64 (some v) fun n_4 => withA (plainA a_2) fun a_7 => withOut (bif Nat.blt 37 1000000 then
  C (37 : FuncId) [a_7] sg' else none) (fun v x => withI .i64 (some v) fun n_5 => withA (plainA a_2) fun a_8 => withOut (bif Nat.blt 38 1000000 then
  C (38 : FuncId) [a_8] sg' else none) (fun v x => withI .i64 (some v) fun n_6 => withA (plainA a_2) fun a_9 => withOut (bif Nat.blt 36 1000000 then
  C (36 : FuncId) [a_9] sg' else none) (fun v x => withI .i64 (some v) fun n_7 => withA (plainA a_2) fun a_10 => withOut (bif Nat.blt 33 1000000 then
  C (33 : FuncId) [a_10] sg' else none) (fun (v : AVal) (sg' : Sg) => withI .i64 (some v) fun n_8 => withA (plainA a) fun a => withOut (bif Nat.blt 30 1000000 then
  C (30 : FuncId) [a] sg' else none) (fun (v : AVal) (sg' : Sg) => withT v fun vs => bif vs.length.beq 2 then withA vs[0]? fun
  (a : AVal) => withI .i64 vs[1]? fun n_9 => if (n_9 != (0 : Int)) = false then withO (isNil 1 (.v a false)) fun b => if (false ^^ b) = true then
  some (.ret (.at (.bool false)) sg') else withA (plainA a) fun a_11 => withOut (bif Nat.blt 31 1000000 then C (31 : FuncId) [a_11, ofConst (Value.int IntKind.i64 (3 : Int))] sg' else
  none) (fun v x => withT v fun vs => bif vs.length.beq 2 then withS vs[0]? fun s => withI .i64 vs[1]? fun
  (n_10 : Int) => withA (plainA a) fun a_12 => withOut (bif Nat.blt 31 1000000 then C (31 : FuncId) [a_12, ofConst (Value.int IntKind.i64 (8 : Int))] sg' else
  none) (fun v x => withT v fun vs => bif vs.length.beq 2 then withS vs[0]? fun s_1 => withI .i64 vs[1]? fun
  (n_11 : Int) => if (n == (0 : Int)) = true then if (n_4 == (18 : Int)) = true then if (n_5 == (1 : Int)) = true then if (n_6 == (1 : Int)) = true then
  if (n_7 == (4 : Int)) = true then if (n_8 == (0 : Int)) = true then withOut (bif Nat.blt 24 1000000 then C (24 : FuncId) [ofConst (Value.int IntKind.u8 (7 : Int))] [] else
  none) (fun v x => withS (some v) fun s_2 => if eqS s s_2 = true then if (n_10 == (0 : Int)) = true then if (n_11 == (18 : Int)) = true then
  withA (plainA a) fun a_13 => withOut (bif Nat.blt 39 1000000 then C (39 : FuncId) [a_13] sg' else none) (fun v x => withI .u64 (some v) fun
  (n : Int) => if (n == (2 : Int)) = true then withA (plainA a) fun a => withOut (bif Nat.blt 35 1000000 then C (35 : FuncId) [a] sg' else
  none) (fun v x => withI .i64 (some v) fun n => if (n == (8 : Int)) = true then withA (plainA a_2) fun a => withOut (bif Nat.blt 37 1000000 then
  C (37 : FuncId) [a] sg' else none) (fun v x => withI .i64 (some v) fun n => some (.ret (.at (.bool (n == (0 : Int)))) sg')) fun
  (v : AVal) (x : Sg) => some (.pan v sg') else some (.ret (.at (.bool false)) sg')) fun v x => some (.pan v sg') else
  some (.ret (.at (.bool false)) sg')) fun v x => some (.pan v sg') else some (.ret (.at (.bool false)) sg') else
  some (.ret (.at (.bool false)) sg') else some (.ret (.at (.bool false)) sg')) fun x x_1 => none else some (.ret (.at (.bool false)) sg') else
  some (.ret (.at (.bool false)) sg') else some (.ret (.at (.bool false)) sg') else some (.ret (.at (.bool false)) sg') else
  some (.ret (.at (.bool false)) sg') else some (.ret (.at (.bool false)) sg') else none) fun v x => some (.pan v sg') else
  none) fun v x => some (.pan v sg') else some (.ret (.at (.bool false)) sg') else none) fun (v : AVal) (sg' : Sg) => some (.pan v sg')) fun
  (v : AVal) (sg' : Sg) => some (.pan v sg')) fun v x => some (.pan v sg')) fun v x => some (.pan v sg')) fun v x => some (.pan v sg')) fun
  (v : AVal) (sg' : Sg) => some (.pan v sg') else none) fun x x_1 => none) fun (v : AVal) (sg' : Sg) => some (.pan v sg') else none) fun
  (x : AVal) (x_1 : Sg) => none else some (.ret (.at (.bool false)) sg') else some (.ret (.at (.bool false)) sg') else none) fun
  (v : AVal) (sg' : Sg) => some (.pan v sg') else none) fun (v : AVal) (sg' : Sg) => some (.pan v sg') else some (.ret (.at (.bool false)) sg') else
  some (.ret (.at (.bool false)) sg') else some (.ret (.at (.bool false)) sg') else none) fun (v : AVal) (sg' : Sg) => some (.pan v sg') else
  none) fun x x_1 => none := by kernel_rfl
end Go.Abs
