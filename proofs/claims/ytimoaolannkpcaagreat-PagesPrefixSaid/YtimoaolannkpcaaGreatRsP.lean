/- THE RESIDUALS: what each function's evaluation comes to, by the kernel. Printed by a program of my own. -/
import Derived.Test.YtimoaolannkpcaaGreatCodeP
import Derived.Test.YtimoaolannkpcaaGreatEngC
import Derived.KernelRfl
set_option linter.unusedVariables false
set_option linter.unusedSimpArgs false
set_option linter.unusedSectionVars false
namespace Go.Abs
set_option maxRecDepth 100000
set_option linter.unusedVariables false
variable (C : CallF) (N : Nat)
theorem disk_Disk_Len.main (m0 : Nat) (sg1 : Sg) :
  evalF C N disk_Disk_Len.a [.gp m0 0] sg1 =
  if (false ^^ false) = true then some (.ret (.at (.int .i64 (0 : Int))) sg1)
  else
  withO (loadC none sg1 (AVal.gp m0 0)) fun p =>
  withA p.fst[p.snd]? fun r => withO (lenV r) fun n => some (.ret (.at (.int .i64 (↑n : Int))) sg1) := by kernel_rfl
theorem disk_Disk_Write.main (m0 : Nat) (n1 : Int) (s2 : ByteArray) (sg3 : Sg) :
  evalF C N disk_Disk_Write.a [.gp m0 0, .at (.int .i64 n1), .at (.string s2)] sg3 =
  withOut (bif Nat.blt 234 1000000 then C (234 : FuncId) [.gp m0 0, .at (.int .i64 n1)] sg3 else none)
  (fun v x =>
  withB (some v) fun b =>
  if (!b) = false then
  if ((↑s2.size : Int) != (512 : Int)) = true then some (.ret (.at (.int .i64 (18 : Int))) sg3)
  else
  withOut (bif Nat.blt 235 1000000 then C (235 : FuncId) [.gp m0 0] sg3 else none)
  (fun v sg' =>
  withI .i64 (some v) fun n =>
  if (n == (0 : Int)) = true then
  withO (loadC none sg' (AVal.gp m0 1)) fun p =>
  withA p.fst[p.snd]? fun r =>
  bif true && Nat.blt 0 2 then
  withO (flatG (sg' ++ [Box.mk [.at (.int .i64 n1), .at (.string s2)]]) 2 (AVal.gs (List.length sg') 2 0 1))
  fun p =>
  bif p.fst.beq 0 then
  withO (app0 2 r) fun r =>
  withA (plainA r) fun v =>
  withO (storeG none (sg' ++ [Box.mk [.at (.int .i64 n1), .at (.string s2)]]) (AVal.gp m0 1) 1 v) fun sg =>
  some (.ret (.at (.int .i64 n)) sg)
  else
  if p.fst * 24 ≤ 35184372088832 then
  withO (app1 none 2 24 (sg' ++ [Box.mk [.at (.int .i64 n1), .at (.string s2)]]) r p.fst p.snd) fun q =>
  withA (plainA q.fst) fun v =>
  withO (storeG none q.snd (AVal.gp m0 1) 1 v) fun sg => some (.ret (.at (.int .i64 n)) sg)
  else none
  else none
  else some (.ret (.at (.int .i64 n)) sg'))
  fun v sg' => some (.pan v sg')
  else some (.ret (.at (.int .i64 (18 : Int))) sg3))
  fun v x => some (.pan v sg3) := by kernel_rfl
theorem sector_Blank.main (sg0 : Sg) :
  evalF C N sector_Blank.a [] sg0 =
  withOut (bif Nat.blt 126 1000000 then C (126 : FuncId) [ofConst (Value.string (ByteArray.mk (#[]))), ofConst (Value.int IntKind.i64 (512 : Int))] [] else none)
  (fun v x => withS (some v) fun s => some (.ret (.at (.string s)) sg0)) fun x x_1 => none := by kernel_rfl
theorem disk_Disk_Flush.main (m0 : Nat) (sg1 : Sg) :
  evalF C N disk_Disk_Flush.a [.gp m0 0] sg1 =
  if (false ^^ false) = true then some (.ret (.at (.int .i64 (18 : Int))) sg1)
  else
  withOut (bif Nat.blt 235 1000000 then C (235 : FuncId) [.gp m0 0] sg1 else none)
  (fun v sg' =>
  withI .i64 (some v) fun n =>
  if (n == (0 : Int)) = true then
  withOut (bif Nat.blt 150 1000000 then C (150 : FuncId) [.gp m0 0, AVal.clo (236 : FuncId) [] []] sg' else none)
  (fun v sg' => withI .i64 (some v) fun n_1 => some (.ret (.at (.int .i64 n)) sg')) fun v sg' => some (.pan v sg')
  else some (.ret (.at (.int .i64 n)) sg'))
  fun v sg' => some (.pan v sg') := by kernel_rfl
theorem disk_Disk_Down.main (m0 : Nat) (sg1 : Sg) :
  evalF C N disk_Disk_Down.a [.gp m0 0] sg1 =
  if (false ^^ false) = false then withO (loadC none sg1 (AVal.gp m0 3)) fun p => withB p.fst[p.snd]? fun b => some (.ret (.at (.bool b)) sg1)
  else some (.ret (.at (.bool true)) sg1) := by kernel_rfl
theorem disk_Disk_settle.main (m0 : Nat) (a1 : FuncId) (l2 : List AVal) (l3 : List AVal) (sg4 : Sg) :
  evalF C N disk_Disk_settle.a [.gp m0 0, AVal.clo a1 l2 l3] sg4 =
  withO (loadC none sg4 (AVal.gp m0 1)) fun p =>
  withA p.fst[p.snd]? fun r =>
  withO (lenV r) fun n =>
  iter (disk_Disk_settle.R0 C N) N
  (mkS [0, 1, 5, 11, 12, 13]
  [.v (.gp m0 0) false, .v (.clo a1 l2 l3) false, .v (.at (.int .i64 (0 : Int))) false, .v r false,
  .v (.at (.int .i64 (↑n : Int))) false, .v (.at (.int .i64 (0 : Int))) false]
  [none, none, none, none, none, none] (.sg sg4))
  (disk_Disk_settle.K0 C N) := by kernel_rfl
theorem disk_Disk_settle.r0 (m0 : Nat) (a1 : FuncId) (l2 : List AVal) (l3 : List AVal) (n4 : Int) (a5 : AVal) (n6 : Int) (n7 : Int) (sg8 : Sg) (k : Ex → St → R) :
  disk_Disk_settle.R0 C N
  (mkS [0, 1, 5, 11, 12, 13]
  [.v (.gp m0 0) false, .v (.clo a1 l2 l3) false, .v (.at (.int .i64 n4)) false, .v a5 false, .v (.at (.int .i64 n6)) false,
  .v (.at (.int .i64 n7)) false]
  [none, none, none, none, none, none] (.sg sg8))
  k =
  if decide (n7 < n6) = true then
  withO (elemV 2 n7 a5) fun r =>
  withO (loadC none sg8 r) fun p =>
  bif (p.snd + 2).ble p.fst.length then
  bindL (List.take 2 (List.drop p.snd p.fst)) fun l =>
  bif (AVal.agg l).cells.length.beq 2 then
  bindL (splice [.at (.int .i64 (0 : Int)), .at (.string (ByteArray.mk (#[])))] 0 (AVal.agg l).cells) fun cs =>
  withOut (bif Nat.blt a1 1000000 then C a1 (l2 ++ ([.at (.int .i64 n7)] ++ l3)) sg8 else none)
  (fun v sg' =>
  withB (some v) fun b =>
  if b = true then
  withO (loadC none sg' (AVal.gp m0 0)) fun p =>
  withA p.fst[p.snd]? fun r =>
  withI .i64 cs[0]? fun n =>
  withS cs[1]? fun s =>
  withO (elemV 1 n r) fun r =>
  withO (storeG none sg' r 1 (.at (.string s))) fun sg =>
  k .normal
  (mkS [0, 1, 5, 11, 12, 13]
  [.v (.gp m0 0) false, .v (.clo a1 l2 l3) false, .v (.at (.int .i64 (IntKind.i64.wrap (n4 + (1 : Int))))) false,
  .v a5 false, .v (.at (.int .i64 n6)) false, .v (.at (.int .i64 (IntKind.i64.wrap (n7 + (1 : Int))))) false]
  [none, none, none, none, none, none] (.sg sg))
  else
  k .normal
  (mkS [0, 1, 5, 11, 12, 13]
  [.v (.gp m0 0) false, .v (.clo a1 l2 l3) false, .v (.at (.int .i64 n4)) false, .v a5 false,
  .v (.at (.int .i64 n6)) false, .v (.at (.int .i64 (IntKind.i64.wrap (n7 + (1 : Int))))) false]
  [none, none, none, none, none, none] (.sg sg')))
  fun v sg' => some (.pan v sg')
  else none
  else none
  else k (.exit 0) (mkS [0, 5] [.v (.gp m0 0) false, .v (.at (.int .i64 n4)) false] [none, none] (.sg sg8)) := by kernel_rfl
theorem disk_Disk_settle.k0_1 (m0 : Nat) (n1 : Int) (sg2 : Sg) :
  disk_Disk_settle.K0 C N (.exit 0) (mkS [0, 5] [.v (.gp m0 0) false, .v (.at (.int .i64 n1)) false] [none, none] (.sg sg2)) =
  withO (storeG none sg2 (AVal.gp m0 1) 1 (.sl true 0 [])) fun sg => some (.ret (.at (.int .i64 n1)) sg) := by kernel_rfl
theorem disk_Disk_has.main (m0 : Nat) (n1 : Int) (sg2 : Sg) :
  evalF C N disk_Disk_has.a [.gp m0 0, .at (.int .i64 n1)] sg2 =
  if decide (n1 ≥ (0 : Int)) = true then
  withOut (bif Nat.blt 129 1000000 then C (129 : FuncId) [.gp m0 0] sg2 else none)
  (fun v x => withI .i64 (some v) fun n => some (.ret (.at (.bool (decide (n1 < n)))) sg2)) fun v x => some (.pan v sg2)
  else some (.ret (.at (.bool false)) sg2) := by kernel_rfl
theorem disk_Disk_step.main (m0 : Nat) (sg1 : Sg) :
  evalF C N disk_Disk_step.a [.gp m0 0] sg1 =
  withO (loadC none sg1 (AVal.gp m0 3)) fun p =>
  withB p.fst[p.snd]? fun b =>
  if b = false then
  withO (loadC none sg1 (AVal.gp m0 2)) fun p =>
  withI .i64 p.fst[p.snd]? fun n =>
  if (n == (1 : Int)) = true then
  withO (storeG none sg1 (AVal.gp m0 3) 1 (.at (.bool true))) fun sg =>
  withO (storeG none sg (AVal.gp m0 2) 1 (.at (.int .i64 (0 : Int)))) fun sg => some (.ret (.at (.int .i64 (17 : Int))) sg)
  else
  withO (loadC none sg1 (AVal.gp m0 2)) fun p =>
  withI .i64 p.fst[p.snd]? fun n =>
  withO
  (storeG none sg1 (AVal.gp m0 2) 1
  (.at (.int .i64 (bif true then max2 (IntKind.i64.wrap (n - (1 : Int))) (0 : Int) else min2 (IntKind.i64.wrap (n - (1 : Int))) (0 : Int)))))
  fun sg =>
  withO (loadC none sg (AVal.gp m0 4)) fun p =>
  withI .i64 p.fst[p.snd]? fun n =>
  withO (storeG none sg (AVal.gp m0 4) 1 (.at (.int .i64 (IntKind.i64.wrap (n + (1 : Int)))))) fun sg =>
  some (.ret (.at (.int .i64 (0 : Int))) sg)
  else
  withO (storeG none sg1 (AVal.gp m0 3) 1 (.at (.bool true))) fun sg =>
  withO (storeG none sg (AVal.gp m0 2) 1 (.at (.int .i64 (0 : Int)))) fun sg => some (.ret (.at (.int .i64 (17 : Int))) sg) := by kernel_rfl
theorem disk_Disk_Flush_1.main (n0 : Int) (sg1 : Sg) :
  evalF C N disk_Disk_Flush_1.a [.at (.int .i64 n0)] sg1 =
  some (.ret (.at (.bool true)) sg1) := by kernel_rfl
theorem disk_New.main (n0 : Int) (sg1 : Sg) :
  evalF C N disk_New.a [.at (.int .i64 n0)] sg1 =
  if decide (n0 < (1 : Int)) = false then
  if decide (n0 > (4865 : Int)) = true then some (.ret (.tup [.at (.pointer none), .at (.int .i64 (18 : Int))]) sg1)
  else
  withOut (bif Nat.blt 131 1000000 then C (131 : FuncId) [] [] else none)
  (fun v x =>
  withS (some v) fun s =>
  bif true && Nat.blt 0 1 then
  withOut
  (bif Nat.blt 149 1000000 then
  C (149 : FuncId) [AVal.gs (List.length sg1) 1 0 1, .at (.int .i64 n0)] (sg1 ++ [Box.mk [.at (.string s)]])
  else none)
  (fun v sg' =>
  withA (plainA v) fun a =>
  bif a.cells.length.beq 1 then
  bindL
  (a.cells ++
  List.drop (0 + a.cells.length)
  [.sl true 1 [], .sl true 2 [], .at (.int .i64 (0 : Int)), .at (.bool false), .at (.int .i64 (0 : Int))])
  fun cs => some (.ret (.tup [.gp (List.length sg') 0, .at (.int .i64 (0 : Int))]) (sg' ++ [Box.mk (AVal.agg cs).cells]))
  else none)
  fun v sg' => some (.pan v sg')
  else none)
  fun x x_1 => none
  else some (.ret (.tup [.at (.pointer none), .at (.int .i64 (18 : Int))]) sg1) := by kernel_rfl
theorem octets_Num.main (n0 : Int) (n1 : Int) (sg2 : Sg) :
  evalF C N octets_Num.a [.at (.int .i64 n0), .at (.int .u64 n1)] sg2 =
  withOut (bif Nat.blt 277 1000000 then C (277 : FuncId) [.at (.int .i64 n0)] [] else none)
  (fun v x =>
  withB (some v) fun b =>
  if (!b) = true then some (.ret (.at (.string (ByteArray.mk (#[])))) sg2)
  else
  iter (octets_Num.R0 C N) N
  (mkS [0, 1, 5, 10, 11]
  [.v (.at (.int .i64 n0)) false, .v (.at (.int .u64 n1)) false, .v (.gp (List.length sg2) 0) false,
  .v (.at (.int .i64 n0)) false, .v (.at (.int .i64 (0 : Int))) false]
  [none, none, none, none, none]
  (RVal.sg
  (sg2 ++
  [Box.mk
  [.at (.int .u8 (0 : Int)), .at (.int .u8 (0 : Int)), .at (.int .u8 (0 : Int)), .at (.int .u8 (0 : Int)),
  .at (.int .u8 (0 : Int)), .at (.int .u8 (0 : Int)), .at (.int .u8 (0 : Int)), .at (.int .u8 (0 : Int))]])))
  (octets_Num.K0 C N))
  fun x x_1 => none := by kernel_rfl
theorem octets_Num.r0 (n0 : Int) (n1 : Int) (m2 : Nat) (n3 : Int) (n4 : Int) (sg5 : Sg) (k : Ex → St → R) :
  octets_Num.R0 C N
  (mkS [0, 1, 5, 10, 11]
  [.v (.at (.int .i64 n0)) false, .v (.at (.int .u64 n1)) false, .v (.gp m2 0) false, .v (.at (.int .i64 n3)) false,
  .v (.at (.int .i64 n4)) false]
  [none, none, none, none, none] (.sg sg5))
  k =
  if decide (n4 < n3) = true then
  if IntKind.i64.wrap ((8 : Int) * n4) < (0 : Int) then none
  else
  if (0 : Int) ≤ IntKind.i64.wrap (IntKind.i64.wrap (n0 - (1 : Int)) - n4) ∧ IntKind.i64.wrap (IntKind.i64.wrap (n0 - (1 : Int)) - n4) < (↑8 : Int) then
  withO
  (storeG none sg5 (AVal.gp m2 (0 + (IntKind.i64.wrap (IntKind.i64.wrap (n0 - (1 : Int)) - n4)).toNat * 1)) 1
  (.at (.int .u8 (IntKind.u8.wrap (shiftI BinOp.shr IntKind.u64 n1 (IntKind.i64.wrap ((8 : Int) * n4)))))))
  fun sg =>
  k .normal
  (mkS [0, 1, 5, 10, 11]
  [.v (.at (.int .i64 n0)) false, .v (.at (.int .u64 n1)) false, .v (.gp m2 0) false,
  .v (.at (.int .i64 n3)) false, .v (.at (.int .i64 (IntKind.i64.wrap (n4 + (1 : Int))))) false]
  [none, none, none, none, none] (.sg sg))
  else none
  else k (.exit 0) (mkS [0, 5] [.v (.at (.int .i64 n0)) false, .v (.gp m2 0) false] [none, none] (.sg sg5)) := by kernel_rfl
theorem octets_Num.k0_1 (n0 : Int) (m1 : Nat) (sg2 : Sg) :
  octets_Num.K0 C N (.exit 0) (mkS [0, 5] [.v (.at (.int .i64 n0)) false, .v (.gp m1 0) false] [none, none] (.sg sg2)) =
  if (0 : Int) ≤ (0 : Int) ∧ (0 : Int) ≤ n0 ∧ n0 ≤ (↑8 : Int) then
  withO sg2[m1]? fun (B : Box) =>
  bif Nat.blt 0 B.cells.length && Nat.ble 8 B.cells.length then
  withO (flatG sg2 1 (AVal.gs m1 1 (bif Nat.beq 8 (Int.toNat (0 : Int)) then 0 else 0 + Int.toNat (0 : Int) * 1) (n0.toNat - Int.toNat (0 : Int))))
  fun p => withO (bytesOf p.snd) fun (bs : List UInt8) => some (.ret (.at (.string (ByteArray.mk (bs.toArray)))) sg2)
  else none
  else none := by kernel_rfl
theorem octets_width.main (n0 : Int) (sg1 : Sg) :
  evalF C N octets_width.a [.at (.int .i64 n0)] sg1 =
  if decide (n0 ≥ (1 : Int)) = true then some (.ret (.at (.bool (decide (n0 ≤ (8 : Int))))) sg1) else some (.ret (.at (.bool false)) sg1) := by kernel_rfl
theorem sector_Seal.main (n0 : Int) (n1 : Int) (n2 : Int) (n3 : Int) (n4 : Int) (s5 : ByteArray) (sg6 : Sg) :
  evalF C N sector_Seal.a
  [AVal.agg
  [.at (.int .i64 n0), .at (.int .u64 n1), .at (.int .u64 n2), .at (.int .i64 n3), .at (.int .i64 n4),
  .at (.string s5)]]
  sg6 =
  withOut
  (bif Nat.blt 332 1000000 then
  C (332 : FuncId)
  [AVal.agg
  [.at (.int .i64 n0), .at (.int .u64 n1), .at (.int .u64 n2), .at (.int .i64 n3), .at (.int .i64 n4),
  .at (.string s5)]]
  []
  else none)
  (fun v x =>
  withI .i64 (some v) fun n =>
  if (n != (0 : Int)) = true then some (.ret (.tup [.at (.string (ByteArray.mk (#[]))), .at (.int .i64 n)]) sg6)
  else
  withI .i64
  [.at (.int .i64 n0), .at (.int .u64 n1), .at (.int .u64 n2), .at (.int .i64 n3), .at (.int .i64 n4),
  .at (.string s5)][0]?
  fun n =>
  withOut (bif Nat.blt 194 1000000 then C (194 : FuncId) [ofConst (Value.int IntKind.i64 (1 : Int)), .at (.int .u64 (IntKind.u64.wrap n))] [] else none)
  (fun v x =>
  withS (some v) fun s =>
  withOut (bif Nat.blt 194 1000000 then C (194 : FuncId) [ofConst (Value.int IntKind.i64 (1 : Int)), ofConst (Value.int IntKind.u64 (0 : Int))] [] else none)
  (fun v x =>
  withS (some v) fun s_1 =>
  if (↑(s.size + s_1.size) : Int) > IntKind.i64.max then none
  else
  withI .i64
  [.at (.int .i64 n0), .at (.int .u64 n1), .at (.int .u64 n2), .at (.int .i64 n3),
  .at (.int .i64 n4), .at (.string s5)][3]?
  fun n =>
  withOut
  (bif Nat.blt 194 1000000 then C (194 : FuncId) [ofConst (Value.int IntKind.i64 (2 : Int)), .at (.int .u64 (IntKind.u64.wrap n))] []
  else none)
  (fun v x =>
  withS (some v) fun s_2 =>
  if (↑((catS s s_1).size + s_2.size) : Int) > IntKind.i64.max then none
  else
  withI .i64
  [.at (.int .i64 n0), .at (.int .u64 n1), .at (.int .u64 n2), .at (.int .i64 n3),
  .at (.int .i64 n4), .at (.string s5)][4]?
  fun n =>
  withOut
  (bif Nat.blt 194 1000000 then
  C (194 : FuncId) [ofConst (Value.int IntKind.i64 (2 : Int)), .at (.int .u64 (IntKind.u64.wrap n))] []
  else none)
  (fun v x =>
  withS (some v) fun s_3 =>
  if (↑((catS (catS s s_1) s_2).size + s_3.size) : Int) > IntKind.i64.max then none
  else
  withOut
  (bif Nat.blt 194 1000000 then C (194 : FuncId) [ofConst (Value.int IntKind.i64 (2 : Int)), ofConst (Value.int IntKind.u64 (0 : Int))] []
  else none)
  (fun v x =>
  withS (some v) fun s_4 =>
  if (↑((catS (catS (catS s s_1) s_2) s_3).size + s_4.size) : Int) > IntKind.i64.max then none
  else
  withI .u64
  [.at (.int .i64 n0), .at (.int .u64 n1), .at (.int .u64 n2), .at (.int .i64 n3),
  .at (.int .i64 n4), .at (.string s5)][1]?
  fun n =>
  withOut
  (bif Nat.blt 194 1000000 then C (194 : FuncId) [ofConst (Value.int IntKind.i64 (8 : Int)), .at (.int .u64 n)] []
  else none)
  (fun v x =>
  withS (some v) fun s_5 =>
  if (↑((catS (catS (catS (catS s s_1) s_2) s_3) s_4).size + s_5.size) : Int) > IntKind.i64.max then none
  else
  withI .u64
  [.at (.int .i64 n0), .at (.int .u64 n1), .at (.int .u64 n2),
  .at (.int .i64 n3), .at (.int .i64 n4), .at (.string s5)][2]?
  fun n =>
  withOut
  (bif Nat.blt 194 1000000 then
  C (194 : FuncId) [ofConst (Value.int IntKind.i64 (8 : Int)), .at (.int .u64 n)] []
  else none)
  (fun v x =>
  withS (some v) fun s_6 =>
  if (↑((catS (catS (catS (catS (catS s s_1) s_2) s_3) s_4) s_5).size + s_6.size) : Int) > IntKind.i64.max then none
  else
  withOut
  (bif Nat.blt 194 1000000 then
  C (194 : FuncId) [ofConst (Value.int IntKind.i64 (4 : Int)), ofConst (Value.int IntKind.u64 (0 : Int))] []
  else none)
  (fun v x =>
  withS (some v) fun s_7 =>
  if (↑((catS (catS (catS (catS (catS (catS s s_1) s_2) s_3) s_4) s_5) s_6).size + s_7.size) : Int) > IntKind.i64.max then
  none
  else
  withOut
  (bif Nat.blt 381 1000000 then
  C (381 : FuncId)
  [.at (.string (catS (catS (catS (catS (catS (catS (catS s s_1) s_2) s_3) s_4) s_5) s_6) s_7))] []
  else none)
  (fun v x =>
  withI .u32 (some v) fun n =>
  withS
  [.at (.int .i64 n0), .at (.int .u64 n1), .at (.int .u64 n2),
  .at (.int .i64 n3), .at (.int .i64 n4),
  .at (.string s5)][5]?
  fun s_8 =>
  withOut
  (bif Nat.blt 380 1000000 then
  C (380 : FuncId) [.at (.int .u32 n), .at (.string s_8)] []
  else none)
  (fun v x =>
  withI .u32 (some v) fun n =>
  withOut
  (bif Nat.blt 194 1000000 then
  C (194 : FuncId)
  [ofConst (Value.int IntKind.i64 (4 : Int)), .at (.int .u64 (IntKind.u64.wrap n))] []
  else none)
  (fun v x =>
  withS (some v) fun s_9 =>
  if
  (↑((catS (catS (catS (catS (catS (catS (catS s s_1) s_2) s_3) s_4) s_5) s_6) s_7).size +
  s_9.size) :
  Int) >
  IntKind.i64.max then
  none
  else
  withS
  [.at (.int .i64 n0), .at (.int .u64 n1),
  .at (.int .u64 n2), .at (.int .i64 n3),
  .at (.int .i64 n4), .at (.string s5)][5]?
  fun s_10 =>
  if
  (↑((catS (catS (catS (catS (catS (catS (catS (catS s s_1) s_2) s_3) s_4) s_5) s_6) s_7)
  s_9).size +
  s_10.size) :
  Int) >
  IntKind.i64.max then
  none
  else
  some
  (Out.ret
  (AVal.tup
  [AVal.at
  (Value.string
  (catS
  (catS
  (catS (catS (catS (catS (catS (catS (catS s s_1) s_2) s_3) s_4) s_5) s_6) s_7)
  s_9)
  s_10)),
  .at (.int .i64 (0 : Int))])
  sg6))
  fun x x_1 => none)
  fun x x_1 => none)
  fun x x_1 => none)
  fun x x_1 => none)
  fun x x_1 => none)
  fun x x_1 => none)
  fun x x_1 => none)
  fun x x_1 => none)
  fun x x_1 => none)
  fun x x_1 => none)
  fun x x_1 => none)
  fun x x_1 => none := by kernel_rfl
theorem sector_Check.main (n0 : Int) (n1 : Int) (n2 : Int) (n3 : Int) (n4 : Int) (s5 : ByteArray) (sg6 : Sg) :
  evalF C N sector_Check.a
  [AVal.agg
  [.at (.int .i64 n0), .at (.int .u64 n1), .at (.int .u64 n2), .at (.int .i64 n3), .at (.int .i64 n4),
  .at (.string s5)]]
  sg6 =
  withI .i64
  [.at (.int .i64 n0), .at (.int .u64 n1), .at (.int .u64 n2), .at (.int .i64 n3), .at (.int .i64 n4),
  .at (.string s5)][0]?
  fun n =>
  if decide (n ≤ (0 : Int)) = false then
  withI .i64
  [.at (.int .i64 n0), .at (.int .u64 n1), .at (.int .u64 n2), .at (.int .i64 n3), .at (.int .i64 n4),
  .at (.string s5)][0]?
  fun n =>
  if decide (n ≥ (5 : Int)) = false then
  withI .i64
  [.at (.int .i64 n0), .at (.int .u64 n1), .at (.int .u64 n2), .at (.int .i64 n3), .at (.int .i64 n4),
  .at (.string s5)][3]?
  fun n =>
  withOut (bif Nat.blt 383 1000000 then C (383 : FuncId) [.at (.int .i64 n)] [] else none)
  (fun v x =>
  withB (some v) fun b =>
  if (!b) = false then
  withI .i64
  [.at (.int .i64 n0), .at (.int .u64 n1), .at (.int .u64 n2), .at (.int .i64 n3), .at (.int .i64 n4),
  .at (.string s5)][4]?
  fun n =>
  withOut (bif Nat.blt 383 1000000 then C (383 : FuncId) [.at (.int .i64 n)] [] else none)
  (fun v x =>
  withB (some v) fun b =>
  if (!b) = false then
  withS
  [.at (.int .i64 n0), .at (.int .u64 n1), .at (.int .u64 n2), .at (.int .i64 n3),
  .at (.int .i64 n4), .at (.string s5)][5]?
  fun s =>
  if ((↑s.size : Int) != (480 : Int)) = true then some (.ret (.at (.int .i64 (18 : Int))) sg6)
  else some (.ret (.at (.int .i64 (0 : Int))) sg6)
  else some (.ret (.at (.int .i64 (18 : Int))) sg6))
  fun x x_1 => none
  else some (.ret (.at (.int .i64 (18 : Int))) sg6))
  fun x x_1 => none
  else some (.ret (.at (.int .i64 (18 : Int))) sg6)
  else some (.ret (.at (.int .i64 (18 : Int))) sg6) := by kernel_rfl
theorem sector_short.main (n0 : Int) (sg1 : Sg) :
  evalF C N sector_short.a [.at (.int .i64 n0)] sg1 =
  if decide (n0 ≥ (0 : Int)) = true then some (.ret (.at (.bool (decide (n0 ≤ (65535 : Int))))) sg1) else some (.ret (.at (.bool false)) sg1) := by kernel_rfl
theorem crc_Sum.main (s0 : ByteArray) (sg1 : Sg) :
  evalF C N crc_Sum.a [.at (.string s0)] sg1 =
  withOut (bif Nat.blt 380 1000000 then C (380 : FuncId) [ofConst (Value.int IntKind.u32 (0 : Int)), .at (.string s0)] [] else none)
  (fun v x => withI .u32 (some v) fun n => some (.ret (.at (.int .u32 n)) sg1)) fun x x_1 => none := by kernel_rfl
theorem octets_Pad.main (s0 : ByteArray) (n1 : Int) (sg2 : Sg) :
  evalF C N octets_Pad.a [.at (.string s0), .at (.int .i64 n1)] sg2 =
  if decide (n1 > (65536 : Int)) = false then
  if decide (n1 ≤ (↑s0.size : Int)) = true then some (.ret (.at (.string s0)) sg2)
  else
  withOut
  (bif Nat.blt 230 1000000 then C (230 : FuncId) [ofConst (Value.string (ByteArray.mk (#[(0 : UInt8)]))), .at (.int .i64 (IntKind.i64.wrap (n1 - (↑s0.size : Int))))] []
  else none)
  (fun v x => withS (some v) fun s => if (↑(s0.size + s.size) : Int) > IntKind.i64.max then none else some (.ret (.at (.string (catS s0 s))) sg2))
  fun x x_1 => none
  else some (.ret (.at (.string s0)) sg2) := by kernel_rfl
theorem sector_Home.main (n0 : Int) (s1 : ByteArray) (sg2 : Sg) :
  evalF C N sector_Home.a [.at (.int .i64 n0), .at (.string s1)] sg2 =
  withOut
  (bif Nat.blt 332 1000000 then
  C (332 : FuncId)
  [AVal.agg
  [.at (.int .i64 (4 : Int)), .at (.int .u64 (0 : Int)), .at (.int .u64 (0 : Int)), .at (.int .i64 n0),
  .at (.int .i64 (0 : Int)), .at (.string s1)]]
  []
  else none)
  (fun v x =>
  withI .i64 (some v) fun n =>
  if (n == (0 : Int)) = true then
  withOut (bif Nat.blt 333 1000000 then C (333 : FuncId) [.at (.string s1)] [] else none)
  (fun v x =>
  withB (some v) fun b =>
  if b = true then
  withOut (bif Nat.blt 131 1000000 then C (131 : FuncId) [] [] else none)
  (fun v x => withS (some v) fun s => some (.ret (.tup [.at (.string s), .at (.int .i64 (0 : Int))]) sg2))
  fun x x_1 => none
  else
  withOut
  (bif Nat.blt 328 1000000 then
  C (328 : FuncId)
  [AVal.agg
  [.at (.int .i64 (4 : Int)), .at (.int .u64 (0 : Int)), .at (.int .u64 (0 : Int)), .at (.int .i64 n0),
  .at (.int .i64 (0 : Int)), .at (.string s1)]]
  []
  else none)
  (fun v x =>
  withT v fun vs =>
  bif vs.length.beq 2 then
  withS vs[0]? fun s =>
  withI .i64 vs[1]? fun n => some (.ret (.tup [.at (.string s), .at (.int .i64 n)]) sg2)
  else none)
  fun x x_1 => none)
  fun x x_1 => none
  else
  withOut
  (bif Nat.blt 328 1000000 then
  C (328 : FuncId)
  [AVal.agg
  [.at (.int .i64 (4 : Int)), .at (.int .u64 (0 : Int)), .at (.int .u64 (0 : Int)), .at (.int .i64 n0),
  .at (.int .i64 (0 : Int)), .at (.string s1)]]
  []
  else none)
  (fun v x =>
  withT v fun vs =>
  bif vs.length.beq 2 then
  withS vs[0]? fun s =>
  withI .i64 vs[1]? fun n => some (.ret (.tup [.at (.string s), .at (.int .i64 n)]) sg2)
  else none)
  fun x x_1 => none)
  fun x x_1 => none := by kernel_rfl
theorem octets_Noughts.main (s0 : ByteArray) (sg1 : Sg) :
  evalF C N octets_Noughts.a [.at (.string s0)] sg1 =
  withOut (bif Nat.blt 384 1000000 then C (384 : FuncId) [.at (.string s0), ofConst (Value.string (ByteArray.mk (#[(0 : UInt8)])))] [] else none)
  (fun v x => withI .i64 (some v) fun n => some (.ret (.at (.bool (n == (↑s0.size : Int)))) sg1)) fun x x_1 => none := by kernel_rfl
theorem journal_Journal_write.main (m0 : Nat) (n1 : Int) (n2 : Int) (n3 : Int) (n4 : Int) (n5 : Int) (n6 : Int) (s7 : ByteArray) (sg8 : Sg) :
  evalF C N journal_Journal_write.a
  [.gp m0 0, .at (.int .i64 n1),
  AVal.agg
  [.at (.int .i64 n2), .at (.int .u64 n3), .at (.int .u64 n4), .at (.int .i64 n5), .at (.int .i64 n6),
  .at (.string s7)]]
  sg8 =
  withO (loadC none sg8 (AVal.gp m0 2)) fun p =>
  withI .u64 p.fst[p.snd]? fun n =>
  withO (loadC none sg8 (AVal.gp m0 4)) fun p =>
  withI .u64 p.fst[p.snd]? fun n_1 =>
  withOut
  (bif Nat.blt 328 1000000 then
  C (328 : FuncId)
  [AVal.agg
  [.at (.int .i64 n2), .at (.int .u64 n), .at (.int .u64 (IntKind.u64.wrap (n_1 + (1 : Int)))), .at (.int .i64 n5),
  .at (.int .i64 n6), .at (.string s7)]]
  []
  else none)
  (fun v x =>
  withT v fun vs =>
  bif vs.length.beq 2 then
  withS vs[0]? fun s =>
  withI .i64 vs[1]? fun n =>
  if (n != (0 : Int)) = true then some (.ret (.at (.int .i64 n)) sg8)
  else
  withO (loadC none sg8 (AVal.gp m0 0)) fun p =>
  withA p.fst[p.snd]? fun r =>
  withO (loadC none sg8 (AVal.gp m0 3)) fun p =>
  withI .i64 p.fst[p.snd]? fun n =>
  withA (plainA r) fun a =>
  withOut
  (bif Nat.blt 130 1000000 then
  C (130 : FuncId) [a, .at (.int .i64 (IntKind.i64.wrap (IntKind.i64.wrap ((1 : Int) + n) + n1))), .at (.string s)] sg8
  else none)
  (fun v sg' => withI .i64 (some v) fun n => some (.ret (.at (.int .i64 n)) sg')) fun v sg' => none
  else none)
  fun x x_1 => none := by kernel_rfl
theorem journal_Journal_Room.main (m0 : Nat) (sg1 : Sg) :
  evalF C N journal_Journal_Room.a [.gp m0 0] sg1 =
  if (false ^^ false) = true then some (.ret (.at (.int .i64 (0 : Int))) sg1)
  else
  withO (loadC none sg1 (AVal.gp m0 1)) fun p =>
  withI .i64 p.fst[p.snd]? fun n =>
  withO (loadC none sg1 (AVal.gp m0 3)) fun p =>
  withI .i64 p.fst[p.snd]? fun n_1 => some (.ret (.at (.int .i64 (IntKind.i64.wrap (n - n_1)))) sg1) := by kernel_rfl
theorem journal_Journal_Number.main (m0 : Nat) (sg1 : Sg) :
  evalF C N journal_Journal_Number.a [.gp m0 0] sg1 =
  if (false ^^ false) = true then some (.ret (.at (.int .u64 (0 : Int))) sg1)
  else withO (loadC none sg1 (AVal.gp m0 4)) fun p => withI .u64 p.fst[p.snd]? fun n => some (.ret (.at (.int .u64 n)) sg1) := by kernel_rfl
theorem journal_Journal_Epoch.main (m0 : Nat) (sg1 : Sg) :
  evalF C N journal_Journal_Epoch.a [.gp m0 0] sg1 =
  if (false ^^ false) = true then some (.ret (.at (.int .u64 (0 : Int))) sg1)
  else withO (loadC none sg1 (AVal.gp m0 2)) fun p => withI .u64 p.fst[p.snd]? fun n => some (.ret (.at (.int .u64 n)) sg1) := by kernel_rfl
theorem journal_Open.main (m0 : Nat) (n1 : Int) (n2 : Int) (sg3 : Sg) :
  evalF C N journal_Open.a [.gp m0 0, .at (.int .i64 n1), .at (.int .u64 n2)] sg3 =
  if (false ^^ false) = false then
  if decide (n1 < (4 : Int)) = false then
  if decide (n1 > (1024 : Int)) = false then
  withOut (bif Nat.blt 129 1000000 then C (129 : FuncId) [.gp m0 0] sg3 else none)
  (fun v x =>
  withI .i64 (some v) fun n =>
  if decide (n ≤ n1) = true then some (.ret (.tup [.at (.pointer none), .at (.int .i64 (18 : Int))]) sg3)
  else
  some
  (Out.ret (AVal.tup [.gp (List.length sg3) 0, .at (.int .i64 (0 : Int))])
  (sg3 ++
  [Box.mk
  [.gp m0 0, .at (.int .i64 n1), .at (.int .u64 n2), .at (.int .i64 (0 : Int)),
  .at (.int .u64 (0 : Int))]])))
  fun v x => some (.pan v sg3)
  else some (.ret (.tup [.at (.pointer none), .at (.int .i64 (18 : Int))]) sg3)
  else some (.ret (.tup [.at (.pointer none), .at (.int .i64 (18 : Int))]) sg3)
  else some (.ret (.tup [.at (.pointer none), .at (.int .i64 (18 : Int))]) sg3) := by kernel_rfl
theorem journal_Check.main (a0 : AVal) (sg1 : Sg) :
  evalF C N journal_Check.a [a0] sg1 =
  withO (lenV a0) fun n =>
  iter (journal_Check.R0 C N) N
  (mkS [0, 3, 7, 8, 9]
  [.v a0 false, .v (.gm (List.length sg1)) false, .v a0 false, .v (.at (.int .i64 (↑n : Int))) false, .v (.at (.int .i64 (0 : Int))) false]
  [none, none, none, none, none] (.sg (sg1 ++ [Box.map []])))
  (journal_Check.K0 C N) := by kernel_rfl
theorem journal_Check.r0 (a0 : AVal) (a1 : AVal) (a2 : AVal) (n3 : Int) (n4 : Int) (sg5 : Sg) (k : Ex → St → R) :
  journal_Check.R0 C N
  (mkS [0, 3, 7, 8, 9]
  [.v a0 false, .v a1 false, .v a2 false, .v (.at (.int .i64 n3)) false, .v (.at (.int .i64 n4)) false] [none, none, none, none, none]
  (.sg sg5))
  k =
  if decide (n4 < n3) = true then
  withO (elemV 2 n4 a2) fun r =>
  withO (loadC none sg5 r) fun p =>
  bif (p.snd + 2).ble p.fst.length then
  bindL (List.take 2 (List.drop p.snd p.fst)) fun l =>
  bif (AVal.agg l).cells.length.beq 2 then
  bindL (splice [.at (.int .i64 (0 : Int)), .at (.string (ByteArray.mk (#[])))] 0 (AVal.agg l).cells) fun cs =>
  withI .i64 cs[0]? fun n =>
  withOut (bif Nat.blt 246 1000000 then C (246 : FuncId) [.at (.int .i64 n)] [] else none)
  (fun v x =>
  withB (some v) fun b =>
  if (!b) = false then
  withS cs[1]? fun s =>
  if ((↑s.size : Int) != (480 : Int)) = false then
  withI .i64 cs[0]? fun n =>
  withA (plainA a1) fun m =>
  withO (mapV sg5 m) fun p =>
  withO (mGet (.at (.int .i64 n)) p.snd) fun r =>
  withA (plainA (getOr [.at (.bool false)] false r)) fun y =>
  withB (plainA y) fun t =>
  if t = true then k .ret (mkS [2] [.v (.at (.int .i64 (18 : Int))) false] [none] (.sg sg5))
  else
  withI .i64 cs[0]? fun n =>
  withA (plainA a1) fun m =>
  withO (mapV sg5 m) fun p =>
  withO (mSet (.at (.int .i64 n)) (.at (.bool true)) p.snd) fun es =>
  k .normal
  (mkS [0, 3, 7, 8, 9]
  [.v a0 false, .v a1 false, .v a2 false, .v (.at (.int .i64 n3)) false,
  .v (.at (.int .i64 (IntKind.i64.wrap (n4 + (1 : Int))))) false]
  [none, none, none, none, none] (.sg (List.set sg5 p.fst (Box.map es))))
  else k .ret (mkS [2] [.v (.at (.int .i64 (18 : Int))) false] [none] (.sg sg5))
  else k .ret (mkS [2] [.v (.at (.int .i64 (18 : Int))) false] [none] (.sg sg5)))
  fun x x_1 => none
  else none
  else none
  else k (.exit 0) (mkS [0] [.v a0 false] [none] (.sg sg5)) := by kernel_rfl
theorem journal_Check.k0_1 (n0 : Int) (sg1 : Sg) :
  journal_Check.K0 C N .ret (mkS [2] [.v (.at (.int .i64 n0)) false] [none] (.sg sg1)) =
  some (.ret (.at (.int .i64 n0)) sg1) := by kernel_rfl
theorem journal_Check.k0_2 (a0 : AVal) (sg1 : Sg) :
  journal_Check.K0 C N (.exit 0) (mkS [0] [.v a0 false] [none] (.sg sg1)) =
  withO (lenV a0) fun n =>
  if ((↑n : Int) == (0 : Int)) = true then some (.ret (.at (.int .i64 (18 : Int))) sg1) else some (.ret (.at (.int .i64 (0 : Int))) sg1) := by kernel_rfl
theorem journal_Journal_Append.main (m0 : Nat) (a1 : AVal) (sg2 : Sg) :
  evalF C N journal_Journal_Append.a [.gp m0 0, a1] sg2 =
  if (false ^^ false) = false then
  withA (plainA a1) fun a =>
  withOut (bif Nat.blt 139 1000000 then C (139 : FuncId) [a] sg2 else none)
  (fun v sg' =>
  withI .i64 (some v) fun n =>
  if (n != (0 : Int)) = true then some (.ret (.at (.int .i64 (18 : Int))) sg')
  else
  withO (lenV a1) fun n =>
  withOut (bif Nat.blt 146 1000000 then C (146 : FuncId) [.gp m0 0] sg' else none)
  (fun v x =>
  withI .i64 (some v) fun n_1 =>
  if decide ((↑n : Int) ≥ n_1) = true then some (.ret (.at (.int .i64 (14 : Int))) sg')
  else
  withO (lenV a1) fun n =>
  iter (journal_Journal_Append.R0 C N) N
  (mkS [0, 1, 24, 25, 26]
  [.v (.gp m0 0) false, .v a1 false, .v a1 false, .v (.at (.int .i64 (↑n : Int))) false,
  .v (.at (.int .i64 (0 : Int))) false]
  [none, none, none, none, none] (.sg sg'))
  (journal_Journal_Append.K0 C N))
  fun v x => some (.pan v sg'))
  fun v sg' => some (.pan v sg')
  else some (.ret (.at (.int .i64 (18 : Int))) sg2) := by kernel_rfl
theorem journal_Journal_Append.r0 (m0 : Nat) (a1 : AVal) (a2 : AVal) (n3 : Int) (n4 : Int) (sg5 : Sg) (k : Ex → St → R) :
  journal_Journal_Append.R0 C N
  (mkS [0, 1, 24, 25, 26]
  [.v (.gp m0 0) false, .v a1 false, .v a2 false, .v (.at (.int .i64 n3)) false, .v (.at (.int .i64 n4)) false]
  [none, none, none, none, none] (.sg sg5))
  k =
  if decide (n4 < n3) = true then
  withO (elemV 2 n4 a2) fun r =>
  withO (loadC none sg5 r) fun p =>
  bif (p.snd + 2).ble p.fst.length then
  bindL (List.take 2 (List.drop p.snd p.fst)) fun l =>
  bif (AVal.agg l).cells.length.beq 2 then
  bindL (splice [.at (.int .i64 (0 : Int)), .at (.string (ByteArray.mk (#[])))] 0 (AVal.agg l).cells) fun cs =>
  withI .i64 cs[0]? fun n =>
  withS cs[1]? fun s =>
  withOut
  (bif Nat.blt 249 1000000 then
  C (249 : FuncId)
  [.gp m0 0, .at (.int .i64 n4),
  AVal.agg
  [.at (.int .i64 (2 : Int)), .at (.int .u64 (0 : Int)), .at (.int .u64 (0 : Int)), .at (.int .i64 n),
  .at (.int .i64 n4), .at (.string s)]]
  sg5
  else none)
  (fun v sg' =>
  withI .i64 (some v) fun n =>
  if (n != (0 : Int)) = true then k .ret (mkS [4] [.v (.at (.int .i64 n)) false] [none] (.sg sg'))
  else
  k .normal
  (mkS [0, 1, 24, 25, 26]
  [.v (.gp m0 0) false, .v a1 false, .v a2 false, .v (.at (.int .i64 n3)) false,
  .v (.at (.int .i64 (IntKind.i64.wrap (n4 + (1 : Int))))) false]
  [none, none, none, none, none] (.sg sg')))
  fun v sg' => some (.pan v sg')
  else none
  else none
  else k (.exit 1) (mkS [0, 1] [.v (.gp m0 0) false, .v a1 false] [none, none] (.sg sg5)) := by kernel_rfl
theorem journal_Journal_Append.k0_1 (n0 : Int) (sg1 : Sg) :
  journal_Journal_Append.K0 C N .ret (mkS [4] [.v (.at (.int .i64 n0)) false] [none] (.sg sg1)) =
  some (.ret (.at (.int .i64 n0)) sg1) := by kernel_rfl
theorem journal_Journal_Append.k0_2 (m0 : Nat) (a1 : AVal) (sg2 : Sg) :
  journal_Journal_Append.K0 C N (.exit 1) (mkS [0, 1] [.v (.gp m0 0) false, .v a1 false] [none, none] (.sg sg2)) =
  withO (lenV a1) fun n =>
  withOut (bif Nat.blt 126 1000000 then C (126 : FuncId) [ofConst (Value.string (ByteArray.mk (#[]))), ofConst (Value.int IntKind.i64 (480 : Int))] [] else none)
  (fun v x =>
  withS (some v) fun s =>
  withO (lenV a1) fun n_1 =>
  withOut
  (bif Nat.blt 249 1000000 then
  C (249 : FuncId)
  [.gp m0 0, .at (.int .i64 (↑n_1 : Int)),
  AVal.agg
  [.at (.int .i64 (3 : Int)), .at (.int .u64 (0 : Int)), .at (.int .u64 (0 : Int)), .at (.int .i64 (0 : Int)),
  .at (.int .i64 (↑n : Int)), .at (.string s)]]
  sg2
  else none)
  (fun v sg' =>
  withI .i64 (some v) fun n =>
  if (n != (0 : Int)) = true then some (.ret (.at (.int .i64 n)) sg')
  else
  withO (loadC none sg' (AVal.gp m0 3)) fun p =>
  withI .i64 p.fst[p.snd]? fun n =>
  withO (lenV a1) fun n_2 =>
  withO (storeG none sg' (AVal.gp m0 3) 1 (.at (.int .i64 (IntKind.i64.wrap (n + IntKind.i64.wrap ((↑n_2 : Int) + (1 : Int))))))) fun sg =>
  withO (loadC none sg (AVal.gp m0 4)) fun p =>
  withI .u64 p.fst[p.snd]? fun n =>
  withO (storeG none sg (AVal.gp m0 4) 1 (.at (.int .u64 (IntKind.u64.wrap (n + (1 : Int)))))) fun sg =>
  some (.ret (.at (.int .i64 (0 : Int))) sg))
  fun v sg' => some (.pan v sg'))
  fun x x_1 => none := by kernel_rfl
theorem journal_page.main (n0 : Int) (sg1 : Sg) :
  evalF C N journal_page.a [.at (.int .i64 n0)] sg1 =
  if decide (n0 ≥ (0 : Int)) = true then some (.ret (.at (.bool (decide (n0 < (3840 : Int))))) sg1) else some (.ret (.at (.bool false)) sg1) := by kernel_rfl
theorem pages_Format.main (m0 : Nat) (n1 : Int) (n2 : Int) (sg3 : Sg) :
  evalF C N pages_Format.a [.gp m0 0, .at (.int .i64 n1), .at (.int .i64 n2)] sg3 =
  withOut (bif Nat.blt 41 1000000 then C (41 : FuncId) [.at (.int .i64 n1), .at (.int .i64 n2)] [] else none)
  (fun v x =>
  withT v fun vs =>
  bif vs.length.beq 2 then
  withI .i64 vs[0]? fun n =>
  withI .i64 vs[1]? fun n_1 =>
  if (n_1 != (0 : Int)) = false then
  withOut (bif Nat.blt 129 1000000 then C (129 : FuncId) [.gp m0 0] sg3 else none)
  (fun v x =>
  withI .i64 (some v) fun n_2 =>
  if (n_2 != n) = true then some (.ret (.tup [.at (.pointer none), .at (.int .i64 (18 : Int))]) sg3)
  else
  iter (pages_Format.R0 C N) N
  (mkS [0, 1, 2, 8, 10]
  [.v (.gp m0 0) false, .v (.at (.int .i64 n1)) false, .v (.at (.int .i64 n2)) false,
  .v (.at (.int .i64 n)) false, .v (.at (.int .i64 (1 : Int))) false]
  [none, none, none, none, none] (.sg sg3))
  (pages_Format.K0 C N))
  fun v x => some (.pan v sg3)
  else some (.ret (.tup [.at (.pointer none), .at (.int .i64 (18 : Int))]) sg3)
  else none)
  fun x x_1 => none := by kernel_rfl
theorem pages_Format.r0 (m0 : Nat) (n1 : Int) (n2 : Int) (n3 : Int) (n4 : Int) (sg5 : Sg) (k : Ex → St → R) :
  pages_Format.R0 C N
  (mkS [0, 1, 2, 8, 10]
  [.v (.gp m0 0) false, .v (.at (.int .i64 n1)) false, .v (.at (.int .i64 n2)) false, .v (.at (.int .i64 n3)) false,
  .v (.at (.int .i64 n4)) false]
  [none, none, none, none, none] (.sg sg5))
  k =
  if decide (n4 < n3) = true then
  withOut (bif Nat.blt 131 1000000 then C (131 : FuncId) [] [] else none)
  (fun v x =>
  withS (some v) fun s =>
  withOut (bif Nat.blt 130 1000000 then C (130 : FuncId) [.gp m0 0, .at (.int .i64 n4), .at (.string s)] sg5 else none)
  (fun v sg' =>
  withI .i64 (some v) fun n =>
  if (n != (0 : Int)) = true then
  k .ret (mkS [6, 7] [.v (.at (.pointer none)) false, .v (.at (.int .i64 n)) false] [none, none] (.sg sg'))
  else
  k .normal
  (mkS [0, 1, 2, 8, 10]
  [.v (.gp m0 0) false, .v (.at (.int .i64 n1)) false, .v (.at (.int .i64 n2)) false,
  .v (.at (.int .i64 n3)) false, .v (.at (.int .i64 (IntKind.i64.wrap (n4 + (1 : Int))))) false]
  [none, none, none, none, none] (.sg sg')))
  fun v sg' => some (.pan v sg'))
  fun x x_1 => none
  else
  k (.exit 0)
  (mkS [0, 1, 2] [.v (.gp m0 0) false, .v (.at (.int .i64 n1)) false, .v (.at (.int .i64 n2)) false]
  [none, none, none] (.sg sg5)) := by kernel_rfl
theorem pages_Format.k0_2 (m0 : Nat) (n1 : Int) (n2 : Int) (sg3 : Sg) :
  pages_Format.K0 C N (.exit 0)
  (mkS [0, 1, 2] [.v (.gp m0 0) false, .v (.at (.int .i64 n1)) false, .v (.at (.int .i64 n2)) false] [none, none, none]
  (.sg sg3)) =
  withOut (bif Nat.blt 132 1000000 then C (132 : FuncId) [.gp m0 0] sg3 else none)
  (fun v sg' =>
  withI .i64 (some v) fun n =>
  if (n != (0 : Int)) = true then some (.ret (.tup [.at (.pointer none), .at (.int .i64 n)]) sg')
  else
  withOut (bif Nat.blt 133 1000000 then C (133 : FuncId) [.gp m0 0, .at (.int .i64 n1), .at (.int .i64 n2)] sg' else none)
  (fun v sg' =>
  withA (plainA v) fun a =>
  withOut (bif Nat.blt 134 1000000 then C (134 : FuncId) [a, ofConst (Value.int IntKind.u64 (1 : Int))] sg' else none)
  (fun (v_1 : AVal) (sg' : Sg) =>
  withI .i64 (some v_1) fun n =>
  if (n != (0 : Int)) = true then some (.ret (.tup [.at (.pointer none), .at (.int .i64 n)]) sg')
  else withA (jk v) fun a => some (.ret (.tup [a, .at (.int .i64 (0 : Int))]) sg'))
  fun v sg' => some (.pan v sg'))
  fun v sg' => some (.pan v sg'))
  fun v sg' => some (.pan v sg') := by kernel_rfl
theorem pages_Store_Read.main (m0 : Nat) (n1 : Int) (sg2 : Sg) :
  evalF C N pages_Store_Read.a [.gp m0 0, .at (.int .i64 n1)] sg2 =
  if decide (n1 < (0 : Int)) = false then
  withOut (bif Nat.blt 35 1000000 then C (35 : FuncId) [.gp m0 0] sg2 else none)
  (fun v x =>
  withI .i64 (some v) fun n =>
  if decide (n1 ≥ n) = true then some (.ret (.tup [.at (.string (ByteArray.mk (#[]))), .at (.int .i64 (18 : Int))]) sg2)
  else
  withO (loadC none sg2 (AVal.gp m0 2)) fun p =>
  withA p.fst[p.snd]? fun r =>
  withO (elemV 1 n1 r) fun r =>
  withO (loadC none sg2 r) fun p =>
  withS p.fst[p.snd]? fun s => some (.ret (.tup [.at (.string s), .at (.int .i64 (0 : Int))]) sg2))
  fun v x => some (.pan v sg2)
  else some (.ret (.tup [.at (.string (ByteArray.mk (#[]))), .at (.int .i64 (18 : Int))]) sg2) := by kernel_rfl
theorem pages_Store_Commit.main (m0 : Nat) (a1 : AVal) (sg2 : Sg) :
  evalF C N pages_Store_Commit.a [.gp m0 0, a1] sg2 =
  if (false ^^ false) = false then
  withA (plainA a1) fun a =>
  withOut (bif Nat.blt 139 1000000 then C (139 : FuncId) [a] sg2 else none)
  (fun v sg' =>
  withI .i64 (some v) fun n =>
  if (n != (0 : Int)) = false then
  withA (plainA a1) fun a =>
  withOut (bif Nat.blt 140 1000000 then C (140 : FuncId) [.gp m0 0, a] sg' else none)
  (fun v sg' =>
  withB (some v) fun b =>
  if (!b) = true then some (.ret (.at (.int .i64 (18 : Int))) sg')
  else
  withO (lenV a1) fun n =>
  withO (loadC none sg' (AVal.gp m0 1)) fun p =>
  withI .i64 p.fst[p.snd]? fun n_1 =>
  if decide ((↑n : Int) ≥ n_1) = true then some (.ret (.at (.int .i64 (14 : Int))) sg')
  else
  withO (loadC none sg' (AVal.gp m0 0)) fun p =>
  withA p.fst[p.snd]? fun r =>
  withA (plainA r) fun a =>
  withOut (bif Nat.blt 141 1000000 then C (141 : FuncId) [a] sg' else none)
  (fun v x =>
  withB (some v) fun b =>
  if b = true then some (.ret (.at (.int .i64 (17 : Int))) sg')
  else
  withO (lenV a1) fun n =>
  withOut (bif Nat.blt 36 1000000 then C (36 : FuncId) [.gp m0 0] sg' else none)
  (fun v x =>
  withI .i64 (some v) fun n_2 =>
  if decide ((↑n : Int) ≥ n_2) = true then
  withOut (bif Nat.blt 39 1000000 then C (39 : FuncId) [.gp m0 0] sg' else none)
  (fun v x =>
  withI .u64 (some v) fun n =>
  withOut
  (bif Nat.blt 138 1000000 then
  C (138 : FuncId) [.gp m0 0, .at (.int .u64 (IntKind.u64.wrap (n + (1 : Int))))] sg'
  else none)
  (fun v sg' =>
  withI .i64 (some v) fun n =>
  if (n != (0 : Int)) = true then some (.ret (.at (.int .i64 n)) sg')
  else
  withO (loadC none sg' (AVal.gp m0 4)) fun p =>
  withA p.fst[p.snd]? fun r =>
  withA (plainA r) fun a =>
  withA (plainA a1) fun a_1 =>
  withOut (bif Nat.blt 142 1000000 then C (142 : FuncId) [a, a_1] sg' else none)
  (fun v sg' =>
  withI .i64 (some v) fun n =>
  if (n != (0 : Int)) = true then some (.ret (.at (.int .i64 n)) sg')
  else
  withA (plainA a1) fun a =>
  withOut (bif Nat.blt 143 1000000 then C (143 : FuncId) [.gp m0 0, a] sg' else none)
  (fun v sg' =>
  withO (loadC none sg' (AVal.gp m0 5)) fun p =>
  withI .i64 p.fst[p.snd]? fun n =>
  withO
  (storeG none sg' (AVal.gp m0 5) 1
  (.at (.int .i64 (IntKind.i64.wrap (n + (1 : Int))))))
  fun sg => some (.ret (.at (.int .i64 (0 : Int))) sg))
  fun v sg' => some (.pan v sg'))
  fun v sg' => some (.pan v sg'))
  fun v sg' => some (.pan v sg'))
  fun v x => some (.pan v sg')
  else
  withO (loadC none sg' (AVal.gp m0 4)) fun p =>
  withA p.fst[p.snd]? fun r =>
  withA (plainA r) fun a =>
  withA (plainA a1) fun a_1 =>
  withOut (bif Nat.blt 142 1000000 then C (142 : FuncId) [a, a_1] sg' else none)
  (fun v sg' =>
  withI .i64 (some v) fun n =>
  if (n != (0 : Int)) = true then some (.ret (.at (.int .i64 n)) sg')
  else
  withA (plainA a1) fun a =>
  withOut (bif Nat.blt 143 1000000 then C (143 : FuncId) [.gp m0 0, a] sg' else none)
  (fun v sg' =>
  withO (loadC none sg' (AVal.gp m0 5)) fun p =>
  withI .i64 p.fst[p.snd]? fun n =>
  withO
  (storeG none sg' (AVal.gp m0 5) 1
  (.at (.int .i64 (IntKind.i64.wrap (n + (1 : Int))))))
  fun sg => some (.ret (.at (.int .i64 (0 : Int))) sg))
  fun v sg' => some (.pan v sg'))
  fun v sg' => some (.pan v sg'))
  fun v x => some (.pan v sg'))
  fun v x => some (.pan v sg'))
  fun v sg' => some (.pan v sg')
  else some (.ret (.at (.int .i64 (18 : Int))) sg'))
  fun v sg' => some (.pan v sg')
  else some (.ret (.at (.int .i64 (18 : Int))) sg2) := by kernel_rfl
theorem pages_Store_Flush.main (m0 : Nat) (sg1 : Sg) :
  evalF C N pages_Store_Flush.a [.gp m0 0] sg1 =
  withOut (bif Nat.blt 144 1000000 then C (144 : FuncId) [.gp m0 0] sg1 else none)
  (fun v x =>
  withI .i64 (some v) fun n =>
  if (n != (0 : Int)) = false then
  withO (loadC none sg1 (AVal.gp m0 5)) fun p =>
  withI .i64 p.fst[p.snd]? fun n_1 =>
  if (n_1 == (0 : Int)) = true then some (.ret (.at (.int .i64 n)) sg1)
  else
  withO (loadC none sg1 (AVal.gp m0 0)) fun p =>
  withA p.fst[p.snd]? fun r =>
  withA (plainA r) fun a =>
  withOut (bif Nat.blt 132 1000000 then C (132 : FuncId) [a] sg1 else none)
  (fun v sg' =>
  withI .i64 (some v) fun n =>
  if (n == (0 : Int)) = true then
  withO (storeG none sg' (AVal.gp m0 5) 1 (.at (.int .i64 (0 : Int)))) fun sg => some (.ret (.at (.int .i64 n)) sg)
  else some (.ret (.at (.int .i64 n)) sg'))
  fun v sg' => some (.pan v sg')
  else some (.ret (.at (.int .i64 n)) sg1))
  fun v x => some (.pan v sg1) := by kernel_rfl
theorem pages_Store_Pages.main (m0 : Nat) (sg1 : Sg) :
  evalF C N pages_Store_Pages.a [.gp m0 0] sg1 =
  if (false ^^ false) = true then some (.ret (.at (.int .i64 (0 : Int))) sg1)
  else
  withO (loadC none sg1 (AVal.gp m0 2)) fun p =>
  withA p.fst[p.snd]? fun r => withO (lenV r) fun n => some (.ret (.at (.int .i64 (↑n : Int))) sg1) := by kernel_rfl
theorem pages_Store_Room.main (m0 : Nat) (sg1 : Sg) :
  evalF C N pages_Store_Room.a [.gp m0 0] sg1 =
  if (false ^^ false) = true then some (.ret (.at (.int .i64 (0 : Int))) sg1)
  else
  withO (loadC none sg1 (AVal.gp m0 4)) fun p =>
  withA p.fst[p.snd]? fun r =>
  withA (plainA r) fun a =>
  withOut (bif Nat.blt 146 1000000 then C (146 : FuncId) [a] sg1 else none)
  (fun v x => withI .i64 (some v) fun n => some (.ret (.at (.int .i64 n)) sg1)) fun v x => some (.pan v sg1) := by kernel_rfl
theorem pages_Store_Epoch.main (m0 : Nat) (sg1 : Sg) :
  evalF C N pages_Store_Epoch.a [.gp m0 0] sg1 =
  if (false ^^ false) = true then some (.ret (.at (.int .u64 (0 : Int))) sg1)
  else
  withO (loadC none sg1 (AVal.gp m0 4)) fun p =>
  withA p.fst[p.snd]? fun r =>
  withA (plainA r) fun a =>
  withOut (bif Nat.blt 147 1000000 then C (147 : FuncId) [a] sg1 else none)
  (fun v x => withI .u64 (some v) fun n => some (.ret (.at (.int .u64 n)) sg1)) fun v x => some (.pan v sg1) := by kernel_rfl
theorem pages_Size.main (n0 : Int) (n1 : Int) (sg2 : Sg) :
  evalF C N pages_Size.a [.at (.int .i64 n0), .at (.int .i64 n1)] sg2 =
  withOut (bif Nat.blt 148 1000000 then C (148 : FuncId) [.at (.int .i64 n0), .at (.int .i64 n1)] [] else none)
  (fun v x =>
  withB (some v) fun b =>
  if (!b) = true then some (.ret (.tup [.at (.int .i64 (0 : Int)), .at (.int .i64 (18 : Int))]) sg2)
  else some (.ret (.tup [.at (.int .i64 (IntKind.i64.wrap (IntKind.i64.wrap ((1 : Int) + n1) + n0))), .at (.int .i64 (0 : Int))]) sg2))
  fun x x_1 => none := by kernel_rfl
theorem pages_held.main (m0 : Nat) (n1 : Int) (n2 : Int) (sg3 : Sg) :
  evalF C N pages_held.a [.gp m0 0, .at (.int .i64 n1), .at (.int .i64 n2)] sg3 =
  withOut (bif Nat.blt 126 1000000 then C (126 : FuncId) [ofConst (Value.string (ByteArray.mk (#[]))), ofConst (Value.int IntKind.i64 (480 : Int))] [] else none)
  (fun v x =>
  withS (some v) fun s =>
  bif true && Nat.blt 0 1 then
  withOut
  (bif Nat.blt 149 1000000 then
  C (149 : FuncId) [AVal.gs (List.length sg3) 1 0 1, .at (.int .i64 n1)] (sg3 ++ [Box.mk [.at (.string s)]])
  else none)
  (fun v sg' =>
  withA (plainA v) fun a =>
  bif a.cells.length.beq 1 then
  bindL
  (AVal.gp m0 0 ::
  .at (.int .i64 n2) ::
  (List.take._f 1 ⟨fun x => [], PUnit.unit⟩
  (List.append._f [] PUnit.unit
  (a.cells ++
  List.drop (2 + a.cells.length)
  [.gp m0 0, .at (.int .i64 n2), .sl true 1 [], .at (.map none), .at (.pointer none),
  .at (.int .i64 (0 : Int))])) ++
  AVal.gm (List.length sg') ::
  List.drop 4
  (AVal.gp m0 0 ::
  .at (.int .i64 n2) ::
  (a.cells ++
  List.drop (2 + a.cells.length)
  [.gp m0 0, .at (.int .i64 n2), .sl true 1 [], .at (.map none), .at (.pointer none),
  .at (.int .i64 (0 : Int))]))))
  fun cs => some (.ret (AVal.gp (List.length (sg' ++ [Box.map []])) 0) (sg' ++ [Box.map []] ++ [Box.mk (AVal.agg cs).cells]))
  else none)
  fun v sg' => some (.pan v sg')
  else none)
  fun x x_1 => none := by kernel_rfl
theorem pages_Store_write.main (m0 : Nat) (n1 : Int) (sg2 : Sg) :
  evalF C N pages_Store_write.a [.gp m0 0, .at (.int .u64 n1)] sg2 =
  withO (loadC none sg2 (AVal.gp m0 2)) fun p =>
  withA p.fst[p.snd]? fun r =>
  withO (lenV r) fun n =>
  withO (loadC none sg2 (AVal.gp m0 1)) fun p =>
  withI .i64 p.fst[p.snd]? fun n_1 =>
  withOut
  (bif Nat.blt 237 1000000 then C (237 : FuncId) [.at (.int .i64 (↑n : Int)), .at (.int .i64 n_1), .at (.int .u64 n1)] []
  else none)
  (fun v x =>
  withT v fun vs =>
  bif vs.length.beq 2 then
  withS vs[0]? fun s =>
  withI .i64 vs[1]? fun n =>
  if (n != (0 : Int)) = true then some (.ret (.at (.int .i64 n)) sg2)
  else
  withO (loadC none sg2 (AVal.gp m0 0)) fun p =>
  withA p.fst[p.snd]? fun r =>
  withA (plainA r) fun a =>
  withOut (bif Nat.blt 130 1000000 then C (130 : FuncId) [a, ofConst (Value.int IntKind.i64 (0 : Int)), .at (.string s)] sg2 else none)
  (fun v sg' =>
  withI .i64 (some v) fun n =>
  if (n != (0 : Int)) = true then some (.ret (.at (.int .i64 n)) sg')
  else
  withO (loadC none sg' (AVal.gp m0 0)) fun p =>
  withA p.fst[p.snd]? fun r =>
  withA (plainA r) fun a =>
  withOut (bif Nat.blt 132 1000000 then C (132 : FuncId) [a] sg' else none)
  (fun v sg' =>
  withI .i64 (some v) fun n =>
  if (n != (0 : Int)) = true then some (.ret (.at (.int .i64 n)) sg')
  else
  withO (loadC none sg' (AVal.gp m0 0)) fun p =>
  withA p.fst[p.snd]? fun r =>
  withO (loadC none sg' (AVal.gp m0 1)) fun p =>
  withI .i64 p.fst[p.snd]? fun n =>
  withA (plainA r) fun a =>
  withOut
  (bif Nat.blt 238 1000000 then
  C (238 : FuncId) [a, .at (.int .i64 n), .at (.int .u64 n1)] sg'
  else none)
  (fun v sg' =>
  withT v fun vs =>
  bif vs.length.beq 2 then
  withA vs[0]? fun a =>
  withI .i64 vs[1]? fun n =>
  withA (plainA a) fun v =>
  withO (storeG none sg' (AVal.gp m0 4) 1 v) fun sg =>
  some (.ret (.at (.int .i64 n)) sg)
  else none)
  fun v sg' => none)
  fun v sg' => some (.pan v sg'))
  fun v sg' => some (.pan v sg')
  else none)
  fun x x_1 => none := by kernel_rfl
theorem pages_Store_checkpoint.main (m0 : Nat) (n1 : Int) (sg2 : Sg) :
  evalF C N pages_Store_checkpoint.a [.gp m0 0, .at (.int .u64 n1)] sg2 =
  withO (loadC none sg2 (AVal.gp m0 0)) fun p =>
  withA p.fst[p.snd]? fun r =>
  withA (plainA r) fun a =>
  withOut (bif Nat.blt 132 1000000 then C (132 : FuncId) [a] sg2 else none)
  (fun v sg' =>
  withI .i64 (some v) fun n =>
  if (n != (0 : Int)) = true then some (.ret (.at (.int .i64 n)) sg')
  else
  withO (loadC none sg' (AVal.gp m0 3)) fun p =>
  withA p.fst[p.snd]? fun r =>
  withA (plainA r) fun a =>
  withOut (bif Nat.blt 244 1000000 then C (244 : FuncId) [a] sg' else none)
  (fun v sg' =>
  withA (plainA v) fun a =>
  withOut (bif Nat.blt 226 1000000 then C (226 : FuncId) [a] sg' else none)
  (fun v sg' =>
  withO (lenV v) fun n =>
  iter (pages_Store_checkpoint.R0 C N) N
  (mkS [0, 1, 26, 27, 28]
  [.v (.gp m0 0) false, .v (.at (.int .u64 n1)) false, .v v false, .v (.at (.int .i64 (↑n : Int))) false,
  .v (.at (.int .i64 (0 : Int))) false]
  [none, none, none, none, none] (.sg sg'))
  (pages_Store_checkpoint.K0 C N))
  fun v sg' => some (.pan v sg'))
  fun v sg' => some (.pan v sg'))
  fun v sg' => some (.pan v sg') := by kernel_rfl
theorem pages_Store_checkpoint.r0 (m0 : Nat) (n1 : Int) (a2 : AVal) (n3 : Int) (n4 : Int) (sg5 : Sg) (k : Ex → St → R) :
  pages_Store_checkpoint.R0 C N
  (mkS [0, 1, 26, 27, 28]
  [.v (.gp m0 0) false, .v (.at (.int .u64 n1)) false, .v a2 false, .v (.at (.int .i64 n3)) false,
  .v (.at (.int .i64 n4)) false]
  [none, none, none, none, none] (.sg sg5))
  k =
  if decide (n4 < n3) = true then
  withO (elemV 1 n4 a2) fun r =>
  withO (loadC none sg5 r) fun p =>
  withI .i64 p.fst[p.snd]? fun n =>
  withO (loadC none sg5 (AVal.gp m0 2)) fun p =>
  withA p.fst[p.snd]? fun r =>
  withO (elemV 1 n r) fun r =>
  withO (loadC none sg5 r) fun p =>
  withS p.fst[p.snd]? fun s =>
  withOut (bif Nat.blt 245 1000000 then C (245 : FuncId) [.at (.int .i64 n), .at (.string s)] [] else none)
  (fun v x =>
  withT v fun vs =>
  bif vs.length.beq 2 then
  withS vs[0]? fun s =>
  withI .i64 vs[1]? fun n_1 =>
  if (n_1 != (0 : Int)) = true then k .ret (mkS [4] [.v (.at (.int .i64 n_1)) false] [none] (.sg sg5))
  else
  withO (loadC none sg5 (AVal.gp m0 0)) fun p =>
  withA p.fst[p.snd]? fun r =>
  withOut (bif Nat.blt 241 1000000 then C (241 : FuncId) [.gp m0 0, .at (.int .i64 n)] sg5 else none)
  (fun v x =>
  withI .i64 (some v) fun n =>
  withA (plainA r) fun a =>
  withOut (bif Nat.blt 130 1000000 then C (130 : FuncId) [a, .at (.int .i64 n), .at (.string s)] sg5 else none)
  (fun v sg' =>
  withI .i64 (some v) fun n =>
  if (n != (0 : Int)) = true then k .ret (mkS [4] [.v (.at (.int .i64 n)) false] [none] (.sg sg'))
  else
  k .normal
  (mkS [0, 1, 26, 27, 28]
  [.v (.gp m0 0) false, .v (.at (.int .u64 n1)) false, .v a2 false,
  .v (.at (.int .i64 n3)) false, .v (.at (.int .i64 (IntKind.i64.wrap (n4 + (1 : Int))))) false]
  [none, none, none, none, none] (.sg sg')))
  fun v sg' => none)
  fun v x => none
  else none)
  fun x x_1 => none
  else k (.exit 0) (mkS [0, 1] [.v (.gp m0 0) false, .v (.at (.int .u64 n1)) false] [none, none] (.sg sg5)) := by kernel_rfl
theorem pages_Store_checkpoint.k0_1 (n0 : Int) (sg1 : Sg) :
  pages_Store_checkpoint.K0 C N .ret (mkS [4] [.v (.at (.int .i64 n0)) false] [none] (.sg sg1)) =
  some (.ret (.at (.int .i64 n0)) sg1) := by kernel_rfl
theorem pages_Store_checkpoint.k0_2 (m0 : Nat) (n1 : Int) (sg2 : Sg) :
  pages_Store_checkpoint.K0 C N (.exit 0) (mkS [0, 1] [.v (.gp m0 0) false, .v (.at (.int .u64 n1)) false] [none, none] (.sg sg2)) =
  withO (loadC none sg2 (AVal.gp m0 0)) fun p =>
  withA p.fst[p.snd]? fun r =>
  withA (plainA r) fun a =>
  withOut (bif Nat.blt 132 1000000 then C (132 : FuncId) [a] sg2 else none)
  (fun v sg' =>
  withI .i64 (some v) fun n =>
  if (n != (0 : Int)) = true then some (.ret (.at (.int .i64 n)) sg')
  else
  withOut (bif Nat.blt 134 1000000 then C (134 : FuncId) [.gp m0 0, .at (.int .u64 n1)] sg' else none)
  (fun v sg' =>
  withI .i64 (some v) fun n =>
  if (n != (0 : Int)) = true then some (.ret (.at (.int .i64 n)) sg')
  else
  withO (loadC none sg' (AVal.gp m0 3)) fun p =>
  withA p.fst[p.snd]? fun r =>
  withA (plainA r) fun m =>
  withO (mapV sg' m) fun p =>
  withO (storeG none (List.set sg' p.fst (Box.map [])) (AVal.gp m0 5) 1 (.at (.int .i64 (0 : Int)))) fun sg =>
  some (.ret (.at (.int .i64 (0 : Int))) sg))
  fun v sg' => some (.pan v sg'))
  fun v sg' => some (.pan v sg') := by kernel_rfl
theorem pages_Store_has.main (m0 : Nat) (a1 : AVal) (sg2 : Sg) :
  evalF C N pages_Store_has.a [.gp m0 0, a1] sg2 =
  withA (plainA a1) fun a =>
  withOut (bif Nat.blt 247 1000000 then C (247 : FuncId) [a, AVal.clo 248 [] [.gp (List.length sg2) 0]] (sg2 ++ [Box.mk [.gp m0 0]]) else none)
  (fun v sg' => withB (some v) fun b => some (.ret (.at (.bool !b)) sg')) fun v sg' => some (.pan v sg') := by kernel_rfl
theorem pages_Store_change.main (m0 : Nat) (a1 : AVal) (sg2 : Sg) :
  evalF C N pages_Store_change.a [.gp m0 0, a1] sg2 =
  withO (lenV a1) fun n =>
  iter (pages_Store_change.R0 C N) N
  (mkS [0, 6, 7, 8]
  [.v (.gp m0 0) false, .v a1 false, .v (.at (.int .i64 (↑n : Int))) false, .v (.at (.int .i64 (0 : Int))) false]
  [none, none, none, none] (.sg sg2))
  (pages_Store_change.K0 C N) := by kernel_rfl
theorem pages_Store_change.r0 (m0 : Nat) (a1 : AVal) (n2 : Int) (n3 : Int) (sg4 : Sg) (k : Ex → St → R) :
  pages_Store_change.R0 C N
  (mkS [0, 6, 7, 8]
  [.v (.gp m0 0) false, .v a1 false, .v (.at (.int .i64 n2)) false, .v (.at (.int .i64 n3)) false] [none, none, none, none] (.sg sg4))
  k =
  if decide (n3 < n2) = true then
  withO (elemV 2 n3 a1) fun r =>
  withO (loadC none sg4 r) fun p =>
  bif (p.snd + 2).ble p.fst.length then
  bindL (List.take 2 (List.drop p.snd p.fst)) fun l =>
  bif (AVal.agg l).cells.length.beq 2 then
  bindL (splice [.at (.int .i64 (0 : Int)), .at (.string (ByteArray.mk (#[])))] 0 (AVal.agg l).cells) fun cs =>
  withO (loadC none sg4 (AVal.gp m0 2)) fun p =>
  withA p.fst[p.snd]? fun r =>
  withI .i64 cs[0]? fun n =>
  withS cs[1]? fun s =>
  withO (elemV 1 n r) fun r =>
  withO (storeG none sg4 r 1 (.at (.string s))) fun sg =>
  withO (loadC none sg (AVal.gp m0 3)) fun p =>
  withA p.fst[p.snd]? fun r =>
  withI .i64 cs[0]? fun n =>
  withA (plainA r) fun m =>
  withO (mapV sg m) fun p =>
  withO (mSet (.at (.int .i64 n)) (.at (.bool true)) p.snd) fun es =>
  k .normal
  (mkS [0, 6, 7, 8]
  [.v (.gp m0 0) false, .v a1 false, .v (.at (.int .i64 n2)) false,
  .v (.at (.int .i64 (IntKind.i64.wrap (n3 + (1 : Int))))) false]
  [none, none, none, none] (.sg (List.set sg p.fst (Box.map es))))
  else none
  else none
  else k (.exit 0) (mkS [] [] [] (.sg sg4)) := by kernel_rfl
theorem pages_Store_change.k0_1 (sg0 : Sg) :
  pages_Store_change.K0 C N (.exit 0) (mkS [] [] [] (.sg sg0)) =
  some (.ret (.tup []) sg0) := by kernel_rfl
theorem pages_Store_may.main (m0 : Nat) (sg1 : Sg) :
  evalF C N pages_Store_may.a [.gp m0 0] sg1 =
  if (false ^^ false) = true then some (.ret (.at (.int .i64 (18 : Int))) sg1)
  else
  withO (loadC none sg1 (AVal.gp m0 0)) fun p =>
  withA p.fst[p.snd]? fun r =>
  withA (plainA r) fun a =>
  withOut (bif Nat.blt 141 1000000 then C (141 : FuncId) [a] sg1 else none)
  (fun v x =>
  withB (some v) fun b => if b = true then some (.ret (.at (.int .i64 (17 : Int))) sg1) else some (.ret (.at (.int .i64 (0 : Int))) sg1))
  fun v x => some (.pan v sg1) := by kernel_rfl
theorem pages_sizes.main (n0 : Int) (n1 : Int) (sg2 : Sg) :
  evalF C N pages_sizes.a [.at (.int .i64 n0), .at (.int .i64 n1)] sg2 =
  if decide (n0 ≥ (8 : Int)) = true then
  if decide (n0 ≤ (3840 : Int)) = true then
  if decide (n1 ≥ (4 : Int)) = true then some (.ret (.at (.bool (decide (n1 ≤ (1024 : Int))))) sg2) else some (.ret (.at (.bool false)) sg2)
  else some (.ret (.at (.bool false)) sg2)
  else some (.ret (.at (.bool false)) sg2) := by kernel_rfl
theorem slices_Repeat_string_string.main (a0 : AVal) (n1 : Int) (sg2 : Sg) :
  evalF C N slices_Repeat_string_string.a [a0, .at (.int .i64 n1)] sg2 =
  if decide (n1 < (0 : Int)) = true then
  some
  (Out.pan
  (AVal.ifc 9
  (AVal.at
  (Value.string
  (ByteArray.mk (#[(99 : UInt8), (97 : UInt8), (110 : UInt8), (110 : UInt8), (111 : UInt8), (116 : UInt8), (32 : UInt8), (98 : UInt8), (101 : UInt8), (32 : UInt8), (110 : UInt8), (101 : UInt8),
  (103 : UInt8), (97 : UInt8), (116 : UInt8), (105 : UInt8), (118 : UInt8), (101 : UInt8)])))))
  sg2)
  else
  withO (lenV a0) fun n =>
  withOut
  (bif Nat.blt 250 1000000 then C (250 : FuncId) [.at (.int .u64 (IntKind.u64.wrap (↑n : Int))), .at (.int .u64 (IntKind.u64.wrap n1))] []
  else none)
  (fun v x =>
  withT v fun vs =>
  bif vs.length.beq 2 then
  withI .u64 vs[0]? fun n =>
  withI .u64 vs[1]? fun n_1 =>
  if decide (n > (0 : Int)) = false then
  if decide (n_1 > (9223372036854775807 : Int)) = true then
  some
  (Out.pan
  (AVal.ifc 9
  (AVal.at
  (Value.string
  (ByteArray.mk (#[(116 : UInt8), (104 : UInt8), (101 : UInt8), (32 : UInt8), (114 : UInt8), (101 : UInt8), (115 : UInt8), (117 : UInt8), (108 : UInt8), (116 : UInt8), (32 : UInt8),
  (111 : UInt8), (102 : UInt8), (32 : UInt8), (40 : UInt8), (108 : UInt8), (101 : UInt8), (110 : UInt8), (40 : UInt8), (120 : UInt8), (41 : UInt8), (32 : UInt8),
  (42 : UInt8), (32 : UInt8), (99 : UInt8), (111 : UInt8), (117 : UInt8), (110 : UInt8), (116 : UInt8), (41 : UInt8), (32 : UInt8), (111 : UInt8), (118 : UInt8),
  (101 : UInt8), (114 : UInt8), (102 : UInt8), (108 : UInt8), (111 : UInt8), (119 : UInt8), (115 : UInt8)])))))
  sg2)
  else
  if (0 : Int) < IntKind.i64.wrap n_1 ∧ IntKind.i64.wrap n_1 ≤ IntKind.i64.wrap n_1 ∧ IntKind.i64.wrap n_1 * (↑16 : Int) ≤ (35184372088832 : Int) then
  withA (plainA a0) fun b =>
  withO (flatG (sg2 ++ [Box.mk (List.replicate (IntKind.i64.wrap n_1).toNat [.at (.string (ByteArray.mk (#[])))]).flatten]) 1 b) fun p =>
  withO
  (copyV 1 (sg2 ++ [Box.mk (List.replicate (IntKind.i64.wrap n_1).toNat [.at (.string (ByteArray.mk (#[])))]).flatten])
  (AVal.gs (List.length sg2) 1 0 (IntKind.i64.wrap n_1).toNat) p.fst p.snd)
  fun (q : Nat × Sg) =>
  iter (slices_Repeat_string_string.R0 C N) N
  (mkS [7, 8]
  [.v (.gs (List.length sg2) 1 0 (IntKind.i64.wrap n_1).toNat) false, .v (.at (.int .i64 (↑q.fst : Int))) false] [none, none]
  (.sg q.snd))
  (slices_Repeat_string_string.K0 C N)
  else none
  else
  some
  (Out.pan
  (AVal.ifc 9
  (AVal.at
  (Value.string
  (ByteArray.mk (#[(116 : UInt8), (104 : UInt8), (101 : UInt8), (32 : UInt8), (114 : UInt8), (101 : UInt8), (115 : UInt8), (117 : UInt8), (108 : UInt8), (116 : UInt8), (32 : UInt8),
  (111 : UInt8), (102 : UInt8), (32 : UInt8), (40 : UInt8), (108 : UInt8), (101 : UInt8), (110 : UInt8), (40 : UInt8), (120 : UInt8), (41 : UInt8), (32 : UInt8),
  (42 : UInt8), (32 : UInt8), (99 : UInt8), (111 : UInt8), (117 : UInt8), (110 : UInt8), (116 : UInt8), (41 : UInt8), (32 : UInt8), (111 : UInt8), (118 : UInt8),
  (101 : UInt8), (114 : UInt8), (102 : UInt8), (108 : UInt8), (111 : UInt8), (119 : UInt8), (115 : UInt8)])))))
  sg2)
  else none)
  fun x x_1 => none := by kernel_rfl
theorem slices_Repeat_string_string.r0 (m0 : Nat) (m1 : Nat) (n2 : Int) (sg3 : Sg) (k : Ex → St → R) :
  slices_Repeat_string_string.R0 C N (mkS [7, 8] [.v (.gs m0 1 0 m1) false, .v (.at (.int .i64 n2)) false] [none, none] (.sg sg3)) k =
  if decide (n2 < (↑m1 : Int)) = true then
  if (0 : Int) ≤ n2 ∧ n2 ≤ (↑m1 : Int) ∧ (↑m1 : Int) ≤ (↑m1 : Int) then
  withO (cutV (AVal.gs m0 1 0 m1) n2.toNat (↑m1 : Int).toNat) fun r =>
  if (0 : Int) ≤ (0 : Int) ∧ (0 : Int) ≤ n2 ∧ n2 ≤ (↑m1 : Int) then
  withO (cutV (AVal.gs m0 1 0 m1) (Int.toNat (0 : Int)) n2.toNat) fun r_1 =>
  withA (plainA r_1) fun b =>
  withO (flatG sg3 1 b) fun p =>
  withA (plainA r) fun a =>
  withO (copyV 1 sg3 a p.fst p.snd) fun (q : Nat × Sg) =>
  k .normal
  (mkS [7, 8] [.v (.gs m0 1 0 m1) false, .v (.at (.int .i64 (IntKind.i64.wrap (n2 + (↑q.fst : Int))))) false] [none, none]
  (.sg q.snd))
  else none
  else none
  else k (.exit 0) (mkS [7] [.v (.gs m0 1 0 m1) false] [none] (.sg sg3)) := by kernel_rfl
theorem slices_Repeat_string_string.k0_1 (m0 : Nat) (m1 : Nat) (sg2 : Sg) :
  slices_Repeat_string_string.K0 C N (.exit 0) (mkS [7] [.v (.gs m0 1 0 m1) false] [none] (.sg sg2)) =
  some (.ret (AVal.gs m0 1 0 m1) sg2) := by kernel_rfl
theorem pages_head.main (n0 : Int) (n1 : Int) (n2 : Int) (sg3 : Sg) :
  evalF C N pages_head.a [.at (.int .i64 n0), .at (.int .i64 n1), .at (.int .u64 n2)] sg3 =
  withOut (bif Nat.blt 126 1000000 then C (126 : FuncId) [ofConst (Value.string (ByteArray.mk (#[]))), ofConst (Value.int IntKind.i64 (480 : Int))] [] else none)
  (fun v x =>
  withS (some v) fun s =>
  withOut
  (bif Nat.blt 328 1000000 then
  C (328 : FuncId)
  [AVal.agg
  [.at (.int .i64 (1 : Int)), .at (.int .u64 n2), .at (.int .u64 (0 : Int)), .at (.int .i64 n0),
  .at (.int .i64 n1), .at (.string s)]]
  []
  else none)
  (fun v x =>
  withT v fun vs =>
  bif vs.length.beq 2 then
  withS vs[0]? fun s => withI .i64 vs[1]? fun n => some (.ret (.tup [.at (.string s), .at (.int .i64 n)]) sg3)
  else none)
  fun x x_1 => none)
  fun x x_1 => none := by kernel_rfl
theorem pages_Store_home.main (m0 : Nat) (n1 : Int) (sg2 : Sg) :
  evalF C N pages_Store_home.a [.gp m0 0, .at (.int .i64 n1)] sg2 =
  withO (loadC none sg2 (AVal.gp m0 1)) fun p =>
  withI .i64 p.fst[p.snd]? fun n => some (.ret (.at (.int .i64 (IntKind.i64.wrap (IntKind.i64.wrap ((1 : Int) + n) + n1)))) sg2) := by kernel_rfl
theorem maps_Keys_map_intbool_int_bool.main (a0 : AVal) (sg1 : Sg) :
  evalF C N maps_Keys_map_intbool_int_bool.a [a0] sg1 =
  withA (plainA a0) fun a => some (.ret (AVal.clo 331 [] [.gp (List.length sg1) 0]) (sg1 ++ [Box.mk a.cells])) := by kernel_rfl
theorem slices_ContainsFunc_journal_Image_journal_Image.main (a0 : AVal) (a1 : FuncId) (l2 : List AVal) (l3 : List AVal) (sg4 : Sg) :
  evalF C N slices_ContainsFunc_journal_Image_journal_Image.a [a0, AVal.clo a1 l2 l3] sg4 =
  withA (plainA a0) fun a =>
  withOut (bif Nat.blt 334 1000000 then C (334 : FuncId) [a, AVal.clo a1 l2 l3] sg4 else none)
  (fun v sg' => withI .i64 (some v) fun n => some (.ret (.at (.bool (decide (n ≥ (0 : Int))))) sg')) fun v sg' => some (.pan v sg') := by kernel_rfl
theorem pages_Store_has_1.main (n0 : Int) (s1 : ByteArray) (m2 : Nat) (sg3 : Sg) :
  evalF C N pages_Store_has_1.a [AVal.agg [.at (.int .i64 n0), .at (.string s1)], .gp m2 0] sg3 =
  withI .i64 [.at (.int .i64 n0), .at (.string s1)][0]? fun n =>
  withO (loadC none sg3 (AVal.gp m2 0)) fun p =>
  withA p.fst[p.snd]? fun r =>
  withO (nilV r) fun r =>
  withO (addrV 2 r) fun r =>
  withO (loadC none sg3 r) fun p =>
  withA p.fst[p.snd]? fun r => withO (lenV r) fun n_1 => some (.ret (.at (.bool (decide (n ≥ (↑n_1 : Int))))) sg3) := by kernel_rfl
theorem slices_IndexFunc_journal_Image_journal_Image.main (a0 : AVal) (a1 : FuncId) (l2 : List AVal) (l3 : List AVal) (sg4 : Sg) :
  evalF C N slices_IndexFunc_journal_Image_journal_Image.a [a0, AVal.clo a1 l2 l3] sg4 =
  withO (lenV a0) fun n =>
  iter (slices_IndexFunc_journal_Image_journal_Image.R0 C N) N
  (mkS [0, 1, 7, 8]
  [.v a0 false, .v (.clo a1 l2 l3) false, .v (.at (.int .i64 (↑n : Int))) false, .v (.at (.int .i64 (0 : Int))) false] [none, none, none, none]
  (.sg sg4))
  (slices_IndexFunc_journal_Image_journal_Image.K0 C N) := by kernel_rfl
theorem slices_IndexFunc_journal_Image_journal_Image.r0 (a0 : AVal) (a1 : FuncId) (l2 : List AVal) (l3 : List AVal) (n4 : Int) (n5 : Int) (sg6 : Sg) (k : Ex → St → R) :
  slices_IndexFunc_journal_Image_journal_Image.R0 C N
  (mkS [0, 1, 7, 8]
  [.v a0 false, .v (.clo a1 l2 l3) false, .v (.at (.int .i64 n4)) false, .v (.at (.int .i64 n5)) false] [none, none, none, none] (.sg sg6))
  k =
  if decide (n5 < n4) = true then
  withO (elemV 2 n5 a0) fun r =>
  withO (loadC none sg6 r) fun p =>
  bif (p.snd + 2).ble p.fst.length then
  bindL (List.take 2 (List.drop p.snd p.fst)) fun l =>
  withOut (bif Nat.blt a1 1000000 then C a1 (l2 ++ ([AVal.agg l] ++ l3)) sg6 else none)
  (fun v sg' =>
  withB (some v) fun b =>
  if b = true then k .ret (mkS [4] [.v (.at (.int .i64 n5)) false] [none] (.sg sg'))
  else
  k .normal
  (mkS [0, 1, 7, 8]
  [.v a0 false, .v (.clo a1 l2 l3) false, .v (.at (.int .i64 n4)) false,
  .v (.at (.int .i64 (IntKind.i64.wrap (n5 + (1 : Int))))) false]
  [none, none, none, none] (.sg sg')))
  fun v sg' => some (.pan v sg')
  else none
  else k (.exit 0) (mkS [] [] [] (.sg sg6)) := by kernel_rfl
theorem slices_IndexFunc_journal_Image_journal_Image.k0_1 (n0 : Int) (sg1 : Sg) :
  slices_IndexFunc_journal_Image_journal_Image.K0 C N .ret (mkS [4] [.v (.at (.int .i64 n0)) false] [none] (.sg sg1)) =
  some (.ret (.at (.int .i64 n0)) sg1) := by kernel_rfl
theorem slices_IndexFunc_journal_Image_journal_Image.k0_2 (sg0 : Sg) :
  slices_IndexFunc_journal_Image_journal_Image.K0 C N (.exit 0) (mkS [] [] [] (.sg sg0)) =
  some (.ret (.at (.int .i64 (-1 : Int))) sg0) := by kernel_rfl
theorem math_bits_Mul.main (n0 : Int) (n1 : Int) (sg2 : Sg) :
  evalF C N math_bits_Mul.a [.at (.int .u64 n0), .at (.int .u64 n1)] sg2 =
  withOut (bif Nat.blt 336 1000000 then C (336 : FuncId) [.at (.int .u64 n0), .at (.int .u64 n1)] [] else none)
  (fun v x =>
  withT v fun vs =>
  bif vs.length.beq 2 then
  withI .u64 vs[0]? fun n =>
  withI .u64 vs[1]? fun n_1 => some (.ret (.tup [.at (.int .u64 n), .at (.int .u64 n_1)]) sg2)
  else none)
  fun x x_1 => none := by kernel_rfl
theorem math_bits_Mul64.main (n0 : Int) (n1 : Int) (sg2 : Sg) :
  evalF C N math_bits_Mul64.a [.at (.int .u64 n0), .at (.int .u64 n1)] sg2 =
  if (32 : Int) < (0 : Int) then none
  else
  if (32 : Int) < (0 : Int) then none
  else
  if (32 : Int) < (0 : Int) then none
  else
  if (32 : Int) < (0 : Int) then none
  else
  if (32 : Int) < (0 : Int) then none
  else
  some
  (Out.ret
  (AVal.tup
  [AVal.at
  (Value.int IntKind.u64
  (IntKind.u64.wrap
  (IntKind.u64.wrap
  (IntKind.u64.wrap (shiftI BinOp.shr IntKind.u64 n0 (32 : Int) * shiftI BinOp.shr IntKind.u64 n1 (32 : Int)) +
  shiftI BinOp.shr IntKind.u64
  (IntKind.u64.wrap
  (IntKind.u64.wrap (shiftI BinOp.shr IntKind.u64 n0 (32 : Int) * bitsI BinOp.and IntKind.u64 n1 (4294967295 : Int)) +
  shiftI BinOp.shr IntKind.u64 (IntKind.u64.wrap (bitsI BinOp.and IntKind.u64 n0 (4294967295 : Int) * bitsI BinOp.and IntKind.u64 n1 (4294967295 : Int))) (32 : Int)))
  (32 : Int)) +
  shiftI BinOp.shr IntKind.u64
  (IntKind.u64.wrap
  (bitsI BinOp.and IntKind.u64
  (IntKind.u64.wrap
  (IntKind.u64.wrap (shiftI BinOp.shr IntKind.u64 n0 (32 : Int) * bitsI BinOp.and IntKind.u64 n1 (4294967295 : Int)) +
  shiftI BinOp.shr IntKind.u64 (IntKind.u64.wrap (bitsI BinOp.and IntKind.u64 n0 (4294967295 : Int) * bitsI BinOp.and IntKind.u64 n1 (4294967295 : Int)))
  (32 : Int)))
  (4294967295 : Int) +
  IntKind.u64.wrap (bitsI BinOp.and IntKind.u64 n0 (4294967295 : Int) * shiftI BinOp.shr IntKind.u64 n1 (32 : Int))))
  (32 : Int)))),
  .at (.int .u64 (IntKind.u64.wrap (n0 * n1)))])
  sg2) := by kernel_rfl
theorem ref03_Same.main (a0 : AVal) (a1 : AVal) (sg2 : Sg) :
  evalF C N ref03_Same.a [a0, a1] sg2 =
  withO (lenV a0) fun n =>
  withO (lenV a1) fun n_1 =>
  if ((↑n : Int) != (↑n_1 : Int)) = true then some (.ret (.at (.bool false)) sg2)
  else
  iter (ref03_Same.R0 C N) N (mkS [0, 1, 5] [.v a0 false, .v a1 false, .v (.at (.int .i64 (0 : Int))) false] [none, none, none] (.sg sg2))
  (ref03_Same.K0 C N) := by kernel_rfl
theorem ref03_Same.r0 (a0 : AVal) (a1 : AVal) (n2 : Int) (sg3 : Sg) (k : Ex → St → R) :
  ref03_Same.R0 C N (mkS [0, 1, 5] [.v a0 false, .v a1 false, .v (.at (.int .i64 n2)) false] [none, none, none] (.sg sg3)) k =
  withO (lenV a0) fun n =>
  if decide (n2 < (↑n : Int)) = true then
  withO (elemV 1 n2 a0) fun r =>
  withO (loadC none sg3 r) fun p =>
  withS p.fst[p.snd]? fun s =>
  withO (elemV 1 n2 a1) fun r =>
  withO (loadC none sg3 r) fun p =>
  withS p.fst[p.snd]? fun s_1 =>
  if (!eqS s s_1) = true then k .ret (mkS [4] [.v (.at (.bool false)) false] [none] (.sg sg3))
  else
  k .normal
  (mkS [0, 1, 5] [.v a0 false, .v a1 false, .v (.at (.int .i64 (IntKind.i64.wrap (n2 + (1 : Int))))) false] [none, none, none]
  (.sg sg3))
  else k (.exit 0) (mkS [] [] [] (.sg sg3)) := by kernel_rfl
theorem ref03_Same.k0_1 (b0 : Bool) (sg1 : Sg) :
  ref03_Same.K0 C N .ret (mkS [4] [.v (.at (.bool b0)) false] [none] (.sg sg1)) =
  some (.ret (.at (.bool b0)) sg1) := by kernel_rfl
theorem ref03_Same.k0_2 (sg0 : Sg) :
  ref03_Same.K0 C N (.exit 0) (mkS [] [] [] (.sg sg0)) =
  some (.ret (.at (.bool true)) sg0) := by kernel_rfl
theorem disk_Disk_Read.main (m0 : Nat) (n1 : Int) (sg2 : Sg) :
  evalF C N disk_Disk_Read.a [.gp m0 0, .at (.int .i64 n1)] sg2 =
  if (true ^^ false) = true then
  withO
  (loadC none (sg2 ++ [Box.mk [.at (.int .i64 n1)]] ++ [Box.mk [.at (.string (ByteArray.mk (#[])))]] ++ [Box.mk [.at (.int .i64 (0 : Int))]])
  (AVal.gp m0 3))
  fun p =>
  withB p.fst[p.snd]? fun b =>
  if b = true then
  withO
  (storeG none (sg2 ++ [Box.mk [.at (.int .i64 n1)]] ++ [Box.mk [.at (.string (ByteArray.mk (#[])))]] ++ [Box.mk [.at (.int .i64 (0 : Int))]])
  (AVal.gp (List.length (sg2 ++ [Box.mk [.at (.int .i64 n1)]])) 0) 1 (.at (.string (ByteArray.mk (#[])))))
  fun sg =>
  withO
  (storeG none sg (AVal.gp (List.length (sg2 ++ [Box.mk [.at (.int .i64 n1)]] ++ [Box.mk [.at (.string (ByteArray.mk (#[])))]])) 0) 1
  (.at (.int .i64 (17 : Int))))
  fun sg =>
  withO (loadC none sg (AVal.gp (List.length (sg2 ++ [Box.mk [.at (.int .i64 n1)]])) 0)) fun p =>
  withS p.fst[p.snd]? fun s =>
  withO (loadC none sg (AVal.gp (List.length (sg2 ++ [Box.mk [.at (.int .i64 n1)]] ++ [Box.mk [.at (.string (ByteArray.mk (#[])))]])) 0))
  fun p => withI .i64 p.fst[p.snd]? fun n => some (.ret (.tup [.at (.string s), .at (.int .i64 n)]) sg)
  else
  withO
  (loadC none (sg2 ++ [Box.mk [.at (.int .i64 n1)]] ++ [Box.mk [.at (.string (ByteArray.mk (#[])))]] ++ [Box.mk [.at (.int .i64 (0 : Int))]])
  (AVal.gp (List.length sg2) 0))
  fun p =>
  withI .i64 p.fst[p.snd]? fun n =>
  withOut
  (bif Nat.blt 234 1000000 then
  C (234 : FuncId) [.gp m0 0, .at (.int .i64 n)]
  (sg2 ++ [Box.mk [.at (.int .i64 n1)]] ++ [Box.mk [.at (.string (ByteArray.mk (#[])))]] ++ [Box.mk [.at (.int .i64 (0 : Int))]])
  else none)
  (fun v x =>
  withB (some v) fun b =>
  if (!b) = true then
  withO
  (storeG none (sg2 ++ [Box.mk [.at (.int .i64 n1)]] ++ [Box.mk [.at (.string (ByteArray.mk (#[])))]] ++ [Box.mk [.at (.int .i64 (0 : Int))]])
  (AVal.gp (List.length (sg2 ++ [Box.mk [.at (.int .i64 n1)]])) 0) 1 (.at (.string (ByteArray.mk (#[])))))
  fun sg =>
  withO
  (storeG none sg (AVal.gp (List.length (sg2 ++ [Box.mk [.at (.int .i64 n1)]] ++ [Box.mk [.at (.string (ByteArray.mk (#[])))]])) 0) 1
  (.at (.int .i64 (18 : Int))))
  fun sg =>
  withO (loadC none sg (AVal.gp (List.length (sg2 ++ [Box.mk [.at (.int .i64 n1)]])) 0)) fun p =>
  withS p.fst[p.snd]? fun s =>
  withO (loadC none sg (AVal.gp (List.length (sg2 ++ [Box.mk [.at (.int .i64 n1)]] ++ [Box.mk [.at (.string (ByteArray.mk (#[])))]])) 0))
  fun p => withI .i64 p.fst[p.snd]? fun n => some (.ret (.tup [.at (.string s), .at (.int .i64 n)]) sg)
  else
  withO
  (loadC none (sg2 ++ [Box.mk [.at (.int .i64 n1)]] ++ [Box.mk [.at (.string (ByteArray.mk (#[])))]] ++ [Box.mk [.at (.int .i64 (0 : Int))]])
  (AVal.gp m0 1))
  fun p =>
  withA p.fst[p.snd]? fun r =>
  withA (plainA r) fun a =>
  withOut
  (bif Nat.blt 329 1000000 then
  C (329 : FuncId) [a]
  (sg2 ++ [Box.mk [.at (.int .i64 n1)]] ++ [Box.mk [.at (.string (ByteArray.mk (#[])))]] ++ [Box.mk [.at (.int .i64 (0 : Int))]])
  else none)
  (fun v sg' =>
  withA (plainA v) fun a =>
  withO (cloV a) fun (q : FuncId × List AVal × List AVal) =>
  bindL (q.snd.fst ++ AVal.yl (List.length sg') :: q.snd.snd) fun xs =>
  withOut
  (bif Nat.blt q.fst 1000000 then
  C q.fst xs
  (sg' ++
  [Box.loop 900000
  [.gp (List.length sg2) 0, .gp (List.length (sg2 ++ [Box.mk [.at (.int .i64 n1)]])) 0,
  AVal.gp (List.length (sg2 ++ [Box.mk [.at (.int .i64 n1)]] ++ [Box.mk [.at (.string (ByteArray.mk (#[])))]])) 0]
  0])
  else none)
  (fun x sg2_1 =>
  withO (loopW sg2_1 (List.length sg')) fun (p : Nat × List AVal × Nat) =>
  bif p.snd.snd.beq 0 then
  withO (loadC none (List.set sg2_1 (List.length sg') (Box.mk [])) (AVal.gp m0 0)) fun p =>
  withA p.fst[p.snd]? fun r =>
  withO (loadC none (List.set sg2_1 (List.length sg') (Box.mk [])) (AVal.gp (List.length sg2) 0)) fun p =>
  withI .i64 p.fst[p.snd]? fun n =>
  withO (elemV 1 n r) fun r =>
  withO (loadC none (List.set sg2_1 (List.length sg') (Box.mk [])) r) fun p =>
  withS p.fst[p.snd]? fun s =>
  withO
  (storeG none (List.set sg2_1 (List.length sg') (Box.mk []))
  (AVal.gp (List.length (sg2 ++ [Box.mk [.at (.int .i64 n1)]])) 0) 1 (.at (.string s)))
  fun sg =>
  withO
  (storeG none sg
  (AVal.gp (List.length (sg2 ++ [Box.mk [.at (.int .i64 n1)]] ++ [Box.mk [.at (.string (ByteArray.mk (#[])))]]))
  0)
  1 (.at (.int .i64 (0 : Int))))
  fun sg =>
  withO (loadC none sg (AVal.gp (List.length (sg2 ++ [Box.mk [.at (.int .i64 n1)]])) 0))
  fun p =>
  withS p.fst[p.snd]? fun s =>
  withO
  (loadC none sg
  (AVal.gp (List.length (sg2 ++ [Box.mk [.at (.int .i64 n1)]] ++ [Box.mk [.at (.string (ByteArray.mk (#[])))]]))
  0))
  fun p =>
  withI .i64 p.fst[p.snd]? fun n =>
  some (.ret (.tup [.at (.string s), .at (.int .i64 n)]) sg)
  else
  bif p.snd.snd.beq 2 then
  withO (loadC none (List.set sg2_1 (List.length sg') (Box.mk [])) (AVal.gp (List.length (sg2 ++ [Box.mk [.at (.int .i64 n1)]])) 0))
  fun p =>
  withS p.fst[p.snd]? fun s =>
  withO
  (loadC none (List.set sg2_1 (List.length sg') (Box.mk []))
  (AVal.gp (List.length (sg2 ++ [Box.mk [.at (.int .i64 n1)]] ++ [Box.mk [.at (.string (ByteArray.mk (#[])))]])) 0))
  fun p =>
  withI .i64 p.fst[p.snd]? fun n =>
  some (.ret (.tup [.at (.string s), .at (.int .i64 n)]) (List.set sg2_1 (List.length sg') (Box.mk [])))
  else
  bif Nat.blt 2 p.snd.snd then
  bif (p.snd.snd - 3).beq 1 then
  withO (loadC none (List.set sg2_1 (List.length sg') (Box.mk [])) (AVal.gp m0 0)) fun p =>
  withA p.fst[p.snd]? fun r =>
  withO (loadC none (List.set sg2_1 (List.length sg') (Box.mk [])) (AVal.gp (List.length sg2) 0)) fun p =>
  withI .i64 p.fst[p.snd]? fun n =>
  withO (elemV 1 n r) fun r =>
  withO (loadC none (List.set sg2_1 (List.length sg') (Box.mk [])) r) fun p =>
  withS p.fst[p.snd]? fun s =>
  withO
  (storeG none (List.set sg2_1 (List.length sg') (Box.mk []))
  (AVal.gp (List.length (sg2 ++ [Box.mk [.at (.int .i64 n1)]])) 0) 1 (.at (.string s)))
  fun sg =>
  withO
  (storeG none sg
  (AVal.gp (List.length (sg2 ++ [Box.mk [.at (.int .i64 n1)]] ++ [Box.mk [.at (.string (ByteArray.mk (#[])))]]))
  0)
  1 (.at (.int .i64 (0 : Int))))
  fun sg =>
  withO (loadC none sg (AVal.gp (List.length (sg2 ++ [Box.mk [.at (.int .i64 n1)]])) 0))
  fun p =>
  withS p.fst[p.snd]? fun s =>
  withO
  (loadC none sg
  (AVal.gp
  (List.length (sg2 ++ [Box.mk [.at (.int .i64 n1)]] ++ [Box.mk [.at (.string (ByteArray.mk (#[])))]]))
  0))
  fun p =>
  withI .i64 p.fst[p.snd]? fun n =>
  some (.ret (.tup [.at (.string s), .at (.int .i64 n)]) sg)
  else none
  else none)
  fun v sg2 => some (.pan v sg2))
  fun v sg' => some (.pan v sg'))
  fun v x =>
  some (.pan v (sg2 ++ [Box.mk [.at (.int .i64 n1)]] ++ [Box.mk [.at (.string (ByteArray.mk (#[])))]] ++ [Box.mk [.at (.int .i64 (0 : Int))]]))
  else
  withO
  (loadC none (sg2 ++ [Box.mk [.at (.int .i64 n1)]] ++ [Box.mk [.at (.string (ByteArray.mk (#[])))]] ++ [Box.mk [.at (.int .i64 (0 : Int))]])
  (AVal.gp (List.length sg2) 0))
  fun p =>
  withI .i64 p.fst[p.snd]? fun n =>
  withOut
  (bif Nat.blt 234 1000000 then
  C (234 : FuncId) [.gp m0 0, .at (.int .i64 n)]
  (sg2 ++ [Box.mk [.at (.int .i64 n1)]] ++ [Box.mk [.at (.string (ByteArray.mk (#[])))]] ++ [Box.mk [.at (.int .i64 (0 : Int))]])
  else none)
  (fun v x =>
  withB (some v) fun b =>
  if (!b) = true then
  withO
  (storeG none (sg2 ++ [Box.mk [.at (.int .i64 n1)]] ++ [Box.mk [.at (.string (ByteArray.mk (#[])))]] ++ [Box.mk [.at (.int .i64 (0 : Int))]])
  (AVal.gp (List.length (sg2 ++ [Box.mk [.at (.int .i64 n1)]])) 0) 1 (.at (.string (ByteArray.mk (#[])))))
  fun sg =>
  withO
  (storeG none sg (AVal.gp (List.length (sg2 ++ [Box.mk [.at (.int .i64 n1)]] ++ [Box.mk [.at (.string (ByteArray.mk (#[])))]])) 0) 1
  (.at (.int .i64 (18 : Int))))
  fun sg =>
  withO (loadC none sg (AVal.gp (List.length (sg2 ++ [Box.mk [.at (.int .i64 n1)]])) 0)) fun p =>
  withS p.fst[p.snd]? fun s =>
  withO (loadC none sg (AVal.gp (List.length (sg2 ++ [Box.mk [.at (.int .i64 n1)]] ++ [Box.mk [.at (.string (ByteArray.mk (#[])))]])) 0))
  fun p => withI .i64 p.fst[p.snd]? fun n => some (.ret (.tup [.at (.string s), .at (.int .i64 n)]) sg)
  else
  withO
  (loadC none (sg2 ++ [Box.mk [.at (.int .i64 n1)]] ++ [Box.mk [.at (.string (ByteArray.mk (#[])))]] ++ [Box.mk [.at (.int .i64 (0 : Int))]])
  (AVal.gp m0 1))
  fun p =>
  withA p.fst[p.snd]? fun r =>
  withA (plainA r) fun a =>
  withOut
  (bif Nat.blt 329 1000000 then
  C (329 : FuncId) [a]
  (sg2 ++ [Box.mk [.at (.int .i64 n1)]] ++ [Box.mk [.at (.string (ByteArray.mk (#[])))]] ++ [Box.mk [.at (.int .i64 (0 : Int))]])
  else none)
  (fun v sg' =>
  withA (plainA v) fun a =>
  withO (cloV a) fun (q : FuncId × List AVal × List AVal) =>
  bindL (q.snd.fst ++ AVal.yl (List.length sg') :: q.snd.snd) fun xs =>
  withOut
  (bif Nat.blt q.fst 1000000 then
  C q.fst xs
  (sg' ++
  [Box.loop 900000
  [.gp (List.length sg2) 0, .gp (List.length (sg2 ++ [Box.mk [.at (.int .i64 n1)]])) 0,
  AVal.gp (List.length (sg2 ++ [Box.mk [.at (.int .i64 n1)]] ++ [Box.mk [.at (.string (ByteArray.mk (#[])))]])) 0]
  0])
  else none)
  (fun x sg2_1 =>
  withO (loopW sg2_1 (List.length sg')) fun (p : Nat × List AVal × Nat) =>
  bif p.snd.snd.beq 0 then
  withO (loadC none (List.set sg2_1 (List.length sg') (Box.mk [])) (AVal.gp m0 0)) fun p =>
  withA p.fst[p.snd]? fun r =>
  withO (loadC none (List.set sg2_1 (List.length sg') (Box.mk [])) (AVal.gp (List.length sg2) 0)) fun p =>
  withI .i64 p.fst[p.snd]? fun n =>
  withO (elemV 1 n r) fun r =>
  withO (loadC none (List.set sg2_1 (List.length sg') (Box.mk [])) r) fun p =>
  withS p.fst[p.snd]? fun s =>
  withO
  (storeG none (List.set sg2_1 (List.length sg') (Box.mk []))
  (AVal.gp (List.length (sg2 ++ [Box.mk [.at (.int .i64 n1)]])) 0) 1 (.at (.string s)))
  fun sg =>
  withO
  (storeG none sg
  (AVal.gp (List.length (sg2 ++ [Box.mk [.at (.int .i64 n1)]] ++ [Box.mk [.at (.string (ByteArray.mk (#[])))]])) 0)
  1 (.at (.int .i64 (0 : Int))))
  fun sg =>
  withO (loadC none sg (AVal.gp (List.length (sg2 ++ [Box.mk [.at (.int .i64 n1)]])) 0)) fun p =>
  withS p.fst[p.snd]? fun s =>
  withO
  (loadC none sg
  (AVal.gp (List.length (sg2 ++ [Box.mk [.at (.int .i64 n1)]] ++ [Box.mk [.at (.string (ByteArray.mk (#[])))]]))
  0))
  fun p =>
  withI .i64 p.fst[p.snd]? fun n =>
  some (.ret (.tup [.at (.string s), .at (.int .i64 n)]) sg)
  else
  bif p.snd.snd.beq 2 then
  withO (loadC none (List.set sg2_1 (List.length sg') (Box.mk [])) (AVal.gp (List.length (sg2 ++ [Box.mk [.at (.int .i64 n1)]])) 0))
  fun p =>
  withS p.fst[p.snd]? fun s =>
  withO
  (loadC none (List.set sg2_1 (List.length sg') (Box.mk []))
  (AVal.gp (List.length (sg2 ++ [Box.mk [.at (.int .i64 n1)]] ++ [Box.mk [.at (.string (ByteArray.mk (#[])))]])) 0))
  fun p =>
  withI .i64 p.fst[p.snd]? fun n =>
  some (.ret (.tup [.at (.string s), .at (.int .i64 n)]) (List.set sg2_1 (List.length sg') (Box.mk [])))
  else
  bif Nat.blt 2 p.snd.snd then
  bif (p.snd.snd - 3).beq 1 then
  withO (loadC none (List.set sg2_1 (List.length sg') (Box.mk [])) (AVal.gp m0 0)) fun p =>
  withA p.fst[p.snd]? fun r =>
  withO (loadC none (List.set sg2_1 (List.length sg') (Box.mk [])) (AVal.gp (List.length sg2) 0)) fun p =>
  withI .i64 p.fst[p.snd]? fun n =>
  withO (elemV 1 n r) fun r =>
  withO (loadC none (List.set sg2_1 (List.length sg') (Box.mk [])) r) fun p =>
  withS p.fst[p.snd]? fun s =>
  withO
  (storeG none (List.set sg2_1 (List.length sg') (Box.mk []))
  (AVal.gp (List.length (sg2 ++ [Box.mk [.at (.int .i64 n1)]])) 0) 1 (.at (.string s)))
  fun sg =>
  withO
  (storeG none sg
  (AVal.gp (List.length (sg2 ++ [Box.mk [.at (.int .i64 n1)]] ++ [Box.mk [.at (.string (ByteArray.mk (#[])))]]))
  0)
  1 (.at (.int .i64 (0 : Int))))
  fun sg =>
  withO (loadC none sg (AVal.gp (List.length (sg2 ++ [Box.mk [.at (.int .i64 n1)]])) 0))
  fun p =>
  withS p.fst[p.snd]? fun s =>
  withO
  (loadC none sg
  (AVal.gp (List.length (sg2 ++ [Box.mk [.at (.int .i64 n1)]] ++ [Box.mk [.at (.string (ByteArray.mk (#[])))]]))
  0))
  fun p =>
  withI .i64 p.fst[p.snd]? fun n =>
  some (.ret (.tup [.at (.string s), .at (.int .i64 n)]) sg)
  else none
  else none)
  fun v sg2 => some (.pan v sg2))
  fun v sg' => some (.pan v sg'))
  fun v x =>
  some (.pan v (sg2 ++ [Box.mk [.at (.int .i64 n1)]] ++ [Box.mk [.at (.string (ByteArray.mk (#[])))]] ++ [Box.mk [.at (.int .i64 (0 : Int))]])) := by kernel_rfl
theorem pages_Load.main (m0 : Nat) (sg1 : Sg) :
  evalF C N pages_Load.a [.gp m0 0] sg1 =
  if (false ^^ false) = true then some (.ret (.tup [.at (.pointer none), .at (.int .i64 (18 : Int))]) sg1)
  else
  withOut (bif Nat.blt 135 1000000 then C (135 : FuncId) [.gp m0 0] sg1 else none)
  (fun v sg' =>
  withT v fun vs =>
  bif vs.length.beq 3 then
  withA vs[0]? fun a =>
  withI .u64 vs[1]? fun n =>
  withI .i64 vs[2]? fun n_1 =>
  if (n_1 != (0 : Int)) = true then some (.ret (.tup [.at (.pointer none), .at (.int .i64 n_1)]) sg')
  else
  withA (plainA a) fun a_1 =>
  withOut (bif Nat.blt 136 1000000 then C (136 : FuncId) [a_1] sg' else none)
  (fun v sg' =>
  withI .i64 (some v) fun n_2 =>
  if (n_2 != (0 : Int)) = true then some (.ret (.tup [.at (.pointer none), .at (.int .i64 n_2)]) sg')
  else
  withA (plainA a) fun a_2 =>
  withOut (bif Nat.blt 137 1000000 then C (137 : FuncId) [a_2, .at (.int .u64 n)] sg' else none)
  (fun v sg' =>
  withI .i64 (some v) fun n_3 =>
  if (n_3 != (0 : Int)) = true then some (.ret (.tup [.at (.pointer none), .at (.int .i64 n_3)]) sg')
  else
  withA (plainA a) fun a_3 =>
  withOut (bif Nat.blt 138 1000000 then C (138 : FuncId) [a_3, .at (.int .u64 (IntKind.u64.wrap (n + (1 : Int))))] sg' else none)
  (fun v sg' =>
  withI .i64 (some v) fun n =>
  if (n != (0 : Int)) = true then some (.ret (.tup [.at (.pointer none), .at (.int .i64 n)]) sg')
  else withA (jk a) fun a => some (.ret (.tup [a, .at (.int .i64 (0 : Int))]) sg'))
  fun v sg' => some (.pan v sg'))
  fun v sg' => some (.pan v sg'))
  fun v sg' => some (.pan v sg')
  else none)
  fun v sg' => some (.pan v sg') := by kernel_rfl
theorem pages_Store_Checkpoint.main (m0 : Nat) (sg1 : Sg) :
  evalF C N pages_Store_Checkpoint.a [.gp m0 0] sg1 =
  withOut (bif Nat.blt 144 1000000 then C (144 : FuncId) [.gp m0 0] sg1 else none)
  (fun v x =>
  withI .i64 (some v) fun n =>
  if (n != (0 : Int)) = false then
  withO (loadC none sg1 (AVal.gp m0 4)) fun p =>
  withA p.fst[p.snd]? fun r =>
  withA (plainA r) fun a =>
  withOut (bif Nat.blt 145 1000000 then C (145 : FuncId) [a] sg1 else none)
  (fun v x =>
  withI .u64 (some v) fun n_1 =>
  if (n_1 == (0 : Int)) = true then some (.ret (.at (.int .i64 n)) sg1)
  else
  withOut (bif Nat.blt 39 1000000 then C (39 : FuncId) [.gp m0 0] sg1 else none)
  (fun v x =>
  withI .u64 (some v) fun n =>
  withOut
  (bif Nat.blt 138 1000000 then C (138 : FuncId) [.gp m0 0, .at (.int .u64 (IntKind.u64.wrap (n + (1 : Int))))] sg1 else none)
  (fun v sg' => withI .i64 (some v) fun n => some (.ret (.at (.int .i64 n)) sg')) fun v sg' =>
  some (.pan v sg'))
  fun v x => some (.pan v sg1))
  fun v x => some (.pan v sg1)
  else some (.ret (.at (.int .i64 n)) sg1))
  fun v x => some (.pan v sg1) := by kernel_rfl
theorem pages_Store_Waiting.main (m0 : Nat) (sg1 : Sg) :
  evalF C N pages_Store_Waiting.a [.gp m0 0] sg1 =
  if (false ^^ false) = true then some (.ret (.at (.int .i64 (0 : Int))) sg1)
  else withO (loadC none sg1 (AVal.gp m0 5)) fun p => withI .i64 p.fst[p.snd]? fun n => some (.ret (.at (.int .i64 n)) sg1) := by kernel_rfl
theorem pages_Store_Fresh.main (m0 : Nat) (sg1 : Sg) :
  evalF C N pages_Store_Fresh.a [.gp m0 0] sg1 =
  if (false ^^ false) = true then some (.ret (.at (.int .i64 (0 : Int))) sg1)
  else
  withO (loadC none sg1 (AVal.gp m0 3)) fun p =>
  withA p.fst[p.snd]? fun r =>
  withA (plainA r) fun m => withO (mapV sg1 m) fun p => some (.ret (.at (.int .i64 (↑p.snd.length : Int))) sg1) := by kernel_rfl
theorem law09_small.main (a0 : AVal) (sg1 : Sg) :
  evalF C N law09_small.a [a0] sg1 =
  withO (lenV a0) fun n =>
  iter (law09_small.R0 C N) N
  (mkS [0, 5, 6, 7]
  [.v a0 false, .v a0 false, .v (.at (.int .i64 (↑n : Int))) false, .v (.at (.int .i64 (0 : Int))) false] [none, none, none, none] (.sg sg1))
  (law09_small.K0 C N) := by kernel_rfl
theorem law09_small.r0 (a0 : AVal) (a1 : AVal) (n2 : Int) (n3 : Int) (sg4 : Sg) (k : Ex → St → R) :
  law09_small.R0 C N
  (mkS [0, 5, 6, 7] [.v a0 false, .v a1 false, .v (.at (.int .i64 n2)) false, .v (.at (.int .i64 n3)) false]
  [none, none, none, none] (.sg sg4))
  k =
  if decide (n3 < n2) = true then
  withO (elemV 5 n3 a1) fun r =>
  withO (loadC none sg4 r) fun p =>
  bif (p.snd + 5).ble p.fst.length then
  bindL (List.take 5 (List.drop p.snd p.fst)) fun l =>
  bif (AVal.agg l).cells.length.beq 5 then
  bindL
  (splice
  [.at (.int .i64 (0 : Int)), .sl true 3 [], .at (.int .i64 (0 : Int)), .at (.int .u8 (0 : Int)), .sl true 1 []]
  0 (AVal.agg l).cells)
  fun cs =>
  withA cs[1]? fun r =>
  withO (lenV r) fun n =>
  if decide ((↑n : Int) > (40 : Int)) = true then k .ret (mkS [2] [.v (.at (.bool false)) false] [none] (.sg sg4))
  else
  k .normal
  (mkS [0, 5, 6, 7]
  [.v a0 false, .v a1 false, .v (.at (.int .i64 n2)) false, .v (.at (.int .i64 (IntKind.i64.wrap (n3 + (1 : Int))))) false]
  [none, none, none, none] (.sg sg4))
  else none
  else none
  else k (.exit 0) (mkS [0] [.v a0 false] [none] (.sg sg4)) := by kernel_rfl
theorem law09_small.k0_1 (b0 : Bool) (sg1 : Sg) :
  law09_small.K0 C N .ret (mkS [2] [.v (.at (.bool b0)) false] [none] (.sg sg1)) =
  some (.ret (.at (.bool b0)) sg1) := by kernel_rfl
theorem law09_small.k0_2 (a0 : AVal) (sg1 : Sg) :
  law09_small.K0 C N (.exit 0) (mkS [0] [.v a0 false] [none] (.sg sg1)) =
  withO (lenV a0) fun n => some (.ret (.at (.bool (decide ((↑n : Int) ≤ (30 : Int))))) sg1) := by kernel_rfl
theorem law09_texts.main (m0 : Nat) (sg1 : Sg) :
  evalF C N law09_texts.a [.gp m0 0] sg1 =
  withOut (bif Nat.blt 35 1000000 then C (35 : FuncId) [.gp m0 0] sg1 else none)
  (fun v x =>
  withI .i64 (some v) fun n =>
  iter (law09_texts.R0 C N) N
  (mkS [0, 3, 8, 9]
  [.v (.gp m0 0) false, .v (.sl true 1 []) true, .v (.at (.int .i64 n)) false, .v (.at (.int .i64 (0 : Int))) false]
  [none, none, none, none] (.sg sg1))
  (law09_texts.K0 C N))
  fun v x => some (.pan v sg1) := by kernel_rfl
theorem law09_texts.r0 (m0 : Nat) (b1 : Bool) (l2 : List AVal) (n3 : Int) (n4 : Int) (sg5 : Sg) (k : Ex → St → R) :
  law09_texts.R0 C N
  (mkS [0, 3, 8, 9]
  [.v (.gp m0 0) false, .v (.sl b1 1 l2) true, .v (.at (.int .i64 n3)) false, .v (.at (.int .i64 n4)) false]
  [none, none, none, none] (.sg sg5))
  k =
  if decide (n4 < n3) = true then
  withOut (bif Nat.blt 31 1000000 then C (31 : FuncId) [.gp m0 0, .at (.int .i64 n4)] sg5 else none)
  (fun v x =>
  withT v fun vs =>
  bif vs.length.beq 2 then
  withS vs[0]? fun s =>
  withI .i64 vs[1]? fun n =>
  bif true && Nat.blt 0 1 then
  withO (flatG (sg5 ++ [Box.mk [.at (.string s)]]) 1 (AVal.gs (List.length sg5) 1 0 1)) fun p =>
  bif p.fst.beq 0 then
  k .normal
  (mkS [0, 3, 8, 9]
  [.v (.gp m0 0) false, .v (.sl b1 1 l2) false, .v (.at (.int .i64 n3)) false,
  .v (.at (.int .i64 (IntKind.i64.wrap (n4 + (1 : Int))))) false]
  [none, none, none, none] (.sg (sg5 ++ [Box.mk [.at (.string s)]])))
  else
  if p.fst * 16 ≤ 35184372088832 then
  withO (app1 none 1 16 (sg5 ++ [Box.mk [.at (.string s)]]) (.sl b1 1 l2) p.fst p.snd) fun q =>
  k .normal
  (mkS [0, 3, 8, 9]
  [.v (.gp m0 0) false, .v q.fst false, .v (.at (.int .i64 n3)) false,
  .v (.at (.int .i64 (IntKind.i64.wrap (n4 + (1 : Int))))) false]
  [none, none, none, none] (.sg q.snd))
  else none
  else none
  else none)
  fun v x => some (.pan v sg5)
  else k (.exit 0) (mkS [3] [.v (.sl b1 1 l2) true] [none] (.sg sg5)) := by kernel_rfl
theorem law09_texts.r0_2 (m0 : Nat) (a1 : AVal) (n2 : Int) (n3 : Int) (sg4 : Sg) (k : Ex → St → R) :
  law09_texts.R0 C N
  (mkS [0, 3, 8, 9]
  [.v (.gp m0 0) false, .v a1 false, .v (.at (.int .i64 n2)) false, .v (.at (.int .i64 n3)) false] [none, none, none, none] (.sg sg4))
  k =
  if decide (n3 < n2) = true then
  withOut (bif Nat.blt 31 1000000 then C (31 : FuncId) [.gp m0 0, .at (.int .i64 n3)] sg4 else none)
  (fun v x =>
  withT v fun vs =>
  bif vs.length.beq 2 then
  withS vs[0]? fun s =>
  withI .i64 vs[1]? fun n =>
  bif true && Nat.blt 0 1 then
  withO (flatG (sg4 ++ [Box.mk [.at (.string s)]]) 1 (AVal.gs (List.length sg4) 1 0 1)) fun p =>
  bif p.fst.beq 0 then
  withO (app0 1 a1) fun r =>
  k .normal
  (mkS [0, 3, 8, 9]
  [.v (.gp m0 0) false, .v r false, .v (.at (.int .i64 n2)) false,
  .v (.at (.int .i64 (IntKind.i64.wrap (n3 + (1 : Int))))) false]
  [none, none, none, none] (.sg (sg4 ++ [Box.mk [.at (.string s)]])))
  else
  if p.fst * 16 ≤ 35184372088832 then
  withO (app1 none 1 16 (sg4 ++ [Box.mk [.at (.string s)]]) a1 p.fst p.snd) fun q =>
  k .normal
  (mkS [0, 3, 8, 9]
  [.v (.gp m0 0) false, .v q.fst false, .v (.at (.int .i64 n2)) false,
  .v (.at (.int .i64 (IntKind.i64.wrap (n3 + (1 : Int))))) false]
  [none, none, none, none] (.sg q.snd))
  else none
  else none
  else none)
  fun v x => some (.pan v sg4)
  else k (.exit 0) (mkS [3] [.v a1 false] [none] (.sg sg4)) := by kernel_rfl
end Go.Abs
