/- THE RESIDUALS: what each function's evaluation comes to, by the kernel. Printed by a program of my own. -/
import Derived.Test.YtimoaolannkpcaaGreatCodeP
import Derived.Test.YtimoaolannkpcaaGreatEngC
import Derived.KernelRfl
set_option linter.unusedVariables false
set_option linter.unusedSimpArgs false
set_option linter.unusedSectionVars false
namespace Go.Abs
set_option maxRecDepth 100000
set_option linter.unusedVariables false
theorem journal_Check.main (C : CallF) (N : Nat) (a0 : AVal) (sg1 : Sg) :
 evalF C N journal_Check.a [a0] sg1 =
 withO (lenV a0) (fun n_0 =>
 iter (journal_Check.R0 C N) N (mkS [0, 3, 7, 8, 9] [.v a0 false, .v (.gm (List.length sg1)) false, .v a0 false, .v (vI (↑n_0 : Int)) false, .v (vI 0) false] [none, none, none, none, none] (.sg (sg1 ++ [Box.map []]))) (journal_Check.K0 C N)) := by kernel_rfl
theorem journal_Check.r0 (C : CallF) (N : Nat) (a0 : AVal) (b1 : Bool) (a2 : AVal) (b3 : Bool) (a4 : AVal) (b5 : Bool) (n6 : Int) (n7 : Int) (sg8 : Sg) (k : Ex → St → R) :
 journal_Check.R0 C N (mkS [0, 3, 7, 8, 9] [.v a0 b1, .v a2 b3, .v a4 b5, .v (vI n6) false, .v (vI n7) false] [none, none, none, none, none] (.sg sg8)) k =
 if ((decide (n7 < n6)) = true) then
 withO (elemV 2 n7 a4) (fun r_0 =>
 withO (loadC none sg8 r_0) (fun p_1 =>
 bif Nat.ble (p_1.2 + 2) (List.length p_1.1) then
 bindL (List.take 2 (List.drop p_1.2 p_1.1)) (fun l_2 =>
 bif Nat.beq (List.length (AVal.cells (AVal.agg l_2))) 2 then
 bindL (splice [vI 0, vS (ByteArray.mk (List.toArray []))] 0 (AVal.cells (AVal.agg l_2))) (fun c_3 =>
 withI .i64 c_3[0]? (fun n_4 =>
 withOut (bif Nat.blt 246 1000000 then
 C 246 [vI n_4] []
 else
 none) (fun v_5 x_6 =>
 withB (some v_5) (fun b_7 =>
 if ((!b_7) = false) then
 withS c_3[1]? (fun s_8 =>
 if (((↑(ByteArray.size s_8) : Int) != 480) = false) then
 withI .i64 c_3[0]? (fun n_9 =>
 withA (plainA a2) (fun m_10 =>
 withO (mapV sg8 m_10) (fun p_11 =>
 withO (mGet (vI n_9) p_11.2) (fun r_12 =>
 withB (some (getOr [vB false] false r_12)) (fun b_13 =>
 if (b_13 = true) then
 k .ret (mkS [2] [.v (vI 18) false] [none] (.sg sg8))
 else
 withI .i64 c_3[0]? (fun n_14 =>
 withA (plainA a2) (fun m_15 =>
 withO (mapV sg8 m_15) (fun p_16 =>
 withO (mSet (vI n_14) (vB true) p_16.2) (fun e_17 =>
 k .normal (mkS [0, 3, 7, 8, 9] [.v a0 b1, .v a2 b3, .v a4 b5, .v (vI n6) false, .v (vI (IntKind.i64.wrap (n7 + 1))) false] [none, none, none, none, none] (.sg (List.set sg8 p_16.1 (Box.map e_17)))))))))))))
 else
 k .ret (mkS [2] [.v (vI 18) false] [none] (.sg sg8)))
 else
 k .ret (mkS [2] [.v (vI 18) false] [none] (.sg sg8)))) (fun x_5 x_6 =>
 none)))
 else
 none)
 else
 none))
 else
 k (.exit 0) (mkS [0] [.v a0 b1] [none] (.sg sg8)) := by kernel_rfl
theorem journal_Check.k0_2 (C : CallF) (N : Nat) (a0 : AVal) (b1 : Bool) (sg2 : Sg) :
 journal_Check.K0 C N (.exit 0) (mkS [0] [.v a0 b1] [none] (.sg sg2)) =
 withO (lenV a0) (fun n_0 =>
 if (((↑n_0 : Int) == 0) = true) then
 some (.ret (vI 18) sg2)
 else
 some (.ret (vI 0) sg2)) := by kernel_rfl
theorem disk_Disk_Len.main (C : CallF) (N : Nat) (m0 : Nat) (sg1 : Sg) :
 evalF C N disk_Disk_Len.a [.gp m0 0] sg1 =
 if (false ^^ false) = true then some (.ret (vI (0 : Int)) sg1)
 else
 withO (loadC none sg1 (.gp m0 0)) fun p =>
 withA p.1[p.2]? fun r => withO (lenV r) fun n => some (.ret (vI (↑n : Int)) sg1) := by kernel_rfl
theorem disk_Disk_Write.main (C : CallF) (N : Nat) (m0 : Nat) (n1 : Int) (s2 : ByteArray) (sg3 : Sg) :
 evalF C N disk_Disk_Write.a [.gp m0 0, vI n1, vS s2] sg3 =
 withOut (bif Nat.blt 234 1000000 then C (234 : FuncId) [.gp m0 0, vI n1] sg3 else none)
 (fun v x =>
 withB (some v) fun b =>
 if (!b) = false then
 if ((↑s2.size : Int) != (512 : Int)) = true then some (.ret (vI (18 : Int)) sg3)
 else
 withOut (bif Nat.blt 235 1000000 then C (235 : FuncId) [.gp m0 0] sg3 else none)
 (fun v sg' =>
 withI .i64 (some v) fun n =>
 if (n == (0 : Int)) = true then
 withO (loadC none sg' (.gp m0 1)) fun p =>
 withA p.1[p.2]? fun r =>
 bif true && Nat.blt 0 2 then
 withO (flatG (sg' ++ [Box.mk [vI n1, vS s2]]) 2 (AVal.gs (List.length sg') 2 0 1))
 fun p =>
 bif p.1.beq 0 then
 withO (app0 2 r) fun r =>
 withA (plainA r) fun v =>
 withO (storeG none (sg' ++ [Box.mk [vI n1, vS s2]]) (.gp m0 1) 1 v) fun sg =>
 some (.ret (vI n) sg)
 else
 if p.1 * 24 ≤ 35184372088832 then
 withO (app1 none 2 24 (sg' ++ [Box.mk [vI n1, vS s2]]) r p.1 p.2) fun q =>
 withA (plainA q.1) fun v =>
 withO (storeG none q.2 (.gp m0 1) 1 v) fun sg => some (.ret (vI n) sg)
 else none
 else none
 else some (.ret (vI n) sg'))
 fun v sg' => some (.pan v sg')
 else some (.ret (vI (18 : Int)) sg3))
 fun v x => some (.pan v sg3) := by kernel_rfl
theorem sector_Blank.main (C : CallF) (N : Nat) (sg0 : Sg) :
 evalF C N sector_Blank.a [] sg0 =
 withOut (bif Nat.blt 126 1000000 then C (126 : FuncId) [ofConst (Value.string (ByteArray.mk (#[]))), ofConst (Value.int IntKind.i64 (512 : Int))] [] else none)
 (fun v x => withS (some v) fun s => some (.ret (vS s) sg0)) fun x x_1 => none := by kernel_rfl
theorem disk_Disk_Flush.main (C : CallF) (N : Nat) (m0 : Nat) (sg1 : Sg) :
 evalF C N disk_Disk_Flush.a [.gp m0 0] sg1 =
 if (false ^^ false) = true then some (.ret (vI (18 : Int)) sg1)
 else
 withOut (bif Nat.blt 235 1000000 then C (235 : FuncId) [.gp m0 0] sg1 else none)
 (fun v sg' =>
 withI .i64 (some v) fun n =>
 if (n == (0 : Int)) = true then
 withOut (bif Nat.blt 150 1000000 then C (150 : FuncId) [.gp m0 0, AVal.clo (236 : FuncId) [] []] sg' else none)
 (fun v sg' => withI .i64 (some v) fun n_1 => some (.ret (vI n) sg')) fun v sg' => some (.pan v sg')
 else some (.ret (vI n) sg'))
 fun v sg' => some (.pan v sg') := by kernel_rfl
theorem disk_Disk_Down.main (C : CallF) (N : Nat) (m0 : Nat) (sg1 : Sg) :
 evalF C N disk_Disk_Down.a [.gp m0 0] sg1 =
 if (false ^^ false) = false then withO (loadC none sg1 (.gp m0 3)) fun p => withB p.1[p.2]? fun b => some (.ret (vB b) sg1)
 else some (.ret (vB true) sg1) := by kernel_rfl
theorem disk_Disk_settle.main (C : CallF) (N : Nat) (m0 : Nat) (a1 : FuncId) (l2 : List AVal) (l3 : List AVal) (sg4 : Sg) :
 evalF C N disk_Disk_settle.a [.gp m0 0, AVal.clo a1 l2 l3] sg4 =
 withO (loadC none sg4 (.gp m0 1)) fun p =>
 withA p.1[p.2]? fun r =>
 withO (lenV r) fun n =>
 iter (disk_Disk_settle.R0 C N) N
 (mkS [0, 1, 5, 11, 12, 13]
 [.v (.gp m0 0) false, .v (.clo a1 l2 l3) false, .v (vI (0 : Int)) false, .v r false,
 .v (vI (↑n : Int)) false, .v (vI (0 : Int)) false]
 [none, none, none, none, none, none] (.sg sg4))
 (disk_Disk_settle.K0 C N) := by kernel_rfl
theorem disk_Disk_settle.r0 (C : CallF) (N : Nat) (m0 : Nat) (a1 : FuncId) (l2 : List AVal) (l3 : List AVal) (n4 : Int) (a5 : AVal) (n6 : Int) (n7 : Int) (sg8 : Sg) (k : Ex → St → R) :
 disk_Disk_settle.R0 C N
 (mkS [0, 1, 5, 11, 12, 13]
 [.v (.gp m0 0) false, .v (.clo a1 l2 l3) false, .v (vI n4) false, .v a5 false, .v (vI n6) false,
 .v (vI n7) false]
 [none, none, none, none, none, none] (.sg sg8))
 k =
 if decide (n7 < n6) = true then
 withO (elemV 2 n7 a5) fun r =>
 withO (loadC none sg8 r) fun p =>
 bif (p.2 + 2).ble p.1.length then
 bindL (List.take 2 (List.drop p.2 p.1)) fun l =>
 bif (AVal.agg l).cells.length.beq 2 then
 bindL (splice [vI (0 : Int), vS (ByteArray.mk (#[]))] 0 (AVal.agg l).cells) fun cs =>
 withOut (bif Nat.blt a1 1000000 then C a1 (l2 ++ ([vI n7] ++ l3)) sg8 else none)
 (fun v sg' =>
 withB (some v) fun b =>
 if b = true then
 withO (loadC none sg' (.gp m0 0)) fun p =>
 withA p.1[p.2]? fun r =>
 withI .i64 cs[0]? fun n =>
 withS cs[1]? fun s =>
 withO (elemV 1 n r) fun r =>
 withO (storeG none sg' r 1 (vS s)) fun sg =>
 k .normal
 (mkS [0, 1, 5, 11, 12, 13]
 [.v (.gp m0 0) false, .v (.clo a1 l2 l3) false, .v (vI (IntKind.i64.wrap (n4 + (1 : Int)))) false,
 .v a5 false, .v (vI n6) false, .v (vI (IntKind.i64.wrap (n7 + (1 : Int)))) false]
 [none, none, none, none, none, none] (.sg sg))
 else
 k .normal
 (mkS [0, 1, 5, 11, 12, 13]
 [.v (.gp m0 0) false, .v (.clo a1 l2 l3) false, .v (vI n4) false, .v a5 false,
 .v (vI n6) false, .v (vI (IntKind.i64.wrap (n7 + (1 : Int)))) false]
 [none, none, none, none, none, none] (.sg sg')))
 fun v sg' => some (.pan v sg')
 else none
 else none
 else k (.exit 0) (mkS [0, 5] [.v (.gp m0 0) false, .v (vI n4) false] [none, none] (.sg sg8)) := by kernel_rfl
theorem disk_Disk_settle.k0_1 (C : CallF) (N : Nat) (m0 : Nat) (n1 : Int) (sg2 : Sg) :
 disk_Disk_settle.K0 C N (.exit 0) (mkS [0, 5] [.v (.gp m0 0) false, .v (vI n1) false] [none, none] (.sg sg2)) =
 withO (storeG none sg2 (.gp m0 1) 1 (.sl true 0 [])) fun sg => some (.ret (vI n1) sg) := by kernel_rfl
theorem disk_Disk_has.main (C : CallF) (N : Nat) (m0 : Nat) (n1 : Int) (sg2 : Sg) :
 evalF C N disk_Disk_has.a [.gp m0 0, vI n1] sg2 =
 if decide (n1 ≥ (0 : Int)) = true then
 withOut (bif Nat.blt 129 1000000 then C (129 : FuncId) [.gp m0 0] sg2 else none)
 (fun v x => withI .i64 (some v) fun n => some (.ret (vB (decide (n1 < n))) sg2)) fun v x => some (.pan v sg2)
 else some (.ret (vB false) sg2) := by kernel_rfl
theorem disk_Disk_step.main (C : CallF) (N : Nat) (m0 : Nat) (sg1 : Sg) :
 evalF C N disk_Disk_step.a [.gp m0 0] sg1 =
 withO (loadC none sg1 (.gp m0 3)) fun p =>
 withB p.1[p.2]? fun b =>
 if b = false then
 withO (loadC none sg1 (.gp m0 2)) fun p =>
 withI .i64 p.1[p.2]? fun n =>
 if (n == (1 : Int)) = true then
 withO (storeG none sg1 (.gp m0 3) 1 (vB true)) fun sg =>
 withO (storeG none sg (.gp m0 2) 1 (vI (0 : Int))) fun sg => some (.ret (vI (17 : Int)) sg)
 else
 withO (loadC none sg1 (.gp m0 2)) fun p =>
 withI .i64 p.1[p.2]? fun n =>
 withO
 (storeG none sg1 (.gp m0 2) 1
 (vI (bif true then max2 (IntKind.i64.wrap (n - (1 : Int))) (0 : Int) else min2 (IntKind.i64.wrap (n - (1 : Int))) (0 : Int))))
 fun sg =>
 withO (loadC none sg (.gp m0 4)) fun p =>
 withI .i64 p.1[p.2]? fun n =>
 withO (storeG none sg (.gp m0 4) 1 (vI (IntKind.i64.wrap (n + (1 : Int))))) fun sg =>
 some (.ret (vI (0 : Int)) sg)
 else
 withO (storeG none sg1 (.gp m0 3) 1 (vB true)) fun sg =>
 withO (storeG none sg (.gp m0 2) 1 (vI (0 : Int))) fun sg => some (.ret (vI (17 : Int)) sg) := by kernel_rfl
theorem disk_Disk_Flush_1.main (C : CallF) (N : Nat) (n0 : Int) (sg1 : Sg) :
 evalF C N disk_Disk_Flush_1.a [vI n0] sg1 =
 some (.ret (vB true) sg1) := by kernel_rfl
theorem disk_New.main (C : CallF) (N : Nat) (n0 : Int) (sg1 : Sg) :
 evalF C N disk_New.a [vI n0] sg1 =
 if decide (n0 < (1 : Int)) = false then
 if decide (n0 > (4865 : Int)) = true then some (.ret (.tup [AVal.at (Value.pointer none), vI (18 : Int)]) sg1)
 else
 withOut (bif Nat.blt 131 1000000 then C (131 : FuncId) [] [] else none)
 (fun v x =>
 withS (some v) fun s =>
 bif true && Nat.blt 0 1 then
 withOut
 (bif Nat.blt 149 1000000 then
 C (149 : FuncId) [AVal.gs (List.length sg1) 1 0 1, vI n0] (sg1 ++ [Box.mk [vS s]])
 else none)
 (fun v sg' =>
 withA (plainA v) fun a =>
 bif a.cells.length.beq 1 then
 bindL
 (a.cells ++
 List.drop (0 + a.cells.length)
 [.sl true 1 [], .sl true 2 [], vI (0 : Int), vB false, vI (0 : Int)])
 fun cs => some (.ret (.tup [.gp (List.length sg') 0, vI (0 : Int)]) (sg' ++ [Box.mk (AVal.agg cs).cells]))
 else none)
 fun v sg' => some (.pan v sg')
 else none)
 fun x x_1 => none
 else some (.ret (.tup [AVal.at (Value.pointer none), vI (18 : Int)]) sg1) := by kernel_rfl
theorem octets_Num.main (C : CallF) (N : Nat) (n0 : Int) (n1 : Int) (sg2 : Sg) :
 evalF C N octets_Num.a [vI n0, vU n1] sg2 =
 withOut (bif Nat.blt 277 1000000 then C (277 : FuncId) [vI n0] [] else none)
 (fun v x =>
 withB (some v) fun b =>
 if (!b) = true then some (.ret (vS (ByteArray.mk (#[]))) sg2)
 else
 iter (octets_Num.R0 C N) N
 (mkS [0, 1, 5, 10, 11]
 [.v (vI n0) false, .v (vU n1) false, .v (.gp (List.length sg2) 0) false,
 .v (vI n0) false, .v (vI (0 : Int)) false]
 [none, none, none, none, none]
 (RVal.sg
 (sg2 ++
 [Box.mk
 [v8 (0 : Int), v8 (0 : Int), v8 (0 : Int), v8 (0 : Int),
 v8 (0 : Int), v8 (0 : Int), v8 (0 : Int), v8 (0 : Int)]])))
 (octets_Num.K0 C N))
 fun x x_1 => none := by kernel_rfl
theorem octets_Num.r0 (C : CallF) (N : Nat) (n0 : Int) (n1 : Int) (m2 : Nat) (n3 : Int) (n4 : Int) (sg5 : Sg) (k : Ex → St → R) :
 octets_Num.R0 C N
 (mkS [0, 1, 5, 10, 11]
 [.v (vI n0) false, .v (vU n1) false, .v (.gp m2 0) false, .v (vI n3) false,
 .v (vI n4) false]
 [none, none, none, none, none] (.sg sg5))
 k =
 if decide (n4 < n3) = true then
 if IntKind.i64.wrap ((8 : Int) * n4) < (0 : Int) then none
 else
 if (0 : Int) ≤ IntKind.i64.wrap (IntKind.i64.wrap (n0 - (1 : Int)) - n4) ∧ IntKind.i64.wrap (IntKind.i64.wrap (n0 - (1 : Int)) - n4) < (↑8 : Int) then
 withO
 (storeG none sg5 (.gp m2 (0 + (IntKind.i64.wrap (IntKind.i64.wrap (n0 - (1 : Int)) - n4)).toNat * 1)) 1
 (v8 (IntKind.u8.wrap (shiftI BinOp.shr IntKind.u64 n1 (IntKind.i64.wrap ((8 : Int) * n4))))))
 fun sg =>
 k .normal
 (mkS [0, 1, 5, 10, 11]
 [.v (vI n0) false, .v (vU n1) false, .v (.gp m2 0) false,
 .v (vI n3) false, .v (vI (IntKind.i64.wrap (n4 + (1 : Int)))) false]
 [none, none, none, none, none] (.sg sg))
 else none
 else k (.exit 0) (mkS [0, 5] [.v (vI n0) false, .v (.gp m2 0) false] [none, none] (.sg sg5)) := by kernel_rfl
theorem octets_Num.k0_1 (C : CallF) (N : Nat) (n0 : Int) (m1 : Nat) (sg2 : Sg) :
 octets_Num.K0 C N (.exit 0) (mkS [0, 5] [.v (vI n0) false, .v (.gp m1 0) false] [none, none] (.sg sg2)) =
 if (0 : Int) ≤ (0 : Int) ∧ (0 : Int) ≤ n0 ∧ n0 ≤ (↑8 : Int) then
 withO sg2[m1]? fun (B : Box) =>
 bif Nat.blt 0 B.cells.length && Nat.ble 8 B.cells.length then
 withO (flatG sg2 1 (AVal.gs m1 1 (bif Nat.beq 8 (Int.toNat (0 : Int)) then 0 else 0 + Int.toNat (0 : Int) * 1) (n0.toNat - Int.toNat (0 : Int))))
 fun p => withO (bytesOf p.2) fun bs => some (.ret (vS (ByteArray.mk (bs.toArray))) sg2)
 else none
 else none := by kernel_rfl
theorem octets_width.main (C : CallF) (N : Nat) (n0 : Int) (sg1 : Sg) :
 evalF C N octets_width.a [vI n0] sg1 =
 if decide (n0 ≥ (1 : Int)) = true then some (.ret (vB (decide (n0 ≤ (8 : Int)))) sg1) else some (.ret (vB false) sg1) := by kernel_rfl
theorem sector_Seal.main (C : CallF) (N : Nat) (n0 : Int) (n1 : Int) (n2 : Int) (n3 : Int) (n4 : Int) (s5 : ByteArray) (sg6 : Sg) :
 evalF C N sector_Seal.a
 [AVal.agg
 [vI n0, vU n1, vU n2, vI n3, vI n4,
 vS s5]]
 sg6 =
 withOut
 (bif Nat.blt 332 1000000 then
 C (332 : FuncId)
 [AVal.agg
 [vI n0, vU n1, vU n2, vI n3, vI n4,
 vS s5]]
 []
 else none)
 (fun v x =>
 withI .i64 (some v) fun n =>
 if (n != (0 : Int)) = true then some (.ret (.tup [vS (ByteArray.mk (#[])), vI n]) sg6)
 else
 withI .i64
 [vI n0, vU n1, vU n2, vI n3, vI n4,
 vS s5][0]?
 fun n =>
 withOut (bif Nat.blt 194 1000000 then C (194 : FuncId) [ofConst (Value.int IntKind.i64 (1 : Int)), vU (IntKind.u64.wrap n)] [] else none)
 (fun v x =>
 withS (some v) fun s =>
 withOut (bif Nat.blt 194 1000000 then C (194 : FuncId) [ofConst (Value.int IntKind.i64 (1 : Int)), ofConst (Value.int IntKind.u64 (0 : Int))] [] else none)
 (fun v x =>
 withS (some v) fun s_1 =>
 if (↑(s.size + s_1.size) : Int) > IntKind.i64.max then none
 else
 withI .i64
 [vI n0, vU n1, vU n2, vI n3,
 vI n4, vS s5][3]?
 fun n =>
 withOut
 (bif Nat.blt 194 1000000 then C (194 : FuncId) [ofConst (Value.int IntKind.i64 (2 : Int)), vU (IntKind.u64.wrap n)] []
 else none)
 (fun v x =>
 withS (some v) fun s_2 =>
 if (↑((catS s s_1).size + s_2.size) : Int) > IntKind.i64.max then none
 else
 withI .i64
 [vI n0, vU n1, vU n2, vI n3,
 vI n4, vS s5][4]?
 fun n =>
 withOut
 (bif Nat.blt 194 1000000 then
 C (194 : FuncId) [ofConst (Value.int IntKind.i64 (2 : Int)), vU (IntKind.u64.wrap n)] []
 else none)
 (fun v x =>
 withS (some v) fun s_3 =>
 if (↑((catS (catS s s_1) s_2).size + s_3.size) : Int) > IntKind.i64.max then none
 else
 withOut
 (bif Nat.blt 194 1000000 then C (194 : FuncId) [ofConst (Value.int IntKind.i64 (2 : Int)), ofConst (Value.int IntKind.u64 (0 : Int))] []
 else none)
 (fun v x =>
 withS (some v) fun s_4 =>
 if (↑((catS (catS (catS s s_1) s_2) s_3).size + s_4.size) : Int) > IntKind.i64.max then none
 else
 withI .u64
 [vI n0, vU n1, vU n2, vI n3,
 vI n4, vS s5][1]?
 fun n =>
 withOut
 (bif Nat.blt 194 1000000 then C (194 : FuncId) [ofConst (Value.int IntKind.i64 (8 : Int)), vU n] []
 else none)
 (fun v x =>
 withS (some v) fun s_5 =>
 if (↑((catS (catS (catS (catS s s_1) s_2) s_3) s_4).size + s_5.size) : Int) > IntKind.i64.max then none
 else
 withI .u64
 [vI n0, vU n1, vU n2,
 vI n3, vI n4, vS s5][2]?
 fun n =>
 withOut
 (bif Nat.blt 194 1000000 then
 C (194 : FuncId) [ofConst (Value.int IntKind.i64 (8 : Int)), vU n] []
 else none)
 (fun v x =>
 withS (some v) fun s_6 =>
 if (↑((catS (catS (catS (catS (catS s s_1) s_2) s_3) s_4) s_5).size + s_6.size) : Int) > IntKind.i64.max then none
 else
 withOut
 (bif Nat.blt 194 1000000 then
 C (194 : FuncId) [ofConst (Value.int IntKind.i64 (4 : Int)), ofConst (Value.int IntKind.u64 (0 : Int))] []
 else none)
 (fun v x =>
 withS (some v) fun s_7 =>
 if (↑((catS (catS (catS (catS (catS (catS s s_1) s_2) s_3) s_4) s_5) s_6).size + s_7.size) : Int) > IntKind.i64.max then
 none
 else
 withOut
 (bif Nat.blt 381 1000000 then
 C (381 : FuncId)
 [vS (catS (catS (catS (catS (catS (catS (catS s s_1) s_2) s_3) s_4) s_5) s_6) s_7)] []
 else none)
 (fun v x =>
 withI IntKind.u32 (some v) fun n =>
 withS
 [vI n0, vU n1, vU n2,
 vI n3, vI n4,
 vS s5][5]?
 fun s_8 =>
 withOut
 (bif Nat.blt 380 1000000 then
 C (380 : FuncId) [v32 n, vS s_8] []
 else none)
 (fun v x =>
 withI IntKind.u32 (some v) fun n =>
 withOut
 (bif Nat.blt 194 1000000 then
 C (194 : FuncId)
 [ofConst (Value.int IntKind.i64 (4 : Int)), vU (IntKind.u64.wrap n)] []
 else none)
 (fun v x =>
 withS (some v) fun s_9 =>
 if
 (↑((catS (catS (catS (catS (catS (catS (catS s s_1) s_2) s_3) s_4) s_5) s_6) s_7).size +
 s_9.size) :
 Int) >
 IntKind.i64.max then
 none
 else
 withS
 [vI n0, vU n1,
 vU n2, vI n3,
 vI n4, vS s5][5]?
 fun s_10 =>
 if
 (↑((catS (catS (catS (catS (catS (catS (catS (catS s s_1) s_2) s_3) s_4) s_5) s_6) s_7)
 s_9).size +
 s_10.size) :
 Int) >
 IntKind.i64.max then
 none
 else
 some
 (Out.ret
 (AVal.tup
 [AVal.at
 (Value.string
 (catS
 (catS
 (catS (catS (catS (catS (catS (catS (catS s s_1) s_2) s_3) s_4) s_5) s_6) s_7)
 s_9)
 s_10)),
 vI (0 : Int)])
 sg6))
 fun x x_1 => none)
 fun x x_1 => none)
 fun x x_1 => none)
 fun x x_1 => none)
 fun x x_1 => none)
 fun x x_1 => none)
 fun x x_1 => none)
 fun x x_1 => none)
 fun x x_1 => none)
 fun x x_1 => none)
 fun x x_1 => none)
 fun x x_1 => none := by kernel_rfl
theorem sector_Check.main (C : CallF) (N : Nat) (n0 : Int) (n1 : Int) (n2 : Int) (n3 : Int) (n4 : Int) (s5 : ByteArray) (sg6 : Sg) :
 evalF C N sector_Check.a
 [AVal.agg
 [vI n0, vU n1, vU n2, vI n3, vI n4,
 vS s5]]
 sg6 =
 withI .i64
 [vI n0, vU n1, vU n2, vI n3, vI n4,
 vS s5][0]?
 fun n =>
 if decide (n ≤ (0 : Int)) = false then
 withI .i64
 [vI n0, vU n1, vU n2, vI n3, vI n4,
 vS s5][0]?
 fun n =>
 if decide (n ≥ (5 : Int)) = false then
 withI .i64
 [vI n0, vU n1, vU n2, vI n3, vI n4,
 vS s5][3]?
 fun n =>
 withOut (bif Nat.blt 383 1000000 then C (383 : FuncId) [vI n] [] else none)
 (fun v x =>
 withB (some v) fun b =>
 if (!b) = false then
 withI .i64
 [vI n0, vU n1, vU n2, vI n3, vI n4,
 vS s5][4]?
 fun n =>
 withOut (bif Nat.blt 383 1000000 then C (383 : FuncId) [vI n] [] else none)
 (fun v x =>
 withB (some v) fun b =>
 if (!b) = false then
 withS
 [vI n0, vU n1, vU n2, vI n3,
 vI n4, vS s5][5]?
 fun s =>
 if ((↑s.size : Int) != (480 : Int)) = true then some (.ret (vI (18 : Int)) sg6)
 else some (.ret (vI (0 : Int)) sg6)
 else some (.ret (vI (18 : Int)) sg6))
 fun x x_1 => none
 else some (.ret (vI (18 : Int)) sg6))
 fun x x_1 => none
 else some (.ret (vI (18 : Int)) sg6)
 else some (.ret (vI (18 : Int)) sg6) := by kernel_rfl
theorem sector_short.main (C : CallF) (N : Nat) (n0 : Int) (sg1 : Sg) :
 evalF C N sector_short.a [vI n0] sg1 =
 if decide (n0 ≥ (0 : Int)) = true then some (.ret (vB (decide (n0 ≤ (65535 : Int)))) sg1) else some (.ret (vB false) sg1) := by kernel_rfl
theorem crc_Sum.main (C : CallF) (N : Nat) (s0 : ByteArray) (sg1 : Sg) :
 evalF C N crc_Sum.a [vS s0] sg1 =
 withOut (bif Nat.blt 380 1000000 then C (380 : FuncId) [ofConst (Value.int IntKind.u32 (0 : Int)), vS s0] [] else none)
 (fun v x => withI IntKind.u32 (some v) fun n => some (.ret (v32 n) sg1)) fun x x_1 => none := by kernel_rfl
theorem octets_Pad.main (C : CallF) (N : Nat) (s0 : ByteArray) (n1 : Int) (sg2 : Sg) :
 evalF C N octets_Pad.a [vS s0, vI n1] sg2 =
 if decide (n1 > (65536 : Int)) = false then
 if decide (n1 ≤ (↑s0.size : Int)) = true then some (.ret (vS s0) sg2)
 else
 withOut
 (bif Nat.blt 230 1000000 then C (230 : FuncId) [ofConst (Value.string (ByteArray.mk (#[(0 : UInt8)]))), vI (IntKind.i64.wrap (n1 - (↑s0.size : Int)))] []
 else none)
 (fun v x => withS (some v) fun s => if (↑(s0.size + s.size) : Int) > IntKind.i64.max then none else some (.ret (vS (catS s0 s)) sg2))
 fun x x_1 => none
 else some (.ret (vS s0) sg2) := by kernel_rfl
theorem sector_Home.main (C : CallF) (N : Nat) (n0 : Int) (s1 : ByteArray) (sg2 : Sg) :
 evalF C N sector_Home.a [vI n0, vS s1] sg2 =
 withOut
 (bif Nat.blt 332 1000000 then
 C (332 : FuncId)
 [AVal.agg
 [vI (4 : Int), vU (0 : Int), vU (0 : Int), vI n0,
 vI (0 : Int), vS s1]]
 []
 else none)
 (fun v x =>
 withI .i64 (some v) fun n =>
 if (n == (0 : Int)) = true then
 withOut (bif Nat.blt 333 1000000 then C (333 : FuncId) [vS s1] [] else none)
 (fun v x =>
 withB (some v) fun b =>
 if b = true then
 withOut (bif Nat.blt 131 1000000 then C (131 : FuncId) [] [] else none)
 (fun v x => withS (some v) fun s => some (.ret (.tup [vS s, vI (0 : Int)]) sg2))
 fun x x_1 => none
 else
 withOut
 (bif Nat.blt 328 1000000 then
 C (328 : FuncId)
 [AVal.agg
 [vI (4 : Int), vU (0 : Int), vU (0 : Int), vI n0,
 vI (0 : Int), vS s1]]
 []
 else none)
 (fun v x =>
 withT v fun vs =>
 bif vs.length.beq 2 then
 withS vs[0]? fun s =>
 withI .i64 vs[1]? fun n => some (.ret (.tup [vS s, vI n]) sg2)
 else none)
 fun x x_1 => none)
 fun x x_1 => none
 else
 withOut
 (bif Nat.blt 328 1000000 then
 C (328 : FuncId)
 [AVal.agg
 [vI (4 : Int), vU (0 : Int), vU (0 : Int), vI n0,
 vI (0 : Int), vS s1]]
 []
 else none)
 (fun v x =>
 withT v fun vs =>
 bif vs.length.beq 2 then
 withS vs[0]? fun s =>
 withI .i64 vs[1]? fun n => some (.ret (.tup [vS s, vI n]) sg2)
 else none)
 fun x x_1 => none)
 fun x x_1 => none := by kernel_rfl
theorem octets_Noughts.main (C : CallF) (N : Nat) (s0 : ByteArray) (sg1 : Sg) :
 evalF C N octets_Noughts.a [vS s0] sg1 =
 withOut (bif Nat.blt 384 1000000 then C (384 : FuncId) [vS s0, ofConst (Value.string (ByteArray.mk (#[(0 : UInt8)])))] [] else none)
 (fun v x => withI .i64 (some v) fun n => some (.ret (vB (n == (↑s0.size : Int))) sg1)) fun x x_1 => none := by kernel_rfl
theorem journal_Journal_write.main (C : CallF) (N : Nat) (m0 : Nat) (n1 : Int) (n2 : Int) (n3 : Int) (n4 : Int) (n5 : Int) (n6 : Int) (s7 : ByteArray) (sg8 : Sg) :
 evalF C N journal_Journal_write.a
 [.gp m0 0, vI n1,
 AVal.agg
 [vI n2, vU n3, vU n4, vI n5, vI n6,
 vS s7]]
 sg8 =
 withO (loadC none sg8 (.gp m0 2)) fun p =>
 withI .u64 p.1[p.2]? fun n =>
 withO (loadC none sg8 (.gp m0 4)) fun p =>
 withI .u64 p.1[p.2]? fun n_1 =>
 withOut
 (bif Nat.blt 328 1000000 then
 C (328 : FuncId)
 [AVal.agg
 [vI n2, vU n, vU (IntKind.u64.wrap (n_1 + (1 : Int))), vI n5,
 vI n6, vS s7]]
 []
 else none)
 (fun v x =>
 withT v fun vs =>
 bif vs.length.beq 2 then
 withS vs[0]? fun s =>
 withI .i64 vs[1]? fun n =>
 if (n != (0 : Int)) = true then some (.ret (vI n) sg8)
 else
 withO (loadC none sg8 (.gp m0 0)) fun p =>
 withA p.1[p.2]? fun r =>
 withO (loadC none sg8 (.gp m0 3)) fun p =>
 withI .i64 p.1[p.2]? fun n =>
 withA (plainA r) fun a =>
 withOut
 (bif Nat.blt 130 1000000 then
 C (130 : FuncId) [a, vI (IntKind.i64.wrap (IntKind.i64.wrap ((1 : Int) + n) + n1)), vS s] sg8
 else none)
 (fun v sg' => withI .i64 (some v) fun n => some (.ret (vI n) sg')) fun v sg' => none
 else none)
 fun x x_1 => none := by kernel_rfl
theorem journal_Journal_Room.main (C : CallF) (N : Nat) (m0 : Nat) (sg1 : Sg) :
 evalF C N journal_Journal_Room.a [.gp m0 0] sg1 =
 if (false ^^ false) = true then some (.ret (vI (0 : Int)) sg1)
 else
 withO (loadC none sg1 (.gp m0 1)) fun p =>
 withI .i64 p.1[p.2]? fun n =>
 withO (loadC none sg1 (.gp m0 3)) fun p =>
 withI .i64 p.1[p.2]? fun n_1 => some (.ret (vI (IntKind.i64.wrap (n - n_1))) sg1) := by kernel_rfl
theorem journal_Journal_Epoch.main (C : CallF) (N : Nat) (m0 : Nat) (sg1 : Sg) :
 evalF C N journal_Journal_Epoch.a [.gp m0 0] sg1 =
 if (false ^^ false) = true then some (.ret (vU (0 : Int)) sg1)
 else withO (loadC none sg1 (.gp m0 2)) fun p => withI .u64 p.1[p.2]? fun n => some (.ret (vU n) sg1) := by kernel_rfl
theorem journal_Open.main (C : CallF) (N : Nat) (m0 : Nat) (n1 : Int) (n2 : Int) (sg3 : Sg) :
 evalF C N journal_Open.a [.gp m0 0, vI n1, vU n2] sg3 =
 if (false ^^ false) = false then
 if decide (n1 < (4 : Int)) = false then
 if decide (n1 > (1024 : Int)) = false then
 withOut (bif Nat.blt 129 1000000 then C (129 : FuncId) [.gp m0 0] sg3 else none)
 (fun v x =>
 withI .i64 (some v) fun n =>
 if decide (n ≤ n1) = true then some (.ret (.tup [AVal.at (Value.pointer none), vI (18 : Int)]) sg3)
 else
 some
 (Out.ret (AVal.tup [.gp (List.length sg3) 0, vI (0 : Int)])
 (sg3 ++
 [Box.mk
 [.gp m0 0, vI n1, vU n2, vI (0 : Int),
 vU (0 : Int)]])))
 fun v x => some (.pan v sg3)
 else some (.ret (.tup [AVal.at (Value.pointer none), vI (18 : Int)]) sg3)
 else some (.ret (.tup [AVal.at (Value.pointer none), vI (18 : Int)]) sg3)
 else some (.ret (.tup [AVal.at (Value.pointer none), vI (18 : Int)]) sg3) := by kernel_rfl
theorem journal_Journal_Append.main (C : CallF) (N : Nat) (m0 : Nat) (a1 : AVal) (sg2 : Sg) :
 evalF C N journal_Journal_Append.a [.gp m0 0, a1] sg2 =
 if (false ^^ false) = false then
 withA (plainA a1) fun a =>
 withOut (bif Nat.blt 139 1000000 then C (139 : FuncId) [a] sg2 else none)
 (fun v sg' =>
 withI .i64 (some v) fun n =>
 if (n != (0 : Int)) = true then some (.ret (vI (18 : Int)) sg')
 else
 withO (lenV a1) fun n =>
 withOut (bif Nat.blt 146 1000000 then C (146 : FuncId) [.gp m0 0] sg' else none)
 (fun v x =>
 withI .i64 (some v) fun n_1 =>
 if decide ((↑n : Int) ≥ n_1) = true then some (.ret (vI (14 : Int)) sg')
 else
 withO (lenV a1) fun n =>
 iter (journal_Journal_Append.R0 C N) N
 (mkS [0, 1, 24, 25, 26]
 [.v (.gp m0 0) false, .v a1 false, .v a1 false, .v (vI (↑n : Int)) false,
 .v (vI (0 : Int)) false]
 [none, none, none, none, none] (.sg sg'))
 (journal_Journal_Append.K0 C N))
 fun v x => some (.pan v sg'))
 fun v sg' => some (.pan v sg')
 else some (.ret (vI (18 : Int)) sg2) := by kernel_rfl
theorem journal_Journal_Append.r0 (C : CallF) (N : Nat) (m0 : Nat) (a1 : AVal) (a2 : AVal) (n3 : Int) (n4 : Int) (sg5 : Sg) (k : Ex → St → R) :
 journal_Journal_Append.R0 C N
 (mkS [0, 1, 24, 25, 26]
 [.v (.gp m0 0) false, .v a1 false, .v a2 false, .v (vI n3) false, .v (vI n4) false]
 [none, none, none, none, none] (.sg sg5))
 k =
 if decide (n4 < n3) = true then
 withO (elemV 2 n4 a2) fun r =>
 withO (loadC none sg5 r) fun p =>
 bif (p.2 + 2).ble p.1.length then
 bindL (List.take 2 (List.drop p.2 p.1)) fun l =>
 bif (AVal.agg l).cells.length.beq 2 then
 bindL (splice [vI (0 : Int), vS (ByteArray.mk (#[]))] 0 (AVal.agg l).cells) fun cs =>
 withI .i64 cs[0]? fun n =>
 withS cs[1]? fun s =>
 withOut
 (bif Nat.blt 249 1000000 then
 C (249 : FuncId)
 [.gp m0 0, vI n4,
 AVal.agg
 [vI (2 : Int), vU (0 : Int), vU (0 : Int), vI n,
 vI n4, vS s]]
 sg5
 else none)
 (fun v sg' =>
 withI .i64 (some v) fun n =>
 if (n != (0 : Int)) = true then k .ret (mkS [4] [.v (vI n) false] [none] (.sg sg'))
 else
 k .normal
 (mkS [0, 1, 24, 25, 26]
 [.v (.gp m0 0) false, .v a1 false, .v a2 false, .v (vI n3) false,
 .v (vI (IntKind.i64.wrap (n4 + (1 : Int)))) false]
 [none, none, none, none, none] (.sg sg')))
 fun v sg' => some (.pan v sg')
 else none
 else none
 else k (.exit 1) (mkS [0, 1] [.v (.gp m0 0) false, .v a1 false] [none, none] (.sg sg5)) := by kernel_rfl
theorem journal_Journal_Append.k0_2 (C : CallF) (N : Nat) (m0 : Nat) (a1 : AVal) (sg2 : Sg) :
 journal_Journal_Append.K0 C N (.exit 1) (mkS [0, 1] [.v (.gp m0 0) false, .v a1 false] [none, none] (.sg sg2)) =
 withO (lenV a1) fun n =>
 withOut (bif Nat.blt 126 1000000 then C (126 : FuncId) [ofConst (Value.string (ByteArray.mk (#[]))), ofConst (Value.int IntKind.i64 (480 : Int))] [] else none)
 (fun v x =>
 withS (some v) fun s =>
 withO (lenV a1) fun n_1 =>
 withOut
 (bif Nat.blt 249 1000000 then
 C (249 : FuncId)
 [.gp m0 0, vI (↑n_1 : Int),
 AVal.agg
 [vI (3 : Int), vU (0 : Int), vU (0 : Int), vI (0 : Int),
 vI (↑n : Int), vS s]]
 sg2
 else none)
 (fun v sg' =>
 withI .i64 (some v) fun n =>
 if (n != (0 : Int)) = true then some (.ret (vI n) sg')
 else
 withO (loadC none sg' (.gp m0 3)) fun p =>
 withI .i64 p.1[p.2]? fun n =>
 withO (lenV a1) fun n_2 =>
 withO (storeG none sg' (.gp m0 3) 1 (vI (IntKind.i64.wrap (n + IntKind.i64.wrap ((↑n_2 : Int) + (1 : Int)))))) fun sg =>
 withO (loadC none sg (.gp m0 4)) fun p =>
 withI .u64 p.1[p.2]? fun n =>
 withO (storeG none sg (.gp m0 4) 1 (vU (IntKind.u64.wrap (n + (1 : Int))))) fun sg =>
 some (.ret (vI (0 : Int)) sg))
 fun v sg' => some (.pan v sg'))
 fun x x_1 => none := by kernel_rfl
theorem journal_page.main (C : CallF) (N : Nat) (n0 : Int) (sg1 : Sg) :
 evalF C N journal_page.a [vI n0] sg1 =
 if decide (n0 ≥ (0 : Int)) = true then some (.ret (vB (decide (n0 < (3840 : Int)))) sg1) else some (.ret (vB false) sg1) := by kernel_rfl
theorem pages_Format.main (C : CallF) (N : Nat) (m0 : Nat) (n1 : Int) (n2 : Int) (sg3 : Sg) :
 evalF C N pages_Format.a [.gp m0 0, vI n1, vI n2] sg3 =
 withOut (bif Nat.blt 41 1000000 then C (41 : FuncId) [vI n1, vI n2] [] else none)
 (fun v x =>
 withT v fun vs =>
 bif vs.length.beq 2 then
 withI .i64 vs[0]? fun n =>
 withI .i64 vs[1]? fun n_1 =>
 if (n_1 != (0 : Int)) = false then
 withOut (bif Nat.blt 129 1000000 then C (129 : FuncId) [.gp m0 0] sg3 else none)
 (fun v x =>
 withI .i64 (some v) fun n_2 =>
 if (n_2 != n) = true then some (.ret (.tup [AVal.at (Value.pointer none), vI (18 : Int)]) sg3)
 else
 iter (pages_Format.R0 C N) N
 (mkS [0, 1, 2, 8, 10]
 [.v (.gp m0 0) false, .v (vI n1) false, .v (vI n2) false,
 .v (vI n) false, .v (vI (1 : Int)) false]
 [none, none, none, none, none] (.sg sg3))
 (pages_Format.K0 C N))
 fun v x => some (.pan v sg3)
 else some (.ret (.tup [AVal.at (Value.pointer none), vI (18 : Int)]) sg3)
 else none)
 fun x x_1 => none := by kernel_rfl
theorem pages_Format.r0 (C : CallF) (N : Nat) (m0 : Nat) (n1 : Int) (n2 : Int) (n3 : Int) (n4 : Int) (sg5 : Sg) (k : Ex → St → R) :
 pages_Format.R0 C N
 (mkS [0, 1, 2, 8, 10]
 [.v (.gp m0 0) false, .v (vI n1) false, .v (vI n2) false, .v (vI n3) false,
 .v (vI n4) false]
 [none, none, none, none, none] (.sg sg5))
 k =
 if decide (n4 < n3) = true then
 withOut (bif Nat.blt 131 1000000 then C (131 : FuncId) [] [] else none)
 (fun v x =>
 withS (some v) fun s =>
 withOut (bif Nat.blt 130 1000000 then C (130 : FuncId) [.gp m0 0, vI n4, vS s] sg5 else none)
 (fun v sg' =>
 withI .i64 (some v) fun n =>
 if (n != (0 : Int)) = true then
 k .ret (mkS [6, 7] [.v (.at (Value.pointer none)) false, .v (vI n) false] [none, none] (.sg sg'))
 else
 k .normal
 (mkS [0, 1, 2, 8, 10]
 [.v (.gp m0 0) false, .v (vI n1) false, .v (vI n2) false,
 .v (vI n3) false, .v (vI (IntKind.i64.wrap (n4 + (1 : Int)))) false]
 [none, none, none, none, none] (.sg sg')))
 fun v sg' => some (.pan v sg'))
 fun x x_1 => none
 else
 k (.exit 0)
 (mkS [0, 1, 2] [.v (.gp m0 0) false, .v (vI n1) false, .v (vI n2) false]
 [none, none, none] (.sg sg5)) := by kernel_rfl
theorem pages_Format.k0_2 (C : CallF) (N : Nat) (m0 : Nat) (n1 : Int) (n2 : Int) (sg3 : Sg) :
 pages_Format.K0 C N (.exit 0)
 (mkS [0, 1, 2] [.v (.gp m0 0) false, .v (vI n1) false, .v (vI n2) false] [none, none, none]
 (.sg sg3)) =
 withOut (bif Nat.blt 132 1000000 then C (132 : FuncId) [.gp m0 0] sg3 else none)
 (fun v sg' =>
 withI .i64 (some v) fun n =>
 if (n != (0 : Int)) = true then some (.ret (.tup [AVal.at (Value.pointer none), vI n]) sg')
 else
 withOut (bif Nat.blt 133 1000000 then C (133 : FuncId) [.gp m0 0, vI n1, vI n2] sg' else none)
 (fun v sg' =>
 withA (plainA v) fun a =>
 withOut (bif Nat.blt 134 1000000 then C (134 : FuncId) [a, ofConst (Value.int IntKind.u64 (1 : Int))] sg' else none)
 (fun (v_1 : AVal) (sg' : Sg) =>
 withI .i64 (some v_1) fun n =>
 if (n != (0 : Int)) = true then some (.ret (.tup [AVal.at (Value.pointer none), vI n]) sg')
 else withA (jk v) fun a => some (.ret (.tup [a, vI (0 : Int)]) sg'))
 fun v sg' => some (.pan v sg'))
 fun v sg' => some (.pan v sg'))
 fun v sg' => some (.pan v sg') := by kernel_rfl
theorem pages_Store_Read.main (C : CallF) (N : Nat) (m0 : Nat) (n1 : Int) (sg2 : Sg) :
 evalF C N pages_Store_Read.a [.gp m0 0, vI n1] sg2 =
 if decide (n1 < (0 : Int)) = false then
 withOut (bif Nat.blt 35 1000000 then C (35 : FuncId) [.gp m0 0] sg2 else none)
 (fun v x =>
 withI .i64 (some v) fun n =>
 if decide (n1 ≥ n) = true then some (.ret (.tup [vS (ByteArray.mk (#[])), vI (18 : Int)]) sg2)
 else
 withO (loadC none sg2 (.gp m0 2)) fun p =>
 withA p.1[p.2]? fun r =>
 withO (elemV 1 n1 r) fun r =>
 withO (loadC none sg2 r) fun p =>
 withS p.1[p.2]? fun s => some (.ret (.tup [vS s, vI (0 : Int)]) sg2))
 fun v x => some (.pan v sg2)
 else some (.ret (.tup [vS (ByteArray.mk (#[])), vI (18 : Int)]) sg2) := by kernel_rfl
theorem pages_Store_Commit.main (C : CallF) (N : Nat) (m0 : Nat) (a1 : AVal) (sg2 : Sg) :
 evalF C N pages_Store_Commit.a [.gp m0 0, a1] sg2 =
 if (false ^^ false) = false then
 withA (plainA a1) fun a =>
 withOut (bif Nat.blt 139 1000000 then C (139 : FuncId) [a] sg2 else none)
 (fun v sg' =>
 withI .i64 (some v) fun n =>
 if (n != (0 : Int)) = false then
 withA (plainA a1) fun a =>
 withOut (bif Nat.blt 140 1000000 then C (140 : FuncId) [.gp m0 0, a] sg' else none)
 (fun v sg' =>
 withB (some v) fun b =>
 if (!b) = true then some (.ret (vI (18 : Int)) sg')
 else
 withO (lenV a1) fun n =>
 withO (loadC none sg' (.gp m0 1)) fun p =>
 withI .i64 p.1[p.2]? fun n_1 =>
 if decide ((↑n : Int) ≥ n_1) = true then some (.ret (vI (14 : Int)) sg')
 else
 withO (loadC none sg' (.gp m0 0)) fun p =>
 withA p.1[p.2]? fun r =>
 withA (plainA r) fun a =>
 withOut (bif Nat.blt 141 1000000 then C (141 : FuncId) [a] sg' else none)
 (fun v x =>
 withB (some v) fun b =>
 if b = true then some (.ret (vI (17 : Int)) sg')
 else
 withO (lenV a1) fun n =>
 withOut (bif Nat.blt 36 1000000 then C (36 : FuncId) [.gp m0 0] sg' else none)
 (fun v x =>
 withI .i64 (some v) fun n_2 =>
 if decide ((↑n : Int) ≥ n_2) = true then
 withOut (bif Nat.blt 39 1000000 then C (39 : FuncId) [.gp m0 0] sg' else none)
 (fun v x =>
 withI .u64 (some v) fun n =>
 withOut
 (bif Nat.blt 138 1000000 then
 C (138 : FuncId) [.gp m0 0, vU (IntKind.u64.wrap (n + (1 : Int)))] sg'
 else none)
 (fun v sg' =>
 withI .i64 (some v) fun n =>
 if (n != (0 : Int)) = true then some (.ret (vI n) sg')
 else
 withO (loadC none sg' (.gp m0 4)) fun p =>
 withA p.1[p.2]? fun r =>
 withA (plainA r) fun a =>
 withA (plainA a1) fun a_1 =>
 withOut (bif Nat.blt 142 1000000 then C (142 : FuncId) [a, a_1] sg' else none)
 (fun v sg' =>
 withI .i64 (some v) fun n =>
 if (n != (0 : Int)) = true then some (.ret (vI n) sg')
 else
 withA (plainA a1) fun a =>
 withOut (bif Nat.blt 143 1000000 then C (143 : FuncId) [.gp m0 0, a] sg' else none)
 (fun v sg' =>
 withO (loadC none sg' (.gp m0 5)) fun p =>
 withI .i64 p.1[p.2]? fun n =>
 withO
 (storeG none sg' (.gp m0 5) 1
 (vI (IntKind.i64.wrap (n + (1 : Int)))))
 fun sg => some (.ret (vI (0 : Int)) sg))
 fun v sg' => some (.pan v sg'))
 fun v sg' => some (.pan v sg'))
 fun v sg' => some (.pan v sg'))
 fun v x => some (.pan v sg')
 else
 withO (loadC none sg' (.gp m0 4)) fun p =>
 withA p.1[p.2]? fun r =>
 withA (plainA r) fun a =>
 withA (plainA a1) fun a_1 =>
 withOut (bif Nat.blt 142 1000000 then C (142 : FuncId) [a, a_1] sg' else none)
 (fun v sg' =>
 withI .i64 (some v) fun n =>
 if (n != (0 : Int)) = true then some (.ret (vI n) sg')
 else
 withA (plainA a1) fun a =>
 withOut (bif Nat.blt 143 1000000 then C (143 : FuncId) [.gp m0 0, a] sg' else none)
 (fun v sg' =>
 withO (loadC none sg' (.gp m0 5)) fun p =>
 withI .i64 p.1[p.2]? fun n =>
 withO
 (storeG none sg' (.gp m0 5) 1
 (vI (IntKind.i64.wrap (n + (1 : Int)))))
 fun sg => some (.ret (vI (0 : Int)) sg))
 fun v sg' => some (.pan v sg'))
 fun v sg' => some (.pan v sg'))
 fun v x => some (.pan v sg'))
 fun v x => some (.pan v sg'))
 fun v sg' => some (.pan v sg')
 else some (.ret (vI (18 : Int)) sg'))
 fun v sg' => some (.pan v sg')
 else some (.ret (vI (18 : Int)) sg2) := by kernel_rfl
theorem pages_Store_Pages.main (C : CallF) (N : Nat) (m0 : Nat) (sg1 : Sg) :
 evalF C N pages_Store_Pages.a [.gp m0 0] sg1 =
 if (false ^^ false) = true then some (.ret (vI (0 : Int)) sg1)
 else
 withO (loadC none sg1 (.gp m0 2)) fun p =>
 withA p.1[p.2]? fun r => withO (lenV r) fun n => some (.ret (vI (↑n : Int)) sg1) := by kernel_rfl
theorem pages_Store_Room.main (C : CallF) (N : Nat) (m0 : Nat) (sg1 : Sg) :
 evalF C N pages_Store_Room.a [.gp m0 0] sg1 =
 if (false ^^ false) = true then some (.ret (vI (0 : Int)) sg1)
 else
 withO (loadC none sg1 (.gp m0 4)) fun p =>
 withA p.1[p.2]? fun r =>
 withA (plainA r) fun a =>
 withOut (bif Nat.blt 146 1000000 then C (146 : FuncId) [a] sg1 else none)
 (fun v x => withI .i64 (some v) fun n => some (.ret (vI n) sg1)) fun v x => some (.pan v sg1) := by kernel_rfl
theorem pages_Store_Epoch.main (C : CallF) (N : Nat) (m0 : Nat) (sg1 : Sg) :
 evalF C N pages_Store_Epoch.a [.gp m0 0] sg1 =
 if (false ^^ false) = true then some (.ret (vU (0 : Int)) sg1)
 else
 withO (loadC none sg1 (.gp m0 4)) fun p =>
 withA p.1[p.2]? fun r =>
 withA (plainA r) fun a =>
 withOut (bif Nat.blt 147 1000000 then C (147 : FuncId) [a] sg1 else none)
 (fun v x => withI .u64 (some v) fun n => some (.ret (vU n) sg1)) fun v x => some (.pan v sg1) := by kernel_rfl
theorem pages_Size.main (C : CallF) (N : Nat) (n0 : Int) (n1 : Int) (sg2 : Sg) :
 evalF C N pages_Size.a [vI n0, vI n1] sg2 =
 withOut (bif Nat.blt 148 1000000 then C (148 : FuncId) [vI n0, vI n1] [] else none)
 (fun v x =>
 withB (some v) fun b =>
 if (!b) = true then some (.ret (.tup [vI (0 : Int), vI (18 : Int)]) sg2)
 else some (.ret (.tup [vI (IntKind.i64.wrap (IntKind.i64.wrap ((1 : Int) + n1) + n0)), vI (0 : Int)]) sg2))
 fun x x_1 => none := by kernel_rfl
theorem pages_held.main (C : CallF) (N : Nat) (m0 : Nat) (n1 : Int) (n2 : Int) (sg3 : Sg) :
 evalF C N pages_held.a [.gp m0 0, vI n1, vI n2] sg3 =
 withOut (bif Nat.blt 126 1000000 then C (126 : FuncId) [ofConst (Value.string (ByteArray.mk (#[]))), ofConst (Value.int IntKind.i64 (480 : Int))] [] else none)
 (fun v x =>
 withS (some v) fun s =>
 bif true && Nat.blt 0 1 then
 withOut
 (bif Nat.blt 149 1000000 then
 C (149 : FuncId) [AVal.gs (List.length sg3) 1 0 1, vI n1] (sg3 ++ [Box.mk [vS s]])
 else none)
 (fun v sg' =>
 withA (plainA v) fun a =>
 bif a.cells.length.beq 1 then
 bindL
 (.gp m0 0 ::
 vI n2 ::
 (List.take._f 1 ⟨fun x => [], PUnit.unit⟩
 (List.append._f [] PUnit.unit
 (a.cells ++
 List.drop (2 + a.cells.length)
 [.gp m0 0, vI n2, .sl true 1 [], AVal.at (Value.map none), AVal.at (Value.pointer none),
 vI (0 : Int)])) ++
 AVal.gm (List.length sg') ::
 List.drop 4
 (.gp m0 0 ::
 vI n2 ::
 (a.cells ++
 List.drop (2 + a.cells.length)
 [.gp m0 0, vI n2, .sl true 1 [], AVal.at (Value.map none), AVal.at (Value.pointer none),
 vI (0 : Int)]))))
 fun cs => some (.ret (.gp (List.length (sg' ++ [Box.map []])) 0) (sg' ++ [Box.map []] ++ [Box.mk (AVal.agg cs).cells]))
 else none)
 fun v sg' => some (.pan v sg')
 else none)
 fun x x_1 => none := by kernel_rfl
theorem pages_Store_write.main (C : CallF) (N : Nat) (m0 : Nat) (n1 : Int) (sg2 : Sg) :
 evalF C N pages_Store_write.a [.gp m0 0, vU n1] sg2 =
 withO (loadC none sg2 (.gp m0 2)) fun p =>
 withA p.1[p.2]? fun r =>
 withO (lenV r) fun n =>
 withO (loadC none sg2 (.gp m0 1)) fun p =>
 withI .i64 p.1[p.2]? fun n_1 =>
 withOut
 (bif Nat.blt 237 1000000 then C (237 : FuncId) [vI (↑n : Int), vI n_1, vU n1] []
 else none)
 (fun v x =>
 withT v fun vs =>
 bif vs.length.beq 2 then
 withS vs[0]? fun s =>
 withI .i64 vs[1]? fun n =>
 if (n != (0 : Int)) = true then some (.ret (vI n) sg2)
 else
 withO (loadC none sg2 (.gp m0 0)) fun p =>
 withA p.1[p.2]? fun r =>
 withA (plainA r) fun a =>
 withOut (bif Nat.blt 130 1000000 then C (130 : FuncId) [a, ofConst (Value.int IntKind.i64 (0 : Int)), vS s] sg2 else none)
 (fun v sg' =>
 withI .i64 (some v) fun n =>
 if (n != (0 : Int)) = true then some (.ret (vI n) sg')
 else
 withO (loadC none sg' (.gp m0 0)) fun p =>
 withA p.1[p.2]? fun r =>
 withA (plainA r) fun a =>
 withOut (bif Nat.blt 132 1000000 then C (132 : FuncId) [a] sg' else none)
 (fun v sg' =>
 withI .i64 (some v) fun n =>
 if (n != (0 : Int)) = true then some (.ret (vI n) sg')
 else
 withO (loadC none sg' (.gp m0 0)) fun p =>
 withA p.1[p.2]? fun r =>
 withO (loadC none sg' (.gp m0 1)) fun p =>
 withI .i64 p.1[p.2]? fun n =>
 withA (plainA r) fun a =>
 withOut
 (bif Nat.blt 238 1000000 then
 C (238 : FuncId) [a, vI n, vU n1] sg'
 else none)
 (fun v sg' =>
 withT v fun vs =>
 bif vs.length.beq 2 then
 withA vs[0]? fun a =>
 withI .i64 vs[1]? fun n =>
 withA (plainA a) fun v =>
 withO (storeG none sg' (.gp m0 4) 1 v) fun sg =>
 some (.ret (vI n) sg)
 else none)
 fun v sg' => none)
 fun v sg' => some (.pan v sg'))
 fun v sg' => some (.pan v sg')
 else none)
 fun x x_1 => none := by kernel_rfl
theorem pages_Store_checkpoint.main (C : CallF) (N : Nat) (m0 : Nat) (n1 : Int) (sg2 : Sg) :
 evalF C N pages_Store_checkpoint.a [.gp m0 0, vU n1] sg2 =
 withO (loadC none sg2 (.gp m0 0)) fun p =>
 withA p.1[p.2]? fun r =>
 withA (plainA r) fun a =>
 withOut (bif Nat.blt 132 1000000 then C (132 : FuncId) [a] sg2 else none)
 (fun v sg' =>
 withI .i64 (some v) fun n =>
 if (n != (0 : Int)) = true then some (.ret (vI n) sg')
 else
 withO (loadC none sg' (.gp m0 3)) fun p =>
 withA p.1[p.2]? fun r =>
 withA (plainA r) fun a =>
 withOut (bif Nat.blt 244 1000000 then C (244 : FuncId) [a] sg' else none)
 (fun v sg' =>
 withA (plainA v) fun a =>
 withOut (bif Nat.blt 226 1000000 then C (226 : FuncId) [a] sg' else none)
 (fun v sg' =>
 withO (lenV v) fun n =>
 iter (pages_Store_checkpoint.R0 C N) N
 (mkS [0, 1, 26, 27, 28]
 [.v (.gp m0 0) false, .v (vU n1) false, .v v false, .v (vI (↑n : Int)) false,
 .v (vI (0 : Int)) false]
 [none, none, none, none, none] (.sg sg'))
 (pages_Store_checkpoint.K0 C N))
 fun v sg' => some (.pan v sg'))
 fun v sg' => some (.pan v sg'))
 fun v sg' => some (.pan v sg') := by kernel_rfl
theorem pages_Store_checkpoint.r0 (C : CallF) (N : Nat) (m0 : Nat) (n1 : Int) (a2 : AVal) (n3 : Int) (n4 : Int) (sg5 : Sg) (k : Ex → St → R) :
 pages_Store_checkpoint.R0 C N
 (mkS [0, 1, 26, 27, 28]
 [.v (.gp m0 0) false, .v (vU n1) false, .v a2 false, .v (vI n3) false,
 .v (vI n4) false]
 [none, none, none, none, none] (.sg sg5))
 k =
 if decide (n4 < n3) = true then
 withO (elemV 1 n4 a2) fun r =>
 withO (loadC none sg5 r) fun p =>
 withI .i64 p.1[p.2]? fun n =>
 withO (loadC none sg5 (.gp m0 2)) fun p =>
 withA p.1[p.2]? fun r =>
 withO (elemV 1 n r) fun r =>
 withO (loadC none sg5 r) fun p =>
 withS p.1[p.2]? fun s =>
 withOut (bif Nat.blt 245 1000000 then C (245 : FuncId) [vI n, vS s] [] else none)
 (fun v x =>
 withT v fun vs =>
 bif vs.length.beq 2 then
 withS vs[0]? fun s =>
 withI .i64 vs[1]? fun n_1 =>
 if (n_1 != (0 : Int)) = true then k .ret (mkS [4] [.v (vI n_1) false] [none] (.sg sg5))
 else
 withO (loadC none sg5 (.gp m0 0)) fun p =>
 withA p.1[p.2]? fun r =>
 withOut (bif Nat.blt 241 1000000 then C (241 : FuncId) [.gp m0 0, vI n] sg5 else none)
 (fun v x =>
 withI .i64 (some v) fun n =>
 withA (plainA r) fun a =>
 withOut (bif Nat.blt 130 1000000 then C (130 : FuncId) [a, vI n, vS s] sg5 else none)
 (fun v sg' =>
 withI .i64 (some v) fun n =>
 if (n != (0 : Int)) = true then k .ret (mkS [4] [.v (vI n) false] [none] (.sg sg'))
 else
 k .normal
 (mkS [0, 1, 26, 27, 28]
 [.v (.gp m0 0) false, .v (vU n1) false, .v a2 false,
 .v (vI n3) false, .v (vI (IntKind.i64.wrap (n4 + (1 : Int)))) false]
 [none, none, none, none, none] (.sg sg')))
 fun v sg' => none)
 fun v x => none
 else none)
 fun x x_1 => none
 else k (.exit 0) (mkS [0, 1] [.v (.gp m0 0) false, .v (vU n1) false] [none, none] (.sg sg5)) := by kernel_rfl
theorem pages_Store_checkpoint.k0_2 (C : CallF) (N : Nat) (m0 : Nat) (n1 : Int) (sg2 : Sg) :
 pages_Store_checkpoint.K0 C N (.exit 0) (mkS [0, 1] [.v (.gp m0 0) false, .v (vU n1) false] [none, none] (.sg sg2)) =
 withO (loadC none sg2 (.gp m0 0)) fun p =>
 withA p.1[p.2]? fun r =>
 withA (plainA r) fun a =>
 withOut (bif Nat.blt 132 1000000 then C (132 : FuncId) [a] sg2 else none)
 (fun v sg' =>
 withI .i64 (some v) fun n =>
 if (n != (0 : Int)) = true then some (.ret (vI n) sg')
 else
 withOut (bif Nat.blt 134 1000000 then C (134 : FuncId) [.gp m0 0, vU n1] sg' else none)
 (fun v sg' =>
 withI .i64 (some v) fun n =>
 if (n != (0 : Int)) = true then some (.ret (vI n) sg')
 else
 withO (loadC none sg' (.gp m0 3)) fun p =>
 withA p.1[p.2]? fun r =>
 withA (plainA r) fun m =>
 withO (mapV sg' m) fun p =>
 withO (storeG none (List.set sg' p.1 (Box.map [])) (.gp m0 5) 1 (vI (0 : Int))) fun sg =>
 some (.ret (vI (0 : Int)) sg))
 fun v sg' => some (.pan v sg'))
 fun v sg' => some (.pan v sg') := by kernel_rfl
theorem pages_Store_has.main (C : CallF) (N : Nat) (m0 : Nat) (a1 : AVal) (sg2 : Sg) :
 evalF C N pages_Store_has.a [.gp m0 0, a1] sg2 =
 withA (plainA a1) fun a =>
 withOut (bif Nat.blt 247 1000000 then C (247 : FuncId) [a, AVal.clo 248 [] [.gp (List.length sg2) 0]] (sg2 ++ [Box.mk [.gp m0 0]]) else none)
 (fun v sg' => withB (some v) fun b => some (.ret (vB !b) sg')) fun v sg' => some (.pan v sg') := by kernel_rfl
theorem pages_Store_change.main (C : CallF) (N : Nat) (m0 : Nat) (a1 : AVal) (sg2 : Sg) :
 evalF C N pages_Store_change.a [.gp m0 0, a1] sg2 =
 withO (lenV a1) fun n =>
 iter (pages_Store_change.R0 C N) N
 (mkS [0, 6, 7, 8]
 [.v (.gp m0 0) false, .v a1 false, .v (vI (↑n : Int)) false, .v (vI (0 : Int)) false]
 [none, none, none, none] (.sg sg2))
 (pages_Store_change.K0 C N) := by kernel_rfl
theorem pages_Store_change.r0 (C : CallF) (N : Nat) (m0 : Nat) (a1 : AVal) (n2 : Int) (n3 : Int) (sg4 : Sg) (k : Ex → St → R) :
 pages_Store_change.R0 C N
 (mkS [0, 6, 7, 8]
 [.v (.gp m0 0) false, .v a1 false, .v (vI n2) false, .v (vI n3) false] [none, none, none, none] (.sg sg4))
 k =
 if decide (n3 < n2) = true then
 withO (elemV 2 n3 a1) fun r =>
 withO (loadC none sg4 r) fun p =>
 bif (p.2 + 2).ble p.1.length then
 bindL (List.take 2 (List.drop p.2 p.1)) fun l =>
 bif (AVal.agg l).cells.length.beq 2 then
 bindL (splice [vI (0 : Int), vS (ByteArray.mk (#[]))] 0 (AVal.agg l).cells) fun cs =>
 withO (loadC none sg4 (.gp m0 2)) fun p =>
 withA p.1[p.2]? fun r =>
 withI .i64 cs[0]? fun n =>
 withS cs[1]? fun s =>
 withO (elemV 1 n r) fun r =>
 withO (storeG none sg4 r 1 (vS s)) fun sg =>
 withO (loadC none sg (.gp m0 3)) fun p =>
 withA p.1[p.2]? fun r =>
 withI .i64 cs[0]? fun n =>
 withA (plainA r) fun m =>
 withO (mapV sg m) fun p =>
 withO (mSet (vI n) (vB true) p.2) fun es =>
 k .normal
 (mkS [0, 6, 7, 8]
 [.v (.gp m0 0) false, .v a1 false, .v (vI n2) false,
 .v (vI (IntKind.i64.wrap (n3 + (1 : Int)))) false]
 [none, none, none, none] (.sg (List.set sg p.1 (Box.map es))))
 else none
 else none
 else k (.exit 0) (mkS [] [] [] (.sg sg4)) := by kernel_rfl
theorem pages_Store_change.k0_1 (C : CallF) (N : Nat) (sg0 : Sg) :
 pages_Store_change.K0 C N (.exit 0) (mkS [] [] [] (.sg sg0)) =
 some (.ret (.tup []) sg0) := by kernel_rfl
theorem pages_sizes.main (C : CallF) (N : Nat) (n0 : Int) (n1 : Int) (sg2 : Sg) :
 evalF C N pages_sizes.a [vI n0, vI n1] sg2 =
 if decide (n0 ≥ (8 : Int)) = true then
 if decide (n0 ≤ (3840 : Int)) = true then
 if decide (n1 ≥ (4 : Int)) = true then some (.ret (vB (decide (n1 ≤ (1024 : Int)))) sg2) else some (.ret (vB false) sg2)
 else some (.ret (vB false) sg2)
 else some (.ret (vB false) sg2) := by kernel_rfl
theorem slices_Repeat_string_string.main (C : CallF) (N : Nat) (a0 : AVal) (n1 : Int) (sg2 : Sg) :
 evalF C N slices_Repeat_string_string.a [a0, vI n1] sg2 =
 if decide (n1 < (0 : Int)) = true then
 some
 (Out.pan
 (AVal.ifc 9
 (AVal.at
 (Value.string
 (ByteArray.mk (#[(99 : UInt8), (97 : UInt8), (110 : UInt8), (110 : UInt8), (111 : UInt8), (116 : UInt8), (32 : UInt8), (98 : UInt8), (101 : UInt8), (32 : UInt8), (110 : UInt8), (101 : UInt8),
 (103 : UInt8), (97 : UInt8), (116 : UInt8), (105 : UInt8), (118 : UInt8), (101 : UInt8)])))))
 sg2)
 else
 withO (lenV a0) fun n =>
 withOut
 (bif Nat.blt 250 1000000 then C (250 : FuncId) [vU (IntKind.u64.wrap (↑n : Int)), vU (IntKind.u64.wrap n1)] []
 else none)
 (fun v x =>
 withT v fun vs =>
 bif vs.length.beq 2 then
 withI .u64 vs[0]? fun n =>
 withI .u64 vs[1]? fun n_1 =>
 if decide (n > (0 : Int)) = false then
 if decide (n_1 > (9223372036854775807 : Int)) = true then
 some
 (Out.pan
 (AVal.ifc 9
 (AVal.at
 (Value.string
 (ByteArray.mk (#[(116 : UInt8), (104 : UInt8), (101 : UInt8), (32 : UInt8), (114 : UInt8), (101 : UInt8), (115 : UInt8), (117 : UInt8), (108 : UInt8), (116 : UInt8), (32 : UInt8),
 (111 : UInt8), (102 : UInt8), (32 : UInt8), (40 : UInt8), (108 : UInt8), (101 : UInt8), (110 : UInt8), (40 : UInt8), (120 : UInt8), (41 : UInt8), (32 : UInt8),
 (42 : UInt8), (32 : UInt8), (99 : UInt8), (111 : UInt8), (117 : UInt8), (110 : UInt8), (116 : UInt8), (41 : UInt8), (32 : UInt8), (111 : UInt8), (118 : UInt8),
 (101 : UInt8), (114 : UInt8), (102 : UInt8), (108 : UInt8), (111 : UInt8), (119 : UInt8), (115 : UInt8)])))))
 sg2)
 else
 if (0 : Int) < IntKind.i64.wrap n_1 ∧ IntKind.i64.wrap n_1 ≤ IntKind.i64.wrap n_1 ∧ IntKind.i64.wrap n_1 * (↑16 : Int) ≤ (35184372088832 : Int) then
 withA (plainA a0) fun b =>
 withO (flatG (sg2 ++ [Box.mk (List.replicate (IntKind.i64.wrap n_1).toNat [vS (ByteArray.mk (#[]))]).flatten]) 1 b) fun p =>
 withO
 (copyV 1 (sg2 ++ [Box.mk (List.replicate (IntKind.i64.wrap n_1).toNat [vS (ByteArray.mk (#[]))]).flatten])
 (AVal.gs (List.length sg2) 1 0 (IntKind.i64.wrap n_1).toNat) p.1 p.2)
 fun (q : Nat × Sg) =>
 iter (slices_Repeat_string_string.R0 C N) N
 (mkS [7, 8]
 [.v (.gs (List.length sg2) 1 0 (IntKind.i64.wrap n_1).toNat) false, .v (vI (↑q.1 : Int)) false] [none, none]
 (.sg q.2))
 (slices_Repeat_string_string.K0 C N)
 else none
 else
 some
 (Out.pan
 (AVal.ifc 9
 (AVal.at
 (Value.string
 (ByteArray.mk (#[(116 : UInt8), (104 : UInt8), (101 : UInt8), (32 : UInt8), (114 : UInt8), (101 : UInt8), (115 : UInt8), (117 : UInt8), (108 : UInt8), (116 : UInt8), (32 : UInt8),
 (111 : UInt8), (102 : UInt8), (32 : UInt8), (40 : UInt8), (108 : UInt8), (101 : UInt8), (110 : UInt8), (40 : UInt8), (120 : UInt8), (41 : UInt8), (32 : UInt8),
 (42 : UInt8), (32 : UInt8), (99 : UInt8), (111 : UInt8), (117 : UInt8), (110 : UInt8), (116 : UInt8), (41 : UInt8), (32 : UInt8), (111 : UInt8), (118 : UInt8),
 (101 : UInt8), (114 : UInt8), (102 : UInt8), (108 : UInt8), (111 : UInt8), (119 : UInt8), (115 : UInt8)])))))
 sg2)
 else none)
 fun x x_1 => none := by kernel_rfl
theorem slices_Repeat_string_string.r0 (C : CallF) (N : Nat) (m0 : Nat) (m1 : Nat) (n2 : Int) (sg3 : Sg) (k : Ex → St → R) :
 slices_Repeat_string_string.R0 C N (mkS [7, 8] [.v (.gs m0 1 0 m1) false, .v (vI n2) false] [none, none] (.sg sg3)) k =
 if decide (n2 < (↑m1 : Int)) = true then
 if (0 : Int) ≤ n2 ∧ n2 ≤ (↑m1 : Int) ∧ (↑m1 : Int) ≤ (↑m1 : Int) then
 withO (cutV (AVal.gs m0 1 0 m1) n2.toNat (↑m1 : Int).toNat) fun r =>
 if (0 : Int) ≤ (0 : Int) ∧ (0 : Int) ≤ n2 ∧ n2 ≤ (↑m1 : Int) then
 withO (cutV (AVal.gs m0 1 0 m1) (Int.toNat (0 : Int)) n2.toNat) fun r_1 =>
 withA (plainA r_1) fun b =>
 withO (flatG sg3 1 b) fun p =>
 withA (plainA r) fun a =>
 withO (copyV 1 sg3 a p.1 p.2) fun (q : Nat × Sg) =>
 k .normal
 (mkS [7, 8] [.v (.gs m0 1 0 m1) false, .v (vI (IntKind.i64.wrap (n2 + (↑q.1 : Int)))) false] [none, none]
 (.sg q.2))
 else none
 else none
 else k (.exit 0) (mkS [7] [.v (.gs m0 1 0 m1) false] [none] (.sg sg3)) := by kernel_rfl
theorem slices_Repeat_string_string.k0_1 (C : CallF) (N : Nat) (m0 : Nat) (m1 : Nat) (sg2 : Sg) :
 slices_Repeat_string_string.K0 C N (.exit 0) (mkS [7] [.v (.gs m0 1 0 m1) false] [none] (.sg sg2)) =
 some (.ret (AVal.gs m0 1 0 m1) sg2) := by kernel_rfl
theorem pages_head.main (C : CallF) (N : Nat) (n0 : Int) (n1 : Int) (n2 : Int) (sg3 : Sg) :
 evalF C N pages_head.a [vI n0, vI n1, vU n2] sg3 =
 withOut (bif Nat.blt 126 1000000 then C (126 : FuncId) [ofConst (Value.string (ByteArray.mk (#[]))), ofConst (Value.int IntKind.i64 (480 : Int))] [] else none)
 (fun v x =>
 withS (some v) fun s =>
 withOut
 (bif Nat.blt 328 1000000 then
 C (328 : FuncId)
 [AVal.agg
 [vI (1 : Int), vU n2, vU (0 : Int), vI n0,
 vI n1, vS s]]
 []
 else none)
 (fun v x =>
 withT v fun vs =>
 bif vs.length.beq 2 then
 withS vs[0]? fun s => withI .i64 vs[1]? fun n => some (.ret (.tup [vS s, vI n]) sg3)
 else none)
 fun x x_1 => none)
 fun x x_1 => none := by kernel_rfl
theorem pages_Store_home.main (C : CallF) (N : Nat) (m0 : Nat) (n1 : Int) (sg2 : Sg) :
 evalF C N pages_Store_home.a [.gp m0 0, vI n1] sg2 =
 withO (loadC none sg2 (.gp m0 1)) fun p =>
 withI .i64 p.1[p.2]? fun n => some (.ret (vI (IntKind.i64.wrap (IntKind.i64.wrap ((1 : Int) + n) + n1))) sg2) := by kernel_rfl
theorem maps_Keys_map_intbool_int_bool.main (C : CallF) (N : Nat) (a0 : AVal) (sg1 : Sg) :
 evalF C N maps_Keys_map_intbool_int_bool.a [a0] sg1 =
 withA (plainA a0) fun a => some (.ret (AVal.clo 331 [] [.gp (List.length sg1) 0]) (sg1 ++ [Box.mk a.cells])) := by kernel_rfl
theorem slices_ContainsFunc_journal_Image_journal_Image.main (C : CallF) (N : Nat) (a0 : AVal) (a1 : FuncId) (l2 : List AVal) (l3 : List AVal) (sg4 : Sg) :
 evalF C N slices_ContainsFunc_journal_Image_journal_Image.a [a0, AVal.clo a1 l2 l3] sg4 =
 withA (plainA a0) fun a =>
 withOut (bif Nat.blt 334 1000000 then C (334 : FuncId) [a, AVal.clo a1 l2 l3] sg4 else none)
 (fun v sg' => withI .i64 (some v) fun n => some (.ret (vB (decide (n ≥ (0 : Int)))) sg')) fun v sg' => some (.pan v sg') := by kernel_rfl
theorem pages_Store_has_1.main (C : CallF) (N : Nat) (n0 : Int) (s1 : ByteArray) (m2 : Nat) (sg3 : Sg) :
 evalF C N pages_Store_has_1.a [AVal.agg [vI n0, vS s1], .gp m2 0] sg3 =
 withI .i64 [vI n0, vS s1][0]? fun n =>
 withO (loadC none sg3 (.gp m2 0)) fun p =>
 withA p.1[p.2]? fun r =>
 withO (nilV r) fun r =>
 withO (addrV 2 r) fun r =>
 withO (loadC none sg3 r) fun p =>
 withA p.1[p.2]? fun r => withO (lenV r) fun n_1 => some (.ret (vB (decide (n ≥ (↑n_1 : Int)))) sg3) := by kernel_rfl
theorem slices_IndexFunc_journal_Image_journal_Image.main (C : CallF) (N : Nat) (a0 : AVal) (a1 : FuncId) (l2 : List AVal) (l3 : List AVal) (sg4 : Sg) :
 evalF C N slices_IndexFunc_journal_Image_journal_Image.a [a0, AVal.clo a1 l2 l3] sg4 =
 withO (lenV a0) fun n =>
 iter (slices_IndexFunc_journal_Image_journal_Image.R0 C N) N
 (mkS [0, 1, 7, 8]
 [.v a0 false, .v (.clo a1 l2 l3) false, .v (vI (↑n : Int)) false, .v (vI (0 : Int)) false] [none, none, none, none]
 (.sg sg4))
 (slices_IndexFunc_journal_Image_journal_Image.K0 C N) := by kernel_rfl
theorem slices_IndexFunc_journal_Image_journal_Image.r0 (C : CallF) (N : Nat) (a0 : AVal) (a1 : FuncId) (l2 : List AVal) (l3 : List AVal) (n4 : Int) (n5 : Int) (sg6 : Sg) (k : Ex → St → R) :
 slices_IndexFunc_journal_Image_journal_Image.R0 C N
 (mkS [0, 1, 7, 8]
 [.v a0 false, .v (.clo a1 l2 l3) false, .v (vI n4) false, .v (vI n5) false] [none, none, none, none] (.sg sg6))
 k =
 if decide (n5 < n4) = true then
 withO (elemV 2 n5 a0) fun r =>
 withO (loadC none sg6 r) fun p =>
 bif (p.2 + 2).ble p.1.length then
 bindL (List.take 2 (List.drop p.2 p.1)) fun l =>
 withOut (bif Nat.blt a1 1000000 then C a1 (l2 ++ ([AVal.agg l] ++ l3)) sg6 else none)
 (fun v sg' =>
 withB (some v) fun b =>
 if b = true then k .ret (mkS [4] [.v (vI n5) false] [none] (.sg sg'))
 else
 k .normal
 (mkS [0, 1, 7, 8]
 [.v a0 false, .v (.clo a1 l2 l3) false, .v (vI n4) false,
 .v (vI (IntKind.i64.wrap (n5 + (1 : Int)))) false]
 [none, none, none, none] (.sg sg')))
 fun v sg' => some (.pan v sg')
 else none
 else k (.exit 0) (mkS [] [] [] (.sg sg6)) := by kernel_rfl
theorem slices_IndexFunc_journal_Image_journal_Image.k0_2 (C : CallF) (N : Nat) (sg0 : Sg) :
 slices_IndexFunc_journal_Image_journal_Image.K0 C N (.exit 0) (mkS [] [] [] (.sg sg0)) =
 some (.ret (vI (-1 : Int)) sg0) := by kernel_rfl
theorem math_bits_Mul.main (C : CallF) (N : Nat) (n0 : Int) (n1 : Int) (sg2 : Sg) :
 evalF C N math_bits_Mul.a [vU n0, vU n1] sg2 =
 withOut (bif Nat.blt 336 1000000 then C (336 : FuncId) [vU n0, vU n1] [] else none)
 (fun v x =>
 withT v fun vs =>
 bif vs.length.beq 2 then
 withI .u64 vs[0]? fun n =>
 withI .u64 vs[1]? fun n_1 => some (.ret (.tup [vU n, vU n_1]) sg2)
 else none)
 fun x x_1 => none := by kernel_rfl
theorem math_bits_Mul64.main (C : CallF) (N : Nat) (n0 : Int) (n1 : Int) (sg2 : Sg) :
 evalF C N math_bits_Mul64.a [vU n0, vU n1] sg2 =
 if (32 : Int) < (0 : Int) then none
 else
 if (32 : Int) < (0 : Int) then none
 else
 if (32 : Int) < (0 : Int) then none
 else
 if (32 : Int) < (0 : Int) then none
 else
 if (32 : Int) < (0 : Int) then none
 else
 some
 (Out.ret
 (AVal.tup
 [AVal.at
 (Value.int IntKind.u64
 (IntKind.u64.wrap
 (IntKind.u64.wrap
 (IntKind.u64.wrap (shiftI BinOp.shr IntKind.u64 n0 (32 : Int) * shiftI BinOp.shr IntKind.u64 n1 (32 : Int)) +
 shiftI BinOp.shr IntKind.u64
 (IntKind.u64.wrap
 (IntKind.u64.wrap (shiftI BinOp.shr IntKind.u64 n0 (32 : Int) * bitsI BinOp.and IntKind.u64 n1 (4294967295 : Int)) +
 shiftI BinOp.shr IntKind.u64 (IntKind.u64.wrap (bitsI BinOp.and IntKind.u64 n0 (4294967295 : Int) * bitsI BinOp.and IntKind.u64 n1 (4294967295 : Int))) (32 : Int)))
 (32 : Int)) +
 shiftI BinOp.shr IntKind.u64
 (IntKind.u64.wrap
 (bitsI BinOp.and IntKind.u64
 (IntKind.u64.wrap
 (IntKind.u64.wrap (shiftI BinOp.shr IntKind.u64 n0 (32 : Int) * bitsI BinOp.and IntKind.u64 n1 (4294967295 : Int)) +
 shiftI BinOp.shr IntKind.u64 (IntKind.u64.wrap (bitsI BinOp.and IntKind.u64 n0 (4294967295 : Int) * bitsI BinOp.and IntKind.u64 n1 (4294967295 : Int)))
 (32 : Int)))
 (4294967295 : Int) +
 IntKind.u64.wrap (bitsI BinOp.and IntKind.u64 n0 (4294967295 : Int) * shiftI BinOp.shr IntKind.u64 n1 (32 : Int))))
 (32 : Int)))),
 vU (IntKind.u64.wrap (n0 * n1))])
 sg2) := by kernel_rfl
theorem heap_Do.main (C : CallF) (N : Nat) (m0 : Nat) (a1 : FuncId) (l2 : List AVal) (l3 : List AVal) (sg4 : Sg) :
 evalF C N heap_Do.a [.gp m0 0, AVal.clo a1 l2 l3] sg4 =
 if (false ^^ false) = false then
 if (false ^^ false) = true then some (.ret (vI (18 : Int)) sg4)
 else
 withOut
 (bif Nat.blt 121 1000000 then
 C (121 : FuncId) [.gp (List.length (sg4 ++ [Box.map []])) 0, AVal.clo a1 l2 l3] (sg4 ++ [Box.map []] ++ [Box.mk [.gp m0 0, AVal.gm (List.length sg4)]])
 else none)
 (fun v sg' =>
 withI .i64 (some v) fun n =>
 if (n != (0 : Int)) = true then some (.ret (vI n) sg')
 else
 withOut (bif Nat.blt 122 1000000 then C (122 : FuncId) [.gp (List.length (sg4 ++ [Box.map []])) 0] sg' else none)
 (fun v sg' =>
 withO (lenV v) fun n =>
 if ((↑n : Int) == (0 : Int)) = true then some (.ret (vI (0 : Int)) sg')
 else
 withA (plainA v) fun a =>
 withOut (bif Nat.blt 32 1000000 then C (32 : FuncId) [.gp m0 0, a] sg' else none)
 (fun v sg' => withI .i64 (some v) fun n => some (.ret (vI n) sg')) fun v sg' =>
 some (.pan v sg'))
 fun v sg' => some (.pan v sg'))
 fun v sg' => some (.pan v sg')
 else some (.ret (vI (18 : Int)) sg4) := by kernel_rfl
theorem heap_Heap_Put.main (C : CallF) (N : Nat) (m0 : Nat) (n1 : Int) (s2 : ByteArray) (sg3 : Sg) :
 evalF C N heap_Heap_Put.a [.gp m0 0, vI n1, vS s2] sg3 =
 if decide (n1 < (0 : Int)) = false then
 withOut (bif Nat.blt 123 1000000 then C (123 : FuncId) [.gp m0 0] sg3 else none)
 (fun v x =>
 withI .i64 (some v) fun n =>
 if decide (n1 ≥ n) = false then
 if ((↑s2.size : Int) != (480 : Int)) = true then
 withOut (bif Nat.blt 26 1000000 then C (26 : FuncId) [.gp m0 0, ofConst (Value.int IntKind.i64 (18 : Int))] sg3 else none)
 (fun v x =>
 withO (loadC none sg3 (.gp m0 1)) fun p =>
 withA p.1[p.2]? fun r =>
 withA (plainA r) fun m =>
 withO (mapV sg3 m) fun p =>
 withO (mSet (vI n1) (vS s2) p.2) fun es =>
 some (.ret (.tup []) (List.set sg3 p.1 (Box.map es))))
 fun v x => some (.pan v sg3)
 else
 withO (loadC none sg3 (.gp m0 1)) fun p =>
 withA p.1[p.2]? fun r =>
 withA (plainA r) fun m =>
 withO (mapV sg3 m) fun p =>
 withO (mSet (vI n1) (vS s2) p.2) fun es => some (.ret (.tup []) (List.set sg3 p.1 (Box.map es)))
 else
 withOut (bif Nat.blt 26 1000000 then C (26 : FuncId) [.gp m0 0, ofConst (Value.int IntKind.i64 (18 : Int))] sg3 else none)
 (fun v x =>
 withO (loadC none sg3 (.gp m0 1)) fun p =>
 withA p.1[p.2]? fun r =>
 withA (plainA r) fun m =>
 withO (mapV sg3 m) fun p =>
 withO (mSet (vI n1) (vS s2) p.2) fun es =>
 some (.ret (.tup []) (List.set sg3 p.1 (Box.map es))))
 fun v x => some (.pan v sg3))
 fun v x => some (.pan v sg3)
 else
 withOut (bif Nat.blt 26 1000000 then C (26 : FuncId) [.gp m0 0, ofConst (Value.int IntKind.i64 (18 : Int))] sg3 else none)
 (fun v x =>
 withO (loadC none sg3 (.gp m0 1)) fun p =>
 withA p.1[p.2]? fun r =>
 withA (plainA r) fun m =>
 withO (mapV sg3 m) fun p =>
 withO (mSet (vI n1) (vS s2) p.2) fun es => some (.ret (.tup []) (List.set sg3 p.1 (Box.map es))))
 fun v x => some (.pan v sg3) := by kernel_rfl
theorem heap_Heap_Take.main (C : CallF) (N : Nat) (m0 : Nat) (sg1 : Sg) :
 evalF C N heap_Heap_Take.a [.gp m0 0] sg1 =
 withOut (bif Nat.blt 23 1000000 then C (23 : FuncId) [.gp m0 0, ofConst (Value.int IntKind.i64 (1 : Int))] sg1 else none)
 (fun v x =>
 withS (some v) fun s =>
 withOut (bif Nat.blt 123 1000000 then C (123 : FuncId) [.gp m0 0] sg1 else none)
 (fun v x =>
 withI .i64 (some v) fun n =>
 withOut (bif Nat.blt 123 1000000 then C (123 : FuncId) [.gp m0 0] sg1 else none)
 (fun v x =>
 withI .i64 (some v) fun n_1 =>
 withOut
 (bif Nat.blt 124 1000000 then
 C (124 : FuncId)
 [vS s, vI (bif false then max2 (2 : Int) n else min2 (2 : Int) n), vI n_1,
 ofConst (Value.int IntKind.i64 (1 : Int))]
 []
 else none)
 (fun v sg' =>
 withO (thaw 8 sg' v) fun v =>
 withT v fun vs =>
 bif vs.length.beq 3 then
 withA vs[0]? fun a =>
 withS vs[1]? fun s =>
 withI .i64 vs[2]? fun n =>
 bif noG (AVal.tup [a, vS s, vI n]) then
 withOut (bif Nat.blt 125 1000000 then C (125 : FuncId) [.gp m0 0, vI n] sg1 else none)
 (fun v x =>
 withOut
 (bif Nat.blt 20 1000000 then C (20 : FuncId) [.gp m0 0, ofConst (Value.int IntKind.i64 (1 : Int)), vS s] sg1
 else none)
 (fun v sg' =>
 withO (elemV 1 (0 : Int) a) fun r =>
 withO (loadC none sg' r) fun p =>
 withI .i64 p.1[p.2]? fun n =>
 withOut
 (bif Nat.blt 126 1000000 then
 C (126 : FuncId) [ofConst (Value.string (ByteArray.mk (#[]))), ofConst (Value.int IntKind.i64 (480 : Int))] []
 else none)
 (fun v x =>
 withS (some v) fun s =>
 withOut
 (bif Nat.blt 20 1000000 then
 C (20 : FuncId) [.gp m0 0, vI n, vS s] sg'
 else none)
 (fun v sg' =>
 withO (elemV 1 (0 : Int) a) fun r =>
 withO (loadC none sg' r) fun p =>
 withI .i64 p.1[p.2]? fun n => some (.ret (vI n) sg'))
 fun v sg' => some (.pan v sg'))
 fun x x_1 => none)
 fun v sg' => some (.pan v sg'))
 fun v x => some (.pan v sg1)
 else none
 else none)
 fun x x_1 => none)
 fun v x => some (.pan v sg1))
 fun v x => some (.pan v sg1))
 fun v x => some (.pan v sg1) := by kernel_rfl
theorem heap_Heap_Get.main (C : CallF) (N : Nat) (m0 : Nat) (n1 : Int) (sg2 : Sg) :
 evalF C N heap_Heap_Get.a [.gp m0 0, vI n1] sg2 =
 withO (loadC none sg2 (.gp m0 1)) fun p =>
 withA p.1[p.2]? fun r =>
 withA (plainA r) fun m =>
 withO (mapV sg2 m) fun p =>
 withO (mGet (vI n1) p.2) fun r =>
 if hasV r = true then withA (jk (getOr [vS (ByteArray.mk (#[]))] false r)) fun a => some (.ret a sg2)
 else
 withO (loadC none sg2 (.gp m0 0)) fun p =>
 withA p.1[p.2]? fun r =>
 withA (plainA r) fun a =>
 withOut (bif Nat.blt 31 1000000 then C (31 : FuncId) [a, vI n1] sg2 else none)
 (fun v x =>
 withT v fun vs =>
 bif vs.length.beq 2 then
 withS vs[0]? fun s =>
 withI .i64 vs[1]? fun n =>
 withOut (bif Nat.blt 125 1000000 then C (125 : FuncId) [.gp m0 0, vI n] sg2 else none)
 (fun v x => some (.ret (vS s) sg2)) fun v x => some (.pan v sg2)
 else none)
 fun v x => some (.pan v sg2) := by kernel_rfl
theorem heap_Heap_Give.main (C : CallF) (N : Nat) (m0 : Nat) (n1 : Int) (sg2 : Sg) :
 evalF C N heap_Heap_Give.a [.gp m0 0, vI n1] sg2 =
 if decide (n1 < (2 : Int)) = false then
 withOut (bif Nat.blt 123 1000000 then C (123 : FuncId) [.gp m0 0] sg2 else none)
 (fun v x =>
 withI .i64 (some v) fun n =>
 if decide (n1 ≥ n) = true then
 withOut (bif Nat.blt 26 1000000 then C (26 : FuncId) [.gp m0 0, ofConst (Value.int IntKind.i64 (18 : Int))] sg2 else none)
 (fun v x =>
 withOut (bif Nat.blt 23 1000000 then C (23 : FuncId) [.gp m0 0, ofConst (Value.int IntKind.i64 (1 : Int))] sg2 else none)
 (fun v x =>
 withS (some v) fun s =>
 bif true && Nat.blt 0 1 then
 withOut
 (bif Nat.blt 127 1000000 then
 C (127 : FuncId) [vS s, AVal.gs (List.length sg2) 1 0 1] (sg2 ++ [Box.mk [vI n1]])
 else none)
 (fun v sg' =>
 withT v fun vs =>
 bif vs.length.beq 2 then
 withS vs[0]? fun s =>
 withI .i64 vs[1]? fun n =>
 withOut (bif Nat.blt 125 1000000 then C (125 : FuncId) [.gp m0 0, vI n] sg' else none)
 (fun v x =>
 withOut
 (bif Nat.blt 20 1000000 then C (20 : FuncId) [.gp m0 0, ofConst (Value.int IntKind.i64 (1 : Int)), vS s] sg'
 else none)
 (fun v sg' => some (.ret (.tup []) sg')) fun v sg' => some (.pan v sg'))
 fun v x => some (.pan v sg')
 else none)
 fun v sg' => some (.pan v sg')
 else none)
 fun v x => some (.pan v sg2))
 fun v x => some (.pan v sg2)
 else
 withOut (bif Nat.blt 23 1000000 then C (23 : FuncId) [.gp m0 0, ofConst (Value.int IntKind.i64 (1 : Int))] sg2 else none)
 (fun v x =>
 withS (some v) fun s =>
 bif true && Nat.blt 0 1 then
 withOut
 (bif Nat.blt 127 1000000 then
 C (127 : FuncId) [vS s, AVal.gs (List.length sg2) 1 0 1] (sg2 ++ [Box.mk [vI n1]])
 else none)
 (fun v sg' =>
 withT v fun vs =>
 bif vs.length.beq 2 then
 withS vs[0]? fun s =>
 withI .i64 vs[1]? fun n =>
 withOut (bif Nat.blt 125 1000000 then C (125 : FuncId) [.gp m0 0, vI n] sg' else none)
 (fun v x =>
 withOut
 (bif Nat.blt 20 1000000 then C (20 : FuncId) [.gp m0 0, ofConst (Value.int IntKind.i64 (1 : Int)), vS s] sg'
 else none)
 (fun v sg' => some (.ret (.tup []) sg')) fun v sg' => some (.pan v sg'))
 fun v x => some (.pan v sg')
 else none)
 fun v sg' => some (.pan v sg')
 else none)
 fun v x => some (.pan v sg2))
 fun v x => some (.pan v sg2)
 else
 withOut (bif Nat.blt 26 1000000 then C (26 : FuncId) [.gp m0 0, ofConst (Value.int IntKind.i64 (18 : Int))] sg2 else none)
 (fun v x =>
 withOut (bif Nat.blt 23 1000000 then C (23 : FuncId) [.gp m0 0, ofConst (Value.int IntKind.i64 (1 : Int))] sg2 else none)
 (fun v x =>
 withS (some v) fun s =>
 bif true && Nat.blt 0 1 then
 withOut
 (bif Nat.blt 127 1000000 then
 C (127 : FuncId) [vS s, AVal.gs (List.length sg2) 1 0 1] (sg2 ++ [Box.mk [vI n1]])
 else none)
 (fun v sg' =>
 withT v fun vs =>
 bif vs.length.beq 2 then
 withS vs[0]? fun s =>
 withI .i64 vs[1]? fun n =>
 withOut (bif Nat.blt 125 1000000 then C (125 : FuncId) [.gp m0 0, vI n] sg' else none)
 (fun v x =>
 withOut
 (bif Nat.blt 20 1000000 then C (20 : FuncId) [.gp m0 0, ofConst (Value.int IntKind.i64 (1 : Int)), vS s] sg' else none)
 (fun v sg' => some (.ret (.tup []) sg')) fun v sg' => some (.pan v sg'))
 fun v x => some (.pan v sg')
 else none)
 fun v sg' => some (.pan v sg')
 else none)
 fun v x => some (.pan v sg2))
 fun v x => some (.pan v sg2) := by kernel_rfl
theorem heap_Heap_Stop.main (C : CallF) (N : Nat) (m0 : Nat) (n1 : Int) (sg2 : Sg) :
 evalF C N heap_Heap_Stop.a [.gp m0 0, vI n1] sg2 =
 if (n1 == (0 : Int)) = true then some (.pan (AVal.ifc 182 (AVal.agg [vI (18 : Int)])) sg2)
 else some (.pan (AVal.ifc 182 (AVal.agg [vI n1])) sg2) := by kernel_rfl
theorem heap_Heap_Free.main (C : CallF) (N : Nat) (m0 : Nat) (sg1 : Sg) :
 evalF C N heap_Heap_Free.a [.gp m0 0] sg1 =
 withOut (bif Nat.blt 123 1000000 then C (123 : FuncId) [.gp m0 0] sg1 else none)
 (fun v x =>
 withI .i64 (some v) fun n =>
 withOut (bif Nat.blt 23 1000000 then C (23 : FuncId) [.gp m0 0, ofConst (Value.int IntKind.i64 (1 : Int))] sg1 else none)
 (fun v x =>
 withS (some v) fun s =>
 withOut (bif Nat.blt 123 1000000 then C (123 : FuncId) [.gp m0 0] sg1 else none)
 (fun v x =>
 withI .i64 (some v) fun n_1 =>
 withOut
 (bif Nat.blt 128 1000000 then C (128 : FuncId) [vS s, ofConst (Value.int IntKind.i64 (2 : Int)), vI n_1] []
 else none)
 (fun v x =>
 withI .i64 (some v) fun n_2 => some (.ret (vI (IntKind.i64.wrap (IntKind.i64.wrap (n - (2 : Int)) - n_2))) sg1))
 fun x x_1 => none)
 fun v x => some (.pan v sg1))
 fun v x => some (.pan v sg1))
 fun v x => some (.pan v sg1) := by kernel_rfl
theorem heap_Heap_images.main (C : CallF) (N : Nat) (m0 : Nat) (sg1 : Sg) :
 evalF C N heap_Heap_images.a [.gp m0 0] sg1 =
 withO (loadC none sg1 (.gp m0 1)) fun p =>
 withA p.1[p.2]? fun r =>
 withA (plainA r) fun a =>
 withOut (bif Nat.blt 227 1000000 then C (227 : FuncId) [a] sg1 else none)
 (fun v sg' =>
 withA (plainA v) fun a =>
 withOut (bif Nat.blt 226 1000000 then C (226 : FuncId) [a] sg' else none)
 (fun v sg' =>
 withO (lenV v) fun n =>
 iter (heap_Heap_images.R0 C N) N
 (mkS [0, 3, 13, 14, 15]
 [.v (.gp m0 0) false, .v (.sl true 2 []) true, .v v false, .v (vI (↑n : Int)) false,
 .v (vI (0 : Int)) false]
 [none, none, none, none, none] (.sg sg'))
 (heap_Heap_images.K0 C N))
 fun v sg' => some (.pan v sg'))
 fun v sg' => some (.pan v sg') := by kernel_rfl
theorem heap_Heap_images.r0 (C : CallF) (N : Nat) (m0 : Nat) (b1 : Bool) (l2 : List AVal) (a3 : AVal) (n4 : Int) (n5 : Int) (sg6 : Sg) (k : Ex → St → R) :
 heap_Heap_images.R0 C N
 (mkS [0, 3, 13, 14, 15]
 [.v (.gp m0 0) false, .v (.sl b1 2 l2) true, .v a3 false, .v (vI n4) false, .v (vI n5) false]
 [none, none, none, none, none] (.sg sg6))
 k =
 if decide (n5 < n4) = true then
 withO (elemV 1 n5 a3) fun r =>
 withO (loadC none sg6 r) fun p =>
 withI .i64 p.1[p.2]? fun n =>
 withO (loadC none sg6 (.gp m0 0)) fun p =>
 withA p.1[p.2]? fun r =>
 withA (plainA r) fun a =>
 withOut (bif Nat.blt 31 1000000 then C (31 : FuncId) [a, vI n] sg6 else none)
 (fun v x =>
 withT v fun vs =>
 bif vs.length.beq 2 then
 withS vs[0]? fun s =>
 withI .i64 vs[1]? fun n_1 =>
 withO (loadC none sg6 (.gp m0 1)) fun p =>
 withA p.1[p.2]? fun r =>
 withA (plainA r) fun m =>
 withO (mapV sg6 m) fun p =>
 withO (mGet (vI n) p.2) fun r =>
 withA (plainA (getOr [vS (ByteArray.mk (#[]))] false r)) fun b =>
 withS (some b) fun t =>
 if (!eqS s t) = true then
 withO (loadC none sg6 (.gp m0 1)) fun p =>
 withA p.1[p.2]? fun r =>
 withA (plainA r) fun m =>
 withO (mapV sg6 m) fun p =>
 withO (mGet (vI n) p.2) fun r =>
 withA (plainA (getOr [vS (ByteArray.mk (#[]))] false r)) fun a =>
 bif a.cells.length.beq 1 then
 bindL
 (vI n ::
 (a.cells ++ List.drop (1 + a.cells.length) [vI n, vS (ByteArray.mk (#[]))]))
 fun cs =>
 bif allSz 2 [AVal.agg cs] && Nat.blt 0 2 then
 withO (flatG (sg6 ++ [Box.mk ((AVal.agg cs).cells ++ [])]) 2 (AVal.gs (List.length sg6) 2 0 1))
 fun p =>
 bif p.1.beq 0 then
 k .normal
 (mkS [0, 3, 13, 14, 15]
 [.v (.gp m0 0) false, .v (.sl b1 2 l2) false, .v a3 false,
 .v (vI n4) false,
 .v (vI (IntKind.i64.wrap (n5 + (1 : Int)))) false]
 [none, none, none, none, none] (.sg (sg6 ++ [Box.mk ((AVal.agg cs).cells ++ [])])))
 else
 if p.1 * 24 ≤ 35184372088832 then
 withO (app1 none 2 24 (sg6 ++ [Box.mk ((AVal.agg cs).cells ++ [])]) (.sl b1 2 l2) p.1 p.2)
 fun q =>
 k .normal
 (mkS [0, 3, 13, 14, 15]
 [.v (.gp m0 0) false, .v q.1 false, .v a3 false, .v (vI n4) false,
 .v (vI (IntKind.i64.wrap (n5 + (1 : Int)))) false]
 [none, none, none, none, none] (.sg q.2))
 else none
 else none
 else none
 else
 k .normal
 (mkS [0, 3, 13, 14, 15]
 [.v (.gp m0 0) false, .v (.sl b1 2 l2) true, .v a3 false, .v (vI n4) false,
 .v (vI (IntKind.i64.wrap (n5 + (1 : Int)))) false]
 [none, none, none, none, none] (.sg sg6))
 else none)
 fun v x => some (.pan v sg6)
 else k (.exit 0) (mkS [3] [.v (.sl b1 2 l2) true] [none] (.sg sg6)) := by kernel_rfl
theorem heap_Heap_images.k0_1 (C : CallF) (N : Nat) (b0 : Bool) (l1 : List AVal) (sg2 : Sg) :
 heap_Heap_images.K0 C N (.exit 0) (mkS [3] [.v (.sl b0 2 l1) true] [none] (.sg sg2)) =
 some (.ret (.sl b0 2 l1) sg2) := by kernel_rfl
theorem heap_Heap_images.r0_2 (C : CallF) (N : Nat) (m0 : Nat) (a1 : AVal) (a2 : AVal) (n3 : Int) (n4 : Int) (sg5 : Sg) (k : Ex → St → R) :
 heap_Heap_images.R0 C N
 (mkS [0, 3, 13, 14, 15]
 [.v (.gp m0 0) false, .v a1 false, .v a2 false, .v (vI n3) false, .v (vI n4) false]
 [none, none, none, none, none] (.sg sg5))
 k =
 if decide (n4 < n3) = true then
 withO (elemV 1 n4 a2) fun r =>
 withO (loadC none sg5 r) fun p =>
 withI .i64 p.1[p.2]? fun n =>
 withO (loadC none sg5 (.gp m0 0)) fun p =>
 withA p.1[p.2]? fun r =>
 withA (plainA r) fun a =>
 withOut (bif Nat.blt 31 1000000 then C (31 : FuncId) [a, vI n] sg5 else none)
 (fun v x =>
 withT v fun vs =>
 bif vs.length.beq 2 then
 withS vs[0]? fun s =>
 withI .i64 vs[1]? fun n_1 =>
 withO (loadC none sg5 (.gp m0 1)) fun p =>
 withA p.1[p.2]? fun r =>
 withA (plainA r) fun m =>
 withO (mapV sg5 m) fun p =>
 withO (mGet (vI n) p.2) fun r =>
 withA (plainA (getOr [vS (ByteArray.mk (#[]))] false r)) fun b =>
 withS (some b) fun t =>
 if (!eqS s t) = true then
 withO (loadC none sg5 (.gp m0 1)) fun p =>
 withA p.1[p.2]? fun r =>
 withA (plainA r) fun m =>
 withO (mapV sg5 m) fun p =>
 withO (mGet (vI n) p.2) fun r =>
 withA (plainA (getOr [vS (ByteArray.mk (#[]))] false r)) fun a =>
 bif a.cells.length.beq 1 then
 bindL
 (vI n ::
 (a.cells ++ List.drop (1 + a.cells.length) [vI n, vS (ByteArray.mk (#[]))]))
 fun cs =>
 bif allSz 2 [AVal.agg cs] && Nat.blt 0 2 then
 withO (flatG (sg5 ++ [Box.mk ((AVal.agg cs).cells ++ [])]) 2 (AVal.gs (List.length sg5) 2 0 1))
 fun p =>
 bif p.1.beq 0 then
 withO (app0 2 a1) fun r =>
 k .normal
 (mkS [0, 3, 13, 14, 15]
 [.v (.gp m0 0) false, .v r false, .v a2 false, .v (vI n3) false,
 .v (vI (IntKind.i64.wrap (n4 + (1 : Int)))) false]
 [none, none, none, none, none] (.sg (sg5 ++ [Box.mk ((AVal.agg cs).cells ++ [])])))
 else
 if p.1 * 24 ≤ 35184372088832 then
 withO (app1 none 2 24 (sg5 ++ [Box.mk ((AVal.agg cs).cells ++ [])]) a1 p.1 p.2) fun q =>
 k .normal
 (mkS [0, 3, 13, 14, 15]
 [.v (.gp m0 0) false, .v q.1 false, .v a2 false, .v (vI n3) false,
 .v (vI (IntKind.i64.wrap (n4 + (1 : Int)))) false]
 [none, none, none, none, none] (.sg q.2))
 else none
 else none
 else none
 else
 k .normal
 (mkS [0, 3, 13, 14, 15]
 [.v (.gp m0 0) false, .v a1 false, .v a2 false, .v (vI n3) false,
 .v (vI (IntKind.i64.wrap (n4 + (1 : Int)))) false]
 [none, none, none, none, none] (.sg sg5))
 else none)
 fun v x => some (.pan v sg5)
 else k (.exit 0) (mkS [3] [.v a1 false] [none] (.sg sg5)) := by kernel_rfl
theorem heap_Heap_images.k0_2 (C : CallF) (N : Nat) (a0 : AVal) (sg1 : Sg) :
 heap_Heap_images.K0 C N (.exit 0) (mkS [3] [.v a0 false] [none] (.sg sg1)) =
 withA (jk a0) fun a => some (.ret a sg1) := by kernel_rfl
theorem heap_Heap_Pages.main (C : CallF) (N : Nat) (m0 : Nat) (sg1 : Sg) :
 evalF C N heap_Heap_Pages.a [.gp m0 0] sg1 =
 withO (loadC none sg1 (.gp m0 0)) fun p =>
 withA p.1[p.2]? fun r =>
 withA (plainA r) fun a =>
 withOut (bif Nat.blt 35 1000000 then C (35 : FuncId) [a] sg1 else none)
 (fun v x => withI .i64 (some v) fun n => some (.ret (vI n) sg1)) fun v x => some (.pan v sg1) := by kernel_rfl
theorem bitmap_Take.main (C : CallF) (N : Nat) (s0 : ByteArray) (n1 : Int) (n2 : Int) (n3 : Int) (sg4 : Sg) :
 evalF C N bitmap_Take.a [vS s0, vI n1, vI n2, vI n3] sg4 =
 withOut
 (bif Nat.blt 228 1000000 then
 C (228 : FuncId) [vS s0, vI n1, vI n2, vI n3] []
 else none)
 (fun v sg' =>
 withO (thaw 8 sg' v) fun v =>
 withT v fun vs =>
 bif vs.length.beq 2 then
 withA vs[0]? fun a =>
 withI .i64 vs[1]? fun n =>
 bif noG (AVal.tup [a, vI n]) then
 if (n != (0 : Int)) = true then some (.ret (.tup [.sl true 1 [], vS (ByteArray.mk (#[])), vI n]) sg4)
 else
 withA (plainA a) fun a_1 =>
 withOut (bif Nat.blt 229 1000000 then C (229 : FuncId) [vS s0, a_1, ofConst (Value.bool true)] sg4 else none)
 (fun v sg' =>
 withT v fun vs =>
 bif vs.length.beq 2 then
 withS vs[0]? fun s =>
 withI .i64 vs[1]? fun n =>
 withA (jk a) fun a => some (.ret (.tup [a, vS s, vI n]) sg')
 else none)
 fun v sg' => some (.pan v sg')
 else none
 else none)
 fun x x_1 => none := by kernel_rfl
theorem heap_Heap_must.main (C : CallF) (N : Nat) (m0 : Nat) (n1 : Int) (sg2 : Sg) :
 evalF C N heap_Heap_must.a [.gp m0 0, vI n1] sg2 =
 if (n1 != (0 : Int)) = true then
 withOut (bif Nat.blt 26 1000000 then C (26 : FuncId) [.gp m0 0, vI n1] sg2 else none)
 (fun v x => some (.ret (.tup []) sg2)) fun v x => some (.pan v sg2)
 else some (.ret (.tup []) sg2) := by kernel_rfl
theorem bitmap_Give.main (C : CallF) (N : Nat) (s0 : ByteArray) (a1 : AVal) (sg2 : Sg) :
 evalF C N bitmap_Give.a [vS s0, a1] sg2 =
 withA (plainA a1) fun a =>
 withOut (bif Nat.blt 229 1000000 then C (229 : FuncId) [vS s0, a, ofConst (Value.bool false)] sg2 else none)
 (fun v sg' =>
 withT v fun vs =>
 bif vs.length.beq 2 then
 withS vs[0]? fun s => withI .i64 vs[1]? fun n => some (.ret (.tup [vS s, vI n]) sg')
 else none)
 fun v sg' => some (.pan v sg') := by kernel_rfl
theorem bitmap_Many.main (C : CallF) (N : Nat) (s0 : ByteArray) (n1 : Int) (n2 : Int) (sg3 : Sg) :
 evalF C N bitmap_Many.a [vS s0, vI n1, vI n2] sg3 =
 withOut (bif Nat.blt 231 1000000 then C (231 : FuncId) [vS s0] [] else none)
 (fun v x =>
 withB (some v) fun b =>
 if (!b) = true then some (.ret (vI (0 : Int)) sg3)
 else
 iter (bitmap_Many.R0 C N) N
 (mkS [0, 2, 7, 8]
 [.v (vS s0) false, .v (vI (bif false then max2 n2 (3840 : Int) else min2 n2 (3840 : Int))) false,
 .v (vI (0 : Int)) false, .v (vI (bif true then max2 n1 (0 : Int) else min2 n1 (0 : Int))) false]
 [none, none, none, none] (.sg sg3))
 (bitmap_Many.K0 C N))
 fun x x_1 => none := by kernel_rfl
theorem bitmap_Many.r0 (C : CallF) (N : Nat) (s0 : ByteArray) (n1 : Int) (n2 : Int) (n3 : Int) (sg4 : Sg) (k : Ex → St → R) :
 bitmap_Many.R0 C N
 (mkS [0, 2, 7, 8]
 [.v (vS s0) false, .v (vI n1) false, .v (vI n2) false, .v (vI n3) false]
 [none, none, none, none] (.sg sg4))
 k =
 if decide (n3 < n1) = true then
 if (8 : Int) = (0 : Int) then none
 else
 if (n3.tmod (8 : Int) == (0 : Int)) = true then
 if decide (IntKind.i64.wrap (n3 + (8 : Int)) ≤ n1) = true then
 if (8 : Int) = (0 : Int) then none
 else
 if (0 : Int) ≤ IntKind.i64.wrap (n3.tdiv (8 : Int)) ∧ IntKind.i64.wrap (n3.tdiv (8 : Int)) < (↑s0.size : Int) then
 withOut
 (bif Nat.blt 232 1000000 then
 C (232 : FuncId) [v8 (↑(s0.data.toList.getD (IntKind.i64.wrap (n3.tdiv (8 : Int))).toNat (0 : UInt8)).toNat : Int)] []
 else none)
 (fun v x =>
 withI .i64 (some v) fun n =>
 k .normal
 (mkS [0, 2, 7, 8]
 [.v (vS s0) false, .v (vI n1) false, .v (vI (IntKind.i64.wrap (n2 + n))) false,
 .v (vI (IntKind.i64.wrap (n3 + (8 : Int)))) false]
 [none, none, none, none] (.sg sg4)))
 fun x x_1 => none
 else none
 else
 withOut (bif Nat.blt 233 1000000 then C (233 : FuncId) [vS s0, vI n3] [] else none)
 (fun v x =>
 withB (some v) fun b =>
 if b = true then
 k .normal
 (mkS [0, 2, 7, 8]
 [.v (vS s0) false, .v (vI n1) false, .v (vI (IntKind.i64.wrap (n2 + (1 : Int)))) false,
 .v (vI (IntKind.i64.wrap (n3 + (1 : Int)))) false]
 [none, none, none, none] (.sg sg4))
 else
 k .normal
 (mkS [0, 2, 7, 8]
 [.v (vS s0) false, .v (vI n1) false, .v (vI n2) false,
 .v (vI (IntKind.i64.wrap (n3 + (1 : Int)))) false]
 [none, none, none, none] (.sg sg4)))
 fun x x_1 => none
 else
 withOut (bif Nat.blt 233 1000000 then C (233 : FuncId) [vS s0, vI n3] [] else none)
 (fun v x =>
 withB (some v) fun b =>
 if b = true then
 k .normal
 (mkS [0, 2, 7, 8]
 [.v (vS s0) false, .v (vI n1) false, .v (vI (IntKind.i64.wrap (n2 + (1 : Int)))) false,
 .v (vI (IntKind.i64.wrap (n3 + (1 : Int)))) false]
 [none, none, none, none] (.sg sg4))
 else
 k .normal
 (mkS [0, 2, 7, 8]
 [.v (vS s0) false, .v (vI n1) false, .v (vI n2) false,
 .v (vI (IntKind.i64.wrap (n3 + (1 : Int)))) false]
 [none, none, none, none] (.sg sg4)))
 fun x x_1 => none
 else k (.exit 0) (mkS [7] [.v (vI n2) false] [none] (.sg sg4)) := by kernel_rfl
theorem bitmap_Many.k0_1 (C : CallF) (N : Nat) (n0 : Int) (sg1 : Sg) :
 bitmap_Many.K0 C N (.exit 0) (mkS [7] [.v (vI n0) false] [none] (.sg sg1)) =
 some (.ret (vI n0) sg1) := by kernel_rfl
theorem maps_Keys_map_intstring_int_string.main (C : CallF) (N : Nat) (a0 : AVal) (sg1 : Sg) :
 evalF C N maps_Keys_map_intstring_int_string.a [a0] sg1 =
 withA (plainA a0) fun a => some (.ret (AVal.clo 320 [] [.gp (List.length sg1) 0]) (sg1 ++ [Box.mk a.cells])) := by kernel_rfl
theorem bitmap_Lowest.main (C : CallF) (N : Nat) (s0 : ByteArray) (n1 : Int) (n2 : Int) (n3 : Int) (sg4 : Sg) :
 evalF C N bitmap_Lowest.a [vS s0, vI n1, vI n2, vI n3] sg4 =
 withOut (bif Nat.blt 321 1000000 then C (321 : FuncId) [vS s0, vI n1, vI n2] [] else none)
 (fun v x =>
 withB (some v) fun b =>
 if (!b) = false then
 if decide (n3 < (0 : Int)) = true then some (.ret (.tup [.sl true 1 [], vI (18 : Int)]) sg4)
 else
 withOut
 (bif Nat.blt 322 1000000 then
 C (322 : FuncId) [vS s0, vI n1, vI n2, vI n3] []
 else none)
 (fun v sg' =>
 withO (thaw 8 sg' v) fun v =>
 bif noG v then
 withO (lenV v) fun n =>
 if decide ((↑n : Int) < n3) = true then some (.ret (.tup [.sl true 1 [], vI (13 : Int)]) sg4)
 else withA (jk v) fun a => some (.ret (.tup [a, vI (0 : Int)]) sg4)
 else none)
 fun x x_1 => none
 else some (.ret (.tup [.sl true 1 [], vI (18 : Int)]) sg4))
 fun x x_1 => none := by kernel_rfl
theorem bitmap_turn.main (C : CallF) (N : Nat) (s0 : ByteArray) (a1 : AVal) (b2 : Bool) (sg3 : Sg) :
 evalF C N bitmap_turn.a [vS s0, a1, vB b2] sg3 =
 withO (lenV a1) fun n =>
 iter (bitmap_turn.R0 C N) N
 (mkS [3, 5, 8, 13, 14, 15]
 [.v (.gp (List.length sg3) 0) false, .v (.gp (List.length (sg3 ++ [Box.mk [vS s0]])) 0) false,
 .v (.clo 323 [] [.gp (List.length sg3) 0, .gp (List.length (sg3 ++ [Box.mk [vS s0]])) 0]) false, .v a1 false,
 .v (vI (↑n : Int)) false, .v (vI (0 : Int)) false]
 [none, none, none, none, none, none] (.sg (sg3 ++ [Box.mk [vS s0]] ++ [Box.mk [vB b2]])))
 (bitmap_turn.K0 C N) := by kernel_rfl
theorem bitmap_turn.r0 (C : CallF) (N : Nat) (m0 : Nat) (m1 : Nat) (m2 : Nat) (m3 : Nat) (a4 : AVal) (n5 : Int) (n6 : Int) (sg7 : Sg) (k : Ex → St → R) :
 bitmap_turn.R0 C N
 (mkS [3, 5, 8, 13, 14, 15]
 [.v (.gp m0 0) false, .v (.gp m1 0) false, .v (.clo 323 [] [.gp m2 0, .gp m3 0]) false, .v a4 false,
 .v (vI n5) false, .v (vI n6) false]
 [none, none, none, none, none, none] (.sg sg7))
 k =
 if decide (n6 < n5) = true then
 withO (elemV 1 n6 a4) fun r =>
 withO (loadC none sg7 r) fun p =>
 withI .i64 p.1[p.2]? fun n =>
 withOut (bif Nat.blt 323 1000000 then C 323 ([] ++ ([vI n] ++ [.gp m2 0, .gp m3 0])) sg7 else none)
 (fun v sg' =>
 withB (some v) fun b =>
 if b = true then
 k .ret (mkS [6, 7] [.v (vS (ByteArray.mk (#[]))) false, .v (vI (18 : Int)) false] [none, none] (.sg sg'))
 else
 withO (loadC none sg' (.gp m0 0)) fun p =>
 withS p.1[p.2]? fun s =>
 withO (loadC none sg' (.gp m1 0)) fun p =>
 withB p.1[p.2]? fun b =>
 withOut (bif Nat.blt 325 1000000 then C (325 : FuncId) [vS s, vI n, vB b] [] else none)
 (fun v x =>
 withT v fun vs =>
 bif vs.length.beq 2 then
 withS vs[0]? fun s =>
 withI .i64 vs[1]? fun n =>
 withO (storeG none sg' (.gp m0 0) 1 (vS s)) fun sg =>
 if (n != (0 : Int)) = true then
 k .ret
 (mkS [6, 7] [.v (vS (ByteArray.mk (#[]))) false, .v (vI n) false] [none, none]
 (.sg sg))
 else
 k .normal
 (mkS [3, 5, 8, 13, 14, 15]
 [.v (.gp m0 0) false, .v (.gp m1 0) false,
 .v (.clo 323 [] [.gp m2 0, .gp m3 0]) false, .v a4 false, .v (vI n5) false,
 .v (vI (IntKind.i64.wrap (n6 + (1 : Int)))) false]
 [none, none, none, none, none, none] (.sg sg))
 else none)
 fun x x_1 => none)
 fun v sg' => some (.pan v sg')
 else k (.exit 0) (mkS [3] [.v (.gp m0 0) false] [none] (.sg sg7)) := by kernel_rfl
theorem bitmap_turn.k0_1 (C : CallF) (N : Nat) (s0 : ByteArray) (n1 : Int) (sg2 : Sg) :
 bitmap_turn.K0 C N .ret (mkS [6, 7] [.v (vS s0) false, .v (vI n1) false] [none, none] (.sg sg2)) =
 some (.ret (.tup [vS s0, vI n1]) sg2) := by kernel_rfl
theorem bitmap_turn.k0_2 (C : CallF) (N : Nat) (m0 : Nat) (sg1 : Sg) :
 bitmap_turn.K0 C N (.exit 0) (mkS [3] [.v (.gp m0 0) false] [none] (.sg sg1)) =
 withO (loadC none sg1 (.gp m0 0)) fun p =>
 withS p.1[p.2]? fun s =>
 withOut (bif Nat.blt 231 1000000 then C (231 : FuncId) [vS s] [] else none)
 (fun v x =>
 withB (some v) fun b =>
 if (!b) = true then some (.ret (.tup [vS (ByteArray.mk (#[])), vI (18 : Int)]) sg1)
 else
 withO (loadC none sg1 (.gp m0 0)) fun p =>
 withS p.1[p.2]? fun s => some (.ret (.tup [vS s, vI (0 : Int)]) sg1))
 fun x x_1 => none := by kernel_rfl
theorem bitmap_is.main (C : CallF) (N : Nat) (s0 : ByteArray) (sg1 : Sg) :
 evalF C N bitmap_is.a [vS s0] sg1 =
 some (.ret (vB ((↑s0.size : Int) == (480 : Int))) sg1) := by kernel_rfl
theorem bitmap_Used.main (C : CallF) (N : Nat) (s0 : ByteArray) (n1 : Int) (sg2 : Sg) :
 evalF C N bitmap_Used.a [vS s0, vI n1] sg2 =
 withOut (bif Nat.blt 231 1000000 then C (231 : FuncId) [vS s0] [] else none)
 (fun v x =>
 withB (some v) fun b =>
 if b = true then
 withOut (bif Nat.blt 324 1000000 then C (324 : FuncId) [vI n1] [] else none)
 (fun v x =>
 withB (some v) fun b =>
 if b = true then
 if (8 : Int) = (0 : Int) then none
 else
 if (0 : Int) ≤ IntKind.i64.wrap (n1.tdiv (8 : Int)) ∧ IntKind.i64.wrap (n1.tdiv (8 : Int)) < (↑s0.size : Int) then
 if (8 : Int) = (0 : Int) then none
 else
 if n1.tmod (8 : Int) < (0 : Int) then none
 else
 some
 (Out.ret
 (AVal.at
 (Value.bool
 (bitsI BinOp.and IntKind.u8
 (shiftI BinOp.shr IntKind.u8 (↑(s0.data.toList.getD (IntKind.i64.wrap (n1.tdiv (8 : Int))).toNat (0 : UInt8)).toNat : Int) (n1.tmod (8 : Int))) (1 : Int) ==
 (1 : Int))))
 sg2)
 else none
 else some (.ret (vB false) sg2))
 fun x x_1 => none
 else some (.ret (vB false) sg2))
 fun x x_1 => none := by kernel_rfl
theorem bitmap_within.main (C : CallF) (N : Nat) (s0 : ByteArray) (n1 : Int) (n2 : Int) (sg3 : Sg) :
 evalF C N bitmap_within.a [vS s0, vI n1, vI n2] sg3 =
 withOut (bif Nat.blt 231 1000000 then C (231 : FuncId) [vS s0] [] else none)
 (fun v x =>
 withB (some v) fun b =>
 if b = true then
 if decide (n1 ≥ (0 : Int)) = true then
 if decide (n1 ≤ n2) = true then some (.ret (vB (decide (n2 ≤ (3840 : Int)))) sg3) else some (.ret (vB false) sg3)
 else some (.ret (vB false) sg3)
 else some (.ret (vB false) sg3))
 fun x x_1 => none := by kernel_rfl
theorem bitmap_free.main (C : CallF) (N : Nat) (s0 : ByteArray) (n1 : Int) (n2 : Int) (n3 : Int) (sg4 : Sg) :
 evalF C N bitmap_free.a [vS s0, vI n1, vI n2, vI n3] sg4 =
 iter (bitmap_free.R0 C N) N
 (mkS [0, 2, 3, 9, 10]
 [.v (vS s0) false, .v (vI n2) false, .v (vI n3) false, .v (.sl true 1 []) true,
 .v (vI n1) false]
 [none, none, none, none, none] (.sg sg4))
 (bitmap_free.K0 C N) := by kernel_rfl
theorem bitmap_free.r0 (C : CallF) (N : Nat) (s0 : ByteArray) (n1 : Int) (n2 : Int) (b3 : Bool) (l4 : List AVal) (n5 : Int) (sg6 : Sg) (k : Ex → St → R) :
 bitmap_free.R0 C N
 (mkS [0, 2, 3, 9, 10]
 [.v (vS s0) false, .v (vI n1) false, .v (vI n2) false, .v (.sl b3 1 l4) true,
 .v (vI n5) false]
 [none, none, none, none, none] (.sg sg6))
 k =
 if decide (n5 < n1) = true then
 if decide ((↑l4.length : Int) < n2) = true then
 withOut (bif Nat.blt 233 1000000 then C (233 : FuncId) [vS s0, vI n5] [] else none)
 (fun v x =>
 withB (some v) fun b =>
 if (!b) = true then
 bif true && Nat.blt 0 1 then
 withO (flatG (sg6 ++ [Box.mk [vI n5]]) 1 (AVal.gs (List.length sg6) 1 0 1)) fun p =>
 bif p.1.beq 0 then
 k .normal
 (mkS [0, 2, 3, 9, 10]
 [.v (vS s0) false, .v (vI n1) false, .v (vI n2) false,
 .v (.sl b3 1 l4) false, .v (vI (IntKind.i64.wrap (n5 + (1 : Int)))) false]
 [none, none, none, none, none] (.sg (sg6 ++ [Box.mk [vI n5]])))
 else
 if p.1 * 8 ≤ 35184372088832 then
 withO (app1 none 1 8 (sg6 ++ [Box.mk [vI n5]]) (.sl b3 1 l4) p.1 p.2) fun q =>
 k .normal
 (mkS [0, 2, 3, 9, 10]
 [.v (vS s0) false, .v (vI n1) false, .v (vI n2) false, .v q.1 false,
 .v (vI (IntKind.i64.wrap (n5 + (1 : Int)))) false]
 [none, none, none, none, none] (.sg q.2))
 else none
 else none
 else
 k .normal
 (mkS [0, 2, 3, 9, 10]
 [.v (vS s0) false, .v (vI n1) false, .v (vI n2) false, .v (.sl b3 1 l4) true,
 .v (vI (IntKind.i64.wrap (n5 + (1 : Int)))) false]
 [none, none, none, none, none] (.sg sg6)))
 fun x x_1 => none
 else k (.exit 0) (mkS [9] [.v (.sl b3 1 l4) true] [none] (.sg sg6))
 else k (.exit 0) (mkS [9] [.v (.sl b3 1 l4) true] [none] (.sg sg6)) := by kernel_rfl
theorem bitmap_free.k0_1 (C : CallF) (N : Nat) (b0 : Bool) (l1 : List AVal) (sg2 : Sg) :
 bitmap_free.K0 C N (.exit 0) (mkS [9] [.v (.sl b0 1 l1) true] [none] (.sg sg2)) =
 some (.ret (.sl b0 1 l1) sg2) := by kernel_rfl
theorem bitmap_free.r0_2 (C : CallF) (N : Nat) (s0 : ByteArray) (n1 : Int) (n2 : Int) (a3 : AVal) (n4 : Int) (sg5 : Sg) (k : Ex → St → R) :
 bitmap_free.R0 C N
 (mkS [0, 2, 3, 9, 10]
 [.v (vS s0) false, .v (vI n1) false, .v (vI n2) false, .v a3 false,
 .v (vI n4) false]
 [none, none, none, none, none] (.sg sg5))
 k =
 if decide (n4 < n1) = true then
 withO (lenV a3) fun n =>
 if decide ((↑n : Int) < n2) = true then
 withOut (bif Nat.blt 233 1000000 then C (233 : FuncId) [vS s0, vI n4] [] else none)
 (fun v x =>
 withB (some v) fun b =>
 if (!b) = true then
 bif true && Nat.blt 0 1 then
 withO (flatG (sg5 ++ [Box.mk [vI n4]]) 1 (AVal.gs (List.length sg5) 1 0 1)) fun p =>
 bif p.1.beq 0 then
 withO (app0 1 a3) fun r =>
 k .normal
 (mkS [0, 2, 3, 9, 10]
 [.v (vS s0) false, .v (vI n1) false, .v (vI n2) false, .v r false,
 .v (vI (IntKind.i64.wrap (n4 + (1 : Int)))) false]
 [none, none, none, none, none] (.sg (sg5 ++ [Box.mk [vI n4]])))
 else
 if p.1 * 8 ≤ 35184372088832 then
 withO (app1 none 1 8 (sg5 ++ [Box.mk [vI n4]]) a3 p.1 p.2) fun q =>
 k .normal
 (mkS [0, 2, 3, 9, 10]
 [.v (vS s0) false, .v (vI n1) false, .v (vI n2) false, .v q.1 false,
 .v (vI (IntKind.i64.wrap (n4 + (1 : Int)))) false]
 [none, none, none, none, none] (.sg q.2))
 else none
 else none
 else
 k .normal
 (mkS [0, 2, 3, 9, 10]
 [.v (vS s0) false, .v (vI n1) false, .v (vI n2) false, .v a3 false,
 .v (vI (IntKind.i64.wrap (n4 + (1 : Int)))) false]
 [none, none, none, none, none] (.sg sg5)))
 fun x x_1 => none
 else k (.exit 0) (mkS [9] [.v a3 false] [none] (.sg sg5))
 else k (.exit 0) (mkS [9] [.v a3 false] [none] (.sg sg5)) := by kernel_rfl
theorem bitmap_free.k0_2 (C : CallF) (N : Nat) (a0 : AVal) (sg1 : Sg) :
 bitmap_free.K0 C N (.exit 0) (mkS [9] [.v a0 false] [none] (.sg sg1)) =
 withA (jk a0) fun a => some (.ret a sg1) := by kernel_rfl
theorem bitmap_turn_1.main (C : CallF) (N : Nat) (n0 : Int) (m1 : Nat) (m2 : Nat) (sg3 : Sg) :
 evalF C N bitmap_turn_1.a [vI n0, .gp m1 0, .gp m2 0] sg3 =
 withOut (bif Nat.blt 324 1000000 then C (324 : FuncId) [vI n0] [] else none)
 (fun v x =>
 withB (some v) fun b =>
 if (!b) = false then
 withO (loadC none sg3 (.gp m1 0)) fun p =>
 withS p.1[p.2]? fun s =>
 withOut (bif Nat.blt 233 1000000 then C (233 : FuncId) [vS s, vI n0] [] else none)
 (fun v x =>
 withB (some v) fun b =>
 withO (loadC none sg3 (.gp m2 0)) fun p => withB p.1[p.2]? fun b_1 => some (.ret (vB (false ^^ b == b_1)) sg3))
 fun x x_1 => none
 else some (.ret (vB true) sg3))
 fun x x_1 => none := by kernel_rfl
theorem bitmap_page.main (C : CallF) (N : Nat) (n0 : Int) (sg1 : Sg) :
 evalF C N bitmap_page.a [vI n0] sg1 =
 if decide (n0 ≥ (0 : Int)) = true then some (.ret (vB (decide (n0 < (3840 : Int)))) sg1) else some (.ret (vB false) sg1) := by kernel_rfl
theorem bitmap_Set.main (C : CallF) (N : Nat) (s0 : ByteArray) (n1 : Int) (b2 : Bool) (sg3 : Sg) :
 evalF C N bitmap_Set.a [vS s0, vI n1, vB b2] sg3 =
 withOut (bif Nat.blt 231 1000000 then C (231 : FuncId) [vS s0] [] else none)
 (fun v x =>
 withB (some v) fun b =>
 if (!b) = false then
 withOut (bif Nat.blt 324 1000000 then C (324 : FuncId) [vI n1] [] else none)
 (fun v x =>
 withB (some v) fun b =>
 if (!b) = true then some (.ret (.tup [vS (ByteArray.mk (#[])), vI (18 : Int)]) sg3)
 else
 if (8 : Int) = (0 : Int) then none
 else
 if (0 : Int) ≤ IntKind.i64.wrap (n1.tdiv (8 : Int)) ∧ IntKind.i64.wrap (n1.tdiv (8 : Int)) < (↑s0.size : Int) then
 withI IntKind.u8 (ofBytes s0.data.toList)[0 + (IntKind.i64.wrap (n1.tdiv (8 : Int))).toNat * 1]? fun n =>
 if (8 : Int) = (0 : Int) then none
 else
 if n1.tmod (8 : Int) < (0 : Int) then none
 else
 if (0 : Int) ≤ IntKind.i64.wrap (n1.tdiv (8 : Int)) ∧ IntKind.i64.wrap (n1.tdiv (8 : Int)) < (↑s0.size : Int) then
 bif (0 + (IntKind.i64.wrap (n1.tdiv (8 : Int))).toNat * 1 + 1).ble (ofBytes s0.data.toList).length then
 bindL
 (splice (ofBytes s0.data.toList) (0 + (IntKind.i64.wrap (n1.tdiv (8 : Int))).toNat * 1)
 [v8 (bitsI BinOp.andNot IntKind.u8 n (shiftI BinOp.shl IntKind.u8 (1 : Int) (n1.tmod (8 : Int))))])
 fun cs =>
 if b2 = true then
 if (8 : Int) = (0 : Int) then none
 else
 if (0 : Int) ≤ IntKind.i64.wrap (n1.tdiv (8 : Int)) ∧ IntKind.i64.wrap (n1.tdiv (8 : Int)) < (↑s0.size : Int) then
 withI IntKind.u8 cs[0 + (IntKind.i64.wrap (n1.tdiv (8 : Int))).toNat * 1]? fun n =>
 if (8 : Int) = (0 : Int) then none
 else
 if n1.tmod (8 : Int) < (0 : Int) then none
 else
 if (0 : Int) ≤ IntKind.i64.wrap (n1.tdiv (8 : Int)) ∧ IntKind.i64.wrap (n1.tdiv (8 : Int)) < (↑s0.size : Int) then
 bif (0 + (IntKind.i64.wrap (n1.tdiv (8 : Int))).toNat * 1 + 1).ble cs.length then
 bindL
 (splice cs (0 + (IntKind.i64.wrap (n1.tdiv (8 : Int))).toNat * 1)
 [v8 (bitsI BinOp.or IntKind.u8 n (shiftI BinOp.shl IntKind.u8 (1 : Int) (n1.tmod (8 : Int))))])
 fun cs =>
 withO (bytesOf (List.take s0.size cs)) fun bs =>
 if bs.length = s0.size then some (.ret (.tup [vS (ByteArray.mk (bs.toArray)), vI (0 : Int)]) sg3)
 else none
 else none
 else none
 else none
 else
 withO (bytesOf (List.take s0.size cs)) fun bs =>
 if bs.length = s0.size then some (.ret (.tup [vS (ByteArray.mk (bs.toArray)), vI (0 : Int)]) sg3) else none
 else none
 else none
 else none)
 fun x x_1 => none
 else some (.ret (.tup [vS (ByteArray.mk (#[])), vI (18 : Int)]) sg3))
 fun x x_1 => none := by kernel_rfl
theorem law11_Made.main (C : CallF) (N : Nat) (n0 : Int) (n1 : Int) (sg2 : Sg) :
 evalF C N law11_Made.a [vI n0, vI n1] sg2 =
 withOut (bif Nat.blt 41 1000000 then C (41 : FuncId) [vI n0, vI n1] [] else none)
 (fun v x =>
 withT v fun vs =>
 bif vs.length.beq 2 then
 withI .i64 vs[0]? fun n =>
 withI .i64 vs[1]? fun n_1 =>
 if (n_1 != (0 : Int)) = false then
 if decide (n > (80 : Int)) = true then some (.ret (.tup [AVal.at (Value.pointer none), AVal.at (Value.pointer none), vB false]) sg2)
 else
 withOut (bif Nat.blt 43 1000000 then C (43 : FuncId) [vI n] sg2 else none)
 (fun v sg' =>
 withT v fun vs =>
 bif vs.length.beq 2 then
 withA vs[0]? fun a =>
 withI .i64 vs[1]? fun n =>
 withA (plainA a) fun a_1 =>
 withOut (bif Nat.blt 29 1000000 then C (29 : FuncId) [a_1, vI n0, vI n1] sg' else none)
 (fun v sg' =>
 withT v fun vs =>
 bif vs.length.beq 2 then
 withA vs[0]? fun a_2 =>
 withI .i64 vs[1]? fun n_2 =>
 if (n == (0 : Int)) = true then
 if (n_2 == (0 : Int)) = true then
 withO (isNil 1 (.v a_2 false)) fun b =>
 if (true ^^ b) = true then
 withO (isNil 1 (.v a false)) fun b =>
 withA (jk a_2) fun a_3 => withA (jk a) fun a => some (.ret (.tup [a_3, a, vB (true ^^ b)]) sg')
 else withA (jk a_2) fun a_3 => withA (jk a) fun a => some (.ret (.tup [a_3, a, vB false]) sg')
 else withA (jk a_2) fun a_3 => withA (jk a) fun a => some (.ret (.tup [a_3, a, vB false]) sg')
 else withA (jk a_2) fun a_3 => withA (jk a) fun a => some (.ret (.tup [a_3, a, vB false]) sg')
 else none)
 fun v sg' => some (.pan v sg')
 else none)
 fun v sg' => some (.pan v sg')
 else some (.ret (.tup [AVal.at (Value.pointer none), AVal.at (Value.pointer none), vB false]) sg2)
 else none)
 fun x x_1 => none := by kernel_rfl
theorem octets_Open.main (C : CallF) (N : Nat) (s0 : ByteArray) (sg1 : Sg) :
 evalF C N octets_Open.a [vS s0] sg1 =
 some (.ret (.gp (List.length sg1) 0) (sg1 ++ [Box.mk [vS s0, vI (0 : Int)]])) := by kernel_rfl
theorem octets_Reader_Num.main (C : CallF) (N : Nat) (m0 : Nat) (n1 : Int) (sg2 : Sg) :
 evalF C N octets_Reader_Num.a [.gp m0 0, vI n1] sg2 =
 withOut (bif Nat.blt 277 1000000 then C (277 : FuncId) [vI n1] [] else none)
 (fun v x =>
 withB (some v) fun b =>
 if (!b) = true then
 withOut (bif Nat.blt 278 1000000 then C (278 : FuncId) [.gp m0 0, vI (-1 : Int)] sg2 else none)
 (fun v sg' =>
 withS (some v) fun s =>
 iter (octets_Reader_Num.R0 C N) N
 (mkS [5, 14, 15, 16]
 [.v (vU (0 : Int)) false, Slot.ls 14 0 s.size, .v (vI (↑s.size : Int)) false,
 .v (vI (0 : Int)) false]
 [none, some (Box.mk (ofBytes s.data.toList)), none, none] (.sg sg'))
 (octets_Reader_Num.K0 C N))
 fun v sg' => some (.pan v sg')
 else
 withOut (bif Nat.blt 278 1000000 then C (278 : FuncId) [.gp m0 0, vI n1] sg2 else none)
 (fun v sg' =>
 withS (some v) fun s =>
 iter (octets_Reader_Num.R0 C N) N
 (mkS [5, 14, 15, 16]
 [.v (vU (0 : Int)) false, Slot.ls 14 0 s.size, .v (vI (↑s.size : Int)) false,
 .v (vI (0 : Int)) false]
 [none, some (Box.mk (ofBytes s.data.toList)), none, none] (.sg sg'))
 (octets_Reader_Num.K0 C N))
 fun v sg' => some (.pan v sg'))
 fun x x_1 => none := by kernel_rfl
theorem octets_Reader_Num.r0 (C : CallF) (N : Nat) (n0 : Int) (m1 : Nat) (n2 : Int) (n3 : Int) (l4 : List AVal) (sg5 : Sg) (k : Ex → St → R) :
 octets_Reader_Num.R0 C N
 (mkS [5, 14, 15, 16]
 [.v (vU n0) false, Slot.ls 14 0 m1, .v (vI n2) false, .v (vI n3) false]
 [none, some (Box.mk l4), none, none] (.sg sg5))
 k =
 if decide (n3 < n2) = true then
 if (0 : Int) ≤ n3 ∧ n3 < (↑m1 : Int) then
 withI IntKind.u8 l4[0 + n3.toNat * 1]? fun n =>
 if (8 : Int) < (0 : Int) then none
 else
 k .normal
 (mkS [5, 14, 15, 16]
 [.v (vU (bitsI BinOp.or IntKind.u64 (shiftI BinOp.shl IntKind.u64 n0 (8 : Int)) (IntKind.u64.wrap n))) false, Slot.ls 14 0 m1,
 .v (vI n2) false, .v (vI (IntKind.i64.wrap (n3 + (1 : Int)))) false]
 [none, some (Box.mk l4), none, none] (.sg sg5))
 else none
 else k (.exit 0) (mkS [5] [.v (vU n0) false] [none] (.sg sg5)) := by kernel_rfl
theorem octets_Reader_Num.k0_1 (C : CallF) (N : Nat) (n0 : Int) (sg1 : Sg) :
 octets_Reader_Num.K0 C N (.exit 0) (mkS [5] [.v (vU n0) false] [none] (.sg sg1)) =
 some (.ret (vU n0) sg1) := by kernel_rfl
theorem octets_Reader_Raw.main (C : CallF) (N : Nat) (m0 : Nat) (n1 : Int) (sg2 : Sg) :
 evalF C N octets_Reader_Raw.a [.gp m0 0, vI n1] sg2 =
 if (false ^^ false) = false then
 withO (loadC none sg2 (.gp m0 1)) fun p =>
 withI .i64 p.1[p.2]? fun n =>
 if (n != (0 : Int)) = true then some (.ret (vS (ByteArray.mk (#[]))) sg2)
 else
 if decide (n1 < (0 : Int)) = true then
 withOut (bif Nat.blt 353 1000000 then C (353 : FuncId) [.gp m0 0, ofConst (Value.int IntKind.i64 (18 : Int))] sg2 else none)
 (fun v sg' => withS (some v) fun s => some (.ret (vS s) sg')) fun v sg' => some (.pan v sg')
 else
 withO (loadC none sg2 (.gp m0 0)) fun p =>
 withS p.1[p.2]? fun s =>
 if decide (n1 > (↑s.size : Int)) = true then
 withOut (bif Nat.blt 353 1000000 then C (353 : FuncId) [.gp m0 0, ofConst (Value.int IntKind.i64 (20 : Int))] sg2 else none)
 (fun v sg' => withS (some v) fun s => some (.ret (vS s) sg')) fun v sg' => some (.pan v sg')
 else
 withO (loadC none sg2 (.gp m0 0)) fun p =>
 withS p.1[p.2]? fun s =>
 if (0 : Int) ≤ (0 : Int) ∧ (0 : Int) ≤ n1 ∧ n1 ≤ (↑s.size : Int) then
 withO (loadC none sg2 (.gp m0 0)) fun p =>
 withS p.1[p.2]? fun s_1 =>
 if (0 : Int) ≤ n1 ∧ n1 ≤ (↑s_1.size : Int) ∧ (↑s_1.size : Int) ≤ (↑s_1.size : Int) then
 withO (storeG none sg2 (.gp m0 0) 1 (vS (cutS s_1 n1.toNat (↑s_1.size : Int).toNat))) fun sg =>
 some (.ret (vS (cutS s (Int.toNat (0 : Int)) n1.toNat)) sg)
 else none
 else none
 else some (.ret (vS (ByteArray.mk (#[]))) sg2) := by kernel_rfl
end Go.Abs
