/- THE RESIDUALS. Printed by a program of my own. -/
import Derived.Test.YtimoaolannkpcaaGreatCodeP
import Derived.Test.YtimoaolannkpcaaGreatEngC
import Derived.KernelRfl
set_option linter.unusedVariables false
set_option linter.unusedSimpArgs false
set_option linter.unusedSectionVars false
namespace Go.Abs
set_option maxRecDepth 100000
set_option linter.unusedVariables false
theorem blob_parts_1.main (C : CallF) (N : Nat) (m0 : Nat) (m1 : Nat) (m2 : Nat) (sg3 : Sg) :
 evalF C N blob_parts_1.a [AVal.yl m0, .gp m1 0, .gp m2 0] sg3 =
 withO (loadC none (sg3 ++ [Box.map []]) (.gp m1 1)) (fun p_0 =>
 withI .i64 p_0.1[p_0.2]? (fun n_1 =>
 withO (loadC none (sg3 ++ [Box.map []]) (.gp m1 0)) (fun p_2 =>
 withI .i64 p_2.1[p_2.2]? (fun n_3 =>
 iter (blob_parts_1.R0 C N) N (mkS [0, 2, 4, 5, 6] [.v (.yl m0) false, .v (.gp m2 0) false, .v (.gm (List.length sg3)) false, .v (vI n_1) false, .v (vI n_3) false] [none, none, none, none, none] (.sg (sg3 ++ [Box.map []]))) (blob_parts_1.K0 C N))))) := by kernel_rfl
theorem blob_parts_1.r0 (C : CallF) (N : Nat) (m0 : Nat) (m1 : Nat) (a2 : AVal) (b3 : Bool) (n4 : Int) (n5 : Int) (sg6 : Sg) (k : Ex → St → R) :
 blob_parts_1.R0 C N (mkS [0, 2, 4, 5, 6] [.v (.yl m0) false, .v (.gp m1 0) false, .v a2 b3, .v (vI n4) false, .v (vI n5) false] [none, none, none, none, none] (.sg sg6)) k =
 if ((n5 != 0) = false) then
 if ((n4 != 0) = true) then
 jnc 20 (blob_parts_1.J20 C N k) (mkS [0, 2, 4, 5, 6] [.v (.yl m0) false, .v (.gp m1 0) false, .v a2 b3, .v (vI n4) false, .v (vI n5) false] [none, none, none, none, none] (.sg sg6))
 else
 k (.exit 0) (mkS [] [] [] (.sg sg6))
 else
 jnc 20 (blob_parts_1.J20 C N k) (mkS [0, 2, 4, 5, 6] [.v (.yl m0) false, .v (.gp m1 0) false, .v a2 b3, .v (vI n4) false, .v (vI n5) false] [none, none, none, none, none] (.sg sg6)) := by kernel_rfl
theorem blob_parts_1.k0_1 (C : CallF) (N : Nat) (sg0 : Sg) :
 blob_parts_1.K0 C N (.exit 0) (mkS [] [] [] (.sg sg0)) =
 some (.ret (AVal.tup []) sg0) := by kernel_rfl
theorem blob_parts_1.j20 (C : CallF) (N : Nat) (m0 : Nat) (m1 : Nat) (a2 : AVal) (b3 : Bool) (n4 : Int) (n5 : Int) (sg6 : Sg) (k : Ex → St → R) :
 blob_parts_1.J20 C N k (mkS [0, 2, 4, 5, 6] [.v (.yl m0) false, .v (.gp m1 0) false, .v a2 b3, .v (vI n4) false, .v (vI n5) false] [none, none, none, none, none] (.sg sg6)) =
 withO (loadC none sg6 (.gp m1 0)) (fun p_0 =>
 withA p_0.1[p_0.2]? (fun r_1 =>
 withA (plainA r_1) (fun a_2 =>
 withOut (bif Nat.blt 270 1000000 then
 C 270 [a_2, vI n5] sg6
 else
 none) (fun v_3 s_4 =>
 withT v_3 (fun v_5 =>
 bif Nat.beq (List.length v_5) 3 then
 withS v_5[0]? (fun s_6 =>
 withI .i64 v_5[1]? (fun n_7 =>
 withB v_5[2]? (fun b_8 =>
 if ((!b_8) = false) then
 withA (plainA a2) (fun m_9 =>
 withO (mapV s_4 m_9) (fun p_10 =>
 withO (mGet (vI n5) p_10.2) (fun r_11 =>
 withB (some (getOr [vB false] false r_11)) (fun b_12 =>
 if (b_12 = false) then
 if ((decide ((IntKind.i64.wrap (n4 - (↑(ByteArray.size s_6) : Int))) < 0)) = false) then
 if ((n_7 != 0) = true) then
 if ((decide ((↑(ByteArray.size s_6) : Int) < 476)) = true) then
 withO (loadC none s_4 (.gp m1 0)) (fun p_13 =>
 withA p_13.1[p_13.2]? (fun r_14 =>
 withA (plainA r_14) (fun a_15 =>
 withOut (bif Nat.blt 26 1000000 then
 C 26 [a_15, ofConst (Value.int IntKind.i64 19)] s_4
 else
 none) (fun v_16 x_17 =>
 jnc 51 (blob_parts_1.J51 C N k) (mkS [0, 2, 4, 5, 6, 7, 8] [.v (.yl m0) false, .v (.gp m1 0) false, .v a2 b3, .v (vI (IntKind.i64.wrap (n4 - (↑(ByteArray.size s_6) : Int)))) false, .v (vI n5) false, .v (vS s_6) false, .v (vI n_7) false] [none, none, none, none, none, none, none] (.sg s_4))) (fun v_16 x_17 =>
 some (.pan v_16 s_4)))))
 else
 jnc 51 (blob_parts_1.J51 C N k) (mkS [0, 2, 4, 5, 6, 7, 8] [.v (.yl m0) false, .v (.gp m1 0) false, .v a2 b3, .v (vI (IntKind.i64.wrap (n4 - (↑(ByteArray.size s_6) : Int)))) false, .v (vI n5) false, .v (vS s_6) false, .v (vI n_7) false] [none, none, none, none, none, none, none] (.sg s_4))
 else
 jnc 51 (blob_parts_1.J51 C N k) (mkS [0, 2, 4, 5, 6, 7, 8] [.v (.yl m0) false, .v (.gp m1 0) false, .v a2 b3, .v (vI (IntKind.i64.wrap (n4 - (↑(ByteArray.size s_6) : Int)))) false, .v (vI n5) false, .v (vS s_6) false, .v (vI n_7) false] [none, none, none, none, none, none, none] (.sg s_4))
 else
 withO (loadC none s_4 (.gp m1 0)) (fun p_13 =>
 withA p_13.1[p_13.2]? (fun r_14 =>
 withA (plainA r_14) (fun a_15 =>
 withOut (bif Nat.blt 26 1000000 then
 C 26 [a_15, ofConst (Value.int IntKind.i64 19)] s_4
 else
 none) (fun v_16 x_17 =>
 jnc 51 (blob_parts_1.J51 C N k) (mkS [0, 2, 4, 5, 6, 7, 8] [.v (.yl m0) false, .v (.gp m1 0) false, .v a2 b3, .v (vI (IntKind.i64.wrap (n4 - (↑(ByteArray.size s_6) : Int)))) false, .v (vI n5) false, .v (vS s_6) false, .v (vI n_7) false] [none, none, none, none, none, none, none] (.sg s_4))) (fun v_16 x_17 =>
 some (.pan v_16 s_4)))))
 else
 withO (loadC none s_4 (.gp m1 0)) (fun p_13 =>
 withA p_13.1[p_13.2]? (fun r_14 =>
 withA (plainA r_14) (fun a_15 =>
 withOut (bif Nat.blt 26 1000000 then
 C 26 [a_15, ofConst (Value.int IntKind.i64 19)] s_4
 else
 none) (fun v_16 x_17 =>
 jnc 51 (blob_parts_1.J51 C N k) (mkS [0, 2, 4, 5, 6, 7, 8] [.v (.yl m0) false, .v (.gp m1 0) false, .v a2 b3, .v (vI (IntKind.i64.wrap (n4 - (↑(ByteArray.size s_6) : Int)))) false, .v (vI n5) false, .v (vS s_6) false, .v (vI n_7) false] [none, none, none, none, none, none, none] (.sg s_4))) (fun v_16 x_17 =>
 some (.pan v_16 s_4)))))))))
 else
 withO (loadC none s_4 (.gp m1 0)) (fun p_9 =>
 withA p_9.1[p_9.2]? (fun r_10 =>
 withA (plainA r_10) (fun a_11 =>
 withOut (bif Nat.blt 26 1000000 then
 C 26 [a_11, ofConst (Value.int IntKind.i64 19)] s_4
 else
 none) (fun v_12 x_13 =>
 jnc 51 (blob_parts_1.J51 C N k) (mkS [0, 2, 4, 5, 6, 7, 8] [.v (.yl m0) false, .v (.gp m1 0) false, .v a2 b3, .v (vI (IntKind.i64.wrap (n4 - (↑(ByteArray.size s_6) : Int)))) false, .v (vI n5) false, .v (vS s_6) false, .v (vI n_7) false] [none, none, none, none, none, none, none] (.sg s_4))) (fun v_12 x_13 =>
 some (.pan v_12 s_4))))))))
 else
 none)) (fun v_3 s_4 =>
 some (.pan v_3 s_4))))) := by kernel_rfl
theorem blob_parts_1.j51 (C : CallF) (N : Nat) (m0 : Nat) (m1 : Nat) (a2 : AVal) (b3 : Bool) (n4 : Int) (n5 : Int) (s6 : ByteArray) (n7 : Int) (sg8 : Sg) (k : Ex → St → R) :
 blob_parts_1.J51 C N k (mkS [0, 2, 4, 5, 6, 7, 8] [.v (.yl m0) false, .v (.gp m1 0) false, .v a2 b3, .v (vI n4) false, .v (vI n5) false, .v (vS s6) false, .v (vI n7) false] [none, none, none, none, none, none, none] (.sg sg8)) =
 withA (plainA a2) (fun m_0 =>
 withO (mapV sg8 m_0) (fun p_1 =>
 withO (mSet (vI n5) (vB true) p_1.2) (fun e_2 =>
 withO (loopW (List.set sg8 p_1.1 (Box.map e_2)) m0) (fun p_3 =>
 withOut (C (1000000 + p_3.1) [AVal.yl m0, vI n5, vS s6] (List.set sg8 p_1.1 (Box.map e_2))) (fun v_4 s_5 =>
 withB (some v_4) (fun b_6 =>
 if ((!b_6) = true) then
 k .ret (mkS [] [] [] (.sg s_5))
 else
 k .normal (mkS [0, 2, 4, 5, 6] [.v (.yl m0) false, .v (.gp m1 0) false, .v a2 b3, .v (vI n4) false, .v (vI n7) false] [none, none, none, none, none] (.sg s_5)))) (fun v_4 s_5 =>
 some (.pan v_4 s_5)))))) := by kernel_rfl
theorem blob_parts_1.k0_2 (C : CallF) (N : Nat) (sg0 : Sg) :
 blob_parts_1.K0 C N .ret (mkS [] [] [] (.sg sg0)) =
 some (.ret (AVal.tup []) sg0) := by kernel_rfl
theorem blob_Pages.y900000 (C : CallF) (N : Nat) (m0 : Nat) (m1 : Nat) (n2 : Int) (s3 : ByteArray) (sg4 : Sg) :
 evalC C N (AYield.asg blob_Pages.Y900000) (startY blob_Pages.Y900000 [.gp m1 0] [vI n2, vS s3] sg4) (beginY C N blob_Pages.Y900000 m0) =
 withO (loopS sg4 m0) (fun s_0 =>
 withO (loadC none s_0 (.gp m1 0)) (fun p_1 =>
 withA p_1.1[p_1.2]? (fun r_2 =>
 bif (true && (Nat.blt 0 1)) then
 withO (flatG (s_0 ++ [Box.mk [vI n2]]) 1 (AVal.gs (List.length s_0) 1 0 1)) (fun p_3 =>
 bif Nat.beq p_3.1 0 then
 withO (app0 1 r_2) (fun r_4 =>
 withA (plainA r_4) (fun v_5 =>
 withO (storeG none (s_0 ++ [Box.mk [vI n2]]) (.gp m1 0) 1 v_5) (fun s_6 =>
 withO (loopE s_6 m0 0) (fun s_7 =>
 some (.ret (vB true) s_7)))))
 else
 if ((p_3.1 * 8) ≤ 35184372088832) then
 withO (app1 none 1 8 (s_0 ++ [Box.mk [vI n2]]) r_2 p_3.1 p_3.2) (fun q_4 =>
 withA (plainA q_4.1) (fun v_5 =>
 withO (storeG none q_4.2 (.gp m1 0) 1 v_5) (fun s_6 =>
 withO (loopE s_6 m0 0) (fun s_7 =>
 some (.ret (vB true) s_7)))))
 else
 none)
 else
 none))) := by kernel_rfl
theorem blob_Get.y900001 (C : CallF) (N : Nat) (m0 : Nat) (m1 : Nat) (n2 : Int) (s3 : ByteArray) (sg4 : Sg) :
 evalC C N (AYield.asg blob_Get.Y900001) (startY blob_Get.Y900001 [.gp m1 0] [vI n2, vS s3] sg4) (beginY C N blob_Get.Y900001 m0) =
 withO (loopS sg4 m0) (fun s_0 =>
 withOut (bif Nat.blt 173 1000000 then
 C 173 [.gp m1 0, vS s3] s_0
 else
 none) (fun v_1 s_2 =>
 withT v_1 (fun v_3 =>
 bif Nat.beq (List.length v_3) 2 then
 withI .i64 v_3[0]? (fun n_4 =>
 withA v_3[1]? (fun a_5 =>
 withO (loopE s_2 m0 0) (fun s_6 =>
 some (.ret (vB true) s_6))))
 else
 none)) (fun v_1 s_2 =>
 some (.pan v_1 s_2))) := by kernel_rfl
theorem law14_BlobBack.main (C : CallF) (N : Nat) (n0 : Int) (n1 : Int) (a2 : AVal) (a3 : AVal) (sg4 : Sg) :
 evalF C N law14_BlobBack.a [vI n0, vI n1, a2, a3] sg4 =
 withOut (bif Nat.blt 49 1000000 then
 C 49 [] []
 else
 none) (fun v_0 x_1 =>
 withB (some v_0) (fun b_2 =>
 if ((!b_2) = true) then
 some (.ret (vB false) (sg4 ++ [Box.mk [vI n0]]))
 else
 withO (loadC none (sg4 ++ [Box.mk [vI n0]]) (.gp (List.length sg4) 0)) (fun p_3 =>
 withI .i64 p_3.1[p_3.2]? (fun n_4 =>
 withOut (bif Nat.blt 16 1000000 then
 C 16 [vI n_4, vI n1] (sg4 ++ [Box.mk [vI n0]])
 else
 none) (fun v_5 s_6 =>
 withT v_5 (fun v_7 =>
 bif Nat.beq (List.length v_7) 3 then
 withA v_7[0]? (fun a_8 =>
 withA v_7[1]? (fun a_9 =>
 withB v_7[2]? (fun b_10 =>
 if ((!b_10) = false) then
 withO (lenV a2) (fun n_11 =>
 if ((decide ((↑n_11 : Int) > 20)) = true) then
 some (.ret (vB true) s_6)
 else
 jnc 44 (law14_BlobBack.J44 C N) (mkS [2, 3, 4, 9] [.v a2 false, .v a3 false, .v (.gp (List.length sg4) 0) false, .v a_8 false] [none, none, none, none] (.sg s_6)))
 else
 some (.ret (vB true) s_6))))
 else
 none)) (fun v_5 s_6 =>
 some (.pan v_5 s_6)))))) (fun x_0 x_1 =>
 none) := by kernel_rfl
theorem law14_BlobBack.j44 (C : CallF) (N : Nat) (a0 : AVal) (b1 : Bool) (a2 : AVal) (b3 : Bool) (m4 : Nat) (a5 : AVal) (b6 : Bool) (sg7 : Sg) :
 law14_BlobBack.J44 C N (mkS [2, 3, 4, 9] [.v a0 b1, .v a2 b3, .v (.gp m4 0) false, .v a5 b6] [none, none, none, none] (.sg sg7)) =
 withO (storeG none ((sg7 ++ [Box.map []]) ++ [Box.mk [AVal.at (Value.map none)]]) (.gp (List.length (sg7 ++ [Box.map []])) 0) 1 (AVal.gm (List.length sg7))) (fun s_0 =>
 withO (lenV a0) (fun n_1 =>
 iter (law14_BlobBack.R0 C N) N (mkS [3, 4, 9, 12, 13, 14, 47, 48, 49] [.v a2 b3, .v (.gp m4 0) false, .v a5 b6, .v (.gp (List.length (sg7 ++ [Box.map []])) 0) false, .v (.gp (List.length s_0) 0) false, .v (.gm (List.length (s_0 ++ [Box.mk [.sl true 2 []]]))) false, .v a0 false, .v (vI (↑n_1 : Int)) false, .v (vI 0) false] [none, none, none, none, none, none, none, none, none] (.sg ((s_0 ++ [Box.mk [.sl true 2 []]]) ++ [Box.map []]))) (law14_BlobBack.K0 C N))) := by kernel_rfl
theorem law14_BlobBack.r0 (C : CallF) (N : Nat) (a0 : AVal) (b1 : Bool) (m2 : Nat) (a3 : AVal) (b4 : Bool) (m5 : Nat) (m6 : Nat) (a7 : AVal) (b8 : Bool) (a9 : AVal) (b10 : Bool) (n11 : Int) (n12 : Int) (sg13 : Sg) (k : Ex → St → R) :
 law14_BlobBack.R0 C N (mkS [3, 4, 9, 12, 13, 14, 47, 48, 49] [.v a0 b1, .v (.gp m2 0) false, .v a3 b4, .v (.gp m5 0) false, .v (.gp m6 0) false, .v a7 b8, .v a9 b10, .v (vI n11) false, .v (vI n12) false] [none, none, none, none, none, none, none, none, none] (.sg sg13)) k =
 if ((decide (n12 < n11)) = true) then
 withO (elemV 1 n12 a9) (fun r_0 =>
 withO (loadC none sg13 r_0) (fun p_1 =>
 withI .i64 p_1.1[p_1.2]? (fun n_2 =>
 if ((decide (n_2 < 1)) = false) then
 if ((decide (n_2 > 4096)) = true) then
 k .normal (mkS [3, 4, 9, 12, 13, 14, 47, 48, 49] [.v a0 b1, .v (.gp m2 0) false, .v a3 b4, .v (.gp m5 0) false, .v (.gp m6 0) false, .v a7 b8, .v a9 b10, .v (vI n11) false, .v (vI (IntKind.i64.wrap (n12 + 1))) false] [none, none, none, none, none, none, none, none, none] (.sg sg13))
 else
 jnc 59 (law14_BlobBack.J59 C N k) (mkS [3, 4, 9, 12, 13, 14, 15, 16, 47, 48, 49] [.v a0 b1, .v (.gp m2 0) false, .v a3 b4, .v (.gp m5 0) false, .v (.gp m6 0) false, .v a7 b8, .v (vI n12) false, .v (vI n_2) false, .v a9 b10, .v (vI n11) false, .v (vI n12) false] [none, none, none, none, none, none, none, none, none, none, none] (.sg sg13))
 else
 k .normal (mkS [3, 4, 9, 12, 13, 14, 47, 48, 49] [.v a0 b1, .v (.gp m2 0) false, .v a3 b4, .v (.gp m5 0) false, .v (.gp m6 0) false, .v a7 b8, .v a9 b10, .v (vI n11) false, .v (vI (IntKind.i64.wrap (n12 + 1))) false] [none, none, none, none, none, none, none, none, none] (.sg sg13)))))
 else
 k (.exit 0) (mkS [4, 9, 12, 13] [.v (.gp m2 0) false, .v a3 b4, .v (.gp m5 0) false, .v (.gp m6 0) false] [none, none, none, none] (.sg sg13)) := by kernel_rfl
theorem law14_BlobBack.k0_1 (C : CallF) (N : Nat) (m0 : Nat) (a1 : AVal) (b2 : Bool) (m3 : Nat) (m4 : Nat) (sg5 : Sg) :
 law14_BlobBack.K0 C N (.exit 0) (mkS [4, 9, 12, 13] [.v (.gp m0 0) false, .v a1 b2, .v (.gp m3 0) false, .v (.gp m4 0) false] [none, none, none, none] (.sg sg5)) =
 withO (storeG none (((sg5 ++ [Box.map []]) ++ [Box.mk [AVal.at (Value.map none)]]) ++ [Box.mk [vB false]]) (.gp (List.length (sg5 ++ [Box.map []])) 0) 1 (AVal.gm (List.length sg5))) (fun s_0 =>
 withO (storeG none s_0 (.gp (List.length ((sg5 ++ [Box.map []]) ++ [Box.mk [AVal.at (Value.map none)]])) 0) 1 (vB true)) (fun s_1 =>
 withA (plainA a1) (fun a_2 =>
 withOut (bif Nat.blt 65 1000000 then
 C 65 [a_2, AVal.clo 66 [] [.gp m4 0, .gp m3 0, .gp (List.length ((sg5 ++ [Box.map []]) ++ [Box.mk [AVal.at (Value.map none)]])) 0, .gp (List.length (sg5 ++ [Box.map []])) 0, .gp m0 0]] s_1
 else
 none) (fun v_3 s_4 =>
 withI .i64 (some v_3) (fun n_5 =>
 if ((n_5 != 0) = false) then
 withO (loadC none s_4 (.gp (List.length ((sg5 ++ [Box.map []]) ++ [Box.mk [AVal.at (Value.map none)]])) 0)) (fun p_6 =>
 withB p_6.1[p_6.2]? (fun b_7 =>
 if ((!b_7) = true) then
 some (.ret (vB false) s_4)
 else
 jnc 126 (law14_BlobBack.J126 C N) (mkS [4, 9, 12, 13] [.v (.gp m0 0) false, .v a1 b2, .v (.gp m3 0) false, .v (.gp m4 0) false] [none, none, none, none] (.sg s_4))))
 else
 some (.ret (vB false) s_4))) (fun v_3 s_4 =>
 some (.pan v_3 s_4))))) := by kernel_rfl
theorem law14_BlobBack.j126 (C : CallF) (N : Nat) (m0 : Nat) (a1 : AVal) (b2 : Bool) (m3 : Nat) (m4 : Nat) (sg5 : Sg) :
 law14_BlobBack.J126 C N (mkS [4, 9, 12, 13] [.v (.gp m0 0) false, .v a1 b2, .v (.gp m3 0) false, .v (.gp m4 0) false] [none, none, none, none] (.sg sg5)) =
 withO (loadC none sg5 (.gp m4 0)) (fun p_0 =>
 withA p_0.1[p_0.2]? (fun r_1 =>
 withO (lenV r_1) (fun n_2 =>
 iter (law14_BlobBack.R1 C N) N (mkS [4, 9, 12, 127, 128, 129] [.v (.gp m0 0) false, .v a1 b2, .v (.gp m3 0) false, .v r_1 false, .v (vI (↑n_2 : Int)) false, .v (vI 0) false] [none, none, none, none, none, none] (.sg sg5)) (law14_BlobBack.K1 C N)))) := by kernel_rfl
theorem law14_BlobBack.r1 (C : CallF) (N : Nat) (m0 : Nat) (a1 : AVal) (b2 : Bool) (m3 : Nat) (a4 : AVal) (b5 : Bool) (n6 : Int) (n7 : Int) (sg8 : Sg) (k : Ex → St → R) :
 law14_BlobBack.R1 C N (mkS [4, 9, 12, 127, 128, 129] [.v (.gp m0 0) false, .v a1 b2, .v (.gp m3 0) false, .v a4 b5, .v (vI n6) false, .v (vI n7) false] [none, none, none, none, none, none] (.sg sg8)) k =
 if ((decide (n7 < n6)) = true) then
 withO (elemV 2 n7 a4) (fun r_0 =>
 withO (loadC none sg8 r_0) (fun p_1 =>
 bif Nat.ble (p_1.2 + 2) (List.length p_1.1) then
 bindL (List.take 2 (List.drop p_1.2 p_1.1)) (fun l_2 =>
 withO (storeG none (sg8 ++ [Box.mk [vI 0, vI 0]]) (.gp (List.length sg8) 0) 2 (AVal.agg l_2)) (fun s_3 =>
 withO (loadC none s_3 (.gp m3 0)) (fun p_4 =>
 withA p_4.1[p_4.2]? (fun r_5 =>
 withO (loadC none s_3 (.gp (List.length sg8) 0)) (fun p_6 =>
 bif Nat.ble (p_6.2 + 2) (List.length p_6.1) then
 bindL (List.take 2 (List.drop p_6.2 p_6.1)) (fun l_7 =>
 bif keyV (KK.a [CK.int IntKind.i64, CK.int IntKind.i64]) (AVal.agg l_7) then
 withA (plainA r_5) (fun m_8 =>
 withO (mapV s_3 m_8) (fun p_9 =>
 withO (mGet (AVal.agg l_7) p_9.2) (fun r_10 =>
 if ((!(hasV r_10)) = true) then
 k .normal (mkS [4, 9, 12, 127, 128, 129] [.v (.gp m0 0) false, .v a1 b2, .v (.gp m3 0) false, .v a4 b5, .v (vI n6) false, .v (vI (IntKind.i64.wrap (n7 + 1))) false] [none, none, none, none, none, none] (.sg s_3))
 else
 withA (plainA a1) (fun a_11 =>
 withOut (bif Nat.blt 18 1000000 then
 C 18 [a_11, AVal.clo 69 [] [.gp (List.length sg8) 0]] s_3
 else
 none) (fun v_12 s_13 =>
 withI .i64 (some v_12) (fun n_14 =>
 if ((n_14 != 0) = true) then
 k .ret (mkS [8] [.v (vB false) false] [none] (.sg s_13))
 else
 k .normal (mkS [4, 9, 12, 127, 128, 129] [.v (.gp m0 0) false, .v a1 b2, .v (.gp m3 0) false, .v a4 b5, .v (vI n6) false, .v (vI (IntKind.i64.wrap (n7 + 1))) false] [none, none, none, none, none, none] (.sg s_13)))) (fun v_12 s_13 =>
 some (.pan v_12 s_13))))))
 else
 none)
 else
 none)))))
 else
 none))
 else
 k (.exit 2) (mkS [4, 9] [.v (.gp m0 0) false, .v a1 b2] [none, none] (.sg sg8)) := by kernel_rfl
theorem law14_BlobBack.k1_1 (C : CallF) (N : Nat) (b0 : Bool) (sg1 : Sg) :
 law14_BlobBack.K1 C N .ret (mkS [8] [.v (vB b0) false] [none] (.sg sg1)) =
 some (.ret (vB b0) sg1) := by kernel_rfl
theorem law14_BlobBack.k1_2 (C : CallF) (N : Nat) (m0 : Nat) (a1 : AVal) (b2 : Bool) (sg3 : Sg) :
 law14_BlobBack.K1 C N (.exit 2) (mkS [4, 9] [.v (.gp m0 0) false, .v a1 b2] [none, none] (.sg sg3)) =
 withO (storeG none (sg3 ++ [Box.mk [vI 0]]) (.gp (List.length sg3) 0) 1 (vI 0)) (fun s_0 =>
 withA (plainA a1) (fun a_1 =>
 withOut (bif Nat.blt 65 1000000 then
 C 65 [a_1, AVal.clo 70 [] [.gp (List.length sg3) 0]] s_0
 else
 none) (fun v_2 s_3 =>
 withI .i64 (some v_2) (fun n_4 =>
 if ((n_4 == 0) = true) then
 withO (loadC none s_3 (.gp (List.length sg3) 0)) (fun p_5 =>
 withI .i64 p_5.1[p_5.2]? (fun n_6 =>
 withO (loadC none s_3 (.gp m0 0)) (fun p_7 =>
 withI .i64 p_7.1[p_7.2]? (fun n_8 =>
 some (.ret (vB (n_6 == (IntKind.i64.wrap (n_8 - 2)))) s_3)))))
 else
 some (.ret (vB false) s_3))) (fun v_2 s_3 =>
 some (.pan v_2 s_3)))) := by kernel_rfl
theorem law14_BlobBack.j59 (C : CallF) (N : Nat) (a0 : AVal) (b1 : Bool) (m2 : Nat) (a3 : AVal) (b4 : Bool) (m5 : Nat) (m6 : Nat) (a7 : AVal) (b8 : Bool) (n9 : Int) (n10 : Int) (a11 : AVal) (b12 : Bool) (n13 : Int) (n14 : Int) (sg15 : Sg) (k : Ex → St → R) :
 law14_BlobBack.J59 C N k (mkS [3, 4, 9, 12, 13, 14, 15, 16, 47, 48, 49] [.v a0 b1, .v (.gp m2 0) false, .v a3 b4, .v (.gp m5 0) false, .v (.gp m6 0) false, .v a7 b8, .v (vI n9) false, .v (vI n10) false, .v a11 b12, .v (vI n13) false, .v (vI n14) false] [none, none, none, none, none, none, none, none, none, none, none] (.sg sg15)) =
 bif (true && (Nat.blt 0 1)) then
 withO (flatG (sg15 ++ [Box.mk [v8 (IntKind.wrap IntKind.u8 n9), v8 (IntKind.wrap IntKind.u8 n10), v8 7]]) 1 (AVal.gs (List.length sg15) 1 0 3)) (fun p_0 =>
 withO (bytesOf p_0.2) (fun b_1 =>
 withOut (bif Nat.blt 60 1000000 then
 C 60 [vS (ByteArray.mk (List.toArray b_1)), vI n10] []
 else
 none) (fun v_2 x_3 =>
 withS (some v_2) (fun s_4 =>
 withO (storeG none ((sg15 ++ [Box.mk [v8 (IntKind.wrap IntKind.u8 n9), v8 (IntKind.wrap IntKind.u8 n10), v8 7]]) ++ [Box.mk [vS (ByteArray.mk (List.toArray []))]]) (.gp (List.length (sg15 ++ [Box.mk [v8 (IntKind.wrap IntKind.u8 n9), v8 (IntKind.wrap IntKind.u8 n10), v8 7]])) 0) 1 (vS s_4)) (fun s_5 =>
 withA (plainA a3) (fun a_6 =>
 withOut (bif Nat.blt 18 1000000 then
 C 18 [a_6, AVal.clo 61 [] [.gp (List.length (sg15 ++ [Box.mk [v8 (IntKind.wrap IntKind.u8 n9), v8 (IntKind.wrap IntKind.u8 n10), v8 7]])) 0, .gp (List.length s_5) 0]] (s_5 ++ [Box.mk [vI 0, vI 0]])
 else
 none) (fun v_7 s_8 =>
 withI .i64 (some v_7) (fun n_9 =>
 if ((n_9 != 0) = true) then
 if ((n_9 != 13) = true) then
 if ((n_9 != 14) = true) then
 k .ret (mkS [8] [.v (vB false) false] [none] (.sg s_8))
 else
 jnc 80 (law14_BlobBack.J80 C N k) (mkS [3, 4, 9, 12, 13, 14, 15, 17, 18, 19, 47, 48, 49] [.v a0 b1, .v (.gp m2 0) false, .v a3 b4, .v (.gp m5 0) false, .v (.gp m6 0) false, .v a7 b8, .v (vI n9) false, .v (.gp (List.length (sg15 ++ [Box.mk [v8 (IntKind.wrap IntKind.u8 n9), v8 (IntKind.wrap IntKind.u8 n10), v8 7]])) 0) false, .v (.gp (List.length s_5) 0) false, .v (vI n_9) false, .v a11 b12, .v (vI n13) false, .v (vI n14) false] [none, none, none, none, none, none, none, none, none, none, none, none, none] (.sg s_8))
 else
 jnc 80 (law14_BlobBack.J80 C N k) (mkS [3, 4, 9, 12, 13, 14, 15, 17, 18, 19, 47, 48, 49] [.v a0 b1, .v (.gp m2 0) false, .v a3 b4, .v (.gp m5 0) false, .v (.gp m6 0) false, .v a7 b8, .v (vI n9) false, .v (.gp (List.length (sg15 ++ [Box.mk [v8 (IntKind.wrap IntKind.u8 n9), v8 (IntKind.wrap IntKind.u8 n10), v8 7]])) 0) false, .v (.gp (List.length s_5) 0) false, .v (vI n_9) false, .v a11 b12, .v (vI n13) false, .v (vI n14) false] [none, none, none, none, none, none, none, none, none, none, none, none, none] (.sg s_8))
 else
 jnc 80 (law14_BlobBack.J80 C N k) (mkS [3, 4, 9, 12, 13, 14, 15, 17, 18, 19, 47, 48, 49] [.v a0 b1, .v (.gp m2 0) false, .v a3 b4, .v (.gp m5 0) false, .v (.gp m6 0) false, .v a7 b8, .v (vI n9) false, .v (.gp (List.length (sg15 ++ [Box.mk [v8 (IntKind.wrap IntKind.u8 n9), v8 (IntKind.wrap IntKind.u8 n10), v8 7]])) 0) false, .v (.gp (List.length s_5) 0) false, .v (vI n_9) false, .v a11 b12, .v (vI n13) false, .v (vI n14) false] [none, none, none, none, none, none, none, none, none, none, none, none, none] (.sg s_8)))) (fun v_7 s_8 =>
 some (.pan v_7 s_8)))))) (fun x_2 x_3 =>
 none)))
 else
 none := by kernel_rfl
theorem law14_BlobBack.k0_2 (C : CallF) (N : Nat) (b0 : Bool) (sg1 : Sg) :
 law14_BlobBack.K0 C N .ret (mkS [8] [.v (vB b0) false] [none] (.sg sg1)) =
 some (.ret (vB b0) sg1) := by kernel_rfl
theorem law14_BlobBack.j80 (C : CallF) (N : Nat) (a0 : AVal) (b1 : Bool) (m2 : Nat) (a3 : AVal) (b4 : Bool) (m5 : Nat) (m6 : Nat) (a7 : AVal) (b8 : Bool) (n9 : Int) (m10 : Nat) (m11 : Nat) (n12 : Int) (a13 : AVal) (b14 : Bool) (n15 : Int) (n16 : Int) (sg17 : Sg) (k : Ex → St → R) :
 law14_BlobBack.J80 C N k (mkS [3, 4, 9, 12, 13, 14, 15, 17, 18, 19, 47, 48, 49] [.v a0 b1, .v (.gp m2 0) false, .v a3 b4, .v (.gp m5 0) false, .v (.gp m6 0) false, .v a7 b8, .v (vI n9) false, .v (.gp m10 0) false, .v (.gp m11 0) false, .v (vI n12) false, .v a13 b14, .v (vI n15) false, .v (vI n16) false] [none, none, none, none, none, none, none, none, none, none, none, none, none] (.sg sg17)) =
 if ((n12 == 0) = true) then
 withO (loadC none sg17 (.gp m5 0)) (fun p_0 =>
 withA p_0.1[p_0.2]? (fun r_1 =>
 withO (loadC none sg17 (.gp m11 0)) (fun p_2 =>
 bif Nat.ble (p_2.2 + 2) (List.length p_2.1) then
 bindL (List.take 2 (List.drop p_2.2 p_2.1)) (fun l_3 =>
 withO (loadC none sg17 (.gp m10 0)) (fun p_4 =>
 withS p_4.1[p_4.2]? (fun s_5 =>
 bif keyV (KK.a [CK.int IntKind.i64, CK.int IntKind.i64]) (AVal.agg l_3) then
 withA (plainA r_1) (fun m_6 =>
 withO (mapV sg17 m_6) (fun p_7 =>
 withO (mSet (AVal.agg l_3) (vS s_5) p_7.2) (fun e_8 =>
 withO (loadC none (List.set sg17 p_7.1 (Box.map e_8)) (.gp m11 0)) (fun p_9 =>
 bif Nat.ble (p_9.2 + 2) (List.length p_9.1) then
 bindL (List.take 2 (List.drop p_9.2 p_9.1)) (fun l_10 =>
 bif keyV (KK.a [CK.int IntKind.i64, CK.int IntKind.i64]) (AVal.agg l_10) then
 withA (plainA a7) (fun m_11 =>
 withO (mapV (List.set sg17 p_7.1 (Box.map e_8)) m_11) (fun p_12 =>
 withO (mGet (AVal.agg l_10) p_12.2) (fun r_13 =>
 withB (some (getOr [vB false] false r_13)) (fun b_14 =>
 if ((!b_14) = true) then
 withO (loadC none (List.set sg17 p_7.1 (Box.map e_8)) (.gp m11 0)) (fun p_15 =>
 bif Nat.ble (p_15.2 + 2) (List.length p_15.1) then
 bindL (List.take 2 (List.drop p_15.2 p_15.1)) (fun l_16 =>
 withO (loadC none (List.set sg17 p_7.1 (Box.map e_8)) (.gp m6 0)) (fun p_17 =>
 withA p_17.1[p_17.2]? (fun r_18 =>
 withO (loadC none (List.set sg17 p_7.1 (Box.map e_8)) (.gp m11 0)) (fun p_19 =>
 bif Nat.ble (p_19.2 + 2) (List.length p_19.1) then
 bindL (List.take 2 (List.drop p_19.2 p_19.1)) (fun l_20 =>
 bif ((allSz 2 [AVal.agg l_20]) && (Nat.blt 0 2)) then
 withO (flatG ((List.set sg17 p_7.1 (Box.map e_8)) ++ [Box.mk ((AVal.cells (AVal.agg l_20)) ++ [])]) 2 (AVal.gs (List.length (List.set sg17 p_7.1 (Box.map e_8))) 2 0 1)) (fun p_21 =>
 bif Nat.beq p_21.1 0 then
 withO (app0 2 r_18) (fun r_22 =>
 bif keyV (KK.a [CK.int IntKind.i64, CK.int IntKind.i64]) (AVal.agg l_16) then
 withA (plainA a7) (fun m_23 =>
 withO (mapV ((List.set sg17 p_7.1 (Box.map e_8)) ++ [Box.mk ((AVal.cells (AVal.agg l_20)) ++ [])]) m_23) (fun p_24 =>
 withO (mSet (AVal.agg l_16) (vB true) p_24.2) (fun e_25 =>
 withA (plainA r_22) (fun v_26 =>
 withO (storeG none (List.set ((List.set sg17 p_7.1 (Box.map e_8)) ++ [Box.mk ((AVal.cells (AVal.agg l_20)) ++ [])]) p_24.1 (Box.map e_25)) (.gp m6 0) 1 v_26) (fun s_27 =>
 withO (loadC none ((List.set sg17 p_7.1 (Box.map e_8)) ++ [Box.mk ((AVal.cells (AVal.agg l_20)) ++ [])]) (.gp m6 0)) (fun p_28 =>
 withA p_28.1[p_28.2]? (fun r_29 =>
 bif sameU [(Res.s 92, RVal.sv (.v r_29 false))] [(Res.s 92, RVal.sv (.v r_18 false))] then
 withO (loadC none (List.set sg17 p_7.1 (Box.map e_8)) (.gp m6 0)) (fun p_30 =>
 withA p_30.1[p_30.2]? (fun r_31 =>
 bif sameU [(Res.s 92, RVal.sv (.v r_31 false))] [(Res.s 92, RVal.sv (.v r_18 false))] then
 withO (loadC none ((List.set sg17 p_7.1 (Box.map e_8)) ++ [Box.mk ((AVal.cells (AVal.agg l_20)) ++ [])]) (.gp m11 0)) (fun p_32 =>
 bif Nat.ble (p_32.2 + 2) (List.length p_32.1) then
 bindL (List.take 2 (List.drop p_32.2 p_32.1)) (fun l_33 =>
 bif sameU [(Res.s 91, RVal.sv (.v (.agg l_33) false))] [(Res.s 91, RVal.sv (.v (.agg l_16) false))] then
 withO (loadC none ((List.set sg17 p_7.1 (Box.map e_8)) ++ [Box.mk ((AVal.cells (AVal.agg l_20)) ++ [])]) (.gp m11 0)) (fun p_34 =>
 bif Nat.ble (p_34.2 + 2) (List.length p_34.1) then
 bindL (List.take 2 (List.drop p_34.2 p_34.1)) (fun l_35 =>
 bif sameU [(Res.s 91, RVal.sv (.v (.agg l_35) false))] [(Res.s 91, RVal.sv (.v (.agg l_16) false))] then
 withO (loadC none (List.set sg17 p_7.1 (Box.map e_8)) (.gp m11 0)) (fun p_36 =>
 bif Nat.ble (p_36.2 + 2) (List.length p_36.1) then
 bindL (List.take 2 (List.drop p_36.2 p_36.1)) (fun l_37 =>
 bif sameU [(Res.s 91, RVal.sv (.v (.agg l_37) false))] [(Res.s 91, RVal.sv (.v (.agg l_16) false))] then
 jnc 89 (law14_BlobBack.J89 C N k) (mkS [3, 4, 9, 12, 13, 14, 15, 18, 19, 47, 48, 49] [.v a0 b1, .v (.gp m2 0) false, .v a3 b4, .v (.gp m5 0) false, .v (.gp m6 0) false, .v a7 b8, .v (vI n9) false, .v (.gp m11 0) false, .v (vI n12) false, .v a13 b14, .v (vI n15) false, .v (vI n16) false] [none, none, none, none, none, none, none, none, none, none, none, none] (.sg s_27))
 else
 none)
 else
 none)
 else
 none)
 else
 none)
 else
 none)
 else
 none)
 else
 none))
 else
 none)))))))
 else
 none)
 else
 if ((p_21.1 * 16) ≤ 35184372088832) then
 withO (app1 none 2 16 ((List.set sg17 p_7.1 (Box.map e_8)) ++ [Box.mk ((AVal.cells (AVal.agg l_20)) ++ [])]) r_18 p_21.1 p_21.2) (fun q_22 =>
 bif keyV (KK.a [CK.int IntKind.i64, CK.int IntKind.i64]) (AVal.agg l_16) then
 withA (plainA a7) (fun m_23 =>
 withO (mapV q_22.2 m_23) (fun p_24 =>
 withO (mSet (AVal.agg l_16) (vB true) p_24.2) (fun e_25 =>
 withA (plainA q_22.1) (fun v_26 =>
 withO (storeG none (List.set q_22.2 p_24.1 (Box.map e_25)) (.gp m6 0) 1 v_26) (fun s_27 =>
 withO (loadC none ((List.set sg17 p_7.1 (Box.map e_8)) ++ [Box.mk ((AVal.cells (AVal.agg l_20)) ++ [])]) (.gp m6 0)) (fun p_28 =>
 withA p_28.1[p_28.2]? (fun r_29 =>
 bif sameU [(Res.s 92, RVal.sv (.v r_29 false))] [(Res.s 92, RVal.sv (.v r_18 false))] then
 withO (loadC none (List.set sg17 p_7.1 (Box.map e_8)) (.gp m6 0)) (fun p_30 =>
 withA p_30.1[p_30.2]? (fun r_31 =>
 bif sameU [(Res.s 92, RVal.sv (.v r_31 false))] [(Res.s 92, RVal.sv (.v r_18 false))] then
 withO (loadC none q_22.2 (.gp m11 0)) (fun p_32 =>
 bif Nat.ble (p_32.2 + 2) (List.length p_32.1) then
 bindL (List.take 2 (List.drop p_32.2 p_32.1)) (fun l_33 =>
 bif sameU [(Res.s 91, RVal.sv (.v (.agg l_33) false))] [(Res.s 91, RVal.sv (.v (.agg l_16) false))] then
 withO (loadC none ((List.set sg17 p_7.1 (Box.map e_8)) ++ [Box.mk ((AVal.cells (AVal.agg l_20)) ++ [])]) (.gp m11 0)) (fun p_34 =>
 bif Nat.ble (p_34.2 + 2) (List.length p_34.1) then
 bindL (List.take 2 (List.drop p_34.2 p_34.1)) (fun l_35 =>
 bif sameU [(Res.s 91, RVal.sv (.v (.agg l_35) false))] [(Res.s 91, RVal.sv (.v (.agg l_16) false))] then
 withO (loadC none (List.set sg17 p_7.1 (Box.map e_8)) (.gp m11 0)) (fun p_36 =>
 bif Nat.ble (p_36.2 + 2) (List.length p_36.1) then
 bindL (List.take 2 (List.drop p_36.2 p_36.1)) (fun l_37 =>
 bif sameU [(Res.s 91, RVal.sv (.v (.agg l_37) false))] [(Res.s 91, RVal.sv (.v (.agg l_16) false))] then
 jnc 89 (law14_BlobBack.J89 C N k) (mkS [3, 4, 9, 12, 13, 14, 15, 18, 19, 47, 48, 49] [.v a0 b1, .v (.gp m2 0) false, .v a3 b4, .v (.gp m5 0) false, .v (.gp m6 0) false, .v a7 b8, .v (vI n9) false, .v (.gp m11 0) false, .v (vI n12) false, .v a13 b14, .v (vI n15) false, .v (vI n16) false] [none, none, none, none, none, none, none, none, none, none, none, none] (.sg s_27))
 else
 none)
 else
 none)
 else
 none)
 else
 none)
 else
 none)
 else
 none)
 else
 none))
 else
 none)))))))
 else
 none)
 else
 none)
 else
 none)
 else
 none))))
 else
 none)
 else
 jnc 89 (law14_BlobBack.J89 C N k) (mkS [3, 4, 9, 12, 13, 14, 15, 18, 19, 47, 48, 49] [.v a0 b1, .v (.gp m2 0) false, .v a3 b4, .v (.gp m5 0) false, .v (.gp m6 0) false, .v a7 b8, .v (vI n9) false, .v (.gp m11 0) false, .v (vI n12) false, .v a13 b14, .v (vI n15) false, .v (vI n16) false] [none, none, none, none, none, none, none, none, none, none, none, none] (.sg (List.set sg17 p_7.1 (Box.map e_8))))))))
 else
 none)
 else
 none))))
 else
 none)))
 else
 none)))
 else
 jnc 82 (law14_BlobBack.J82 C N k) (mkS [3, 4, 9, 12, 13, 14, 15, 18, 19, 47, 48, 49] [.v a0 b1, .v (.gp m2 0) false, .v a3 b4, .v (.gp m5 0) false, .v (.gp m6 0) false, .v a7 b8, .v (vI n9) false, .v (.gp m11 0) false, .v (vI n12) false, .v a13 b14, .v (vI n15) false, .v (vI n16) false] [none, none, none, none, none, none, none, none, none, none, none, none] (.sg sg17)) := by kernel_rfl
theorem law14_BlobBack.j82 (C : CallF) (N : Nat) (a0 : AVal) (b1 : Bool) (m2 : Nat) (a3 : AVal) (b4 : Bool) (m5 : Nat) (m6 : Nat) (a7 : AVal) (b8 : Bool) (n9 : Int) (m10 : Nat) (n11 : Int) (a12 : AVal) (b13 : Bool) (n14 : Int) (n15 : Int) (sg16 : Sg) (k : Ex → St → R) :
 law14_BlobBack.J82 C N k (mkS [3, 4, 9, 12, 13, 14, 15, 18, 19, 47, 48, 49] [.v a0 b1, .v (.gp m2 0) false, .v a3 b4, .v (.gp m5 0) false, .v (.gp m6 0) false, .v a7 b8, .v (vI n9) false, .v (.gp m10 0) false, .v (vI n11) false, .v a12 b13, .v (vI n14) false, .v (vI n15) false] [none, none, none, none, none, none, none, none, none, none, none, none] (.sg sg16)) =
 withO (lenV a0) (fun n_0 =>
 if ((decide (n9 < (↑n_0 : Int))) = true) then
 withO (elemV 1 n9 a0) (fun r_1 =>
 withO (loadC none sg16 r_1) (fun p_2 =>
 withB p_2.1[p_2.2]? (fun b_3 =>
 if (b_3 = true) then
 if ((n11 == 0) = true) then
 withA (plainA a3) (fun a_4 =>
 withOut (bif Nat.blt 18 1000000 then
 C 18 [a_4, AVal.clo 63 [] [.gp m10 0]] sg16
 else
 none) (fun v_5 s_6 =>
 withI .i64 (some v_5) (fun n_7 =>
 if ((n_7 != 0) = true) then
 k .ret (mkS [8] [.v (vB false) false] [none] (.sg s_6))
 else
 withO (loadC none s_6 (.gp m5 0)) (fun p_8 =>
 withA p_8.1[p_8.2]? (fun r_9 =>
 withO (loadC none s_6 (.gp m10 0)) (fun p_10 =>
 bif Nat.ble (p_10.2 + 2) (List.length p_10.1) then
 bindL (List.take 2 (List.drop p_10.2 p_10.1)) (fun l_11 =>
 bif keyV (KK.a [CK.int IntKind.i64, CK.int IntKind.i64]) (AVal.agg l_11) then
 withA (plainA r_9) (fun m_12 =>
 withO (mapV s_6 m_12) (fun p_13 =>
 withO (mDel (AVal.agg l_11) p_13.2) (fun e_14 =>
 jnc 109 (law14_BlobBack.J109 C N k) (mkS [3, 4, 9, 12, 13, 14, 47, 48, 49] [.v a0 b1, .v (.gp m2 0) false, .v a3 b4, .v (.gp m5 0) false, .v (.gp m6 0) false, .v a7 b8, .v a12 b13, .v (vI n14) false, .v (vI n15) false] [none, none, none, none, none, none, none, none, none] (.sg (List.set s_6 p_13.1 (Box.map e_14)))))))
 else
 none)
 else
 none))))) (fun v_5 s_6 =>
 some (.pan v_5 s_6)))
 else
 jnc 109 (law14_BlobBack.J109 C N k) (mkS [3, 4, 9, 12, 13, 14, 47, 48, 49] [.v a0 b1, .v (.gp m2 0) false, .v a3 b4, .v (.gp m5 0) false, .v (.gp m6 0) false, .v a7 b8, .v a12 b13, .v (vI n14) false, .v (vI n15) false] [none, none, none, none, none, none, none, none, none] (.sg sg16))
 else
 jnc 109 (law14_BlobBack.J109 C N k) (mkS [3, 4, 9, 12, 13, 14, 47, 48, 49] [.v a0 b1, .v (.gp m2 0) false, .v a3 b4, .v (.gp m5 0) false, .v (.gp m6 0) false, .v a7 b8, .v a12 b13, .v (vI n14) false, .v (vI n15) false] [none, none, none, none, none, none, none, none, none] (.sg sg16)))))
 else
 jnc 109 (law14_BlobBack.J109 C N k) (mkS [3, 4, 9, 12, 13, 14, 47, 48, 49] [.v a0 b1, .v (.gp m2 0) false, .v a3 b4, .v (.gp m5 0) false, .v (.gp m6 0) false, .v a7 b8, .v a12 b13, .v (vI n14) false, .v (vI n15) false] [none, none, none, none, none, none, none, none, none] (.sg sg16))) := by kernel_rfl
theorem law14_BlobBack.j109 (C : CallF) (N : Nat) (a0 : AVal) (b1 : Bool) (m2 : Nat) (a3 : AVal) (b4 : Bool) (m5 : Nat) (m6 : Nat) (a7 : AVal) (b8 : Bool) (a9 : AVal) (b10 : Bool) (n11 : Int) (n12 : Int) (sg13 : Sg) (k : Ex → St → R) :
 law14_BlobBack.J109 C N k (mkS [3, 4, 9, 12, 13, 14, 47, 48, 49] [.v a0 b1, .v (.gp m2 0) false, .v a3 b4, .v (.gp m5 0) false, .v (.gp m6 0) false, .v a7 b8, .v a9 b10, .v (vI n11) false, .v (vI n12) false] [none, none, none, none, none, none, none, none, none] (.sg sg13)) =
 k .normal (mkS [3, 4, 9, 12, 13, 14, 47, 48, 49] [.v a0 b1, .v (.gp m2 0) false, .v a3 b4, .v (.gp m5 0) false, .v (.gp m6 0) false, .v a7 b8, .v a9 b10, .v (vI n11) false, .v (vI (IntKind.i64.wrap (n12 + 1))) false] [none, none, none, none, none, none, none, none, none] (.sg sg13)) := by kernel_rfl
theorem law14_BlobBack.j89 (C : CallF) (N : Nat) (a0 : AVal) (b1 : Bool) (m2 : Nat) (a3 : AVal) (b4 : Bool) (m5 : Nat) (m6 : Nat) (a7 : AVal) (b8 : Bool) (n9 : Int) (m10 : Nat) (n11 : Int) (a12 : AVal) (b13 : Bool) (n14 : Int) (n15 : Int) (sg16 : Sg) (k : Ex → St → R) :
 law14_BlobBack.J89 C N k (mkS [3, 4, 9, 12, 13, 14, 15, 18, 19, 47, 48, 49] [.v a0 b1, .v (.gp m2 0) false, .v a3 b4, .v (.gp m5 0) false, .v (.gp m6 0) false, .v a7 b8, .v (vI n9) false, .v (.gp m10 0) false, .v (vI n11) false, .v a12 b13, .v (vI n14) false, .v (vI n15) false] [none, none, none, none, none, none, none, none, none, none, none, none] (.sg sg16)) =
 jnc 82 (law14_BlobBack.J82 C N k) (mkS [3, 4, 9, 12, 13, 14, 15, 18, 19, 47, 48, 49] [.v a0 b1, .v (.gp m2 0) false, .v a3 b4, .v (.gp m5 0) false, .v (.gp m6 0) false, .v a7 b8, .v (vI n9) false, .v (.gp m10 0) false, .v (vI n11) false, .v a12 b13, .v (vI n14) false, .v (vI n15) false] [none, none, none, none, none, none, none, none, none, none, none, none] (.sg sg16)) := by kernel_rfl
theorem law14_text.main (C : CallF) (N : Nat) (s0 : ByteArray) (n1 : Int) (sg2 : Sg) :
 evalF C N law14_text.a [vS s0, vI n1] sg2 =
 if ((eqS s0 (ByteArray.mk (List.toArray []))) = true) then
 if ((0 < n1) ∧ ((n1 ≤ n1) ∧ ((n1 * (↑1 : Int)) ≤ 35184372088832))) then
 iter (law14_text.R0 C N) N (mkS [0, 5, 12, 13] [.v (vS (ByteArray.mk (List.toArray [46]))) false, .v (.gs (List.length sg2) 1 0 (Int.toNat n1)) false, .v (vI (↑(Int.toNat n1) : Int)) false, .v (vI 0) false] [none, none, none, none] (.sg (sg2 ++ [Box.mk (List.flatten (List.replicate (Int.toNat n1) [v8 0]))]))) (law14_text.K0 C N)
 else
 none
 else
 if ((0 < n1) ∧ ((n1 ≤ n1) ∧ ((n1 * (↑1 : Int)) ≤ 35184372088832))) then
 iter (law14_text.R0 C N) N (mkS [0, 5, 12, 13] [.v (vS s0) false, .v (.gs (List.length sg2) 1 0 (Int.toNat n1)) false, .v (vI (↑(Int.toNat n1) : Int)) false, .v (vI 0) false] [none, none, none, none] (.sg (sg2 ++ [Box.mk (List.flatten (List.replicate (Int.toNat n1) [v8 0]))]))) (law14_text.K0 C N)
 else
 none := by kernel_rfl
theorem law14_text.r0 (C : CallF) (N : Nat) (s0 : ByteArray) (a1 : AVal) (b2 : Bool) (n3 : Int) (n4 : Int) (sg5 : Sg) (k : Ex → St → R) :
 law14_text.R0 C N (mkS [0, 5, 12, 13] [.v (vS s0) false, .v a1 b2, .v (vI n3) false, .v (vI n4) false] [none, none, none, none] (.sg sg5)) k =
 if ((decide (n4 < n3)) = true) then
 if ((↑(ByteArray.size s0) : Int) = 0) then
 none
 else
 if ((0 ≤ (Int.tmod n4 (↑(ByteArray.size s0) : Int))) ∧ ((Int.tmod n4 (↑(ByteArray.size s0) : Int)) < (↑(ByteArray.size s0) : Int))) then
 withO (elemV 1 n4 a1) (fun r_0 =>
 withO (storeG none sg5 r_0 1 (v8 (↑(UInt8.toNat (List.getD (Array.toList (ByteArray.data s0)) (Int.toNat (Int.tmod n4 (↑(ByteArray.size s0) : Int))) 0)) : Int))) (fun s_1 =>
 k .normal (mkS [0, 5, 12, 13] [.v (vS s0) false, .v a1 b2, .v (vI n3) false, .v (vI (IntKind.i64.wrap (n4 + 1))) false] [none, none, none, none] (.sg s_1))))
 else
 none
 else
 k (.exit 0) (mkS [5] [.v a1 b2] [none] (.sg sg5)) := by kernel_rfl
theorem law14_text.k0_1 (C : CallF) (N : Nat) (a0 : AVal) (b1 : Bool) (sg2 : Sg) :
 law14_text.K0 C N (.exit 0) (mkS [5] [.v a0 b1] [none] (.sg sg2)) =
 withA (plainA a0) (fun a_0 =>
 bif isSl (some a_0) then
 withO (flatG sg2 1 a_0) (fun p_1 =>
 withO (bytesOf p_1.2) (fun b_2 =>
 some (.ret (vS (ByteArray.mk (List.toArray b_2))) sg2)))
 else
 none) := by kernel_rfl
theorem blob_Put.main (C : CallF) (N : Nat) (m0 : Nat) (s1 : ByteArray) (sg2 : Sg) :
 evalF C N blob_Put.a [.gp m0 0, vS s1] sg2 =
 if ((decide ((↑(ByteArray.size s1) : Int) > 4096)) = true) then
 withOut (bif Nat.blt 26 1000000 then
 C 26 [.gp m0 0, ofConst (Value.int IntKind.i64 11)] sg2
 else
 none) (fun v_0 x_1 =>
 jnc 12 (blob_Put.J12 C N) (mkS [0, 1, 4] [.v (.gp m0 0) false, .v (vS s1) false, .lp 4 0] [none, none, some (Box.mk [vI 0, vI 0])] (.sg sg2))) (fun v_0 x_1 =>
 some (.pan v_0 sg2))
 else
 jnc 12 (blob_Put.J12 C N) (mkS [0, 1, 4] [.v (.gp m0 0) false, .v (vS s1) false, .lp 4 0] [none, none, some (Box.mk [vI 0, vI 0])] (.sg sg2)) := by kernel_rfl
theorem blob_Put.j12 (C : CallF) (N : Nat) (m0 : Nat) (s1 : ByteArray) (n2 : Int) (n3 : Int) (sg4 : Sg) :
 blob_Put.J12 C N (mkS [0, 1, 4] [.v (.gp m0 0) false, .v (vS s1) false, .lp 4 0] [none, none, some (Box.mk [vI n2, vI n3])] (.sg sg4)) =
 withOut (bif Nat.blt 170 1000000 then
 C 170 [vS s1, ofConst (Value.int IntKind.i64 476)] []
 else
 none) (fun v_0 s_1 =>
 withO (thaw 8 s_1 v_0) (fun v_2 =>
 bif noG v_2 then
 withO (lenV v_2) (fun n_3 =>
 iter (blob_Put.R0 C N) N (mkS [0, 1, 4, 5, 6, 18, 19] [.v (.gp m0 0) false, .v (vS s1) false, .lp 4 0, .v v_2 false, .v (.sl true 1 []) true, .v (vI (↑n_3 : Int)) false, .v (vI 0) false] [none, none, some (Box.mk [vI n2, vI n3]), none, none, none, none] (.sg sg4)) (blob_Put.K0 C N))
 else
 none)) (fun x_0 x_1 =>
 none) := by kernel_rfl
theorem blob_Put.r0 (C : CallF) (N : Nat) (m0 : Nat) (s1 : ByteArray) (a2 : AVal) (b3 : Bool) (a4 : AVal) (b5 : Bool) (n6 : Int) (n7 : Int) (n8 : Int) (n9 : Int) (sg10 : Sg) (k : Ex → St → R) :
 blob_Put.R0 C N (mkS [0, 1, 4, 5, 6, 18, 19] [.v (.gp m0 0) false, .v (vS s1) false, .lp 4 0, .v a2 b3, .v a4 b5, .v (vI n6) false, .v (vI n7) false] [none, none, some (Box.mk [vI n8, vI n9]), none, none, none, none] (.sg sg10)) k =
 if ((decide (n7 < n6)) = true) then
 withOut (bif Nat.blt 22 1000000 then
 C 22 [.gp m0 0] sg10
 else
 none) (fun v_0 s_1 =>
 withI .i64 (some v_0) (fun n_2 =>
 bif (true && (Nat.blt 0 1)) then
 withO (flatG (s_1 ++ [Box.mk [vI n_2]]) 1 (AVal.gs (List.length s_1) 1 0 1)) (fun p_3 =>
 bif Nat.beq p_3.1 0 then
 withO (app0 1 a4) (fun r_4 =>
 k .normal (mkS [0, 1, 4, 5, 6, 18, 19] [.v (.gp m0 0) false, .v (vS s1) false, .lp 4 0, .v a2 b3, .v r_4 false, .v (vI n6) false, .v (vI (IntKind.i64.wrap (n7 + 1))) false] [none, none, some (Box.mk [vI n8, vI n9]), none, none, none, none] (.sg (s_1 ++ [Box.mk [vI n_2]]))))
 else
 if ((p_3.1 * 8) ≤ 35184372088832) then
 withO (app1 none 1 8 (s_1 ++ [Box.mk [vI n_2]]) a4 p_3.1 p_3.2) (fun q_4 =>
 k .normal (mkS [0, 1, 4, 5, 6, 18, 19] [.v (.gp m0 0) false, .v (vS s1) false, .lp 4 0, .v a2 b3, .v q_4.1 false, .v (vI n6) false, .v (vI (IntKind.i64.wrap (n7 + 1))) false] [none, none, some (Box.mk [vI n8, vI n9]), none, none, none, none] (.sg q_4.2)))
 else
 none)
 else
 none)) (fun v_0 s_1 =>
 some (.pan v_0 s_1))
 else
 k (.exit 0) (mkS [0, 1, 4, 5, 6] [.v (.gp m0 0) false, .v (vS s1) false, .lp 4 0, .v a2 b3, .v a4 b5] [none, none, some (Box.mk [vI n8, vI n9]), none, none] (.sg sg10)) := by kernel_rfl
theorem blob_Put.k0_1 (C : CallF) (N : Nat) (m0 : Nat) (s1 : ByteArray) (a2 : AVal) (b3 : Bool) (a4 : AVal) (b5 : Bool) (n6 : Int) (n7 : Int) (sg8 : Sg) :
 blob_Put.K0 C N (.exit 0) (mkS [0, 1, 4, 5, 6] [.v (.gp m0 0) false, .v (vS s1) false, .lp 4 0, .v a2 b3, .v a4 b5] [none, none, some (Box.mk [vI n6, vI n7]), none, none] (.sg sg8)) =
 withO (lenV a2) (fun n_0 =>
 iter (blob_Put.R1 C N) N (mkS [0, 1, 4, 6, 27, 28, 29] [.v (.gp m0 0) false, .v (vS s1) false, .lp 4 0, .v a4 b5, .v a2 false, .v (vI (↑n_0 : Int)) false, .v (vI 0) false] [none, none, some (Box.mk [vI n6, vI n7]), none, none, none, none] (.sg sg8)) (blob_Put.K1 C N)) := by kernel_rfl
theorem blob_Put.r1 (C : CallF) (N : Nat) (m0 : Nat) (s1 : ByteArray) (a2 : AVal) (b3 : Bool) (a4 : AVal) (b5 : Bool) (n6 : Int) (n7 : Int) (n8 : Int) (n9 : Int) (sg10 : Sg) (k : Ex → St → R) :
 blob_Put.R1 C N (mkS [0, 1, 4, 6, 27, 28, 29] [.v (.gp m0 0) false, .v (vS s1) false, .lp 4 0, .v a2 b3, .v a4 b5, .v (vI n6) false, .v (vI n7) false] [none, none, some (Box.mk [vI n8, vI n9]), none, none, none, none] (.sg sg10)) k =
 if ((decide (n7 < n6)) = true) then
 withO (elemV 1 n7 a4) (fun r_0 =>
 withO (loadC none sg10 r_0) (fun p_1 =>
 withS p_1.1[p_1.2]? (fun s_2 =>
 withO (lenV a2) (fun n_3 =>
 if ((decide ((IntKind.i64.wrap (n7 + 1)) < (↑n_3 : Int))) = true) then
 withO (elemV 1 (IntKind.i64.wrap (n7 + 1)) a2) (fun r_4 =>
 withO (loadC none sg10 r_4) (fun p_5 =>
 withI .i64 p_5.1[p_5.2]? (fun n_6 =>
 jnc 38 (blob_Put.J38 C N k) (mkS [0, 1, 4, 6, 7, 8, 9, 27, 28, 29] [.v (.gp m0 0) false, .v (vS s1) false, .lp 4 0, .v a2 b3, .v (vI n7) false, .v (vS s_2) false, .v (vI n_6) false, .v a4 b5, .v (vI n6) false, .v (vI n7) false] [none, none, some (Box.mk [vI n8, vI n9]), none, none, none, none, none, none, none] (.sg sg10)))))
 else
 jnc 38 (blob_Put.J38 C N k) (mkS [0, 1, 4, 6, 7, 8, 9, 27, 28, 29] [.v (.gp m0 0) false, .v (vS s1) false, .lp 4 0, .v a2 b3, .v (vI n7) false, .v (vS s_2) false, .v (vI 0) false, .v a4 b5, .v (vI n6) false, .v (vI n7) false] [none, none, some (Box.mk [vI n8, vI n9]), none, none, none, none, none, none, none] (.sg sg10))))))
 else
 k (.exit 2) (mkS [1, 4, 6] [.v (vS s1) false, .lp 4 0, .v a2 b3] [none, some (Box.mk [vI n8, vI n9]), none] (.sg sg10)) := by kernel_rfl
theorem blob_Put.k1_1 (C : CallF) (N : Nat) (s0 : ByteArray) (a1 : AVal) (b2 : Bool) (n3 : Int) (n4 : Int) (sg5 : Sg) :
 blob_Put.K1 C N (.exit 2) (mkS [1, 4, 6] [.v (vS s0) false, .lp 4 0, .v a1 b2] [none, some (Box.mk [vI n3, vI n4]), none] (.sg sg5)) =
 withO (lenV a1) (fun n_0 =>
 if (((↑n_0 : Int) == 0) = true) then
 some (.ret (AVal.agg [vI 0, vI 0]) sg5)
 else
 withO (elemV 1 0 a1) (fun r_1 =>
 withO (loadC none sg5 r_1) (fun p_2 =>
 withI .i64 p_2.1[p_2.2]? (fun n_3 =>
 some (.ret (AVal.agg [vI n_3, vI (↑(ByteArray.size s0) : Int)]) sg5))))) := by kernel_rfl
theorem blob_Put.j38 (C : CallF) (N : Nat) (m0 : Nat) (s1 : ByteArray) (a2 : AVal) (b3 : Bool) (n4 : Int) (s5 : ByteArray) (n6 : Int) (a7 : AVal) (b8 : Bool) (n9 : Int) (n10 : Int) (n11 : Int) (n12 : Int) (sg13 : Sg) (k : Ex → St → R) :
 blob_Put.J38 C N k (mkS [0, 1, 4, 6, 7, 8, 9, 27, 28, 29] [.v (.gp m0 0) false, .v (vS s1) false, .lp 4 0, .v a2 b3, .v (vI n4) false, .v (vS s5) false, .v (vI n6) false, .v a7 b8, .v (vI n9) false, .v (vI n10) false] [none, none, some (Box.mk [vI n11, vI n12]), none, none, none, none, none, none, none] (.sg sg13)) =
 withO (elemV 1 n4 a2) (fun r_0 =>
 withO (loadC none sg13 r_0) (fun p_1 =>
 withI .i64 p_1.1[p_1.2]? (fun n_2 =>
 withOut (bif Nat.blt 171 1000000 then
 C 171 [vI n6, vS s5] []
 else
 none) (fun v_3 x_4 =>
 withS (some v_3) (fun s_5 =>
 withOut (bif Nat.blt 20 1000000 then
 C 20 [.gp m0 0, vI n_2, vS s_5] sg13
 else
 none) (fun v_6 s_7 =>
 k .normal (mkS [0, 1, 4, 6, 27, 28, 29] [.v (.gp m0 0) false, .v (vS s1) false, .lp 4 0, .v a2 b3, .v a7 b8, .v (vI n9) false, .v (vI (IntKind.i64.wrap (n10 + 1))) false] [none, none, some (Box.mk [vI n11, vI n12]), none, none, none, none] (.sg s_7))) (fun v_6 s_7 =>
 some (.pan v_6 s_7)))) (fun x_3 x_4 =>
 none)))) := by kernel_rfl
theorem blob_Drop.main (C : CallF) (N : Nat) (m0 : Nat) (n1 : Int) (n2 : Int) (sg3 : Sg) :
 evalF C N blob_Drop.a [.gp m0 0, AVal.agg [vI n1, vI n2]] sg3 =
 withOut (bif Nat.blt 67 1000000 then
 C 67 [.gp m0 0, AVal.agg [vI n1, vI n2]] sg3
 else
 none) (fun v_0 s_1 =>
 withO (lenV v_0) (fun n_2 =>
 iter (blob_Drop.R0 C N) N (mkS [0, 8, 9, 10] [.v (.gp m0 0) false, .v v_0 false, .v (vI (↑n_2 : Int)) false, .v (vI 0) false] [none, none, none, none] (.sg s_1)) (blob_Drop.K0 C N))) (fun v_0 s_1 =>
 some (.pan v_0 s_1)) := by kernel_rfl
theorem blob_Drop.r0 (C : CallF) (N : Nat) (m0 : Nat) (a1 : AVal) (b2 : Bool) (n3 : Int) (n4 : Int) (sg5 : Sg) (k : Ex → St → R) :
 blob_Drop.R0 C N (mkS [0, 8, 9, 10] [.v (.gp m0 0) false, .v a1 b2, .v (vI n3) false, .v (vI n4) false] [none, none, none, none] (.sg sg5)) k =
 if ((decide (n4 < n3)) = true) then
 withO (elemV 1 n4 a1) (fun r_0 =>
 withO (loadC none sg5 r_0) (fun p_1 =>
 withI .i64 p_1.1[p_1.2]? (fun n_2 =>
 withOut (bif Nat.blt 25 1000000 then
 C 25 [.gp m0 0, vI n_2] sg5
 else
 none) (fun v_3 s_4 =>
 k .normal (mkS [0, 8, 9, 10] [.v (.gp m0 0) false, .v a1 b2, .v (vI n3) false, .v (vI (IntKind.i64.wrap (n4 + 1))) false] [none, none, none, none] (.sg s_4))) (fun v_3 s_4 =>
 some (.pan v_3 s_4)))))
 else
 k (.exit 0) (mkS [] [] [] (.sg sg5)) := by kernel_rfl
theorem blob_Drop.k0_1 (C : CallF) (N : Nat) (sg0 : Sg) :
 blob_Drop.K0 C N (.exit 0) (mkS [] [] [] (.sg sg0)) =
 some (.ret (AVal.tup []) sg0) := by kernel_rfl
theorem blob_Pages.main (C : CallF) (N : Nat) (m0 : Nat) (n1 : Int) (n2 : Int) (sg3 : Sg) :
 evalF C N blob_Pages.a [.gp m0 0, AVal.agg [vI n1, vI n2]] sg3 =
 withOut (bif Nat.blt 172 1000000 then
 C 172 [.gp m0 0, AVal.agg [vI n1, vI n2]] (sg3 ++ [Box.mk [.sl true 1 []]])
 else
 none) (fun v_0 s_1 =>
 withA (plainA v_0) (fun a_2 =>
 withO (cloV a_2) (fun q_3 =>
 bindL (q_3.2.1 ++ ((AVal.yl (List.length s_1)) :: q_3.2.2)) (fun x_4 =>
 withOut (bif Nat.blt q_3.1 1000000 then
 C q_3.1 x_4 (s_1 ++ [Box.loop 900000 [.gp (List.length sg3) 0] 0])
 else
 none) (fun x_5 s_6 =>
 withO (loopW s_6 (List.length s_1)) (fun p_7 =>
 bif Nat.beq p_7.2.2 0 then
 withO (loadC none (List.set s_6 (List.length s_1) (Box.mk [])) (.gp (List.length sg3) 0)) (fun p_8 =>
 withA p_8.1[p_8.2]? (fun r_9 =>
 withA (jk r_9) (fun a_10 =>
 some (.ret a_10 (List.set s_6 (List.length s_1) (Box.mk []))))))
 else
 bif Nat.beq p_7.2.2 2 then
 some (.ret (.sl true 1 []) (List.set s_6 (List.length s_1) (Box.mk [])))
 else
 bif Nat.blt 2 p_7.2.2 then
 bif Nat.beq (p_7.2.2 - 3) 0 then
 withO (loadC none (List.set s_6 (List.length s_1) (Box.mk [])) (.gp (List.length sg3) 0)) (fun p_8 =>
 withA p_8.1[p_8.2]? (fun r_9 =>
 withA (jk r_9) (fun a_10 =>
 some (.ret a_10 (List.set s_6 (List.length s_1) (Box.mk []))))))
 else
 none
 else
 none)) (fun v_5 s_6 =>
 some (.pan v_5 s_6)))))) (fun v_0 s_1 =>
 some (.pan v_0 s_1)) := by kernel_rfl
theorem blob_Get.main (C : CallF) (N : Nat) (m0 : Nat) (n1 : Int) (n2 : Int) (sg3 : Sg) :
 evalF C N blob_Get.a [.gp m0 0, AVal.agg [vI n1, vI n2]] sg3 =
 withOut (bif Nat.blt 172 1000000 then
 C 172 [.gp m0 0, AVal.agg [vI n1, vI n2]] (sg3 ++ [Box.tmk 227 true [AVal.at (Value.pointer none), .sl true 1 []]])
 else
 none) (fun v_0 s_1 =>
 withA (plainA v_0) (fun a_2 =>
 withO (cloV a_2) (fun q_3 =>
 bindL (q_3.2.1 ++ ((AVal.yl (List.length s_1)) :: q_3.2.2)) (fun x_4 =>
 withOut (bif Nat.blt q_3.1 1000000 then
 C q_3.1 x_4 (s_1 ++ [Box.loop 900001 [.gp (List.length sg3) 0] 0])
 else
 none) (fun x_5 s_6 =>
 withO (loopW s_6 (List.length s_1)) (fun p_7 =>
 bif Nat.beq p_7.2.2 0 then
 withOut (bif Nat.blt 174 1000000 then
 C 174 [.gp (List.length sg3) 0] (List.set s_6 (List.length s_1) (Box.mk []))
 else
 none) (fun v_8 s_9 =>
 withS (some v_8) (fun s_10 =>
 some (.ret (vS s_10) s_9))) (fun v_8 s_9 =>
 some (.pan v_8 s_9))
 else
 bif Nat.beq p_7.2.2 2 then
 some (.ret (vS (ByteArray.mk (List.toArray []))) (List.set s_6 (List.length s_1) (Box.mk [])))
 else
 bif Nat.blt 2 p_7.2.2 then
 bif Nat.beq (p_7.2.2 - 3) 0 then
 withOut (bif Nat.blt 174 1000000 then
 C 174 [.gp (List.length sg3) 0] (List.set s_6 (List.length s_1) (Box.mk []))
 else
 none) (fun v_8 s_9 =>
 withS (some v_8) (fun s_10 =>
 some (.ret (vS s_10) s_9))) (fun v_8 s_9 =>
 some (.pan v_8 s_9))
 else
 none
 else
 none)) (fun v_5 s_6 =>
 some (.pan v_5 s_6)))))) (fun v_0 s_1 =>
 some (.pan v_0 s_1)) := by kernel_rfl
theorem blob_page.main (C : CallF) (N : Nat) (n0 : Int) (s1 : ByteArray) (sg2 : Sg) :
 evalF C N blob_page.a [vI n0, vS s1] sg2 =
 withOut (bif Nat.blt 194 1000000 then
 C 194 [ofConst (Value.int IntKind.i64 2), vU (IntKind.wrap IntKind.u64 n0)] []
 else
 none) (fun v_0 x_1 =>
 withS (some v_0) (fun s_2 =>
 withOut (bif Nat.blt 194 1000000 then
 C 194 [ofConst (Value.int IntKind.i64 2), vU (IntKind.wrap IntKind.u64 (↑(ByteArray.size s1) : Int))] []
 else
 none) (fun v_3 x_4 =>
 withS (some v_3) (fun s_5 =>
 if ((↑((ByteArray.size s_2) + (ByteArray.size s_5)) : Int) > (IntKind.max IntKind.i64)) then
 none
 else
 if ((↑((ByteArray.size (catS s_2 s_5)) + (ByteArray.size s1)) : Int) > (IntKind.max IntKind.i64)) then
 none
 else
 withOut (bif Nat.blt 126 1000000 then
 C 126 [vS (catS (catS s_2 s_5) s1), ofConst (Value.int IntKind.i64 480)] []
 else
 none) (fun v_6 x_7 =>
 withS (some v_6) (fun s_8 =>
 some (.ret (vS s_8) sg2))) (fun x_6 x_7 =>
 none))) (fun x_3 x_4 =>
 none))) (fun x_0 x_1 =>
 none) := by kernel_rfl
theorem blob_parts.main (C : CallF) (N : Nat) (m0 : Nat) (n1 : Int) (n2 : Int) (sg3 : Sg) :
 evalF C N blob_parts.a [.gp m0 0, AVal.agg [vI n1, vI n2]] sg3 =
 some (.ret (AVal.clo 269 [] [.gp (List.length (sg3 ++ [Box.mk [.gp m0 0]])) 0, .gp (List.length sg3) 0]) ((sg3 ++ [Box.mk [.gp m0 0]]) ++ [Box.mk [vI n1, vI n2]])) := by kernel_rfl
theorem strings_Builder_WriteString.main (C : CallF) (N : Nat) (m0 : Nat) (s1 : ByteArray) (sg2 : Sg) :
 evalF C N strings_Builder_WriteString.a [.gp m0 0, vS s1] sg2 =
 withOut (bif Nat.blt 271 1000000 then
 C 271 [.gp m0 0] sg2
 else
 none) (fun v_0 s_1 =>
 withO (loadC none s_1 (.gp m0 1)) (fun p_2 =>
 withA p_2.1[p_2.2]? (fun r_3 =>
 bif Nat.beq (ByteArray.size s1) 0 then
 withO (app0 1 r_3) (fun r_4 =>
 withA (plainA r_4) (fun v_5 =>
 withO (storeG none s_1 (.gp m0 1) 1 v_5) (fun s_6 =>
 some (.ret (AVal.tup [vI (↑(ByteArray.size s1) : Int), AVal.at Value.nilIface]) s_6))))
 else
 if (((ByteArray.size s1) * 1) ≤ 35184372088832) then
 withO (app1 (some 5) 1 1 s_1 r_3 (ByteArray.size s1) (ofBytes (Array.toList (ByteArray.data s1)))) (fun q_4 =>
 withA (plainA q_4.1) (fun v_5 =>
 withO (storeG none q_4.2 (.gp m0 1) 1 v_5) (fun s_6 =>
 some (.ret (AVal.tup [vI (↑(ByteArray.size s1) : Int), AVal.at Value.nilIface]) s_6))))
 else
 none))) (fun v_0 s_1 =>
 some (.pan v_0 s_1)) := by kernel_rfl
theorem blob_part.main (C : CallF) (N : Nat) (m0 : Nat) (n1 : Int) (sg2 : Sg) :
 evalF C N blob_part.a [.gp m0 0, vI n1] sg2 =
 if ((decide (n1 < 2)) = false) then
 withOut (bif Nat.blt 123 1000000 then
 C 123 [.gp m0 0] sg2
 else
 none) (fun v_0 x_1 =>
 withI .i64 (some v_0) (fun n_2 =>
 if ((decide (n1 ≥ n_2)) = false) then
 withOut (bif Nat.blt 23 1000000 then
 C 23 [.gp m0 0, ofConst (Value.int IntKind.i64 1)] sg2
 else
 none) (fun v_3 x_4 =>
 withS (some v_3) (fun s_5 =>
 withOut (bif Nat.blt 233 1000000 then
 C 233 [vS s_5, vI n1] []
 else
 none) (fun v_6 x_7 =>
 withB (some v_6) (fun b_8 =>
 if ((!b_8) = true) then
 some (.ret (AVal.tup [vS (ByteArray.mk (List.toArray [])), vI 0, vB false]) sg2)
 else
 withOut (bif Nat.blt 23 1000000 then
 C 23 [.gp m0 0, vI n1] sg2
 else
 none) (fun v_9 x_10 =>
 withS (some v_9) (fun s_11 =>
 withOut (bif Nat.blt 186 1000000 then
 C 186 [vS s_11] sg2
 else
 none) (fun v_12 s_13 =>
 withA (plainA v_12) (fun a_14 =>
 withOut (bif Nat.blt 187 1000000 then
 C 187 [a_14, ofConst (Value.int IntKind.i64 2)] s_13
 else
 none) (fun v_15 s_16 =>
 withI .u64 (some v_15) (fun n_17 =>
 withA (plainA v_12) (fun a_18 =>
 withOut (bif Nat.blt 187 1000000 then
 C 187 [a_18, ofConst (Value.int IntKind.i64 2)] s_16
 else
 none) (fun v_19 s_20 =>
 withI .u64 (some v_19) (fun n_21 =>
 withA (plainA v_12) (fun a_22 =>
 withOut (bif Nat.blt 278 1000000 then
 C 278 [a_22, vI (bif false then
 max2 (IntKind.i64.wrap n_21) 476
 else
 min2 (IntKind.i64.wrap n_21) 476)] s_20
 else
 none) (fun v_23 s_24 =>
 withS (some v_23) (fun s_25 =>
 if ((decide ((IntKind.i64.wrap n_21) > 0)) = true) then
 withOut (bif Nat.blt 171 1000000 then
 C 171 [vI (IntKind.i64.wrap n_17), vS s_25] []
 else
 none) (fun v_26 x_27 =>
 withS (some v_26) (fun s_28 =>
 some (.ret (AVal.tup [vS s_25, vI (IntKind.i64.wrap n_17), vB (eqS s_11 s_28)]) s_24))) (fun x_26 x_27 =>
 none)
 else
 some (.ret (AVal.tup [vS s_25, vI (IntKind.i64.wrap n_17), vB false]) s_24))) (fun v_23 s_24 =>
 some (.pan v_23 s_24))))) (fun v_19 s_20 =>
 some (.pan v_19 s_20))))) (fun v_15 s_16 =>
 some (.pan v_15 s_16)))) (fun v_12 s_13 =>
 some (.pan v_12 s_13)))) (fun v_9 x_10 =>
 some (.pan v_9 sg2)))) (fun x_6 x_7 =>
 none))) (fun v_3 x_4 =>
 some (.pan v_3 sg2))
 else
 some (.ret (AVal.tup [vS (ByteArray.mk (List.toArray [])), vI 0, vB false]) sg2))) (fun v_0 x_1 =>
 some (.pan v_0 sg2))
 else
 some (.ret (AVal.tup [vS (ByteArray.mk (List.toArray [])), vI 0, vB false]) sg2) := by kernel_rfl
theorem octets_Cut.main (C : CallF) (N : Nat) (s0 : ByteArray) (n1 : Int) (sg2 : Sg) :
 evalF C N octets_Cut.a [vS s0, vI n1] sg2 =
 iter (octets_Cut.R0 C N) N (mkS [2, 3, 5, 6] [.v (.gp (List.length sg2) 0) false, .v (.gp (List.length (sg2 ++ [Box.mk [vS s0]])) 0) false, .v (.sl true 1 []) true, .v (.clo 268 [] [.gp (List.length (sg2 ++ [Box.mk [vS s0]])) 0, .gp (List.length sg2) 0]) false] [none, none, none, none] (.sg ((sg2 ++ [Box.mk [vS s0]]) ++ [Box.mk [vI n1]]))) (octets_Cut.K0 C N) := by kernel_rfl
theorem octets_Cut.r0 (C : CallF) (N : Nat) (m0 : Nat) (m1 : Nat) (a2 : AVal) (b3 : Bool) (m4 : Nat) (m5 : Nat) (sg6 : Sg) (k : Ex → St → R) :
 octets_Cut.R0 C N (mkS [2, 3, 5, 6] [.v (.gp m0 0) false, .v (.gp m1 0) false, .v a2 b3, .v (.clo 268 [] [.gp m4 0, .gp m5 0]) false] [none, none, none, none] (.sg sg6)) k =
 withO (loadC none sg6 (.gp m1 0)) (fun p_0 =>
 withI .i64 p_0.1[p_0.2]? (fun n_1 =>
 if ((decide (n_1 > 0)) = true) then
 withO (loadC none sg6 (.gp m0 0)) (fun p_2 =>
 withS p_2.1[p_2.2]? (fun s_3 =>
 if ((!(eqS s_3 (ByteArray.mk (List.toArray [])))) = true) then
 withOut (bif Nat.blt 268 1000000 then
 C 268 ([] ++ ([] ++ [.gp m4 0, .gp m5 0])) sg6
 else
 none) (fun v_4 s_5 =>
 withS (some v_4) (fun s_6 =>
 bif (true && (Nat.blt 0 1)) then
 withO (flatG (s_5 ++ [Box.mk [vS s_6]]) 1 (AVal.gs (List.length s_5) 1 0 1)) (fun p_7 =>
 bif Nat.beq p_7.1 0 then
 withO (app0 1 a2) (fun r_8 =>
 k .normal (mkS [2, 3, 5, 6] [.v (.gp m0 0) false, .v (.gp m1 0) false, .v r_8 false, .v (.clo 268 [] [.gp m4 0, .gp m5 0]) false] [none, none, none, none] (.sg (s_5 ++ [Box.mk [vS s_6]]))))
 else
 if ((p_7.1 * 16) ≤ 35184372088832) then
 withO (app1 none 1 16 (s_5 ++ [Box.mk [vS s_6]]) a2 p_7.1 p_7.2) (fun q_8 =>
 k .normal (mkS [2, 3, 5, 6] [.v (.gp m0 0) false, .v (.gp m1 0) false, .v q_8.1 false, .v (.clo 268 [] [.gp m4 0, .gp m5 0]) false] [none, none, none, none] (.sg q_8.2)))
 else
 none)
 else
 none)) (fun v_4 s_5 =>
 some (.pan v_4 s_5))
 else
 k (.exit 0) (mkS [5] [.v a2 b3] [none] (.sg sg6))))
 else
 k (.exit 0) (mkS [5] [.v a2 b3] [none] (.sg sg6)))) := by kernel_rfl
theorem octets_Cut.k0_1 (C : CallF) (N : Nat) (a0 : AVal) (b1 : Bool) (sg2 : Sg) :
 octets_Cut.K0 C N (.exit 0) (mkS [5] [.v a0 b1] [none] (.sg sg2)) =
 withA (jk a0) (fun a_0 =>
 some (.ret a_0 sg2)) := by kernel_rfl
theorem octets_Cut_1.main (C : CallF) (N : Nat) (m0 : Nat) (m1 : Nat) (sg2 : Sg) :
 evalF C N octets_Cut_1.a [.gp m0 0, .gp m1 0] sg2 =
 withO (loadC none sg2 (.gp m0 0)) (fun p_0 =>
 withI .i64 p_0.1[p_0.2]? (fun n_1 =>
 withO (loadC none sg2 (.gp m1 0)) (fun p_2 =>
 withS p_2.1[p_2.2]? (fun s_3 =>
 withO (loadC none sg2 (.gp m1 0)) (fun p_4 =>
 withS p_4.1[p_4.2]? (fun s_5 =>
 if (((0 : Int) ≤ 0) ∧ ((0 ≤ (bif false then
 max2 n_1 (↑(ByteArray.size s_3) : Int)
 else
 min2 n_1 (↑(ByteArray.size s_3) : Int))) ∧ ((bif false then
 max2 n_1 (↑(ByteArray.size s_3) : Int)
 else
 min2 n_1 (↑(ByteArray.size s_3) : Int)) ≤ (↑(ByteArray.size s_5) : Int)))) then
 withO (loadC none sg2 (.gp m1 0)) (fun p_6 =>
 withS p_6.1[p_6.2]? (fun s_7 =>
 if ((0 ≤ (bif false then
 max2 n_1 (↑(ByteArray.size s_3) : Int)
 else
 min2 n_1 (↑(ByteArray.size s_3) : Int))) ∧ (((bif false then
 max2 n_1 (↑(ByteArray.size s_3) : Int)
 else
 min2 n_1 (↑(ByteArray.size s_3) : Int)) ≤ (↑(ByteArray.size s_7) : Int)) ∧ ((↑(ByteArray.size s_7) : Int) ≤ (↑(ByteArray.size s_7) : Int)))) then
 withO (storeG none sg2 (.gp m1 0) 1 (vS (cutS s_7 (Int.toNat (bif false then
 max2 n_1 (↑(ByteArray.size s_3) : Int)
 else
 min2 n_1 (↑(ByteArray.size s_3) : Int))) (Int.toNat (↑(ByteArray.size s_7) : Int))))) (fun s_8 =>
 some (.ret (vS (cutS s_5 (Int.toNat 0) (Int.toNat (bif false then
 max2 n_1 (↑(ByteArray.size s_3) : Int)
 else
 min2 n_1 (↑(ByteArray.size s_3) : Int))))) s_8))
 else
 none))
 else
 none)))))) := by kernel_rfl
theorem blob_Need.main (C : CallF) (N : Nat) (n0 : Int) (sg1 : Sg) :
 evalF C N blob_Need.a [vI n0] sg1 =
 if ((decide (n0 ≤ 0)) = true) then
 some (.ret (vI 0) sg1)
 else
 if ((476 : Int) = 0) then
 none
 else
 some (.ret (vI (IntKind.i64.wrap ((IntKind.i64.wrap (Int.tdiv (IntKind.i64.wrap (n0 - 1)) 476)) + 1))) sg1) := by kernel_rfl
theorem law14_BlobBack_1.main (C : CallF) (N : Nat) (m0 : Nat) (m1 : Nat) (m2 : Nat) (sg3 : Sg) :
 evalF C N law14_BlobBack_1.a [.gp m0 0, .gp m1 0, .gp m2 0] sg3 =
 withO (loadC none sg3 (.gp m1 0)) (fun p_0 =>
 withS p_0.1[p_0.2]? (fun s_1 =>
 withOut (bif Nat.blt 62 1000000 then
 C 62 [.gp m0 0, vS s_1] sg3
 else
 none) (fun v_2 s_3 =>
 withG (some v_2) (fun c_4 =>
 withO (storeG none s_3 (.gp m2 0) 2 (AVal.agg c_4)) (fun s_5 =>
 some (.ret (AVal.tup []) s_5)))) (fun v_2 s_3 =>
 some (.pan v_2 s_3)))) := by kernel_rfl
theorem law14_BlobBack_2.main (C : CallF) (N : Nat) (m0 : Nat) (m1 : Nat) (sg2 : Sg) :
 evalF C N law14_BlobBack_2.a [.gp m0 0, .gp m1 0] sg2 =
 withO (loadC none sg2 (.gp m1 0)) (fun p_0 =>
 bif Nat.ble (p_0.2 + 2) (List.length p_0.1) then
 bindL (List.take 2 (List.drop p_0.2 p_0.1)) (fun l_1 =>
 withOut (bif Nat.blt 64 1000000 then
 C 64 [.gp m0 0, AVal.agg l_1] sg2
 else
 none) (fun v_2 s_3 =>
 some (.ret (AVal.tup []) s_3)) (fun v_2 s_3 =>
 some (.pan v_2 s_3)))
 else
 none) := by kernel_rfl
theorem heap_View.main (C : CallF) (N : Nat) (m0 : Nat) (a1 : FuncId) (l2 : List AVal) (l3 : List AVal) (sg4 : Sg) :
 evalF C N heap_View.a [.gp m0 0, AVal.clo a1 l2 l3] sg4 =
 if ((Bool.xor false false) = false) then
 if ((Bool.xor false false) = true) then
 some (.ret (vI 18) sg4)
 else
 withOut (bif Nat.blt 121 1000000 then
 C 121 [.gp (List.length (sg4 ++ [Box.map []])) 0, AVal.clo a1 l2 l3] ((sg4 ++ [Box.map []]) ++ [Box.mk [.gp m0 0, AVal.gm (List.length sg4)]])
 else
 none) (fun v_0 s_1 =>
 withI .i64 (some v_0) (fun n_2 =>
 some (.ret (vI n_2) s_1))) (fun v_0 s_1 =>
 some (.pan v_0 s_1))
 else
 some (.ret (vI 18) sg4) := by kernel_rfl
theorem law14_BlobBack_3.main (C : CallF) (N : Nat) (m0 : Nat) (m1 : Nat) (m2 : Nat) (m3 : Nat) (m4 : Nat) (m5 : Nat) (sg6 : Sg) :
 evalF C N law14_BlobBack_3.a [.gp m0 0, .gp m1 0, .gp m2 0, .gp m3 0, .gp m4 0, .gp m5 0] sg6 =
 withO (loadC none sg6 (.gp m1 0)) (fun p_0 =>
 withA p_0.1[p_0.2]? (fun r_1 =>
 withO (lenV r_1) (fun n_2 =>
 iter (law14_BlobBack_3.R0 C N) N (mkS [0, 2, 3, 4, 5, 14, 15, 16] [.v (.gp m0 0) false, .v (.gp m2 0) false, .v (.gp m3 0) false, .v (.gp m4 0) false, .v (.gp m5 0) false, .v r_1 false, .v (vI (↑n_2 : Int)) false, .v (vI 0) false] [none, none, none, none, none, none, none, none] (.sg sg6)) (law14_BlobBack_3.K0 C N)))) := by kernel_rfl
theorem law14_BlobBack_3.r0 (C : CallF) (N : Nat) (m0 : Nat) (m1 : Nat) (m2 : Nat) (m3 : Nat) (m4 : Nat) (a5 : AVal) (b6 : Bool) (n7 : Int) (n8 : Int) (sg9 : Sg) (k : Ex → St → R) :
 law14_BlobBack_3.R0 C N (mkS [0, 2, 3, 4, 5, 14, 15, 16] [.v (.gp m0 0) false, .v (.gp m1 0) false, .v (.gp m2 0) false, .v (.gp m3 0) false, .v (.gp m4 0) false, .v a5 b6, .v (vI n7) false, .v (vI n8) false] [none, none, none, none, none, none, none, none] (.sg sg9)) k =
 if ((decide (n8 < n7)) = true) then
 withO (elemV 2 n8 a5) (fun r_0 =>
 withO (loadC none sg9 r_0) (fun p_1 =>
 bif Nat.ble (p_1.2 + 2) (List.length p_1.1) then
 bindL (List.take 2 (List.drop p_1.2 p_1.1)) (fun l_2 =>
 bif Nat.beq (List.length (AVal.cells (AVal.agg l_2))) 2 then
 bindL (splice [vI 0, vI 0] 0 (AVal.cells (AVal.agg l_2))) (fun c_3 =>
 withO (loadC none sg9 (.gp m1 0)) (fun p_4 =>
 withA p_4.1[p_4.2]? (fun r_5 =>
 bif Nat.ble 2 (List.length c_3) then
 bindL (List.take 2 c_3) (fun l_6 =>
 bif keyV (KK.a [CK.int IntKind.i64, CK.int IntKind.i64]) (AVal.agg l_6) then
 withA (plainA r_5) (fun m_7 =>
 withO (mapV sg9 m_7) (fun p_8 =>
 withO (mGet (AVal.agg l_6) p_8.2) (fun r_9 =>
 if ((!(hasV r_9)) = true) then
 k .normal (mkS [0, 2, 3, 4, 5, 14, 15, 16] [.v (.gp m0 0) false, .v (.gp m1 0) false, .v (.gp m2 0) false, .v (.gp m3 0) false, .v (.gp m4 0) false, .v a5 b6, .v (vI n7) false, .v (vI (IntKind.i64.wrap (n8 + 1))) false] [none, none, none, none, none, none, none, none] (.sg sg9))
 else
 bif Nat.ble 2 (List.length c_3) then
 bindL (List.take 2 c_3) (fun l_10 =>
 withOut (bif Nat.blt 67 1000000 then
 C 67 [.gp m0 0, AVal.agg l_10] sg9
 else
 none) (fun v_11 s_12 =>
 withO (loadC none s_12 (.gp m2 0)) (fun p_13 =>
 withB p_13.1[p_13.2]? (fun b_14 =>
 if (b_14 = true) then
 bif Nat.ble 2 (List.length c_3) then
 bindL (List.take 2 c_3) (fun l_15 =>
 withOut (bif Nat.blt 68 1000000 then
 C 68 [.gp m0 0, AVal.agg l_15] s_12
 else
 none) (fun v_16 s_17 =>
 withS (some v_16) (fun s_18 =>
 withA (plainA (getOr [vS (ByteArray.mk (List.toArray []))] false r_9)) (fun b_19 =>
 withS (some b_19) (fun t_20 =>
 if ((eqS s_18 t_20) = true) then
 withO (lenV v_11) (fun n_21 =>
 withS (plainA (getOr [vS (ByteArray.mk (List.toArray []))] false r_9)) (fun s_22 =>
 withOut (bif Nat.blt 50 1000000 then
 C 50 [vI (↑(ByteArray.size s_22) : Int)] []
 else
 none) (fun v_23 x_24 =>
 withI .i64 (some v_23) (fun n_25 =>
 withO (storeG none s_17 (.gp m2 0) 1 (vB ((↑n_21 : Int) == n_25))) (fun s_26 =>
 withO (lenV v_11) (fun n_27 =>
 iter (law14_BlobBack_3.R1 C N) N (mkS [0, 2, 3, 4, 5, 14, 15, 16, 47, 48, 49] [.v (.gp m0 0) false, .v (.gp m1 0) false, .v (.gp m2 0) false, .v (.gp m3 0) false, .v (.gp m4 0) false, .v a5 b6, .v (vI n7) false, .v (vI n8) false, .v v_11 false, .v (vI (↑n_27 : Int)) false, .v (vI 0) false] [none, none, none, none, none, none, none, none, none, none, none] (.sg s_26)) (law14_BlobBack_3.K1 C N k))))) (fun x_23 x_24 =>
 none)))
 else
 withO (storeG none s_17 (.gp m2 0) 1 (vB false)) (fun s_21 =>
 withO (lenV v_11) (fun n_22 =>
 iter (law14_BlobBack_3.R1 C N) N (mkS [0, 2, 3, 4, 5, 14, 15, 16, 47, 48, 49] [.v (.gp m0 0) false, .v (.gp m1 0) false, .v (.gp m2 0) false, .v (.gp m3 0) false, .v (.gp m4 0) false, .v a5 b6, .v (vI n7) false, .v (vI n8) false, .v v_11 false, .v (vI (↑n_22 : Int)) false, .v (vI 0) false] [none, none, none, none, none, none, none, none, none, none, none] (.sg s_21)) (law14_BlobBack_3.K1 C N k))))))) (fun v_16 s_17 =>
 some (.pan v_16 s_17)))
 else
 none
 else
 withO (storeG none s_12 (.gp m2 0) 1 (vB false)) (fun s_15 =>
 withO (lenV v_11) (fun n_16 =>
 iter (law14_BlobBack_3.R1 C N) N (mkS [0, 2, 3, 4, 5, 14, 15, 16, 47, 48, 49] [.v (.gp m0 0) false, .v (.gp m1 0) false, .v (.gp m2 0) false, .v (.gp m3 0) false, .v (.gp m4 0) false, .v a5 b6, .v (vI n7) false, .v (vI n8) false, .v v_11 false, .v (vI (↑n_16 : Int)) false, .v (vI 0) false] [none, none, none, none, none, none, none, none, none, none, none] (.sg s_15)) (law14_BlobBack_3.K1 C N k)))))) (fun v_11 s_12 =>
 some (.pan v_11 s_12)))
 else
 none)))
 else
 none)
 else
 none)))
 else
 none)
 else
 none))
 else
 k (.exit 0) (mkS [0, 3, 4, 5] [.v (.gp m0 0) false, .v (.gp m2 0) false, .v (.gp m3 0) false, .v (.gp m4 0) false] [none, none, none, none] (.sg sg9)) := by kernel_rfl
theorem law14_BlobBack_3.k0_1 (C : CallF) (N : Nat) (m0 : Nat) (m1 : Nat) (m2 : Nat) (m3 : Nat) (sg4 : Sg) :
 law14_BlobBack_3.K0 C N (.exit 0) (mkS [0, 3, 4, 5] [.v (.gp m0 0) false, .v (.gp m1 0) false, .v (.gp m2 0) false, .v (.gp m3 0) false] [none, none, none, none] (.sg sg4)) =
 withO (loadC none sg4 (.gp m1 0)) (fun p_0 =>
 withB p_0.1[p_0.2]? (fun b_1 =>
 if (b_1 = true) then
 withOut (bif Nat.blt 27 1000000 then
 C 27 [.gp m0 0] sg4
 else
 none) (fun v_2 x_3 =>
 withI .i64 (some v_2) (fun n_4 =>
 withO (loadC none sg4 (.gp m3 0)) (fun p_5 =>
 withI .i64 p_5.1[p_5.2]? (fun n_6 =>
 withO (loadC none sg4 (.gp m2 0)) (fun p_7 =>
 withA p_7.1[p_7.2]? (fun r_8 =>
 withA (plainA r_8) (fun m_9 =>
 withO (mapV sg4 m_9) (fun p_10 =>
 withO (storeG none sg4 (.gp m1 0) 1 (vB (n_4 == (IntKind.i64.wrap ((IntKind.i64.wrap (n_6 - 2)) - (↑(List.length p_10.2) : Int)))))) (fun s_11 =>
 some (.ret (AVal.tup []) s_11)))))))))) (fun v_2 x_3 =>
 none)
 else
 withO (storeG none sg4 (.gp m1 0) 1 (vB false)) (fun s_2 =>
 some (.ret (AVal.tup []) s_2)))) := by kernel_rfl
theorem law14_BlobBack_3.r1 (C : CallF) (N : Nat) (m0 : Nat) (m1 : Nat) (m2 : Nat) (m3 : Nat) (m4 : Nat) (a5 : AVal) (b6 : Bool) (n7 : Int) (n8 : Int) (a9 : AVal) (b10 : Bool) (n11 : Int) (n12 : Int) (sg13 : Sg) (k : Ex → St → R) :
 law14_BlobBack_3.R1 C N (mkS [0, 2, 3, 4, 5, 14, 15, 16, 47, 48, 49] [.v (.gp m0 0) false, .v (.gp m1 0) false, .v (.gp m2 0) false, .v (.gp m3 0) false, .v (.gp m4 0) false, .v a5 b6, .v (vI n7) false, .v (vI n8) false, .v a9 b10, .v (vI n11) false, .v (vI n12) false] [none, none, none, none, none, none, none, none, none, none, none] (.sg sg13)) k =
 if ((decide (n12 < n11)) = true) then
 withO (elemV 1 n12 a9) (fun r_0 =>
 withO (loadC none sg13 r_0) (fun p_1 =>
 withI .i64 p_1.1[p_1.2]? (fun n_2 =>
 withO (loadC none sg13 (.gp m2 0)) (fun p_3 =>
 withB p_3.1[p_3.2]? (fun b_4 =>
 if (b_4 = true) then
 withO (loadC none sg13 (.gp m3 0)) (fun p_5 =>
 withA p_5.1[p_5.2]? (fun r_6 =>
 withA (plainA r_6) (fun m_7 =>
 withO (mapV sg13 m_7) (fun p_8 =>
 withO (mGet (vI n_2) p_8.2) (fun r_9 =>
 withB (some (getOr [vB false] false r_9)) (fun b_10 =>
 withO (storeG none sg13 (.gp m2 0) 1 (vB (!b_10))) (fun s_11 =>
 withO (loadC none s_11 (.gp m3 0)) (fun p_12 =>
 withA p_12.1[p_12.2]? (fun r_13 =>
 withA (plainA r_13) (fun m_14 =>
 withO (mapV s_11 m_14) (fun p_15 =>
 withO (mSet (vI n_2) (vB true) p_15.2) (fun e_16 =>
 k .normal (mkS [0, 2, 3, 4, 5, 14, 15, 16, 47, 48, 49] [.v (.gp m0 0) false, .v (.gp m1 0) false, .v (.gp m2 0) false, .v (.gp m3 0) false, .v (.gp m4 0) false, .v a5 b6, .v (vI n7) false, .v (vI n8) false, .v a9 b10, .v (vI n11) false, .v (vI (IntKind.i64.wrap (n12 + 1))) false] [none, none, none, none, none, none, none, none, none, none, none] (.sg (List.set s_11 p_15.1 (Box.map e_16))))))))))))))))
 else
 withO (storeG none sg13 (.gp m2 0) 1 (vB false)) (fun s_5 =>
 withO (loadC none s_5 (.gp m3 0)) (fun p_6 =>
 withA p_6.1[p_6.2]? (fun r_7 =>
 withA (plainA r_7) (fun m_8 =>
 withO (mapV s_5 m_8) (fun p_9 =>
 withO (mSet (vI n_2) (vB true) p_9.2) (fun e_10 =>
 k .normal (mkS [0, 2, 3, 4, 5, 14, 15, 16, 47, 48, 49] [.v (.gp m0 0) false, .v (.gp m1 0) false, .v (.gp m2 0) false, .v (.gp m3 0) false, .v (.gp m4 0) false, .v a5 b6, .v (vI n7) false, .v (vI n8) false, .v a9 b10, .v (vI n11) false, .v (vI (IntKind.i64.wrap (n12 + 1))) false] [none, none, none, none, none, none, none, none, none, none, none] (.sg (List.set s_5 p_9.1 (Box.map e_10)))))))))))))))
 else
 k (.exit 2) (mkS [0, 2, 3, 4, 5, 14, 15, 16] [.v (.gp m0 0) false, .v (.gp m1 0) false, .v (.gp m2 0) false, .v (.gp m3 0) false, .v (.gp m4 0) false, .v a5 b6, .v (vI n7) false, .v (vI n8) false] [none, none, none, none, none, none, none, none] (.sg sg13)) := by kernel_rfl
theorem law14_BlobBack_3.k1_1 (C : CallF) (N : Nat) (m0 : Nat) (m1 : Nat) (m2 : Nat) (m3 : Nat) (m4 : Nat) (a5 : AVal) (b6 : Bool) (n7 : Int) (n8 : Int) (sg9 : Sg) (k : Ex → St → R) :
 law14_BlobBack_3.K1 C N k (.exit 2) (mkS [0, 2, 3, 4, 5, 14, 15, 16] [.v (.gp m0 0) false, .v (.gp m1 0) false, .v (.gp m2 0) false, .v (.gp m3 0) false, .v (.gp m4 0) false, .v a5 b6, .v (vI n7) false, .v (vI n8) false] [none, none, none, none, none, none, none, none] (.sg sg9)) =
 k .normal (mkS [0, 2, 3, 4, 5, 14, 15, 16] [.v (.gp m0 0) false, .v (.gp m1 0) false, .v (.gp m2 0) false, .v (.gp m3 0) false, .v (.gp m4 0) false, .v a5 b6, .v (vI n7) false, .v (vI (IntKind.i64.wrap (n8 + 1))) false] [none, none, none, none, none, none, none, none] (.sg sg9)) := by kernel_rfl
theorem law14_BlobBack_4.main (C : CallF) (N : Nat) (m0 : Nat) (m1 : Nat) (sg2 : Sg) :
 evalF C N law14_BlobBack_4.a [.gp m0 0, .gp m1 0] sg2 =
 withO (loadC none sg2 (.gp m1 0)) (fun p_0 =>
 bif Nat.ble (p_0.2 + 2) (List.length p_0.1) then
 bindL (List.take 2 (List.drop p_0.2 p_0.1)) (fun l_1 =>
 withOut (bif Nat.blt 64 1000000 then
 C 64 [.gp m0 0, AVal.agg l_1] sg2
 else
 none) (fun v_2 s_3 =>
 some (.ret (AVal.tup []) s_3)) (fun v_2 s_3 =>
 some (.pan v_2 s_3)))
 else
 none) := by kernel_rfl
theorem law14_BlobBack_5.main (C : CallF) (N : Nat) (m0 : Nat) (m1 : Nat) (sg2 : Sg) :
 evalF C N law14_BlobBack_5.a [.gp m0 0, .gp m1 0] sg2 =
 withOut (bif Nat.blt 27 1000000 then
 C 27 [.gp m0 0] sg2
 else
 none) (fun v_0 x_1 =>
 withI .i64 (some v_0) (fun n_2 =>
 withO (storeG none sg2 (.gp m1 0) 1 (vI n_2)) (fun s_3 =>
 some (.ret (AVal.tup []) s_3)))) (fun v_0 x_1 =>
 some (.pan v_0 sg2)) := by kernel_rfl
theorem law14_lives_1.main (C : CallF) (N : Nat) (m0 : Nat) (m1 : Nat) (m2 : Nat) (m3 : Nat) (sg4 : Sg) :
 evalF C N law14_lives_1.a [.gp m0 0, .gp m1 0, .gp m2 0, .gp m3 0] sg4 =
 withOut (bif Nat.blt 62 1000000 then
 C 62 [.gp m0 0, ofConst (Value.string (ByteArray.mk (List.toArray [])))] sg4
 else
 none) (fun v_0 s_1 =>
 withG (some v_0) (fun c_2 =>
 withO (storeG none s_1 (.gp m1 0) 2 (AVal.agg c_2)) (fun s_3 =>
 withOut (bif Nat.blt 60 1000000 then
 C 60 [ofConst (Value.string (ByteArray.mk (List.toArray [97, 98]))), ofConst (Value.int IntKind.i64 1000)] []
 else
 none) (fun v_4 x_5 =>
 withS (some v_4) (fun s_6 =>
 withOut (bif Nat.blt 62 1000000 then
 C 62 [.gp m0 0, vS s_6] s_3
 else
 none) (fun v_7 s_8 =>
 withG (some v_7) (fun c_9 =>
 withO (storeG none s_8 (.gp m2 0) 2 (AVal.agg c_9)) (fun s_10 =>
 withO (loadC none s_10 (.gp m2 0)) (fun p_11 =>
 bif Nat.ble (p_11.2 + 2) (List.length p_11.1) then
 bindL (List.take 2 (List.drop p_11.2 p_11.1)) (fun l_12 =>
 withOut (bif Nat.blt 68 1000000 then
 C 68 [.gp m0 0, AVal.agg l_12] s_10
 else
 none) (fun v_13 s_14 =>
 withS (some v_13) (fun s_15 =>
 withO (storeG none s_14 (.gp m3 0) 1 (vS s_15)) (fun s_16 =>
 some (.ret (AVal.tup []) s_16)))) (fun v_13 s_14 =>
 some (.pan v_13 s_14)))
 else
 none)))) (fun v_7 s_8 =>
 some (.pan v_7 s_8)))) (fun x_4 x_5 =>
 none)))) (fun v_0 s_1 =>
 some (.pan v_0 s_1)) := by kernel_rfl
theorem law14_lives_2.main (C : CallF) (N : Nat) (m0 : Nat) (m1 : Nat) (m2 : Nat) (m3 : Nat) (sg4 : Sg) :
 evalF C N law14_lives_2.a [.gp m0 0, .gp m1 0, .gp m2 0, .gp m3 0] sg4 =
 withO (loadC none sg4 (.gp m1 0)) (fun p_0 =>
 bif Nat.ble (p_0.2 + 2) (List.length p_0.1) then
 bindL (List.take 2 (List.drop p_0.2 p_0.1)) (fun l_1 =>
 withOut (bif Nat.blt 67 1000000 then
 C 67 [.gp m0 0, AVal.agg l_1] sg4
 else
 none) (fun v_2 s_3 =>
 withA (plainA v_2) (fun v_4 =>
 withO (storeG none s_3 (.gp m2 0) 1 v_4) (fun s_5 =>
 withO (loadC none s_5 (.gp m1 0)) (fun p_6 =>
 bif Nat.ble (p_6.2 + 2) (List.length p_6.1) then
 bindL (List.take 2 (List.drop p_6.2 p_6.1)) (fun l_7 =>
 withOut (bif Nat.blt 64 1000000 then
 C 64 [.gp m0 0, AVal.agg l_7] s_5
 else
 none) (fun v_8 s_9 =>
 withOut (bif Nat.blt 27 1000000 then
 C 27 [.gp m0 0] s_9
 else
 none) (fun v_10 x_11 =>
 withI .i64 (some v_10) (fun n_12 =>
 withO (storeG none s_9 (.gp m3 0) 1 (vI n_12)) (fun s_13 =>
 some (.ret (AVal.tup []) s_13)))) (fun v_10 x_11 =>
 some (.pan v_10 s_9))) (fun v_8 s_9 =>
 some (.pan v_8 s_9)))
 else
 none)))) (fun v_2 s_3 =>
 some (.pan v_2 s_3)))
 else
 none) := by kernel_rfl
theorem law14_lives_3.main (C : CallF) (N : Nat) (m0 : Nat) (m1 : Nat) (sg2 : Sg) :
 evalF C N law14_lives_3.a [.gp m0 0, .gp m1 0] sg2 =
 withO (loadC none sg2 (.gp m1 0)) (fun p_0 =>
 bif Nat.ble (p_0.2 + 2) (List.length p_0.1) then
 bindL (List.take 2 (List.drop p_0.2 p_0.1)) (fun l_1 =>
 withOut (bif Nat.blt 68 1000000 then
 C 68 [.gp m0 0, AVal.agg l_1] sg2
 else
 none) (fun v_2 s_3 =>
 withS (some v_2) (fun s_4 =>
 some (.ret (AVal.tup []) s_3))) (fun v_2 s_3 =>
 some (.pan v_2 s_3)))
 else
 none) := by kernel_rfl
theorem ref10_Same.main (C : CallF) (N : Nat) (a0 : AVal) (a1 : AVal) (sg2 : Sg) :
 evalF C N ref10_Same.a [a0, a1] sg2 =
 withO (lenV a0) (fun n_0 =>
 withO (lenV a1) (fun n_1 =>
 if (((↑n_0 : Int) != (↑n_1 : Int)) = true) then
 some (.ret (vB false) sg2)
 else
 iter (ref10_Same.R0 C N) N (mkS [0, 1, 5] [.v a0 false, .v a1 false, .v (vI 0) false] [none, none, none] (.sg sg2)) (ref10_Same.K0 C N))) := by kernel_rfl
theorem ref10_Same.r0 (C : CallF) (N : Nat) (a0 : AVal) (b1 : Bool) (a2 : AVal) (b3 : Bool) (n4 : Int) (sg5 : Sg) (k : Ex → St → R) :
 ref10_Same.R0 C N (mkS [0, 1, 5] [.v a0 b1, .v a2 b3, .v (vI n4) false] [none, none, none] (.sg sg5)) k =
 withO (lenV a0) (fun n_0 =>
 if ((decide (n4 < (↑n_0 : Int))) = true) then
 withO (elemV 1 n4 a0) (fun r_1 =>
 withO (loadC none sg5 r_1) (fun p_2 =>
 withI .i64 p_2.1[p_2.2]? (fun n_3 =>
 withO (elemV 1 n4 a2) (fun r_4 =>
 withO (loadC none sg5 r_4) (fun p_5 =>
 withI .i64 p_5.1[p_5.2]? (fun n_6 =>
 if ((n_3 != n_6) = true) then
 k .ret (mkS [4] [.v (vB false) false] [none] (.sg sg5))
 else
 k .normal (mkS [0, 1, 5] [.v a0 b1, .v a2 b3, .v (vI (IntKind.i64.wrap (n4 + 1))) false] [none, none, none] (.sg sg5))))))))
 else
 k (.exit 0) (mkS [] [] [] (.sg sg5))) := by kernel_rfl
theorem ref10_Same.k0_1 (C : CallF) (N : Nat) (b0 : Bool) (sg1 : Sg) :
 ref10_Same.K0 C N .ret (mkS [4] [.v (vB b0) false] [none] (.sg sg1)) =
 some (.ret (vB b0) sg1) := by kernel_rfl
theorem ref10_Same.k0_2 (C : CallF) (N : Nat) (sg0 : Sg) :
 ref10_Same.K0 C N (.exit 0) (mkS [] [] [] (.sg sg0)) =
 some (.ret (vB true) sg0) := by kernel_rfl
end Go.Abs
