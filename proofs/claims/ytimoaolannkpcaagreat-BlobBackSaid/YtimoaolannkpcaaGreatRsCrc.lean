
import Derived.Test.YtimoaolannkpcaaGreatCodeP
import Derived.Test.YtimoaolannkpcaaGreatEngC
set_option linter.unusedVariables false
set_option linter.unusedSimpArgs false
set_option linter.unusedSectionVars false
namespace Go.Abs
set_option maxRecDepth 100000
set_option linter.unusedVariables false
theorem crc_More.main (C : CallF) (N : Nat) (n0 : Int) (s1 : ByteArray) (sg2 : Sg) :
 evalF C N crc_More.a [v32 n0, vS s1] sg2 =
 withOut (bif Nat.blt 415 1000000 then C (415 : FuncId) [] [] else none)
 (fun v x =>
 withG (some v) fun cs =>
 bif noG (AVal.agg cs) then
 bif cs.length.beq 16 then
 bindL
 (splice
 [v32 (0 : Int), v32 (0 : Int), v32 (0 : Int), v32 (0 : Int),
 v32 (0 : Int), v32 (0 : Int), v32 (0 : Int), v32 (0 : Int),
 v32 (0 : Int), v32 (0 : Int), v32 (0 : Int), v32 (0 : Int),
 v32 (0 : Int), v32 (0 : Int), v32 (0 : Int), v32 (0 : Int)]
 0 cs)
 fun cs =>
 iter (crc_More.R0 C N) N
 (mkS [5, 6, 13, 14, 15]
 [Slot.lp 5 0, .v (v32 (bitsI BinOp.xor IntKind.u32 n0 (4294967295 : Int))) false, Slot.ls 13 0 s1.size,
 .v (vI (↑s1.size : Int)) false, .v (vI (0 : Int)) false]
 [some (Box.mk cs), none, some (Box.mk (ofBytes s1.data.toList)), none, none] (.sg sg2))
 (crc_More.K0 C N)
 else none
 else none)
 fun x x_1 => none := by kernel_rfl
theorem crc_More.r0 (C : CallF) (N : Nat) (n0 : Int) (m1 : Nat) (n2 : Int) (n3 : Int) (l4 : List AVal) (l5 : List AVal) (sg6 : Sg) (k : Ex → St → R) :
 crc_More.R0 C N
 (mkS [5, 6, 13, 14, 15]
 [Slot.lp 5 0, .v (v32 n0) false, Slot.ls 13 0 m1, .v (vI n2) false,
 .v (vI n3) false]
 [some (Box.mk l4), none, some (Box.mk l5), none, none] (.sg sg6))
 k =
 if decide (n3 < n2) = true then
 if (0 : Int) ≤ n3 ∧ n3 < (↑m1 : Int) then
 withI IntKind.u8 l5[0 + n3.toNat * 1]? fun n =>
 if (4 : Int) < (0 : Int) then none
 else
 if
 (0 : Int) ≤ bitsI BinOp.and IntKind.u32 (bitsI BinOp.xor IntKind.u32 n0 (IntKind.u32.wrap n)) (15 : Int) ∧
 bitsI BinOp.and IntKind.u32 (bitsI BinOp.xor IntKind.u32 n0 (IntKind.u32.wrap n)) (15 : Int) < (↑16 : Int) then
 withI IntKind.u32 l4[0 + (bitsI BinOp.and IntKind.u32 (bitsI BinOp.xor IntKind.u32 n0 (IntKind.u32.wrap n)) (15 : Int)).toNat * 1]? fun n_1 =>
 if (4 : Int) < (0 : Int) then none
 else
 if
 (0 : Int) ≤ bitsI BinOp.and IntKind.u32 (bitsI BinOp.xor IntKind.u32 (shiftI BinOp.shr IntKind.u32 (bitsI BinOp.xor IntKind.u32 n0 (IntKind.u32.wrap n)) (4 : Int)) n_1) (15 : Int) ∧
 bitsI BinOp.and IntKind.u32 (bitsI BinOp.xor IntKind.u32 (shiftI BinOp.shr IntKind.u32 (bitsI BinOp.xor IntKind.u32 n0 (IntKind.u32.wrap n)) (4 : Int)) n_1) (15 : Int) <
 (↑16 : Int) then
 withI IntKind.u32
 l4[0 +
 (bitsI BinOp.and IntKind.u32 (bitsI BinOp.xor IntKind.u32 (shiftI BinOp.shr IntKind.u32 (bitsI BinOp.xor IntKind.u32 n0 (IntKind.u32.wrap n)) (4 : Int)) n_1) (15 : Int)).toNat *
 1]?
 fun n_2 =>
 k .normal
 (mkS [5, 6, 13, 14, 15]
 [Slot.lp 5 0,
 Slot.v
 (AVal.at
 (Value.int IntKind.u32
 (bitsI BinOp.xor IntKind.u32
 (shiftI BinOp.shr IntKind.u32 (bitsI BinOp.xor IntKind.u32 (shiftI BinOp.shr IntKind.u32 (bitsI BinOp.xor IntKind.u32 n0 (IntKind.u32.wrap n)) (4 : Int)) n_1)
 (4 : Int))
 n_2)))
 false,
 Slot.ls 13 0 m1, .v (vI n2) false, .v (vI (IntKind.i64.wrap (n3 + (1 : Int)))) false]
 [some (Box.mk l4), none, some (Box.mk l5), none, none] (.sg sg6))
 else none
 else none
 else none
 else k (.exit 0) (mkS [6] [.v (v32 n0) false] [none] (.sg sg6)) := by kernel_rfl
theorem crc_More.k0_1 (C : CallF) (N : Nat) (n0 : Int) (sg1 : Sg) :
 crc_More.K0 C N (.exit 0) (mkS [6] [.v (v32 n0) false] [none] (.sg sg1)) =
 some (.ret (v32 (bitsI BinOp.xor IntKind.u32 n0 (4294967295 : Int))) sg1) := by kernel_rfl
end Go.Abs
