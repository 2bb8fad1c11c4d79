import Derived.Test.YtimoaolannkpcaaGreatCodeP
import Derived.Test.YtimoaolannkpcaaGreatEngC
set_option linter.unusedVariables false
set_option linter.unusedSimpArgs false
set_option linter.unusedSectionVars false
namespace Go.Abs
set_option maxRecDepth 100000
set_option linter.unusedVariables false
/-! 380 wharfage/crc.More -/
theorem crc_More.main (C : CallF) (N : Nat) (n0 : Int) (s1 : ByteArray) (sg2 : Sg) :
    evalF C N crc_More.a [AVal.at (Value.int IntKind.u32 n0), AVal.at (Value.string s1)] sg2 =
    withOut (bif Nat.blt (415 : Nat) (1000000 : Nat) then C (415 : FuncId) [] [] else none)
      (fun (v : AVal) (x : Sg) =>
        withG (some v) fun (cs : List AVal) =>
          bif noG (AVal.agg cs) then
            bif cs.length.beq (16 : Nat) then
              bindL
                (splice
                  [AVal.at (Value.int IntKind.u32 (0 : Int)), AVal.at (Value.int IntKind.u32 (0 : Int)), AVal.at (Value.int IntKind.u32 (0 : Int)), AVal.at (Value.int IntKind.u32 (0 : Int)),
                    AVal.at (Value.int IntKind.u32 (0 : Int)), AVal.at (Value.int IntKind.u32 (0 : Int)), AVal.at (Value.int IntKind.u32 (0 : Int)), AVal.at (Value.int IntKind.u32 (0 : Int)),
                    AVal.at (Value.int IntKind.u32 (0 : Int)), AVal.at (Value.int IntKind.u32 (0 : Int)), AVal.at (Value.int IntKind.u32 (0 : Int)), AVal.at (Value.int IntKind.u32 (0 : Int)),
                    AVal.at (Value.int IntKind.u32 (0 : Int)), AVal.at (Value.int IntKind.u32 (0 : Int)), AVal.at (Value.int IntKind.u32 (0 : Int)), AVal.at (Value.int IntKind.u32 (0 : Int))]
                  (0 : Nat) cs)
                fun (cs : List AVal) =>
                iter (crc_More.R0 C N) N
                  (mkS [(5 : Nat), (6 : Nat), (13 : Nat), (14 : Nat), (15 : Nat)]
                    [Slot.lp (5 : Nat) (0 : Nat), Slot.v (AVal.at (Value.int IntKind.u32 (bitsI BinOp.xor IntKind.u32 n0 (4294967295 : Int)))) false, Slot.ls (13 : Nat) (0 : Nat) s1.size,
                      Slot.v (AVal.at (Value.int IntKind.i64 (↑s1.size : Int))) false, Slot.v (AVal.at (Value.int IntKind.i64 (0 : Int))) false]
                    [some (Box.mk cs), none, some (Box.mk (ofBytes s1.data.toList)), none, none] (RVal.sg sg2))
                  (crc_More.K0 C N)
            else none
          else none)
      fun (x : AVal) (x_1 : Sg) => none := by kernel_rfl
theorem crc_More.r0 (C : CallF) (N : Nat) (n0 : Int) (m1 : Nat) (n2 : Int) (n3 : Int) (l4 : List AVal) (l5 : List AVal) (sg6 : Sg) (k : Ex → St → R) :
    crc_More.R0 C N
      (mkS [(5 : Nat), (6 : Nat), (13 : Nat), (14 : Nat), (15 : Nat)]
        [Slot.lp (5 : Nat) (0 : Nat), Slot.v (AVal.at (Value.int IntKind.u32 n0)) false, Slot.ls (13 : Nat) (0 : Nat) m1, Slot.v (AVal.at (Value.int IntKind.i64 n2)) false,
          Slot.v (AVal.at (Value.int IntKind.i64 n3)) false]
        [some (Box.mk l4), none, some (Box.mk l5), none, none] (RVal.sg sg6))
      k =
    if decide (n3 < n2) = true then
      if (0 : Int) ≤ n3 ∧ n3 < (↑m1 : Int) then
        withI IntKind.u8 l5[(0 : Nat) + n3.toNat * (1 : Nat)]? fun (n : Int) =>
          if (4 : Int) < (0 : Int) then none
          else
            if
                (0 : Int) ≤ bitsI BinOp.and IntKind.u32 (bitsI BinOp.xor IntKind.u32 n0 (IntKind.u32.wrap n)) (15 : Int) ∧
                  bitsI BinOp.and IntKind.u32 (bitsI BinOp.xor IntKind.u32 n0 (IntKind.u32.wrap n)) (15 : Int) < (↑(16 : Nat) : Int) then
              withI IntKind.u32 l4[(0 : Nat) + (bitsI BinOp.and IntKind.u32 (bitsI BinOp.xor IntKind.u32 n0 (IntKind.u32.wrap n)) (15 : Int)).toNat * (1 : Nat)]? fun (n_1 : Int) =>
                if (4 : Int) < (0 : Int) then none
                else
                  if
                      (0 : Int) ≤ bitsI BinOp.and IntKind.u32 (bitsI BinOp.xor IntKind.u32 (shiftI BinOp.shr IntKind.u32 (bitsI BinOp.xor IntKind.u32 n0 (IntKind.u32.wrap n)) (4 : Int)) n_1) (15 : Int) ∧
                        bitsI BinOp.and IntKind.u32 (bitsI BinOp.xor IntKind.u32 (shiftI BinOp.shr IntKind.u32 (bitsI BinOp.xor IntKind.u32 n0 (IntKind.u32.wrap n)) (4 : Int)) n_1) (15 : Int) <
                          (↑(16 : Nat) : Int) then
                    withI IntKind.u32
                      l4[(0 : Nat) +
                          (bitsI BinOp.and IntKind.u32 (bitsI BinOp.xor IntKind.u32 (shiftI BinOp.shr IntKind.u32 (bitsI BinOp.xor IntKind.u32 n0 (IntKind.u32.wrap n)) (4 : Int)) n_1) (15 : Int)).toNat *
                            (1 : Nat)]?
                      fun (n_2 : Int) =>
                      k Ex.normal
                        (mkS [(5 : Nat), (6 : Nat), (13 : Nat), (14 : Nat), (15 : Nat)]
                          [Slot.lp (5 : Nat) (0 : Nat),
                            Slot.v
                              (AVal.at
                                (Value.int IntKind.u32
                                  (bitsI BinOp.xor IntKind.u32
                                    (shiftI BinOp.shr IntKind.u32 (bitsI BinOp.xor IntKind.u32 (shiftI BinOp.shr IntKind.u32 (bitsI BinOp.xor IntKind.u32 n0 (IntKind.u32.wrap n)) (4 : Int)) n_1)
                                      (4 : Int))
                                    n_2)))
                              false,
                            Slot.ls (13 : Nat) (0 : Nat) m1, Slot.v (AVal.at (Value.int IntKind.i64 n2)) false, Slot.v (AVal.at (Value.int IntKind.i64 (IntKind.i64.wrap (n3 + (1 : Int))))) false]
                          [some (Box.mk l4), none, some (Box.mk l5), none, none] (RVal.sg sg6))
                  else none
            else none
      else none
    else k (Ex.exit (0 : Nat)) (mkS [(6 : Nat)] [Slot.v (AVal.at (Value.int IntKind.u32 n0)) false] [none] (RVal.sg sg6)) := by kernel_rfl
theorem crc_More.k0_1 (C : CallF) (N : Nat) (n0 : Int) (sg1 : Sg) :
    crc_More.K0 C N (Ex.exit (0 : Nat)) (mkS [(6 : Nat)] [Slot.v (AVal.at (Value.int IntKind.u32 n0)) false] [none] (RVal.sg sg1)) =
    some (Out.ret (AVal.at (Value.int IntKind.u32 (bitsI BinOp.xor IntKind.u32 n0 (4294967295 : Int)))) sg1) := by kernel_rfl

end Go.Abs
