import Derived.Test.YtojghbipoihboaaGreatCodeP
import Derived.Test.YtojghbipoihboaaGreatEngC
set_option linter.unusedVariables false
set_option linter.unusedSimpArgs false
set_option linter.unusedSectionVars false
namespace Go.Abs
set_option maxRecDepth 100000
set_option linter.unusedVariables false
/-! 85 wharfage/pages.sizes -/
theorem pages_sizes.main (C : CallF) (N : Nat) (n0 : Int) (n1 : Int) (sg2 : Sg) :
    evalF C N pages_sizes.a [AVal.at (Value.int IntKind.i64 n0), AVal.at (Value.int IntKind.i64 n1)] sg2 =
    if decide (n0 ≥ (8 : Int)) = true then
      if decide (n0 ≤ (3840 : Int)) = true then
        if decide (n1 ≥ (4 : Int)) = true then some (Out.ret (AVal.at (Value.bool (decide (n1 ≤ (1024 : Int))))) sg2) else some (Out.ret (AVal.at (Value.bool false)) sg2)
      else some (Out.ret (AVal.at (Value.bool false)) sg2)
    else some (Out.ret (AVal.at (Value.bool false)) sg2) := by kernel_rfl


/-! 46 wharfage/pages.Size -/
theorem pages_Size.main (C : CallF) (N : Nat) (n0 : Int) (n1 : Int) (sg2 : Sg) :
    evalF C N pages_Size.a [AVal.at (Value.int IntKind.i64 n0), AVal.at (Value.int IntKind.i64 n1)] sg2 =
    withOut (bif Nat.blt (85 : Nat) (1000000 : Nat) then C (85 : FuncId) [AVal.at (Value.int IntKind.i64 n0), AVal.at (Value.int IntKind.i64 n1)] [] else none)
      (fun (v : AVal) (x : Sg) =>
        withB (some v) fun (b : Bool) =>
          if (!b) = true then some (Out.ret (AVal.tup [AVal.at (Value.int IntKind.i64 (0 : Int)), AVal.at (Value.int IntKind.i64 (18 : Int))]) sg2)
          else some (Out.ret (AVal.tup [AVal.at (Value.int IntKind.i64 (IntKind.i64.wrap (IntKind.i64.wrap ((1 : Int) + n1) + n0))), AVal.at (Value.int IntKind.i64 (0 : Int))]) sg2))
      fun (x : AVal) (x_1 : Sg) => none := by kernel_rfl


theorem pages_Format.main (C : CallF) (N : Nat) (n0 : Int) (n1 : Int) (sg2 : Sg) :
    evalF C N pages_Format.a [AVal.at (Value.pointer none), AVal.at (Value.int IntKind.i64 n0), AVal.at (Value.int IntKind.i64 n1)] sg2 =
    withOut (bif Nat.blt (46 : Nat) (1000000 : Nat) then C (46 : FuncId) [AVal.at (Value.int IntKind.i64 n0), AVal.at (Value.int IntKind.i64 n1)] [] else none)
      (fun (v : AVal) (x : Sg) =>
        withT v fun (vs : List AVal) =>
          bif vs.length.beq (2 : Nat) then
            withI IntKind.i64 vs[(0 : Nat)]? fun (n : Int) =>
              withI IntKind.i64 vs[(1 : Nat)]? fun (n_1 : Int) =>
                if (n_1 != (0 : Int)) = false then
                  withOut (bif Nat.blt (47 : Nat) (1000000 : Nat) then C (47 : FuncId) [AVal.at (Value.pointer none)] sg2 else none)
                    (fun (v : AVal) (x : Sg) =>
                      withI IntKind.i64 (some v) fun (n_2 : Int) =>
                        if (n_2 != n) = true then some (Out.ret (AVal.tup [AVal.at (Value.pointer none), AVal.at (Value.int IntKind.i64 (18 : Int))]) sg2)
                        else
                          iter (pages_Format.R0 C N) N
                            (mkS [(0 : Nat), (1 : Nat), (2 : Nat), (8 : Nat), (10 : Nat)]
                              [Slot.v (AVal.at (Value.pointer none)) false, Slot.v (AVal.at (Value.int IntKind.i64 n0)) false, Slot.v (AVal.at (Value.int IntKind.i64 n1)) false,
                                Slot.v (AVal.at (Value.int IntKind.i64 n)) false, Slot.v (AVal.at (Value.int IntKind.i64 (1 : Int))) false]
                              [none, none, none, none, none] (RVal.sg sg2))
                            (pages_Format.K0 C N))
                    fun (v : AVal) (x : Sg) => some (Out.pan v sg2)
                else some (Out.ret (AVal.tup [AVal.at (Value.pointer none), AVal.at (Value.int IntKind.i64 (18 : Int))]) sg2)
          else none)
      fun (x : AVal) (x_1 : Sg) => none := by kernel_rfl
theorem pages_Store_Read.main (C : CallF) (N : Nat) (n0 : Int) (sg1 : Sg) :
    evalF C N pages_Store_Read.a [AVal.at (Value.pointer none), AVal.at (Value.int IntKind.i64 n0)] sg1 =
    if decide (n0 < (0 : Int)) = false then
      withOut (bif Nat.blt (73 : Nat) (1000000 : Nat) then C (73 : FuncId) [AVal.at (Value.pointer none)] sg1 else none)
        (fun (v : AVal) (x : Sg) =>
          withI IntKind.i64 (some v) fun (n : Int) =>
            if decide (n0 ≥ n) = true then some (Out.ret (AVal.tup [AVal.at (Value.string { data := #[] }), AVal.at (Value.int IntKind.i64 (18 : Int))]) sg1) else none)
        fun (v : AVal) (x : Sg) => some (Out.pan v sg1)
    else some (Out.ret (AVal.tup [AVal.at (Value.string { data := #[] }), AVal.at (Value.int IntKind.i64 (18 : Int))]) sg1) := by kernel_rfl


end Go.Abs
