/- THE RESIDUAL of the law, by the kernel. Printed by a program of my own. -/
import Derived.Test.YtafmbianlodemaaCodeDrr
import Derived.KernelRfl
namespace Go.Abs
set_option linter.unusedVariables false
set_option linter.unusedSimpArgs false
set_option linter.unusedSectionVars false
set_option maxRecDepth 100000
/-! 3 wharfage/wharfagelaw26.DrrTells -/
theorem law26_DrrTells.main (C : CallF) (N : Nat) (l0 : List AVal) (l1 : List AVal) (n2 : Int) (n3 : Int) (sg4 : Sg) :
  evalF C N law26_DrrTells.a [AVal.agg l0, AVal.agg l1, AVal.at (Value.int IntKind.i64 n2), AVal.at (Value.int IntKind.i64 n3)] sg4 =
  bif Nat.ble (11 : Nat) l0.length then
  bindL (List.take (11 : Nat) l0) fun (l : List AVal) =>
  withOut (C (10 : Nat) [AVal.agg l] sg4)
  (fun (v : AVal) (sg' : Sg) =>
  withG (some v) fun (cs : List AVal) =>
  bif Nat.ble (8 : Nat) l1.length then
  bindL (List.take (8 : Nat) l1) fun (l : List AVal) =>
  withOut (C (9 : Nat) [AVal.agg cs, AVal.agg l] sg')
  (fun (v : AVal) (sg' : Sg) =>
  withT v fun (vs : List AVal) =>
  bif vs.length.beq (3 : Nat) then
  withG vs[(0 : Nat)]? fun (cs : List AVal) =>
  withI IntKind.i64 vs[(1 : Nat)]? fun (n : Int) =>
  withB vs[(2 : Nat)]? fun (b : Bool) =>
  bif cs.length.beq (11 : Nat) then
  bindL
  (splice
  [AVal.at (Value.int IntKind.i64 (0 : Int)), AVal.at (Value.int IntKind.i64 (0 : Int)), AVal.at (Value.int IntKind.i64 (0 : Int)),
  AVal.at (Value.int IntKind.i64 (0 : Int)), AVal.at (Value.int IntKind.i64 (0 : Int)), AVal.at (Value.int IntKind.i64 (0 : Int)),
  AVal.at (Value.int IntKind.i64 (0 : Int)), AVal.at (Value.int IntKind.i64 (0 : Int)), AVal.at (Value.int IntKind.i64 (0 : Int)),
  AVal.at (Value.int IntKind.i64 (0 : Int)), AVal.at (Value.int IntKind.i64 (0 : Int))]
  (0 : Nat) cs)
  fun (cs : List AVal) =>
  bif Nat.ble (11 : Nat) l0.length then
  bindL (List.take (11 : Nat) l0) fun (l : List AVal) =>
  bif Nat.ble (8 : Nat) l1.length then
  bindL (List.take (8 : Nat) l1) fun (l_1 : List AVal) =>
  withOut (C (11 : Nat) [AVal.agg l, AVal.agg l_1] sg')
  (fun (v : AVal) (sg' : Sg) =>
  withT v fun (vs : List AVal) =>
  bif vs.length.beq (3 : Nat) then
  withG vs[(0 : Nat)]? fun (cs_1 : List AVal) =>
  withI IntKind.i64 vs[(1 : Nat)]? fun (n_1 : Int) =>
  withB vs[(2 : Nat)]? fun (b_1 : Bool) =>
  bif cs_1.length.beq (11 : Nat) then
  bindL
  (splice
  [AVal.at (Value.int IntKind.i64 (0 : Int)), AVal.at (Value.int IntKind.i64 (0 : Int)), AVal.at (Value.int IntKind.i64 (0 : Int)),
  AVal.at (Value.int IntKind.i64 (0 : Int)), AVal.at (Value.int IntKind.i64 (0 : Int)), AVal.at (Value.int IntKind.i64 (0 : Int)),
  AVal.at (Value.int IntKind.i64 (0 : Int)), AVal.at (Value.int IntKind.i64 (0 : Int)), AVal.at (Value.int IntKind.i64 (0 : Int)),
  AVal.at (Value.int IntKind.i64 (0 : Int)), AVal.at (Value.int IntKind.i64 (0 : Int))]
  (0 : Nat) cs_1)
  fun (cs_2 : List AVal) =>
  withOut (C (12 : Nat) [AVal.at (Value.int IntKind.i64 n2), AVal.at (Value.int IntKind.i64 n3)] sg')
  (fun (v : AVal) (sg' : Sg) =>
  withT v fun (vs : List AVal) =>
  bif vs.length.beq (2 : Nat) then
  withG vs[(0 : Nat)]? fun (cs_3 : List AVal) =>
  withI IntKind.i64 vs[(1 : Nat)]? fun (n_2 : Int) =>
  bif cs_3.length.beq (11 : Nat) then
  bindL
  (splice
  [AVal.at (Value.int IntKind.i64 (0 : Int)), AVal.at (Value.int IntKind.i64 (0 : Int)),
  AVal.at (Value.int IntKind.i64 (0 : Int)), AVal.at (Value.int IntKind.i64 (0 : Int)),
  AVal.at (Value.int IntKind.i64 (0 : Int)), AVal.at (Value.int IntKind.i64 (0 : Int)),
  AVal.at (Value.int IntKind.i64 (0 : Int)), AVal.at (Value.int IntKind.i64 (0 : Int)),
  AVal.at (Value.int IntKind.i64 (0 : Int)), AVal.at (Value.int IntKind.i64 (0 : Int)),
  AVal.at (Value.int IntKind.i64 (0 : Int))]
  (0 : Nat) cs_3)
  fun (cs_4 : List AVal) =>
  withOut
  (C (13 : Nat)
  [AVal.agg
  [AVal.at (Value.int IntKind.i64 n2), AVal.at (Value.int IntKind.i64 n3),
  AVal.at
  (Value.int IntKind.i64 (IntKind.i64.wrap ((bif true then max2 n2 (1 : Int) else min2 n2 (1 : Int)) - (1 : Int)))),
  AVal.at (Value.int IntKind.i64 (0 : Int)), AVal.at (Value.int IntKind.i64 (0 : Int)),
  AVal.at (Value.int IntKind.i64 (0 : Int)), AVal.at (Value.int IntKind.i64 (0 : Int)),
  AVal.at (Value.int IntKind.i64 (0 : Int)), AVal.at (Value.int IntKind.i64 (0 : Int)),
  AVal.at (Value.int IntKind.i64 (0 : Int)), AVal.at (Value.int IntKind.i64 (0 : Int))]]
  sg')
  (fun (v : AVal) (sg' : Sg) =>
  withB (some v) fun (b_2 : Bool) =>
  if (true ^^ b_2 == (n_2 == (0 : Int))) = false then
  if (n_2 == (0 : Int)) = true then
  bif Nat.ble (11 : Nat) cs_4.length then
  bindL (List.take (11 : Nat) cs_4) fun (l : List AVal) =>
  withOut
  (C (10 : Nat)
  [AVal.agg
  [AVal.at (Value.int IntKind.i64 n2), AVal.at (Value.int IntKind.i64 n3),
  AVal.at
  (Value.int IntKind.i64
  (IntKind.i64.wrap ((bif true then max2 n2 (1 : Int) else min2 n2 (1 : Int)) - (1 : Int)))),
  AVal.at (Value.int IntKind.i64 (0 : Int)), AVal.at (Value.int IntKind.i64 (0 : Int)),
  AVal.at (Value.int IntKind.i64 (0 : Int)), AVal.at (Value.int IntKind.i64 (0 : Int)),
  AVal.at (Value.int IntKind.i64 (0 : Int)), AVal.at (Value.int IntKind.i64 (0 : Int)),
  AVal.at (Value.int IntKind.i64 (0 : Int)), AVal.at (Value.int IntKind.i64 (0 : Int))]]
  sg')
  (fun (v : AVal) (sg' : Sg) =>
  withG (some v) fun (cs_5 : List AVal) =>
  withO
  (cellsEq
  [CK.int IntKind.i64, CK.int IntKind.i64, CK.int IntKind.i64, CK.int IntKind.i64, CK.int IntKind.i64,
  CK.int IntKind.i64, CK.int IntKind.i64, CK.int IntKind.i64, CK.int IntKind.i64, CK.int IntKind.i64,
  CK.int IntKind.i64]
  l cs_5)
  fun (r : Bool) =>
  if (true ^^ r) = false then
  if (n_2 != (0 : Int)) = true then
  if (n_2 != (18 : Int)) = false then
  bif Nat.ble (11 : Nat) cs_4.length then
  bindL (List.take (11 : Nat) cs_4) fun (l : List AVal) =>
  withO
  (cellsEq
  [CK.int IntKind.i64, CK.int IntKind.i64, CK.int IntKind.i64, CK.int IntKind.i64,
  CK.int IntKind.i64, CK.int IntKind.i64, CK.int IntKind.i64, CK.int IntKind.i64,
  CK.int IntKind.i64, CK.int IntKind.i64, CK.int IntKind.i64]
  l
  [AVal.at (Value.int IntKind.i64 (0 : Int)), AVal.at (Value.int IntKind.i64 (0 : Int)),
  AVal.at (Value.int IntKind.i64 (0 : Int)), AVal.at (Value.int IntKind.i64 (0 : Int)),
  AVal.at (Value.int IntKind.i64 (0 : Int)), AVal.at (Value.int IntKind.i64 (0 : Int)),
  AVal.at (Value.int IntKind.i64 (0 : Int)), AVal.at (Value.int IntKind.i64 (0 : Int)),
  AVal.at (Value.int IntKind.i64 (0 : Int)), AVal.at (Value.int IntKind.i64 (0 : Int)),
  AVal.at (Value.int IntKind.i64 (0 : Int))])
  fun (r : Bool) =>
  if (true ^^ r) = true then some (Out.ret (AVal.at (Value.bool false)) sg')
  else
  withOut (C (14 : Nat) [] sg')
  (fun (v : AVal) (sg' : Sg) =>
  withB (some v) fun (b_3 : Bool) =>
  if b_3 = true then
  bif Nat.ble (11 : Nat) cs.length then
  bindL (List.take (11 : Nat) cs) fun (l : List AVal) =>
  bif Nat.ble (11 : Nat) cs_2.length then
  bindL (List.take (11 : Nat) cs_2) fun (l_2 : List AVal) =>
  withOut (C (10 : Nat) [AVal.agg l_2] sg')
  (fun (v : AVal) (sg' : Sg) =>
  withG (some v) fun (cs : List AVal) =>
  withO
  (cellsEq
  [CK.int IntKind.i64, CK.int IntKind.i64, CK.int IntKind.i64,
  CK.int IntKind.i64, CK.int IntKind.i64, CK.int IntKind.i64,
  CK.int IntKind.i64, CK.int IntKind.i64, CK.int IntKind.i64,
  CK.int IntKind.i64, CK.int IntKind.i64]
  l cs)
  fun (r : Bool) =>
  if (false ^^ r) = true then
  if (n == n_1) = true then
  if (false ^^ b == b_1) = true then
  bif Nat.ble (11 : Nat) l0.length then
  bindL (List.take (11 : Nat) l0) fun (l : List AVal) =>
  withOut (C (10 : Nat) [AVal.agg l] sg')
  (fun (v : AVal) (sg' : Sg) =>
  withG (some v) fun (cs : List AVal) =>
  withOut (C (15 : Nat) [AVal.agg cs] sg')
  (fun (v : AVal) (sg' : Sg) =>
  withI IntKind.i64 (some v) fun (n : Int) =>
  bif Nat.ble (11 : Nat) l0.length then
  bindL (List.take (11 : Nat) l0)
  fun (l : List AVal) =>
  withOut (C (13 : Nat) [AVal.agg l] sg')
  (fun (v : AVal) (sg' : Sg) =>
  withB (some v) fun (b : Bool) =>
  if
  (false ^^
  (n == (0 : Int)) == b) =
  true then
  bif
  Nat.ble (11 : Nat)
  l0.length then
  bindL
  (List.take (11 : Nat) l0)
  fun (l : List AVal) =>
  withOut
  (C (10 : Nat) [AVal.agg l]
  sg')
  (fun (v : AVal)
  (sg' : Sg) =>
  withG (some v)
  fun
  (cs : List AVal) =>
  withOut
  (C (15 : Nat)
  [AVal.agg cs] sg')
  (fun (v : AVal)
  (sg' : Sg) =>
  withI IntKind.i64
  (some v)
  fun (n : Int) =>
  if
  (n ==
  (0 :
  Int)) =
  false then
  bif
  Nat.ble
  (11 :
  Nat)
  l0.length then
  bindL
  (List.take
  (11 :
  Nat)
  l0)
  fun
  (l :
  List
  AVal) =>
  withOut
  (C
  (10 :
  Nat)
  [AVal.agg
  l]
  sg')
  (fun
  (v :
  AVal)
  (sg' :
  Sg) =>
  withG
  (some
  v)
  fun
  (cs :
  List
  AVal) =>
  withOut
  (C
  (15 :
  Nat)
  [AVal.agg
  cs]
  sg')
  (fun
  (v :
  AVal)
  (sg' :
  Sg) =>
  withI
  IntKind.i64
  (some
  v)
  fun
  (n :
  Int) =>
  some
  (Out.ret
  (AVal.at
  (Value.bool
  (n ==
  (18 :
  Int))))
  sg'))
  fun
  (v :
  AVal)
  (sg' :
  Sg) =>
  none)
  fun
  (v :
  AVal)
  (sg' :
  Sg) =>
  none
  else none
  else
  some
  (Out.ret
  (AVal.at
  (Value.bool
  true))
  sg'))
  fun (v : AVal)
  (sg' : Sg) =>
  none)
  fun (v : AVal)
  (sg' : Sg) =>
  none
  else none
  else
  some
  (Out.ret
  (AVal.at (Value.bool false))
  sg'))
  fun (v : AVal) (sg' : Sg) => none
  else none)
  fun (v : AVal) (sg' : Sg) => none)
  fun (v : AVal) (sg' : Sg) => none
  else none
  else some (Out.ret (AVal.at (Value.bool false)) sg')
  else some (Out.ret (AVal.at (Value.bool false)) sg')
  else some (Out.ret (AVal.at (Value.bool false)) sg'))
  fun (v : AVal) (sg' : Sg) => none
  else none
  else none
  else some (Out.ret (AVal.at (Value.bool false)) sg'))
  fun (v : AVal) (sg' : Sg) => none
  else none
  else some (Out.ret (AVal.at (Value.bool false)) sg')
  else
  withOut (C (14 : Nat) [] sg')
  (fun (v : AVal) (sg' : Sg) =>
  withB (some v) fun (b_3 : Bool) =>
  if b_3 = true then
  bif Nat.ble (11 : Nat) cs.length then
  bindL (List.take (11 : Nat) cs) fun (l : List AVal) =>
  bif Nat.ble (11 : Nat) cs_2.length then
  bindL (List.take (11 : Nat) cs_2) fun (l_2 : List AVal) =>
  withOut (C (10 : Nat) [AVal.agg l_2] sg')
  (fun (v : AVal) (sg' : Sg) =>
  withG (some v) fun (cs : List AVal) =>
  withO
  (cellsEq
  [CK.int IntKind.i64, CK.int IntKind.i64, CK.int IntKind.i64,
  CK.int IntKind.i64, CK.int IntKind.i64, CK.int IntKind.i64,
  CK.int IntKind.i64, CK.int IntKind.i64, CK.int IntKind.i64,
  CK.int IntKind.i64, CK.int IntKind.i64]
  l cs)
  fun (r : Bool) =>
  if (false ^^ r) = true then
  if (n == n_1) = true then
  if (false ^^ b == b_1) = true then
  bif Nat.ble (11 : Nat) l0.length then
  bindL (List.take (11 : Nat) l0) fun (l : List AVal) =>
  withOut (C (10 : Nat) [AVal.agg l] sg')
  (fun (v : AVal) (sg' : Sg) =>
  withG (some v) fun (cs : List AVal) =>
  withOut (C (15 : Nat) [AVal.agg cs] sg')
  (fun (v : AVal) (sg' : Sg) =>
  withI IntKind.i64 (some v) fun (n : Int) =>
  bif Nat.ble (11 : Nat) l0.length then
  bindL (List.take (11 : Nat) l0)
  fun (l : List AVal) =>
  withOut (C (13 : Nat) [AVal.agg l] sg')
  (fun (v : AVal) (sg' : Sg) =>
  withB (some v) fun (b : Bool) =>
  if
  (false ^^ (n == (0 : Int)) == b) =
  true then
  bif Nat.ble (11 : Nat) l0.length then
  bindL (List.take (11 : Nat) l0)
  fun (l : List AVal) =>
  withOut
  (C (10 : Nat) [AVal.agg l] sg')
  (fun (v : AVal) (sg' : Sg) =>
  withG (some v)
  fun (cs : List AVal) =>
  withOut
  (C (15 : Nat) [AVal.agg cs]
  sg')
  (fun (v : AVal) (sg' : Sg) =>
  withI IntKind.i64 (some v)
  fun (n : Int) =>
  if
  (n == (0 : Int)) =
  false then
  bif
  Nat.ble (11 : Nat)
  l0.length then
  bindL
  (List.take
  (11 : Nat) l0)
  fun
  (l : List AVal) =>
  withOut
  (C (10 : Nat)
  [AVal.agg l]
  sg')
  (fun (v : AVal)
  (sg' : Sg) =>
  withG (some v)
  fun
  (cs :
  List
  AVal) =>
  withOut
  (C
  (15 : Nat)
  [AVal.agg
  cs]
  sg')
  (fun
  (v :
  AVal)
  (sg' :
  Sg) =>
  withI
  IntKind.i64
  (some v)
  fun
  (n :
  Int) =>
  some
  (Out.ret
  (AVal.at
  (Value.bool
  (n ==
  (18 :
  Int))))
  sg'))
  fun
  (v : AVal)
  (sg' :
  Sg) =>
  none)
  fun (v : AVal)
  (sg' : Sg) =>
  none
  else none
  else
  some
  (Out.ret
  (AVal.at
  (Value.bool true))
  sg'))
  fun (v : AVal) (sg' : Sg) =>
  none)
  fun (v : AVal) (sg' : Sg) => none
  else none
  else
  some
  (Out.ret (AVal.at (Value.bool false))
  sg'))
  fun (v : AVal) (sg' : Sg) => none
  else none)
  fun (v : AVal) (sg' : Sg) => none)
  fun (v : AVal) (sg' : Sg) => none
  else none
  else some (Out.ret (AVal.at (Value.bool false)) sg')
  else some (Out.ret (AVal.at (Value.bool false)) sg')
  else some (Out.ret (AVal.at (Value.bool false)) sg'))
  fun (v : AVal) (sg' : Sg) => none
  else none
  else none
  else some (Out.ret (AVal.at (Value.bool false)) sg'))
  fun (v : AVal) (sg' : Sg) => none
  else some (Out.ret (AVal.at (Value.bool false)) sg'))
  fun (v : AVal) (sg' : Sg) => none
  else none
  else
  if (n_2 != (0 : Int)) = true then
  if (n_2 != (18 : Int)) = false then
  bif Nat.ble (11 : Nat) cs_4.length then
  bindL (List.take (11 : Nat) cs_4) fun (l : List AVal) =>
  withO
  (cellsEq
  [CK.int IntKind.i64, CK.int IntKind.i64, CK.int IntKind.i64, CK.int IntKind.i64, CK.int IntKind.i64,
  CK.int IntKind.i64, CK.int IntKind.i64, CK.int IntKind.i64, CK.int IntKind.i64, CK.int IntKind.i64,
  CK.int IntKind.i64]
  l
  [AVal.at (Value.int IntKind.i64 (0 : Int)), AVal.at (Value.int IntKind.i64 (0 : Int)),
  AVal.at (Value.int IntKind.i64 (0 : Int)), AVal.at (Value.int IntKind.i64 (0 : Int)),
  AVal.at (Value.int IntKind.i64 (0 : Int)), AVal.at (Value.int IntKind.i64 (0 : Int)),
  AVal.at (Value.int IntKind.i64 (0 : Int)), AVal.at (Value.int IntKind.i64 (0 : Int)),
  AVal.at (Value.int IntKind.i64 (0 : Int)), AVal.at (Value.int IntKind.i64 (0 : Int)),
  AVal.at (Value.int IntKind.i64 (0 : Int))])
  fun (r : Bool) =>
  if (true ^^ r) = true then some (Out.ret (AVal.at (Value.bool false)) sg')
  else
  withOut (C (14 : Nat) [] sg')
  (fun (v : AVal) (sg' : Sg) =>
  withB (some v) fun (b_3 : Bool) =>
  if b_3 = true then
  bif Nat.ble (11 : Nat) cs.length then
  bindL (List.take (11 : Nat) cs) fun (l : List AVal) =>
  bif Nat.ble (11 : Nat) cs_2.length then
  bindL (List.take (11 : Nat) cs_2) fun (l_2 : List AVal) =>
  withOut (C (10 : Nat) [AVal.agg l_2] sg')
  (fun (v : AVal) (sg' : Sg) =>
  withG (some v) fun (cs : List AVal) =>
  withO
  (cellsEq
  [CK.int IntKind.i64, CK.int IntKind.i64, CK.int IntKind.i64,
  CK.int IntKind.i64, CK.int IntKind.i64, CK.int IntKind.i64,
  CK.int IntKind.i64, CK.int IntKind.i64, CK.int IntKind.i64,
  CK.int IntKind.i64, CK.int IntKind.i64]
  l cs)
  fun (r : Bool) =>
  if (false ^^ r) = true then
  if (n == n_1) = true then
  if (false ^^ b == b_1) = true then
  bif Nat.ble (11 : Nat) l0.length then
  bindL (List.take (11 : Nat) l0) fun (l : List AVal) =>
  withOut (C (10 : Nat) [AVal.agg l] sg')
  (fun (v : AVal) (sg' : Sg) =>
  withG (some v) fun (cs : List AVal) =>
  withOut (C (15 : Nat) [AVal.agg cs] sg')
  (fun (v : AVal) (sg' : Sg) =>
  withI IntKind.i64 (some v) fun (n : Int) =>
  bif Nat.ble (11 : Nat) l0.length then
  bindL (List.take (11 : Nat) l0) fun (l : List AVal) =>
  withOut (C (13 : Nat) [AVal.agg l] sg')
  (fun (v : AVal) (sg' : Sg) =>
  withB (some v) fun (b : Bool) =>
  if (false ^^ (n == (0 : Int)) == b) = true then
  bif Nat.ble (11 : Nat) l0.length then
  bindL (List.take (11 : Nat) l0)
  fun (l : List AVal) =>
  withOut (C (10 : Nat) [AVal.agg l] sg')
  (fun (v : AVal) (sg' : Sg) =>
  withG (some v) fun (cs : List AVal) =>
  withOut
  (C (15 : Nat) [AVal.agg cs] sg')
  (fun (v : AVal) (sg' : Sg) =>
  withI IntKind.i64 (some v)
  fun (n : Int) =>
  if
  (n == (0 : Int)) =
  false then
  bif
  Nat.ble (11 : Nat)
  l0.length then
  bindL
  (List.take (11 : Nat)
  l0)
  fun (l : List AVal) =>
  withOut
  (C (10 : Nat)
  [AVal.agg l] sg')
  (fun (v : AVal)
  (sg' : Sg) =>
  withG (some v)
  fun
  (cs :
  List AVal) =>
  withOut
  (C (15 : Nat)
  [AVal.agg cs]
  sg')
  (fun (v : AVal)
  (sg' :
  Sg) =>
  withI
  IntKind.i64
  (some v)
  fun
  (n :
  Int) =>
  some
  (Out.ret
  (AVal.at
  (Value.bool
  (n ==
  (18 :
  Int))))
  sg'))
  fun (v : AVal)
  (sg' : Sg) =>
  none)
  fun (v : AVal)
  (sg' : Sg) =>
  none
  else none
  else
  some
  (Out.ret
  (AVal.at
  (Value.bool true))
  sg'))
  fun (v : AVal) (sg' : Sg) => none)
  fun (v : AVal) (sg' : Sg) => none
  else none
  else
  some
  (Out.ret (AVal.at (Value.bool false)) sg'))
  fun (v : AVal) (sg' : Sg) => none
  else none)
  fun (v : AVal) (sg' : Sg) => none)
  fun (v : AVal) (sg' : Sg) => none
  else none
  else some (Out.ret (AVal.at (Value.bool false)) sg')
  else some (Out.ret (AVal.at (Value.bool false)) sg')
  else some (Out.ret (AVal.at (Value.bool false)) sg'))
  fun (v : AVal) (sg' : Sg) => none
  else none
  else none
  else some (Out.ret (AVal.at (Value.bool false)) sg'))
  fun (v : AVal) (sg' : Sg) => none
  else none
  else some (Out.ret (AVal.at (Value.bool false)) sg')
  else
  withOut (C (14 : Nat) [] sg')
  (fun (v : AVal) (sg' : Sg) =>
  withB (some v) fun (b_3 : Bool) =>
  if b_3 = true then
  bif Nat.ble (11 : Nat) cs.length then
  bindL (List.take (11 : Nat) cs) fun (l : List AVal) =>
  bif Nat.ble (11 : Nat) cs_2.length then
  bindL (List.take (11 : Nat) cs_2) fun (l_2 : List AVal) =>
  withOut (C (10 : Nat) [AVal.agg l_2] sg')
  (fun (v : AVal) (sg' : Sg) =>
  withG (some v) fun (cs : List AVal) =>
  withO
  (cellsEq
  [CK.int IntKind.i64, CK.int IntKind.i64, CK.int IntKind.i64, CK.int IntKind.i64,
  CK.int IntKind.i64, CK.int IntKind.i64, CK.int IntKind.i64, CK.int IntKind.i64,
  CK.int IntKind.i64, CK.int IntKind.i64, CK.int IntKind.i64]
  l cs)
  fun (r : Bool) =>
  if (false ^^ r) = true then
  if (n == n_1) = true then
  if (false ^^ b == b_1) = true then
  bif Nat.ble (11 : Nat) l0.length then
  bindL (List.take (11 : Nat) l0) fun (l : List AVal) =>
  withOut (C (10 : Nat) [AVal.agg l] sg')
  (fun (v : AVal) (sg' : Sg) =>
  withG (some v) fun (cs : List AVal) =>
  withOut (C (15 : Nat) [AVal.agg cs] sg')
  (fun (v : AVal) (sg' : Sg) =>
  withI IntKind.i64 (some v) fun (n : Int) =>
  bif Nat.ble (11 : Nat) l0.length then
  bindL (List.take (11 : Nat) l0) fun (l : List AVal) =>
  withOut (C (13 : Nat) [AVal.agg l] sg')
  (fun (v : AVal) (sg' : Sg) =>
  withB (some v) fun (b : Bool) =>
  if (false ^^ (n == (0 : Int)) == b) = true then
  bif Nat.ble (11 : Nat) l0.length then
  bindL (List.take (11 : Nat) l0) fun (l : List AVal) =>
  withOut (C (10 : Nat) [AVal.agg l] sg')
  (fun (v : AVal) (sg' : Sg) =>
  withG (some v) fun (cs : List AVal) =>
  withOut (C (15 : Nat) [AVal.agg cs] sg')
  (fun (v : AVal) (sg' : Sg) =>
  withI IntKind.i64 (some v)
  fun (n : Int) =>
  if (n == (0 : Int)) = false then
  bif Nat.ble (11 : Nat) l0.length then
  bindL (List.take (11 : Nat) l0)
  fun (l : List AVal) =>
  withOut
  (C (10 : Nat) [AVal.agg l] sg')
  (fun (v : AVal) (sg' : Sg) =>
  withG (some v)
  fun (cs : List AVal) =>
  withOut
  (C (15 : Nat)
  [AVal.agg cs] sg')
  (fun (v : AVal)
  (sg' : Sg) =>
  withI IntKind.i64
  (some v)
  fun (n : Int) =>
  some
  (Out.ret
  (AVal.at
  (Value.bool
  (n ==
  (18 :
  Int))))
  sg'))
  fun (v : AVal)
  (sg' : Sg) =>
  none)
  fun (v : AVal) (sg' : Sg) =>
  none
  else none
  else
  some
  (Out.ret (AVal.at (Value.bool true))
  sg'))
  fun (v : AVal) (sg' : Sg) => none)
  fun (v : AVal) (sg' : Sg) => none
  else none
  else some (Out.ret (AVal.at (Value.bool false)) sg'))
  fun (v : AVal) (sg' : Sg) => none
  else none)
  fun (v : AVal) (sg' : Sg) => none)
  fun (v : AVal) (sg' : Sg) => none
  else none
  else some (Out.ret (AVal.at (Value.bool false)) sg')
  else some (Out.ret (AVal.at (Value.bool false)) sg')
  else some (Out.ret (AVal.at (Value.bool false)) sg'))
  fun (v : AVal) (sg' : Sg) => none
  else none
  else none
  else some (Out.ret (AVal.at (Value.bool false)) sg'))
  fun (v : AVal) (sg' : Sg) => none
  else some (Out.ret (AVal.at (Value.bool false)) sg'))
  fun (v : AVal) (sg' : Sg) => none
  else none
  else none)
  fun (v : AVal) (sg' : Sg) => some (Out.pan v sg')
  else none
  else none)
  fun (v : AVal) (sg' : Sg) => some (Out.pan v sg')
  else none
  else none
  else none
  else none)
  fun (v : AVal) (sg' : Sg) => none
  else none)
  fun (v : AVal) (sg' : Sg) => none
  else none := by kernel_rfl


end Go.Abs
