/- WHAT STANDS FOR LIBRARY FUNCTIONS AND FOR THE CHECKSUM: plain functions. -/
import Derived.Test.YtimoaolannkpcaaGreatCodeP
set_option linter.unusedVariables false
set_option linter.unusedSimpArgs false
set_option linter.unusedSectionVars false
namespace Go.Abs
def insI (x : Int) : List Int → List Int
  | [] => [x]
  | y :: l => if x ≤ y then x :: y :: l else y :: insI x l
def sortI (l : List Int) : List Int := l.foldr insI []
def keysI : List (AVal × AVal) → Option (List Int)
  | [] => some []
  | (.at (.int .i64 n), _) :: l => match keysI l with
    | some r => some (n :: r)
    | none => none
  | _ => none
def ovSorted (xs : List AVal) (sg : Sg) : R := match xs with
  | [.clo f [] [.gp g 0]] => bif Nat.beq f 331 then (match sg[g]? with
    | some (.mk [.gm m]) => match sg[m]? with
      | some (.map [(.at (.int .i64 n), _)]) => if -9223372036854775808 ≤ n ∧ n ≤ 9223372036854775807 then some (.ret (.gs sg.length 1 0 1) (sg ++ [.mk [.at (.int .i64 n)]])) else none
      | _ => none
    | _ => none) else none
  | _ => none
def repB (l : List UInt8) : Nat → List UInt8
  | 0 => []
  | n + 1 => l ++ repB l n
def ovRepeat (xs : List AVal) (sg : Sg) : R := match xs with
  | [.at (.string s), .at (.int .i64 n)] => if 0 ≤ n ∧ n ≤ 9223372036854775807 ∧ s.data.toList.length * n.toNat ≤ 140737488355328 then some (.ret (.at (.string ⟨⟨repB s.data.toList n.toNat⟩⟩)) sg) else none
  | _ => none
def cntB (b : UInt8) : List UInt8 → Nat
  | [] => 0
  | x :: l => bif Nat.beq x.toNat b.toNat then cntB b l + 1 else cntB b l
def ovCount (xs : List AVal) (sg : Sg) : R := match xs with
  | [.at (.string s), .at (.string ⟨⟨[b]⟩⟩)] => some (.ret (.at (.int .i64 (cntB b s.data.toList))) sg)
  | _ => none
def seqN {α : Type} (c : Nat) (f : Nat → α) : α := match c with
  | 0 => f 0
  | n + 1 => f (n + 1)
theorem seqN_eq {α : Type} (c : Nat) (f : Nat → α) : seqN c f = f c := by cases c <;> rfl
def crcT : List Nat := [0x00000000, 0x83cf0f3c, 0xd1fdae25, 0x5232a119, 0x7598ec17, 0xf657e32b, 0xa4654232, 0x27aa4d0e, 0xeb31d82e, 0x68fed712, 0x3acc760b, 0xb9037937, 0x9ea93439, 0x1d663b05, 0x4f549a1c, 0xcc9b9520]
def nib (c : Nat) : Nat := Nat.xor (Nat.shiftRight c 4) (crcT.getD (Nat.land c 15) 0)
def crcL : List UInt8 → Nat → Nat
  | [], c => c
  | x :: l, c => seqN (Nat.xor c x.toNat) fun a => seqN (nib a) fun b => seqN (nib b) fun c => crcL l c
def ovMore (xs : List AVal) (sg : Sg) : R := match xs with
  | [.at (.int .u32 c), .at (.string s)] => if 0 ≤ c ∧ c < 4294967296 ∧ s.data.toList.length < 9223372036854775807 then
      some (.ret (.at (.int .u32 (Nat.xor (crcL s.data.toList (Nat.xor c.toNat 4294967295)) 4294967295 : Nat))) sg) else none
  | _ => none
end Go.Abs
