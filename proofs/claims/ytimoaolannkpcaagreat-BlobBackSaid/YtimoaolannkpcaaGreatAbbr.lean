/- THE ENGINE: short words for code. -/
import Derived.Test.YtimoaolannkpcaaGreatEngA
set_option linter.unusedVariables false
set_option linter.unusedSimpArgs false
set_option linter.unusedSectionVars false
namespace Go.Abs
abbrev x_ (t : Nat) : Operand := .tmp t
abbrev n_ (k : Int) : Operand := .const (.int .i64 k)
abbrev k_ (k : IntKind) (n : Int) : Operand := .const (.int k n)
abbrev c_ (v : Value) : Operand := .const v
abbrev T_ : Operand := .const (.bool true)
abbrev F_ : Operand := .const (.bool false)
abbrev i_ (d : Nat) (o : AOp) : AI := ⟨none, some d, o⟩
abbrev u_ (o : AOp) : AI := ⟨none, none, o⟩
abbrev m_ (d t : Nat) : AI := ⟨none, some d, .mov (.tmp t)⟩
abbrev g_ (t d : Nat) (o : AOp) : AI := ⟨some (t, true), some d, o⟩
abbrev h_ (t d : Nat) (o : AOp) : AI := ⟨some (t, false), some d, o⟩
abbrev gm_ (t d s : Nat) : AI := ⟨some (t, true), some d, .mov (.tmp s)⟩
abbrev hm_ (t d s : Nat) : AI := ⟨some (t, false), some d, .mov (.tmp s)⟩
abbrev r_ (l : List AI) : ACode := .region l false
abbrev d_ (l : List AI) : ACode := .region l true
abbrev if_ (t : Nat) (a b : ACode) : ACode := .cond (.tmp t) a b none
abbrev ifj_ (t : Nat) (l : List Nat) (a b : ACode) : ACode := .cond (.tmp t) a b (some (t, l))
def sq : List ACode → ACode
  | [] => .skip
  | [a] => a
  | a :: b :: l => .seq a (sq (b :: l))
abbrev ix : CK := .int .i64
abbrev vI (n : Int) : AVal := .at (.int .i64 n)
abbrev vU (n : Int) : AVal := .at (.int .u64 n)
abbrev v8 (n : Int) : AVal := .at (.int .u8 n)
abbrev v32 (n : Int) : AVal := .at (.int .u32 n)
abbrev vB (b : Bool) : AVal := .at (.bool b)
abbrev vS (s : ByteArray) : AVal := .at (.string s)
end Go.Abs
