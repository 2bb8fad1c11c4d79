/- LEAVES, plain definitions. -/
import Derived.Test.YtimoaolannkpcaaGreatOvBase
set_option linter.unusedVariables false
set_option linter.unusedSimpArgs false
set_option linter.unusedSectionVars false
namespace Go.Abs
def keysFn (f : Nat) : Bool := Nat.beq f 331 || Nat.beq f 320
def inI64 (n : Int) : Bool := decide (-9223372036854775808 ≤ n) && decide (n ≤ 9223372036854775807)
def ovSortedN (xs : List AVal) (sg : Sg) : R := match xs with
  | [.clo f [] [.gp g 0]] => bif keysFn f then (match sg[g]? with
    | some (.mk [.gm m]) => match sg[m]? with
      | some (.map es) => match keysI es with
        | some ks => bif ks.all inI64 && Nat.ble ks.length 1048576 then (match ks with
          | [] => some (.ret (.sl true 1 []) sg)
          | _ :: _ => some (.ret (.gs sg.length 1 0 ks.length) (sg ++ [.mk ((sortI ks).map fun n => .at (.int .i64 n))]))) else none
        | none => none
      | _ => none
    | _ => none) else none
  | _ => none
def ovTry (C : CallF) (N : Nat) (xs : List AVal) (sg : Sg) : R := match xs with
  | [h, .clo f first cap] => match callC C f (first ++ (h :: cap)) sg with
    | some (.ret _ sg') => some (.ret (.at (.int .i64 0)) sg')
    | some (.pan (.ifc t (.agg [.at (.int .i64 n)])) sg') => bif Nat.beq t 182 then some (.ret (.at (.int .i64 n)) sg') else none
    | _ => none
  | _ => none
def ovCopyCheck (TB : Nat) (xs : List AVal) (sg : Sg) : R := match xs with
  | [.gp g 0] => match sg[g]? with
    | some (.tmk t true [.at (.pointer none), b]) => bif Nat.beq t TB then some (.ret (.tup []) (sg.set g (.mk [.gp g 0, b]))) else none
    | some (.mk [.gp g' 0, _]) => bif Nat.beq g' g then some (.ret (.tup []) sg) else none
    | _ => none
  | _ => none
def byteOk : AVal → Bool
  | .at (.int .u8 n) => decide (0 ≤ n) && decide (n < 256)
  | _ => false
def bStr (TY : Nat) (v : AVal) (sg : Sg) : R := match v with
  | .sl true 1 [] => some (.ret (.at (.string ⟨#[]⟩)) sg)
  | .gs gb 1 0 n => match sg[gb]? with
    | some (.tmk t false cs) => bif Nat.beq t TY && (Nat.beq cs.length n && (Nat.blt 0 n && (Nat.ble n 1099511627776 && cs.all byteOk))) then (match bytesOf cs with
      | some bs => some (.ret (.at (.string ⟨⟨bs⟩⟩)) (sg.set gb (.mk [])))
      | none => none) else none
    | _ => none
  | _ => none
def ovBString (TY : Nat) (xs : List AVal) (sg : Sg) : R := match xs with
  | [.gp g 0] => match sg[g]? with
    | some (.mk [_, v]) => bStr TY v sg
    | some (.tmk _ true [_, v]) => bStr TY v sg
    | _ => none
  | _ => none
end Go.Abs
