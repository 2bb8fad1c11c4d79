/- THE ENGINE, part 2: the abstract code of the model's code. -/
import Derived.Test.YtafmbianlodemaaCore
namespace Go.Abs
set_option linter.unusedVariables false
set_option linter.unusedSimpArgs false
set_option linter.unusedSectionVars false

/-- What the making is told: slots whose boxes lie in the global store; slots that take over the right to grow; the local box behind a slot; what is kept at each loop's head. -/
structure Pol where
  glob : List Nat := []
  pure : List Nat := []
  heap : List Nat := []
  gret : List Nat := []
  mva : List Nat := []
  root : List (Nat × Nat) := []
  live : List (List Nat × List Nat) := []
  rs : List Nat := []

def rootOf (p : Pol) : Operand → Option Nat
  | .tmp t => (p.root.find? (·.1 == t)).map (·.2)
  | _ => none

def isAggT (P : Program) (t : TypeId) : Option Bool := match P.underlying t with
  | some (.struct _) | some (.array _ _) => some true
  | some _ => some false
  | none => none
def sizeT (P : Program) (t : TypeId) : Option Nat := (P.info? t).map (·.size)
def bytesT (P : Program) (t : TypeId) : Option Nat := (P.info? t).map (·.bytes)

/-- The kinds of a type's cells. -/
def kindsT (P : Program) : Nat → TypeId → Option (List CK)
  | 0, _ => none
  | n + 1, t => match P.underlying t with
    | some (.int k) => some [.int k]
    | some .bool => some [.bool]
    | some .string => some [.str]
    | some (.slice e) => (sizeT P e).map fun s => [.sl s]
    | some (.struct fs) => (fs.toList.mapM fun f => kindsT P n f.type).map List.flatten
    | some (.array len e) => (kindsT P n e).map fun ks => (List.replicate len ks).flatten
    | some _ => some [.any]
    | none => none
def kinds (P : Program) (t : TypeId) : Option (List CK × Bool) := match kindsT P 20 t, isAggT P t, sizeT P t with
  | some ks, some a, some n => if ks.length = n then some (ks, a) else none
  | _, _, _ => none
def scalar : CK → Bool
  | .int _ | .bool | .str => true
  | _ => false
def resKinds (P : Program) (t : TypeId) : Option (List CK) := match P.underlying t with
  | some (.tuple ts) => (ts.toList.mapM fun t => match kinds P t with
      | some ([k], false) => some k
      | some (_, true) => some .ag
      | some _ => some .any
      | none => none)
  | _ => match kinds P t with
    | some ([k], false) => some [k]
    | some (_, true) => some [.ag]
    | some _ => some [.any]
    | none => none

/-- A slice that a callee gives may lie in the common store. -/
def looseK (on : Bool) (ks : List CK) : List CK := if on then ks.map fun k => match k with | .sl _ => .any | k => k else ks

def zeroCells : List CK → List Value → Option (List AVal)
  | [], [] => some []
  | .sl sz :: ks, .slice none 0 0 :: vs => (zeroCells ks vs).map (.sl true sz [] :: ·)
  | .sl _ :: _, _ :: _ => none
  | _ :: ks, v :: vs => if one v then (zeroCells ks vs).map (.at v :: ·) else none
  | _, _ => none
def zeroT (P : Program) (t : TypeId) : Option (List AVal) := match kinds P t, (P.info? t).bind (·.zero) with
  | some (ks, _), some z => zeroCells ks z.cells.toList
  | _, _ => none

def fieldT (P : Program) (t : TypeId) (f : Nat) : Option (Nat × List CK × Bool) := match P.underlying t with
  | some (.struct fs) => match fs[f]? with
    | some x => match kinds P x.type with
      | some (ks, a) => some (x.offset, ks, a)
      | _ => none
    | none => none
  | _ => none

def placesT (P : Program) (t : TypeId) (parts : List (Nat × Operand)) : Option (List (Nat × Nat × Operand)) := match P.underlying t with
  | some (.struct fs) => if ∀ f ∈ fs.toList, (sizeT P f.type).isSome = true then (parts.mapM fun (x : Nat × Operand) => match fs[x.1]? with
    | some f => (sizeT P f.type).map fun n => (f.offset, n, x.2)
    | none => none) else none
  | some (.array _ e) => match sizeT P e with
    | some n => some (parts.map fun (i, x) => (i * n, n, x))
    | none => none
  | _ => none

def builtinOp (P : Program) (p : Pol) (d : Option Nat) (b : Builtin) (args : List Operand) (tys : List TypeId) : Option AOp := match b, args, tys with
  | .len, [x], [t] => match P.underlying t with
    | some .string => some (.lenS x)
    | some (.slice _) => some (.lenL x)
    | some (.array n _) => some (.lenA n)
    | _ => none
  | .max, xs, _ => some (.minmax true xs)
  | .min, xs, _ => some (.minmax false xs)
  | .append, [.tmp x, y], [t, t2] => match P.underlying t with
    | some (.slice e) => match sizeT P e, bytesT P e, zeroT P e with
      | some n, some b, some _ => if 0 < b then (match P.underlying t2 with
        | some .string | some (.slice _) => if p.heap.contains x then some (.appendG n b (.tmp x) y) else some (.append n b x y)
        | _ => none) else none
      | _, _, _ => none
    | _ => none
  | _, _, _ => none

/-- Which nil an operand is. -/
def nilK : Operand → Option Nat
  | .const (.slice none 0 0) => some 0
  | .const (.pointer none) => some 1
  | .const .nilFunc => some 2
  | _ => none
def nilT (P : Program) (t : TypeId) : Option Nat := match P.underlying t with
  | some (.slice _) => some 0
  | some (.pointer _) => some 1
  | some (.func _ _ _) => some 2
  | _ => none
def fieldsK (g : TypeId → Option (List CK)) (P : Program) : List Field → Nat → Option (List CK)
  | [], _ => some []
  | f :: fs, off => if f.name ≠ "_" ∧ f.offset = off then (match g f.type with
    | some ks => if ks.length = P.cellsOf f.type then (match fieldsK g P fs (off + ks.length) with
      | some r => some (ks ++ r)
      | none => none) else none
    | none => none) else none
/-- The kinds of the cells that equality looks at, all of them, in order. -/
def eqK (P : Program) : Nat → TypeId → Option (List CK)
  | 0, _ => none
  | d + 1, t => match P.underlying t with
    | some (.int k) => some [.int k]
    | some .bool => some [.bool]
    | some .string => some [.str]
    | some (.array n e) => match eqK P d e with
      | some ks => if ks.length = P.cellsOf e then some ((List.replicate n ks).flatten) else none
      | none => none
    | some (.struct fs) => if P.stoodInHeld t = true then none else fieldsK (eqK P d) P fs.toList 0
    | _ => none

def eqOp (P : Program) (neg : Bool) (t : TypeId) (x y : Operand) : Option AOp := match P.underlying t with
  | some (.int _) | some .string => some (.bin (if neg then .neq else .eql) x y)
  | some (.slice _) | some (.pointer _) | some (.func _ _ _) => match nilT P t with
    | some k => if nilK y = some k then some (.nilCmp neg k x) else if nilK x = some k then some (.nilCmp neg k y) else none
    | none => none
  | some .bool => some (.eqA neg [.bool] t x y)
  | some (.struct _) | some (.array _ _) => match eqK P 20 t with
    | some ks => if P.eqGuardType P.depth t = false ∧ ks.length ≠ 1 then some (.eqA neg ks t x y) else none
    | none => none
  | _ => none

def compOp (P : Program) (p : Pol) (o : Oper) : Option AOp := match o.op with
  | .move (.tmp x) | .assign (.tmp x) => match o.dst with
    | some d => if p.mva.contains d ∧ d ≠ x then some (.movA x) else some (.mov (.tmp x))
    | none => none
  | .move (.const (.slice none 0 0)) | .assign (.const (.slice none 0 0)) => match P.underlying o.type with
    | some (.slice e) => (sizeT P e).map .nilS
    | _ => none
  | .move x | .assign x => some (.mov x)
  | .pick c a b => some (.pick c a b)
  | .binOp .eql t x y _ => eqOp P false t x y
  | .binOp .neq t x y _ => eqOp P true t x y
  | .binOp op t x y _ => some (.bin op x y)
  | .unOp op _ x => some (.un op x)
  | .convert src dst x => match P.underlying src, P.underlying dst with
    | some (.int _), some (.int k) => some (.convI k x)
    | some .string, some .string => some (.convS x)
    | some .string, some (.slice e) => if P.underlying e matches some (.int .u8) then some (.toBytes x) else none
    | some (.slice e), some .string => if P.underlying e matches some (.int .u8) then some (.toStr (rootOf p x) x) else none
    | _, _ => none
  | .field t x f => (fieldT P t f).map fun (off, ks, a) => .field off ks a x
  | .extract x i => some (.extract x i)
  | .index t x i => match P.underlying t with
    | some (.array len e) => match kinds P e with
      | some (ks, a) => some (.indexA len ks.length ks a x i)
      | _ => none
    | some .string => some (.indexS x i)
    | _ => none
  | .build t parts => match zeroT P t, placesT P t parts.toList with
    | some z, some ps => if ps.all (fun q => decide (q.1 + q.2.1 ≤ z.length)) = true then some (.build z ps) else none
    | _, _ => none
  | .box t x => match o.dst with
    | some d => if p.glob.contains d then some (.boxG x) else some (.boxL x)
    | none => none
  | .alloc t => match o.dst, zeroT P t with
    | some d, some z => if p.glob.contains d then some (.allocG z) else some (.allocL z)
    | _, _ => none
  | .fieldAddr t x f => match fieldT P t f with
    | some (off, ks, _) => if ks.length = 0 then none else some (.addr off x)
    | none => none
  | .indexAddr t x i => match P.underlying t with
    | some (.array len e) => (sizeT P e).map fun n => .indexAddrA len n x i
    | some (.slice e) => match kinds P e with
      | some (ks, a) => some (.indexAddrS ks.length x i)
      | none => none
    | _ => none
  | .load t x => match kinds P t with
    | some (ks, a) => some (.load ks a (rootOf p x) x)
    | none => none
  | .store t a x => if o.dst = none then (sizeT P t).map fun n => .store n (rootOf p a) a x else none
  | .slice t x lo hi none => match P.underlying t with
    | some .string => some (.sliceS x lo hi)
    | some (.slice e) => (sizeT P e).map fun s => .sliceV s x lo hi
    | some (.array n e) => (sizeT P e).map fun s => .sliceA n s (rootOf p x) x lo hi
    | _ => none
  | .slice t x lo (some hi) (some mx) => match P.underlying t with
    | some (.slice e) => (sizeT P e).map fun s => .sliceX s x lo hi mx
    | _ => none
  | .buildSlice t n parts => match P.underlying t with
    | some (.slice e) => match sizeT P e, zeroT P e with
      | some s, some _ => if parts.toList.map (·.1) = List.range n ∧ n * s ≤ 2 ^ 24 ∧ 0 < s then some (.buildSl s (parts.toList.map (·.2))) else none
      | _, _ => none
    | _ => none
  | .makeSlice t n c => match P.underlying t with
    | some (.slice e) => match sizeT P e, bytesT P e, zeroT P e, isAggT P e with
      | some s, some b, some z, some g => if 0 < b ∧ (g = false → s = 1) then some (.makeV s b z g n c) else none
      | _, _, _, _ => none
    | _ => none
  | .call c => match c.callee with
    | .builtin b => builtinOp P p o.dst b c.args.toList c.argTypes.toList
    | .value (.func f) => if p.pure.contains f then (if p.gret.contains f then (resKinds P o.type).map (.callD f c.args.toList) else (resKinds P o.type).map (.callP f c.args.toList)) else ((resKinds P o.type).map (looseK (p.gret.contains f))).map (.call f c.args.toList)
    | .value x => (resKinds P o.type).map (.callV x c.args.toList)
    | _ => none
  | .makeFunc (.func f) first cap => some (.makeFunc f first.toList cap.toList)
  | _ => none

def compI (P : Program) (p : Pol) (ops : Array Oper) (o : Oper) : Option AI :=
  match compOp P p o with
  | some a => match o.guard with
    | none => some ⟨none, o.dst, a⟩
    | some (j, b) => match (ops[j]?).bind (·.dst) with
      | some t => some ⟨some (t, b), o.dst, a⟩
      | none => none
  | none => none

def compIs (P : Program) (p : Pol) (ops : Array Oper) : List Oper → Option (List AI)
  | [] => some []
  | o :: l => match compI P p ops o, compIs P p ops l with
    | some a, some as => some (a :: as)
    | _, _ => none

def compC (P : Program) (p : Pol) : Code → List (List Nat × List Nat) → Option (ACode × List (List Nat × List Nat))
  | .skip, lv => some (.skip, lv)
  | .region _ ops draw, lv => (compIs P p ops ops.toList).map fun is => (.region is draw, lv)
  | .seq a b, lv => match compC P p a lv with
    | some (a', lv) => match compC P p b lv with
      | some (b', lv) => some (.seq a' b', lv)
      | none => none
    | none => none
  | .cond c a b, lv => match compC P p a lv with
    | some (a', lv) => match compC P p b lv with
      | some (b', lv) => some (.cond c a' b', lv)
      | none => none
    | none => none
  | .block id c, lv => match compC P p c lv with
    | some (c', lv) => some (.block id c', lv)
    | none => none
  | .loop c, lv => match lv with
    | l :: lv => match compC P p c lv with
      | some (c', lv) => some (.loop l.1 l.2 p.rs c', lv)
      | none => none
    | [] => none
  | .exit id, lv => some (.exit id, lv)
  | .ret, lv => some (.ret, lv)
  | _, _ => none

def dstOk (n : Nat) : ACode → Bool
  | .region is _ => is.all fun i => (i.dst.all (· < n)) && (match i.op with | .movA x => decide (x < n) | .append _ _ x _ => decide (x < n) | _ => true)
  | .seq a b | .cond _ a b => dstOk n a && dstOk n b
  | .block _ c | .loop _ _ _ c => dstOk n c
  | _ => true

def compRes (P : Program) : List ResultVar → Option (List ARes)
  | [] => some []
  | .tmp t :: l => (compRes P l).map (.tmp t :: ·)
  | .cell a t :: l => match kinds P t, compRes P l with
    | some (ks, g), some r => some (.cell a ks g :: r)
    | _, _ => none

def compF (P : Program) (p : Pol) (f : Func) : Option AFun := match f.body with
  | some c => match compC P p c p.live, compRes P f.results.toList with
    | some (c', []), some r => if dstOk f.ntmps c' ∧ f.params.size + f.nfree ≤ f.ntmps then some ⟨f.params.size + f.nfree, r, c'⟩ else none
    | _, _ => none
  | none => none

/-! ### The policy, by a look at the code (not trusted). -/
def ins (x : Nat) : List Nat → List Nat
  | [] => [x]
  | y :: l => if x < y then x :: y :: l else if x = y then y :: l else y :: ins x l
def uni (a b : List Nat) : List Nat := a.foldl (fun acc x => ins x acc) b
def opTmps (o : Op) : List Nat := o.operands.toList.filterMap fun | .tmp t => some t | _ => none

def liveOp (ops : Array Oper) (o : Oper) (out : List Nat) : List Nat :=
  let g := match o.guard with
    | some (j, _) => ((ops[j]?).bind (·.dst)).toList
    | none => []
  let out := match o.dst with
    | some d => out.filter (· != d)
    | _ => out
  uni (g ++ opTmps o.op) out

def exits : Code → List Nat
  | .seq a b | .cond _ a b => uni (exits a) (exits b)
  | .block id c => (exits c).filter (· != id)
  | .loop c => exits c
  | .exit id => [id]
  | _ => []

/-- live-in of code, and the loops' lists in the order of the text. -/
def liveC (rs : List Nat) : Code → (out : List Nat) → (ex : List (Nat × List Nat)) → List Nat × List (List Nat × List Nat)
  | .region _ ops _, out, _ => (ops.toList.foldr (liveOp ops) out, [])
  | .seq a b, out, ex => let (lb, xs) := liveC rs b out ex; let (la, ys) := liveC rs a lb ex; (la, ys ++ xs)
  | .cond c a b, out, ex => let (lb, xs) := liveC rs b out ex; let (la, ys) := liveC rs a out ex
    (uni (match c with | .tmp t => [t] | _ => []) (uni la lb), ys ++ xs)
  | .block id c, out, ex => liveC rs c out ((id, out) :: ex)
  | .loop c, _, ex =>
    let rec go : Nat → List Nat → List Nat
      | 0, l => l
      | n + 1, l => go n (liveC rs c l ex).1
    let l := go 4 []
    (l, (l, (exits c).foldl (fun acc i => uni acc (((ex.find? (·.1 == i)).map (·.2)).getD [])) []) :: (liveC rs c l ex).2)
  | .exit id, _, ex => (((ex.find? (·.1 == id)).map (·.2)).getD [], [])
  | .ret, _, _ => (rs, [])
  | _, out, _ => (out, [])

def allOps : Code → List Oper
  | .region _ ops _ => ops.toList
  | .seq a b => allOps a ++ allOps b
  | .cond _ a b => allOps a ++ allOps b
  | .block _ c | .loop c | .scope c => allOps c
  | _ => []

def polOf (P : Program) (f : Func) (glob : List Nat) (pure : List Nat := []) (heap : List Nat := []) (gret : List Nat := []) : Pol :=
  let c := f.body.getD .skip
  let ops := allOps c
  let rs := f.results.toList.map fun | .tmp t => t | .cell a _ => a
  let bases := ops.filterMap fun o => match o.op with
    | .call c => match c.callee, (c.args[0]? : Option Operand) with
      | .builtin .append, some (Operand.tmp t) => some t
      | _, _ => none
    | _ => none
  let rec clos : Nat → List Nat → List Nat
    | 0, l => l
    | n + 1, l => clos n (uni (ops.filterMap fun o => match o.op, o.dst with
        | .move (.tmp x), some d | .assign (.tmp x), some d => if l.contains d then some x else none
        | _, _ => none) l)
  let mva := (clos 3 bases).filter fun d => ops.any fun o => o.dst == some d && match o.op with | .move (.tmp _) | .assign (.tmp _) => true | _ => false
  let roots := ops.foldl (fun (m : List (Nat × Nat)) o =>
    let rt (x : Operand) : Option Nat := match x with | .tmp t => (m.find? (·.1 == t)).map (·.2) | _ => none
    match o.dst, o.op with
    | some d, .box .. | some d, .alloc .. => if glob.contains d then m else (d, d) :: m
    | some d, .convert _ _ _ => (match compOp P {} o with | some (.toBytes _) => (d, d) :: m | _ => m)
    | some d, .fieldAddr _ x _ | some d, .indexAddr _ x _ | some d, .slice _ x _ _ _ | some d, .move x | some d, .assign x =>
      (match rt x with | some r => (d, r) :: m | none => (match compOp P {} o with | some (.indexAddrS _ _ _) => if glob.isEmpty && heap.isEmpty then (d, 1000000) :: m else m | _ => m))
    | _, _ => m) []
  { glob, pure, heap, gret, mva := if heap.isEmpty then mva else [], rs, root := roots.reverse, live := (liveC rs c rs []).2 }
end Go.Abs
