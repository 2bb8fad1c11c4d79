/- THE ENGINE, part 1: abstract values, abstract code, its evaluation. -/
import Derived.Calls
import Derived.LoopN
import Derived.Below
set_option linter.unusedVariables false
namespace Go.Abs
set_option linter.unusedSimpArgs false
set_option linter.unusedSectionVars false

/-- A value of one cell. -/
def one : Value → Bool
  | .agg _ | .tuple _ => false
  | _ => true

inductive AVal where
  | junk
  | at (v : Value)
  | agg (cs : List AVal)
  | tup (vs : List AVal)
  | sl (nn : Bool) (sz : Nat) (l : List AVal)
  | ep (cs : List AVal)
  | gp (g off : Nat)
  | gs (g sz off len : Nat)
  | clo (f : FuncId) (first captured : List AVal)
  | ifc (t : TypeId) (v : AVal)
  deriving Inhabited

def AVal.cells : AVal → List AVal
  | .agg cs => cs
  | v => [v]

/-- Box contents: the cells. -/
structure Box where
  cells : List AVal
  deriving Inhabited

inductive Slot where
  | v (a : AVal) (f : Bool)
  | lp (b off : Nat)
  | ls (b off len : Nat)
  deriving Inhabited

inductive Res where
  | s (i : Nat)
  | l (i : Nat)
  | g

def Res.is : Res → Res → Bool
  | .s i, .s j => Nat.beq i j
  | .l i, .l j => Nat.beq i j
  | .g, .g => true
  | _, _ => false
theorem Res.is_iff {a b : Res} : a.is b = true ↔ a = b := by
  cases a <;> cases b <;> simp [Res.is]

abbrev Sg := List Box

inductive RVal where
  | no
  | sv (s : Slot)
  | bx (b : Option Box)
  | sg (s : Sg)
  deriving Inhabited

abbrev St := Res → RVal

def upd (st : St) (r : Res) (x : RVal) : St := fun q => bif q.is r then x else st q
def upds (st : St) : List (Res × RVal) → St
  | [] => st
  | (r, x) :: us => upds (upd st r x) us

def rdT (rd : St) (t : Nat) : Slot := match rd (.s t) with
  | .sv s => s
  | _ => .v .junk false
def ofConst : Value → AVal
  | .slice none 0 0 => .sl true 0 []
  | .agg _ => .junk
  | .tuple _ => .junk
  | v => .at v
def rdO (rd : St) : Operand → Slot
  | .tmp t => rdT rd t
  | .const v => .v (ofConst v) false
  | .global _ => .v .junk false
  | .func f => .v (.clo f [] []) false
def plainA (a : AVal) : Option AVal := match a with
  | .junk => none
  | .tup _ => none
  | a => some a
def rdA (rd : St) (x : Operand) : Option AVal := match rdO rd x with
  | .v a _ => plainA a
  | _ => none

/-- The kind of a cell that is read. -/
inductive CK where
  | int (k : IntKind)
  | bool
  | str
  | sl (sz : Nat)
  | any
  | ag

inductive AOp where
  | mov (x : Operand)
  | movA (x : Nat)
  | nilS (sz : Nat)
  | pick (c a b : Operand)
  | bin (op : BinOp) (x y : Operand)
  | nilCmp (neg : Bool) (k : Nat) (x : Operand)
  | eqA (neg : Bool) (ks : List CK) (t : TypeId) (x y : Operand)
  | un (op : UnOp) (x : Operand)
  | convI (k : IntKind) (x : Operand)
  | convS (x : Operand)
  | field (off : Nat) (ks : List CK) (agg : Bool) (x : Operand)
  | extract (x : Operand) (i : Nat)
  | indexA (len esz : Nat) (ks : List CK) (agg : Bool) (x i : Operand)
  | indexS (x i : Operand)
  | build (zero : List AVal) (parts : List (Nat × Nat × Operand))
  | boxL (x : Operand)
  | allocL (zero : List AVal)
  | boxG (x : Operand)
  | allocG (zero : List AVal)
  | addr (off : Nat) (x : Operand)
  | indexAddrA (len esz : Nat) (x i : Operand)
  | indexAddrS (esz : Nat) (x i : Operand)
  | load (ks : List CK) (agg : Bool) (root : Option Nat) (x : Operand)
  | store (n : Nat) (root : Option Nat) (a x : Operand)
  | lenS (x : Operand)
  | lenL (x : Operand)
  | lenA (n : Nat)
  | minmax (max : Bool) (xs : List Operand)
  | sliceS (x : Operand) (lo hi : Option Operand)
  | sliceV (esz : Nat) (x : Operand) (lo hi : Option Operand)
  | sliceA (len esz : Nat) (root : Option Nat) (x : Operand) (lo hi : Option Operand)
  | sliceX (esz : Nat) (x : Operand) (lo : Option Operand) (hi mx : Operand)
  | buildSl (esz : Nat) (xs : List Operand)
  | append (esz bytes : Nat) (x : Nat) (y : Operand)
  | appendG (esz bytes : Nat) (x y : Operand)
  | makeV (esz bytes : Nat) (zero : List AVal) (agg : Bool) (n c : Operand)
  | toBytes (x : Operand)
  | toStr (root : Option Nat) (x : Operand)
  | call (f : FuncId) (args : List Operand) (ks : List CK)
  | callP (f : FuncId) (args : List Operand) (ks : List CK)
  | callD (f : FuncId) (args : List Operand) (ks : List CK)
  | callV (f : Operand) (args : List Operand) (ks : List CK)
  | makeFunc (f : FuncId) (first captured : List Operand)

structure AI where
  g : Option (Nat × Bool)
  dst : Option Nat
  op : AOp

inductive ACode where
  | skip
  | region (is : List AI) (draw : Bool)
  | seq (a b : ACode)
  | cond (c : Operand) (a b : ACode)
  | block (id : Nat) (c : ACode)
  | loop (live out rs : List Nat) (c : ACode)
  | exit (id : Nat)
  | ret

inductive Out where
  | ret (v : AVal) (sg : Sg)
  | pan (v : AVal) (sg : Sg)
abbrev R := Option Out
abbrev CallF := FuncId → List AVal → Sg → R

inductive Step where
  | go (us : List (Res × RVal))
  | pan (v : AVal) (sg : Sg)

def dstU (d : Option Nat) (s : Slot) : List (Res × RVal) := match d with
  | some d => [(.s d, .sv s)]
  | none => []

mutual
/-- Nothing in it leads into the common store. -/
def noG : AVal → Bool
  | .gp _ _ => false
  | .gs _ _ _ _ => false
  | .agg cs => noGs cs
  | .tup vs => noGs vs
  | .sl _ _ l => noGs l
  | .ep cs => noGs cs
  | .clo _ a b => noGs a && noGs b
  | .ifc _ v => noG v
  | _ => true
def noGs : List AVal → Bool
  | [] => true
  | a :: l => noG a && noGs l
end
/-- What a call gives out of a common store of its own, by value. -/
def chunks (sz : Nat) : Nat → List AVal → List AVal
  | 0, _ => []
  | n + 1, cs => (bif Nat.beq sz 1 then cs.headD .junk else .agg (cs.take sz)) :: chunks sz n (cs.drop sz)
def thawL (f : AVal → Option AVal) : List AVal → Option (List AVal)
  | [] => some []
  | a :: l => match f a with
    | some b => match thawL f l with
      | some m => some (b :: m)
      | none => none
    | none => none
def thaw : Nat → List Box → AVal → Option AVal
  | 0, _, _ => none
  | n + 1, sg, v => bif noG v then some v else match v with
    | .tup vs => (thawL (thaw n sg) vs).map .tup
    | .agg cs => (thawL (thaw n sg) cs).map .agg
    | .gp g off => match sg[g]? with
      | some B => (thawL (thaw n sg) (B.cells.drop off)).map .ep
      | none => none
    | .gs g sz off len => match sg[g]? with
      | some B => bif Nat.ble (off + len * sz) B.cells.length && Nat.blt 0 sz then (thawL (thaw n sg) ((B.cells.drop off).take (len * sz))).map fun cs => .sl false sz (chunks sz len cs) else none
      | none => none
    | _ => none

section
variable {α : Type}

def kEq : IntKind → IntKind → Bool
  | .i8, .i8 | .i16, .i16 | .i32, .i32 | .i64, .i64 | .u8, .u8 | .u16, .u16 | .u32, .u32 | .u64, .u64 => true
  | _, _ => false

/-- A list under a name. -/
def bindL (l : List AVal) (c : List AVal → Option α) : Option α := c l
def withA (a : Option AVal) (c : AVal → Option α) : Option α := match a with
  | some a => c a
  | none => none
def withI (k : IntKind) (a : Option AVal) (c : Int → Option α) : Option α := match a with
  | some (.at (.int k' n)) => bif kEq k' k then c n else none
  | _ => none
def withN (a : Option AVal) (c : Int → Option α) : Option α := match a with
  | some (.at (.int _ n)) => c n
  | _ => none
def withB (a : Option AVal) (c : Bool → Option α) : Option α := match a with
  | some (.at (.bool b)) => c b
  | _ => none
def withS (a : Option AVal) (c : ByteArray → Option α) : Option α := match a with
  | some (.at (.string s)) => c s
  | _ => none
def withL (sz : Nat) (a : Option AVal) (c : Bool → List AVal → Option α) : Option α := match a with
  | some (.sl nn sz' l) => bif Nat.beq sz' sz then c nn l else none
  | _ => none

def withG (a : Option AVal) (c : List AVal → Option α) : Option α := match a with
  | some (.agg cs) => c cs
  | _ => none

def withK (k : CK) (a : Option AVal) (c : AVal → Option α) : Option α := match k with
  | .int k => withI k a fun n => c (.at (.int k n))
  | .bool => withB a fun b => c (.at (.bool b))
  | .str => withS a fun s => c (.at (.string s))
  | .sl sz => withL sz a fun nn l => c (.sl nn sz l)
  | .any => withA a c
  | .ag => withG a fun cs => c (.agg cs)

/-- Cells of these kinds from 'off' on. -/
def withKs : List CK → List AVal → Nat → (List AVal → Option α) → Option α
  | [], _, _, c => c []
  | k :: ks, cs, off, c => withK k cs[off]? fun a => withKs ks cs (off + 1) fun as => c (a :: as)

/-- A value of these cells. -/
def withV (ks : List CK) (agg : Bool) (cs : List AVal) (off : Nat) (c : AVal → Option α) : Option α := match agg, ks with
  | true, ks => bif Nat.ble (off + ks.length) cs.length then bindL ((cs.drop off).take ks.length) (fun l => c (.agg l)) else none
  | false, [k] => withK k cs[off]? c
  | false, _ => none

def args? (rd : St) : List Operand → Option (List AVal)
  | [] => some []
  | x :: l => match rdA rd x with
    | some a => match args? rd l with
      | some as => some (a :: as)
      | none => none
    | none => none

def withO {β : Type} (a : Option β) (c : β → Option α) : Option α := match a with
  | some a => c a
  | none => none

/-- The box behind an address: its cells, the place in it, which. -/
def withBox (rd : St) (root : Option Nat) (s : Slot) (c : Box → Nat → Option Nat → Option α) : Option α := match root, s with
  | some r, .lp b off => bif Nat.beq b r then (match rd (.l r) with | .bx (some B) => c B off (some r) | _ => none) else none
  | none, .v (.gp g off) _ => match rd .g with
    | .sg sg => withO sg[g]? fun B => bif B.cells.isEmpty then none else c B off none
    | _ => none
  | _, _ => none

def allSz (n : Nat) (as : List AVal) : Bool := match as with
  | [] => true
  | a :: l => bif Nat.beq a.cells.length n then allSz n l else false
def splice (cs : List AVal) (off : Nat) (xs : List AVal) : List AVal := cs.take off ++ (xs ++ cs.drop (off + xs.length))

def intOr (rd : St) (x : Option Operand) (d : Int) (c : Int → Option α) : Option α := match x with
  | some x => withN (rdA rd x) c
  | none => c d

def bounds (n : Nat) (rd : St) (lo hi : Option Operand) (c : Nat → Nat → Option α) : Option α :=
  intOr rd hi n fun h => intOr rd lo 0 fun l => if 0 ≤ l ∧ l ≤ h ∧ h ≤ n then c l.toNat h.toNat else none

def rootIs (r : Option Nat) (b : Nat) : Bool := match r with
  | some r => Nat.beq b r
  | none => false
def bytesOf : List AVal → Option (List UInt8)
  | [] => some []
  | .at (.int .u8 n) :: l => match bytesOf l with
    | some bs => some (UInt8.ofNat n.toNat :: bs)
    | none => none
  | _ => none
/-- The cells of a list's elements. -/
def flatA : List AVal → List AVal
  | [] => []
  | a :: l => a.cells ++ flatA l
def ofBytes (l : List UInt8) : List AVal := l.map fun b => .at (.int .u8 b.toNat)

def fillA (cs : List AVal) : List (Nat × List AVal) → List AVal
  | [] => cs
  | (off, xs) :: r => fillA (splice cs off xs) r

def parts? (rd : St) : List (Nat × Nat × Operand) → Option (List (Nat × List AVal))
  | [] => some []
  | (off, n, x) :: r => match rdA rd x with
    | some a => bif Nat.beq a.cells.length n then (match parts? rd r with
      | some l => some ((off, a.cells) :: l)
      | none => none) else none
    | none => none

def withParts (rd : St) : List (Nat × Nat × Operand) → (List (Nat × List AVal) → Option α) → Option α
  | [], c => c []
  | (off, n, x) :: r, c => withA (rdA rd x) fun a => bif Nat.beq a.cells.length n then withParts rd r fun l => c ((off, a.cells) :: l) else none
theorem withParts_eq (rd : St) : ∀ (l : List (Nat × Nat × Operand)) (c : List (Nat × List AVal) → Option α), withParts rd l c = match parts? rd l with
    | some ps => c ps
    | none => none
  | [], c => rfl
  | (off, n, x) :: r, c => by
    simp only [withParts, parts?]
    cases h : rdA rd x with
    | none => rfl
    | some a =>
      simp only [withA]
      cases Nat.beq a.cells.length n with
      | false => rfl
      | true =>
        simp only [cond_true, withParts_eq rd r]
        cases parts? rd r <;> rfl

def max2 (x y : Int) : Int := if y > x then y else x
def min2 (x y : Int) : Int := if y < x then y else x
def minmaxI (mx : Bool) (k : IntKind) (x : Int) : List AVal → Option Int
  | [] => some x
  | .at (.int k' y) :: l => bif kEq k k' then minmaxI mx k (bif mx then max2 x y else min2 x y) l else none
  | _ => none

def unflag (s : Slot) : Slot := match s with
  | .v a _ => .v a false
  | s => s

/-- What append gives is nil just if there was nothing, and nothing came. -/
def bothNil (r : List AVal) (nn : Bool) : Bool := match r with
  | [] => nn
  | _ :: _ => false

def appended (esz : Nat) : Option AVal → Option (List AVal)
  | some (.sl _ sz l) => bif Nat.beq sz esz then some l else none
  | some (.at (.string s)) => bif Nat.beq esz 1 then some (ofBytes s.data.toList) else none
  | _ => none

def scalEq : CK → AVal → AVal → Option Bool
  | .int k, .at (.int k1 a), .at (.int k2 b) => bif kEq k1 k && kEq k2 k then some (a == b) else none
  | .bool, .at (.bool a), .at (.bool b) => some (a == b)
  | .str, .at (.string a), .at (.string b) => some (a.toList == b.toList)
  | _, _, _ => none
def cellsEq : List CK → List AVal → List AVal → Option Bool
  | [], [], [] => some true
  | k :: ks, a :: as, b :: bs => match scalEq k a b with
    | some e => match cellsEq ks as bs with
      | some r => some (e && r)
      | none => none
    | none => none
  | _, _, _ => none

/-- Equality: of scalars, or of the cells of structs and arrays (of one cell: not told). -/
def eqAV : List CK → AVal → AVal → Option Bool
  | [k], a, b => scalEq k a b
  | ks, .agg as, .agg bs => cellsEq ks as bs
  | _, _, _ => none

def bitsI (op : BinOp) (k : IntKind) (x y : Int) : Int :=
  let a := BitVec.ofInt k.bits x
  let b := BitVec.ofInt k.bits y
  k.wrap (match op with
    | .and => (a &&& b).toNat
    | .or => (a ||| b).toNat
    | .xor => (a ^^^ b).toNat
    | _ => (a &&& ~~~b).toNat)

def shiftI (op : BinOp) (k : IntKind) (x y : Int) : Int := match op with
  | .shl => k.wrap (x * 2 ^ (min y.toNat k.bits))
  | _ => x.fdiv (2 ^ (min y.toNat k.bits))

def binI (op : BinOp) (k : IntKind) (a b : Int) (c : Value → Option α) : Option α := match op with
  | .add => c (.int k (k.wrap (a + b)))
  | .sub => c (.int k (k.wrap (a - b)))
  | .mul => c (.int k (k.wrap (a * b)))
  | .quo => if b = 0 then none else c (.int k (k.wrap (a.tdiv b)))
  | .rem => if b = 0 then none else c (.int k (a.tmod b))
  | .and => c (.int k (bitsI .and k a b))
  | .or => c (.int k (bitsI .or k a b))
  | .xor => c (.int k (bitsI .xor k a b))
  | .andNot => c (.int k (bitsI .andNot k a b))
  | .eql => c (.bool (a == b))
  | .neq => c (.bool (a != b))
  | .lss => c (.bool (decide (a < b)))
  | .leq => c (.bool (decide (a ≤ b)))
  | .gtr => c (.bool (decide (a > b)))
  | .geq => c (.bool (decide (a ≥ b)))
  | _ => none

def binS (op : BinOp) (a b : ByteArray) (c : Value → Option α) : Option α := match op with
  | .add => if ((a.size + b.size : Nat) : Int) > IntKind.i64.max then none else c (.string (a ++ b))
  | .eql => c (.bool (a.toList == b.toList))
  | .neq => c (.bool !(a.toList == b.toList))
  | .lss => c (.bool (Op.bytesLess a.toList b.toList))
  | .leq => c (.bool (Op.bytesLess a.toList b.toList || a.toList == b.toList))
  | .gtr => c (.bool !(Op.bytesLess a.toList b.toList || a.toList == b.toList))
  | .geq => c (.bool !Op.bytesLess a.toList b.toList)
  | _ => none

def isShift : BinOp → Bool
  | .shl | .shr => true
  | _ => false

def binC (op : BinOp) (x y : AVal) (c : Value → Option α) : Option α := match x, y with
  | .at (.int k a), .at (.int k' b) => bif isShift op then (if b < 0 then none else c (.int k (shiftI op k a b))) else (bif kEq k k' then binI op k a b c else none)
  | .at (.string a), .at (.string b) => binS op a b c
  | _, _ => none

def unC (op : UnOp) (x : AVal) (c : Value → Option α) : Option α := match op, x with
  | .not, .at (.bool b) => c (.bool !b)
  | .neg, .at (.int k n) => c (.int k (k.wrap (0 - n)))
  | .xor, .at (.int k n) => c (.int k (bitsI .xor k (if k.signed then -1 else k.max) n))
  | _, _ => none

def withT (v : AVal) (c : List AVal → Option α) : Option α := match v with
  | .tup vs => c vs
  | _ => none
def withRes (ks : List CK) (v : AVal) (c : AVal → Option α) : Option α := match ks with
  | [] => c v
  | [k] => withK k (some v) c
  | ks => withT v fun vs => bif Nat.beq vs.length ks.length then withKs ks vs 0 fun as => c (.tup as) else none
def withOut (r : R) (ok pan : AVal → Sg → Option α) : Option α := match r with
  | some (.ret v sg) => ok v sg
  | some (.pan v sg) => pan v sg
  | none => none

def sem (C : CallF) (d : Option Nat) (o : AOp) (rd : St) (c : Step → Option α) : Option α := match o with
  | .mov x => c (.go (dstU d (unflag (rdO rd x))))
  | .movA x => match rdT rd x with
    | .v a f => c (.go ((.s x, .sv (.v a false)) :: dstU d (.v a f)))
    | _ => none
  | .nilS sz => c (.go (dstU d (.v (.sl true sz []) true)))
  | .pick t a b => withB (rdA rd t) fun t => if t = true then withA (rdA rd a) fun x => c (.go (dstU d (.v x false))) else withA (rdA rd b) fun y => c (.go (dstU d (.v y false)))
  | .bin op x y => withA (rdA rd x) fun a => withA (rdA rd y) fun b => binC op a b fun r => c (.go (dstU d (.v (.at r) false)))
  | .nilCmp neg k x => match k, rdO rd x with
    | 0, .v (.sl nn _ _) _ => c (.go (dstU d (.v (.at (.bool (xor neg nn))) false)))
    | 0, .v (.gs _ _ _ _) _ | 0, .ls _ _ _ => c (.go (dstU d (.v (.at (.bool neg)) false)))
    | 1, .v (.gp _ _) _ | 1, .lp _ _ | 1, .v (.ep _) _ => c (.go (dstU d (.v (.at (.bool neg)) false)))
    | 1, .v (.at (.pointer none)) _ => c (.go (dstU d (.v (.at (.bool (!neg))) false)))
    | 2, .v (.clo _ _ _) _ => c (.go (dstU d (.v (.at (.bool neg)) false)))
    | 2, .v (.at .nilFunc) _ => c (.go (dstU d (.v (.at (.bool (!neg))) false)))
    | _, _ => none
  | .eqA neg ks t x y => withA (rdA rd x) fun a => withA (rdA rd y) fun b => withO (eqAV ks a b) fun r => c (.go (dstU d (.v (.at (.bool (xor neg r))) false)))
  | .un op x => withA (rdA rd x) fun a => unC op a fun r => c (.go (dstU d (.v (.at r) false)))
  | .convI k x => withN (rdA rd x) fun n => c (.go (dstU d (.v (.at (.int k (k.wrap n))) false)))
  | .convS x => withS (rdA rd x) fun s => c (.go (dstU d (.v (.at (.string s)) false)))
  | .field off ks agg x => withA (rdA rd x) fun a => match a with
    | .agg cs => withV ks agg (AVal.agg cs).cells off fun r => c (.go (dstU d (.v r false)))
    | _ => none
  | .extract x i => match rdO rd x with
    | .v (.tup vs) _ => withA vs[i]? fun a => c (.go (dstU d (.v a false)))
    | _ => none
  | .indexA len esz ks agg x i => withA (rdA rd x) fun a => withN (rdA rd i) fun n =>
      if 0 ≤ n ∧ n < len then (match a with
        | .agg cs => withV ks agg (AVal.agg cs).cells (n.toNat * esz) fun r => c (.go (dstU d (.v r false)))
        | _ => none) else none
  | .indexS x i => withS (rdA rd x) fun s => withN (rdA rd i) fun n =>
      if 0 ≤ n ∧ n < s.size then c (.go (dstU d (.v (.at (.int .u8 ((s.data.getD n.toNat 0).toNat))) false))) else none
  | .build zero parts => withParts rd parts fun ps => bindL (fillA zero ps) fun cs => c (.go (dstU d (.v (.agg cs) false)))
  | .boxL x => match d with
    | some d => withA (rdA rd x) fun a => match rd (.l d) with
      | .bx none => c (.go [(.l d, .bx (some ⟨a.cells⟩)), (.s d, .sv (.lp d 0))])
      | _ => none
    | none => none
  | .allocL zero => match d with
    | some d => match rd (.l d) with
      | .bx none => c (.go [(.l d, .bx (some ⟨zero⟩)), (.s d, .sv (.lp d 0))])
      | _ => none
    | none => none
  | .boxG x => withA (rdA rd x) fun a => match rd .g with
    | .sg sg => c (.go ((.g, .sg (sg ++ [⟨a.cells⟩])) :: dstU d (.v (.gp sg.length 0) false)))
    | _ => none
  | .allocG zero => match rd .g with
    | .sg sg => c (.go ((.g, .sg (sg ++ [⟨zero⟩])) :: dstU d (.v (.gp sg.length 0) false)))
    | _ => none
  | .addr off x => match rdO rd x with
    | .lp b o => c (.go (dstU d (.lp b (o + off))))
    | .v (.gp g o) _ => c (.go (dstU d (.v (.gp g (o + off)) false)))
    | .v (.ep cs) _ => c (.go (dstU d (.v (.ep (cs.drop off)) false)))
    | _ => none
  | .indexAddrA len esz x i => withN (rdA rd i) fun n => if 0 ≤ n ∧ n < len then (match rdO rd x with
      | .lp b o => c (.go (dstU d (.lp b (o + n.toNat * esz))))
      | .v (.gp g o) _ => c (.go (dstU d (.v (.gp g (o + n.toNat * esz)) false)))
      | _ => none) else none
  | .indexAddrS esz x i => withN (rdA rd i) fun n => match rdO rd x with
      | .v (.sl _ sz l) _ => bif Nat.beq sz esz then if 0 ≤ n then withA l[n.toNat]? fun a => bif Nat.beq a.cells.length esz then c (.go (dstU d (.v (.ep a.cells) false))) else none else none else none
      | .v (.gs g sz o len) _ => bif Nat.beq sz esz then if 0 ≤ n ∧ n < len then c (.go (dstU d (.v (.gp g (o + n.toNat * esz)) false))) else none else none
      | .ls b o len => if 0 ≤ n ∧ n < len then c (.go (dstU d (.lp b (o + n.toNat * esz)))) else none
      | _ => none
  | .load ks agg root x => match rdO rd x with
    | .v (.ep cs) _ => withV ks agg cs 0 fun r => c (.go (dstU d (.v r false)))
    | s => withBox rd root s fun B off _ => withV ks agg B.cells off fun r => c (.go (dstU d (.v r false)))
  | .store n root a x => withBox rd root (rdO rd a) fun B off r => withA (rdA rd x) fun v =>
      bif Nat.beq v.cells.length n then bif Nat.ble (off + n) B.cells.length then bindL (splice B.cells off v.cells) (fun cs => match r with
        | some r => c (.go [(.l r, .bx (some ⟨cs⟩))])
        | none => match rdO rd a with
          | .v (.gp g _) _ => (match rd .g with
            | .sg sg => c (.go [(.g, .sg (sg.set g ⟨cs⟩))])
            | _ => none)
          | _ => none) else none else none
  | .lenS x => withS (rdA rd x) fun s => c (.go (dstU d (.v (.at (.int .i64 s.size)) false)))
  | .lenL x => match rdO rd x with
    | .v (.sl _ _ l) _ => c (.go (dstU d (.v (.at (.int .i64 l.length)) false)))
    | .v (.gs _ _ _ n) _ => c (.go (dstU d (.v (.at (.int .i64 n)) false)))
    | .ls _ _ n => c (.go (dstU d (.v (.at (.int .i64 n)) false)))
    | _ => none
  | .lenA n => c (.go (dstU d (.v (.at (.int .i64 n)) false)))
  | .minmax mx xs => match args? rd xs with
    | some (.at (.int k x) :: l) => match minmaxI mx k x l with
      | some r => c (.go (dstU d (.v (.at (.int k r)) false)))
      | none => none
    | _ => none
  | .sliceS x lo hi => withS (rdA rd x) fun s => bounds s.size rd lo hi fun l h => c (.go (dstU d (.v (.at (.string (s.extract l h))) false)))
  | .sliceV esz x lo hi => match rdA rd x with
    | some (.sl nn sz xs) => bif Nat.beq sz esz then bounds xs.length rd lo hi fun l h => c (.go (dstU d (.v (.sl nn sz ((xs.drop l).take (h - l))) false))) else none
    | _ => none
  | .sliceX esz x lo hi mx => match rdA rd x with
    | some (.gs g sz o n) => bif Nat.beq sz esz then withN (rdA rd mx) fun m => bounds n rd lo (some hi) fun l h => if (h : Int) ≤ m ∧ m ≤ n then c (.go (dstU d (.v (.gs g sz (if m.toNat = l then o else o + l * sz) (h - l)) false))) else none else none
    | some (.sl nn sz xs) => bif Nat.beq sz esz then withN (rdA rd mx) fun m => bounds xs.length rd lo (some hi) fun l h => if (h : Int) ≤ m ∧ m ≤ xs.length then c (.go (dstU d (.v (.sl nn sz ((xs.drop l).take (h - l))) false))) else none else none
    | _ => none
  | .sliceA len esz root x lo hi => bounds len rd lo hi fun l h => match rdO rd x with
    | .lp b o => c (.go (dstU d (.ls b (bif Nat.beq len l then o else o + l * esz) (h - l))))
    | .v (.gp g o) _ => match rd .g with
      | .sg sg => withO sg[g]? fun B => bif Nat.blt 0 B.cells.length && Nat.ble (o + len * esz) B.cells.length then c (.go (dstU d (.v (.gs g esz (bif Nat.beq len l then o else o + l * esz) (h - l)) false))) else none
      | _ => none
    | _ => none
  | .buildSl esz xs => match args? rd xs with
    | some as => bif allSz esz as then c (.go (dstU d (.v (.sl false esz as) true))) else none
    | none => none
  | .append esz bytes x y => match appended esz (rdA rd y) with
    | some r => match rdT rd x with
      | .v (.sl nn sz l) true => bif Nat.beq sz esz then if (l.length + r.length) * bytes ≤ 35184372088832 then
          c (.go ((.s x, .sv (.v (.sl nn sz l) false)) :: dstU d (.v (.sl (bothNil r nn) esz (l ++ r)) true))) else none else none
      | _ => none
    | none => none
  | .appendG esz bytes x y => match appended esz (rdA rd y) with
    | some (r0 :: rs) => match rdO rd x, rd .g with
      | .v (.sl true sz []) _, .sg sg => bif Nat.beq sz esz then if (r0 :: rs).length * bytes ≤ 35184372088832 then
          c (.go ((.g, .sg (sg ++ [⟨flatA (r0 :: rs)⟩])) :: dstU d (.v (.gs sg.length esz 0 (r0 :: rs).length) false))) else none else none
      | .v (.gs g sz o n) _, .sg sg => bif Nat.beq sz esz && Nat.beq o 0 then withO sg[g]? fun B => bif Nat.beq B.cells.length (n * esz) && Nat.blt 0 B.cells.length then
          if (n + (r0 :: rs).length) * bytes ≤ 35184372088832 then
            c (.go ((.g, .sg (sg.set g ⟨[]⟩ ++ [⟨B.cells ++ flatA (r0 :: rs)⟩])) :: dstU d (.v (.gs sg.length esz 0 (n + (r0 :: rs).length)) false))) else none else none else none
      | _, _ => none
    | _ => none
  | .makeV esz bytes zero agg n cp => withN (rdA rd n) fun n => withN (rdA rd cp) fun cp =>
      if 0 ≤ n ∧ n ≤ cp ∧ cp * bytes ≤ 35184372088832 then c (.go (dstU d (.v (.sl false esz (List.replicate n.toNat (bif agg then .agg zero else zero.headD .junk))) true))) else none
  | .toBytes x => match d with
    | some d => withS (rdA rd x) fun s => match rd (.l d) with
      | .bx none => c (.go [(.l d, .bx (some ⟨ofBytes s.data.toList⟩)), (.s d, .sv (.ls d 0 s.size))])
      | _ => none
    | none => none
  | .toStr root x => match rdO rd x with
    | .v (.sl _ _ l) _ => withO (bytesOf l) fun bs => c (.go (dstU d (.v (.at (.string ⟨bs.toArray⟩)) false)))
    | .ls b o n => bif rootIs root b then (match rd (.l b) with
      | .bx (some B) => withO (bytesOf ((B.cells.drop o).take n)) fun bs => if bs.length = n then c (.go (dstU d (.v (.at (.string ⟨bs.toArray⟩)) false))) else none
      | _ => none) else none
    | _ => none
  | .call f args ks => match args? rd args with
    | some as => match rd .g with
      | .sg sg => withOut (C f as sg) (fun v sg' => withRes ks v fun v => c (.go ((.g, .sg sg') :: dstU d (.v v false)))) (fun v sg' => c (.pan v sg'))
      | _ => none
    | none => none
  | .callP f args ks => match args? rd args with
    | some as => bif noGs as then withOut (C f as []) (fun v _ => withRes ks v fun v => bif noG v then c (.go (dstU d (.v v false))) else none) (fun _ _ => none) else none
    | none => none
  | .callD f args ks => match args? rd args with
    | some as => bif noGs as then withOut (C f as []) (fun v sg' => withO (thaw 8 sg' v) fun v => withRes ks v fun v => bif noG v then c (.go (dstU d (.v v false))) else none) (fun _ _ => none) else none
    | none => none
  | .callV f args ks => match rdA rd f with
    | some (.clo f first cap) => match args? rd args with
      | some as => match rd .g with
        | .sg sg => withOut (C f (first ++ (as ++ cap)) sg) (fun v sg' => withRes ks v fun v => c (.go ((.g, .sg sg') :: dstU d (.v v false)))) (fun v sg' => c (.pan v sg'))
        | _ => none
      | none => none
    | _ => none
  | .makeFunc f first cap => match args? rd first with
    | some a => match args? rd cap with
      | some b => c (.go (dstU d (.v (.clo f a b) false)))
      | none => none
    | none => none
end

/-- Behind one instruction. -/
def after (st : St) (k : St → R) : Step → R
  | .go us => k (upds st us)
  | .pan v sg => some (.pan v sg)

/-- One instruction: guarded or not. -/
def exec (C : CallF) (i : AI) (st : St) (k : St → R) : R := match i.g with
  | none => sem C i.dst i.op st (after st k)
  | some (t, want) => match rdT st t with
    | .v (.at (.bool b)) f => if b = want then
        sem C i.dst i.op (upd st (.s t) (.sv (.v (.at (.bool want)) f))) (after (upd st (.s t) (.sv (.v (.at (.bool want)) f))) k)
      else k (upds (upd st (.s t) (.sv (.v (.at (.bool (!want))) f))) (dstU i.dst (.v (.tup []) false)))
    | .v (.tup []) _ => k (upds st (dstU i.dst (.v (.tup []) false)))
    | _ => none

def execs (C : CallF) : List AI → St → (St → R) → R
  | [], st, k => k st
  | i :: is, st, k => exec C i st fun st => execs C is st k

/-- The same in a region that draws its order: nothing panics there. -/
def afterD (st : St) (k : St → R) : Step → R
  | .go us => k (upds st us)
  | .pan _ _ => none
def execD (C : CallF) (i : AI) (st : St) (k : St → R) : R := match i.g with
  | none => sem C i.dst i.op st (afterD st k)
  | some (t, want) => match rdT st t with
    | .v (.at (.bool b)) f => if b = want then
        sem C i.dst i.op (upd st (.s t) (.sv (.v (.at (.bool want)) f))) (afterD (upd st (.s t) (.sv (.v (.at (.bool want)) f))) k)
      else k (upds (upd st (.s t) (.sv (.v (.at (.bool (!want))) f))) (dstU i.dst (.v (.tup []) false)))
    | .v (.tup []) _ => k (upds st (dstU i.dst (.v (.tup []) false)))
    | _ => none
def execsD (C : CallF) : List AI → St → (St → R) → R
  | [], st, k => k st
  | i :: is, st, k => execD C i st fun st => execsD C is st k

inductive Ex where
  | normal
  | exit (id : Nat)
  | ret

/-- Of a state at a loop's head only these slots (and the boxes of these numbers) are kept. -/
def mkS.at_s : List Nat → List Slot → Nat → RVal
  | l :: ls, x :: xs, i => bif Nat.beq i l then .sv x else mkS.at_s ls xs i
  | _, _, _ => .no
def mkS.at_l : List Nat → List (Option Box) → Nat → RVal
  | l :: ls, x :: xs, i => bif Nat.beq i l then .bx x else mkS.at_l ls xs i
  | _, _, _ => .bx none
def mkS (live : List Nat) (ss : List Slot) (bs : List (Option Box)) (sg : RVal) : St
  | .s i => mkS.at_s live ss i
  | .l i => mkS.at_l live bs i
  | .g => sg

def has (l : List Nat) (x : Nat) : Bool := match l with
  | [] => false
  | y :: l => bif Nat.beq x y then true else has l x
def keepS (live : List Nat) (s : Slot) : Slot := match s with
  | .lp b off => bif has live b then .lp b off else .v .junk false
  | .ls b off n => bif has live b then .ls b off n else .v .junk false
  | s => s
def boxAt (st : St) (i : Nat) : Option Box := match st (.l i) with
  | .bx b => b
  | _ => none
def forget (live : List Nat) (st : St) : St := mkS live (live.map fun i => keepS live (rdT st i)) (live.map (boxAt st)) (st .g)

/-- What stands behind a round. -/
def rndK (live out rs : List Nat) (k : Ex → St → R) : Ex → St → R
  | .normal, st => k .normal (forget live st)
  | .exit id, st => k (.exit id) (forget out st)
  | .ret, st => k .ret (forget rs st)

/-- One round, told by what is kept: of a round that goes on the head's slots, of a way out the others. -/
def round (f : St → (Ex → St → R) → R) (live out rs : List Nat) (st : St) (k : Ex → St → R) : R := f st (rndK live out rs k)

/-- Behind the first of two, or a round that goes on. -/
def thenK (x : St → R) (k : Ex → St → R) : Ex → St → R
  | .normal, st => x st
  | .exit id, st => k (.exit id) st
  | .ret, st => k .ret st
def blockK (id : Nat) (k : Ex → St → R) : Ex → St → R
  | .normal, st => k .normal st
  | .exit id', st => bif Nat.beq id' id then k .normal st else k (.exit id') st
  | .ret, st => k .ret st

def iter (rnd : St → (Ex → St → R) → R) : Nat → St → (Ex → St → R) → R
  | 0, _, _ => none
  | n + 1, st, k => rnd st (thenK (fun st => iter rnd n st k) k)

def evalC (C : CallF) (N : Nat) : ACode → St → (Ex → St → R) → R
  | .skip, st, k => k .normal st
  | .region is d, st, k => bif d then execsD C is st (k .normal) else execs C is st (k .normal)
  | .seq a b, st, k => evalC C N a st (thenK (fun st => evalC C N b st k) k)
  | .cond c a b, st, k => withB (rdA st c) fun t => if t = true then evalC C N a st k else evalC C N b st k
  | .block id c, st, k => evalC C N c st (blockK id k)
  | .loop live out rs c, st, k => iter (round (evalC C N c) live out rs) N (forget live st) k
  | .exit id, st, k => k (.exit id) st
  | .ret, st, k => k .ret st

inductive Dir where
  | fst | snd | thn | els | blk

/-- What stands behind a place in the code. -/
def contC (C : CallF) (N : Nat) : List Dir → ACode → (Ex → St → R) → Ex → St → R
  | .fst :: p, .seq a b, k => contC C N p a (thenK (fun st => evalC C N b st k) k)
  | .snd :: p, .seq _ b, k => contC C N p b k
  | .thn :: p, .cond _ a _, k => contC C N p a k
  | .els :: p, .cond _ _ b, k => contC C N p b k
  | .blk :: p, .block id c, k => contC C N p c (blockK id k)
  | _, _, k => k

inductive ARes where
  | tmp (t : Nat)
  | cell (t : Nat) (ks : List CK) (agg : Bool)

structure AFun where
  np : Nat
  res : List ARes
  body : ACode

def resOf (st : St) (r : ARes) (c : AVal → R) : R := match r with
  | .tmp t => match rdT st t with
    | .v a _ => (match a with
      | .junk => none
      | a => c a)
    | _ => none
  | .cell t ks agg => match rdT st t with
    | .lp b off => match st (.l b) with
      | .bx (some B) => withV ks agg B.cells off c
      | _ => none
    | .v (.gp g off) _ => match st .g with
      | .sg sg => match sg[g]? with
        | some B => bif B.cells.isEmpty then none else withV ks agg B.cells off c
        | none => none
      | _ => none
    | _ => none
def resAll (st : St) : List ARes → (List AVal → R) → R
  | [], c => c []
  | r :: l, c => resOf st r fun a => resAll st l fun as => c (a :: as)

def start (args : List AVal) (sg : Sg) : St
  | .s i => match args[i]? with
    | some a => .sv (.v a false)
    | none => .no
  | .l _ => .bx none
  | .g => .sg sg

def withSg (st : St) (c : Sg → R) : R := match st .g with
  | .sg sg => c sg
  | _ => none

def finish (f : AFun) : Ex → St → R
  | .exit _, _ => none
  | _, st => resAll st f.res fun as => withSg st fun sg => match as with
    | [a] => some (.ret a sg)
    | as => some (.ret (.tup as) sg)

def evalF (C : CallF) (N : Nat) (f : AFun) (args : List AVal) (sg : Sg) : R :=
  bif Nat.beq args.length f.np then evalC C N f.body (start args sg) (finish f) else none
end Go.Abs
