/- THE EVALUATOR OF THE MODEL's CODE, with its soundness: several texts joined. No statement of the program's. -/
import Derived.Calls
import Derived.LoopN
import Derived.Below
import Derived.Laws.Strings
import Derived.MapKept
import Derived.Laws.Sem
import Derived.Laws.Cells
import Derived.Laws.Entries
set_option linter.unusedVariables false
set_option linter.unusedSimpArgs false
set_option linter.unusedSectionVars false
set_option linter.unusedVariables false
namespace Go.Abs
def one : Value → Bool
  | .agg _ | .tuple _ => false
  | _ => true
def cutS (s : ByteArray) (l h : Nat) : ByteArray := ⟨⟨(s.data.toList.drop l).take (h - l)⟩⟩
def catS (a b : ByteArray) : ByteArray := ⟨⟨a.data.toList ++ b.data.toList⟩⟩
def eqL : List UInt8 → List UInt8 → Bool
  | [], [] => true
  | a :: l, b :: m => bif Nat.beq a.toNat b.toNat then eqL l m else false
  | _, _ => false
def eqS (a b : ByteArray) : Bool := eqL a.data.toList b.data.toList
theorem eqL_iff : ∀ {a b : List UInt8}, eqL a b = true ↔ a = b
  | [], [] => by simp [eqL]
  | [], _ :: _ => by simp [eqL]
  | _ :: _, [] => by simp [eqL]
  | a :: l, b :: m => by
    simp only [eqL]
    cases h : Nat.beq a.toNat b.toNat with
    | true =>
      have e : a = b := UInt8.toNat_inj.1 (Nat.eq_of_beq_eq_true h)
      simp [eqL_iff (a := l) (b := m), e]
    | false =>
      have e : a ≠ b := by rintro rfl; simp at h
      simp [e]
theorem eqS_iff {a b : ByteArray} : eqS a b = true ↔ a = b := by
  unfold eqS
  rw [eqL_iff]
  constructor
  · intro h; cases a; cases b; rename_i a b; cases a; cases b; simp at h; subst h; rfl
  · rintro rfl; rfl
theorem eqS_toList (a b : ByteArray) : eqS a b = (a.toList == b.toList) := by
  rw [Bool.eq_iff_iff, beq_iff_eq, Go.ByteArray.toList_eq, Go.ByteArray.toList_eq]
  exact eqL_iff
theorem cutS_eq (s : ByteArray) (l h : Nat) : cutS s l h = s.extract l h := by
  apply ByteArray.ext
  apply Array.ext'
  simp [cutS, ByteArray.data_extract, List.extract]
theorem catS_eq (a b : ByteArray) : catS a b = a ++ b := by
  apply ByteArray.ext
  apply Array.ext'
  simp [catS, ByteArray.data_append]
inductive AVal where
  | junk
  | at (v : Value)
  | agg (cs : List AVal)
  | tup (vs : List AVal)
  | sl (nn : Bool) (sz : Nat) (l : List AVal)
  | ep (cs : List AVal)
  | gp (g off : Nat)
  | gs (g sz off len : Nat)
  | e0 (full : Bool)
  | gm (g : Nat)
  | yl (g : Nat)
  | clo (f : FuncId) (first captured : List AVal)
  | ifc (t : TypeId) (v : AVal)
  deriving Inhabited
def AVal.cells : AVal → List AVal
  | .agg cs => cs
  | v => [v]
inductive Box where
  | mk (cells : List AVal)
  | tmk (t : TypeId) (ex : Bool) (cells : List AVal)
  | map (es : List (AVal × AVal))
  | loop (k : Nat) (sv : List AVal) (pend : Nat)
  deriving Inhabited
def Box.cells : Box → List AVal
  | .mk cs => cs
  | .tmk _ _ cs => cs
  | _ => []
def Box.obj : Box → Bool
  | .mk _ => false
  | _ => true
def boxZ (ty : Option TypeId) (cs : List AVal) : Box := match ty with
  | none => .mk cs
  | some t => .tmk t true cs
def boxT (ty : Option TypeId) (cs : List AVal) : Box := match ty with
  | none => .mk cs
  | some t => .tmk t false cs
def okT (ty : Option TypeId) (B : Box) : Bool := match ty with
  | none => true
  | some t => match B with
    | .tmk t' _ _ => Nat.beq t t'
    | _ => false
inductive Slot where
  | v (a : AVal) (f : Bool)
  | lp (b off : Nat)
  | ls (b off len : Nat)
  deriving Inhabited
inductive Res where
  | s (i : Nat)
  | l (i : Nat)
  | g
def Res.is : Res → Res → Bool
  | .s i, .s j => Nat.beq i j
  | .l i, .l j => Nat.beq i j
  | .g, .g => true
  | _, _ => false
theorem Res.is_iff {a b : Res} : a.is b = true ↔ a = b := by
  cases a <;> cases b <;> simp [Res.is]
abbrev Sg := List Box
inductive RVal where
  | no
  | sv (s : Slot)
  | bx (b : Option Box)
  | sg (s : Sg)
  deriving Inhabited
abbrev St := Res → RVal
def upd (st : St) (r : Res) (x : RVal) : St := fun q => bif q.is r then x else st q
def upds (st : St) : List (Res × RVal) → St
  | [] => st
  | (r, x) :: us => upds (upd st r x) us
def rdT (rd : St) (t : Nat) : Slot := match rd (.s t) with
  | .sv s => s
  | _ => .v .junk false
def ofConst : Value → AVal
  | .slice none 0 0 => .sl true 0 []
  | .agg _ => .junk
  | .tuple _ => .junk
  | v => .at v
def rdO (rd : St) : Operand → Slot
  | .tmp t => rdT rd t
  | .const v => .v (ofConst v) false
  | .global _ => .v .junk false
  | .func f => .v (.clo f [] []) false
def plainA (a : AVal) : Option AVal := match a with
  | .junk => none
  | .tup _ => none
  | a => some a
def rdA (rd : St) (x : Operand) : Option AVal := match rdO rd x with
  | .v a _ => plainA a
  | _ => none
structure YCode where
  params : Array Tmp
  asg : Code
  body : Code
  live : List Nat
  nt : Nat
class YTab where
  yt : Nat → Option YCode
  ro : FuncId → Bool
inductive CK where
  | int (k : IntKind)
  | bool
  | str
  | sl (sz : Nat)
  | any
  | ag
inductive KK where
  | i
  | s
  | a (ks : List CK)
inductive AOp where
  | mov (x : Operand)
  | movA (x : Nat)
  | nilS (sz : Nat)
  | pick (c a b : Operand)
  | bin (op : BinOp) (x y : Operand)
  | nilCmp (neg : Bool) (k : Nat) (x : Operand)
  | eqA (neg : Bool) (ks : List CK) (t : TypeId) (x y : Operand)
  | un (op : UnOp) (x : Operand)
  | convI (k : IntKind) (x : Operand)
  | convS (x : Operand)
  | field (off : Nat) (ks : List CK) (agg : Bool) (x : Operand)
  | extract (x : Operand) (i : Nat)
  | indexA (len esz : Nat) (ks : List CK) (agg : Bool) (x i : Operand)
  | indexS (x i : Operand)
  | build (zero : List AVal) (parts : List (Nat × Nat × Operand))
  | boxL (x : Operand)
  | allocL (zero : List AVal)
  | boxG (x : Operand)
  | allocG (ty : Option TypeId) (zero : List AVal)
  | addr (off : Nat) (x : Operand)
  | indexAddrA (len esz : Nat) (x i : Operand)
  | indexAddrS (esz : Nat) (x i : Operand)
  | load (ks : List CK) (agg : Bool) (root : Option Nat) (x : Operand)
  | store (n : Nat) (root : Option Nat) (a x : Operand)
  | lenS (x : Operand)
  | lenL (x : Operand)
  | lenA (n : Nat)
  | minmax (max : Bool) (xs : List Operand)
  | sliceS (x : Operand) (lo hi : Option Operand)
  | sliceV (esz : Nat) (x : Operand) (lo hi : Option Operand)
  | sliceA (len esz : Nat) (root : Option Nat) (x : Operand) (lo hi : Option Operand)
  | sliceX (esz : Nat) (x : Operand) (lo : Option Operand) (hi mx : Operand)
  | buildSl (esz : Nat) (xs : List Operand)
  | append (esz bytes : Nat) (x : Nat) (y : Operand)
  | appendH (ty : Option TypeId) (esz bytes : Nat) (x y : Operand)
  | makeV (esz bytes : Nat) (zero : List AVal) (agg : Bool) (n c : Operand)
  | toBytes (x : Operand)
  | toStr (root : Option Nat) (x : Operand)
  | call (f : FuncId) (args : List Operand) (ks : List CK)
  | callP (f : FuncId) (args : List Operand) (ks : List CK)
  | callD (f : FuncId) (args : List Operand) (ks : List CK)
  | callV (f : Operand) (args : List Operand) (ks : List CK)
  | callR (f : FuncId) (args : List Operand) (ks : List CK)
  | makeFunc (f : FuncId) (first captured : List Operand)
  | nilCk (x : Operand)
  | mkIfc (t : TypeId) (x : Operand)
  | panicI (x : Operand)
  | mkMap
  | mapGet (str : KK) (zero : List AVal) (agg : Bool) (ok : Bool) (m k : Operand)
  | mapSet (str : KK) (m k v : Operand)
  | mapDel (str : KK) (m k : Operand)
  | mapLen (m : Operand)
  | mapClr (m : Operand)
  | mkE0
  | makeG (esz bytes : Nat) (zero : List AVal) (n c : Operand)
  | copyG (esz : Nat) (x y : Operand)
  | buildG (esz : Nat) (xs : List Operand)
  | toStrG (x : Operand)
  | bad
structure AI where
  g : Option (Nat × Bool)
  dst : Option Nat
  op : AOp
inductive ACode where
  | skip
  | region (is : List AI) (draw : Bool)
  | regionL (is : List AI) (lo : List (Nat × Nat))
  | seq (a b : ACode)
  | cond (c : Operand) (a b : ACode) (jn : Option (Nat × List Nat))
  | block (id : Nat) (c : ACode)
  | loop (live out rs : List Nat) (c : ACode)
  | ranged (k : Nat) (f : Operand) (live : List Nat)
  | exit (id : Nat)
  | ret
inductive Out where
  | ret (v : AVal) (sg : Sg)
  | pan (v : AVal) (sg : Sg)
abbrev R := Option Out
abbrev CallF := FuncId → List AVal → Sg → R
def yBase : Nat := 1000000
def callC (C : CallF) (f : FuncId) (as : List AVal) (sg : Sg) : R := bif Nat.blt f yBase then C f as sg else none
def noPan : R → R
  | some (.ret v sg) => some (.ret v sg)
  | _ => none
inductive Step where
  | go (us : List (Res × RVal))
  | pan (v : AVal) (sg : Sg)
def dstU (d : Option Nat) (s : Slot) : List (Res × RVal) := match d with
  | some d => [(.s d, .sv s)]
  | none => []
mutual
def noG : AVal → Bool
  | .gp _ _ => false
  | .gs _ _ _ _ => false
  | .gm _ => false
  | .yl _ => false
  | .agg cs => noGs cs
  | .tup vs => noGs vs
  | .sl _ _ l => noGs l
  | .ep cs => noGs cs
  | .clo _ a b => noGs a && noGs b
  | .ifc _ v => noG v
  | _ => true
def noGs : List AVal → Bool
  | [] => true
  | a :: l => noG a && noGs l
end
def chunks (sz : Nat) : Nat → List AVal → List AVal
  | 0, _ => []
  | n + 1, cs => (bif Nat.beq sz 1 then cs.headD .junk else .agg (cs.take sz)) :: chunks sz n (cs.drop sz)
def thawL (f : AVal → Option AVal) : List AVal → Option (List AVal)
  | [] => some []
  | a :: l => match f a with
    | some b => match thawL f l with
      | some m => some (b :: m)
      | none => none
    | none => none
def thaw : Nat → List Box → AVal → Option AVal
  | 0, _, _ => none
  | n + 1, sg, v => bif noG v then some v else match v with
    | .tup vs => (thawL (thaw n sg) vs).map .tup
    | .agg cs => (thawL (thaw n sg) cs).map .agg
    | .gp g off => match sg[g]? with
      | some B => (thawL (thaw n sg) (B.cells.drop off)).map .ep
      | none => none
    | .gs g sz off len => match sg[g]? with
      | some B => bif Nat.ble (off + len * sz) B.cells.length && Nat.blt 0 sz then (thawL (thaw n sg) ((B.cells.drop off).take (len * sz))).map fun cs => .sl false sz (chunks sz len cs) else none
      | none => none
    | _ => none
section
variable {α : Type}
def kEq : IntKind → IntKind → Bool
  | .i8, .i8 | .i16, .i16 | .i32, .i32 | .i64, .i64 | .u8, .u8 | .u16, .u16 | .u32, .u32 | .u64, .u64 => true
  | _, _ => false
def bindL (l : List AVal) (c : List AVal → Option α) : Option α := c l
def withA (a : Option AVal) (c : AVal → Option α) : Option α := match a with
  | some a => c a
  | none => none
def withI (k : IntKind) (a : Option AVal) (c : Int → Option α) : Option α := match a with
  | some (.at (.int k' n)) => bif kEq k' k then c n else none
  | _ => none
def withN (a : Option AVal) (c : Int → Option α) : Option α := match a with
  | some (.at (.int _ n)) => c n
  | _ => none
def withB (a : Option AVal) (c : Bool → Option α) : Option α := match a with
  | some (.at (.bool b)) => c b
  | _ => none
def withS (a : Option AVal) (c : ByteArray → Option α) : Option α := match a with
  | some (.at (.string s)) => c s
  | _ => none
def withL (sz : Nat) (a : Option AVal) (c : Bool → List AVal → Option α) : Option α := match a with
  | some (.sl nn sz' l) => bif Nat.beq sz' sz then c nn l else none
  | _ => none
def withM (rd : St) (a : Option AVal) (c : Sg → Nat → List (AVal × AVal) → Option α) : Option α := match a with
  | some (.gm g) => match rd .g with
    | .sg sg => match sg[g]? with
      | some (.map es) => c sg g es
      | _ => none
    | _ => none
  | _ => none
def withLoop (rd : St) (g : Nat) (c : Sg → Nat → List AVal → Nat → Option α) : Option α := match rd .g with
  | .sg sg => match sg[g]? with
    | some (.loop k sv p) => c sg k sv p
    | _ => none
  | _ => none
def withG (a : Option AVal) (c : List AVal → Option α) : Option α := match a with
  | some (.agg cs) => c cs
  | _ => none
def withK (k : CK) (a : Option AVal) (c : AVal → Option α) : Option α := match k with
  | .int k => withI k a fun n => c (.at (.int k n))
  | .bool => withB a fun b => c (.at (.bool b))
  | .str => withS a fun s => c (.at (.string s))
  | .sl _ => withA a c
  | .any => withA a c
  | .ag => withG a fun cs => c (.agg cs)
def withKs : List CK → List AVal → Nat → (List AVal → Option α) → Option α
  | [], _, _, c => c []
  | k :: ks, cs, off, c => withK k cs[off]? fun a => withKs ks cs (off + 1) fun as => c (a :: as)
def withV (ks : List CK) (agg : Bool) (cs : List AVal) (off : Nat) (c : AVal → Option α) : Option α := match agg, ks with
  | true, ks => bif Nat.ble (off + ks.length) cs.length then bindL ((cs.drop off).take ks.length) (fun l => c (.agg l)) else none
  | false, [k] => withK k cs[off]? c
  | false, _ => none
def args? (rd : St) : List Operand → Option (List AVal)
  | [] => some []
  | x :: l => match rdA rd x with
    | some a => match args? rd l with
      | some as => some (a :: as)
      | none => none
    | none => none
def withO {β : Type} (a : Option β) (c : β → Option α) : Option α := match a with
  | some a => c a
  | none => none
def withBox (rd : St) (root : Option Nat) (s : Slot) (c : Box → Nat → Option Nat → Option α) : Option α := match root, s with
  | some r, .lp b off => bif Nat.beq b r then (match rd (.l r) with | .bx (some B) => c B off (some r) | _ => none) else none
  | none, .v (.gp g off) _ => match rd .g with
    | .sg sg => withO sg[g]? fun B => bif B.cells.isEmpty then none else c B off none
    | _ => none
  | _, _ => none
def allSz (n : Nat) (as : List AVal) : Bool := match as with
  | [] => true
  | a :: l => bif Nat.beq a.cells.length n then allSz n l else false
def splice (cs : List AVal) (off : Nat) (xs : List AVal) : List AVal := cs.take off ++ (xs ++ cs.drop (off + xs.length))
def intOr (rd : St) (x : Option Operand) (d : Int) (c : Int → Option α) : Option α := match x with
  | some x => withN (rdA rd x) c
  | none => c d
def bounds (n : Nat) (rd : St) (lo hi : Option Operand) (c : Nat → Nat → Option α) : Option α :=
  intOr rd hi n fun h => intOr rd lo 0 fun l => if 0 ≤ l ∧ l ≤ h ∧ h ≤ n then c l.toNat h.toNat else none
def rootIs (r : Option Nat) (b : Nat) : Bool := match r with
  | some r => Nat.beq b r
  | none => false
def bytesOf : List AVal → Option (List UInt8)
  | [] => some []
  | .at (.int .u8 n) :: l => match bytesOf l with
    | some bs => some (UInt8.ofNat n.toNat :: bs)
    | none => none
  | _ => none
def flatA : List AVal → List AVal
  | [] => []
  | a :: l => a.cells ++ flatA l
def ofBytes (l : List UInt8) : List AVal := l.map fun b => .at (.int .u8 b.toNat)
def fillA (cs : List AVal) : List (Nat × List AVal) → List AVal
  | [] => cs
  | (off, xs) :: r => fillA (splice cs off xs) r
def parts? (rd : St) : List (Nat × Nat × Operand) → Option (List (Nat × List AVal))
  | [] => some []
  | (off, n, x) :: r => match rdA rd x with
    | some a => bif Nat.beq a.cells.length n then (match parts? rd r with
      | some l => some ((off, a.cells) :: l)
      | none => none) else none
    | none => none
def withParts (rd : St) : List (Nat × Nat × Operand) → (List (Nat × List AVal) → Option α) → Option α
  | [], c => c []
  | (off, n, x) :: r, c => withA (rdA rd x) fun a => bif Nat.beq a.cells.length n then withParts rd r fun l => c ((off, a.cells) :: l) else none
theorem withParts_eq (rd : St) : ∀ (l : List (Nat × Nat × Operand)) (c : List (Nat × List AVal) → Option α), withParts rd l c = match parts? rd l with
    | some ps => c ps
    | none => none
  | [], c => rfl
  | (off, n, x) :: r, c => by
    simp only [withParts, parts?]
    cases h : rdA rd x with
    | none => rfl
    | some a =>
      simp only [withA]
      cases Nat.beq a.cells.length n with
      | false => rfl
      | true =>
        simp only [cond_true, withParts_eq rd r]
        cases parts? rd r <;> rfl
def max2 (x y : Int) : Int := if y > x then y else x
def min2 (x y : Int) : Int := if y < x then y else x
def minmaxI (mx : Bool) (k : IntKind) (x : Int) : List AVal → Option Int
  | [] => some x
  | .at (.int k' y) :: l => bif kEq k k' then minmaxI mx k (bif mx then max2 x y else min2 x y) l else none
  | _ => none
def unflag (s : Slot) : Slot := match s with
  | .v a _ => .v a false
  | s => s
def bothNil (r : List AVal) (nn : Bool) : Bool := match r with
  | [] => nn
  | _ :: _ => false
def appended (esz : Nat) : Option AVal → Option (List AVal)
  | some (.sl _ sz l) => bif Nat.beq sz esz then some l else none
  | some (.at (.string s)) => bif Nat.beq esz 1 then some (ofBytes s.data.toList) else none
  | _ => none
def flatSrc (rd : St) (sz : Nat) : Option AVal → Option (Nat × List AVal)
  | some (.sl _ sz' l) => bif Nat.beq sz' sz then some (l.length, flatA l) else none
  | some (.e0 _) => some (0, [])
  | some (.at (.string s)) => bif Nat.beq sz 1 then some (s.size, ofBytes s.data.toList) else none
  | some (.at (.slice (some _) 0 _)) => some (0, [])
  | some (.gs g sz' o n) => bif Nat.beq sz' sz then (match rd .g with
    | .sg sg => match sg[g]? with
      | some B => bif Nat.ble (o + n * sz) B.cells.length && Nat.blt 0 B.cells.length then some (n, (B.cells.drop o).take (n * sz)) else none
      | none => none
    | _ => none) else none
  | _ => none
def isSl : Option AVal → Bool
  | some (.sl _ _ _) => true
  | some (.e0 _) => true
  | some (.gs _ _ _ _) => true
  | _ => false
def keyI1 : AVal → AVal → Option Bool
  | .at (.int k x), .at (.int k' y) => bif kEq k k' then some (x == y) else none
  | .at (.string x), .at (.string y) => some (eqS x y)
  | _, _ => none
def keysIs : List AVal → List AVal → Option Bool
  | [], [] => some true
  | x :: xs, y :: ys => match keyI1 x y with
    | some e => match keysIs xs ys with
      | some r => some (e && r)
      | none => none
    | none => none
  | _, _ => none
def keyIs : AVal → AVal → Option Bool
  | .at (.int k x), .at (.int k' y) => bif kEq k k' then some (x == y) else none
  | .at (.string x), .at (.string y) => some (eqS x y)
  | .agg xs, .agg ys => keysIs xs ys
  | _, _ => none
def mGet (k : AVal) : List (AVal × AVal) → Option (Option AVal)
  | [] => some none
  | (k', v) :: es => match keyIs k k' with
    | some true => some (some v)
    | some false => mGet k es
    | none => none
def mSet (k v : AVal) : List (AVal × AVal) → Option (List (AVal × AVal))
  | [] => some [(k, v)]
  | (k', v') :: es => match keyIs k k' with
    | some true => some ((k, v) :: es)
    | some false => match mSet k v es with
      | some r => some ((k', v') :: r)
      | none => none
    | none => none
def mDel (k : AVal) : List (AVal × AVal) → Option (List (AVal × AVal))
  | [] => some []
  | (k', v') :: es => match keyIs k k' with
    | some true => some es
    | some false => match mDel k es with
      | some r => some ((k', v') :: r)
      | none => none
    | none => none
def keyCs : List CK → List AVal → Bool
  | [], [] => true
  | .int k :: ks, .at (.int k' _) :: l => kEq k' k && keyCs ks l
  | .str :: ks, .at (.string _) :: l => keyCs ks l
  | _, _ => false
def keyV : KK → AVal → Bool
  | .i, .at (.int _ _) => true
  | .s, .at (.string _) => true
  | .a ks, .agg l => keyCs ks l
  | _, _ => false
def scalEq : CK → AVal → AVal → Option Bool
  | .int k, .at (.int k1 a), .at (.int k2 b) => bif kEq k1 k && kEq k2 k then some (a == b) else none
  | .bool, .at (.bool a), .at (.bool b) => some (a == b)
  | .str, .at (.string a), .at (.string b) => some (eqS a b)
  | _, _, _ => none
def cellsEq : List CK → List AVal → List AVal → Option Bool
  | [], [], [] => some true
  | k :: ks, a :: as, b :: bs => match scalEq k a b with
    | some e => match cellsEq ks as bs with
      | some r => some (e && r)
      | none => none
    | none => none
  | _, _, _ => none
def eqAV : List CK → AVal → AVal → Option Bool
  | [k], a, b => scalEq k a b
  | ks, .agg as, .agg bs => cellsEq ks as bs
  | _, _, _ => none
def bitsI (op : BinOp) (k : IntKind) (x y : Int) : Int :=
  let a := BitVec.ofInt k.bits x
  let b := BitVec.ofInt k.bits y
  k.wrap (match op with
    | .and => (a &&& b).toNat
    | .or => (a ||| b).toNat
    | .xor => (a ^^^ b).toNat
    | _ => (a &&& ~~~b).toNat)
def shiftI (op : BinOp) (k : IntKind) (x y : Int) : Int := match op with
  | .shl => k.wrap (x * 2 ^ (min y.toNat k.bits))
  | _ => x.fdiv (2 ^ (min y.toNat k.bits))
def binI (op : BinOp) (k : IntKind) (a b : Int) (c : Value → Option α) : Option α := match op with
  | .add => c (.int k (k.wrap (a + b)))
  | .sub => c (.int k (k.wrap (a - b)))
  | .mul => c (.int k (k.wrap (a * b)))
  | .quo => if b = 0 then none else c (.int k (k.wrap (a.tdiv b)))
  | .rem => if b = 0 then none else c (.int k (a.tmod b))
  | .and => c (.int k (bitsI .and k a b))
  | .or => c (.int k (bitsI .or k a b))
  | .xor => c (.int k (bitsI .xor k a b))
  | .andNot => c (.int k (bitsI .andNot k a b))
  | .eql => c (.bool (a == b))
  | .neq => c (.bool (a != b))
  | .lss => c (.bool (decide (a < b)))
  | .leq => c (.bool (decide (a ≤ b)))
  | .gtr => c (.bool (decide (a > b)))
  | .geq => c (.bool (decide (a ≥ b)))
  | _ => none
def binS (op : BinOp) (a b : ByteArray) (c : Value → Option α) : Option α := match op with
  | .add => if ((a.size + b.size : Nat) : Int) > IntKind.i64.max then none else c (.string (catS a b))
  | .eql => c (.bool (eqS a b))
  | .neq => c (.bool !eqS a b)
  | .lss => c (.bool (Op.bytesLess a.data.toList b.data.toList))
  | .leq => c (.bool (Op.bytesLess a.data.toList b.data.toList || eqS a b))
  | .gtr => c (.bool !(Op.bytesLess a.data.toList b.data.toList || eqS a b))
  | .geq => c (.bool !Op.bytesLess a.data.toList b.data.toList)
  | _ => none
def isShift : BinOp → Bool
  | .shl | .shr => true
  | _ => false
def binC (op : BinOp) (x y : AVal) (c : Value → Option α) : Option α := match x, y with
  | .at (.int k a), .at (.int k' b) => bif isShift op then (if b < 0 then none else c (.int k (shiftI op k a b))) else (bif kEq k k' then binI op k a b c else none)
  | .at (.string a), .at (.string b) => binS op a b c
  | _, _ => none
def unC (op : UnOp) (x : AVal) (c : Value → Option α) : Option α := match op, x with
  | .not, .at (.bool b) => c (.bool !b)
  | .neg, .at (.int k n) => c (.int k (k.wrap (0 - n)))
  | .xor, .at (.int k n) => c (.int k (bitsI .xor k (if k.signed then -1 else k.max) n))
  | _, _ => none
def withZ (zero : List AVal) (agg : Bool) (v : AVal) (c : AVal → Option α) : Option α := match zero, agg with
  | [.at (.bool _)], false => withB (some v) fun b => c (.at (.bool b))
  | _, _ => c v
def withT (v : AVal) (c : List AVal → Option α) : Option α := match v with
  | .tup vs => c vs
  | _ => none
def withRes (ks : List CK) (v : AVal) (c : AVal → Option α) : Option α := match ks with
  | [] => c v
  | [k] => withK k (some v) c
  | ks => withT v fun vs => bif Nat.beq vs.length ks.length then withKs ks vs 0 fun as => c (.tup as) else none
def withOut (r : R) (ok pan : AVal → Sg → Option α) : Option α := match r with
  | some (.ret v sg) => ok v sg
  | some (.pan v sg) => pan v sg
  | none => none
def isNilV (k : Nat) (v : Value) : Option Bool := match v with
  | .pointer none => bif Nat.beq k 1 then some true else none
  | .nilFunc => bif Nat.beq k 2 then some true else none
  | _ => none
def isNil (k : Nat) (s : Slot) : Option Bool := match s with
  | .lp _ _ => bif Nat.beq k 1 then some false else none
  | .ls _ _ _ => bif Nat.beq k 0 then some false else none
  | .v a _ => match a with
    | .sl nn _ _ => bif Nat.beq k 0 then some nn else none
    | .gs _ _ _ _ => bif Nat.beq k 0 then some false else none
    | .e0 _ => bif Nat.beq k 0 then some false else none
    | .gp _ _ => bif Nat.beq k 1 then some false else none
    | .ep _ => bif Nat.beq k 1 then some false else none
    | .at v => isNilV k v
    | .clo _ _ _ => bif Nat.beq k 2 then some false else none
    | .junk => none
    | .agg _ => none
    | .tup _ => none
    | .gm _ => none
    | .yl _ => none
    | .ifc _ _ => none
def sem (C : CallF) (d : Option Nat) (o : AOp) (rd : St) (c : Step → Option α) : Option α := match o with
  | .mov x => c (.go (dstU d (unflag (rdO rd x))))
  | .movA x => match rdT rd x with
    | .v a f => c (.go ((.s x, .sv (.v a false)) :: dstU d (.v a f)))
    | _ => none
  | .nilS sz => c (.go (dstU d (.v (.sl true sz []) true)))
  | .pick t a b => withB (rdA rd t) fun t => if t = true then withA (rdA rd a) fun x => c (.go (dstU d (.v x false))) else withA (rdA rd b) fun y => c (.go (dstU d (.v y false)))
  | .bin op x y => withA (rdA rd x) fun a => withA (rdA rd y) fun b => binC op a b fun r => c (.go (dstU d (.v (.at r) false)))
  | .nilCmp neg k x => withO (isNil k (rdO rd x)) fun b => c (.go (dstU d (.v (.at (.bool (xor neg b))) false)))
  | .eqA neg ks t x y => withA (rdA rd x) fun a => withA (rdA rd y) fun b => withO (eqAV ks a b) fun r => c (.go (dstU d (.v (.at (.bool (xor neg r))) false)))
  | .un op x => withA (rdA rd x) fun a => unC op a fun r => c (.go (dstU d (.v (.at r) false)))
  | .convI k x => withN (rdA rd x) fun n => c (.go (dstU d (.v (.at (.int k (k.wrap n))) false)))
  | .convS x => withS (rdA rd x) fun s => c (.go (dstU d (.v (.at (.string s)) false)))
  | .field off ks agg x => withA (rdA rd x) fun a => match a with
    | .agg cs => withV ks agg (AVal.agg cs).cells off fun r => c (.go (dstU d (.v r false)))
    | _ => none
  | .extract x i => match rdO rd x with
    | .v (.tup vs) _ => withA vs[i]? fun a => c (.go (dstU d (.v a false)))
    | _ => none
  | .indexA len esz ks agg x i => withA (rdA rd x) fun a => withN (rdA rd i) fun n =>
      if 0 ≤ n ∧ n < len then (match a with
        | .agg cs => withV ks agg (AVal.agg cs).cells (n.toNat * esz) fun r => c (.go (dstU d (.v r false)))
        | _ => none) else none
  | .indexS x i => withS (rdA rd x) fun s => withN (rdA rd i) fun n =>
      if 0 ≤ n ∧ n < s.size then c (.go (dstU d (.v (.at (.int .u8 ((s.data.toList.getD n.toNat 0).toNat))) false))) else none
  | .build zero parts => withParts rd parts fun ps => bindL (fillA zero ps) fun cs => c (.go (dstU d (.v (.agg cs) false)))
  | .boxL x => match d with
    | some d => withA (rdA rd x) fun a => match rd (.l d) with
      | .bx none => c (.go [(.l d, .bx (some (.mk a.cells))), (.s d, .sv (.lp d 0))])
      | _ => none
    | none => none
  | .allocL zero => match d with
    | some d => match rd (.l d) with
      | .bx none => c (.go [(.l d, .bx (some (.mk zero))), (.s d, .sv (.lp d 0))])
      | _ => none
    | none => none
  | .boxG x => withA (rdA rd x) fun a => match rd .g with
    | .sg sg => c (.go ((.g, .sg (sg ++ [.mk a.cells])) :: dstU d (.v (.gp sg.length 0) false)))
    | _ => none
  | .allocG ty zero => match rd .g with
    | .sg sg => c (.go ((.g, .sg (sg ++ [boxZ ty zero])) :: dstU d (.v (.gp sg.length 0) false)))
    | _ => none
  | .addr off x => match rdO rd x with
    | .lp b o => c (.go (dstU d (.lp b (o + off))))
    | .v (.gp g o) _ => c (.go (dstU d (.v (.gp g (o + off)) false)))
    | .v (.ep cs) _ => c (.go (dstU d (.v (.ep (cs.drop off)) false)))
    | _ => none
  | .indexAddrA len esz x i => withN (rdA rd i) fun n => if 0 ≤ n ∧ n < len then (match rdO rd x with
      | .lp b o => c (.go (dstU d (.lp b (o + n.toNat * esz))))
      | .v (.gp g o) _ => c (.go (dstU d (.v (.gp g (o + n.toNat * esz)) false)))
      | _ => none) else none
  | .indexAddrS esz x i => withN (rdA rd i) fun n => match rdO rd x with
      | .v (.sl _ sz l) _ => bif Nat.beq sz esz then if 0 ≤ n then withA l[n.toNat]? fun a => bif Nat.beq a.cells.length esz then c (.go (dstU d (.v (.ep a.cells) false))) else none else none else none
      | .v (.gs g sz o len) _ => bif Nat.beq sz esz then if 0 ≤ n ∧ n < len then c (.go (dstU d (.v (.gp g (o + n.toNat * esz)) false))) else none else none
      | .ls b o len => if 0 ≤ n ∧ n < len then c (.go (dstU d (.lp b (o + n.toNat * esz)))) else none
      | _ => none
  | .load ks agg root x => match rdO rd x with
    | .v (.ep cs) _ => withV ks agg cs 0 fun r => c (.go (dstU d (.v r false)))
    | s => withBox rd root s fun B off _ => withV ks agg B.cells off fun r => c (.go (dstU d (.v r false)))
  | .store n root a x => withBox rd root (rdO rd a) fun B off r => withA (rdA rd x) fun v =>
      bif Nat.beq v.cells.length n then bif Nat.ble (off + n) B.cells.length then bindL (splice B.cells off v.cells) (fun cs => match r with
        | some r => c (.go [(.l r, .bx (some (.mk cs)))])
        | none => match rdO rd a with
          | .v (.gp g _) _ => (match rd .g with
            | .sg sg => c (.go [(.g, .sg (sg.set g (.mk cs)))])
            | _ => none)
          | _ => none) else none else none
  | .lenS x => withS (rdA rd x) fun s => c (.go (dstU d (.v (.at (.int .i64 s.size)) false)))
  | .lenL x => match rdO rd x with
    | .v (.sl _ _ l) _ => c (.go (dstU d (.v (.at (.int .i64 l.length)) false)))
    | .v (.gs _ _ _ n) _ => c (.go (dstU d (.v (.at (.int .i64 n)) false)))
    | .ls _ _ n => c (.go (dstU d (.v (.at (.int .i64 n)) false)))
    | .v (.e0 _) _ => c (.go (dstU d (.v (.at (.int .i64 0)) false)))
    | .v (.at (.slice _ n _)) _ => c (.go (dstU d (.v (.at (.int .i64 n)) false)))
    | _ => none
  | .lenA n => c (.go (dstU d (.v (.at (.int .i64 n)) false)))
  | .minmax mx xs => match args? rd xs with
    | some (.at (.int k x) :: l) => match minmaxI mx k x l with
      | some r => c (.go (dstU d (.v (.at (.int k r)) false)))
      | none => none
    | _ => none
  | .sliceS x lo hi => withS (rdA rd x) fun s => bounds s.size rd lo hi fun l h => c (.go (dstU d (.v (.at (.string (cutS s l h))) false)))
  | .sliceV esz x lo hi => match rdA rd x with
    | some (.sl nn sz xs) => bif Nat.beq sz esz then bounds xs.length rd lo hi fun l h => c (.go (dstU d (.v (.sl nn sz ((xs.drop l).take (h - l))) false))) else none
    | some (.gs g sz o n) => bif Nat.beq sz esz then bounds n rd lo hi fun l h => if l < h then c (.go (dstU d (.v (.gs g sz (o + l * sz) (h - l)) false))) else bif Nat.beq l 0 then c (.go (dstU d (.v (.gs g sz o 0) false))) else c (.go (dstU d (.v (.e0 false) false))) else none
    | _ => none
  | .sliceX esz x lo hi mx => match rdA rd x with
    | some (.gs g sz o n) => bif Nat.beq sz esz then withN (rdA rd mx) fun m => bounds n rd lo (some hi) fun l h => if (h : Int) ≤ m ∧ m ≤ n then c (.go (dstU d (.v (if m.toNat = l then .e0 true else .gs g sz (o + l * sz) (h - l)) false))) else none else none
    | some (.sl nn sz xs) => bif Nat.beq sz esz then withN (rdA rd mx) fun m => bounds xs.length rd lo (some hi) fun l h => if (h : Int) ≤ m ∧ m ≤ xs.length then c (.go (dstU d (.v (if m.toNat = l ∧ nn = false then .e0 true else .sl nn sz ((xs.drop l).take (h - l))) false))) else none else none
    | _ => none
  | .sliceA len esz root x lo hi => bounds len rd lo hi fun l h => match rdO rd x with
    | .lp b o => c (.go (dstU d (.ls b (bif Nat.beq len l then o else o + l * esz) (h - l))))
    | .v (.gp g o) _ => match rd .g with
      | .sg sg => withO sg[g]? fun B => bif Nat.blt 0 B.cells.length && Nat.ble (o + len * esz) B.cells.length then c (.go (dstU d (.v (.gs g esz (bif Nat.beq len l then o else o + l * esz) (h - l)) false))) else none
      | _ => none
    | _ => none
  | .buildSl esz xs => match args? rd xs with
    | some as => bif allSz esz as then c (.go (dstU d (.v (.sl false esz as) true))) else none
    | none => none
  | .append esz bytes x y => match appended esz (rdA rd y) with
    | some r => match rdT rd x with
      | .v (.sl nn sz l) true => bif Nat.beq sz esz then if (l.length + r.length) * bytes ≤ 35184372088832 then
          c (.go ((.s x, .sv (.v (.sl nn sz l) false)) :: dstU d (.v (.sl (bothNil r nn) esz (l ++ r)) true))) else none else none
      | _ => none
    | none => none
  | .appendH ty esz bytes x y => withO (flatSrc rd esz (rdA rd y)) fun (m, fl) =>
      bif Nat.beq m 0 then (match rdO rd x with
        | .v (.sl nn sz l) _ => c (.go (dstU d (.v (.sl nn sz l) false)))
        | .v (.e0 b) _ => c (.go (dstU d (.v (.e0 b) false)))
        | .v (.gs g sz o n) _ => bif Nat.beq sz esz then c (.go (dstU d (.v (.gs g sz o n) false))) else none
        | _ => none)
      else if m * bytes ≤ 35184372088832 then (match rdO rd x, rd .g with
        | .v (.sl true _ []) _, .sg sg => c (.go ((.g, .sg (sg ++ [boxT ty fl])) :: dstU d (.v (.gs sg.length esz 0 m) false)))
        | .v (.e0 true) _, .sg sg => c (.go ((.g, .sg (sg ++ [boxT ty fl])) :: dstU d (.v (.gs sg.length esz 0 m) false)))
        | .v (.gs g sz o n) _, .sg sg => bif Nat.beq sz esz && (Nat.beq o 0 || (ty.isNone && Nat.blt 0 (n * esz))) then withO sg[g]? fun B => bif okT ty B && (Nat.beq B.cells.length (o + n * esz) && Nat.blt 0 B.cells.length) then
            if (n + m) * bytes ≤ 35184372088832 then
              c (.go ((.g, .sg (sg.set g (.mk []) ++ [boxT ty (B.cells.drop o ++ fl)])) :: dstU d (.v (.gs sg.length esz 0 (n + m)) false))) else none else none else none
        | _, _ => none) else none
  | .makeV esz bytes zero agg n cp => withN (rdA rd n) fun n => withN (rdA rd cp) fun cp =>
      if 0 ≤ n ∧ n ≤ cp ∧ cp * bytes ≤ 35184372088832 then c (.go (dstU d (.v (.sl false esz (List.replicate n.toNat (bif agg then .agg zero else zero.headD .junk))) true))) else none
  | .toBytes x => match d with
    | some d => withS (rdA rd x) fun s => match rd (.l d) with
      | .bx none => c (.go [(.l d, .bx (some (.mk (ofBytes s.data.toList)))), (.s d, .sv (.ls d 0 s.size))])
      | _ => none
    | none => none
  | .toStr root x => match rdO rd x with
    | .v (.sl _ _ l) _ => withO (bytesOf l) fun bs => c (.go (dstU d (.v (.at (.string ⟨bs.toArray⟩)) false)))
    | .ls b o n => bif rootIs root b then (match rd (.l b) with
      | .bx (some B) => withO (bytesOf ((B.cells.drop o).take n)) fun bs => if bs.length = n then c (.go (dstU d (.v (.at (.string ⟨bs.toArray⟩)) false))) else none
      | _ => none) else none
    | _ => none
  | .call f args ks => match args? rd args with
    | some as => match rd .g with
      | .sg sg => withOut (callC C f as sg) (fun v sg' => withRes ks v fun v => c (.go ((.g, .sg sg') :: dstU d (.v v false)))) (fun v sg' => c (.pan v sg'))
      | _ => none
    | none => none
  | .callR f args ks => match args? rd args with
    | some as => match rd .g with
      | .sg sg => withOut (callC C f as sg) (fun v _ => withRes ks v fun v => c (.go (dstU d (.v v false)))) (fun v _ => c (.pan v sg))
      | _ => none
    | none => none
  | .callP f args ks => match args? rd args with
    | some as => bif noGs as then withOut (callC C f as []) (fun v _ => withRes ks v fun v => bif noG v then c (.go (dstU d (.v v false))) else none) (fun _ _ => none) else none
    | none => none
  | .callD f args ks => match args? rd args with
    | some as => bif noGs as then withOut (callC C f as []) (fun v sg' => withO (thaw 8 sg' v) fun v => withRes ks v fun v => bif noG v then c (.go (dstU d (.v v false))) else none) (fun _ _ => none) else none
    | none => none
  | .callV f args ks => match rdA rd f with
    | some (.clo f first cap) => match args? rd args with
      | some as => match rd .g with
        | .sg sg => withOut (callC C f (first ++ (as ++ cap)) sg) (fun v sg' => withRes ks v fun v => c (.go ((.g, .sg sg') :: dstU d (.v v false)))) (fun v sg' => c (.pan v sg'))
        | _ => none
      | none => none
    | some (.yl g) => match args? rd args with
      | some as => withLoop rd g fun sg k sv p => withOut (C (yBase + k) (.yl g :: as) sg) (fun v sg' => withRes ks v fun v => c (.go ((.g, .sg sg') :: dstU d (.v v false)))) (fun v sg' => c (.pan v sg'))
      | none => none
    | _ => none
  | .makeFunc f first cap => match args? rd first with
    | some a => match args? rd cap with
      | some b => c (.go (dstU d (.v (.clo f a b) false)))
      | none => none
    | none => none
  | .nilCk x => match rdO rd x with
    | .lp b off => c (.go (dstU d (.lp b off)))
    | .v (.gp g o) _ => c (.go (dstU d (.v (.gp g o) false)))
    | .v (.ep cs) _ => c (.go (dstU d (.v (.ep cs) false)))
    | _ => none
  | .mkIfc t x => withA (rdA rd x) fun a => c (.go (dstU d (.v (.ifc t a) false)))
  | .panicI x => match rdA rd x with
    | some (.ifc t a) => match rd .g with
      | .sg sg => c (.pan (.ifc t a) sg)
      | _ => none
    | _ => none
  | .mkMap => match rd .g with
    | .sg sg => c (.go ((.g, .sg (sg ++ [.map []])) :: dstU d (.v (.gm sg.length) false)))
    | _ => none
  | .mapGet str zero agg ok m k => withA (rdA rd k) fun k => bif keyV str k then withM rd (rdA rd m) fun _ _ es => withO (mGet k es) fun r =>
      bif ok then (match r with
        | some v => c (.go (dstU d (.v (.tup [v, .at (.bool true)]) false)))
        | none => c (.go (dstU d (.v (.tup [bif agg then .agg zero else zero.headD .junk, .at (.bool false)]) false))))
      else (match r with
        | some v => withZ zero agg v fun v => c (.go (dstU d (.v v false)))
        | none => withZ zero agg (bif agg then .agg zero else zero.headD .junk) fun v => c (.go (dstU d (.v v false)))) else none
  | .mapSet str m k v => withA (rdA rd k) fun k => bif keyV str k then withA (rdA rd v) fun v => withM rd (rdA rd m) fun sg g es => withO (mSet k v es) fun es => c (.go ((.g, .sg (sg.set g (.map es))) :: dstU d (.v .junk false))) else none
  | .mapDel str m k => withA (rdA rd k) fun k => bif keyV str k then withM rd (rdA rd m) fun sg g es => withO (mDel k es) fun es => c (.go ((.g, .sg (sg.set g (.map es))) :: dstU d (.v (.tup []) false))) else none
  | .mapLen m => withM rd (rdA rd m) fun _ _ es => c (.go (dstU d (.v (.at (.int .i64 es.length)) false)))
  | .mapClr m => withM rd (rdA rd m) fun sg g es => c (.go ((.g, .sg (sg.set g (.map []))) :: dstU d (.v (.tup []) false)))
  | .mkE0 => c (.go (dstU d (.v (.e0 true) false)))
  | .makeG esz bytes zero n cp => withN (rdA rd n) fun n => withN (rdA rd cp) fun cp => match rd .g with
    | .sg sg => if 0 < n ∧ n ≤ cp ∧ cp * bytes ≤ 35184372088832 then c (.go ((.g, .sg (sg ++ [.mk ((List.replicate n.toNat zero).flatten)])) :: dstU d (.v (.gs sg.length esz 0 n.toNat) false))) else none
    | _ => none
  | .bad => none
  | .toStrG x => bif isSl (rdA rd x) then withO (flatSrc rd 1 (rdA rd x)) fun (m, fl) => withO (bytesOf fl) fun bs => c (.go (dstU d (.v (.at (.string ⟨bs.toArray⟩)) false))) else none
  | .buildG esz xs => match args? rd xs, rd .g with
    | some (a :: as), .sg sg => bif allSz esz (a :: as) && Nat.blt 0 esz then c (.go ((.g, .sg (sg ++ [.mk (flatA (a :: as))])) :: dstU d (.v (.gs sg.length esz 0 (a :: as).length) false))) else none
    | _, _ => none
  | .copyG esz x y => withO (flatSrc rd esz (rdA rd y)) fun (m, fl) => match rdA rd x with
    | some (.gs g sz o n) => bif Nat.beq sz esz then (match rd .g with
      | .sg sg => withO sg[g]? fun B => bif Nat.ble (o + n * esz) B.cells.length && Nat.blt 0 B.cells.length then
          bindL (splice B.cells o (fl.take (min n m * esz))) fun cs => c (.go ((.g, .sg (sg.set g (.mk cs))) :: dstU d (.v (.at (.int .i64 (min n m : Nat))) false))) else none
      | _ => none) else none
    | _ => none
def sgOf (rd : St) : Sg := match rd .g with
  | .sg sg => sg
  | _ => []
def aggC (a : AVal) : Option (List AVal) := match a with
  | .agg cs => some (AVal.agg cs).cells
  | _ => none
def tupC (a : AVal) : Option (List AVal) := match a with
  | .tup vs => some vs
  | _ => none
def addrV (off : Nat) (a : AVal) : Option AVal := match a with
  | .gp g o => some (.gp g (o + off))
  | .ep cs => some (.ep (cs.drop off))
  | _ => none
def addrB (off : Nat) (a : AVal) : Option AVal := match a with
  | .gp g o => some (.gp g (o + off))
  | _ => none
def elemV (esz : Nat) (n : Int) (a : AVal) : Option AVal := match a with
  | .sl _ sz l => bif Nat.beq sz esz then if 0 ≤ n then withA l[n.toNat]? fun a => bif Nat.beq a.cells.length esz then some (.ep a.cells) else none else none else none
  | .gs g sz o len => bif Nat.beq sz esz then if 0 ≤ n ∧ n < len then some (.gp g (o + n.toNat * esz)) else none else none
  | _ => none
def loadC (root : Option Nat) (sg : Sg) (a : AVal) : Option (List AVal × Nat) := match a with
  | .ep cs => some (cs, 0)
  | .gp g off => match root with
    | some _ => none
    | none => withO sg[g]? fun B => bif B.cells.isEmpty then none else some (B.cells, off)
  | _ => none
def storeG (root : Option Nat) (sg : Sg) (p : AVal) (n : Nat) (v : AVal) : Option Sg := match p with
  | .gp g off => match root with
    | some _ => none
    | none => withO sg[g]? fun B => bif B.cells.isEmpty then none else
      bif Nat.beq v.cells.length n then bif Nat.ble (off + n) B.cells.length then bindL (splice B.cells off v.cells) fun cs => some (sg.set g (.mk cs)) else none else none
  | _ => none
def lenV (a : AVal) : Option Nat := match a with
  | .sl _ _ l => some l.length
  | .gs _ _ _ n => some n
  | .e0 _ => some 0
  | .at (.slice _ n _) => some n
  | _ => none
def lenZ (esz : Nat) (a : AVal) : Option Nat := match a with
  | .sl _ sz l => bif Nat.beq sz esz then some l.length else none
  | .gs _ sz _ n => bif Nat.beq sz esz then some n else none
  | _ => none
def cutV (a : AVal) (l h : Nat) : Option AVal := match a with
  | .sl nn sz xs => some (.sl nn sz ((xs.drop l).take (h - l)))
  | .gs g sz o _ => if l < h then some (.gs g sz (o + l * sz) (h - l)) else bif Nat.beq l 0 then some (.gs g sz o 0) else some (.e0 false)
  | _ => none
def nilV (a : AVal) : Option AVal := match a with
  | .gp g o => some (.gp g o)
  | .ep cs => some (.ep cs)
  | _ => none
def cloV (a : AVal) : Option (FuncId × List AVal × List AVal) := match a with
  | .clo f first cap => some (f, first, cap)
  | _ => none
def ylV (a : AVal) : Option Nat := match a with
  | .yl g => some g
  | _ => none
def isYl (a : AVal) : Bool := match a with
  | .yl _ => true
  | _ => false
def loopW (sg : Sg) (g : Nat) : Option (Nat × List AVal × Nat) := match sg[g]? with
  | some (.loop k sv p) => some (k, sv, p)
  | _ => none
def mapV (sg : Sg) (a : AVal) : Option (Nat × List (AVal × AVal)) := match a with
  | .gm g => match sg[g]? with
    | some (.map es) => some (g, es)
    | _ => none
  | _ => none
def hasV (r : Option AVal) : Bool := match r with
  | some _ => true
  | none => false
def getOr (zero : List AVal) (agg : Bool) (r : Option AVal) : AVal := match r with
  | some v => v
  | none => bif agg then .agg zero else zero.headD .junk
def flatG (sg : Sg) (sz : Nat) (a : AVal) : Option (Nat × List AVal) := match a with
  | .sl _ sz' l => bif Nat.beq sz' sz then some (l.length, flatA l) else none
  | .e0 _ => some (0, [])
  | .at (.string s) => bif Nat.beq sz 1 then some (s.size, ofBytes s.data.toList) else none
  | .at (.slice (some _) 0 _) => some (0, [])
  | .gs g sz' o n => bif Nat.beq sz' sz then (match sg[g]? with
      | some B => bif Nat.ble (o + n * sz) B.cells.length && Nat.blt 0 B.cells.length then some (n, (B.cells.drop o).take (n * sz)) else none
      | none => none) else none
  | _ => none
def app0 (esz : Nat) (a : AVal) : Option AVal := match a with
  | .sl nn sz l => some (.sl nn sz l)
  | .e0 b => some (.e0 b)
  | .gs g sz o n => bif Nat.beq sz esz then some (.gs g sz o n) else none
  | _ => none
def app1 (ty : Option TypeId) (esz bytes : Nat) (sg : Sg) (a : AVal) (m : Nat) (fl : List AVal) : Option (AVal × Sg) := match a with
  | .sl true _ [] => some (.gs sg.length esz 0 m, sg ++ [boxT ty fl])
  | .e0 true => some (.gs sg.length esz 0 m, sg ++ [boxT ty fl])
  | .gs g sz o n => bif Nat.beq sz esz && (Nat.beq o 0 || (ty.isNone && Nat.blt 0 (n * esz))) then withO sg[g]? fun B => bif okT ty B && (Nat.beq B.cells.length (o + n * esz) && Nat.blt 0 B.cells.length) then
      if (n + m) * bytes ≤ 35184372088832 then some (.gs sg.length esz 0 (n + m), sg.set g (.mk []) ++ [boxT ty (B.cells.drop o ++ fl)]) else none else none else none
  | _ => none
def copyV (esz : Nat) (sg : Sg) (a : AVal) (m : Nat) (fl : List AVal) : Option (Nat × Sg) := match a with
  | .gs g sz o n => bif Nat.beq sz esz then withO sg[g]? fun B => bif Nat.ble (o + n * esz) B.cells.length && Nat.blt 0 B.cells.length then
      bindL (splice B.cells o (fl.take (min n m * esz))) fun cs => some (min n m, sg.set g (.mk cs)) else none else none
  | _ => none
def withArgs (rd : St) : List Operand → (List AVal → Option α) → Option α
  | [], c => c []
  | x :: l, c => withA (rdA rd x) fun a => withArgs rd l fun as => c (a :: as)
def binR (op : BinOp) (a b : AVal) (c : Value → Option α) : Option α := match a with
  | .at (.string s) => withS (some b) fun t => binS op s t c
  | _ => binC op a b c
def unR (op : UnOp) (a : AVal) (c : Value → Option α) : Option α := match op with
  | .not => withB (some a) fun b => c (.bool !b)
  | op => unC op a c
def appV (esz : Nat) (b : AVal) : Option (List AVal) := appended esz (some b)
def semR (C : CallF) (d : Option Nat) (o : AOp) (rd : St) (c : Step → Option α) : Option α := match o with
  | .minmax mx xs => withArgs rd xs fun as => match as with
    | .at (.int k x) :: l => match minmaxI mx k x l with
      | some r => c (.go (dstU d (.v (.at (.int k r)) false)))
      | none => none
    | _ => none
  | .buildG esz xs => withArgs rd xs fun as => match as, rd .g with
    | a :: as, .sg sg => bif allSz esz (a :: as) && Nat.blt 0 esz then c (.go ((.g, .sg (sg ++ [.mk (flatA (a :: as))])) :: dstU d (.v (.gs sg.length esz 0 (a :: as).length) false))) else none
    | _, _ => none
  | .makeFunc f first cap => withArgs rd first fun a => withArgs rd cap fun b => c (.go (dstU d (.v (.clo f a b) false)))
  | .un op x => withA (rdA rd x) fun a => unR op a fun r => c (.go (dstU d (.v (.at r) false)))
  | .append esz bytes x y => withA (rdA rd y) fun b => withO (appV esz b) fun r => match rdT rd x with
      | .v (.sl nn sz l) true => bif Nat.beq sz esz then if (l.length + r.length) * bytes ≤ 35184372088832 then
          c (.go ((.s x, .sv (.v (.sl nn sz l) false)) :: dstU d (.v (.sl (bothNil r nn) esz (l ++ r)) true))) else none else none
      | _ => none
  | .bin op x y => withA (rdA rd x) fun a => withA (rdA rd y) fun b => binR op a b fun r => c (.go (dstU d (.v (.at r) false)))
  | .field off ks agg x => withA (rdA rd x) fun a => withO (aggC a) fun cs => withV ks agg cs off fun r => c (.go (dstU d (.v r false)))
  | .extract x i => match rdO rd x with
    | .v a _ => withO (tupC a) fun vs => withA vs[i]? fun a => c (.go (dstU d (.v a false)))
    | .lp _ _ => none
    | .ls _ _ _ => none
  | .addr off x => match rdO rd x with
    | .lp b o => c (.go (dstU d (.lp b (o + off))))
    | .v a _ => withO (addrV off a) fun r => c (.go (dstU d (.v r false)))
    | .ls _ _ _ => none
  | .indexAddrA len esz x i => withN (rdA rd i) fun n => if 0 ≤ n ∧ n < len then (match rdO rd x with
      | .lp b o => c (.go (dstU d (.lp b (o + n.toNat * esz))))
      | .v a _ => withO (addrB (n.toNat * esz) a) fun r => c (.go (dstU d (.v r false)))
      | .ls _ _ _ => none) else none
  | .indexAddrS esz x i => withN (rdA rd i) fun n => match rdO rd x with
      | .v a _ => withO (elemV esz n a) fun r => c (.go (dstU d (.v r false)))
      | .ls b o len => if 0 ≤ n ∧ n < len then c (.go (dstU d (.lp b (o + n.toNat * esz)))) else none
      | .lp _ _ => none
  | .load ks agg root x => match rdO rd x with
    | .v a _ => withO (loadC root (sgOf rd) a) fun p => withV ks agg p.1 p.2 fun r => c (.go (dstU d (.v r false)))
    | .lp b o => withBox rd root (.lp b o) fun B off _ => withV ks agg B.cells off fun r => c (.go (dstU d (.v r false)))
    | .ls _ _ _ => none
  | .store n root a x => match rdO rd a with
    | .v p _ => withA (rdA rd x) fun v => withO (storeG root (sgOf rd) p n v) fun sg => c (.go [(.g, .sg sg)])
    | .lp _ _ => sem C d (.store n root a x) rd c
    | .ls _ _ _ => none
  | .lenL x => match rdO rd x with
    | .v a _ => withO (lenV a) fun n => c (.go (dstU d (.v (.at (.int .i64 n)) false)))
    | .ls _ _ n => c (.go (dstU d (.v (.at (.int .i64 n)) false)))
    | .lp _ _ => none
  | .sliceV esz x lo hi => withA (rdA rd x) fun a => withO (lenZ esz a) fun n => bounds n rd lo hi fun l h => withO (cutV a l h) fun r => c (.go (dstU d (.v r false)))
  | .nilCk x => match rdO rd x with
    | .lp b off => c (.go (dstU d (.lp b off)))
    | .v a _ => withO (nilV a) fun r => c (.go (dstU d (.v r false)))
    | .ls _ _ _ => none
  | .call f args ks => withArgs rd args fun as => match rd .g with
      | .sg sg => withOut (callC C f as sg) (fun v sg' => withRes ks v fun v => c (.go ((.g, .sg sg') :: dstU d (.v v false)))) (fun v sg' => c (.pan v sg'))
      | _ => none
  | .callR f args ks => withArgs rd args fun as => match rd .g with
      | .sg sg => withOut (callC C f as sg) (fun v _ => withRes ks v fun v => c (.go (dstU d (.v v false)))) (fun v _ => c (.pan v sg))
      | _ => none
  | .callP f args ks => withArgs rd args fun as => bif noGs as then withOut (callC C f as []) (fun v _ => withRes ks v fun v => bif noG v then c (.go (dstU d (.v v false))) else none) (fun _ _ => none) else none
  | .callD f args ks => withArgs rd args fun as => bif noGs as then withOut (callC C f as []) (fun v sg' => withO (thaw 8 sg' v) fun v => withRes ks v fun v => bif noG v then c (.go (dstU d (.v v false))) else none) (fun _ _ => none) else none
  | .callV f args ks => withA (rdA rd f) fun a => bif isYl a then
        withO (ylV a) fun g => withArgs rd args fun as => withO (loopW (sgOf rd) g) fun p => withOut (C (yBase + p.1) (.yl g :: as) (sgOf rd)) (fun v sg' => withRes ks v fun v => c (.go ((.g, .sg sg') :: dstU d (.v v false)))) (fun v sg' => c (.pan v sg'))
      else withO (cloV a) fun q => withArgs rd args fun as => match rd .g with
        | .sg sg => withOut (callC C q.1 (q.2.1 ++ (as ++ q.2.2)) sg) (fun v sg' => withRes ks v fun v => c (.go ((.g, .sg sg') :: dstU d (.v v false)))) (fun v sg' => c (.pan v sg'))
        | _ => none
  | .buildSl esz xs => withArgs rd xs fun as => bif allSz esz as then c (.go (dstU d (.v (.sl false esz as) true))) else none
  | .mapGet str zero agg ok m k => withA (rdA rd k) fun k => bif keyV str k then withA (rdA rd m) fun m => withO (mapV (sgOf rd) m) fun p => withO (mGet k p.2) fun r =>
      bif ok then c (.go (dstU d (.v (.tup [getOr zero agg r, .at (.bool (hasV r))]) false))) else withZ zero agg (getOr zero agg r) (fun v => c (.go (dstU d (.v v false)))) else none
  | .mapSet str m k v => withA (rdA rd k) fun k => bif keyV str k then withA (rdA rd v) fun v => withA (rdA rd m) fun m => withO (mapV (sgOf rd) m) fun p => withO (mSet k v p.2) fun es => c (.go ((.g, .sg ((sgOf rd).set p.1 (.map es))) :: dstU d (.v .junk false))) else none
  | .mapDel str m k => withA (rdA rd k) fun k => bif keyV str k then withA (rdA rd m) fun m => withO (mapV (sgOf rd) m) fun p => withO (mDel k p.2) fun es => c (.go ((.g, .sg ((sgOf rd).set p.1 (.map es))) :: dstU d (.v (.tup []) false))) else none
  | .mapLen m => withA (rdA rd m) fun m => withO (mapV (sgOf rd) m) fun p => c (.go (dstU d (.v (.at (.int .i64 p.2.length)) false)))
  | .mapClr m => withA (rdA rd m) fun m => withO (mapV (sgOf rd) m) fun p => c (.go ((.g, .sg ((sgOf rd).set p.1 (.map []))) :: dstU d (.v (.tup []) false)))
  | .appendH ty esz bytes x y => withA (rdA rd y) fun b => withO (flatG (sgOf rd) esz b) fun p =>
      bif Nat.beq p.1 0 then (match rdO rd x with
        | .v a _ => withO (app0 esz a) fun r => c (.go (dstU d (.v r false)))
        | .lp _ _ => none
        | .ls _ _ _ => none)
      else if p.1 * bytes ≤ 35184372088832 then (match rdO rd x with
        | .v a _ => (match rd .g with
          | .sg sg => withO (app1 ty esz bytes sg a p.1 p.2) fun q => c (.go ((.g, .sg q.2) :: dstU d (.v q.1 false)))
          | _ => none)
        | .lp _ _ => none
        | .ls _ _ _ => none) else none
  | .toStrG x => withA (rdA rd x) fun a => bif isSl (some a) then withO (flatG (sgOf rd) 1 a) fun p => withO (bytesOf p.2) fun bs => c (.go (dstU d (.v (.at (.string ⟨bs.toArray⟩)) false))) else none
  | .copyG esz x y => withA (rdA rd y) fun b => withO (flatG (sgOf rd) esz b) fun p => withA (rdA rd x) fun a => match rd .g with
      | .sg sg => withO (copyV esz sg a p.1 p.2) fun q => c (.go ((.g, .sg q.2) :: dstU d (.v (.at (.int .i64 q.1)) false)))
      | _ => none
  | o => sem C d o rd c
end
def after (st : St) (k : St → R) : Step → R
  | .go us => k (upds st us)
  | .pan v sg => some (.pan v sg)
def exec (C : CallF) (i : AI) (st : St) (k : St → R) : R := match i.g with
  | none => semR C i.dst i.op st (after st k)
  | some (t, want) => match rdT st t with
    | .v (.at (.bool b)) f => if b = want then
        semR C i.dst i.op (upd st (.s t) (.sv (.v (.at (.bool want)) f))) (after (upd st (.s t) (.sv (.v (.at (.bool want)) f))) k)
      else k (upds (upd st (.s t) (.sv (.v (.at (.bool (!want))) f))) (dstU i.dst (.v (.tup []) false)))
    | .v (.tup []) _ => k (upds st (dstU i.dst (.v (.tup []) false)))
    | _ => none
def execs (C : CallF) : List AI → St → (St → R) → R
  | [], st, k => k st
  | i :: is, st, k => exec C i st fun st => execs C is st k
def afterD (st : St) (k : St → R) : Step → R
  | .go us => k (upds st us)
  | .pan _ _ => none
def execD (C : CallF) (i : AI) (st : St) (k : St → R) : R := match i.g with
  | none => semR C i.dst i.op st (afterD st k)
  | some (t, want) => match rdT st t with
    | .v (.at (.bool b)) f => if b = want then
        semR C i.dst i.op (upd st (.s t) (.sv (.v (.at (.bool want)) f))) (afterD (upd st (.s t) (.sv (.v (.at (.bool want)) f))) k)
      else k (upds (upd st (.s t) (.sv (.v (.at (.bool (!want))) f))) (dstU i.dst (.v (.tup []) false)))
    | .v (.tup []) _ => k (upds st (dstU i.dst (.v (.tup []) false)))
    | _ => none
def execsD (C : CallF) : List AI → St → (St → R) → R
  | [], st, k => k st
  | [i], st, k => exec C i st k
  | i :: j :: is, st, k => execD C i st fun st => execsD C (j :: is) st k
def goL {α : Type} (K : List (Res × RVal) → Option α) : Step → Option α
  | .go us => K us
  | .pan _ _ => none
def execL {α : Type} (C : CallF) (i : AI) (st : St) (K : List (Res × RVal) → Option α) : Option α := match i.g with
  | none => semR C i.dst i.op st (goL K)
  | some (t, want) => match rdT st t with
    | .v (.at (.bool b)) _ => if b = want then semR C i.dst i.op st (goL K) else K (dstU i.dst (.v (.tup []) false))
    | .v (.tup []) _ => K (dstU i.dst (.v (.tup []) false))
    | _ => none
def eqVal : Value → Value → Bool
  | .int k n, .int k' n' => kEq k k' && decide (n = n')
  | .bool a, .bool b => a == b
  | .string a, .string b => eqS a b
  | .pointer none, .pointer none => true
  | .nilFunc, .nilFunc => true
  | .nilIface, .nilIface => true
  | .map none, .map none => true
  | _, _ => false
mutual
def eqA : AVal → AVal → Bool
  | .at v, .at u => eqVal v u
  | .gp a b, .gp c d => Nat.beq a c && Nat.beq b d
  | .gs a b c d, .gs a' b' c' d' => Nat.beq a a' && (Nat.beq b b' && (Nat.beq c c' && Nat.beq d d'))
  | .gm a, .gm b => Nat.beq a b
  | .e0 a, .e0 b => a == b
  | .sl n s l, .sl n' s' l' => n == n' && (Nat.beq s s' && eqAs l l')
  | .agg l, .agg l' => eqAs l l'
  | .tup l, .tup l' => eqAs l l'
  | .ifc t v, .ifc t' v' => Nat.beq t t' && eqA v v'
  | .clo f a b, .clo f' a' b' => Nat.beq f f' && (eqAs a a' && eqAs b b')
  | _, _ => false
def eqAs : List AVal → List AVal → Bool
  | [], [] => true
  | a :: l, b :: m => eqA a b && eqAs l m
  | _, _ => false
end
def sameU : List (Res × RVal) → List (Res × RVal) → Bool
  | [], [] => true
  | [(.s d, .sv (.v a f))], [(.s d', .sv (.v a' f'))] => Nat.beq d d' && (eqA a a' && f == f')
  | _, _ => false
def stab (C : CallF) (S : List RVal) (i : AI) (st : St) (us : List (Res × RVal)) : Bool := S.all fun g => match execL C i (upd st .g g) some with
  | some us' => sameU us' us
  | none => false
def gW : AOp → Bool
  | .boxG _ | .allocG .. | .call .. | .callV .. | .appendH .. | .mkMap | .mapSet .. | .mapDel .. | .mapClr _ | .makeG .. | .copyG .. | .buildG .. => true
  | .store _ none _ _ => true
  | _ => false
def loOf (l : List (Nat × Nat)) (x : Nat) : Option Nat := match l with
  | [] => none
  | (y, p) :: l => bif Nat.beq x y then some p else loOf l x
def selS (h : Nat) : List (Nat × RVal) → List RVal
  | [] => []
  | (m, g) :: S => bif Nat.ble m h then g :: selS h S else selS h S
structure Look where
  i : AI
  st : St
  us : List (Res × RVal)
  h : Nat
def lookK (C : CallF) (i : AI) (st : St) (us : List (Res × RVal)) : List RVal → R → R
  | [], r => r
  | g :: S, r => execL C i (upd st .g g) fun us' => bif sameU us' us then lookK C i st us S r else none
def looksK (C : CallF) (S : List (Nat × RVal)) : List Look → R → R
  | [], r => r
  | x :: L, r => lookK C x.i x.st x.us (selS x.h S) (looksK C S L r)
def execsL (C : CallF) (lo : List (Nat × Nat)) : List AI → Nat → St → List (Nat × RVal) → List Look → (St → R) → R
  | [], _, st, S, L, k => looksK C S L (k st)
  | i :: is, n, st, S, L, k => execL C i st fun us => execsL C lo is (n + 1) (upds st us) (bif gW i.op then (n + 1, upds st us .g) :: S else S)
      (match loOf lo n with
        | some h => ⟨i, st, us, h⟩ :: L
        | none => L) k
inductive Ex where
  | normal
  | exit (id : Nat)
  | ret
def mkS.at_s : List Nat → List Slot → Nat → RVal
  | l :: ls, x :: xs, i => bif Nat.beq i l then .sv x else mkS.at_s ls xs i
  | _, _, _ => .no
def mkS.at_l : List Nat → List (Option Box) → Nat → RVal
  | l :: ls, x :: xs, i => bif Nat.beq i l then .bx x else mkS.at_l ls xs i
  | _, _, _ => .bx none
def mkS (live : List Nat) (ss : List Slot) (bs : List (Option Box)) (sg : RVal) : St
  | .s i => mkS.at_s live ss i
  | .l i => mkS.at_l live bs i
  | .g => sg
def plainAt (st : St) (i : Nat) : AVal := match st (.s i) with
  | .sv (.v a _) => a
  | _ => .junk
def has (l : List Nat) (x : Nat) : Bool := match l with
  | [] => false
  | y :: l => bif Nat.beq x y then true else has l x
def keepS (live : List Nat) (s : Slot) : Slot := match s with
  | .lp b off => bif has live b then .lp b off else .v .junk false
  | .ls b off n => bif has live b then .ls b off n else .v .junk false
  | s => s
def boxAt (st : St) (i : Nat) : Option Box := match st (.l i) with
  | .bx b => b
  | _ => none
def forget (live : List Nat) (st : St) : St := mkS live (live.map fun i => keepS live (rdT st i)) (live.map (boxAt st)) (st .g)
def rndK (live out rs : List Nat) (k : Ex → St → R) : Ex → St → R
  | .normal, st => k .normal (forget live st)
  | .exit id, st => k (.exit id) (forget out st)
  | .ret, st => k .ret (forget rs st)
def round (f : St → (Ex → St → R) → R) (live out rs : List Nat) (st : St) (k : Ex → St → R) : R := f st (rndK live out rs k)
def thenK (x : St → R) (k : Ex → St → R) : Ex → St → R
  | .normal, st => x st
  | .exit id, st => k (.exit id) st
  | .ret, st => k .ret st
def blockK (id : Nat) (k : Ex → St → R) : Ex → St → R
  | .normal, st => k .normal st
  | .exit id', st => bif Nat.beq id' id then k .normal st else k (.exit id') st
  | .ret, st => k .ret st
def jnc (i : Nat) (f : St → R) (st : St) : R := f st
def joinK : Option (Nat × List Nat) → (Ex → St → R) → Ex → St → R
  | none, k => k
  | some p, k => fun e st => match e with
    | .normal => jnc p.1 (k .normal) (forget p.2 st)
    | .exit id => k (.exit id) st
    | .ret => k .ret st
def iter (rnd : St → (Ex → St → R) → R) : Nat → St → (Ex → St → R) → R
  | 0, _, _ => none
  | n + 1, st, k => rnd st (thenK (fun st => iter rnd n st k) k)
def evalC (C : CallF) (N : Nat) : ACode → St → (Ex → St → R) → R
  | .skip, st, k => k .normal st
  | .region is d, st, k => bif d then execsD C is st (k .normal) else execs C is st (k .normal)
  | .regionL is lo, st, k => execsL C lo is 0 st [(0, st .g)] [] (k .normal)
  | .seq a b, st, k => evalC C N a st (thenK (fun st => evalC C N b st k) k)
  | .cond c a b jn, st, k => withB (rdA st c) fun t => if t = true then evalC C N a st (joinK jn k) else evalC C N b st (joinK jn k)
  | .block id c, st, k => evalC C N c st (blockK id k)
  | .loop live out rs c, st, k => iter (round (evalC C N c) live out rs) N (forget live st) k
  | .ranged n f live, st, k => withA (rdA st f) fun a => withO (cloV a) fun q => (match st .g with
      | .sg sg => bindL (live.map (plainAt st)) fun sv => bindL (q.2.1 ++ (.yl sg.length :: q.2.2)) fun xs => withOut (callC C q.1 xs (sg ++ [.loop n sv 0]))
          (fun _ sg2 => withO (loopW sg2 sg.length) fun p => bif Nat.beq p.2.2 0 then k .normal (upd st .g (.sg (sg2.set sg.length (.mk []))))
            else bif Nat.beq p.2.2 2 then k .ret (upd st .g (.sg (sg2.set sg.length (.mk []))))
            else bif Nat.blt 2 p.2.2 then k (.exit (p.2.2 - 3)) (upd st .g (.sg (sg2.set sg.length (.mk [])))) else none)
          (fun v sg2 => some (.pan v sg2))
      | _ => none)
  | .exit id, st, k => k (.exit id) st
  | .ret, st, k => k .ret st
structure AYield where
  live : List Nat
  params : List Nat
  asg : ACode
  body : ACode
def startY (y : AYield) (sv as : List AVal) (sg : Sg) : St
  | .s i => (match mkS.at_s y.params (as.map fun a => .v a false) i with
    | .no => mkS.at_s y.live (sv.map fun a => .v a false) i
    | x => x)
  | .l _ => .bx none
  | .g => .sg sg
def loopE (sg : Sg) (g n : Nat) : Option Sg := match sg[g]? with
  | some (.loop k sv 1) => some (sg.set g (.loop k sv n))
  | _ => none
def endY (g n : Nat) (b : Bool) (st : St) : R := match st .g with
  | .sg sg => withO (loopE sg g n) fun sg' => some (.ret (.at (.bool b)) sg')
  | _ => none
def finishY (g : Nat) : Ex → St → R
  | .normal, st => endY g 0 true st
  | .ret, st => endY g 2 false st
  | .exit id, st => endY g (id + 3) false st
def loopS (sg : Sg) (g : Nat) : Option Sg := match sg[g]? with
  | some (.loop k sv 0) => some (sg.set g (.loop k sv 1))
  | _ => none
def beginY (C : CallF) (N : Nat) (y : AYield) (g : Nat) : Ex → St → R
  | .normal, st => (match st .g with
    | .sg sg => withO (loopS sg g) fun sg' => evalC C N y.body (upd st .g (.sg sg')) (finishY g)
    | _ => none)
  | _, _ => none
def evalY (C : CallF) (N : Nat) (y : AYield) (k : Nat) (args : List AVal) (sg : Sg) : R := match args with
  | .yl g :: as => (match sg[g]? with
    | some (.loop k' sv 0) => bif Nat.beq k' k && (Nat.beq as.length y.params.length && Nat.beq sv.length y.live.length) then noPan (evalC C N y.asg (startY y sv as sg) (beginY C N y g)) else none
    | _ => none)
  | _ => none
inductive Dir where
  | fst | snd | thn | els | blk
def contC (C : CallF) (N : Nat) : List Dir → ACode → (Ex → St → R) → Ex → St → R
  | .fst :: p, .seq a b, k => contC C N p a (thenK (fun st => evalC C N b st k) k)
  | .snd :: p, .seq _ b, k => contC C N p b k
  | .thn :: p, .cond _ a _ jn, k => contC C N p a (joinK jn k)
  | .els :: p, .cond _ _ b jn, k => contC C N p b (joinK jn k)
  | .blk :: p, .block id c, k => contC C N p c (blockK id k)
  | _, _, k => k
inductive ARes where
  | tmp (t : Nat)
  | cell (t : Nat) (ks : List CK) (agg : Bool)
structure AFun where
  np : Nat
  res : List ARes
  body : ACode
def jk (a : AVal) : Option AVal := match a with
  | .junk => none
  | a => some a
def resOf (st : St) (r : ARes) (c : AVal → R) : R := match r with
  | .tmp t => match rdT st t with
    | .v a _ => withA (jk a) c
    | _ => none
  | .cell t ks agg => match rdT st t with
    | .lp b off => match st (.l b) with
      | .bx (some B) => withV ks agg B.cells off c
      | _ => none
    | .v (.gp g off) _ => match st .g with
      | .sg sg => withO (loadC none sg (.gp g off)) fun p => withV ks agg p.1 p.2 c
      | _ => none
    | _ => none
def resAll (st : St) : List ARes → (List AVal → R) → R
  | [], c => c []
  | r :: l, c => resOf st r fun a => resAll st l fun as => c (a :: as)
def start (args : List AVal) (sg : Sg) : St
  | .s i => match args[i]? with
    | some a => .sv (.v a false)
    | none => .no
  | .l _ => .bx none
  | .g => .sg sg
def withSg (st : St) (c : Sg → R) : R := match st .g with
  | .sg sg => c sg
  | _ => none
def finish (f : AFun) : Ex → St → R
  | .exit _, _ => none
  | _, st => resAll st f.res fun as => withSg st fun sg => match as with
    | [a] => some (.ret a sg)
    | as => some (.ret (.tup as) sg)
def evalF (C : CallF) (N : Nat) (f : AFun) (args : List AVal) (sg : Sg) : R :=
  bif Nat.beq args.length f.np then evalC C N f.body (start args sg) (finish f) else none
end Go.Abs
namespace Go.Abs
open Go
theorem withArgs_eq {α : Type} (rd : St) : ∀ (l : List Operand) (c : List AVal → Option α), withArgs rd l c = match args? rd l with
    | some as => c as
    | none => none
  | [], c => rfl
  | x :: l, c => by
    simp only [withArgs, args?]
    cases h : rdA rd x with
    | none => rfl
    | some a =>
      simp only [withA, withArgs_eq rd l]
      cases args? rd l <;> rfl
theorem withM_eq {α : Type} (rd : St) (a : Option AVal) (c : Sg → Nat → List (AVal × AVal) → Option α) :
    withM rd a c = withA a fun m => withO (mapV (sgOf rd) m) fun p => c (sgOf rd) p.1 p.2 := by
  cases a with
  | none => rfl
  | some a =>
    simp only [withA]
    cases a with
    | gm g =>
      simp only [withM, mapV, sgOf]
      cases rd .g with
      | sg sg =>
        simp only []
        cases h : sg[g]? with
        | none => rfl
        | some B => cases B <;> rfl
      | _ => rfl
    | _ => rfl
theorem flatG_eq (rd : St) (sz : Nat) (a : AVal) : flatG (sgOf rd) sz a = flatSrc rd sz (some a) := by
  cases a with
  | gs g sz' o n =>
    simp only [flatG, flatSrc, sgOf]
    cases rd .g with
    | sg sg => rfl
    | _ => (cases Nat.beq sz' sz <;> rfl)
  | «at» v =>
    cases v with
    | slice x n c => cases x <;> cases n <;> rfl
    | _ => rfl
  | _ => rfl
theorem withO_withO {α β γ : Type} (a : Option β) (f : β → Option γ) (c : γ → Option α) : withO (withO a f) c = withO a fun b => withO (f b) c := by cases a <;> rfl
theorem loadC_old {α : Type} (sg : Sg) (g off : Nat) (ks : List CK) (agg : Bool) (c : AVal → Option α) :
    (withO (loadC none sg (.gp g off)) fun p => withV ks agg p.1 p.2 c) = match sg[g]? with
      | some B => bif B.cells.isEmpty then none else withV ks agg B.cells off c
      | none => none := by
  simp only [loadC, withO_withO]
  cases sg[g]? with
  | none => rfl
  | some B => simp only [withO]; cases B.cells.isEmpty <;> rfl
theorem withLoop_eq {α : Type} (rd : St) (g : Nat) (c : Sg → Nat → List AVal → Nat → Option α) : withLoop rd g c = withO (loopW (sgOf rd) g) fun p => c (sgOf rd) p.1 p.2.1 p.2.2 := by
  simp only [withLoop, loopW, sgOf]
  cases rd .g with
  | sg sg =>
    simp only []
    cases sg[g]? with
    | none => rfl
    | some B => cases B <;> rfl
  | _ => rfl
theorem semR_eq {α : Type} (C : CallF) (d : Option Nat) (o : AOp) (rd : St) (c : Step → Option α) : semR C d o rd c = sem C d o rd c := by
  cases o with
  | minmax mx xs =>
    simp only [semR, sem, withArgs_eq]
    cases args? rd xs with
    | none => rfl
    | some as =>
      cases as with
      | nil => rfl
      | cons a l =>
        cases a with
        | «at» v => cases v <;> rfl
        | _ => rfl
  | buildG esz xs =>
    simp only [semR, sem, withArgs_eq]
    cases args? rd xs with
    | none => rfl
    | some as =>
      cases as with
      | nil => cases rd .g <;> rfl
      | cons a l => cases rd .g <;> rfl
  | makeFunc f first cap =>
    simp only [semR, sem, withArgs_eq]
    all_goals (cases args? rd first with
    | none => rfl
    | some as => cases args? rd cap <;> rfl)
  | un op x =>
    simp only [semR, sem]; congr 1; funext a
    cases op with
    | not =>
      cases a with
      | «at» v => cases v <;> rfl
      | _ => rfl
    | _ => rfl
  | append esz bytes x y =>
    simp only [semR, sem, appV]
    cases rdA rd y with
    | none => rfl
    | some b => simp only [withA]; cases appended esz (some b) <;> rfl
  | bin op x y =>
    simp only [semR, sem]; congr 1; funext a; congr 1; funext b
    unfold binR; split
    · cases b with
      | «at» v => cases v <;> rfl
      | _ => rfl
    · rfl
  | field off ks agg x =>
    simp only [semR, sem]; congr 1; funext a; cases a <;> rfl
  | extract x i =>
    simp only [semR, sem]
    cases rdO rd x with
    | v a f => cases a <;> rfl
    | _ => rfl
  | addr off x =>
    simp only [semR, sem]
    cases rdO rd x with
    | v a f => cases a <;> rfl
    | _ => rfl
  | indexAddrA len esz x i =>
    simp only [semR, sem]; congr 1; funext n; split
    · cases rdO rd x with
      | v a f => cases a <;> rfl
      | _ => rfl
    · rfl
  | indexAddrS esz x i =>
    simp only [semR, sem]; congr 1; funext n
    cases rdO rd x with
    | v a f =>
      cases a with
      | sl nn sz l =>
        simp only [elemV]
        cases Nat.beq sz esz with
        | false => rfl
        | true =>
          simp only [cond_true]; split
          · cases l[n.toNat]? with
            | none => rfl
            | some b => simp only [withA]; cases Nat.beq b.cells.length esz <;> rfl
          · rfl
      | gs g sz o len =>
        simp only [elemV]
        cases Nat.beq sz esz with
        | false => rfl
        | true => simp only [cond_true]; split <;> rfl
      | _ => rfl
    | _ => rfl
  | load ks agg root x =>
    simp only [semR, sem]
    cases hx : rdO rd x with
    | v a f =>
      cases a with
      | ep cs => rfl
      | gp g o =>
        simp only [loadC, withBox]
        cases root with
        | some r => rfl
        | none =>
          simp only [sgOf]
          cases rd .g with
          | sg sg =>
            simp only [withO_withO]
            cases sg[g]? with
            | none => rfl
            | some B => simp only [withO]; cases B.cells.isEmpty <;> rfl
          | _ => rfl
      | _ => cases root <;> rfl
    | lp b o => rfl
    | ls _ _ _ => cases root <;> rfl
  | store n root a x =>
    simp only [semR]
    cases hx : rdO rd a with
    | v p f =>
      simp only [sem, hx]
      cases p with
      | gp g o =>
        cases root with
        | some r => simp only [storeG, withBox]; cases rdA rd x <;> rfl
        | none =>
          simp only [storeG, withBox, sgOf]
          cases hg : rd .g with
          | sg sg =>
            simp only [withO_withO]
            cases hB : sg[g]? with
            | none => cases rdA rd x <;> rfl
            | some B =>
              simp only [withO]
              cases B.cells.isEmpty with
              | true => cases rdA rd x <;> rfl
              | false =>
                simp only [cond_false]
                cases rdA rd x with
                | none => rfl
                | some v =>
                  simp only [withA, bindL]
                  cases Nat.beq v.cells.length n with
                  | false => rfl
                  | true =>
                    simp only [cond_true]
                    cases Nat.ble (o + n) B.cells.length <;> rfl
          | _ => cases rdA rd x <;> rfl
      | _ => cases root <;> (simp only [storeG, withBox]; cases rdA rd x <;> rfl)
    | lp b o => simp only [sem, hx]
    | ls _ _ _ => simp only [sem, hx]; cases root <;> rfl
  | lenL x =>
    simp only [semR, sem]
    cases rdO rd x with
    | v a f =>
      cases a with
      | «at» v => cases v <;> rfl
      | _ => rfl
    | _ => rfl
  | sliceV esz x lo hi =>
    simp only [semR, sem]
    cases rdA rd x with
    | none => rfl
    | some a =>
      simp only [withA]
      cases a with
      | sl nn sz xs => simp only [lenZ]; cases Nat.beq sz esz <;> rfl
      | gs g sz o n =>
        simp only [lenZ]
        cases Nat.beq sz esz with
        | false => rfl
        | true =>
          simp only [cond_true, withO]
          congr 1; funext l h
          simp only [cutV]
          by_cases hl : l < h
          · simp only [if_pos hl]
          · simp only [if_neg hl]; cases Nat.beq l 0 <;> rfl
      | _ => rfl
  | nilCk x =>
    simp only [semR, sem]
    cases rdO rd x with
    | v a f => cases a <;> rfl
    | _ => rfl
  | call f args ks => simp only [semR, sem, withArgs_eq] <;> rfl
  | callR f args ks => simp only [semR, sem, withArgs_eq] <;> rfl
  | callP f args ks => simp only [semR, sem, withArgs_eq] <;> rfl
  | callD f args ks => simp only [semR, sem, withArgs_eq] <;> rfl
  | callV f args ks =>
    simp only [semR, sem, withLoop_eq]
    cases rdA rd f with
    | none => rfl
    | some a =>
      simp only [withA]
      cases a with
      | clo fid first cap => simp only [isYl, cloV, cond_false, withO, withArgs_eq] <;> rfl
      | yl g => simp only [isYl, ylV, cond_true, withO, withArgs_eq] <;> rfl
      | _ => rfl
  | buildSl esz xs => simp only [semR, sem, withArgs_eq] <;> rfl
  | mapGet str zero agg ok m k =>
    simp only [semR, sem, withM_eq]
    congr 1; funext k
    cases keyV str k with
    | false => rfl
    | true =>
      simp only [cond_true]; congr 1; funext m; congr 1; funext p; congr 1; funext r
      cases ok <;> cases r <;> rfl
  | mapSet str m k v => simp only [semR, sem, withM_eq] <;> rfl
  | mapDel str m k => simp only [semR, sem, withM_eq] <;> rfl
  | mapLen m => simp only [semR, sem, withM_eq] <;> rfl
  | mapClr m => simp only [semR, sem, withM_eq] <;> rfl
  | appendH ty esz bytes x y =>
    simp only [semR, sem]
    cases rdA rd y with
    | none => rfl
    | some b =>
      simp only [withA, flatG_eq]
      congr 1; funext p
      obtain ⟨m, fl⟩ := p
      simp only []
      cases Nat.beq m 0 with
      | true =>
        simp only [cond_true]
        cases rdO rd x with
        | v a f =>
          cases a with
          | gs g sz o n => simp only [app0]; cases Nat.beq sz esz <;> rfl
          | _ => rfl
        | _ => rfl
      | false =>
        simp only [cond_false]
        split
        · cases rdO rd x with
          | v a f =>
            cases hg : rd .g with
            | sg sg =>
              simp only []
              cases a with
              | sl nn sz l => cases nn <;> cases l <;> rfl
              | e0 b => cases b <;> rfl
              | gs g sz o n =>
                simp only [app1]
                cases Nat.beq sz esz && (Nat.beq o 0 || (ty.isNone && Nat.blt 0 (n * esz))) with
                | false => rfl
                | true =>
                  simp only [cond_true, withO_withO]
                  congr 1; funext B
                  cases okT ty B && (Nat.beq B.cells.length (o + n * esz) && Nat.blt 0 B.cells.length) with
                  | false => rfl
                  | true => simp only [cond_true]; split <;> rfl
              | _ => rfl
            | _ => cases a <;> first | rfl | (rename_i nn sz l; cases nn <;> cases l <;> rfl) | (rename_i b; cases b <;> rfl)
          | _ => rfl
        · rfl
  | toStrG x =>
    simp only [semR, sem]
    cases rdA rd x with
    | none => rfl
    | some a => simp only [withA, flatG_eq]
  | copyG esz x y =>
    simp only [semR, sem]
    cases rdA rd y with
    | none => rfl
    | some b =>
      simp only [withA, flatG_eq]
      congr 1; funext p
      obtain ⟨m, fl⟩ := p
      cases rdA rd x with
      | none => rfl
      | some a =>
        simp only []
        cases hg : rd .g with
        | sg sg =>
          simp only []
          cases a with
          | gs g sz o n =>
            simp only [copyV]
            cases Nat.beq sz esz with
            | false => rfl
            | true =>
              simp only [cond_true, withO_withO]
              congr 1; funext B
              cases Nat.ble (o + n * esz) B.cells.length && Nat.blt 0 B.cells.length <;> rfl
          | _ => rfl
        | _ => (cases a with
          | gs g sz o n => simp only [copyV]; cases Nat.beq sz esz <;> rfl
          | _ => rfl)
  | _ => rfl
theorem ranged_old (C : CallF) (N n : Nat) (f : Operand) (live : List Nat) (st : St) (k : Ex → St → R) : evalC C N (.ranged n f live) st k = (match rdA st f with
    | some (.clo fid first cap) => (match st .g with
      | .sg sg => withOut (callC C fid (first ++ (.yl sg.length :: cap)) (sg ++ [.loop n (live.map (plainAt st)) 0]))
          (fun _ sg2 => match sg2[sg.length]? with
            | some (.loop _ _ 0) => k .normal (upd st .g (.sg (sg2.set sg.length (.mk []))))
            | some (.loop _ _ 2) => k .ret (upd st .g (.sg (sg2.set sg.length (.mk []))))
            | some (.loop _ _ (p + 3)) => k (.exit p) (upd st .g (.sg (sg2.set sg.length (.mk []))))
            | _ => none)
          (fun v sg2 => some (.pan v sg2))
      | _ => none)
    | _ => none) := by
  simp only [evalC]
  cases rdA st f with
  | none => rfl
  | some a =>
    cases a with
    | clo fid first cap =>
      simp only [withA, cloV, withO, bindL]
      cases st .g with
      | sg sg =>
        simp only []
        congr 1
        funext v sg2
        simp only [loopW]
        cases sg2[sg.length]? with
        | none => rfl
        | some B =>
          cases B with
          | loop k' sv p =>
            simp only [withO]
            match p with
            | 0 => rfl
            | 1 => rfl
            | 2 => rfl
            | p + 3 => rfl
          | _ => rfl
      | _ => rfl
    | _ => rfl
theorem endY_old (g n : Nat) (b : Bool) (st : St) : endY g n b st = (match st .g with
  | .sg sg => match sg[g]? with
    | some (.loop k sv 1) => some (.ret (.at (.bool b)) (sg.set g (.loop k sv n)))
    | _ => none
  | _ => none) := by
  unfold endY loopE
  cases st .g with
  | sg sg =>
    simp only []
    cases sg[g]? with
    | none => rfl
    | some B =>
      cases B with
      | loop k sv p =>
        match p with
        | 0 => rfl
        | 1 => rfl
        | p + 2 => rfl
      | _ => rfl
  | _ => rfl
theorem beginY_old (C : CallF) (N : Nat) (y : AYield) (g : Nat) (st : St) : beginY C N y g .normal st = (match st .g with
    | .sg sg => match sg[g]? with
      | some (.loop k sv 0) => evalC C N y.body (upd st .g (.sg (sg.set g (.loop k sv 1)))) (finishY g)
      | _ => none
    | _ => none) := by
  cases hg : st .g with
  | sg sg =>
    simp only [beginY, loopS, hg]
    cases sg[g]? with
    | none => rfl
    | some B =>
      cases B with
      | loop k sv p =>
        match p with
        | 0 => rfl
        | p + 1 => rfl
      | _ => rfl
  | _ => simp only [beginY, hg]
end Go.Abs
namespace Go.Abs
variable [YTab]
structure Pol where
  glob : List Nat := []
  pure : List Nat := []
  heap : List Nat := []
  gret : List Nat := []
  ro : List Nat := []
  mva : List Nat := []
  root : List (Nat × Nat) := []
  live : List (List Nat × List Nat) := []
  rs : List Nat := []
  lo : List (Nat × List (Nat × Nat)) := []
  typed : List TypeId := []
  jn : List (Nat × List Nat) := []
def Pol.inHeap (p : Pol) (x : Nat) : Bool := p.heap.contains x || p.heap.contains 999999
def Pol.dHeap (p : Pol) (d : Option Nat) : Bool := match d with
  | some d => p.inHeap d
  | none => false
def rootOf (p : Pol) : Operand → Option Nat
  | .tmp t => (p.root.find? (·.1 == t)).map (·.2)
  | _ => none
def isAggT (P : Program) (t : TypeId) : Option Bool := match P.underlying t with
  | some (.struct _) | some (.array _ _) => some true
  | some _ => some false
  | none => none
def sizeT (P : Program) (t : TypeId) : Option Nat := (P.info? t).map (·.size)
def bytesT (P : Program) (t : TypeId) : Option Nat := (P.info? t).map (·.bytes)
def kindsT (P : Program) : Nat → TypeId → Option (List CK)
  | 0, _ => none
  | n + 1, t => match P.underlying t with
    | some (.int k) => some [.int k]
    | some .bool => some [.bool]
    | some .string => some [.str]
    | some (.slice e) => (sizeT P e).map fun s => [.sl s]
    | some (.struct fs) => (fs.toList.mapM fun f => kindsT P n f.type).map List.flatten
    | some (.array len e) => (kindsT P n e).map fun ks => (List.replicate len ks).flatten
    | some _ => some [.any]
    | none => none
def kinds (P : Program) (t : TypeId) : Option (List CK × Bool) := match kindsT P 20 t, isAggT P t, sizeT P t with
  | some ks, some a, some n => if ks.length = n then some (ks, a) else none
  | _, _, _ => none
def resKinds (P : Program) (t : TypeId) : Option (List CK) := match P.underlying t with
  | some (.tuple ts) => (ts.toList.mapM fun t => match kinds P t with
      | some ([k], false) => some k
      | some (_, true) => some .ag
      | some _ => some .any
      | none => none)
  | _ => match kinds P t with
    | some ([k], false) => some [k]
    | some (_, true) => some [.ag]
    | some _ => some [.any]
    | none => none
def looseK (on : Bool) (ks : List CK) : List CK := if on then ks.map fun k => match k with | .sl _ => .any | k => k else ks
def zeroCells : List CK → List Value → Option (List AVal)
  | [], [] => some []
  | .sl sz :: ks, .slice none 0 0 :: vs => (zeroCells ks vs).map (.sl true sz [] :: ·)
  | .sl _ :: _, _ :: _ => none
  | _ :: ks, v :: vs => if one v then (zeroCells ks vs).map (.at v :: ·) else none
  | _, _ => none
def zeroT (P : Program) (t : TypeId) : Option (List AVal) := match kinds P t, (P.info? t).bind (·.zero) with
  | some (ks, _), some z => zeroCells ks z.cells.toList
  | _, _ => none
def fieldT (P : Program) (t : TypeId) (f : Nat) : Option (Nat × List CK × Bool) := match P.underlying t with
  | some (.struct fs) => match fs[f]? with
    | some x => match kinds P x.type with
      | some (ks, a) => some (x.offset, ks, a)
      | _ => none
    | none => none
  | _ => none
def placesT (P : Program) (t : TypeId) (parts : List (Nat × Operand)) : Option (List (Nat × Nat × Operand)) := match P.underlying t with
  | some (.struct fs) => if ∀ f ∈ fs.toList, (sizeT P f.type).isSome = true then (parts.mapM fun (x : Nat × Operand) => match fs[x.1]? with
    | some f => (sizeT P f.type).map fun n => (f.offset, n, x.2)
    | none => none) else none
  | some (.array _ e) => match sizeT P e with
    | some n => some (parts.map fun (i, x) => (i * n, n, x))
    | none => none
  | _ => none
def zeroShape (P : Program) (t : TypeId) (g : Bool) : Bool := match (P.info? t).bind (·.zero) with
  | some (.agg _) => g
  | some v => !g && one v
  | none => false
def fieldsK (g : TypeId → Option (List CK)) (P : Program) : List Field → Nat → Option (List CK)
  | [], _ => some []
  | f :: fs, off => if f.name ≠ "_" ∧ f.offset = off then (match g f.type with
    | some ks => if ks.length = P.cellsOf f.type then (match fieldsK g P fs (off + ks.length) with
      | some r => some (ks ++ r)
      | none => none) else none
    | none => none) else none
def eqK (P : Program) : Nat → TypeId → Option (List CK)
  | 0, _ => none
  | d + 1, t => match P.underlying t with
    | some (.int k) => some [.int k]
    | some .bool => some [.bool]
    | some .string => some [.str]
    | some (.array n e) => match eqK P d e with
      | some ks => if ks.length = P.cellsOf e then some ((List.replicate n ks).flatten) else none
      | none => none
    | some (.struct fs) => if P.stoodInHeld t = true then none else fieldsK (eqK P d) P fs.toList 0
    | _ => none
def flatF (P : Program) (fs : List Field) : Bool := fs.all fun f => match P.underlying f.type with
  | some (.int _) => true
  | some .string => true
  | _ => false
def mapT (P : Program) (t : TypeId) : Option (KK × List AVal × Bool) := match P.underlying t with
  | some (.map k e) => match P.underlying k, zeroT P e, isAggT P e with
    | some (.int _), some z, some g => if zeroShape P e g = true then some (.i, z, g) else none
    | some .string, some z, some g => if zeroShape P e g = true then some (.s, z, g) else none
    | some (.struct fs), some z, some g => if zeroShape P e g = true ∧ flatF P fs.toList = true then (match eqK P 20 k with
      | some ks => some (.a ks, z, g)
      | none => none) else none
    | _, _, _ => none
  | _ => none
def builtinOp (P : Program) (p : Pol) (d : Option Nat) (b : Builtin) (args : List Operand) (tys : List TypeId) : Option AOp := match b, args, tys with
  | .len, [x], [t] => match P.underlying t with
    | some .string => some (.lenS x)
    | some (.slice _) => some (.lenL x)
    | some (.array n _) => some (.lenA n)
    | some (.map _ _) => some (.mapLen x)
    | _ => none
  | .clear, [x], [t] => match P.underlying t with
    | some (.map _ _) => some (.mapClr x)
    | _ => none
  | .delete, [m, k], [t, _] => (mapT P t).map fun x => .mapDel x.1 m k
  | .copy, [x, y], [t, _] => match P.underlying t with
    | some (.slice e) => (sizeT P e).map fun n => .copyG n x y
    | _ => none
  | .max, xs, _ => some (.minmax true xs)
  | .min, xs, _ => some (.minmax false xs)
  | .append, [.tmp x, y], [t, t2] => match P.underlying t with
    | some (.slice e) => match sizeT P e, bytesT P e, zeroT P e with
      | some n, some b, some _ => if 0 < b then (match P.underlying t2 with
        | some .string | some (.slice _) => if p.inHeap x then some (.appendH (if p.typed.contains e then some e else none) n b (.tmp x) y) else some (.append n b x y)
        | _ => none) else none
      | _, _, _ => none
    | _ => none
  | _, _, _ => none
def nilK : Operand → Option Nat
  | .const (.slice none 0 0) => some 0
  | .const (.pointer none) => some 1
  | .const .nilFunc => some 2
  | _ => none
def nilT (P : Program) (t : TypeId) : Option Nat := match P.underlying t with
  | some (.slice _) => some 0
  | some (.pointer _) => some 1
  | some (.func _ _ _) => some 2
  | _ => none
def eqOp (P : Program) (neg : Bool) (t : TypeId) (x y : Operand) : Option AOp := match P.underlying t with
  | some (.int _) | some .string => some (.bin (if neg then .neq else .eql) x y)
  | some (.slice _) | some (.pointer _) | some (.func _ _ _) => match nilT P t with
    | some k => if nilK y = some k then some (.nilCmp neg k x) else if nilK x = some k then some (.nilCmp neg k y) else none
    | none => none
  | some .bool => some (.eqA neg [.bool] t x y)
  | some (.struct _) | some (.array _ _) => match eqK P 20 t with
    | some ks => if P.eqGuardType P.depth t = false ∧ ks.length ≠ 1 then some (.eqA neg ks t x y) else none
    | none => none
  | _ => none
def compOp (P : Program) (p : Pol) (o : Oper) : Option AOp := match o.op with
  | .move (.tmp x) | .assign (.tmp x) => match o.dst with
    | some d => if p.mva.contains d ∧ d ≠ x then some (.movA x) else some (.mov (.tmp x))
    | none => none
  | .move (.const (.slice none 0 0)) | .assign (.const (.slice none 0 0)) => match P.underlying o.type with
    | some (.slice e) => (sizeT P e).map .nilS
    | _ => none
  | .move x | .assign x => some (.mov x)
  | .pick c a b => some (.pick c a b)
  | .binOp .eql t x y _ => eqOp P false t x y
  | .binOp .neq t x y _ => eqOp P true t x y
  | .binOp op t x y _ => some (.bin op x y)
  | .unOp op _ x => some (.un op x)
  | .convert src dst x => match P.underlying src, P.underlying dst with
    | some (.int _), some (.int k) => some (.convI k x)
    | some .string, some .string => some (.convS x)
    | some .string, some (.slice e) => if P.underlying e matches some (.int .u8) then some (.toBytes x) else none
    | some (.slice e), some .string => if P.underlying e matches some (.int .u8) then (if (rootOf p x).isNone ∧ p.heap.contains 999999 = true then some (.toStrG x) else some (.toStr (rootOf p x) x)) else none
    | _, _ => none
  | .field t x f => (fieldT P t f).map fun (off, ks, a) => .field off ks a x
  | .extract x i => some (.extract x i)
  | .index t x i => match P.underlying t with
    | some (.array len e) => match kinds P e with
      | some (ks, a) => some (.indexA len ks.length ks a x i)
      | _ => none
    | some .string => some (.indexS x i)
    | _ => none
  | .build t parts => match zeroT P t, placesT P t parts.toList with
    | some z, some ps => if ps.all (fun q => decide (q.1 + q.2.1 ≤ z.length)) = true then some (.build z ps) else none
    | _, _ => none
  | .box t x => match o.dst with
    | some d => if p.glob.contains d then some (.boxG x) else some (.boxL x)
    | none => none
  | .alloc t => match o.dst, zeroT P t with
    | some d, some z => if p.glob.contains d then some (.allocG (if p.typed.contains t then some t else none) z) else some (.allocL z)
    | _, _ => none
  | .fieldAddr t x f => match fieldT P t f with
    | some (off, ks, _) => if ks.length = 0 then none else some (.addr off x)
    | none => none
  | .indexAddr t x i => match P.underlying t with
    | some (.array len e) => (sizeT P e).map fun n => .indexAddrA len n x i
    | some (.slice e) => match kinds P e with
      | some (ks, a) => some (.indexAddrS ks.length x i)
      | none => none
    | _ => none
  | .load t x => match kinds P t with
    | some (ks, a) => some (.load ks a (rootOf p x) x)
    | none => none
  | .store t a x => if o.dst = none then (sizeT P t).map fun n => .store n (rootOf p a) a x else none
  | .slice t x lo hi none => match P.underlying t with
    | some .string => some (.sliceS x lo hi)
    | some (.slice e) => (sizeT P e).map fun s => .sliceV s x lo hi
    | some (.array n e) => (sizeT P e).map fun s => .sliceA n s (rootOf p x) x lo hi
    | _ => none
  | .slice t x lo (some hi) (some mx) => match P.underlying t with
    | some (.slice e) => (sizeT P e).map fun s => .sliceX s x lo hi mx
    | _ => none
  | .buildSlice t n parts => match P.underlying t with
    | some (.slice e) => match sizeT P e, zeroT P e with
      | some s, some _ => if parts.toList.map (·.1) = List.range n ∧ n * s ≤ 2 ^ 24 ∧ 0 < s then (if p.dHeap o.dst then (if n = 0 then some .mkE0 else some (.buildG s (parts.toList.map (·.2)))) else some (.buildSl s (parts.toList.map (·.2)))) else none
      | _, _ => none
    | _ => none
  | .makeSlice t n c => match P.underlying t with
    | some (.slice e) => match sizeT P e, bytesT P e, zeroT P e, isAggT P e with
      | some s, some b, some z, some g => if 0 < b ∧ (g = false → s = 1) then (if p.dHeap o.dst then some (.makeG s b z n c) else some (.makeV s b z g n c)) else none
      | _, _, _, _ => none
    | _ => none
  | .call c => match c.callee with
    | .builtin b => builtinOp P p o.dst b c.args.toList c.argTypes.toList
    | .value (.func f) => if p.pure.contains f then (if p.gret.contains f then (resKinds P o.type).map (.callD f c.args.toList) else (resKinds P o.type).map (.callP f c.args.toList)) else if p.ro.contains f = true ∧ YTab.ro f = true then ((resKinds P o.type).map (looseK true)).map (.callR f c.args.toList) else ((resKinds P o.type).map (looseK true)).map (.call f c.args.toList)
    | .value x => (resKinds P o.type).map (.callV x c.args.toList)
    | _ => none
  | .makeFunc (.func f) first cap => some (.makeFunc f first.toList cap.toList)
  | .nilCheck x => some (.nilCk x)
  | .makeInterface t x => match P.underlying t with
    | some (.interface _) => none
    | some _ => some (.mkIfc t x)
    | none => none
  | .panic x => some (.panicI x)
  | .makeMap _ none => some .mkMap
  | .lookup t m k ok => (mapT P t).map fun x => .mapGet x.1 x.2.1 x.2.2 ok m k
  | .mapUpdate t m k v | .insert t m k v => (mapT P t).map fun x => .mapSet x.1 m k v
  | _ => none
def compOpB (P : Program) (p : Pol) (o : Oper) : Option AOp := match compOp P p o with
  | some a => some a
  | none => some .bad
def compI (P : Program) (p : Pol) (ops : Array Oper) (o : Oper) : Option AI :=
  match compOpB P p o with
  | some a => match o.guard with
    | none => some ⟨none, o.dst, a⟩
    | some (j, b) => match (ops[j]?).bind (·.dst) with
      | some t => some ⟨some (t, b), o.dst, a⟩
      | none => none
  | none => none
def compIs (P : Program) (p : Pol) (ops : Array Oper) : List Oper → Option (List AI)
  | [] => some []
  | o :: l => match compI P p ops o, compIs P p ops l with
    | some a, some as => some (a :: as)
    | _, _ => none
def jnOf (p : Pol) : Operand → Option (Nat × List Nat)
  | .tmp t => p.jn.find? fun q => Nat.beq q.1 t
  | _ => none
def compC (P : Program) (p : Pol) : Code → List (List Nat × List Nat) → Option (ACode × List (List Nat × List Nat))
  | .skip, lv => some (.skip, lv)
  | .region id ops draw, lv => (compIs P p ops ops.toList).map fun is => (match p.lo.find? (fun q => Nat.beq q.1 id) with
    | some q => .regionL is q.2
    | none => .region is draw, lv)
  | .seq a b, lv => match compC P p a lv with
    | some (a', lv) => match compC P p b lv with
      | some (b', lv) => some (.seq a' b', lv)
      | none => none
    | none => none
  | .cond c a b, lv => match compC P p a lv with
    | some (a', lv) => match compC P p b lv with
      | some (b', lv) => some (.cond c a' b' (jnOf p c), lv)
      | none => none
    | none => none
  | .block id c, lv => match compC P p c lv with
    | some (c', lv) => some (.block id c', lv)
    | none => none
  | .loop c, lv => match lv with
    | l :: lv => match compC P p c lv with
      | some (c', lv) => some (.loop l.1 l.2 p.rs c', lv)
      | none => none
    | [] => none
  | .exit id, lv => some (.exit id, lv)
  | .ret, lv => some (.ret, lv)
  | .rangeFunc f _ _ _, lv => match lv with
    | (live, [k]) :: lv => some (.ranged k f live, lv)
    | _ => none
  | _, _ => none
def dstOk (n : Nat) : ACode → Bool
  | .region is _ | .regionL is _ => is.all fun i => (i.dst.all (· < n)) && (match i.op with | .movA x => decide (x < n) | .append _ _ x _ => decide (x < n) | _ => true)
  | .seq a b | .cond _ a b _ => dstOk n a && dstOk n b
  | .block _ c | .loop _ _ _ c => dstOk n c
  | _ => true
def compRes (P : Program) : List ResultVar → Option (List ARes)
  | [] => some []
  | .tmp t :: l => (compRes P l).map (.tmp t :: ·)
  | .cell a t :: l => match kinds P t, compRes P l with
    | some (ks, g), some r => some (.cell a ks g :: r)
    | _, _ => none
def compF (P : Program) (p : Pol) (f : Func) : Option AFun := match f.body with
  | some c => match compC P p c p.live, compRes P f.results.toList with
    | some (c', []), some r => if dstOk f.ntmps c' ∧ f.params.size + f.nfree ≤ f.ntmps then some ⟨f.params.size + f.nfree, r, c'⟩ else none
    | _, _ => none
  | none => none
def ins (x : Nat) : List Nat → List Nat
  | [] => [x]
  | y :: l => if x < y then x :: y :: l else if x = y then y :: l else y :: ins x l
end Go.Abs
namespace Go.Abs
set_option linter.unusedVariables false
variable [YTab]
abbrev Fz := Addr → Option Value
abbrev Iot := Nat → Option (Nat × Nat × Nat)
inductive VR (Z : Fz) (ι : Iot) : AVal → Value → Prop
  | at {v : Value} (h : one v = true) : VR Z ι (.at v) v
  | agg {cs : List AVal} {arr : Array Value} (hl : cs.length = arr.size)
      (h : ∀ (i : Nat) a v, cs[i]? = some a → arr[i]? = some v → VR Z ι a v) (h1 : ∀ (i : Nat) (v : Value), arr[i]? = some v → one v = true) : VR Z ι (.agg cs) (.agg arr)
  | tup {vs : List AVal} {arr : Array Value} (hl : vs.length = arr.size) (h : ∀ (i : Nat) a v, vs[i]? = some a → arr[i]? = some v → VR Z ι a v) : VR Z ι (.tup vs) (.tuple arr)
  | nil {sz : Nat} : VR Z ι (.sl true sz []) (.slice none 0 0)
  | sl {sz : Nat} {l : List AVal} {b off cap n : Nat} (vals : Nat → Value) (hn : n = l.length) (hcap : n ≤ cap) (hsz : ∀ a ∈ l, a.cells.length = sz)
      (hz : ∀ j, j < n * sz → Z ⟨b, off + j, none⟩ = some (vals j))
      (h : ∀ (i j : Nat) a c, l[i]? = some a → a.cells[j]? = some c → VR Z ι c (vals (i * sz + j)))
      (hagg : ∀ a ∈ l, (∃ cs, a = .agg cs) ∨ (a.cells = [a] ∧ ∀ vs, a ≠ .tup vs)) : VR Z ι (.sl false sz l) (.slice (some ⟨b, off, none⟩) n cap)
  | ep {cs : List AVal} {b off : Nat} (vals : Nat → Value) (hz : ∀ j, j < cs.length → Z ⟨b, off + j, none⟩ = some (vals j))
      (h : ∀ (j : Nat) c, cs[j]? = some c → VR Z ι c (vals j)) : VR Z ι (.ep cs) (.pointer (some ⟨b, off, none⟩))
  | gp {g off : Nat} {b : Nat × Nat × Nat} (h : ι g = some b) : VR Z ι (.gp g off) (.pointer (some ⟨b.1, b.2.1 + off, none⟩))
  | gs {g sz off len cap : Nat} {b : Nat × Nat × Nat} (h : ι g = some b) (hc : len ≤ cap) (hr : off + cap * sz ≤ b.2.2) : VR Z ι (.gs g sz off len) (.slice (some ⟨b.1, b.2.1 + off, none⟩) len cap)
  | e0 {full : Bool} {b off cap : Nat} (h : full = true → cap = 0) : VR Z ι (.e0 full) (.slice (some ⟨b, off, none⟩) 0 cap)
  | gm {g : Nat} {b : Nat × Nat × Nat} (h : ι g = some b) : VR Z ι (.gm g) (.map (some b.1))
  | yl {g : Nat} {b : Nat × Nat × Nat} (h : ι g = some b) : VR Z ι (.yl g) (.func (.yield b.1) #[] #[])
  | clo {f : FuncId} {first cap : List AVal} {vf vc : Array Value} (hl : first.length = vf.size) (h : ∀ (i : Nat) a v, first[i]? = some a → vf[i]? = some v → VR Z ι a v)
      (hl2 : cap.length = vc.size) (h2 : ∀ (i : Nat) a v, cap[i]? = some a → vc[i]? = some v → VR Z ι a v) (ht : ∀ a ∈ first ++ cap, ∀ vs, a ≠ .tup vs) : VR Z ι (.clo f first cap) (.func (.func f) vf vc)
  | ifc {t : TypeId} {a : AVal} {v : Value} (h : VR Z ι a v) : VR Z ι (.ifc t a) (.iface t v)
theorem VR.gp_add {Z : Fz} {ι : Iot} {g off k : Nat} {b : Nat × Nat × Nat} (h : ι g = some b) : VR Z ι (.gp g (off + k)) (.pointer (some ⟨b.1, b.2.1 + off + k, none⟩)) := by
  rw [Nat.add_assoc]; exact .gp h
theorem VR.gs_add {Z : Fz} {ι : Iot} {g sz off k len cap : Nat} {b : Nat × Nat × Nat} (h : ι g = some b) (hc : len ≤ cap) (hr : off + k + cap * sz ≤ b.2.2) : VR Z ι (.gs g sz (off + k) len) (.slice (some ⟨b.1, b.2.1 + off + k, none⟩) len cap) := by
  rw [Nat.add_assoc]; exact .gs h hc hr
theorem VR.mono {Z Z' : Fz} {ι ι' : Iot} (hZ : ∀ a v, Z a = some v → Z' a = some v) (hι : ∀ g b, ι g = some b → ι' g = some b) {a : AVal} {v : Value} (h : VR Z ι a v) : VR Z' ι' a v := by
  induction h with
  | «at» h => exact .at h
  | agg hl _ h1 ih => exact .agg hl ih h1
  | tup hl _ ih => exact .tup hl ih
  | nil => exact .nil
  | sl vals hn hcap hsz hz _ hagg ih => exact .sl vals hn hcap hsz (fun j hj => hZ _ _ (hz j hj)) ih hagg
  | ep vals hz _ ih => exact .ep vals (fun j hj => hZ _ _ (hz j hj)) ih
  | gp h => exact .gp (hι _ _ h)
  | gs h hc hr => exact .gs (hι _ _ h) hc hr
  | e0 h => exact .e0 h
  | gm h => exact .gm (hι _ _ h)
  | yl h => exact .yl (hι _ _ h)
  | clo hl _ hl2 _ ht ih ih2 => exact .clo hl ih hl2 ih2 ht
  | ifc _ ih => exact .ifc ih
theorem VR.cells {Z : Fz} {ι : Iot} {a : AVal} {v : Value} (h : VR Z ι a v) (ht : ∀ vs, a ≠ .tup vs) :
    v.cells.size = a.cells.length ∧ ∀ (j : Nat) c, a.cells[j]? = some c → ∃ u, v.cells[j]? = some u ∧ VR Z ι c u ∧ one u = true := by
  have single : ∀ {a : AVal} {v : Value}, VR Z ι a v → a.cells = [a] → v.cells = #[v] → one v = true →
      v.cells.size = a.cells.length ∧ ∀ (j : Nat) c, a.cells[j]? = some c → ∃ u, v.cells[j]? = some u ∧ VR Z ι c u ∧ one u = true := by
    intro a v h ha hv h1
    refine ⟨by simp [ha, hv], fun j c hc => ?_⟩
    rw [ha] at hc
    cases j with
    | zero => simp at hc; subst hc; exact ⟨v, by simp [hv], h, h1⟩
    | succ j => simp at hc
  cases h with
  | «at» h =>
    exact single (.at h) rfl (by cases v <;> first | rfl | simp [one] at h) h
  | agg hl h h1 =>
    refine ⟨by simp [Value.cells, AVal.cells, hl], fun j c hc => ?_⟩
    have hj : j < _ := (List.getElem?_eq_some_iff.1 hc).1
    simp only [AVal.cells] at hj hc
    rw [hl] at hj
    refine ⟨_, Array.getElem?_eq_getElem hj, h j _ _ hc (Array.getElem?_eq_getElem hj), h1 j _ (Array.getElem?_eq_getElem hj)⟩
  | tup => exact absurd rfl (ht _)
  | nil => exact single .nil rfl rfl rfl
  | sl vals hn hcap hsz hz h hagg => exact single (.sl vals hn hcap hsz hz h hagg) rfl rfl rfl
  | ep vals hz h => exact single (.ep vals hz h) rfl rfl rfl
  | gp h => exact single (.gp h) rfl rfl rfl
  | gs h hc hr => exact single (.gs h hc hr) rfl rfl rfl
  | e0 h => exact single (.e0 h) rfl rfl rfl
  | gm h => exact single (.gm h) rfl rfl rfl
  | yl h => exact single (.yl h) rfl rfl rfl
  | clo hl h hl2 h2 htt => exact single (.clo hl h hl2 h2 htt) rfl rfl rfl
  | ifc h => exact single (.ifc h) rfl rfl rfl
inductive Owner where
  | slot (i : Nat)
  | lbox (s : Nat)
  | gbox (g : Nat)
  deriving DecidableEq
structure Gh where
  Z : Fz
  ι : Iot
  lm : Nat → Option Nat
  own : Nat → Option Owner
def Free (Z : Fz) (w : World) (b e m : Nat) : Prop :=
  ∃ arr T fr, w.heap[b]? = some (.cells arr T fr) ∧ m ≤ arr.size ∧ (∀ j, e ≤ j → Z ⟨b, j, none⟩ = none) ∧ (∀ j, e ≤ j → j < m → ¬ (fr.1 ≤ j ∧ j < fr.2))
def Claim (G : Gh) (w : World) (o : Owner) (sz : Nat) (v : Value) : Prop :=
  v = .slice none 0 0 ∨ ∃ b off n cap, v = .slice (some ⟨b, off, none⟩) n cap ∧ G.own b = some o ∧ Free G.Z w b (off + n * sz) (off + cap * sz)
def BoxR (G : Gh) (w : World) (B : Box) (b : Nat) (k : Nat := 0) : Prop :=
  ∃ arr T fr, w.heap[b]? = some (.cells arr T fr) ∧ (k + B.cells.length ≤ arr.size ∧ (k = 0 ∨ (2 ≤ B.cells.length ∧ B.obj = false))) ∧ (∀ j, j < arr.size → ¬ (fr.1 ≤ j ∧ j < fr.2)) ∧
    ∀ (j : Nat) c, B.cells[j]? = some c → ∃ u, arr[k + j]? = some u ∧ VR G.Z G.ι c u ∧ one u = true
@[simp] theorem Box.cells_mk (cs : List AVal) : (Box.mk cs).cells = cs := rfl
def pendSt : Nat → LoopState
  | 0 => .ready
  | 1 => .busy
  | _ => .done
def pendCode : Nat → Option Code
  | 0 | 1 => none
  | 2 => some .ret
  | n + 3 => some (.exit n)
def EntR (G : Gh) (p : AVal × AVal) (e : MapEntry) : Prop := VR G.Z G.ι p.1 e.key ∧ VR G.Z G.ι p.2 e.val ∧ ∀ vs, p.2 ≠ .tup vs
def ObjR (G : Gh) (w : World) (B : Box) (b : Nat) : Prop := match B with
  | .mk _ => True
  | .tmk t ex cs => ∃ arr fr, w.heap[b]? = some (.cells arr t fr) ∧ (ex = true → arr.size = cs.length)
  | .map es => ∃ arr clk, w.heap[b]? = some (.map arr clk) ∧ es.length = arr.size ∧ (∀ (i : Nat) p e, es[i]? = some p → arr[i]? = some e → EntR G p e) ∧ Go.MapKept.Stamped arr clk
  | .loop k sv p => ∃ y rec, YTab.yt k = some y ∧ w.heap[b]? = some (.loop rec) ∧ rec.params = y.params ∧ rec.assign = y.asg ∧ rec.body = y.body ∧ rec.state = pendSt p ∧ rec.pending = pendCode p ∧ rec.tmps.size = y.nt ∧
      ∀ i a f, mkS.at_s y.live (sv.map fun a => .v a false) i = .sv (.v a f) → f = false ∧ (a = .junk ∨ VR G.Z G.ι a (rec.tmps.getD i undef))
theorem ObjR.mono {G G' : Gh} {w w' : World} {B : Box} {b : Nat} (h : ObjR G w B b) (hw : w'.heap[b]? = w.heap[b]?) (hZ : ∀ a v, G.Z a = some v → G'.Z a = some v) (hι : ∀ g b, G.ι g = some b → G'.ι g = some b) : ObjR G' w' B b := by
  cases B with
  | mk => trivial
  | tmk t ex cs =>
    obtain ⟨arr, fr, h1, h2⟩ := h
    exact ⟨arr, fr, hw.trans h1, h2⟩
  | map es =>
    obtain ⟨arr, clk, h1, h2, h3, hS⟩ := h
    refine ⟨arr, clk, hw.trans h1, h2, fun i p e e1 e2 => ?_, hS⟩
    obtain ⟨k1, k2, k3⟩ := h3 i p e e1 e2
    exact ⟨k1.mono hZ hι, k2.mono hZ hι, k3⟩
  | loop k sv p =>
    obtain ⟨y, rec, h1, h2, h3, h4, h5, h6, h7, h8, h9⟩ := h
    exact ⟨y, rec, h1, hw.trans h2, h3, h4, h5, h6, h7, h8, fun i a f e => ⟨(h9 i a f e).1, (h9 i a f e).2.imp id fun h => h.mono hZ hι⟩⟩
def Room (w : World) (p : Nat × Nat × Nat) : Prop := ∃ arr T fr, w.heap[p.1]? = some (.cells arr T fr) ∧ arr.size = p.2.1 + p.2.2
theorem Room.same {w w' : World} {p : Nat × Nat × Nat} (h : Room w p) (e : w'.heap[p.1]? = w.heap[p.1]?) : Room w' p := by
  obtain ⟨arr, T, fr, h1, h2⟩ := h
  exact ⟨arr, T, fr, e.trans h1, h2⟩
def SlotR (G : Gh) (st : St) (w : World) (i : Nat) (s : Slot) (v : Value) : Prop := match s with
  | .v a f => (a = .junk ∨ VR G.Z G.ι a v) ∧ (f = true → ∃ nn sz l, a = .sl nn sz l ∧ Claim G w (.slot i) sz v)
  | .lp b off => ∃ blk, G.lm b = some blk ∧ (∃ B, st (.l b) = .bx (some B)) ∧ v = .pointer (some ⟨blk, off, none⟩)
  | .ls b off len => ∃ blk cap, G.lm b = some blk ∧ (∃ B, st (.l b) = .bx (some B)) ∧ v = .slice (some ⟨blk, off, none⟩) len cap ∧ len ≤ cap
structure Rel (G : Gh) (nt : Nat) (st : St) (tm : Array Value) (w : World) : Prop where
  size : tm.size = nt
  slots : ∀ i s, st (.s i) = .sv s → SlotR G st w i s (tm.getD i undef)
  lbox : ∀ s B, st (.l s) = .bx (some B) → ∃ b, G.lm s = some b ∧ G.own b = some (.lbox s) ∧ BoxR G w B b
  gbox : ∀ sg, st .g = .sg sg → ∀ (g : Nat) B, sg[g]? = some B → B.cells ≠ [] → ∃ b, G.ι g = some b ∧ G.own b.1 = some (.gbox g) ∧ BoxR G w B b.1 b.2.1 ∧ Room w b
  gdom : ∀ sg, st .g = .sg sg → ∀ g, sg.length ≤ g → G.ι g = none
  gobj : ∀ sg, st .g = .sg sg → ∀ (g : Nat) B, sg[g]? = some B → B.obj = true → ∃ b, G.ι g = some b ∧ G.own b.1 = some (.gbox g) ∧ ObjR G w B b.1
  frz : ∀ a v, G.Z a = some v → w.cell? a = some v ∧ one v = true ∧ ∀ o, G.own a.block = some o → ∃ i, o = .slot i
  ownlt : ∀ b o, G.own b = some o → b < w.heap.size
structure Fr (G : Gh) (w : World) (G' : Gh) (w' : World) : Prop where
  os : w'.os = w.os
  tape : w'.tape = w.tape
  output : w'.output = w.output
  size : w.heap.size ≤ w'.heap.size
  Z : ∀ a v, G.Z a = some v → G'.Z a = some v
  ι : ∀ g b, G.ι g = some b → G'.ι g = some b
  rest : ∀ b, b < w.heap.size → G.own b = none → w'.heap[b]? = w.heap[b]? ∧ G'.own b = none ∧ ∀ j s, G'.Z ⟨b, j, s⟩ = G.Z ⟨b, j, s⟩
theorem Fr.refl (G : Gh) (w : World) : Fr G w G w := ⟨rfl, rfl, rfl, Nat.le_refl _, fun _ _ h => h, fun _ _ h => h, fun _ _ h => ⟨rfl, h, fun _ _ => rfl⟩⟩
theorem Fr.trans {G G' G'' : Gh} {w w' w'' : World} (h : Fr G w G' w') (k : Fr G' w' G'' w'') : Fr G w G'' w'' :=
  ⟨k.os.trans h.os, k.tape.trans h.tape, k.output.trans h.output, Nat.le_trans h.size k.size, fun a v x => k.Z a v (h.Z a v x), fun a v x => k.ι a v (h.ι a v x),
   fun b hb ho => by
    obtain ⟨h1, h2, h3⟩ := h.rest b hb ho
    obtain ⟨k1, k2, k3⟩ := k.rest b (Nat.lt_of_lt_of_le hb h.size) h2
    exact ⟨k1.trans h1, k2, fun j s => (k3 j s).trans (h3 j s)⟩⟩
end Go.Abs
namespace Go.Abs
variable [YTab]
set_option linter.unusedVariables false
set_option linter.unusedSimpArgs false
variable {P : Program} {G : Gh} {nt : Nat} {st : St} {w : World}
theorem wp_val {o : Oper} {a : Act} {w w' : World} {next : Act → World → Prop} {Q : Exit → Act → World → Prop} {v : Value}
    (h : (execOp a.eval o).run P w = .ok (.value v) w') (hn : next (a.put o.dst v) w') : o.wp P a w next Q := by
  unfold Oper.wp; rw [h]; exact hn
theorem wp_skipO {o : Oper} {a : Act} {w w' : World} {next : Act → World → Prop} {Q : Exit → Act → World → Prop}
    (h : (execOp a.eval o).run P w = .ok .skip w') (hn : next (a.put o.dst undef) w') : o.wp P a w next Q := by
  unfold Oper.wp; rw [h]; exact hn
def OpR (G : Gh) (st : St) (s : Slot) (v : Value) : Prop := match s with
  | .v a _ => a = .junk ∨ VR G.Z G.ι a v
  | .lp b off => ∃ blk, G.lm b = some blk ∧ (∃ B, st (.l b) = .bx (some B)) ∧ v = .pointer (some ⟨blk, off, none⟩)
  | .ls b off len => ∃ blk cap, G.lm b = some blk ∧ (∃ B, st (.l b) = .bx (some B)) ∧ v = .slice (some ⟨blk, off, none⟩) len cap ∧ len ≤ cap
theorem SlotR.op {i : Nat} {s : Slot} {v : Value} (h : SlotR G st w i s v) : OpR G st s v := by
  cases s with
  | v a f => exact h.1
  | lp b off => exact h
  | ls b off len => exact h
theorem rdT_rel {tm : Array Value} (R : Rel G nt st tm w) (t : Nat) : OpR G st (rdT st t) (tm.getD t undef) := by
  unfold rdT
  cases h : st (.s t) with
  | sv s => exact (R.slots t s h).op
  | no => exact .inl rfl
  | bx b => exact .inl rfl
  | sg s => exact .inl rfl
theorem ofConst_rel {Z : Fz} {ι : Iot} (v : Value) : ofConst v = .junk ∨ VR Z ι (ofConst v) v := by
  unfold ofConst
  split
  · exact .inr .nil
  · exact .inl rfl
  · exact .inl rfl
  · rename_i h1 h2 h3
    refine .inr (.at ?_)
    cases v <;> first | rfl | exact absurd rfl (h2 _) | exact absurd rfl (h3 _)
theorem rdO_rel {a : Act} (R : Rel G nt st a.tmps w) (x : Operand) : OpR G st (rdO st x) (a.eval x) := by
  cases x with
  | tmp t => exact rdT_rel R t
  | const v => exact ofConst_rel v
  | global g => exact .inl rfl
  | func f => exact .inr (.clo (by simp) (by simp) (by simp) (by simp) (by simp))
theorem rdA_rel {a : Act} (R : Rel G nt st a.tmps w) {x : Operand} {v : AVal} (h : rdA st x = some v) : VR G.Z G.ι v (a.eval x) ∧ (∀ vs, v ≠ .tup vs) := by
  have hr := rdO_rel R x
  unfold rdA at h
  cases hs : rdO st x with
  | v b f =>
    rw [hs] at h hr
    rcases hr with rfl | hr
    · simp [plainA] at h
    · cases b <;> simp [plainA] at h <;> subst h <;> exact ⟨hr, by simp⟩
  | lp => rw [hs] at h; simp at h
  | ls => rw [hs] at h; simp at h
theorem args_rel {a : Act} (R : Rel G nt st a.tmps w) : ∀ {xs : List Operand} {as : List AVal}, args? st xs = some as →
    as.length = xs.length ∧ ∀ (i : Nat) v, as[i]? = some v → ∃ x, xs[i]? = some x ∧ VR G.Z G.ι v (a.eval x) ∧ ∀ vs, v ≠ .tup vs
  | [], as, h => by simp [args?] at h; subst h; simp
  | x :: xs, as, h => by
    simp only [args?] at h
    cases h1 : rdA st x with
    | none => simp [h1] at h
    | some v =>
      cases h2 : args? st xs with
      | none => simp [h1, h2] at h
      | some vs =>
        simp [h1, h2] at h
        subst h
        obtain ⟨hl, hi⟩ := args_rel R h2
        refine ⟨by simp [hl], fun i u hu => ?_⟩
        cases i with
        | zero => simp at hu; subst hu; exact ⟨x, rfl, rdA_rel R h1⟩
        | succ i => simp at hu; simpa using hi i u hu
section
variable {α : Type} {out : α}
theorem withA_some {a : Option AVal} {c : AVal → Option α} (h : withA a c = some out) : ∃ v, a = some v ∧ c v = some out := by
  unfold withA at h; split at h
  · exact ⟨_, rfl, h⟩
  · cases h
theorem withN_some {a : Option AVal} {c : Int → Option α} (h : withN a c = some out) : ∃ k n, a = some (.at (.int k n)) ∧ c n = some out := by
  unfold withN at h; split at h
  · exact ⟨_, _, rfl, h⟩
  · cases h
theorem kEq_iff {a b : IntKind} : kEq a b = true ↔ a = b := by cases a <;> cases b <;> simp [kEq]
theorem withI_some {k : IntKind} {a : Option AVal} {c : Int → Option α} (h : withI k a c = some out) : ∃ n, a = some (.at (.int k n)) ∧ c n = some out := by
  unfold withI at h; split at h
  · rename_i k' n
    cases hk : kEq k' k with
    | true => rw [hk] at h; rw [kEq_iff.1 hk]; exact ⟨n, rfl, h⟩
    | false => rw [hk] at h; cases h
  · cases h
theorem withB_some {a : Option AVal} {c : Bool → Option α} (h : withB a c = some out) : ∃ b, a = some (.at (.bool b)) ∧ c b = some out := by
  unfold withB at h; split at h
  · exact ⟨_, rfl, h⟩
  · cases h
theorem withS_some {a : Option AVal} {c : ByteArray → Option α} (h : withS a c = some out) : ∃ b, a = some (.at (.string b)) ∧ c b = some out := by
  unfold withS at h; split at h
  · exact ⟨_, rfl, h⟩
  · cases h
theorem withG_some {a : Option AVal} {c : List AVal → Option α} (h : withG a c = some out) : ∃ v, a = some (.agg v) ∧ c v = some out := by
  unfold withG at h; split at h
  · exact ⟨_, rfl, h⟩
  · cases h
theorem withK_some {k : CK} {a : Option AVal} {c : AVal → Option α} (h : withK k a c = some out) : ∃ v, a = some v ∧ c v = some out := by
  cases k with
  | int k => obtain ⟨n, h1, h2⟩ := withI_some h; exact ⟨_, h1, h2⟩
  | bool => obtain ⟨n, h1, h2⟩ := withB_some h; exact ⟨_, h1, h2⟩
  | str => obtain ⟨n, h1, h2⟩ := withS_some h; exact ⟨_, h1, h2⟩
  | sl => exact withA_some h
  | any => exact withA_some h
  | ag => obtain ⟨n, h1, h2⟩ := withG_some h; exact ⟨_, h1, h2⟩
theorem withO_some {β : Type} {a : Option β} {c : β → Option α} (h : withO a c = some out) : ∃ v, a = some v ∧ c v = some out := by
  unfold withO at h; split at h
  · exact ⟨_, rfl, h⟩
  · cases h
theorem bif_some {b : Bool} {c : Option α} (h : (bif b then c else none) = some out) : b = true ∧ c = some out := by
  cases b
  · cases h
  · exact ⟨rfl, h⟩
theorem if_some {p : Prop} [Decidable p] {c : Option α} (h : (if p then c else none) = some out) : p ∧ c = some out := by
  split at h
  · exact ⟨‹_›, h⟩
  · cases h
theorem withKs_some : ∀ {ks : List CK} {cs : List AVal} {off : Nat} {c : List AVal → Option α}, withKs ks cs off c = some out →
    ∃ as, as.length = ks.length ∧ (∀ j, j < ks.length → as[j]? = cs[off + j]?) ∧ c as = some out
  | [], cs, off, c, h => ⟨[], rfl, by simp, h⟩
  | k :: ks, cs, off, c, h => by
    unfold withKs at h
    obtain ⟨v, h1, h2⟩ := withK_some h
    obtain ⟨as, h3, h4, h5⟩ := withKs_some h2
    refine ⟨v :: as, by simp [h3], fun j hj => ?_, h5⟩
    cases j with
    | zero => simp [h1]
    | succ j => simpa [Nat.add_assoc, Nat.add_comm 1 j] using h4 j (by simpa using hj)
theorem withV_some {ks : List CK} {agg : Bool} {cs : List AVal} {off : Nat} {c : AVal → Option α} (h : withV ks agg cs off c = some out) :
    (agg = true ∧ off + ks.length ≤ cs.length ∧ c (.agg ((cs.drop off).take ks.length)) = some out) ∨ (agg = false ∧ ks.length = 1 ∧ ∃ v, cs[off]? = some v ∧ c v = some out) := by
  unfold withV at h
  split at h
  · obtain ⟨h1, h2⟩ := bif_some h
    exact .inl ⟨rfl, Nat.le_of_ble_eq_true h1, h2⟩
  · obtain ⟨v, h1, h2⟩ := withK_some h
    exact .inr ⟨rfl, rfl, v, h1, h2⟩
  · cases h
end
theorem upd_self (st : St) (r : Res) (x : RVal) : upd st r x r = x := by
  unfold upd; rw [Res.is_iff.2 rfl]; rfl
theorem upd_ne (st : St) {r q : Res} (x : RVal) (h : q ≠ r) : upd st r x q = st q := by
  unfold upd
  cases hq : q.is r with
  | true => exact absurd (Res.is_iff.1 hq) h
  | false => rfl
theorem SlotR.congr {st st' : St} {i : Nat} {s : Slot} {v : Value} (hl : ∀ b B, st (.l b) = .bx (some B) → ∃ B', st' (.l b) = .bx (some B')) (h : SlotR G st w i s v) : SlotR G st' w i s v := by
  cases s with
  | v a f => exact h
  | lp b off => obtain ⟨blk, h1, ⟨B, h2⟩, h3⟩ := h; exact ⟨blk, h1, hl b B h2, h3⟩
  | ls b off len => obtain ⟨blk, cap, h1, ⟨B, h2⟩, h3⟩ := h; exact ⟨blk, cap, h1, hl b B h2, h3⟩
theorem getD_set (tm : Array Value) (d i : Nat) (v : Value) (hd : d < tm.size) : (tm.setIfInBounds d v).getD i undef = if i = d then v else tm.getD i undef := by
  simp only [Array.getD_eq_getD_getElem?, Array.getElem?_setIfInBounds]
  by_cases h : d = i
  · subst h; simp [hd]
  · have : ¬ i = d := fun e => h e.symm
    simp [h, this]
theorem Rel.setSlot {tm : Array Value} (R : Rel G nt st tm w) (d : Nat) (s : Slot) (v : Value) (hd : d < nt) (hs : SlotR G st w d s v) :
    Rel G nt (upd st (.s d) (.sv s)) (tm.setIfInBounds d v) w := by
  have hl : ∀ b, upd st (.s d) (.sv s) (.l b) = st (.l b) := fun b => upd_ne _ _ (by simp)
  have hg : upd st (.s d) (.sv s) .g = st .g := upd_ne _ _ (by simp)
  refine ⟨by simp [R.size], fun i s' hi => ?_, fun b B h => R.lbox b B (by rwa [hl] at h), fun sg h => R.gbox sg (by rwa [hg] at h), fun sg h => R.gdom sg (by rwa [hg] at h), fun sg h => R.gobj sg (by rwa [hg] at h), R.frz, R.ownlt⟩
  rw [getD_set _ _ _ _ (by rw [R.size]; exact hd)]
  by_cases h : i = d
  · subst h
    rw [upd_self] at hi
    cases hi
    rw [if_pos rfl]
    exact hs.congr fun b B hB => ⟨B, by rw [hl]; exact hB⟩
  · rw [if_neg h]
    rw [upd_ne _ _ (by simpa using h)] at hi
    exact (R.slots i s' hi).congr fun b B hB => ⟨B, by rw [hl]; exact hB⟩
theorem Rel.setJunk {tm : Array Value} (R : Rel G nt st tm w) (d : Nat) (v : Value) (hd : d < nt) :
    Rel G nt (upd st (.s d) (.sv (.v .junk false))) (tm.setIfInBounds d v) w := R.setSlot d _ v hd ⟨.inl rfl, by simp⟩
theorem Rel.dst {a : Act} (R : Rel G nt st a.tmps w) {d : Option Nat} (hd : ∀ x, d = some x → x < nt) {s : Slot} {v : Value} (hs : ∀ x, d = some x → SlotR G st w x s v) :
    Rel G nt (upds st (dstU d s)) (a.put d v).tmps w := by
  cases d with
  | none => exact R
  | some d => exact R.setSlot d s v (hd d rfl) (hs d rfl)
theorem put_defers (a : Act) (d : Option Nat) (v : Value) : (a.put d v).defers = a.defers := by cases d <;> rfl
theorem slotV {i : Nat} {a : AVal} {v : Value} (h : VR G.Z G.ι a v) : SlotR G st w i (.v a false) v := ⟨.inr h, by simp⟩
theorem OpR.slot {i : Nat} {s : Slot} {v : Value} (h : OpR G st s v) : SlotR G st w i (unflag s) v := by
  cases s with
  | v a f => exact ⟨h, by simp⟩
  | lp b off => exact h
  | ls b off len => exact h
theorem cell_lt {w : World} {a : Addr} {v : Value} (h : w.cell? a = some v) : a.block < w.heap.size := by
  unfold World.cell? at h
  split at h
  · rename_i c _ _ hc
    exact (Array.getElem?_eq_some_iff.1 hc).1
  · cases h
theorem cell_same {w w' : World} {a : Addr} (h : w'.heap[a.block]? = w.heap[a.block]?) : w'.cell? a = w.cell? a := by
  unfold World.cell?; rw [h]
theorem Free.world {Z : Fz} {w w' : World} {b e m : Nat} (h : Free Z w b e m) (hb : w'.heap[b]? = w.heap[b]?) : Free Z w' b e m := by
  obtain ⟨arr, T, fr, h1, h2⟩ := h
  exact ⟨arr, T, fr, hb.trans h1, h2⟩
theorem Claim.world {G : Gh} {w w' : World} {o : Owner} {sz : Nat} {v : Value} (h : Claim G w o sz v) (hb : ∀ b, G.own b = some o → w'.heap[b]? = w.heap[b]?) : Claim G w' o sz v := by
  rcases h with h | ⟨b, off, n, cap, h1, h2, h3⟩
  · exact .inl h
  · exact .inr ⟨b, off, n, cap, h1, h2, h3.world (hb b h2)⟩
theorem BoxR.world {G : Gh} {w w' : World} {B : Box} {b k : Nat} (h : BoxR G w B b k) (hb : w'.heap[b]? = w.heap[b]?) : BoxR G w' B b k := by
  obtain ⟨arr, T, fr, h1, h2⟩ := h
  exact ⟨arr, T, fr, hb.trans h1, h2⟩
theorem SlotR.world {G : Gh} {st : St} {w w' : World} {i : Nat} {s : Slot} {v : Value} (h : SlotR G st w i s v) (hb : ∀ b, G.own b = some (.slot i) → w'.heap[b]? = w.heap[b]?) : SlotR G st w' i s v := by
  cases s with
  | v a f => exact ⟨h.1, fun hf => by obtain ⟨nn, sz, l, h1, h2⟩ := h.2 hf; exact ⟨nn, sz, l, h1, h2.world hb⟩⟩
  | lp b off => exact h
  | ls b off len => exact h
theorem Rel.grow {tm : Array Value} (R : Rel G nt st tm w) {w' : World} (hs : w.heap.size ≤ w'.heap.size) (hb : ∀ b, b < w.heap.size → w'.heap[b]? = w.heap[b]?) : Rel G nt st tm w' := by
  have ho : ∀ b o, G.own b = some o → w'.heap[b]? = w.heap[b]? := fun b o h => hb b (R.ownlt b o h)
  refine ⟨R.size, fun i s h => (R.slots i s h).world fun b hb => ho b _ hb, fun s B h => ?_, fun sg h g B hg hne => ?_, R.gdom, fun sg h g B hg hne => ?_, fun a v h => ?_, fun b o h => Nat.lt_of_lt_of_le (R.ownlt b o h) hs⟩
  · obtain ⟨b, h1, h2, h3⟩ := R.lbox s B h; exact ⟨b, h1, h2, h3.world (ho b _ h2)⟩
  · obtain ⟨b, h1, h2, h3, h4⟩ := R.gbox sg h g B hg hne; exact ⟨b, h1, h2, h3.world (ho b.1 _ h2), h4.same (ho b.1 _ h2)⟩
  · obtain ⟨b, h1, h2, h3⟩ := R.gobj sg h g B hg hne; exact ⟨b, h1, h2, h3.mono (ho b.1 _ h2) (fun _ _ h => h) (fun _ _ h => h)⟩
  · obtain ⟨h1, h2, h3⟩ := R.frz a v h
    exact ⟨(cell_same (hb _ (cell_lt h1))).trans h1, h2, h3⟩
theorem Fr.grow {G : Gh} {w w' : World} (h1 : w'.os = w.os) (h2 : w'.tape = w.tape) (h3 : w'.output = w.output) (hs : w.heap.size ≤ w'.heap.size) (hb : ∀ b, b < w.heap.size → w'.heap[b]? = w.heap[b]?) : Fr G w G w' :=
  ⟨h1, h2, h3, hs, fun _ _ h => h, fun _ _ h => h, fun b h ho => ⟨hb b h, ho, fun _ _ => rfl⟩⟩
end Go.Abs
namespace Go.Abs
variable [YTab]
set_option linter.unusedVariables false
set_option linter.unusedSimpArgs false
def OpOK (P : Program) (C : CallF) (nt : Nat) (o : Oper) (ao : AOp) : Prop :=
  ∀ (G : Gh) (st : St) (a : Act) (w : World), Rel G nt st a.tmps w → ∀ (out : Out) (c : Step → R), sem C o.dst ao st c = some out →
    ∀ (next : Act → World → Prop) (Q : Exit → Act → World → Prop),
    (∀ us G' a' w', c (.go us) = some out → Rel G' nt (upds st us) a'.tmps w' → a'.defers = a.defers → Fr G w G' w' → next a' w') →
    (∀ v sg G' u w', c (.pan v sg) = some out → VR G'.Z G'.ι v u → Rel G' nt (upd st .g (.sg sg)) a.tmps w' → Fr G w G' w' → Q (.panic [{ v := u, recovered := false }]) a w') →
    o.wp P a w next Q
section
variable {P : Program} {C : CallF} {nt : Nat} {o : Oper}
theorem opVal {G : Gh} {st : St} {a : Act} {w : World} (H : Rel G nt st a.tmps w) (hd : ∀ x, o.dst = some x → x < nt) {out : Out} {c : Step → R} {s : Slot} {v : Value}
    (hrun : (execOp a.eval o).run P w = .ok (.value v) w) (hs : ∀ x, SlotR G st w x s v) (hc : c (.go (dstU o.dst s)) = some out)
    {next : Act → World → Prop} {Q : Exit → Act → World → Prop}
    (hn : ∀ us G' a' w', c (.go us) = some out → Rel G' nt (upds st us) a'.tmps w' → a'.defers = a.defers → Fr G w G' w' → next a' w') : o.wp P a w next Q :=
  wp_val hrun (hn _ G _ w hc (H.dst hd fun x _ => hs x) (put_defers _ _ _) (Fr.refl _ _))
theorem at_eq {Z : Fz} {ι : Iot} {v u : Value} (h : VR Z ι (.at v) u) : u = v := by cases h; rfl
theorem ok_mov {x : Operand} (hd : ∀ x, o.dst = some x → x < nt) (hop : ∀ ρ, execOp ρ o = pure (.value (ρ x))) : OpOK P C nt o (.mov x) := by
  intro G st a w H out c h next Q hn hp
  exact opVal (P := P) H hd (s := unflag (rdO st x)) (v := a.eval x) (by rw [hop]; rfl) (fun i => (rdO_rel H x).slot) h hn
theorem ok_move {x : Operand} (hd : ∀ x, o.dst = some x → x < nt) (hop : o.op = .move x ∨ o.op = .assign x) : OpOK P C nt o (.mov x) :=
  ok_mov hd fun ρ => by rcases hop with h | h <;> simp [execOp, h]
theorem ok_nilS {sz : Nat} (hd : ∀ x, o.dst = some x → x < nt) (hop : o.op = .move (.const (.slice none 0 0)) ∨ o.op = .assign (.const (.slice none 0 0))) : OpOK P C nt o (.nilS sz) := by
  intro G st a w H out c h next Q hn hp
  exact opVal (P := P) H hd (s := .v (.sl true sz []) true) (v := .slice none 0 0) (by rcases hop with h | h <;> simp [execOp, h, Act.eval])
    (fun i => ⟨.inr .nil, fun _ => ⟨true, sz, [], rfl, .inl rfl⟩⟩) h hn
theorem ok_movA {x : Nat} (hd : ∀ x, o.dst = some x → x < nt) (hx : x < nt) (hne : o.dst ≠ some x) (hop : o.op = .move (.tmp x) ∨ o.op = .assign (.tmp x)) : OpOK P C nt o (.movA x) := by
  intro G st a w H out c h next Q hn hp
  simp only [sem] at h
  have hr : ∀ s, rdT st x = s → st (.s x) = .sv s ∨ s = .v .junk false := by
    intro s hs; unfold rdT at hs; split at hs
    · rename_i s' h'; left; rw [h', hs]
    · right; exact hs.symm
  cases hs : rdT st x with
  | lp => rw [hs] at h; cases h
  | ls => rw [hs] at h; cases h
  | v v f =>
    rw [hs] at h
    have hrun : (execOp a.eval o).run P w = .ok (.value (a.tmps.getD x undef)) w := by rcases hop with h | h <;> simp [execOp, h, Act.eval]
    have hsr : SlotR G st w x (.v v f) (a.tmps.getD x undef) := by
      rcases hr _ hs with h' | h'
      · exact H.slots x _ h'
      · cases h'; exact ⟨.inl rfl, by simp⟩
    have hself : a.tmps.setIfInBounds x (a.tmps.getD x undef) = a.tmps := by
      apply Array.ext
      · simp
      · intro i h1 h2
        rw [Array.getElem_setIfInBounds]
        split
        · rename_i he; subst he; simp [Array.getD, h2]
        · rfl
    cases hdst : o.dst with
    | none =>
      rw [hdst] at h
      refine wp_val hrun (hn _ G _ w h ?_ (put_defers _ _ _) (Fr.refl _ _))
      have := H.setSlot x (.v v false) _ hx ⟨hsr.1, by simp⟩
      rw [hself] at this
      rw [hdst]
      exact this
    | some d =>
      rw [hdst] at h
      have hdx : d ≠ x := fun e => hne (by rw [hdst, e])
      let G' : Gh := { G with own := fun b => if G.own b = some (.slot x) ∧ f = true then some (.slot d) else if G.own b = some (.slot d) ∧ f = true then none else G.own b }
      have R1 : Rel G nt (upd st (.s x) (.sv (.v v false))) a.tmps w := by
        have := H.setSlot x (.v v false) _ hx ⟨hsr.1, by simp⟩
        rwa [hself] at this
      have R2 : Rel G nt (upd (upd st (.s x) (.sv (.v v false))) (.s d) (.sv (.v .junk false))) (a.tmps.setIfInBounds d (a.tmps.getD x undef)) w := R1.setJunk d _ (hd d hdst)
      have hnosl : ∀ i s, upd (upd st (.s x) (.sv (.v v false))) (.s d) (.sv (.v .junk false)) (.s i) = .sv s → ∀ b, (∃ vv, s = .v vv true) → G.own b = some (.slot i) → i ≠ x ∧ i ≠ d := by
        intro i s hi b hb ho
        obtain ⟨vv, rfl⟩ := hb
        constructor
        · rintro rfl
          rw [upd_ne _ _ (by simpa using fun e => hdx e.symm), upd_self] at hi
          cases hi
        · rintro rfl
          rw [upd_self] at hi
          cases hi
      have R3 : Rel G' nt (upd (upd st (.s x) (.sv (.v v false))) (.s d) (.sv (.v .junk false))) (a.tmps.setIfInBounds d (a.tmps.getD x undef)) w := by
        refine ⟨R2.size, fun i s hi => ?_, fun s B h => ?_, fun sg h g B hg hne => ?_, R2.gdom, fun sg h g B hg hne => ?_, fun aa v h => ?_, fun b oo h => ?_⟩
        · have h0 := R2.slots i s hi
          cases s with
          | v vv ff =>
            refine ⟨h0.1, fun hff => ?_⟩
            obtain ⟨nn, sz, l, h1, h2⟩ := h0.2 hff
            refine ⟨nn, sz, l, h1, ?_⟩
            rcases h2 with h2 | ⟨b, off, n, cap, h3, h4, h5⟩
            · exact .inl h2
            · refine .inr ⟨b, off, n, cap, h3, ?_, h5⟩
              subst hff
              have := hnosl i _ hi b ⟨vv, rfl⟩ h4
              simp only [G']
              rw [if_neg (fun e => this.1 (by have := e.1; rw [h4] at this; simpa using this)), if_neg (fun e => this.2 (by have := e.1; rw [h4] at this; simpa using this))]
              exact h4
          | lp => exact h0
          | ls => exact h0
        · obtain ⟨b, h1, h2, h3⟩ := R2.lbox s B h
          refine ⟨b, h1, ?_, h3⟩
          simp only [G']
          rw [h2]; simp
        · obtain ⟨b, h1, h2, h3, h4⟩ := R2.gbox sg h g B hg hne
          refine ⟨b, h1, ?_, h3, h4⟩
          simp only [G']
          rw [h2]; simp
        · obtain ⟨b, h1, h2, h3⟩ := R2.gobj sg h g B hg hne
          refine ⟨b, h1, ?_, h3.mono rfl (fun _ _ h => h) (fun _ _ h => h)⟩
          simp only [G']
          rw [h2]; simp
        · obtain ⟨h1, h2, h3⟩ := R2.frz aa v h
          refine ⟨h1, h2, fun oo ho => ?_⟩
          simp only [G'] at ho
          split at ho
          · cases ho; exact ⟨d, rfl⟩
          · split at ho
            · cases ho
            · exact h3 oo ho
        · simp only [G'] at h
          split at h
          · rename_i hh; exact R2.ownlt b _ hh.1
          · split at h
            · cases h
            · exact R2.ownlt b _ h
      have hfr : Fr G w G' w := ⟨rfl, rfl, rfl, Nat.le_refl _, fun _ _ h => h, fun _ _ h => h, fun b hb ho => ⟨rfl, by simp [G', ho], fun _ _ => rfl⟩⟩
      have hsl : SlotR G' (upd (upd st (.s x) (.sv (.v v false))) (.s d) (.sv (.v .junk false))) w d (.v v f) (a.tmps.getD x undef) := by
        refine ⟨hsr.1, fun hf => ?_⟩
        obtain ⟨nn, sz, l, h1, h2⟩ := hsr.2 hf
        refine ⟨nn, sz, l, h1, ?_⟩
        rcases h2 with h2 | ⟨b, off, n, cap, h3, h4, h5⟩
        · exact .inl h2
        · exact .inr ⟨b, off, n, cap, h3, by simp [G', h4, hf], h5⟩
      have R4 := R3.setSlot d (.v v f) (a.tmps.getD x undef) (hd d hdst) hsl
      have e1 : upd (upd (upd st (.s x) (.sv (.v v false))) (.s d) (.sv (.v .junk false))) (.s d) (.sv (.v v f)) = upds st ((.s x, .sv (.v v false)) :: dstU (some d) (.v v f)) := by
        funext q
        simp only [upds, dstU]
        by_cases hq : q = .s d
        · subst hq; simp [upd_self]
        · rw [upd_ne _ _ hq, upd_ne _ _ hq, upd_ne _ _ hq]
      rw [e1] at R4
      have e2 : (a.tmps.setIfInBounds d (a.tmps.getD x undef)).setIfInBounds d (a.tmps.getD x undef) = (a.put o.dst (a.tmps.getD x undef)).tmps := by
        rw [hdst]; simp [Act.put]
      rw [e2] at R4
      exact wp_val hrun (hn _ G' _ w h R4 (put_defers _ _ _) hfr)
theorem ok_pick {t x y : Operand} (hd : ∀ x, o.dst = some x → x < nt) (hop : o.op = .pick t x y) : OpOK P C nt o (.pick t x y) := by
  intro G st a w H out c h next Q hn hp
  simp only [sem] at h
  obtain ⟨b, h1, h2⟩ := withB_some h
  have ht := at_eq (rdA_rel H h1).1
  have hrun : (execOp a.eval o).run P w = .ok (.value (if b then a.eval x else a.eval y)) w := by simp [execOp, hop, ht, asBool]
  split at h2
  · rename_i hb; subst hb
    obtain ⟨v, h3, h4⟩ := withA_some h2
    exact opVal (P := P) H hd (by simpa using hrun) (fun i => slotV (rdA_rel H h3).1) h4 hn
  · rename_i hb; simp at hb; subst hb
    obtain ⟨v, h3, h4⟩ := withA_some h2
    exact opVal (P := P) H hd (by simpa using hrun) (fun i => slotV (rdA_rel H h3).1) h4 hn
theorem slotAt {G : Gh} {st : St} {w : World} {i : Nat} {v : Value} (h : one v = true) : SlotR G st w i (.v (.at v) false) v := slotV (.at h)
theorem opAt {G : Gh} {st : St} {a : Act} {w : World} (H : Rel G nt st a.tmps w) (hd : ∀ x, o.dst = some x → x < nt) {out : Out} {c : Step → R} {v : Value}
    (hc : c (.go (dstU o.dst (.v (.at v) false))) = some out) (h1 : one v = true) (hrun : (execOp a.eval o).run P w = .ok (.value v) w)
    {next : Act → World → Prop} {Q : Exit → Act → World → Prop}
    (hn : ∀ us G' a' w', c (.go us) = some out → Rel G' nt (upds st us) a'.tmps w' → a'.defers = a.defers → Fr G w G' w' → next a' w') : o.wp P a w next Q :=
  opVal (P := P) H hd hrun (fun i => slotAt h1) hc hn
theorem isShift_iff {op : BinOp} : isShift op = true ↔ op = .shl ∨ op = .shr := by cases op <;> simp [isShift]
theorem ok_bin {op : BinOp} {t : TypeId} {x y : Operand} {ty : TypeId} (hd : ∀ x, o.dst = some x → x < nt) (hop : o.op = .binOp op t x y ty) : OpOK P C nt o (.bin op x y) := by
  intro G st a w H out c h next Q hn hp
  simp only [sem] at h
  obtain ⟨u, h1, h2⟩ := withA_some h
  obtain ⟨v, h3, h4⟩ := withA_some h2
  have e1 := (rdA_rel H h1).1
  have e2 := (rdA_rel H h3).1
  unfold binC at h4
  split at h4
  · rename_i k p k' q
    have e1 := at_eq e1
    have e2 := at_eq e2
    cases hs : isShift op with
    | true =>
      rw [hs] at h4
      have h4 : (if q < 0 then none else c (.go (dstU o.dst (.v (.at (.int k (shiftI op k p q))) false)))) = some out := h4
      split at h4
      · cases h4
      · rename_i hq
        refine opAt (P := P) H hd h4 rfl ?_ hn
        rcases isShift_iff.1 hs with rfl | rfl <;>
          simp [execOp, hop, e1, e2, eqGuard, Go.binOp, Op.shift, hq, shiftI]
    | false =>
      rw [hs] at h4
      have h5 : (bif kEq k k' then binI op k p q fun r => c (.go (dstU o.dst (.v (.at r) false))) else none) = some out := h4
      clear h4
      obtain ⟨hk, h6⟩ := bif_some h5
      clear h5
      rw [kEq_iff] at hk; subst hk
      cases op <;> simp [isShift] at hs <;> simp only [binI] at h6 <;> (try (split at h6)) <;> (try (cases h6; done)) <;>
        refine opAt (P := P) H hd h6 ?_ ?_ hn <;> first | (exact rfl) |
        simp [execOp, hop, e1, e2, eqGuard, Go.binOp, Op.intArith, Op.intDiv, Op.intBits, Op.intCmp, bitsI, *]
  · have e1 := at_eq e1
    have e2 := at_eq e2
    unfold binS at h4
    simp only [eqS_toList, catS_eq, ← Go.ByteArray.toList_eq] at h4
    cases op <;> simp only at h4 <;> (try (split at h4)) <;> (try (cases h4; done)) <;>
      refine opAt (P := P) H hd h4 ?_ ?_ hn <;> first | (exact rfl) | skip
    all_goals first
        | (simp [execOp, hop, e1, e2, eqGuard, Go.binOp, Op.stringOp, *]; done)
        | (rename_i hx; simp [IntKind.max, IntKind.signed, IntKind.bits] at hx; simp [execOp, hop, e1, e2, eqGuard, Go.binOp, Op.stringOp, IntKind.max, IntKind.signed, IntKind.bits]; omega)
  · cases h4
end
end Go.Abs
namespace Go.Abs
variable [YTab]
set_option linter.unusedVariables false
set_option linter.unusedSimpArgs false
section
variable {P : Program} {C : CallF} {nt : Nat} {o : Oper}
theorem ok_un {op : UnOp} {t : TypeId} {x : Operand} (hd : ∀ x, o.dst = some x → x < nt) (hop : o.op = .unOp op t x) : OpOK P C nt o (.un op x) := by
  intro G st a w H out c h next Q hn hp
  simp only [sem] at h
  obtain ⟨u, h1, h2⟩ := withA_some h
  have e1 := (rdA_rel H h1).1
  unfold unC at h2
  split at h2
  · have e1 := at_eq e1
    exact opAt (P := P) H hd h2 rfl (by simp [execOp, hop, e1, Op.unary]) hn
  · have e1 := at_eq e1
    exact opAt (P := P) H hd h2 rfl (by simp [execOp, hop, e1, Op.unary, Op.intArith]) hn
  · have e1 := at_eq e1
    exact opAt (P := P) H hd h2 rfl (by simp [execOp, hop, e1, Op.unary, Op.intBits, bitsI]) hn
  · cases h2
theorem ok_convI {k k0 : IntKind} {src dst : TypeId} {x : Operand} (hd : ∀ x, o.dst = some x → x < nt) (hop : o.op = .convert src dst x) (h1 : P.underlying src = some (.int k0)) (h2 : P.underlying dst = some (.int k)) :
    OpOK P C nt o (.convI k x) := by
  intro G st a w H out c h next Q hn hp
  simp only [sem] at h
  obtain ⟨kk, n, h3, h4⟩ := withN_some h
  have e1 := at_eq (rdA_rel H h3).1
  exact opAt (P := P) H hd h4 rfl (by simp [execOp, hop, e1, Go.convert, run_underlying h1, run_underlying h2, Conv.intToInt]) hn
theorem ok_convS {src dst : TypeId} {x : Operand} (hd : ∀ x, o.dst = some x → x < nt) (hop : o.op = .convert src dst x) (h1 : P.underlying src = some .string) (h2 : P.underlying dst = some .string) :
    OpOK P C nt o (.convS x) := by
  intro G st a w H out c h next Q hn hp
  simp only [sem] at h
  obtain ⟨s, h3, h4⟩ := withS_some h
  have e1 := at_eq (rdA_rel H h3).1
  exact opAt (P := P) H hd h4 rfl (by simp [execOp, hop, e1, Go.convert, run_underlying h1, run_underlying h2]) hn
theorem ok_extract {x : Operand} {i : Nat} (hd : ∀ x, o.dst = some x → x < nt) (hop : o.op = .extract x i) : OpOK P C nt o (.extract x i) := by
  intro G st a w H out c h next Q hn hp
  simp only [sem] at h
  have hr := rdO_rel H x
  split at h
  · rename_i vs f hs
    rw [hs] at hr
    obtain ⟨v, h1, h2⟩ := withA_some h
    rcases hr with hr | hr
    · cases hr
    generalize he : a.eval x = u at hr
    cases hr with
    | tup hl hh =>
      rename_i arr
      have hi : i < arr.size := by
        have := (List.getElem?_eq_some_iff.1 h1).1; omega
      exact opVal (P := P) H hd (by simp [execOp, hop, he, Instr.extract, Array.getElem?_eq_getElem hi]) (fun _ => slotV (hh i v _ h1 (Array.getElem?_eq_getElem hi))) h2 hn
  · cases h
theorem part_run {Z : Fz} {ι : Iot} {cs : List AVal} {arr : Array Value} {t : TypeId} {ks : List CK} {agg : Bool} {off : Nat} {w : World}
    (hv : VR Z ι (.agg cs) (.agg arr)) (ha : isAggT P t = some agg) (hs : sizeT P t = some ks.length) :
    (agg = true → off + ks.length ≤ cs.length → ∃ u, (part t arr off).run P w = .ok u w ∧ VR Z ι (.agg ((cs.drop off).take ks.length)) u) ∧
    (agg = false → ∀ v, cs[off]? = some v → ∃ u, (part t arr off).run P w = .ok u w ∧ VR Z ι v u) := by
  cases hv with
  | agg hl hh h1 =>
    unfold isAggT at ha
    unfold sizeT at hs
    cases hi : P.info? t with
    | none => simp [hi] at hs
    | some inf =>
      simp [hi] at hs
      have hsz : (sizeOf t).run P w = .ok ks.length w := by simp [sizeOf, typeInfo, hi, hs]
      cases hu : P.underlying t with
      | none => simp [hu] at ha
      | some d =>
        have hag : (isAgg t).run P w = .ok agg w := by
          rw [hu] at ha
          simp only [isAgg, Sem.run_bind, run_underlying hu, Result.andThen_ok]
          cases d <;> simp at ha ⊢ <;> exact ha
        refine ⟨fun hb hle => ?_, fun hb v hv => ?_⟩
        · subst hb
          refine ⟨.agg (arr.extract off (off + ks.length)), by simp [part, hag, hsz], .agg ?_ ?_ ?_⟩
          · simp; omega
          · intro i a v hi1 hi2
            rw [List.getElem?_take] at hi1
            split at hi1
            · rw [List.getElem?_drop] at hi1
              rw [Array.getElem?_extract] at hi2
              split at hi2
              · exact hh _ _ _ hi1 hi2
              · cases hi2
            · cases hi1
          · intro i v hi2
            rw [Array.getElem?_extract] at hi2
            split at hi2
            · exact h1 _ _ hi2
            · cases hi2
        · subst hb
          have hlt : off < arr.size := by have := (List.getElem?_eq_some_iff.1 hv).1; omega
          exact ⟨arr[off], by simp [part, hag, Array.getElem?_eq_getElem hlt], hh off v _ hv (Array.getElem?_eq_getElem hlt)⟩
theorem withV_part {Z : Fz} {ι : Iot} {a : AVal} {u : Value} {t : TypeId} {ks : List CK} {agg : Bool} {off : Nat} {w : World} {α : Type} {out : α} {c : AVal → Option α}
    (hv : VR Z ι a u) {arr : Array Value} (hu : u = .agg arr) (ha : isAggT P t = some agg) (hs : sizeT P t = some ks.length) (h : withV ks agg a.cells off c = some out) :
    ∃ v x, (part t arr off).run P w = .ok x w ∧ VR Z ι v x ∧ c v = some out := by
  subst hu
  have : ∃ cs, a = .agg cs := by
    cases hv with
    | agg => exact ⟨_, rfl⟩
    | «at» hx => exact absurd hx (by simp [one])
  obtain ⟨cs, rfl⟩ := this
  obtain ⟨p1, p2⟩ := part_run (P := P) (w := w) (off := off) hv ha hs
  rcases withV_some h with ⟨h1, h2, h3⟩ | ⟨h1, h2, v, h3, h4⟩
  · obtain ⟨x, hx, hr⟩ := p1 h1 h2
    exact ⟨_, x, hx, hr, h3⟩
  · obtain ⟨x, hx, hr⟩ := p2 h1 v h3
    exact ⟨v, x, hx, hr, h4⟩
theorem ok_makeFunc {f : FuncId} {first cap : Array Operand} (hd : ∀ x, o.dst = some x → x < nt) (hop : o.op = .makeFunc (.func f) first cap) : OpOK P C nt o (.makeFunc f first.toList cap.toList) := by
  intro G st a w H out c h next Q hn hp
  simp only [sem] at h
  cases h1 : args? st first.toList with
  | none => rw [h1] at h; cases h
  | some as =>
    cases h2 : args? st cap.toList with
    | none => rw [h1, h2] at h; cases h
    | some bs =>
      rw [h1, h2] at h
      obtain ⟨l1, r1⟩ := args_rel H h1
      obtain ⟨l2, r2⟩ := args_rel H h2
      refine opVal (P := P) H hd (v := .func (.func f) (first.map a.eval) (cap.map a.eval)) (by simp [execOp, hop, Instr.makeFunc]) (fun _ => slotV (.clo ?_ ?_ ?_ ?_ ?_)) h hn
      · simpa using l1
      · intro i v u hv hu
        obtain ⟨x, hx, hr, _⟩ := r1 i v hv
        rw [Array.getElem?_toList] at hx
        simp [hx] at hu
        subst hu; exact hr
      · simpa using l2
      · intro i v u hv hu
        obtain ⟨x, hx, hr, _⟩ := r2 i v hv
        rw [Array.getElem?_toList] at hx
        simp [hx] at hu
        subst hu; exact hr
      · intro v hv vs
        rcases List.mem_append.1 hv with hv | hv
        · obtain ⟨i, hi⟩ := List.getElem?_of_mem hv
          obtain ⟨_, _, _, ht⟩ := r1 i v hi
          exact ht vs
        · obtain ⟨i, hi⟩ := List.getElem?_of_mem hv
          obtain ⟨_, _, _, ht⟩ := r2 i v hi
          exact ht vs
end
end Go.Abs
namespace Go.Abs
variable [YTab]
set_option linter.unusedVariables false
set_option linter.unusedSimpArgs false
section
variable {P : Program} {C : CallF} {nt : Nat} {o : Oper}
theorem ok_field {t : TypeId} {f : Nat} {x : Operand} {fs : Array Field} {fd : Field} {ks : List CK} {agg : Bool} (hd : ∀ x, o.dst = some x → x < nt) (hop : o.op = .field t x f)
    (hu : P.underlying t = some (.struct fs)) (hf : fs[f]? = some fd) (ha : isAggT P fd.type = some agg) (hs : sizeT P fd.type = some ks.length) : OpOK P C nt o (.field fd.offset ks agg x) := by
  intro G st a w H out c h next Q hn hp
  simp only [sem] at h
  obtain ⟨v, h1, h2⟩ := withA_some h
  split at h2
  · rename_i cs
    obtain ⟨hv, _⟩ := rdA_rel H h1
    generalize he : a.eval x = u at hv
    have hv0 := hv
    cases hv with
    | agg hl hh h1' =>
      rename_i arr
      obtain ⟨r, y, hy, hr, hc⟩ := withV_part (P := P) (w := w) hv0 rfl ha hs h2
      exact opVal (P := P) H hd (by simp [execOp, hop, he, Instr.field, run_underlying hu, hf, asAgg, hy]) (fun _ => slotV hr) hc hn
  · cases h2
theorem ok_indexA {t : TypeId} {x i : Operand} {len : Nat} {e : TypeId} {ks : List CK} {agg : Bool} (hd : ∀ x, o.dst = some x → x < nt) (hop : o.op = .index t x i)
    (hu : P.underlying t = some (.array len e)) (ha : isAggT P e = some agg) (hs : sizeT P e = some ks.length) : OpOK P C nt o (.indexA len ks.length ks agg x i) := by
  intro G st a w H out c h next Q hn hp
  simp only [sem] at h
  obtain ⟨v, h1, h2⟩ := withA_some h
  obtain ⟨k, n, h3, h4⟩ := withN_some h2
  obtain ⟨⟨hb1, hb2⟩, h5⟩ := if_some h4
  split at h5
  · rename_i cs
    obtain ⟨hv, _⟩ := rdA_rel H h1
    have hi := at_eq (rdA_rel H h3).1
    generalize he : a.eval x = u at hv
    have hv0 := hv
    cases hv with
    | agg hl hh h1' =>
      rename_i arr
      obtain ⟨r, y, hy, hr, hc⟩ := withV_part (P := P) (w := w) hv0 rfl ha hs h5
      have hsz : ∀ w, (sizeOf e).run P w = .ok ks.length w := by
        intro w; unfold sizeT at hs
        cases hi : P.info? e with
        | none => simp [hi] at hs
        | some inf => simp [hi] at hs; simp [sizeOf, typeInfo, hi, hs]
      exact opVal (P := P) H hd (by simp [execOp, hop, he, hi, Instr.index, asIntOf, run_underlying hu, hb1, hb2, hsz, hy]) (fun _ => slotV hr) hc hn
  · cases h5
theorem ok_indexS {t : TypeId} {x i : Operand} (hd : ∀ x, o.dst = some x → x < nt) (hop : o.op = .index t x i) (hu : P.underlying t = some .string) : OpOK P C nt o (.indexS x i) := by
  intro G st a w H out c h next Q hn hp
  simp only [sem] at h
  obtain ⟨s, h1, h2⟩ := withS_some h
  obtain ⟨k, n, h3, h4⟩ := withN_some h2
  obtain ⟨⟨hb1, hb2⟩, h5⟩ := if_some h4
  have e1 := at_eq (rdA_rel H h1).1
  have e2 := at_eq (rdA_rel H h3).1
  have hlt : n.toNat < s.size := by omega
  refine opAt (P := P) H hd h5 rfl ?_ hn
  have hg : s[n.toNat]? = some (s.data.toList.getD n.toNat 0) := by
    rw [getElem?_pos s n.toNat hlt]
    have : s.data.toList.getD n.toNat 0 = s.data[n.toNat]'hlt := by
      have hl : n.toNat < s.data.toList.length := by simpa using hlt
      rw [List.getD_eq_getElem?_getD, List.getElem?_eq_getElem hl]; simp
    rw [this]; rfl
  simp [execOp, hop, e1, e2, Instr.index, asIntOf, run_underlying hu, hb1, hg]
theorem add_mk (b off n : Nat) : (⟨b, off, none⟩ : Addr).add n = ⟨b, off + n, none⟩ := by
  unfold Addr.add; split
  · rename_i h; simp [h]
  · rfl
theorem ok_addr {t : TypeId} {f : Nat} {x : Operand} {fs : Array Field} {fd : Field} {n : Nat} (hd : ∀ x, o.dst = some x → x < nt) (hop : o.op = .fieldAddr t x f)
    (hu : P.underlying t = some (.struct fs)) (hf : fs[f]? = some fd) (hs : sizeT P fd.type = some n) (hn0 : n ≠ 0) : OpOK P C nt o (.addr fd.offset x) := by
  intro G st a w H out c h next Q hn hp
  have hr := rdO_rel H x
  have hsz : (sizeOf fd.type).run P w = .ok n w := by
    unfold sizeT at hs
    cases hi : P.info? fd.type with
    | none => simp [hi] at hs
    | some inf => simp [hi] at hs; simp [sizeOf, typeInfo, hi, hs]
  have hrun : ∀ b off, a.eval x = .pointer (some ⟨b, off, none⟩) → (execOp a.eval o).run P w = .ok (.value (.pointer (some ⟨b, off + fd.offset, none⟩))) w := by
    intro b off he
    simp [execOp, hop, he, Instr.fieldAt, run_underlying hu, hf, Instr.sureAddr, fieldPlace, hsz, hn0, add_mk]
  simp only [sem] at h
  split at h
  · rename_i b off hs
    rw [hs] at hr
    obtain ⟨blk, h1, h2, h3⟩ := hr
    exact opVal (P := P) (s := .lp b (off + fd.offset)) H hd (hrun _ _ h3) (fun _ => ⟨blk, h1, h2, rfl⟩) h hn
  · rename_i g off f hs
    rw [hs] at hr
    rcases hr with hr | hr
    · cases hr
    generalize he : a.eval x = u at hr
    cases hr with
    | gp hg => exact opVal (P := P) H hd (hrun _ _ he) (fun _ => slotV (.gp_add hg)) h hn
  · rename_i cs f hs
    rw [hs] at hr
    rcases hr with hr | hr
    · cases hr
    generalize he : a.eval x = u at hr
    cases hr with
    | ep vals hz hh =>
      refine opVal (P := P) H hd (hrun _ _ he) (fun _ => slotV (.ep (fun j => vals (fd.offset + j)) ?_ ?_)) h hn
      · intro j hj
        simp at hj
        rw [Nat.add_assoc]
        exact hz _ (by omega)
      · intro j c' hc'
        rw [List.getElem?_drop] at hc'
        exact hh _ _ hc'
  · cases h
theorem size_run {t : TypeId} {n : Nat} (hs : sizeT P t = some n) (w : World) : (sizeOf t).run P w = .ok n w := by
  unfold sizeT at hs
  cases hi : P.info? t with
  | none => simp [hi] at hs
  | some inf => simp [hi] at hs; simp [sizeOf, typeInfo, hi, hs]
theorem ok_indexAddrA {t : TypeId} {x i : Operand} {len : Nat} {e : TypeId} {n : Nat} (hd : ∀ x, o.dst = some x → x < nt) (hop : o.op = .indexAddr t x i)
    (hu : P.underlying t = some (.array len e)) (hs : sizeT P e = some n) : OpOK P C nt o (.indexAddrA len n x i) := by
  intro G st a w H out c h next Q hn hp
  simp only [sem] at h
  obtain ⟨k, m, h3, h4⟩ := withN_some h
  obtain ⟨⟨hb1, hb2⟩, h5⟩ := if_some h4
  have hi := at_eq (rdA_rel H h3).1
  have hr := rdO_rel H x
  have hrun : ∀ b off, a.eval x = .pointer (some ⟨b, off, none⟩) → (execOp a.eval o).run P w = .ok (.value (.pointer (some ⟨b, off + m.toNat * n, none⟩))) w := by
    intro b off he
    simp [execOp, hop, he, hi, Instr.indexAt, asIntOf, run_underlying hu, Instr.sureAddr, hb1, hb2, size_run hs, add_mk]
  split at h5
  · rename_i b off hs
    rw [hs] at hr
    obtain ⟨blk, h1, h2, h3⟩ := hr
    exact opVal (P := P) (s := .lp b (off + m.toNat * n)) H hd (hrun _ _ h3) (fun _ => ⟨blk, h1, h2, rfl⟩) h5 hn
  · rename_i g off f hs
    rw [hs] at hr
    rcases hr with hr | hr
    · cases hr
    generalize he : a.eval x = u at hr
    cases hr with
    | gp hg => exact opVal (P := P) H hd (hrun _ _ he) (fun _ => slotV (.gp_add hg)) h5 hn
  · cases h5
theorem ok_indexAddrS {t : TypeId} {x i : Operand} {e : TypeId} {n : Nat} (hd : ∀ x, o.dst = some x → x < nt) (hop : o.op = .indexAddr t x i)
    (hu : P.underlying t = some (.slice e)) (hs : sizeT P e = some n) : OpOK P C nt o (.indexAddrS n x i) := by
  intro G st a w H out c h next Q hn hp
  simp only [sem] at h
  obtain ⟨k, m, h3, h4⟩ := withN_some h
  have hi := at_eq (rdA_rel H h3).1
  have hr := rdO_rel H x
  have hrun : ∀ b off len cap, a.eval x = .slice (some ⟨b, off, none⟩) len cap → 0 ≤ m → m < len → (execOp a.eval o).run P w = .ok (.value (.pointer (some ⟨b, off + m.toNat * n, none⟩))) w := by
    intro b off len cap he h0 h1
    simp [execOp, hop, he, hi, Instr.indexAt, asIntOf, run_underlying hu, h0, h1, size_run hs, add_mk]
  split at h4
  · rename_i nn sz l f hs
    rw [hs] at hr
    obtain ⟨hz, h5⟩ := bif_some h4
    obtain ⟨h0, h6⟩ := if_some h5
    obtain ⟨v, h7, h8⟩ := withA_some h6
    obtain ⟨h9, h10⟩ := bif_some h8
    have hz := Nat.eq_of_beq_eq_true hz
    have h9 := Nat.eq_of_beq_eq_true h9
    subst hz
    rcases hr with hr | hr
    · cases hr
    generalize he : a.eval x = u at hr
    have hlt := (List.getElem?_eq_some_iff.1 h7).1
    cases hr with
    | nil => simp at hlt
    | sl vals hn' hcap hsz hz hh hagg =>
      refine opVal (P := P) H hd (hrun _ _ _ _ he h0 (by omega)) (fun _ => slotV (.ep (fun j => vals (m.toNat * sz + j)) ?_ ?_)) h10 hn
      · intro j hj
        rw [h9] at hj
        rw [Nat.add_assoc]
        refine hz _ ?_
        have : m.toNat * sz + sz ≤ l.length * sz := by
          rw [← Nat.succ_mul]; exact Nat.mul_le_mul_right _ hlt
        rw [hn']; omega
      · intro j c' hc'
        exact hh _ _ _ _ h7 hc'
  · rename_i g sz off len f hs
    rw [hs] at hr
    obtain ⟨_, h4⟩ := bif_some h4
    obtain ⟨⟨hb1, hb2⟩, h5⟩ := if_some h4
    rcases hr with hr | hr
    · cases hr
    generalize he : a.eval x = u at hr
    cases hr with
    | gs hg hc => exact opVal (P := P) H hd (hrun _ _ _ _ he hb1 hb2) (fun _ => slotV (.gp_add hg)) h5 hn
  · rename_i b off len hs
    rw [hs] at hr
    obtain ⟨⟨hb1, hb2⟩, h5⟩ := if_some h4
    obtain ⟨blk, cap, h1, h2, h3, h4'⟩ := hr
    exact opVal (P := P) (s := .lp b (off + m.toNat * n)) H hd (hrun _ _ _ _ h3 hb1 hb2) (fun _ => ⟨blk, h1, h2, rfl⟩) h5 hn
  · cases h4
end
end Go.Abs
namespace Go.Abs
variable [YTab]
set_option linter.unusedVariables false
set_option linter.unusedSimpArgs false
section
variable {P : Program} {C : CallF} {nt : Nat} {o : Oper}
def RowR (G : Gh) (w : World) (cs : List AVal) (b off : Nat) : Prop :=
  ∀ (j : Nat) c, cs[j]? = some c → ∃ u, w.cell? ⟨b, off + j, none⟩ = some u ∧ VR G.Z G.ι c u ∧ one u = true
theorem isAgg_run {t : TypeId} {agg : Bool} (ha : isAggT P t = some agg) (w : World) : (isAgg t).run P w = .ok agg w := by
  unfold isAggT at ha
  cases hu : P.underlying t with
  | none => simp [hu] at ha
  | some d =>
    rw [hu] at ha
    simp only [isAgg, Sem.run_bind, run_underlying hu, Result.andThen_ok]
    cases d <;> simp at ha ⊢ <;> exact ha
theorem load_row {G : Gh} {w : World} {cs : List AVal} {b base off : Nat} {t : TypeId} {ks : List CK} {agg : Bool} {α : Type} {out : α} {c : AVal → Option α}
    (hr : RowR G w cs b base) (ha : isAggT P t = some agg) (hs : sizeT P t = some ks.length) (h : withV ks agg cs off c = some out) :
    ∃ v x, (loadVar t ⟨b, base + off, none⟩).run P w = .ok x w ∧ VR G.Z G.ι v x ∧ c v = some out := by
  rcases withV_some h with ⟨h1, h2, h3⟩ | ⟨h1, h2, v, h3, h4⟩
  · subst h1
    have hf : ∃ f : Nat → Value, ∀ j, j < ks.length → w.cell? ⟨b, base + off + j, none⟩ = some (f j) ∧ one (f j) = true ∧ ∀ cc, cs[off + j]? = some cc → VR G.Z G.ι cc (f j) := by
      refine ⟨fun j => (w.cell? ⟨b, base + off + j, none⟩).getD undef, fun j hj => ?_⟩
      obtain ⟨u, hu, hv, h1⟩ := hr (off + j) _ (List.getElem?_eq_getElem (by omega : off + j < cs.length))
      rw [← Nat.add_assoc] at hu
      refine ⟨by simp [hu], by simp [hu, h1], fun cc hcc => ?_⟩
      simp only [hu, Option.getD_some]
      rw [List.getElem?_eq_getElem (by omega)] at hcc
      cases hcc
      exact hv
    obtain ⟨f, hf⟩ := hf
    have hl := run_loadCells (P := P) w ⟨b, base + off, none⟩ ks.length f (fun j hj => by rw [add_mk]; exact (hf j hj).1)
    refine ⟨_, .agg ((List.range ks.length).map f).toArray, by simp [loadVar, isAgg_run ha, size_run hs, hl], .agg ?_ ?_ ?_, h3⟩
    · simp; omega
    · intro i a v hi hv
      simp at hv
      obtain ⟨x, hx, rfl⟩ := hv
      obtain ⟨hx1, rfl⟩ : i < ks.length ∧ x = i := by
        have := List.getElem?_eq_some_iff.1 hx
        simpa [eq_comm] using this
      rw [List.getElem?_take, if_pos hx1, List.getElem?_drop] at hi
      exact (hf x hx1).2.2 a hi
    · intro i v hv
      simp at hv
      obtain ⟨x, hx, rfl⟩ := hv
      obtain ⟨hx1, rfl⟩ : i < ks.length ∧ x = i := by
        have := List.getElem?_eq_some_iff.1 hx
        simpa [eq_comm] using this
      exact (hf x hx1).2.1
  · subst h1
    obtain ⟨u, hu, hv, h1⟩ := hr off v h3
    exact ⟨v, u, by simp [loadVar, isAgg_run ha, hu], hv, h4⟩
theorem BoxR.row {G : Gh} {w : World} {B : Box} {b k : Nat} (h : BoxR G w B b k) : RowR G w B.cells b k := by
  obtain ⟨arr, T, fr, h1, h2, h3, h4⟩ := h
  intro j c hc
  obtain ⟨u, hu, hv, h5⟩ := h4 j c hc
  exact ⟨u, by simp [World.cell?, h1, hu], hv, h5⟩
theorem withBox_some {rd : St} {root : Option Nat} {s : Slot} {α : Type} {out : α} {c : Box → Nat → Option Nat → Option α} (h : withBox rd root s c = some out) :
    (∃ r off B, root = some r ∧ s = .lp r off ∧ rd (.l r) = .bx (some B) ∧ c B off (some r) = some out) ∨
    (∃ g off f sg B, root = none ∧ s = .v (.gp g off) f ∧ rd .g = .sg sg ∧ sg[g]? = some B ∧ B.cells ≠ [] ∧ c B off none = some out) := by
  unfold withBox at h
  split at h
  · rename_i r b off
    obtain ⟨h1, h2⟩ := bif_some h
    have h1 := Nat.eq_of_beq_eq_true h1
    subst h1
    split at h2
    · rename_i B hB; exact .inl ⟨_, _, B, rfl, rfl, hB, h2⟩
    · cases h2
  · rename_i g off f
    split at h
    · rename_i sg hsg
      obtain ⟨B, hB, h⟩ := withO_some h
      cases hE : B.cells.isEmpty with
      | true => rw [hE] at h; cases h
      | false =>
        rw [hE] at h
        exact .inr ⟨g, off, f, sg, B, rfl, rfl, hsg, hB, fun e => (by rw [e] at hE; cases hE), h⟩
    · cases h
  · cases h
theorem ok_load {t : TypeId} {x : Operand} {ks : List CK} {agg : Bool} {root : Option Nat} (hd : ∀ x, o.dst = some x → x < nt) (hop : o.op = .load t x)
    (ha : isAggT P t = some agg) (hs : sizeT P t = some ks.length) : OpOK P C nt o (.load ks agg root x) := by
  intro G st a w H out c h next Q hn hp
  have hr := rdO_rel H x
  have hrun : ∀ b off u, a.eval x = .pointer (some ⟨b, off, none⟩) → (loadVar t ⟨b, off, none⟩).run P w = .ok u w → (execOp a.eval o).run P w = .ok (.value u) w := by
    intro b off u he hl
    simp [execOp, hop, he, Instr.loadAt, Instr.sureAddr, hl]
  simp only [sem] at h
  split at h
  · rename_i cs f hs'
    rw [hs'] at hr
    rcases hr with hr | hr
    · cases hr
    generalize he : a.eval x = u at hr
    cases hr with
    | ep vals hz hh =>
      rename_i b off
      have hrow : RowR G w cs b off := by
        intro j c' hc'
        have hj := (List.getElem?_eq_some_iff.1 hc').1
        obtain ⟨h1, h2, h3⟩ := H.frz _ _ (hz j hj)
        exact ⟨vals j, h1, hh j c' hc', h2⟩
      obtain ⟨v, y, hy, hv, hc⟩ := load_row (P := P) hrow ha hs h
      exact opVal (P := P) H hd (hrun _ _ _ he (by simpa using hy)) (fun _ => slotV hv) hc hn
  · rcases withBox_some h with ⟨r, off, B, h1, h2, h3, h4⟩ | ⟨g, off, f, sg, B, h1, h2, h3, h4, hne, h5⟩
    · rw [h2] at hr
      obtain ⟨blk, h6, h7, h8⟩ := hr
      obtain ⟨b, h9, h10, h11⟩ := H.lbox r B h3
      rw [h6] at h9; cases h9
      obtain ⟨v, y, hy, hv, hc⟩ := load_row (P := P) h11.row ha hs h4
      exact opVal (P := P) H hd (hrun _ _ _ h8 (by simpa using hy)) (fun _ => slotV hv) hc hn
    · rw [h2] at hr
      rcases hr with hr | hr
      · cases hr
      generalize he : a.eval x = u at hr
      cases hr with
      | gp hg =>
        obtain ⟨b, h9, h10, h11, _⟩ := H.gbox sg h3 g B h4 hne
        rw [hg] at h9; cases h9
        obtain ⟨v, y, hy, hv, hc⟩ := load_row (P := P) h11.row ha hs h5
        exact opVal (P := P) H hd (hrun _ _ _ he (by simpa using hy)) (fun _ => slotV hv) hc hn
theorem ok_lenS {x : Operand} {t : TypeId} (hd : ∀ x, o.dst = some x → x < nt) (hop : o.op = .call { callee := .builtin .len, args := #[x], argTypes := #[t] })
    (hu : P.underlying t = some .string) : OpOK P C nt o (.lenS x) := by
  intro G st a w H out c h next Q hn hp
  simp only [sem] at h
  obtain ⟨s, h1, h2⟩ := withS_some h
  have he := at_eq (rdA_rel H h1).1
  exact opAt (P := P) H hd h2 rfl (by simp [execOp, hop, resolve, invoke, builtin, he, Builtin.len_, run_underlying hu, goInt]) hn
theorem ok_lenA {x : Operand} {t : TypeId} {n : Nat} {e : TypeId} (hd : ∀ x, o.dst = some x → x < nt) (hop : o.op = .call { callee := .builtin .len, args := #[x], argTypes := #[t] })
    (hu : P.underlying t = some (.array n e)) : OpOK P C nt o (.lenA n) := by
  intro G st a w H out c h next Q hn hp
  simp only [sem] at h
  exact opAt (P := P) H hd h rfl (by simp [execOp, hop, resolve, invoke, builtin, Builtin.len_, run_underlying hu, goInt]) hn
theorem ok_lenL {x : Operand} {t : TypeId} {e : TypeId} (hd : ∀ x, o.dst = some x → x < nt) (hop : o.op = .call { callee := .builtin .len, args := #[x], argTypes := #[t] })
    (hu : P.underlying t = some (.slice e)) : OpOK P C nt o (.lenL x) := by
  intro G st a w H out c h next Q hn hp
  have hr := rdO_rel H x
  have hrun : ∀ b n cap, a.eval x = .slice b n cap → (execOp a.eval o).run P w = .ok (.value (.int .i64 n)) w := by
    intro b n cap he
    simp [execOp, hop, resolve, invoke, builtin, he, Builtin.len_, run_underlying hu, goInt]
  simp only [sem] at h
  split at h
  · rename_i l f hs
    rw [hs] at hr
    rcases hr with hr | hr
    · cases hr
    generalize he : a.eval x = u at hr
    cases hr with
    | nil => exact opAt (P := P) H hd h rfl (hrun _ _ _ he) hn
    | sl vals hn' => subst hn'; exact opAt (P := P) H hd h rfl (hrun _ _ _ he) hn
  · rename_i hs
    rw [hs] at hr
    rcases hr with hr | hr
    · cases hr
    generalize he : a.eval x = u at hr
    cases hr with
    | gs hg hc => exact opAt (P := P) H hd h rfl (hrun _ _ _ he) hn
  · rename_i hs
    rw [hs] at hr
    obtain ⟨blk, cap, h1, h2, h3, h4⟩ := hr
    exact opAt (P := P) H hd h rfl (hrun _ _ _ h3) hn
  · rename_i hs
    rw [hs] at hr
    rcases hr with hr | hr
    · cases hr
    generalize he : a.eval x = u at hr
    cases hr with
    | e0 hc => exact opAt (P := P) H hd h rfl (hrun _ _ _ he) hn
  · rename_i hs
    rw [hs] at hr
    rcases hr with hr | hr
    · cases hr
    generalize he : a.eval x = u at hr
    cases hr with
    | «at» h1 => exact opAt (P := P) H hd h rfl (hrun _ _ _ he) hn
  · cases h
theorem max2_run (k : IntKind) (x y : Int) : Builtin.max2 (.int k x) (.int k y) = (pure (.int k (max2 x y)) : Sem Value) := by simp [Builtin.max2, max2]
theorem min2_run (k : IntKind) (x y : Int) : Builtin.min2 (.int k x) (.int k y) = (pure (.int k (min2 x y)) : Sem Value) := by simp [Builtin.min2, min2]
theorem minmax_run {Z : Fz} {ι : Iot} (mx : Bool) (k : IntKind) : ∀ {l : List AVal} {x r : Int} {vs : List Value}, minmaxI mx k x l = some r → l.length = vs.length →
    (∀ (i : Nat) a v, l[i]? = some a → vs[i]? = some v → VR Z ι a v) →
    List.foldlM (if mx then Builtin.max2 else Builtin.min2) (.int k x) vs = (pure (.int k r) : Sem Value)
  | [], x, r, vs, h, hl, hv => by
    simp [minmaxI] at h; subst h
    cases vs with
    | nil => rfl
    | cons => simp at hl
  | a :: l, x, r, vs, h, hl, hv => by
    cases vs with
    | nil => simp at hl
    | cons v vs =>
      unfold minmaxI at h
      split at h
      · rename_i heq; cases heq
      · rename_i k' y l' heq
        cases heq
        obtain ⟨h1, h2⟩ := bif_some h
        rw [kEq_iff] at h1; subst h1
        have hv0 := at_eq (hv 0 _ v rfl rfl)
        subst hv0
        have ih := minmax_run (Z := Z) (ι := ι) mx k h2 (vs := vs) (by simpa using hl) (fun i a v h1 h2 => hv (i + 1) a v (by simpa using h1) (by simpa using h2))
        cases mx
        · simp only [List.foldlM, Bool.false_eq_true, if_false] at ih ⊢
          rw [min2_run]; simpa using ih
        · simp only [List.foldlM, if_true] at ih ⊢
          rw [max2_run]; simpa using ih
      · cases h
theorem ok_minmax {mx : Bool} {xs : Array Operand} {tys : Array TypeId} (hd : ∀ x, o.dst = some x → x < nt) (hop : o.op = .call { callee := .builtin (if mx then .max else .min), args := xs, argTypes := tys }) :
    OpOK P C nt o (.minmax mx xs.toList) := by
  intro G st a w H out c h next Q hn hp
  simp only [sem] at h
  split at h
  · rename_i k x l hs
    split at h
    · rename_i r hr
      obtain ⟨hl, hv⟩ := args_rel H hs
      refine opAt (P := P) H hd h rfl ?_ hn
      cases hx : xs.toList with
      | nil => rw [hx] at hl; simp at hl
      | cons x0 xs' =>
        rw [hx] at hl hv
        have h0 : a.eval x0 = .int k x := by
          obtain ⟨y, hy, hv, _⟩ := hv 0 _ rfl
          simp at hy; subst hy
          exact at_eq hv
        have hfold := minmax_run (Z := G.Z) (ι := G.ι) mx k hr (vs := xs'.map a.eval) (by simpa using hl) (fun i aa v h1 h2 => by
          obtain ⟨y, hy, hv, _⟩ := hv (i + 1) aa (by simpa using h1)
          simp at hy
          simp [hy] at h2
          subst h2; exact hv)
        have hxs : (xs.map a.eval).toList = a.eval x0 :: xs'.map a.eval := by simp [hx]
        cases mx
        · simp only [Bool.false_eq_true, if_false] at hop hfold
          have hm : Builtin.min_ tys o.type (xs.map a.eval) = (pure (.int k r) : Sem Value) := by unfold Builtin.min_; rw [hxs]; simpa [h0] using hfold
          simp [execOp, hop, resolve, invoke, builtin, hm]
        · simp only [if_true] at hop hfold
          have hm : Builtin.max_ tys o.type (xs.map a.eval) = (pure (.int k r) : Sem Value) := by unfold Builtin.max_; rw [hxs]; simpa [h0] using hfold
          simp [execOp, hop, resolve, invoke, builtin, hm]
    · cases h
  · cases h
end
end Go.Abs
namespace Go.Abs
variable [YTab]
set_option linter.unusedVariables false
set_option linter.unusedSimpArgs false
section
variable {P : Program} {C : CallF} {nt : Nat} {o : Oper}
theorem nilK_eval {y : Operand} {k : Nat} {a : Act} (h : nilK y = some k) : (k = 0 ∧ a.eval y = .slice none 0 0) ∨ (k = 1 ∧ a.eval y = .pointer none) ∨ (k = 2 ∧ a.eval y = .nilFunc) := by
  unfold nilK at h
  split at h <;> simp at h <;> subst h <;> simp [Act.eval]
theorem nilCmp_run {t : TypeId} {k : Nat} {x y : Value} {w : World} (hT : nilT P t = some k) (r : Bool) (swap : Bool)
    (hx : (k = 0 ∧ ∃ a n c, x = .slice a n c ∧ r = a.isNone) ∨ (k = 1 ∧ ∃ a, x = .pointer a ∧ r = a.isNone) ∨ (k = 2 ∧ ((x = .nilFunc ∧ r = true) ∨ ∃ f a b, x = .func f a b ∧ r = false)))
    (hy : (k = 0 ∧ y = .slice none 0 0) ∨ (k = 1 ∧ y = .pointer none) ∨ (k = 2 ∧ y = .nilFunc)) :
    (Op.equal t x y).run P w = .ok r w ∧ (Op.equal t y x).run P w = .ok r w := by
  unfold nilT at hT
  suffices h : ∀ d : Nat, (Op.equalIn (d + 1) t x y).run P w = .ok r w ∧ (Op.equalIn (d + 1) t y x).run P w = .ok r w from h 9999
  intro d
  rcases hy with ⟨rfl, rfl⟩ | ⟨rfl, rfl⟩ | ⟨rfl, rfl⟩
  · rcases hx with ⟨_, a, n, c, rfl, rfl⟩ | ⟨h, _⟩ | ⟨h, _⟩
    · split at hT <;> simp at hT
      rename_i hu
      constructor <;> cases a <;> simp [Op.equalIn, run_underlying hu]
    · cases h
    · cases h
  · rcases hx with ⟨h, _⟩ | ⟨_, a, rfl, rfl⟩ | ⟨h, _⟩
    · cases h
    · split at hT <;> simp at hT
      rename_i hu
      constructor <;> cases a <;> simp [Op.equalIn, run_underlying hu]
    · cases h
  · rcases hx with ⟨h, _⟩ | ⟨h, _⟩ | ⟨_, h⟩
    · cases h
    · cases h
    · split at hT <;> simp at hT
      rename_i hu
      rcases h with ⟨rfl, rfl⟩ | ⟨f, a, b, rfl, rfl⟩
      · constructor <;> simp [Op.equalIn, run_underlying hu]
      · constructor <;> simp [Op.equalIn, run_underlying hu]
theorem ok_nilCmp {neg : Bool} {t : TypeId} {x y z : Operand} {ty : TypeId} {k : Nat} (hd : ∀ x, o.dst = some x → x < nt)
    (hop : (o.op = .binOp (if neg then .neq else .eql) t x y ty ∧ nilK y = some k ∧ z = x) ∨ (o.op = .binOp (if neg then .neq else .eql) t x y ty ∧ nilK x = some k ∧ z = y)) (hT : nilT P t = some k) :
    OpOK P C nt o (.nilCmp neg k z) := by
  intro G st a w H out c h next Q hn hp
  have hr := rdO_rel H z
  have key : ∀ r : Bool, ((k = 0 ∧ ∃ aa n c, a.eval z = .slice aa n c ∧ r = aa.isNone) ∨ (k = 1 ∧ ∃ aa, a.eval z = .pointer aa ∧ r = aa.isNone) ∨ (k = 2 ∧ ((a.eval z = .nilFunc ∧ r = true) ∨ ∃ f aa b, a.eval z = .func f aa b ∧ r = false))) →
      (execOp a.eval o).run P w = .ok (.value (.bool (xor neg r))) w := by
    intro r hx
    have hguard : ∀ (op : BinOp) u v, ((∃ aa n c, u = .slice aa n c) ∨ (∃ aa, u = .pointer aa) ∨ u = .nilFunc ∨ ∃ f aa b, u = .func f aa b) → ∀ x y, (eqGuard op t x y u v).run P w = .ok () w := by
      intro op u v hu x y
      rcases hu with ⟨aa, n, c, rfl⟩ | ⟨aa, rfl⟩ | rfl | ⟨f, aa, b, rfl⟩ <;> cases op <;> cases v <;> simp [eqGuard]
    rcases hop with ⟨ho, hy, rfl⟩ | ⟨ho, hy, rfl⟩
    · have hy := nilK_eval (a := a) hy
      have := (nilCmp_run (P := P) (w := w) hT r false hx hy).1
      have hg := hguard (if neg then .neq else .eql) (a.eval z) (a.eval y) (by
        rcases hx with ⟨_, aa, n, c, h, _⟩ | ⟨_, aa, h, _⟩ | ⟨_, ⟨h, _⟩ | ⟨f, aa, b, h, _⟩⟩
        · exact .inl ⟨_, _, _, h⟩
        · exact .inr (.inl ⟨_, h⟩)
        · exact .inr (.inr (.inl h))
        · exact .inr (.inr (.inr ⟨_, _, _, h⟩))) z y
      cases neg
      · simp only [Bool.false_eq_true, if_false] at ho hg
        simp only [execOp, ho, Sem.run_bind, hg, Result.andThen_ok]
        rcases hx with ⟨rfl, aa, n, c, h, _⟩ | ⟨rfl, aa, h, _⟩ | ⟨rfl, ⟨h, _⟩ | ⟨f, aa, b, h, _⟩⟩ <;> rcases hy with ⟨hk, hy⟩ | ⟨hk, hy⟩ | ⟨hk, hy⟩ <;> (first | (cases hk; done) | skip) <;>
          rw [h, hy] at this ⊢ <;> simp [Go.binOp, this]
      · simp only [if_true] at ho hg
        simp only [execOp, ho, Sem.run_bind, hg, Result.andThen_ok]
        rcases hx with ⟨rfl, aa, n, c, h, _⟩ | ⟨rfl, aa, h, _⟩ | ⟨rfl, ⟨h, _⟩ | ⟨f, aa, b, h, _⟩⟩ <;> rcases hy with ⟨hk, hy⟩ | ⟨hk, hy⟩ | ⟨hk, hy⟩ <;> (first | (cases hk; done) | skip) <;>
          rw [h, hy] at this ⊢ <;> simp [Go.binOp, this]
    · have hy := nilK_eval (a := a) hy
      have := (nilCmp_run (P := P) (w := w) hT r false hx hy).2
      have hg := hguard (if neg then .neq else .eql) (a.eval x) (a.eval z) (by
        rcases hy with ⟨_, h⟩ | ⟨_, h⟩ | ⟨_, h⟩
        · exact .inl ⟨_, _, _, h⟩
        · exact .inr (.inl ⟨_, h⟩)
        · exact .inr (.inr (.inl h))) x z
      cases neg
      · simp only [Bool.false_eq_true, if_false] at ho hg
        simp only [execOp, ho, Sem.run_bind, hg, Result.andThen_ok]
        rcases hx with ⟨rfl, aa, n, c, h, _⟩ | ⟨rfl, aa, h, _⟩ | ⟨rfl, ⟨h, _⟩ | ⟨f, aa, b, h, _⟩⟩ <;> rcases hy with ⟨hk, hy⟩ | ⟨hk, hy⟩ | ⟨hk, hy⟩ <;> (first | (cases hk; done) | skip) <;>
          rw [h, hy] at this ⊢ <;> simp [Go.binOp, this]
      · simp only [if_true] at ho hg
        simp only [execOp, ho, Sem.run_bind, hg, Result.andThen_ok]
        rcases hx with ⟨rfl, aa, n, c, h, _⟩ | ⟨rfl, aa, h, _⟩ | ⟨rfl, ⟨h, _⟩ | ⟨f, aa, b, h, _⟩⟩ <;> rcases hy with ⟨hk, hy⟩ | ⟨hk, hy⟩ | ⟨hk, hy⟩ <;> (first | (cases hk; done) | skip) <;>
          rw [h, hy] at this ⊢ <;> simp [Go.binOp, this]
  simp only [sem] at h
  have fin : ∀ (n : Nat) (r : Bool), withO (bif Nat.beq k n then some r else none) (fun b => c (.go (dstU o.dst (.v (.at (.bool (xor neg b))) false)))) = some out →
      k = n ∧ c (.go (dstU o.dst (.v (.at (.bool (xor neg r))) false))) = some out := by
    intro n r h
    cases hk : Nat.beq k n with
    | true => rw [hk] at h; exact ⟨Nat.eq_of_beq_eq_true hk, h⟩
    | false => rw [hk] at h; cases h
  generalize hs : rdO st z = sl at h hr
  cases sl with
  | lp b f =>
    obtain ⟨hk, h⟩ := fin 1 false h
    subst hk
    obtain ⟨blk, h1, h2, h3⟩ := hr
    exact opAt (P := P) H hd h rfl (by simpa using key false (.inr (.inl ⟨rfl, _, h3, rfl⟩))) hn
  | ls b f l =>
    obtain ⟨hk, h⟩ := fin 0 false h
    subst hk
    obtain ⟨blk, cap, h1, h2, h3, h4⟩ := hr
    exact opAt (P := P) H hd h rfl (by simpa using key false (.inl ⟨rfl, _, _, _, h3, rfl⟩)) hn
  | v aa f =>
    cases aa with
    | junk => cases h
    | agg _ => cases h
    | tup _ => cases h
    | gm _ => cases h
    | yl _ => cases h
    | ifc _ _ => cases h
    | sl nn sz l =>
      obtain ⟨hk, h⟩ := fin 0 nn h
      subst hk
      rcases hr with hr | hr
      · cases hr
      generalize he : a.eval z = u at hr
      cases hr with
      | nil => exact opAt (P := P) H hd h rfl (key true (.inl ⟨rfl, _, _, _, he, rfl⟩)) hn
      | sl => exact opAt (P := P) H hd h rfl (key false (.inl ⟨rfl, _, _, _, he, rfl⟩)) hn
    | gs _ _ _ _ =>
      obtain ⟨hk, h⟩ := fin 0 false h
      subst hk
      rcases hr with hr | hr
      · cases hr
      generalize he : a.eval z = u at hr
      cases hr with
      | gs => exact opAt (P := P) H hd h rfl (by simpa using key false (.inl ⟨rfl, _, _, _, he, rfl⟩)) hn
    | e0 _ =>
      obtain ⟨hk, h⟩ := fin 0 false h
      subst hk
      rcases hr with hr | hr
      · cases hr
      generalize he : a.eval z = u at hr
      cases hr with
      | e0 => exact opAt (P := P) H hd h rfl (by simpa using key false (.inl ⟨rfl, _, _, _, he, rfl⟩)) hn
    | gp _ _ =>
      obtain ⟨hk, h⟩ := fin 1 false h
      subst hk
      rcases hr with hr | hr
      · cases hr
      generalize he : a.eval z = u at hr
      cases hr with
      | gp => exact opAt (P := P) H hd h rfl (by simpa using key false (.inr (.inl ⟨rfl, _, he, rfl⟩))) hn
    | ep _ =>
      obtain ⟨hk, h⟩ := fin 1 false h
      subst hk
      rcases hr with hr | hr
      · cases hr
      generalize he : a.eval z = u at hr
      cases hr with
      | ep => exact opAt (P := P) H hd h rfl (by simpa using key false (.inr (.inl ⟨rfl, _, he, rfl⟩))) hn
    | clo _ _ _ =>
      obtain ⟨hk, h⟩ := fin 2 false h
      subst hk
      rcases hr with hr | hr
      · cases hr
      generalize he : a.eval z = u at hr
      cases hr with
      | clo => exact opAt (P := P) H hd h rfl (by simpa using key false (.inr (.inr ⟨rfl, .inr ⟨_, _, _, he, rfl⟩⟩))) hn
    | «at» v =>
      simp only [isNil] at h
      unfold isNilV at h
      split at h
      · obtain ⟨hk, h⟩ := fin 1 true h
        subst hk
        rcases hr with hr | hr
        · cases hr
        have he := at_eq hr
        exact opAt (P := P) H hd h rfl (by simpa using key true (.inr (.inl ⟨rfl, _, he, rfl⟩))) hn
      · obtain ⟨hk, h⟩ := fin 2 true h
        subst hk
        rcases hr with hr | hr
        · cases hr
        have he := at_eq hr
        exact opAt (P := P) H hd h rfl (by simpa using key true (.inr (.inr ⟨rfl, .inl ⟨he, rfl⟩⟩))) hn
      · cases h
end
end Go.Abs
namespace Go.Abs
variable [YTab]
set_option linter.unusedVariables false
set_option linter.unusedSimpArgs false
section
variable {P : Program} {C : CallF} {nt : Nat} {o : Oper}
theorem VR.sl_inv {Z : Fz} {ι : Iot} {nn : Bool} {sz : Nat} {l : List AVal} {u : Value} (h : VR Z ι (.sl nn sz l) u) :
    (nn = true ∧ l = [] ∧ u = .slice none 0 0) ∨ (nn = false ∧ ∃ (b off cap : Nat) (vals : Nat → Value), u = .slice (some ⟨b, off, none⟩) l.length cap ∧ l.length ≤ cap ∧ (∀ a ∈ l, a.cells.length = sz) ∧
      (∀ j, j < l.length * sz → Z ⟨b, off + j, none⟩ = some (vals j)) ∧ (∀ (i j : Nat) a c, l[i]? = some a → a.cells[j]? = some c → VR Z ι c (vals (i * sz + j))) ∧
      (∀ a ∈ l, (∃ cs, a = .agg cs) ∨ (a.cells = [a] ∧ ∀ vs, a ≠ .tup vs))) := by
  cases h with
  | nil => exact .inl ⟨rfl, rfl, rfl⟩
  | sl vals hn hcap hsz hz hr hagg => subst hn; exact .inr ⟨rfl, _, _, _, vals, rfl, hcap, hsz, hz, hr, hagg⟩
theorem intOr_some {G : Gh} {st : St} {a : Act} {w : World} (H : Rel G nt st a.tmps w) {x : Option Operand} {d : Int} {α : Type} {out : α} {c : Int → Option α} (h : intOr st x d c = some out) :
    ∃ n, ((x = none ∧ n = d) ∨ ∃ y k, x = some y ∧ a.eval y = .int k n) ∧ c n = some out := by
  unfold intOr at h
  split at h
  · obtain ⟨k, n, h1, h2⟩ := withN_some h
    exact ⟨n, .inr ⟨_, k, rfl, at_eq (rdA_rel H h1).1⟩, h2⟩
  · exact ⟨d, .inl ⟨rfl, rfl⟩, h⟩
theorem bounds_some {G : Gh} {st : St} {a : Act} {w : World} (H : Rel G nt st a.tmps w) {n : Nat} {lo hi : Option Operand} {α : Type} {out : α} {c : Nat → Nat → Option α} (h : bounds n st lo hi c = some out) :
    ∃ l h : Nat, l ≤ h ∧ h ≤ n ∧ c l h = some out ∧ ∀ (isS : Bool) (cap : Nat) (w' : World), n ≤ cap → (Instr.sliceBounds isS n cap (lo.map a.eval) (hi.map a.eval) none).run P w' = .ok (l, h, cap) w' := by
  unfold bounds at h
  obtain ⟨hh, e1, h1⟩ := intOr_some H h
  obtain ⟨ll, e2, h2⟩ := intOr_some H h1
  obtain ⟨⟨h3, h4, h5⟩, h6⟩ := if_some h2
  refine ⟨ll.toNat, hh.toNat, by omega, by omega, h6, fun isS cap w' hc => ?_⟩
  obtain ⟨m, rfl⟩ := Int.eq_ofNat_of_zero_le (show 0 ≤ hh by omega)
  obtain ⟨p, rfl⟩ := Int.eq_ofNat_of_zero_le h3
  have hH : m ≤ cap := by omega
  have hL : p ≤ m := by omega
  rcases e1 with ⟨rfl, e1⟩ | ⟨y, k, rfl, e1⟩ <;> rcases e2 with ⟨rfl, e2⟩ | ⟨z, k', rfl, e2⟩
  · have e1 : m = n := by omega
    have e2 : p = 0 := by omega
    subst e1; subst e2
    simp [Instr.sliceBounds]
  · have e1 : m = n := by omega
    subst e1
    simp [Instr.sliceBounds, Instr.sliceBound, asIntOf, e2, hL]
  · have e2 : p = 0 := by omega
    subst e2
    simp [Instr.sliceBounds, Instr.sliceBound, asIntOf, e1, hH]
  · simp [Instr.sliceBounds, Instr.sliceBound, asIntOf, e1, e2, hH, hL]
theorem ok_sliceS {t : TypeId} {x : Operand} {lo hi : Option Operand} (hd : ∀ x, o.dst = some x → x < nt) (hop : o.op = .slice t x lo hi none) (hu : P.underlying t = some .string) : OpOK P C nt o (.sliceS x lo hi) := by
  intro G st a w H out c h next Q hn hp
  simp only [sem, cutS_eq] at h
  obtain ⟨s, h1, h2⟩ := withS_some h
  have he := at_eq (rdA_rel H h1).1
  obtain ⟨l, hh, b1, b2, b3, b4⟩ := bounds_some (P := P) H h2
  have hb := b4 false s.size w (Nat.le_refl _)
  exact opAt (P := P) H hd b3 rfl (by simp [execOp, hop, Instr.sliceAt, run_underlying hu, Instr.slice, he, hb]) hn
theorem ok_sliceV {t : TypeId} {e : TypeId} {n : Nat} {x : Operand} {lo hi : Option Operand} (hd : ∀ x, o.dst = some x → x < nt) (hop : o.op = .slice t x lo hi none)
    (hu : P.underlying t = some (.slice e)) (hs : sizeT P e = some n) : OpOK P C nt o (.sliceV n x lo hi) := by
  intro G st a w H out c h next Q hn hp
  simp only [sem] at h
  split at h
  · rename_i nn sz xs hx
    obtain ⟨h1, h2⟩ := bif_some h
    have h1 := Nat.eq_of_beq_eq_true h1
    subst h1
    obtain ⟨l, hh, b1, b2, b3, b4⟩ := bounds_some (P := P) H h2
    obtain ⟨hv, _⟩ := rdA_rel H hx
    generalize he : a.eval x = u at hv
    rcases hv.sl_inv with ⟨rfl, rfl, rfl⟩ | ⟨rfl, b, off, cap, vals, rfl, hcap, hsz, hz, hr, hagg⟩
    · simp only [List.length_nil] at b2 b4
      obtain ⟨rfl, rfl⟩ : l = 0 ∧ hh = 0 := by omega
      have hb := b4 true 0 w (Nat.le_refl _)
      exact opVal (P := P) H hd (v := .slice none 0 0) (by simp [execOp, hop, Instr.sliceAt, run_underlying hu, Instr.slice, he, hb, size_run hs]) (fun _ => slotV (by simpa using VR.nil)) b3 hn
    · have hb := b4 true cap w hcap
      have hlen : ((xs.drop l).take (hh - l)).length = hh - l := by simp; omega
      refine opVal (P := P) H hd (v := .slice (some ⟨b, if cap = l then off else off + l * sz, none⟩) (hh - l) (cap - l)) ?_ (fun _ => slotV (.sl (fun j => vals (l * sz + j)) hlen.symm (by omega) ?_ ?_ ?_ ?_)) b3 hn
      · simp only [execOp, hop, Option.map_none, Sem.run_bind, Instr.sliceAt, run_underlying hu, Result.andThen_ok, Instr.slice, he, hb, size_run hs, Sem.run_pure]
        congr 3
        split
        · rfl
        · simp [add_mk]
      · intro aa ha
        exact hsz aa (List.mem_of_mem_drop (List.mem_of_mem_take ha))
      · intro j hj
        have hlt : l ≠ cap := by
          rintro rfl
          have : hh - l = 0 := by omega
          rw [this] at hj; simp at hj
        rw [if_neg (fun e => hlt e.symm), Nat.add_assoc]
        refine hz _ ?_
        have : l * sz + (hh - l) * sz = hh * sz := by rw [← Nat.add_mul]; congr 1; omega
        have h3 : hh * sz ≤ xs.length * sz := Nat.mul_le_mul_right _ b2
        omega
      · intro i j aa cc hi hj
        rw [List.getElem?_take] at hi
        split at hi
        · rw [List.getElem?_drop] at hi
          have := hr (l + i) j aa cc hi hj
          rwa [Nat.add_mul, Nat.add_assoc] at this
        · cases hi
      · intro aa ha
        exact hagg aa (List.mem_of_mem_drop (List.mem_of_mem_take ha))
  · rename_i g sz o' m hx
    obtain ⟨h1, h2⟩ := bif_some h
    have h1 := Nat.eq_of_beq_eq_true h1
    subst h1
    obtain ⟨l, hh, b1, b2, b3, b4⟩ := bounds_some (P := P) H h2
    obtain ⟨hv, _⟩ := rdA_rel H hx
    generalize he : a.eval x = u at hv
    cases hv with
    | @gs _ _ _ _ cap p hg hcap hroom =>
      have hb := b4 true cap w hcap
      by_cases hlt : l < hh
      case neg =>
        rw [if_neg hlt] at b3
        have hlh : l = hh := by omega
        subst hlh
        have hrun : (execOp a.eval o).run P w = .ok (.value (.slice (some ⟨p.1, if cap = l then p.2.1 + o' else p.2.1 + o' + l * sz, none⟩) (l - l) (cap - l))) w := by
          simp only [execOp, hop, Option.map_none, Sem.run_bind, Instr.sliceAt, run_underlying hu, Result.andThen_ok, Instr.slice, he, hb, size_run hs, Sem.run_pure]
          congr 3
          split
          · rfl
          · simp [add_mk]
        rw [Nat.sub_self] at hrun
        cases hl0 : Nat.beq l 0 with
        | true =>
          rw [hl0] at b3
          have hl0 := Nat.eq_of_beq_eq_true hl0
          subst hl0
          have e1 : (if cap = 0 then p.2.1 + o' else p.2.1 + o' + 0 * sz) = p.2.1 + o' := by split <;> simp
          rw [e1] at hrun
          exact opVal (P := P) H hd hrun (fun _ => slotV (.gs hg (by omega) (by simpa using hroom))) b3 hn
        | false =>
          rw [hl0] at b3
          exact opVal (P := P) H hd hrun (fun _ => slotV (.e0 (by simp))) b3 hn
      rw [if_pos hlt] at b3
      refine opVal (P := P) H hd (v := .slice (some ⟨p.1, p.2.1 + o' + l * sz, none⟩) (hh - l) (cap - l)) ?_ (fun _ => slotV (.gs_add hg (by omega) ?_)) b3 hn
      · have hne : ¬ cap = l := by omega
        simp only [execOp, hop, Option.map_none, Sem.run_bind, Instr.sliceAt, run_underlying hu, Result.andThen_ok, Instr.slice, he, hb, size_run hs, Sem.run_pure]
        congr 3
        rw [if_neg hne]
        simp [add_mk]
      · have e1 : l * sz + (cap - l) * sz = cap * sz := by rw [← Nat.add_mul]; congr 1; omega
        omega
  · cases h
theorem ok_sliceA {t : TypeId} {e : TypeId} {len n : Nat} {x : Operand} {lo hi : Option Operand} {root : Option Nat} (hd : ∀ x, o.dst = some x → x < nt) (hop : o.op = .slice t x lo hi none)
    (hu : P.underlying t = some (.array len e)) (hs : sizeT P e = some n) : OpOK P C nt o (.sliceA len n root x lo hi) := by
  intro G st a w H out c h next Q hn hp
  simp only [sem] at h
  obtain ⟨l, hh, b1, b2, b3, b4⟩ := bounds_some (P := P) H h
  have hr := rdO_rel H x
  have hb := b4 false len w (Nat.le_refl _)
  have hrun : ∀ b off, a.eval x = .pointer (some ⟨b, off, none⟩) → (execOp a.eval o).run P w = .ok (.value (.slice (some ⟨b, bif Nat.beq len l then off else off + l * n, none⟩) (hh - l) (len - l))) w := by
    intro b off he
    simp only [execOp, hop, Option.map_none, Sem.run_bind, Instr.sliceAt, run_underlying hu, Result.andThen_ok, he, Instr.sureAddr, hb, size_run hs, Sem.run_pure]
    by_cases hl : len = l
    · subst hl; simp
    · have : Nat.beq len l = false := by
        cases hq : Nat.beq len l with
        | true => exact absurd (Nat.eq_of_beq_eq_true hq) hl
        | false => rfl
      simp [hl, this, add_mk]
  split at b3
  · rename_i b off hs'
    rw [hs'] at hr
    obtain ⟨blk, h1, h2, h3⟩ := hr
    exact opVal (P := P) (s := .ls b (bif Nat.beq len l then off else off + l * n) (hh - l)) H hd (hrun _ _ h3) (fun _ => ⟨blk, _, h1, h2, rfl, by omega⟩) b3 hn
  · rename_i g off f hs'
    rw [hs'] at hr
    rcases hr with hr | hr
    · cases hr
    generalize he : a.eval x = u at hr
    cases hr with
    | @gp _ _ pb hg =>
      split at b3
      · rename_i sg hsg
        obtain ⟨B, hB, b4'⟩ := withO_some b3
        obtain ⟨hcond, b5⟩ := bif_some b4'
        simp only [Bool.and_eq_true] at hcond
        obtain ⟨q1, q2⟩ := hcond
        have q2 := Nat.le_of_ble_eq_true q2
        have q1 : 0 < B.cells.length := Nat.blt_eq ▸ q1
        have hne : B.cells ≠ [] := by rintro e; rw [e] at q1; simp at q1
        obtain ⟨p, k1, k2, k3, k4⟩ := H.gbox sg hsg g B hB hne
        rw [hg] at k1; cases k1
        obtain ⟨arr, T, fr, m1, m2⟩ := k4
        obtain ⟨arr', T', fr', m3, m4, _⟩ := k3
        rw [m1] at m3; cases m3
        have hroom : (bif Nat.beq len l then off else off + l * n) + (len - l) * n ≤ pb.2.2 := by
          have e1 : l * n + (len - l) * n = len * n := by rw [← Nat.add_mul]; congr 1; omega
          cases hbe : Nat.beq len l with
          | true => have := Nat.eq_of_beq_eq_true hbe; subst this; simp; omega
          | false => simp only [cond_false]; omega
        have hgs : VR G.Z G.ι (.gs g n (bif Nat.beq len l then off else off + l * n) (hh - l)) (.slice (some ⟨pb.1, bif Nat.beq len l then pb.2.1 + off else pb.2.1 + off + l * n, none⟩) (hh - l) (len - l)) := by
          cases hbe : Nat.beq len l with
          | true => rw [hbe] at hroom; exact .gs hg (by omega) hroom
          | false => rw [hbe] at hroom; exact .gs_add hg (by omega) hroom
        exact opVal (P := P) H hd (hrun _ _ he) (fun _ => slotV hgs) b5 hn
      · cases b3
  · cases b3
end
end Go.Abs
namespace Go.Abs
variable [YTab]
set_option linter.unusedVariables false
set_option linter.unusedSimpArgs false
section
variable {P : Program} {C : CallF} {nt : Nat} {o : Oper}
def L2 (Z : Fz) (ι : Iot) (cs : List AVal) (vs : List Value) : Prop :=
  cs.length = vs.length ∧ ∀ (j : Nat) c v, cs[j]? = some c → vs[j]? = some v → VR Z ι c v ∧ one v = true
variable {Z : Fz} {ι : Iot}
theorem L2.nil : L2 Z ι [] [] := ⟨rfl, by simp⟩
theorem L2.cons {c : AVal} {v : Value} {cs : List AVal} {vs : List Value} (h1 : VR Z ι c v) (h2 : one v = true) (h : L2 Z ι cs vs) : L2 Z ι (c :: cs) (v :: vs) :=
  ⟨by simp [h.1], fun j a b ha hb => by
    cases j with
    | zero => simp at ha hb; subst ha; subst hb; exact ⟨h1, h2⟩
    | succ j => exact h.2 j a b (by simpa using ha) (by simpa using hb)⟩
theorem L2.take {cs : List AVal} {vs : List Value} (h : L2 Z ι cs vs) (n : Nat) : L2 Z ι (cs.take n) (vs.take n) :=
  ⟨by simp [h.1], fun j a b ha hb => by
    rw [List.getElem?_take] at ha hb
    split at ha
    · rename_i hj; rw [if_pos hj] at hb; exact h.2 j a b ha hb
    · cases ha⟩
theorem L2.drop {cs : List AVal} {vs : List Value} (h : L2 Z ι cs vs) (n : Nat) : L2 Z ι (cs.drop n) (vs.drop n) :=
  ⟨by simp [h.1], fun j a b ha hb => by
    rw [List.getElem?_drop] at ha hb
    exact h.2 _ a b ha hb⟩
theorem L2.append {cs ds : List AVal} {vs us : List Value} (h : L2 Z ι cs vs) (k : L2 Z ι ds us) : L2 Z ι (cs ++ ds) (vs ++ us) :=
  ⟨by simp [h.1, k.1], fun j a b ha hb => by
    rw [List.getElem?_append] at ha hb
    split at ha
    · rename_i hj; rw [if_pos (by rw [← h.1]; exact hj)] at hb; exact h.2 j a b ha hb
    · rename_i hj
      rw [if_neg (by rw [← h.1]; exact hj)] at hb
      rw [← h.1] at hb
      exact k.2 _ a b ha hb⟩
def blit (vs : List Value) (off : Nat) (us : List Value) : List Value := vs.take off ++ (us ++ vs.drop (off + us.length))
theorem L2.splice {cs xs : List AVal} {vs us : List Value} (h : L2 Z ι cs vs) (k : L2 Z ι xs us) (off : Nat) : L2 Z ι (splice cs off xs) (blit vs off us) := by
  unfold Go.Abs.splice blit
  rw [← k.1]
  exact (h.take off).append (k.append (h.drop _))
theorem blit_length {vs us : List Value} {off : Nat} (h : off + us.length ≤ vs.length) : (blit vs off us).length = vs.length := by
  simp [blit]; omega
theorem splice_length {vs us : List AVal} {off : Nat} (h : off + us.length ≤ vs.length) : (splice vs off us).length = vs.length := by
  simp [splice]; omega
theorem VR.l2 {a : AVal} {v : Value} (h : VR Z ι a v) (ht : ∀ vs, a ≠ .tup vs) : L2 Z ι a.cells v.cells.toList := by
  obtain ⟨h1, h2⟩ := h.cells ht
  refine ⟨by simp [h1], fun j c u hc hu => ?_⟩
  obtain ⟨u', hu', h3, h4⟩ := h2 j c hc
  simp at hu
  rw [hu'] at hu; cases hu
  exact ⟨h3, h4⟩
theorem L2.agg {cs : List AVal} {vs : List Value} (h : L2 Z ι cs vs) : VR Z ι (.agg cs) (.agg vs.toArray) :=
  .agg (by simp [h.1]) (fun i a v h1 h2 => (h.2 i a v h1 (by simpa using h2)).1) (fun i v h2 => by
    have hi : i < cs.length := by
      rw [h.1]
      have := (Array.getElem?_eq_some_iff.1 h2).1
      simpa using this
    exact (h.2 i _ v (List.getElem?_eq_getElem hi) (by simpa using h2)).2)
theorem L2.mono {Z' : Fz} {ι' : Iot} (hZ : ∀ a v, Z a = some v → Z' a = some v) (hι : ∀ g b, ι g = some b → ι' g = some b) {cs : List AVal} {vs : List Value} (h : L2 Z ι cs vs) : L2 Z' ι' cs vs :=
  ⟨h.1, fun j c v hc hv => ⟨(h.2 j c v hc hv).1.mono hZ hι, (h.2 j c v hc hv).2⟩⟩
theorem BoxR.ofK {G : Gh} {w : World} {B : Box} {b k : Nat} {arr : Array Value} {T : TypeId} {fr : Nat × Nat} (hb : w.heap[b]? = some (.cells arr T fr)) (hf : ∀ j, j < arr.size → ¬ (fr.1 ≤ j ∧ j < fr.2))
    (hl : k + B.cells.length ≤ arr.size ∧ (k = 0 ∨ (2 ≤ B.cells.length ∧ B.obj = false))) (h : L2 G.Z G.ι B.cells ((arr.toList.drop k).take B.cells.length)) : BoxR G w B b k :=
  ⟨arr, T, fr, hb, hl, hf, fun j c hc => by
    have hj := (List.getElem?_eq_some_iff.1 hc).1
    have hj2 : k + j < arr.size := by omega
    have h2 := h.2 j c arr[k + j] hc (by rw [List.getElem?_take, if_pos hj, List.getElem?_drop]; simp [hj2])
    exact ⟨arr[k + j], Array.getElem?_eq_getElem hj2, h2.1, h2.2⟩⟩
theorem BoxR.of {G : Gh} {w : World} {B : Box} {b : Nat} {arr : Array Value} {T : TypeId} {fr : Nat × Nat} (hb : w.heap[b]? = some (.cells arr T fr)) (hf : ∀ j, j < arr.size → ¬ (fr.1 ≤ j ∧ j < fr.2))
    (hl : B.cells.length ≤ arr.size) (h : L2 G.Z G.ι B.cells (arr.toList.take B.cells.length)) : BoxR G w B b :=
  .ofK hb hf ⟨by omega, .inl rfl⟩ (by rw [List.drop_zero]; exact h)
theorem L2.full {cs : List AVal} {vs : List Value} (h : L2 Z ι cs vs) : L2 Z ι (Box.mk cs).cells (vs.take (Box.mk cs).cells.length) := by
  show L2 Z ι cs (vs.take cs.length)
  rw [h.1, List.take_length]; exact h
theorem Rel.newL {G : Gh} {nt : Nat} {st : St} {a : Act} {w w' : World} (H : Rel G nt st a.tmps w) {d : Nat} (hd : d < nt) (hno : st (.l d) = .bx none) {arr : Array Value} {T : TypeId} {fr : Nat × Nat} {B : Box} {s : Slot} {v : Value}
    (hheap : w'.heap = w.heap.push (.cells arr T fr)) (h1 : w'.os = w.os) (h2 : w'.tape = w.tape) (h3 : w'.output = w.output) (hf : ∀ j, j < arr.size → ¬ (fr.1 ≤ j ∧ j < fr.2))
    (hl : B.cells.length ≤ arr.size) (hB : L2 G.Z G.ι B.cells (arr.toList.take B.cells.length))
    (hs : (s = .lp d 0 ∧ v = .pointer (some ⟨w.heap.size, 0, none⟩)) ∨ ∃ n cap, s = .ls d 0 n ∧ v = .slice (some ⟨w.heap.size, 0, none⟩) n cap ∧ n ≤ cap) :
    ∃ G', Rel G' nt (upds st [(.l d, .bx (some B)), (.s d, .sv s)]) (a.put (some d) v).tmps w' ∧ Fr G w G' w' := by
  let G' : Gh := { G with lm := fun i => if i = d then some w.heap.size else G.lm i, own := fun b => if b = w.heap.size then some (.lbox d) else G.own b }
  have hsz : w.heap.size ≤ w'.heap.size := by simp [hheap]
  have hold : ∀ b, b < w.heap.size → w'.heap[b]? = w.heap[b]? := by
    intro b hb; rw [hheap, Array.getElem?_push, if_neg (by omega)]
  have hnew : w'.heap[w.heap.size]? = some (.cells arr T fr) := by rw [hheap, Array.getElem?_push]; simp
  have R1 := H.grow hsz hold
  have hlt : ∀ b oo, G.own b = some oo → b ≠ w.heap.size := fun b oo h => by have := H.ownlt b oo h; omega
  have hown : ∀ b oo, G.own b = some oo → G'.own b = some oo := fun b oo h => by simp [G', hlt b oo h, h]
  have hbl : ∀ i, i ≠ d → upd st (.l d) (.bx (some B)) (.l i) = st (.l i) := fun i h => upd_ne _ _ (by simpa using h)
  have hls : ∀ i, upd st (.l d) (.bx (some B)) (.s i) = st (.s i) := fun i => upd_ne _ _ (by simp)
  have hlg : upd st (.l d) (.bx (some B)) .g = st .g := upd_ne _ _ (by simp)
  have R2 : Rel G' nt (upd st (.l d) (.bx (some B))) a.tmps w' := by
    refine ⟨R1.size, fun i s hi => ?_, fun i B' hB' => ?_, fun sg hg g B' hB' hne => ?_, fun sg hg => R1.gdom sg (by rwa [hlg] at hg), fun sg hg g B' hB' hne => ?_, fun aa v h => ?_, fun b oo h => ?_⟩
    · rw [hls] at hi
      have h0 := R1.slots i s hi
      cases s with
      | v vv f =>
        refine ⟨h0.1, fun hf => ?_⟩
        obtain ⟨nn, sz, l, e1, e2⟩ := h0.2 hf
        refine ⟨nn, sz, l, e1, ?_⟩
        rcases e2 with e2 | ⟨b, off, n, cap, e3, e4, e5⟩
        · exact .inl e2
        · exact .inr ⟨b, off, n, cap, e3, hown _ _ e4, e5⟩
      | lp b off =>
        obtain ⟨blk, e1, ⟨B', e2⟩, e3⟩ := h0
        have hne : b ≠ d := by rintro rfl; rw [hno] at e2; cases e2
        exact ⟨blk, by simp [G', hne, e1], ⟨B', by rw [hbl _ hne]; exact e2⟩, e3⟩
      | ls b off n =>
        obtain ⟨blk, cap, e1, ⟨B', e2⟩, e3⟩ := h0
        have hne : b ≠ d := by rintro rfl; rw [hno] at e2; cases e2
        exact ⟨blk, cap, by simp [G', hne, e1], ⟨B', by rw [hbl _ hne]; exact e2⟩, e3⟩
    · by_cases hi : i = d
      · subst hi
        rw [upd_self] at hB'
        cases hB'
        exact ⟨w.heap.size, by simp [G'], by simp [G'], .of (G := G') hnew hf hl hB⟩
      · rw [hbl _ hi] at hB'
        obtain ⟨b, e1, e2, e3⟩ := R1.lbox i B' hB'
        exact ⟨b, by simp [G', hi, e1], hown _ _ e2, e3⟩
    · rw [hlg] at hg
      obtain ⟨b, e1, e2, e3, e4⟩ := R1.gbox sg hg g B' hB' hne
      exact ⟨b, e1, hown _ _ e2, e3, e4⟩
    · rw [hlg] at hg
      obtain ⟨b, e1, e2, e3⟩ := R1.gobj sg hg g B' hB' hne
      exact ⟨b, e1, hown _ _ e2, e3.mono rfl (fun _ _ h => h) (fun _ _ h => h)⟩
    · obtain ⟨e1, e2, e3⟩ := R1.frz aa v h
      have hb := cell_lt (H.frz aa v h).1
      refine ⟨e1, e2, fun oo ho => e3 oo ?_⟩
      simp only [G'] at ho
      rwa [if_neg (by omega)] at ho
    · simp only [G'] at h
      split at h
      · rename_i hb; subst hb; simp [hheap]
      · exact Nat.lt_of_lt_of_le (H.ownlt b oo h) hsz
  refine ⟨G', ?_, h1, h2, h3, hsz, fun _ _ h => h, fun _ _ h => h, fun b hb ho => ⟨hold b hb, by simp [G', ho]; omega, fun _ _ => rfl⟩⟩
  refine R2.setSlot d s v hd ?_
  rcases hs with ⟨rfl, rfl⟩ | ⟨n, cap, rfl, rfl, hc⟩
  · exact ⟨w.heap.size, by simp [G'], ⟨B, upd_self _ _ _⟩, rfl⟩
  · exact ⟨w.heap.size, cap, by simp [G'], ⟨B, upd_self _ _ _⟩, rfl, hc⟩
theorem ok_boxL {t : TypeId} {x : Operand} (hd : ∀ x, o.dst = some x → x < nt) (hop : o.op = .box t x) : OpOK P C nt o (.boxL x) := by
  intro G st a w H out c h next Q hn hp
  simp only [sem] at h
  split at h
  · rename_i d hdst
    obtain ⟨v, h1, h2⟩ := withA_some h
    split at h2
    · rename_i hno
      obtain ⟨hv, ht⟩ := rdA_rel H h1
      have hl2 := hv.l2 ht
      obtain ⟨G', R', F'⟩ := H.newL (w' := { w with heap := w.heap.push (.cells (a.eval x).cells t) }) (hd d hdst) hno (arr := (a.eval x).cells) (T := t) (fr := (0, 0)) (B := .mk v.cells) rfl rfl rfl rfl (by intro j _; simp) (by have := hl2.1; simp at this; simp [this])
        hl2.full (.inl ⟨rfl, rfl⟩)
      have hrun : (execOp a.eval o).run P w = .ok (.value (.pointer (some ⟨w.heap.size, 0, none⟩))) { w with heap := w.heap.push (.cells (a.eval x).cells t) } := by
        simp [execOp, hop, Instr.box, newVar, newRow]
      exact wp_val hrun (hn _ G' _ _ h2 (by rw [hdst]; exact R') (put_defers _ _ _) F')
    · cases h2
  · cases h
theorem zero_rel {Z : Fz} {ι : Iot} : ∀ {ks : List CK} {vs : List Value} {z : List AVal}, zeroCells ks vs = some z → L2 Z ι z vs
  | [], [], z, h => by simp [zeroCells] at h; subst h; exact .nil
  | [], _ :: _, z, h => by simp [zeroCells] at h
  | k :: ks, [], z, h => by cases k <;> simp [zeroCells] at h
  | k :: ks, v :: vs, z, h => by
    unfold zeroCells at h
    split at h
    · rename_i heq; cases heq
    · rename_i sz ks' vs' e1 e2
      cases e1; cases e2
      simp at h
      obtain ⟨z', hz, rfl⟩ := h
      exact .cons .nil rfl (zero_rel hz)
    · cases h
    · rename_i e1 e2
      cases e1; cases e2
      split at h
      · rename_i h1
        simp at h
        obtain ⟨z', hz, rfl⟩ := h
        exact .cons (.at h1) h1 (zero_rel hz)
      · cases h
    · cases h
theorem zeroT_run {t : TypeId} {z : List AVal} (h : zeroT P t = some z) (w : World) : ∃ v, (zeroValue t).run P w = .ok v w ∧ ∀ Z ι, L2 Z ι z v.cells.toList := by
  unfold zeroT at h
  split at h
  · rename_i ks agg v hk hz
    cases hi : P.info? t with
    | none => simp [hi] at hz
    | some inf =>
      simp [hi] at hz
      exact ⟨v, by simp [zeroValue, typeInfo, hi, hz], fun Z ι => zero_rel h⟩
  · cases h
theorem ok_allocL {t : TypeId} {z : List AVal} (hd : ∀ x, o.dst = some x → x < nt) (hop : o.op = .alloc t) (hz : zeroT P t = some z) : OpOK P C nt o (.allocL z) := by
  intro G st a w H out c h next Q hn hp
  simp only [sem] at h
  split at h
  · rename_i d hdst
    split at h
    · rename_i hno
      obtain ⟨v, hv, hl⟩ := zeroT_run hz w
      have hl2 := hl G.Z G.ι
      obtain ⟨G', R', F'⟩ := H.newL (w' := { w with heap := w.heap.push (.cells v.cells t) }) (hd d hdst) hno (arr := v.cells) (T := t) (fr := (0, 0)) (B := .mk z) rfl rfl rfl rfl (by intro j _; simp) (by have := hl2.1; simp at this; simp [this])
        hl2.full (.inl ⟨rfl, rfl⟩)
      have hrun : (execOp a.eval o).run P w = .ok (.value (.pointer (some ⟨w.heap.size, 0, none⟩))) { w with heap := w.heap.push (.cells v.cells t) } := by
        simp [execOp, hop, Instr.alloc, hv, newVar, newRow]
      exact wp_val hrun (hn _ G' _ _ h (by rw [hdst]; exact R') (put_defers _ _ _) F')
    · cases h
  · cases h
end
end Go.Abs
namespace Go.Abs
variable [YTab]
set_option linter.unusedVariables false
set_option linter.unusedSimpArgs false
section
variable {P : Program} {C : CallF} {nt : Nat} {o : Oper}
theorem heap_setCell (w : World) (b off : Nat) (v : Value) (arr : Array Value) (T : TypeId) (fr : Nat × Nat) (h : w.heap[b]? = some (.cells arr T fr)) :
    (w.setCell ⟨b, off, none⟩ v).heap[b]? = some (.cells (arr.setIfInBounds off v) T fr) ∧ (∀ c, c ≠ b → (w.setCell ⟨b, off, none⟩ v).heap[c]? = w.heap[c]?) ∧ (w.setCell ⟨b, off, none⟩ v).heap.size = w.heap.size := by
  refine ⟨?_, fun c hc => ?_, by simp [World.setCell]⟩
  · simp [World.setCell, Array.getElem?_modify, h]
  · simp only [World.setCell, Array.getElem?_modify]
    rw [if_neg (fun e => hc e.symm)]
theorem run_storeCells_blit (P : Program) (b off : Nat) (T : TypeId) (fr : Nat × Nat) : ∀ (vs : List Value) (i : Nat) (w : World) (arr : Array Value), w.heap[b]? = some (.cells arr T fr) →
    off + i + vs.length ≤ arr.size → (∀ j, off + i ≤ j → j < off + i + vs.length → ¬ (fr.1 ≤ j ∧ j < fr.2)) → (∀ v ∈ vs, one v = true) →
    ∃ w', (storeCells ⟨b, off, none⟩ vs i).run P w = .ok () w' ∧ w'.heap[b]? = some (.cells (blit arr.toList (off + i) vs).toArray T fr) ∧ (∀ c, c ≠ b → w'.heap[c]? = w.heap[c]?) ∧ w'.heap.size = w.heap.size ∧
      w'.os = w.os ∧ w'.tape = w.tape ∧ w'.output = w.output
  | [], i, w, arr, h, _, _, _ => ⟨w, by simp [storeCells], by simp [blit, h], fun _ _ => rfl, rfl, rfl, rfl, rfl⟩
  | v :: vs, i, w, arr, h, hs, hf, h1 => by
    have hv := h1 v (by simp)
    simp only [List.length_cons] at hs hf
    have hcell : w.cell? ⟨b, off + i, none⟩ = some (arr[off + i]'(by omega)) := by
      simp only [World.cell?, h]; simp [Array.getElem?_eq_getElem (show off + i < arr.size by omega)]
    have hfz : w.frozen? ⟨b, off + i, none⟩ = false := by
      have := hf (off + i) (by omega) (by omega)
      simp only [World.frozen?, h]
      simp only [Bool.and_eq_false_iff, decide_eq_false_iff_not]
      omega
    have hone : v.oneCell' = true := by cases v <;> simp [one] at hv <;> rfl
    obtain ⟨k1, k2, k3⟩ := heap_setCell w b (off + i) v arr T fr h
    obtain ⟨w', r1, r2, r3, r4, r5, r6, r7⟩ := run_storeCells_blit P b off T fr vs (i + 1) (w.setCell ⟨b, off + i, none⟩ v) (arr.setIfInBounds (off + i) v) k1 (by simp; omega)
      (fun j h1 h2 => hf j (by omega) (by omega)) (fun u hu => h1 u (by simp [hu]))
    refine ⟨w', ?_, ?_, fun c hc => (r3 c hc).trans (k2 c hc), r4.trans k3, r5, r6, r7⟩
    · simp only [storeCells, Sem.run_bind, add_mk, run_store P w _ v .plain hone, hcell, hfz]
      simpa using r1
    · rw [r2]
      congr 2
      apply Array.ext'
      simp only [Array.toList_setIfInBounds]
      unfold blit
      have hlt : off + i < arr.toList.length := by simp; omega
      rw [← Nat.add_assoc]
      rw [List.take_succ_eq_append_getElem (by simp; omega)]
      simp only [List.getElem_set_self, List.take_set_of_le (Nat.le_refl _), List.append_assoc, List.singleton_append, List.cons_append, List.nil_append, List.length_cons]
      rw [List.drop_set_of_lt (by omega)]
      rw [show off + i + 1 + vs.length = off + i + (vs.length + 1) by omega]
theorem Rel.storeL {G : Gh} {nt : Nat} {st : St} {tm : Array Value} {w w' : World} (H : Rel G nt st tm w) {r b : Nat} {B B' : Box} (hB : st (.l r) = .bx (some B)) (hb : G.lm r = some b) (ho : G.own b = some (.lbox r))
    (h1 : w'.os = w.os) (h2 : w'.tape = w.tape) (h3 : w'.output = w.output) (hsz : w'.heap.size = w.heap.size) (hne : ∀ c, c ≠ b → w'.heap[c]? = w.heap[c]?) (hbox : BoxR G w' B' b) :
    Rel G nt (upd st (.l r) (.bx (some B'))) tm w' ∧ Fr G w G w' := by
  have hls : ∀ i, upd st (.l r) (.bx (some B')) (.s i) = st (.s i) := fun i => upd_ne _ _ (by simp)
  have hlg : upd st (.l r) (.bx (some B')) .g = st .g := upd_ne _ _ (by simp)
  have hbx : ∀ i B0, st (.l i) = .bx (some B0) → ∃ B1, upd st (.l r) (.bx (some B')) (.l i) = .bx (some B1) := by
    intro i B0 h
    by_cases hi : i = r
    · subst hi; exact ⟨B', upd_self _ _ _⟩
    · exact ⟨B0, by rw [upd_ne _ _ (by simpa using hi)]; exact h⟩
  have hob : ∀ c oo, G.own c = some oo → oo ≠ .lbox r → c ≠ b := by
    rintro c oo h h' rfl; rw [ho] at h; cases h; exact h' rfl
  constructor
  · refine ⟨H.size, fun i s hi => ?_, fun i B0 h => ?_, fun sg hg g B0 h hne0 => ?_, fun sg hg => H.gdom sg (by rwa [hlg] at hg), fun sg hg g B0 h hne0 => ?_, fun aa v h => ?_, fun c oo h => by rw [hsz]; exact H.ownlt c oo h⟩
    · rw [hls] at hi
      exact ((H.slots i s hi).world fun c hc => hne c (hob c _ hc (by simp))).congr hbx
    · by_cases hi : i = r
      · subst hi
        rw [upd_self] at h; cases h
        exact ⟨b, hb, ho, hbox⟩
      · rw [upd_ne _ _ (by simpa using hi)] at h
        obtain ⟨c, e1, e2, e3⟩ := H.lbox i B0 h
        exact ⟨c, e1, e2, e3.world (hne c (hob c _ e2 (by simpa using hi)))⟩
    · rw [hlg] at hg
      obtain ⟨c, e1, e2, e3, e4⟩ := H.gbox sg hg g B0 h hne0
      exact ⟨c, e1, e2, e3.world (hne c.1 (hob c.1 _ e2 (by simp))), e4.same (hne c.1 (hob c.1 _ e2 (by simp)))⟩
    · rw [hlg] at hg
      obtain ⟨c, e1, e2, e3⟩ := H.gobj sg hg g B0 h hne0
      exact ⟨c, e1, e2, e3.mono (hne c.1 (hob c.1 _ e2 (by simp))) (fun _ _ h => h) (fun _ _ h => h)⟩
    · obtain ⟨e1, e2, e3⟩ := H.frz aa v h
      have : aa.block ≠ b := by
        intro e
        obtain ⟨i, hi⟩ := e3 (.lbox r) (by rw [e]; exact ho)
        cases hi
      exact ⟨(cell_same (hne _ this)).trans e1, e2, e3⟩
  · exact ⟨h1, h2, h3, Nat.le_of_eq hsz.symm, fun _ _ h => h, fun _ _ h => h, fun c hc ho' => ⟨hne c (by rintro rfl; rw [ho] at ho'; cases ho'), ho', fun _ _ => rfl⟩⟩
theorem Rel.storeG {G : Gh} {nt : Nat} {st : St} {tm : Array Value} {w w' : World} (H : Rel G nt st tm w) {g : Nat} {p : Nat × Nat × Nat} {sg : Sg} {B B' : Box} (hsg : st .g = .sg sg) (hB : sg[g]? = some B) (hb : G.ι g = some p) (ho : G.own p.1 = some (.gbox g)) (hroom : Room w' p) (hno : B'.obj = false)
    (h1 : w'.os = w.os) (h2 : w'.tape = w.tape) (h3 : w'.output = w.output) (hsz : w'.heap.size = w.heap.size) (hne : ∀ c, c ≠ p.1 → w'.heap[c]? = w.heap[c]?) (hbox : BoxR G w' B' p.1 p.2.1) :
    Rel G nt (upd st .g (.sg (sg.set g B'))) tm w' ∧ Fr G w G w' := by
  have hls : ∀ i, upd st .g (.sg (sg.set g B')) (.s i) = st (.s i) := fun i => upd_ne _ _ (by simp)
  have hll : ∀ i, upd st .g (.sg (sg.set g B')) (.l i) = st (.l i) := fun i => upd_ne _ _ (by simp)
  have hob : ∀ c oo, G.own c = some oo → oo ≠ .gbox g → c ≠ p.1 := by
    rintro c oo h h' rfl; rw [ho] at h; cases h; exact h' rfl
  constructor
  · refine ⟨H.size, fun i s hi => ?_, fun i B0 h => ?_, fun sg' hg g' B0 h hne0 => ?_, fun sg' hg => ?_, fun sg' hg g' B0 h hne0 => ?_, fun aa v h => ?_, fun c oo h => by rw [hsz]; exact H.ownlt c oo h⟩
    · rw [hls] at hi
      exact ((H.slots i s hi).world fun c hc => hne c (hob c _ hc (by simp))).congr fun b B hB => ⟨B, by rw [hll]; exact hB⟩
    · rw [hll] at h
      obtain ⟨c, e1, e2, e3⟩ := H.lbox i B0 h
      exact ⟨c, e1, e2, e3.world (hne c (hob c _ e2 (by simp)))⟩
    · rw [upd_self] at hg; cases hg
      rw [List.getElem?_set] at h
      by_cases hi : g = g'
      · subst hi
        rw [if_pos rfl] at h
        split at h
        · cases h; exact ⟨p, hb, ho, hbox, hroom⟩
        · cases h
      · rw [if_neg hi] at h
        obtain ⟨c, e1, e2, e3, e4⟩ := H.gbox sg hsg g' B0 h hne0
        exact ⟨c, e1, e2, e3.world (hne c.1 (hob c.1 _ e2 (by simp; omega))), e4.same (hne c.1 (hob c.1 _ e2 (by simp; omega)))⟩
    · rw [upd_self] at hg; cases hg
      simpa using H.gdom sg hsg
    · rw [upd_self] at hg; cases hg
      rw [List.getElem?_set] at h
      by_cases hi : g = g'
      · subst hi
        rw [if_pos rfl] at h
        split at h
        · cases h; rw [hno] at hne0; cases hne0
        · cases h
      · rw [if_neg hi] at h
        obtain ⟨c, e1, e2, e3⟩ := H.gobj sg hsg g' B0 h hne0
        exact ⟨c, e1, e2, e3.mono (hne c.1 (hob c.1 _ e2 (by simp; omega))) (fun _ _ h => h) (fun _ _ h => h)⟩
    · obtain ⟨e1, e2, e3⟩ := H.frz aa v h
      have : aa.block ≠ p.1 := by
        intro e
        obtain ⟨i, hi⟩ := e3 (.gbox g) (by rw [e]; exact ho)
        cases hi
      exact ⟨(cell_same (hne _ this)).trans e1, e2, e3⟩
  · exact ⟨h1, h2, h3, Nat.le_of_eq hsz.symm, fun _ _ h => h, fun _ _ h => h, fun c hc ho' => ⟨hne c (by rintro rfl; rw [ho] at ho'; cases ho'), ho', fun _ _ => rfl⟩⟩
theorem L2.of_boxK {G : Gh} {w : World} {B : Box} {b k : Nat} {arr : Array Value} {T : TypeId} {fr : Nat × Nat} (h : BoxR G w B b k) (hb : w.heap[b]? = some (.cells arr T fr)) :
    (k + B.cells.length ≤ arr.size ∧ (k = 0 ∨ (2 ≤ B.cells.length ∧ B.obj = false))) ∧ (∀ j, j < arr.size → ¬ (fr.1 ≤ j ∧ j < fr.2)) ∧ L2 G.Z G.ι B.cells ((arr.toList.drop k).take B.cells.length) := by
  obtain ⟨arr', T', fr', h1, h2, h3, h4⟩ := h
  rw [hb] at h1; cases h1
  refine ⟨h2, h3, by simp; omega, fun j c v hc hv => ?_⟩
  obtain ⟨u, hu, e1, e2⟩ := h4 j c hc
  rw [List.getElem?_take] at hv
  split at hv
  · rw [List.getElem?_drop] at hv
    simp at hv; rw [hu] at hv; cases hv; exact ⟨e1, e2⟩
  · cases hv
theorem blit_get {vs us : List Value} {off : Nat} (h : off + us.length ≤ vs.length) (j : Nat) : (blit vs off us)[j]? = if j < off then vs[j]? else if j < off + us.length then us[j - off]? else vs[j]? := by
  unfold blit
  rw [List.getElem?_append]
  simp only [List.length_take]
  by_cases h1 : j < off
  · rw [if_pos (by omega), if_pos h1, List.getElem?_take, if_pos h1]
  · rw [if_neg (by omega), if_neg h1, List.getElem?_append]
    rw [show min off vs.length = off by omega]
    by_cases h2 : j < off + us.length
    · rw [if_pos (by omega), if_pos h2]
    · rw [if_neg (by omega), if_neg h2, List.getElem?_drop]
      congr 1; omega
theorem blit_take {vs us : List Value} {off n : Nat} (h : off + us.length ≤ n) (hn : n ≤ vs.length) : (blit vs off us).take n = blit (vs.take n) off us := by
  apply List.ext_getElem?
  intro j
  rw [List.getElem?_take, blit_get (by omega), blit_get (by simp; omega)]
  by_cases hj : j < n
  · rw [if_pos hj, List.getElem?_take, if_pos hj]
  · rw [if_neg hj, if_neg (by omega), if_neg (by omega), List.getElem?_take, if_neg hj]
theorem blit_drop {vs us : List Value} {k off : Nat} (h : k + off + us.length ≤ vs.length) : (blit vs (k + off) us).drop k = blit (vs.drop k) off us := by
  apply List.ext_getElem?
  intro j
  rw [List.getElem?_drop, blit_get h, blit_get (by simp; omega), List.getElem?_drop]
  by_cases h1 : j < off
  · rw [if_pos (by omega), if_pos h1]
  · rw [if_neg (by omega), if_neg h1]
    by_cases h2 : j < off + us.length
    · rw [if_pos (by omega), if_pos h2]
      congr 1; omega
    · rw [if_neg (by omega), if_neg h2]
theorem box_storedK {G : Gh} {w : World} {B : Box} {b off k : Nat} {v : AVal} {u : Value} (h : BoxR G w B b k) (hv : VR G.Z G.ι v u) (ht : ∀ vs, v ≠ .tup vs) (hle : off + v.cells.length ≤ B.cells.length) :
    ∃ w', (storeCells ⟨b, k + off, none⟩ u.cells.toList 0).run P w = .ok () w' ∧ BoxR G w' (.mk (splice B.cells off v.cells)) b k ∧ (∀ c, c ≠ b → w'.heap[c]? = w.heap[c]?) ∧ w'.heap.size = w.heap.size ∧
      w'.os = w.os ∧ w'.tape = w.tape ∧ w'.output = w.output ∧ ∀ m, Room w (b, m) → Room w' (b, m) := by
  have h0 := h
  obtain ⟨arr, T, fr, hb, _⟩ := h0
  obtain ⟨h1, h2, h3⟩ := L2.of_boxK h hb
  have hl := hv.l2 ht
  obtain ⟨w', r1, r2, r3, r4, r5, r6, r7⟩ := run_storeCells_blit P b (k + off) T fr u.cells.toList 0 w arr hb (by rw [← hl.1]; omega) (fun j e1 e2 => h2 j (by rw [← hl.1] at e2; omega))
    (fun x hx => by
      obtain ⟨i, hi⟩ := List.getElem?_of_mem hx
      have hlt : i < v.cells.length := by rw [hl.1]; exact (List.getElem?_eq_some_iff.1 hi).1
      exact (hl.2 i _ x (List.getElem?_eq_getElem hlt) hi).2)
  refine ⟨w', r1, .ofK r2 ?_ ?_ ?_, r3, r4, r5, r6, r7, fun m hm => ?_⟩
  · intro j hj
    refine h2 j ?_
    have : (blit arr.toList (k + off + 0) u.cells.toList).length = arr.toList.length := blit_length (by rw [← hl.1]; simp; omega)
    simp at hj this
    omega
  · show k + (splice B.cells off v.cells).length ≤ _ ∧ (k = 0 ∨ (2 ≤ (splice B.cells off v.cells).length ∧ false = false))
    rw [splice_length hle]
    have : (blit arr.toList (k + off + 0) u.cells.toList).length = arr.toList.length := blit_length (by rw [← hl.1]; simp; omega)
    refine ⟨?_, h1.2.imp id fun h => ⟨h.1, rfl⟩⟩
    simp at this ⊢
    omega
  · show L2 _ _ (splice B.cells off v.cells) (List.take (splice B.cells off v.cells).length _)
    rw [splice_length hle]
    simp only [Nat.add_zero]
    rw [blit_drop (by rw [← hl.1]; simp; omega), blit_take (by rw [← hl.1]; omega) (by simp; omega)]
    exact h3.splice hl off
  · obtain ⟨arr', T', fr', q1, q2⟩ := hm
    rw [hb] at q1; cases q1
    refine ⟨_, _, _, r2, ?_⟩
    have : (blit arr.toList (k + off + 0) u.cells.toList).length = arr.toList.length := blit_length (by rw [← hl.1]; simp; omega)
    simp only [List.size_toArray, this, Array.length_toList]
    exact q2
theorem box_stored {G : Gh} {w : World} {B : Box} {b off : Nat} {v : AVal} {u : Value} (h : BoxR G w B b) (hv : VR G.Z G.ι v u) (ht : ∀ vs, v ≠ .tup vs) (hle : off + v.cells.length ≤ B.cells.length) :
    ∃ w', (storeCells ⟨b, off, none⟩ u.cells.toList 0).run P w = .ok () w' ∧ BoxR G w' (.mk (splice B.cells off v.cells)) b ∧ (∀ c, c ≠ b → w'.heap[c]? = w.heap[c]?) ∧ w'.heap.size = w.heap.size ∧
      w'.os = w.os ∧ w'.tape = w.tape ∧ w'.output = w.output ∧ ∀ m, Room w (b, m) → Room w' (b, m) := by
  have := box_storedK (P := P) h hv ht hle
  rw [Nat.zero_add] at this; exact this
theorem ok_store {t : TypeId} {n : Nat} {root : Option Nat} {x y : Operand} (hop : o.op = .store t x y) (hdst : o.dst = none) (hs : sizeT P t = some n) : OpOK P C nt o (.store n root x y) := by
  intro G st a w H out c h next Q hn hp
  simp only [sem] at h
  have hr := rdO_rel H x
  have hrun : ∀ b off u w', a.eval x = .pointer (some ⟨b, off, none⟩) → a.eval y = u → u.cells.size = n → (storeCells ⟨b, off, none⟩ u.cells.toList 0).run P w = .ok () w' → (execOp a.eval o).run P w = .ok .skip w' := by
    intro b off u w' he hu hsz hl
    simp [execOp, hop, he, hu, Instr.storeAt, Instr.sureAddr, storeVar, size_run hs, hsz, hl]
  rcases withBox_some h with ⟨r, off, B, h1, h2, h3, h4⟩ | ⟨g, off, f, sg, B, h1, h2, h3, h4, hnemp, h5⟩
  · obtain ⟨v, e1, e2⟩ := withA_some h4
    obtain ⟨e3, e4⟩ := bif_some e2
    obtain ⟨e5, e6⟩ := bif_some e4
    have e3 := Nat.eq_of_beq_eq_true e3
    have e5 := Nat.le_of_ble_eq_true e5
    obtain ⟨hv, ht⟩ := rdA_rel H e1
    rw [h2] at hr
    obtain ⟨blk, k1, k2, k3⟩ := hr
    obtain ⟨b, k4, k5, k6⟩ := H.lbox r B h3
    rw [k1] at k4; cases k4
    obtain ⟨w', r1, r2, r3, r4, r5, r6, r7, r8⟩ := box_stored (P := P) k6 hv ht (by rw [e3]; exact e5)
    obtain ⟨R', F'⟩ := H.storeL h3 k1 k5 r5 r6 r7 r4 r3 r2
    refine wp_skipO (hrun _ _ _ w' k3 rfl (by rw [(hv.cells ht).1]; exact e3) r1) (hn _ G _ _ e6 ?_ (put_defers _ _ _) F')
    rw [hdst]; exact R'
  · obtain ⟨v, e1, e2⟩ := withA_some h5
    obtain ⟨e3, e4⟩ := bif_some e2
    obtain ⟨e5, e6⟩ := bif_some e4
    have e3 := Nat.eq_of_beq_eq_true e3
    have e5 := Nat.le_of_ble_eq_true e5
    obtain ⟨hv, ht⟩ := rdA_rel H e1
    rw [h2] at hr
    rcases hr with hr | hr
    · cases hr
    generalize he : a.eval x = u at hr
    cases hr with
    | gp hg =>
      obtain ⟨b, k4, k5, k6, k7⟩ := H.gbox sg h3 g B h4 hnemp
      rw [hg] at k4; cases k4
      obtain ⟨w', r1, r2, r3, r4, r5, r6, r7, r8⟩ := box_storedK (P := P) k6 hv ht (by rw [e3]; exact e5)
      obtain ⟨R', F'⟩ := H.storeG h3 h4 hg k5 (r8 _ k7) rfl r5 r6 r7 r4 r3 r2
      have e7 : c (.go [(.g, .sg (sg.set g (.mk (splice B.cells off v.cells))))]) = some out := by
        simp only [bindL] at e6
        rw [h2, h3] at e6; exact e6
      refine wp_skipO (hrun _ _ _ w' he rfl (by rw [(hv.cells ht).1]; exact e3) r1) (hn _ G _ _ e7 ?_ (put_defers _ _ _) F')
      rw [hdst]; exact R'
end
end Go.Abs
namespace Go.Abs
variable [YTab]
set_option linter.unusedVariables false
set_option linter.unusedSimpArgs false
section
variable {P : Program} {C : CallF} {nt : Nat} {o : Oper}
structure ElemsR (Z : Fz) (ι : Iot) (sz : Nat) (l : List AVal) (cell : Nat → Option Value) : Prop where
  hsz : ∀ a ∈ l, a.cells.length = sz
  hagg : ∀ a ∈ l, (∃ cs, a = .agg cs) ∨ (a.cells = [a] ∧ ∀ vs, a ≠ .tup vs)
  hval : ∀ (i j : Nat) a c, l[i]? = some a → a.cells[j]? = some c → ∃ u, cell (i * sz + j) = some u ∧ VR Z ι c u
  hone : ∀ j, j < l.length * sz → ∃ u, cell j = some u ∧ one u = true
theorem ElemsR.vr {Z Z' : Fz} {ι : Iot} {sz : Nat} {l : List AVal} {cell : Nat → Option Value} {b off cap : Nat} (h : ElemsR Z ι sz l cell) (hZ : ∀ a v, Z a = some v → Z' a = some v)
    (hc : ∀ j, j < l.length * sz → Z' ⟨b, off + j, none⟩ = cell j) (hcap : l.length ≤ cap) : VR Z' ι (.sl false sz l) (.slice (some ⟨b, off, none⟩) l.length cap) := by
  refine .sl (fun j => (cell j).getD undef) rfl hcap h.hsz ?_ ?_ h.hagg
  · intro j hj
    obtain ⟨u, hu, _⟩ := h.hone j hj
    rw [hc j hj, hu]; rfl
  · intro i j a c hi hj
    obtain ⟨u, hu, hv⟩ := h.hval i j a c hi hj
    rw [hu]
    exact hv.mono hZ fun _ _ h => h
theorem Rel.newRow {G : Gh} {nt : Nat} {st : St} {a : Act} {w w' : World} (H : Rel G nt st a.tmps w) {d : Option Nat} (hd : ∀ x, d = some x → x < nt) {arr : Array Value} {T : TypeId} {sz cap : Nat} {l : List AVal}
    (hheap : w'.heap = w.heap.push (.cells arr T (0, 0))) (h1 : w'.os = w.os) (h2 : w'.tape = w.tape) (h3 : w'.output = w.output)
    (hE : ElemsR G.Z G.ι sz l (fun j => arr[j]?)) (hcap : l.length ≤ cap) (hcs : cap * sz ≤ arr.size) :
    ∃ G', Rel G' nt (upds st (dstU d (.v (.sl false sz l) true))) (a.put d (.slice (some ⟨w.heap.size, 0, none⟩) l.length cap)).tmps w' ∧ Fr G w G' w' := by
  have hsz : w.heap.size ≤ w'.heap.size := by simp [hheap]
  have hold : ∀ b, b < w.heap.size → w'.heap[b]? = w.heap[b]? := by
    intro b hb; rw [hheap, Array.getElem?_push, if_neg (by omega)]
  have hnew : w'.heap[w.heap.size]? = some (.cells arr T (0, 0)) := by rw [hheap, Array.getElem?_push]; simp
  have R1 := H.grow hsz hold
  cases d with
  | none => exact ⟨G, R1, Fr.grow h1 h2 h3 hsz hold⟩
  | some d =>
    let Z' : Fz := fun x => if x.block = w.heap.size then (if x.spot = none ∧ x.off < l.length * sz then arr[x.off]? else none) else G.Z x
    let G' : Gh := { G with Z := Z', own := fun b => if b = w.heap.size then some (.slot d) else G.own b }
    have hZlt : ∀ x v, G.Z x = some v → x.block ≠ w.heap.size := fun x v h => by have := cell_lt (H.frz x v h).1; omega
    have hZ : ∀ x v, G.Z x = some v → Z' x = some v := fun x v h => by simp [Z', hZlt x v h, h]
    have hlt : ∀ b oo, G.own b = some oo → b ≠ w.heap.size := fun b oo h => by have := H.ownlt b oo h; omega
    have hown : ∀ b oo, G.own b = some oo → G'.own b = some oo := fun b oo h => by simp [G', hlt b oo h, h]
    have hfree : ∀ b e m, b ≠ w.heap.size → Free G.Z w' b e m → Free Z' w' b e m := by
      rintro b e m hb ⟨ar, T', fr, k1, k2, k3, k4⟩
      exact ⟨ar, T', fr, k1, k2, fun j hj => by simp [Z', hb, k3 j hj], k4⟩
    have hbox : ∀ {k} B b, BoxR G w' B b k → BoxR G' w' B b k := by
      intro k
      rintro B b ⟨ar, T', fr, k1, k2, k3, k4⟩
      exact ⟨ar, T', fr, k1, k2, k3, fun j c hc => by obtain ⟨u, e1, e2, e3⟩ := k4 j c hc; exact ⟨u, e1, e2.mono hZ fun _ _ h => h, e3⟩⟩
    have R2 : Rel G' nt st a.tmps w' := by
      refine ⟨R1.size, fun i s hi => ?_, fun i B hB => ?_, fun sg hg g B hB hne => ?_, R1.gdom, fun sg hg g B hB hne => ?_, fun aa v h => ?_, fun b oo h => ?_⟩
      · have h0 := R1.slots i s hi
        cases s with
        | v vv f =>
          refine ⟨h0.1.imp id fun h => h.mono hZ fun _ _ h => h, fun hf => ?_⟩
          obtain ⟨nn, sz', l', e1, e2⟩ := h0.2 hf
          refine ⟨nn, sz', l', e1, ?_⟩
          rcases e2 with e2 | ⟨b, off, n, cap, e3, e4, e5⟩
          · exact .inl e2
          · exact .inr ⟨b, off, n, cap, e3, hown _ _ e4, hfree _ _ _ (hlt _ _ e4) e5⟩
        | lp b off => exact h0
        | ls b off n => exact h0
      · obtain ⟨b, e1, e2, e3⟩ := R1.lbox i B hB
        exact ⟨b, e1, hown _ _ e2, hbox _ _ e3⟩
      · obtain ⟨b, e1, e2, e3, e4⟩ := R1.gbox sg hg g B hB hne
        exact ⟨b, e1, hown _ _ e2, hbox _ _ e3, e4⟩
      · obtain ⟨b, e1, e2, e3⟩ := R1.gobj sg hg g B hB hne
        exact ⟨b, e1, hown _ _ e2, e3.mono rfl hZ (fun _ _ h => h)⟩
      · by_cases hb : aa.block = w.heap.size
        · simp only [G', Z'] at h
          rw [if_pos hb] at h
          split at h
          · rename_i hsp
            refine ⟨?_, ?_, fun oo ho => ?_⟩
            · simp only [World.cell?]
              rw [hb, hnew]
              simp [hsp.1, h]
            · obtain ⟨u, hu, h1⟩ := hE.hone aa.off hsp.2
              rw [h] at hu; cases hu; exact h1
            · simp only [G'] at ho
              rw [if_pos hb] at ho; cases ho; exact ⟨d, rfl⟩
          · cases h
        · simp only [G', Z'] at h
          rw [if_neg hb] at h
          obtain ⟨e1, e2, e3⟩ := R1.frz aa v h
          refine ⟨e1, e2, fun oo ho => e3 oo ?_⟩
          simp only [G'] at ho
          rwa [if_neg hb] at ho
      · simp only [G'] at h
        split at h
        · rename_i hb; subst hb; simp [hheap]
        · exact Nat.lt_of_lt_of_le (H.ownlt b oo h) hsz
    refine ⟨G', ?_, h1, h2, h3, hsz, hZ, fun _ _ h => h, fun b hb ho => ⟨hold b hb, by simp [G', ho]; omega, fun j s => ?_⟩⟩
    · refine R2.setSlot d _ _ (hd d rfl) ⟨.inr ?_, fun _ => ⟨false, sz, l, rfl, .inr ⟨w.heap.size, 0, l.length, cap, rfl, by simp [G'], arr, T, (0, 0), hnew, by omega, fun j hj => ?_, by simp⟩⟩⟩
      · refine hE.vr hZ (fun j hj => ?_) hcap
        simp [G', Z', hj]
      · simp only [G', Z']
        rw [if_pos trivial, if_neg (by simp; omega)]
    · show Z' _ = _
      have : b ≠ w.heap.size := by omega
      simp [Z', this]
theorem loadCells_some {G : Gh} {nt : Nat} {st : St} {tm : Array Value} {w : World} (H : Rel G nt st tm w) {b off n : Nat} (vals : Nat → Value) (hz : ∀ j, j < n → G.Z ⟨b, off + j, none⟩ = some (vals j)) :
    (loadCells ⟨b, off, none⟩ n).run P w = .ok ((List.range n).map vals).toArray w :=
  run_loadCells w ⟨b, off, none⟩ n vals fun j hj => by rw [add_mk]; exact (H.frz _ _ (hz j hj)).1
theorem cells_of {G : Gh} {nt : Nat} {st : St} {tm : Array Value} {w : World} (H : Rel G nt st tm w) {nn : Bool} {sz : Nat} {l : List AVal} {u : Value} (h : VR G.Z G.ι (.sl nn sz l) u) :
    ∃ arr : Array Value, arr.size = l.length * sz ∧ (Builtin.firstCells sz l.length u).run P w = .ok arr w ∧ (∃ cap b, u = .slice b l.length cap ∧ l.length ≤ cap) ∧ ElemsR G.Z G.ι sz l (fun j => arr[j]?) := by
  rcases h.sl_inv with ⟨rfl, rfl, rfl⟩ | ⟨rfl, b, off, cap, vals, rfl, hcap, hsz, hz, hr, hagg⟩
  · exact ⟨#[], by simp, by simp [Builtin.firstCells], ⟨0, none, rfl, Nat.le_refl _⟩, by simp, by simp, by simp, by simp⟩
  · refine ⟨((List.range (l.length * sz)).map vals).toArray, by simp, by simp only [Builtin.firstCells]; exact loadCells_some H vals hz, ⟨cap, _, rfl, hcap⟩, hsz, hagg, fun i j a c hi hj => ?_, fun j hj => ?_⟩
    · have hil := (List.getElem?_eq_some_iff.1 hi).1
      have hjl : j < sz := by
        rw [← hsz a (List.mem_of_getElem? hi)]; exact (List.getElem?_eq_some_iff.1 hj).1
      have : i * sz + j < l.length * sz := by
        have : i * sz + sz ≤ l.length * sz := by rw [← Nat.succ_mul]; exact Nat.mul_le_mul_right _ hil
        omega
      exact ⟨vals (i * sz + j), by simp [this], hr i j a c hi hj⟩
    · exact ⟨vals j, by simp [hj], (H.frz _ _ (hz j hj)).2.1⟩
theorem ofBytes_get (bs : List UInt8) (i : Nat) : (ofBytes bs)[i]? = bs[i]?.map fun b => .at (.int .u8 b.toNat) := by simp [ofBytes]
theorem ofBytes_elems {Z : Fz} {ι : Iot} (bs : List UInt8) (cell : Nat → Option Value) (h : ∀ (j : Nat) b, bs[j]? = some b → cell j = some (.int .u8 b.toNat)) : ElemsR Z ι 1 (ofBytes bs) cell := by
  refine ⟨?_, ?_, ?_, ?_⟩
  · intro a ha
    simp [ofBytes] at ha
    obtain ⟨b, _, rfl⟩ := ha; rfl
  · intro a ha
    simp [ofBytes] at ha
    obtain ⟨b, _, rfl⟩ := ha
    exact .inr ⟨rfl, by simp⟩
  · intro i j a c hi hj
    rw [ofBytes_get] at hi
    cases hb : bs[i]? with
    | none => simp [hb] at hi
    | some b =>
      simp [hb] at hi
      subst hi
      cases j with
      | zero => simp [AVal.cells] at hj; subst hj; exact ⟨_, by simpa using h i b hb, .at rfl⟩
      | succ j => simp [AVal.cells] at hj
  · intro j hj
    simp [ofBytes] at hj
    exact ⟨_, h j _ (List.getElem?_eq_getElem hj), rfl⟩
theorem appended_rel {G : Gh} {nt : Nat} {st : St} {a : Act} {w : World} (H : Rel G nt st a.tmps w) {y : Operand} {sz : Nat} {r : List AVal} (h : appended sz (rdA st y) = some r) :
    ∃ arr : Array Value, arr.size = r.length * sz ∧ (Builtin.firstCells sz r.length (a.eval y)).run P w = .ok arr w ∧ (Builtin.lenOf (a.eval y)).run P w = .ok r.length w ∧ ElemsR G.Z G.ι sz r (fun j => arr[j]?) := by
  unfold appended at h
  split at h
  · rename_i nn sz' l hy
    obtain ⟨h1, h2⟩ := bif_some h
    have h1 := Nat.eq_of_beq_eq_true h1
    subst h1; cases h2
    obtain ⟨arr, e1, e2, ⟨cap, b, e3, _⟩, e4⟩ := cells_of (P := P) H (rdA_rel H hy).1
    exact ⟨arr, e1, e2, by rw [e3]; simp [Builtin.lenOf], e4⟩
  · rename_i s hy
    obtain ⟨h1, h2⟩ := bif_some h
    have h1 := Nat.eq_of_beq_eq_true h1
    subst h1; cases h2
    have he := at_eq (rdA_rel H hy).1
    have hl : (ofBytes s.data.toList).length = s.size := by simp [ofBytes]
    refine ⟨s.data.map fun b => .int .u8 b.toNat, by simp [ofBytes], ?_, by simp [he, Builtin.lenOf, hl], ofBytes_elems _ _ fun j b hb => ?_⟩
    · rw [he, hl]
      simp only [Builtin.firstCells]
      rw [show s.extract 0 s.size = s by simp]
      rfl
    · simp at hb
      simp [hb]
  · cases h
end
end Go.Abs
