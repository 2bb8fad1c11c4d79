/- THE ENGINE, part 27: an instruction is a step. -/
import Derived.Test.YtafmbianlodemaaSnd23
namespace Go.Abs
set_option linter.unusedVariables false
set_option linter.unusedSimpArgs false
set_option linter.unusedSectionVars false
section
variable {α β : Type}

theorem withA_bind (a : Option AVal) (c : AVal → Option α) (f : α → Option β) : (withA a c).bind f = withA a fun x => (c x).bind f := by
  cases a <;> rfl
theorem withN_bind (a : Option AVal) (c : Int → Option α) (f : α → Option β) : (withN a c).bind f = withN a fun x => (c x).bind f := by
  unfold withN; split <;> rfl
theorem withI_bind (k : IntKind) (a : Option AVal) (c : Int → Option α) (f : α → Option β) : (withI k a c).bind f = withI k a fun x => (c x).bind f := by
  unfold withI; split
  · rename_i k' n; cases kEq k' k <;> rfl
  · rfl
theorem withB_bind (a : Option AVal) (c : Bool → Option α) (f : α → Option β) : (withB a c).bind f = withB a fun x => (c x).bind f := by
  unfold withB; split <;> rfl
theorem withS_bind (a : Option AVal) (c : ByteArray → Option α) (f : α → Option β) : (withS a c).bind f = withS a fun x => (c x).bind f := by
  unfold withS; split <;> rfl
theorem withL_bind (n : Nat) (a : Option AVal) (c : Bool → List AVal → Option α) (f : α → Option β) : (withL n a c).bind f = withL n a fun x y => (c x y).bind f := by
  unfold withL; split
  · rename_i nn sz l; cases Nat.beq sz n <;> rfl
  · rfl
theorem withG_bind (a : Option AVal) (c : List AVal → Option α) (f : α → Option β) : (withG a c).bind f = withG a fun x => (c x).bind f := by unfold withG; split <;> rfl
theorem withK_bind (k : CK) (a : Option AVal) (c : AVal → Option α) (f : α → Option β) : (withK k a c).bind f = withK k a fun x => (c x).bind f := by
  cases k <;> simp only [withK, withI_bind, withB_bind, withS_bind, withL_bind, withA_bind, withG_bind]
theorem withKs_bind : ∀ (ks : List CK) (cs : List AVal) (off : Nat) (c : List AVal → Option α) (f : α → Option β), (withKs ks cs off c).bind f = withKs ks cs off fun x => (c x).bind f
  | [], cs, off, c, f => rfl
  | k :: ks, cs, off, c, f => by simp only [withKs, withK_bind, withKs_bind]
theorem cond_bind (b : Bool) (x : Option α) (f : α → Option β) : (bif b then x else none).bind f = bif b then x.bind f else none := by cases b <;> rfl
theorem ite_bind {p : Prop} [Decidable p] (x : Option α) (f : α → Option β) : (if p then x else none).bind f = if p then x.bind f else none := by split <;> rfl
theorem ite_bind2 {p : Prop} [Decidable p] (x y : Option α) (f : α → Option β) : (if p then x else y).bind f = if p then x.bind f else y.bind f := by split <;> rfl
theorem bindL_bind (l : List AVal) (c : List AVal → Option α) (f : α → Option β) : (bindL l c).bind f = bindL l fun x => (c x).bind f := rfl
theorem withV_bind (ks : List CK) (agg : Bool) (cs : List AVal) (off : Nat) (c : AVal → Option α) (f : α → Option β) : (withV ks agg cs off c).bind f = withV ks agg cs off fun x => (c x).bind f := by
  unfold withV; split
  · rw [cond_bind]; rfl
  · rw [withK_bind]
  · rfl
theorem withO_bind {γ : Type} (a : Option γ) (c : γ → Option α) (f : α → Option β) : (withO a c).bind f = withO a fun x => (c x).bind f := by cases a <;> rfl
theorem withT_bind (v : AVal) (c : List AVal → Option α) (f : α → Option β) : (withT v c).bind f = withT v fun x => (c x).bind f := by unfold withT; split <;> rfl
theorem withRes_bind (ks : List CK) (v : AVal) (c : AVal → Option α) (f : α → Option β) : (withRes ks v c).bind f = withRes ks v fun x => (c x).bind f := by
  unfold withRes; split
  · rfl
  · rw [withK_bind]
  · simp only [withT_bind, cond_bind, withKs_bind]
theorem withOut_bind (r : R) (c d : AVal → Sg → Option α) (f : α → Option β) : (withOut r c d).bind f = withOut r (fun x y => (c x y).bind f) (fun x y => (d x y).bind f) := by unfold withOut; split <;> rfl
theorem withBox_bind (st : St) (r : Option Nat) (s : Slot) (c : Box → Nat → Option Nat → Option α) (f : α → Option β) : (withBox st r s c).bind f = withBox st r s fun x y z => (c x y z).bind f := by
  unfold withBox; split
  · rename_i r b off; rw [cond_bind]; congr 1; split <;> rfl
  · split
    · unfold withO
      split
      · rename_i B _; dsimp only; cases B.cells.isEmpty <;> rfl
      · rfl
    · rfl
  · rfl
theorem intOr_bind (st : St) (x : Option Operand) (d : Int) (c : Int → Option α) (f : α → Option β) : (intOr st x d c).bind f = intOr st x d fun y => (c y).bind f := by
  unfold intOr; split
  · rw [withN_bind]
  · rfl
theorem bounds_bind (n : Nat) (st : St) (lo hi : Option Operand) (c : Nat → Nat → Option α) (f : α → Option β) : (bounds n st lo hi c).bind f = bounds n st lo hi fun y z => (c y z).bind f := by
  simp only [bounds, intOr_bind, ite_bind]
theorem binI_bind (op : BinOp) (k : IntKind) (a b : Int) (c : Value → Option α) (f : α → Option β) : (binI op k a b c).bind f = binI op k a b fun y => (c y).bind f := by
  cases op <;> simp only [binI] <;> first | rfl | (split <;> rfl)
theorem binS_bind (op : BinOp) (a b : ByteArray) (c : Value → Option α) (f : α → Option β) : (binS op a b c).bind f = binS op a b fun y => (c y).bind f := by
  cases op <;> simp only [binS] <;> first | rfl | (split <;> rfl)
theorem binC_bind (op : BinOp) (a b : AVal) (c : Value → Option α) (f : α → Option β) : (binC op a b c).bind f = binC op a b fun y => (c y).bind f := by
  unfold binC; split
  · rename_i k a k' b
    cases isShift op
    · simp only [cond_false]; cases kEq k k' <;> simp only [cond_true, cond_false, binI_bind] <;> rfl
    · simp only [cond_true]; split <;> rfl
  · exact binS_bind ..
  · rfl
theorem unC_bind (op : UnOp) (a : AVal) (c : Value → Option α) (f : α → Option β) : (unC op a c).bind f = unC op a fun y => (c y).bind f := by
  unfold unC; split <;> rfl

theorem sem_bind (C : CallF) (d : Option Nat) (o : AOp) (st : St) (c : Step → Option α) (f : α → Option β) : (sem C d o st c).bind f = sem C d o st fun s => (c s).bind f := by
  cases o with
  | mov x => rfl
  | movA x => simp only [sem]; split <;> rfl
  | nilS n => rfl
  | pick a b e => simp only [sem, withB_bind, withA_bind, ite_bind2]
  | bin op x y => simp only [sem, withA_bind, binC_bind]
  | nilCmp a b x => simp only [sem]; split <;> rfl
  | eqA a b t x y => simp only [sem, withA_bind, withO_bind]
  | un op x => simp only [sem, withA_bind, unC_bind]
  | convI k x => simp only [sem, withN_bind]
  | convS x => simp only [sem, withS_bind]
  | field a b e x => simp only [sem, withA_bind]; congr 1; funext a; (split <;> first | rfl | simp only [withV_bind])
  | extract x i => simp only [sem]; (split <;> first | rfl | simp only [withA_bind])
  | indexA a b e g x i => simp only [sem, withA_bind, withN_bind, ite_bind]; congr 1; funext a; congr 1; funext n; congr 1; (split <;> first | rfl | simp only [withV_bind])
  | indexS x i => simp only [sem, withS_bind, withN_bind, ite_bind]
  | build z ps => simp only [sem, withParts_eq]; split <;> rfl
  | boxL x =>
    cases d with
    | none => rfl
    | some d => simp only [sem, withA_bind]; congr 1; funext a; split <;> rfl
  | allocL z =>
    cases d with
    | none => rfl
    | some d => simp only [sem]; split <;> rfl
  | boxG x => simp only [sem, withA_bind]; congr 1; funext a; split <;> rfl
  | allocG z => simp only [sem]; split <;> rfl
  | addr a x => simp only [sem]; split <;> rfl
  | indexAddrA a b x i => simp only [sem, withN_bind, ite_bind]; congr 1; funext n; congr 1; split <;> rfl
  | indexAddrS a x i => simp only [sem, withN_bind]; congr 1; funext n; (split <;> first | rfl | simp only [cond_bind, ite_bind, withA_bind])
  | load ks a r x => simp only [sem]; (split <;> first | rfl | simp only [withV_bind, withBox_bind])
  | store n r a x =>
    simp only [sem, withBox_bind, withA_bind, cond_bind, bindL_bind]
    congr 1; funext B off r; congr 1; funext v; congr 2; congr 1; funext cs
    split
    · rfl
    · split
      · split <;> rfl
      · rfl
  | lenS x => simp only [sem, withS_bind]
  | lenL x => simp only [sem]; split <;> rfl
  | lenA n => rfl
  | minmax m xs => simp only [sem]; split
                   · split <;> rfl
                   · rfl
  | sliceS x lo hi => simp only [sem, withS_bind, bounds_bind]
  | sliceV a x lo hi => simp only [sem]; (split <;> first | rfl | simp only [cond_bind, bounds_bind])
  | sliceA a b r x lo hi => simp only [sem, bounds_bind]; congr 1; funext l h; split
                            · rfl
                            · (split <;> first | rfl | simp only [withO_bind, cond_bind])
                            · rfl
  | sliceX a x lo hi mx => simp only [sem]; (split <;> first | rfl | simp only [cond_bind, withN_bind, bounds_bind, ite_bind])
  | callP f xs ks => simp only [sem]; (split <;> first | rfl | simp only [cond_bind, withOut_bind, withRes_bind, Option.bind_none])
  | buildSl n xs => simp only [sem]; (split <;> first | rfl | simp only [cond_bind])
  | append a b x y => simp only [sem]; split
                      · (split <;> first | rfl | simp only [cond_bind, ite_bind])
                      · rfl
  | appendG a b x y =>
    simp only [sem]; split
    · (split <;> first | rfl | simp only [cond_bind, ite_bind, withO_bind])
    · rfl
  | makeV a b z e n cp => simp only [sem, withN_bind, ite_bind]
  | toBytes x =>
    cases d with
    | none => rfl
    | some d => simp only [sem, withS_bind]; congr 1; funext s; split <;> rfl
  | toStr r x =>
    simp only [sem]; split
    · simp only [withO_bind]
    · rw [cond_bind]; congr 1; (split <;> first | rfl | simp only [withO_bind, ite_bind])
    · rfl
  | call f xs ks => simp only [sem]; split
                    · (split <;> first | rfl | simp only [withOut_bind, withRes_bind])
                    · rfl
  | callD f xs ks => simp only [sem]; (split <;> first | rfl | simp only [cond_bind, withOut_bind, withO_bind, withRes_bind, Option.bind_none])
  | callV f xs ks => simp only [sem]; split
                     · split
                       · (split <;> first | rfl | simp only [withOut_bind, withRes_bind])
                       · rfl
                     · rfl
  | makeFunc f xs ys => simp only [sem]; split
                        · split <;> rfl
                        · rfl
end
end Go.Abs
