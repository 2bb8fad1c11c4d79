/- THE ENGINE, part 26: what an instruction reads and writes. -/
import Derived.Test.YtafmbianlodemaaSnd21
namespace Go.Abs
set_option linter.unusedVariables false
set_option linter.unusedSimpArgs false
set_option linter.unusedSectionVars false

def dl : Option Nat → List Res
  | some d => [.l d]
  | none => []
def ds : Option Nat → List Res
  | some d => [.s d]
  | none => []
def ro : Operand → List Res
  | .tmp t => [.s t]
  | _ => []
def roo : Option Operand → List Res
  | some x => ro x
  | none => []
def ros : List Operand → List Res
  | [] => []
  | x :: l => ro x ++ ros l
def rop : List (Nat × Nat × Operand) → List Res
  | [] => []
  | (_, _, x) :: l => ro x ++ rop l
def rroot : Option Nat → List Res
  | some r => [.l r]
  | none => [.g]

def readsOf (d : Option Nat) : AOp → List Res
  | .mov x => ro x
  | .movA x => [.s x]
  | .nilS _ => []
  | .pick a b c => ro a ++ (ro b ++ ro c)
  | .bin _ x y => ro x ++ ro y
  | .nilCmp _ _ x => ro x
  | .eqA _ _ _ x y => ro x ++ ro y
  | .un _ x => ro x
  | .convI _ x => ro x
  | .convS x => ro x
  | .field _ _ _ x => ro x
  | .extract x _ => ro x
  | .indexA _ _ _ _ x i => ro x ++ ro i
  | .indexS x i => ro x ++ ro i
  | .build _ ps => rop ps
  | .boxL x => ro x ++ dl d
  | .allocL _ => dl d
  | .boxG x => .g :: ro x
  | .allocG _ => [.g]
  | .addr _ x => ro x
  | .indexAddrA _ _ x i => ro x ++ ro i
  | .indexAddrS _ x i => ro x ++ ro i
  | .load _ _ r x => rroot r ++ ro x
  | .store _ r a x => rroot r ++ (ro a ++ ro x)
  | .lenS x => ro x
  | .lenL x => ro x
  | .lenA _ => []
  | .minmax _ xs => ros xs
  | .sliceS x lo hi => ro x ++ (roo lo ++ roo hi)
  | .sliceV _ x lo hi => ro x ++ (roo lo ++ roo hi)
  | .sliceA _ _ _ x lo hi => .g :: ro x ++ (roo lo ++ roo hi)
  | .sliceX _ x lo hi mx => ro x ++ (ro mx ++ (roo lo ++ roo (some hi)))
  | .buildSl _ xs => ros xs
  | .append _ _ x y => .s x :: ro y
  | .appendG _ _ x y => .g :: (ro x ++ ro y)
  | .makeV _ _ _ _ n c => ro n ++ ro c
  | .toBytes x => ro x ++ dl d
  | .toStr r x => dl r ++ ro x
  | .call _ xs _ => .g :: ros xs
  | .callP _ xs _ => ros xs
  | .callD _ xs _ => ros xs
  | .callV f xs _ => .g :: (ro f ++ ros xs)
  | .makeFunc _ xs ys => ros xs ++ ros ys

def writesOf (d : Option Nat) : AOp → List Res
  | .movA x => .s x :: ds d
  | .boxL _ => dl d ++ ds d
  | .allocL _ => dl d ++ ds d
  | .boxG _ => .g :: ds d
  | .allocG _ => .g :: ds d
  | .store _ r _ _ => rroot r ++ ds d
  | .append _ _ x _ => .s x :: ds d
  | .toBytes _ => dl d ++ ds d
  | .call _ _ _ => .g :: ds d
  | .callV _ _ _ => .g :: ds d
  | .appendG _ _ _ _ => .g :: ds d
  | _ => ds d

/-- Alike on these. -/
def Agree (R : List Res) (st st' : St) : Prop := ∀ r ∈ R, st' r = st r

section
variable {st st' : St} {C : CallF}

theorem Agree.left {A B : List Res} (h : Agree (A ++ B) st st') : Agree A st st' := fun r hr => h r (List.mem_append_left _ hr)
theorem Agree.right {A B : List Res} (h : Agree (A ++ B) st st') : Agree B st st' := fun r hr => h r (List.mem_append_right _ hr)
theorem Agree.head {a : Res} {B : List Res} (h : Agree (a :: B) st st') : st' a = st a := h a (by simp)
theorem Agree.tail {a : Res} {B : List Res} (h : Agree (a :: B) st st') : Agree B st st' := fun r hr => h r (List.mem_cons_of_mem _ hr)

theorem agree_T {t : Nat} (h : st' (.s t) = st (.s t)) : rdT st' t = rdT st t := by unfold rdT; rw [h]
theorem agree_O {x : Operand} (h : Agree (ro x) st st') : rdO st' x = rdO st x := by
  cases x <;> simp only [rdO]
  exact agree_T (h _ (by simp [ro]))
theorem agree_A {x : Operand} (h : Agree (ro x) st st') : rdA st' x = rdA st x := by unfold rdA; rw [agree_O h]
theorem agree_args : ∀ {l : List Operand}, Agree (ros l) st st' → args? st' l = args? st l
  | [], _ => rfl
  | x :: l, h => by simp only [args?, agree_A h.left, agree_args h.right]
theorem agree_parts : ∀ {l : List (Nat × Nat × Operand)}, Agree (rop l) st st' → parts? st' l = parts? st l
  | [], _ => rfl
  | (a, b, x) :: l, h => by simp only [parts?, agree_A h.left, agree_parts h.right]
theorem agree_intOr {x : Option Operand} (h : Agree (roo x) st st') {α : Type} (d : Int) (c : Int → Option α) : intOr st' x d c = intOr st x d c := by
  cases x <;> simp only [intOr]
  rw [agree_A h]
theorem agree_bounds {lo hi : Option Operand} (h : Agree (roo lo ++ roo hi) st st') {α : Type} (n : Nat) (c : Nat → Nat → Option α) : bounds n st' lo hi c = bounds n st lo hi c := by
  simp only [bounds, agree_intOr h.left, agree_intOr h.right]
theorem agree_box {r : Option Nat} (h : Agree (rroot r) st st') {α : Type} (s : Slot) (c : Box → Nat → Option Nat → Option α) : withBox st' r s c = withBox st r s c := by
  unfold withBox
  split
  · rename_i r b off; rw [h (.l r) (by simp [rroot])]
  · rw [h .g (by simp [rroot])]
  · rfl

theorem sem_congr {α : Type} (d : Option Nat) (o : AOp) (c : Step → Option α) (h : Agree (readsOf d o) st st') : sem C d o st' c = sem C d o st c := by
  cases o with
  | mov x => simp only [readsOf] at h; simp only [sem, agree_O h]
  | movA x => simp only [readsOf] at h; simp only [sem, agree_T h.head]
  | nilS n => rfl
  | pick a b e => simp only [readsOf] at h; simp only [sem, agree_A h.left, agree_A h.right.left, agree_A h.right.right]
  | bin op x y => simp only [readsOf] at h; simp only [sem, agree_A h.left, agree_A h.right]
  | nilCmp a b x => simp only [readsOf] at h; simp only [sem, agree_O h]
  | eqA a b t x y => simp only [readsOf] at h; simp only [sem, agree_A h.left, agree_A h.right]
  | un op x => simp only [readsOf] at h; simp only [sem, agree_A h]
  | convI k x => simp only [readsOf] at h; simp only [sem, agree_A h]
  | convS x => simp only [readsOf] at h; simp only [sem, agree_A h]
  | field a b e x => simp only [readsOf] at h; simp only [sem, agree_A h]
  | extract x i => simp only [readsOf] at h; simp only [sem, agree_O h]
  | indexA a b e f x i => simp only [readsOf] at h; simp only [sem, agree_A h.left, agree_A h.right]
  | indexS x i => simp only [readsOf] at h; simp only [sem, agree_A h.left, agree_A h.right]
  | build z ps => simp only [readsOf] at h; simp only [sem, withParts_eq, agree_parts h]
  | boxL x =>
    simp only [readsOf] at h
    cases d with
    | none => rfl
    | some d => simp only [sem, agree_A h.left, h.right (.l d) (by simp [dl])]
  | allocL z =>
    simp only [readsOf] at h
    cases d with
    | none => rfl
    | some d => simp only [sem, h (.l d) (by simp [dl])]
  | boxG x => simp only [readsOf] at h; simp only [sem, h.head, agree_A h.tail]
  | allocG z => simp only [readsOf] at h; simp only [sem, h.head]
  | addr a x => simp only [readsOf] at h; simp only [sem, agree_O h]
  | indexAddrA a b x i => simp only [readsOf] at h; simp only [sem, agree_O h.left, agree_A h.right]
  | indexAddrS a x i => simp only [readsOf] at h; simp only [sem, agree_O h.left, agree_A h.right]
  | load ks a r x => simp only [readsOf] at h; simp only [sem, agree_O h.right, agree_box h.left]
  | store n r a x =>
    simp only [readsOf] at h
    cases r with
    | none => simp only [sem, agree_O h.right.left, agree_A h.right.right, agree_box h.left, h.left .g (by simp [rroot])]
    | some r =>
      simp only [sem, agree_O h.right.left, agree_A h.right.right, agree_box h.left]
      simp only [withBox]
      split
      · rfl
      · contradiction
      · rfl
  | lenS x => simp only [readsOf] at h; simp only [sem, agree_A h]
  | lenL x => simp only [readsOf] at h; simp only [sem, agree_O h]
  | lenA n => rfl
  | minmax m xs => simp only [readsOf] at h; simp only [sem, agree_args h]
  | sliceS x lo hi => simp only [readsOf] at h; simp only [sem, agree_A h.left, agree_bounds h.right]
  | sliceV a x lo hi => simp only [readsOf] at h; simp only [sem, agree_A h.left, agree_bounds h.right]
  | sliceA a b r x lo hi => simp only [readsOf, List.cons_append] at h; simp only [sem, h.head, agree_O h.tail.left, agree_bounds h.tail.right]
  | sliceX a x lo hi mx => simp only [readsOf] at h; simp only [sem, agree_A h.left, agree_A h.right.left, agree_bounds h.right.right]
  | callP f xs ks => simp only [readsOf] at h; simp only [sem, agree_args h]
  | callD f xs ks => simp only [readsOf] at h; simp only [sem, agree_args h]
  | buildSl n xs => simp only [readsOf] at h; simp only [sem, agree_args h]
  | append a b x y => simp only [readsOf] at h; simp only [sem, agree_T h.head, agree_A h.tail]
  | appendG a b x y => simp only [readsOf] at h; simp only [sem, h.head, agree_O h.tail.left, agree_A h.tail.right]
  | makeV a b z e n cp => simp only [readsOf] at h; simp only [sem, agree_A h.left, agree_A h.right]
  | toBytes x =>
    simp only [readsOf] at h
    cases d with
    | none => rfl
    | some d => simp only [sem, agree_A h.left, h.right (.l d) (by simp [dl])]
  | toStr r x =>
    simp only [readsOf] at h
    cases r with
    | none => simp only [sem, agree_O h.right]; split <;> rfl
    | some r =>
      simp only [sem, agree_O h.right]
      split
      · rfl
      · rename_i b o n _
        simp only [rootIs]
        cases hb : Nat.beq b r with
        | false => rfl
        | true => rw [Nat.eq_of_beq_eq_true hb, h.left (.l r) (by simp [dl])]
      · rfl
  | call f xs ks => simp only [readsOf] at h; simp only [sem, h.head, agree_args h.tail]
  | callV f xs ks => simp only [readsOf] at h; simp only [sem, h.head, agree_A h.tail.left, agree_args h.tail.right]
  | makeFunc f xs ys => simp only [readsOf] at h; simp only [sem, agree_args h.left, agree_args h.right]
end
end Go.Abs
