/- THE ENGINE, part 25: from the making to the matching. -/
import Derived.Test.YtafmbianlodemaaSnd26
namespace Go.Abs
set_option linter.unusedSectionVars false
set_option linter.unusedVariables false
set_option linter.unusedSimpArgs false
section
variable {P : Program} {C : CallF} {nt : Nat}

def aiOk (n : Nat) (i : AI) : Bool := (i.dst.all (· < n)) && (match i.op with | .movA x => decide (x < n) | .append _ _ x _ => decide (x < n) | _ => true)

theorem compI_ok (hC : SoundC P C) {p : Pol} {ops : Array Oper} {o : Oper} {i : AI} (h : compI P p ops o = some i) (hn : aiOk nt i = true) : AIOK P C nt ops o i := by
  unfold compI at h
  split at h
  case h_2 => cases h
  rename_i ao hao
  have key : i.dst = o.dst → i.op = ao → (∀ x, o.dst = some x → x < nt) ∧ OpOK P C nt o i.op := by
    intro e1 e2
    simp only [aiOk, Bool.and_eq_true] at hn
    obtain ⟨h1, h2⟩ := hn
    have hd : ∀ x, o.dst = some x → x < nt := by
      intro x hx; rw [e1, hx] at h1; simpa using h1
    refine ⟨hd, ?_⟩
    rw [e2] at h2 ⊢
    refine op_ok hC hao hd (fun x hx => ?_)
    rcases hx with rfl | ⟨s, b, y, rfl⟩
    · simpa using h2
    · simpa using h2
  split at h
  · rename_i hg
    cases h
    obtain ⟨k1, k2⟩ := key rfl rfl
    exact ⟨rfl, k1, k2, by rw [hg]⟩
  · rename_i j b hg
    split at h
    · rename_i t ht
      cases h
      obtain ⟨k1, k2⟩ := key rfl rfl
      exact ⟨rfl, k1, k2, by rw [hg]; exact ⟨t, ht, rfl⟩⟩
    · cases h

theorem compIs_ok (hC : SoundC P C) {p : Pol} {ops : Array Oper} : ∀ {l : List Oper} {is : List AI}, compIs P p ops l = some is → is.all (aiOk nt) = true →
    l.length = is.length ∧ ∀ (j : Nat) o i, l[j]? = some o → is[j]? = some i → AIOK P C nt ops o i
  | [], is, h, _ => by simp [compIs] at h; subst h; simp
  | o :: l, is, h, hall => by
    simp only [compIs] at h
    cases h1 : compI P p ops o with
    | none => simp [h1] at h
    | some i =>
      cases h2 : compIs P p ops l with
      | none => simp [h1, h2] at h
      | some is' =>
        simp [h1, h2] at h
        subst h
        simp only [List.all_cons, Bool.and_eq_true] at hall
        obtain ⟨e1, e2⟩ := compIs_ok hC h2 hall.2
        refine ⟨by simp [e1], fun j o' i' k1 k2 => ?_⟩
        cases j with
        | zero => simp at k1 k2; subst k1; subst k2; exact compI_ok hC h1 hall.1
        | succ j => exact e2 j o' i' (by simpa using k1) (by simpa using k2)

/-- All instructions are of the right kind. -/
def codeOk (n : Nat) : ACode → Bool
  | .region is _ => is.all (aiOk n)
  | .seq a b | .cond _ a b => codeOk n a && codeOk n b
  | .block _ c | .loop _ _ _ c => codeOk n c
  | _ => true

/-- All drawn regions agree in every order that may be drawn. -/
def drawsOk : Code → ACode → Bool
  | .region _ ops draw, .region is _ => !draw || drawChk ops is
  | .seq a b, .seq a' b' => drawsOk a a' && drawsOk b b'
  | .cond _ a b, .cond _ a' b' => drawsOk a a' && drawsOk b b'
  | .block _ c, .block _ c' => drawsOk c c'
  | .loop c, .loop _ _ _ c' => drawsOk c c'
  | _, _ => true

theorem compC_ok (hC : SoundC P C) (hm : P.follows .mixedOrders = true) {p : Pol} : ∀ (c : Code) {lv lv' : List (List Nat × List Nat)} {ac : ACode}, compC P p c lv = some (ac, lv') → codeOk nt ac = true → drawsOk c ac = true → Matches P C nt c ac
  | .skip, lv, lv', ac, h, hk, hw => by simp only [compC] at h; cases h; trivial
  | .region id ops draw, lv, lv', ac, h, hk, hw => by
    simp only [compC] at h
    obtain ⟨is, h1, h2⟩ := mapSome h
    cases h2
    simp only [codeOk] at hk
    simp only [drawsOk, Bool.or_eq_true, Bool.not_eq_true'] at hw
    simp only [Matches]
    obtain ⟨e1, e2⟩ := compIs_ok hC h1 hk
    refine ⟨trivial, ?_⟩
    split
    · rename_i hdr
      rcases hw with hw | hw
      · rw [hdr] at hw; cases hw
      · exact drawOK_of hm e1 e2 hw
    · exact ⟨e1, e2⟩
  | .seq a b, lv, lv', ac, h, hk, hw => by
    simp only [compC] at h
    split at h
    · rename_i a' lv1 h1
      split at h
      · rename_i b' lv2 h2
        cases h
        simp only [codeOk, Bool.and_eq_true] at hk
        simp only [drawsOk, Bool.and_eq_true] at hw
        exact ⟨compC_ok hC hm a h1 hk.1 hw.1, compC_ok hC hm b h2 hk.2 hw.2⟩
      · cases h
    · cases h
  | .cond x a b, lv, lv', ac, h, hk, hw => by
    simp only [compC] at h
    split at h
    · rename_i a' lv1 h1
      split at h
      · rename_i b' lv2 h2
        cases h
        simp only [codeOk, Bool.and_eq_true] at hk
        simp only [drawsOk, Bool.and_eq_true] at hw
        exact ⟨rfl, compC_ok hC hm a h1 hk.1 hw.1, compC_ok hC hm b h2 hk.2 hw.2⟩
      · cases h
    · cases h
  | .block id c, lv, lv', ac, h, hk, hw => by
    simp only [compC] at h
    split at h
    · rename_i c' lv1 h1
      cases h
      simp only [codeOk] at hk
      simp only [drawsOk] at hw
      exact ⟨rfl, compC_ok hC hm c h1 hk hw⟩
    · cases h
  | .loop c, lv, lv', ac, h, hk, hw => by
    simp only [compC] at h
    split at h
    · split at h
      · rename_i c' lv1 h1
        cases h
        simp only [codeOk] at hk
        simp only [drawsOk] at hw
        exact compC_ok hC hm c h1 hk hw
      · cases h
    · cases h
  | .exit id, lv, lv', ac, h, hk, hw => by simp only [compC] at h; cases h; rfl
  | .ret, lv, lv', ac, h, hk, hw => by simp only [compC] at h; cases h; trivial
  | .rangeFunc .., lv, lv', ac, h, hk, hw => by simp [compC] at h
  | .scope .., lv, lv', ac, h, hk, hw => by simp [compC] at h
  | .label .., lv, lv', ac, h, hk, hw => by simp [compC] at h
  | .goto .., lv, lv', ac, h, hk, hw => by simp [compC] at h
  | .refuse .., lv, lv', ac, h, hk, hw => by simp [compC] at h

theorem compRes_ok : ∀ {l : List ResultVar} {r : List ARes}, compRes P l = some r → l.length = r.length ∧ ∀ (i : Nat) x y, l[i]? = some x → r[i]? = some y → ResOK P x y
  | [], r, h => by simp [compRes] at h; subst h; simp
  | .tmp t :: l, r, h => by
    simp only [compRes] at h
    obtain ⟨r', h1, rfl⟩ := mapSome h
    obtain ⟨e1, e2⟩ := compRes_ok h1
    refine ⟨by simp [e1], fun i x y k1 k2 => ?_⟩
    cases i with
    | zero => simp at k1 k2; subst k1; subst k2; exact .tmp t
    | succ i => exact e2 i x y (by simpa using k1) (by simpa using k2)
  | .cell a t :: l, r, h => by
    simp only [compRes] at h
    split at h
    · rename_i ks g r' hk h1
      cases h
      obtain ⟨e1, e2⟩ := compRes_ok h1
      obtain ⟨k3, k4⟩ := kinds_some hk
      refine ⟨by simp [e1], fun i x y k1 k2 => ?_⟩
      cases i with
      | zero => simp at k1 k2; subst k1; subst k2; exact .cell k3 k4
      | succ i => exact e2 i x y (by simpa using k1) (by simpa using k2)
    · cases h

/-- A function whose instructions and drawn regions are right. -/
def fOk (fn : Func) (af : AFun) : Bool := match fn.body with | some c => codeOk fn.ntmps af.body && drawsOk c af.body | none => false

/-- A FUNCTION BY ITS EVALUATION. -/
theorem eval_ok (hC : SoundC P C) (hm : P.follows .mixedOrders = true) {p : Pol} {f : FuncId} {fn : Func} {af : AFun} (hf : P.funcs[f]? = some fn) (hcomp : compF P p fn = some af) (hk : fOk fn af = true)
    {N : Nat} {as : List AVal} {sg : Sg} {out : Out} (h : evalF C N af as sg = some out) : CallOK P f as sg out := by
  unfold compF at hcomp
  split at hcomp
  · rename_i c hb
    split at hcomp
    · rename_i c' r hc hr
      split at hcomp
      · rename_i hh
        cases hcomp
        obtain ⟨e1, e2⟩ := compRes_ok hr
        simp only [fOk, hb, Bool.and_eq_true] at hk
        exact fun_ok hf hb (compC_ok hC hm c hc hk.1 hk.2) hh.2 e1 e2 h
      · cases hcomp
    · cases hcomp
  · cases hcomp
end
end Go.Abs
