/- THE ENGINE, part 9: nil, slicing. -/
import Derived.Test.YtafmbianlodemaaSnd5
namespace Go.Abs
set_option linter.unusedSectionVars false
set_option linter.unusedVariables false
set_option linter.unusedSimpArgs false
section
variable {P : Program} {C : CallF} {nt : Nat} {o : Oper}

theorem nilK_eval {y : Operand} {k : Nat} {a : Act} (h : nilK y = some k) : (k = 0 ∧ a.eval y = .slice none 0 0) ∨ (k = 1 ∧ a.eval y = .pointer none) ∨ (k = 2 ∧ a.eval y = .nilFunc) := by
  unfold nilK at h
  split at h <;> simp at h <;> subst h <;> simp [Act.eval]

theorem nilCmp_run {t : TypeId} {k : Nat} {x y : Value} {w : World} (hT : nilT P t = some k) (r : Bool) (swap : Bool)
    (hx : (k = 0 ∧ ∃ a n c, x = .slice a n c ∧ r = a.isNone) ∨ (k = 1 ∧ ∃ a, x = .pointer a ∧ r = a.isNone) ∨ (k = 2 ∧ ((x = .nilFunc ∧ r = true) ∨ ∃ f a b, x = .func f a b ∧ r = false)))
    (hy : (k = 0 ∧ y = .slice none 0 0) ∨ (k = 1 ∧ y = .pointer none) ∨ (k = 2 ∧ y = .nilFunc)) :
    (Op.equal t x y).run P w = .ok r w ∧ (Op.equal t y x).run P w = .ok r w := by
  unfold nilT at hT
  suffices h : ∀ d : Nat, (Op.equalIn (d + 1) t x y).run P w = .ok r w ∧ (Op.equalIn (d + 1) t y x).run P w = .ok r w from h 9999
  intro d
  rcases hy with ⟨rfl, rfl⟩ | ⟨rfl, rfl⟩ | ⟨rfl, rfl⟩
  · rcases hx with ⟨_, a, n, c, rfl, rfl⟩ | ⟨h, _⟩ | ⟨h, _⟩
    · split at hT <;> simp at hT
      rename_i hu
      constructor <;> cases a <;> simp [Op.equalIn, run_underlying hu]
    · cases h
    · cases h
  · rcases hx with ⟨h, _⟩ | ⟨_, a, rfl, rfl⟩ | ⟨h, _⟩
    · cases h
    · split at hT <;> simp at hT
      rename_i hu
      constructor <;> cases a <;> simp [Op.equalIn, run_underlying hu]
    · cases h
  · rcases hx with ⟨h, _⟩ | ⟨h, _⟩ | ⟨_, h⟩
    · cases h
    · cases h
    · split at hT <;> simp at hT
      rename_i hu
      rcases h with ⟨rfl, rfl⟩ | ⟨f, a, b, rfl, rfl⟩
      · constructor <;> simp [Op.equalIn, run_underlying hu]
      · constructor <;> simp [Op.equalIn, run_underlying hu]

theorem ok_nilCmp {neg : Bool} {t : TypeId} {x y z : Operand} {ty : TypeId} {k : Nat} (hd : ∀ x, o.dst = some x → x < nt)
    (hop : (o.op = .binOp (if neg then .neq else .eql) t x y ty ∧ nilK y = some k ∧ z = x) ∨ (o.op = .binOp (if neg then .neq else .eql) t x y ty ∧ nilK x = some k ∧ z = y)) (hT : nilT P t = some k) :
    OpOK P C nt o (.nilCmp neg k z) := by
  intro G st a w H out c h next Q hn hp
  have hr := rdO_rel H z
  have key : ∀ r : Bool, ((k = 0 ∧ ∃ aa n c, a.eval z = .slice aa n c ∧ r = aa.isNone) ∨ (k = 1 ∧ ∃ aa, a.eval z = .pointer aa ∧ r = aa.isNone) ∨ (k = 2 ∧ ((a.eval z = .nilFunc ∧ r = true) ∨ ∃ f aa b, a.eval z = .func f aa b ∧ r = false))) →
      (execOp a.eval o).run P w = .ok (.value (.bool (xor neg r))) w := by
    intro r hx
    have hguard : ∀ (op : BinOp) u v, ((∃ aa n c, u = .slice aa n c) ∨ (∃ aa, u = .pointer aa) ∨ u = .nilFunc ∨ ∃ f aa b, u = .func f aa b) → ∀ x y, (eqGuard op t x y u v).run P w = .ok () w := by
      intro op u v hu x y
      rcases hu with ⟨aa, n, c, rfl⟩ | ⟨aa, rfl⟩ | rfl | ⟨f, aa, b, rfl⟩ <;> cases op <;> cases v <;> simp [eqGuard]
    rcases hop with ⟨ho, hy, rfl⟩ | ⟨ho, hy, rfl⟩
    · have hy := nilK_eval (a := a) hy
      have := (nilCmp_run (P := P) (w := w) hT r false hx hy).1
      have hg := hguard (if neg then .neq else .eql) (a.eval z) (a.eval y) (by
        rcases hx with ⟨_, aa, n, c, h, _⟩ | ⟨_, aa, h, _⟩ | ⟨_, ⟨h, _⟩ | ⟨f, aa, b, h, _⟩⟩
        · exact .inl ⟨_, _, _, h⟩
        · exact .inr (.inl ⟨_, h⟩)
        · exact .inr (.inr (.inl h))
        · exact .inr (.inr (.inr ⟨_, _, _, h⟩))) z y
      cases neg
      · simp only [Bool.false_eq_true, if_false] at ho hg
        simp only [execOp, ho, Sem.run_bind, hg, Result.andThen_ok]
        rcases hx with ⟨rfl, aa, n, c, h, _⟩ | ⟨rfl, aa, h, _⟩ | ⟨rfl, ⟨h, _⟩ | ⟨f, aa, b, h, _⟩⟩ <;> rcases hy with ⟨hk, hy⟩ | ⟨hk, hy⟩ | ⟨hk, hy⟩ <;> (first | (cases hk; done) | skip) <;>
          rw [h, hy] at this ⊢ <;> simp [Go.binOp, this]
      · simp only [if_true] at ho hg
        simp only [execOp, ho, Sem.run_bind, hg, Result.andThen_ok]
        rcases hx with ⟨rfl, aa, n, c, h, _⟩ | ⟨rfl, aa, h, _⟩ | ⟨rfl, ⟨h, _⟩ | ⟨f, aa, b, h, _⟩⟩ <;> rcases hy with ⟨hk, hy⟩ | ⟨hk, hy⟩ | ⟨hk, hy⟩ <;> (first | (cases hk; done) | skip) <;>
          rw [h, hy] at this ⊢ <;> simp [Go.binOp, this]
    · have hy := nilK_eval (a := a) hy
      have := (nilCmp_run (P := P) (w := w) hT r false hx hy).2
      have hg := hguard (if neg then .neq else .eql) (a.eval x) (a.eval z) (by
        rcases hy with ⟨_, h⟩ | ⟨_, h⟩ | ⟨_, h⟩
        · exact .inl ⟨_, _, _, h⟩
        · exact .inr (.inl ⟨_, h⟩)
        · exact .inr (.inr (.inl h))) x z
      cases neg
      · simp only [Bool.false_eq_true, if_false] at ho hg
        simp only [execOp, ho, Sem.run_bind, hg, Result.andThen_ok]
        rcases hx with ⟨rfl, aa, n, c, h, _⟩ | ⟨rfl, aa, h, _⟩ | ⟨rfl, ⟨h, _⟩ | ⟨f, aa, b, h, _⟩⟩ <;> rcases hy with ⟨hk, hy⟩ | ⟨hk, hy⟩ | ⟨hk, hy⟩ <;> (first | (cases hk; done) | skip) <;>
          rw [h, hy] at this ⊢ <;> simp [Go.binOp, this]
      · simp only [if_true] at ho hg
        simp only [execOp, ho, Sem.run_bind, hg, Result.andThen_ok]
        rcases hx with ⟨rfl, aa, n, c, h, _⟩ | ⟨rfl, aa, h, _⟩ | ⟨rfl, ⟨h, _⟩ | ⟨f, aa, b, h, _⟩⟩ <;> rcases hy with ⟨hk, hy⟩ | ⟨hk, hy⟩ | ⟨hk, hy⟩ <;> (first | (cases hk; done) | skip) <;>
          rw [h, hy] at this ⊢ <;> simp [Go.binOp, this]
  simp only [sem] at h
  split at h
  · rename_i nn sz l f hs
    rw [hs] at hr
    rcases hr with hr | hr
    · cases hr
    generalize he : a.eval z = u at hr
    cases hr with
    | nil => exact opAt (P := P) H hd h rfl (key true (.inl ⟨rfl, _, _, _, he, rfl⟩)) hn
    | sl => exact opAt (P := P) H hd h rfl (key false (.inl ⟨rfl, _, _, _, he, rfl⟩)) hn
  · rename_i hs
    rw [hs] at hr
    rcases hr with hr | hr
    · cases hr
    generalize he : a.eval z = u at hr
    cases hr with
    | gs => exact opAt (P := P) H hd h rfl (by simpa using key false (.inl ⟨rfl, _, _, _, he, rfl⟩)) hn
  · rename_i hs
    rw [hs] at hr
    obtain ⟨blk, cap, h1, h2, h3, h4⟩ := hr
    exact opAt (P := P) H hd h rfl (by simpa using key false (.inl ⟨rfl, _, _, _, h3, rfl⟩)) hn
  · rename_i hs
    rw [hs] at hr
    rcases hr with hr | hr
    · cases hr
    generalize he : a.eval z = u at hr
    cases hr with
    | gp => exact opAt (P := P) H hd h rfl (by simpa using key false (.inr (.inl ⟨rfl, _, he, rfl⟩))) hn
  · rename_i hs
    rw [hs] at hr
    obtain ⟨blk, h1, h2, h3⟩ := hr
    exact opAt (P := P) H hd h rfl (by simpa using key false (.inr (.inl ⟨rfl, _, h3, rfl⟩))) hn
  · rename_i hs
    rw [hs] at hr
    rcases hr with hr | hr
    · cases hr
    generalize he : a.eval z = u at hr
    cases hr with
    | ep => exact opAt (P := P) H hd h rfl (by simpa using key false (.inr (.inl ⟨rfl, _, he, rfl⟩))) hn
  · rename_i hs
    rw [hs] at hr
    rcases hr with hr | hr
    · cases hr
    have he := at_eq hr
    exact opAt (P := P) H hd h rfl (by simpa using key true (.inr (.inl ⟨rfl, _, he, rfl⟩))) hn
  · rename_i hs
    rw [hs] at hr
    rcases hr with hr | hr
    · cases hr
    generalize he : a.eval z = u at hr
    cases hr with
    | clo => exact opAt (P := P) H hd h rfl (by simpa using key false (.inr (.inr ⟨rfl, .inr ⟨_, _, _, he, rfl⟩⟩))) hn
  · rename_i hs
    rw [hs] at hr
    rcases hr with hr | hr
    · cases hr
    have he := at_eq hr
    exact opAt (P := P) H hd h rfl (by simpa using key true (.inr (.inr ⟨rfl, .inl ⟨he, rfl⟩⟩))) hn
  · cases h
end
end Go.Abs
