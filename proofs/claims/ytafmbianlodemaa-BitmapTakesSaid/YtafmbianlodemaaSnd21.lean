/- THE ENGINE, part 24: what is made out of the code is sound. -/
import Derived.Test.YtafmbianlodemaaSnd29
namespace Go.Abs
set_option linter.unusedSectionVars false
set_option linter.unusedVariables false
set_option linter.unusedSimpArgs false
section
variable {P : Program} {C : CallF} {nt : Nat} {o : Oper}

theorem kinds_some {t : TypeId} {ks : List CK} {agg : Bool} (h : kinds P t = some (ks, agg)) : isAggT P t = some agg ∧ sizeT P t = some ks.length := by
  unfold kinds at h
  split at h
  · rename_i ks' a n h1 h2 h3
    split at h
    · rename_i hl; cases h; rw [hl]; exact ⟨h2, h3⟩
    · cases h
  · cases h

theorem fieldT_some {t : TypeId} {f : Nat} {off : Nat} {ks : List CK} {agg : Bool} (h : fieldT P t f = some (off, ks, agg)) :
    ∃ fs fd, P.underlying t = some (.struct fs) ∧ fs[f]? = some fd ∧ fd.offset = off ∧ isAggT P fd.type = some agg ∧ sizeT P fd.type = some ks.length := by
  unfold fieldT at h
  split at h
  · rename_i fs hu
    split at h
    · rename_i fd hf
      split at h
      · rename_i ks' a hk
        cases h
        obtain ⟨h1, h2⟩ := kinds_some hk
        exact ⟨fs, fd, hu, hf, rfl, h1, h2⟩
      · cases h
    · cases h
  · cases h

theorem resK {α : Type} {x : Option (List CK)} {f : List CK → α} {a : α} (h : x.map f = some a) : ∃ ks, x = some ks ∧ f ks = a := by
  cases x with
  | none => cases h
  | some ks => cases h; exact ⟨ks, rfl, rfl⟩

theorem mapSome {α β : Type} {x : Option β} {f : β → α} {a : α} (h : x.map f = some a) : ∃ ks, x = some ks ∧ f ks = a := by
  cases x with
  | none => cases h
  | some ks => cases h; exact ⟨ks, rfl, rfl⟩

theorem rule_mov {x : Nat} {p : Pol} {ao : AOp} (hop : o.op = .move (.tmp x) ∨ o.op = .assign (.tmp x)) (hd : ∀ x, o.dst = some x → x < nt) (hx : ∀ x, ao = .movA x ∨ (∃ s b y, ao = .append s b x y) → x < nt)
    (h : (match o.dst with
    | some d => if p.mva.contains d ∧ d ≠ x then some (AOp.movA x) else some (AOp.mov (.tmp x))
    | none => none) = some ao) : OpOK P C nt o ao := by
  split at h
  · rename_i d hdst
    split at h
    · rename_i hm
      cases h
      exact ok_movA hd (hx _ (.inl rfl)) (by rw [hdst]; simpa using hm.2) hop
    · cases h; exact ok_move hd hop
  · cases h

theorem eq_ok {neg : Bool} {t : TypeId} {x y : Operand} {ty : TypeId} {ao : AOp} (hd : ∀ x, o.dst = some x → x < nt) (hop : o.op = .binOp (if neg then .neq else .eql) t x y ty) (h : eqOp P neg t x y = some ao): OpOK P C nt o ao := by
  unfold eqOp at h
  split at h
  · cases h; cases neg <;> exact ok_bin hd (by simpa using hop)
  · cases h; cases neg <;> exact ok_bin hd (by simpa using hop)
  · split at h
    · rename_i k hT
      split at h
      · rename_i hk; cases h; exact ok_nilCmp hd (.inl ⟨hop, hk, rfl⟩) hT
      · split at h
        · rename_i hk; cases h; exact ok_nilCmp hd (.inr ⟨hop, hk, rfl⟩) hT
        · cases h
    · cases h
  · split at h
    · rename_i k hT
      split at h
      · rename_i hk; cases h; exact ok_nilCmp hd (.inl ⟨hop, hk, rfl⟩) hT
      · split at h
        · rename_i hk; cases h; exact ok_nilCmp hd (.inr ⟨hop, hk, rfl⟩) hT
        · cases h
    · cases h
  · split at h
    · rename_i k hT
      split at h
      · rename_i hk; cases h; exact ok_nilCmp hd (.inl ⟨hop, hk, rfl⟩) hT
      · split at h
        · rename_i hk; cases h; exact ok_nilCmp hd (.inr ⟨hop, hk, rfl⟩) hT
        · cases h
    · cases h
  · rename_i hu; cases h; exact ok_eqA hd hop (by simp [eqK, hu]) (.inl hu)
  · rename_i fs hu
    split at h
    · rename_i ks hk
      split at h
      · rename_i hg; cases h; exact ok_eqA hd hop hk (.inr ⟨.inl ⟨_, hu⟩, hg⟩)
      · cases h
    · cases h
  · rename_i n e hu
    split at h
    · rename_i ks hk
      split at h
      · rename_i hg; cases h; exact ok_eqA hd hop hk (.inr ⟨.inr ⟨_, _, hu⟩, hg⟩)
      · cases h
    · cases h
  · cases h

theorem arr_of {α : Type} {a : Array α} {l : List α} (h : a.toList = l) : a = l.toArray := by
  subst h; simp

theorem builtin_ok {p : Pol} {b : Builtin} {args : Array Operand} {tys : Array TypeId} {ao : AOp} (hd : ∀ x, o.dst = some x → x < nt) (hx : ∀ x, ao = .movA x ∨ (∃ s b y, ao = .append s b x y) → x < nt)
    (hop : o.op = .call { callee := .builtin b, args, argTypes := tys }) (h : builtinOp P p o.dst b args.toList tys.toList = some ao) : OpOK P C nt o ao := by
  unfold builtinOp at h
  split at h
  · rename_i x t ha ht
    rw [arr_of ha, arr_of ht] at hop
    split at h
    · rename_i hu; cases h; exact ok_lenS hd hop hu
    · rename_i hu; cases h; exact ok_lenL hd hop hu
    · rename_i hu; cases h; exact ok_lenA hd hop hu
    · cases h
  · cases h; exact ok_minmax (mx := true) hd (by simpa using hop)
  · cases h; exact ok_minmax (mx := false) hd (by simpa using hop)
  · rename_i x y t t2 ha ht
    rw [arr_of ha, arr_of ht] at hop
    split at h
    · rename_i hu
      split at h
      · rename_i hs hbt hz
        split at h
        · rename_i hb0
          split at h
          · rename_i hy
            split at h
            · cases h; exact ok_appendG hd hop hu (.inl hy) hs hbt hb0 hz
            · cases h; exact ok_append hd (hx _ (.inr ⟨_, _, _, rfl⟩)) hop hu (.inl hy) hs hbt hb0 hz
          · rename_i hy
            split at h
            · cases h; exact ok_appendG hd hop hu (.inr ⟨_, hy⟩) hs hbt hb0 hz
            · cases h; exact ok_append hd (hx _ (.inr ⟨_, _, _, rfl⟩)) hop hu (.inr ⟨_, hy⟩) hs hbt hb0 hz
          · cases h
        · cases h
      · cases h
    · cases h
  · cases h

theorem op_ok (hC : SoundC P C) {p : Pol} {ao : AOp} (h : compOp P p o = some ao) (hd : ∀ x, o.dst = some x → x < nt) (hx : ∀ x, ao = .movA x ∨ (∃ s b y, ao = .append s b x y) → x < nt) : OpOK P C nt o ao := by
  unfold compOp at h
  split at h
  · rename_i hop; exact rule_mov (.inl hop) hd hx h
  · rename_i hop; exact rule_mov (.inr hop) hd hx h
  · rename_i hop
    split at h
    · obtain ⟨n, h1, rfl⟩ := mapSome h; exact ok_nilS hd (.inl hop)
    · cases h
  · rename_i hop
    split at h
    · obtain ⟨n, h1, rfl⟩ := mapSome h; exact ok_nilS hd (.inr hop)
    · cases h
  · rename_i hop; cases h; exact ok_move hd (.inl hop)
  · rename_i hop; cases h; exact ok_move hd (.inr hop)
  · rename_i hop; cases h; exact ok_pick hd hop
  · rename_i hop; exact eq_ok (neg := false) hd (by simpa using hop) h
  · rename_i hop; exact eq_ok (neg := true) hd (by simpa using hop) h
  · rename_i hop; cases h; exact ok_bin hd hop
  · rename_i hop; cases h; exact ok_un hd hop
  · rename_i hop
    split at h
    · rename_i h1 h2; cases h; exact ok_convI hd hop h1 h2
    · rename_i h1 h2; cases h; exact ok_convS hd hop h1 h2
    · rename_i e h1 h2
      split at h
      · rename_i h3; cases h
        refine ok_toBytes hd hop h1 h2 ?_
        exact h3
      · cases h
    · rename_i e h1 h2
      split at h
      · rename_i h3; cases h
        refine ok_toStr hd hop h1 h2 ?_
        exact h3
      · cases h
    · cases h
  · rename_i hop
    obtain ⟨⟨off, ks, a⟩, h1, rfl⟩ := mapSome h
    obtain ⟨fs, fd, k1, k2, rfl, k3, k4⟩ := fieldT_some h1
    exact ok_field hd hop k1 k2 k3 k4
  · rename_i hop; cases h; exact ok_extract hd hop
  · rename_i hop
    split at h
    · rename_i hu
      split at h
      · rename_i hk; cases h; obtain ⟨k1, k2⟩ := kinds_some hk; exact ok_indexA hd hop hu k1 k2
      · cases h
    · rename_i hu; cases h; exact ok_indexS hd hop hu
    · cases h
  · rename_i hop
    split at h
    · rename_i hz hps
      split at h
      · rename_i hbb; cases h; exact ok_build hd hop hz hps hbb
      · cases h
    · cases h
  · rename_i hop
    split at h
    · split at h
      · cases h; exact ok_boxG hd hop
      · cases h; exact ok_boxL hd hop
    · cases h
  · rename_i hop
    split at h
    · rename_i hz
      split at h
      · cases h; exact ok_allocG hd hop hz
      · cases h; exact ok_allocL hd hop hz
    · cases h
  · rename_i hop
    split at h
    · rename_i hf
      split at h
      · cases h
      · rename_i hn0
        cases h
        obtain ⟨fs, fd, k1, k2, rfl, k3, k4⟩ := fieldT_some hf
        exact ok_addr hd hop k1 k2 k4 hn0
    · cases h
  · rename_i hop
    split at h
    · rename_i hu; obtain ⟨n, h1, rfl⟩ := mapSome h; exact ok_indexAddrA hd hop hu h1
    · rename_i hu
      split at h
      · rename_i hk; cases h; exact ok_indexAddrS hd hop hu (kinds_some hk).2
      · cases h
    · cases h
  · rename_i hop
    split at h
    · rename_i hk; cases h; obtain ⟨k1, k2⟩ := kinds_some hk; exact ok_load hd hop k1 k2
    · cases h
  · rename_i hop
    split at h
    · rename_i hdst; obtain ⟨n, h1, rfl⟩ := mapSome h; exact ok_store hop hdst h1
    · cases h
  · rename_i hop
    split at h
    · rename_i hu; cases h; exact ok_sliceS hd hop hu
    · rename_i hu; obtain ⟨n, h1, rfl⟩ := mapSome h; exact ok_sliceV hd hop hu h1
    · rename_i hu; obtain ⟨n, h1, rfl⟩ := mapSome h; exact ok_sliceA hd hop hu h1
    · cases h
  · rename_i hop
    split at h
    · rename_i hu; obtain ⟨n, h1, rfl⟩ := mapSome h; exact ok_sliceX hd hop hu h1
    · cases h
  · rename_i hop
    split at h
    · rename_i hu
      split at h
      · rename_i hs hz
        split at h
        · rename_i hh; cases h; exact ok_buildSl hd hop hu hs hz hh.1 hh.2.1 hh.2.2
        · cases h
      · cases h
    · cases h
  · rename_i hop
    split at h
    · rename_i hu
      split at h
      · rename_i hs hbt hz ha
        split at h
        · rename_i hh; cases h; exact ok_makeV hd hop hu hs hbt hh.1 hz hh.2
        · cases h
      · cases h
    · cases h
  · rename_i cc hop
    obtain ⟨cal, args, tys⟩ := cc
    simp only at h
    split at h
    · exact builtin_ok hd hx hop h
    · split at h
      · split at h
        · obtain ⟨ks, h1, rfl⟩ := mapSome h; exact ok_callD hC hd hop
        · obtain ⟨ks, h1, rfl⟩ := mapSome h; exact ok_callP hC hd hop
      · obtain ⟨ks, h1, rfl⟩ := mapSome h; exact ok_call hC hd hop
    · obtain ⟨ks, h1, rfl⟩ := mapSome h; exact ok_callV hC hd hop
    · cases h
  · rename_i hop; cases h; exact ok_makeFunc hd hop
  · cases h
end
end Go.Abs
