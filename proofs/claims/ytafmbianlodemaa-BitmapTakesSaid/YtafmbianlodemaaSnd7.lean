/- THE ENGINE, part 10: slicing. -/
import Derived.Test.YtafmbianlodemaaSnd6
namespace Go.Abs
set_option linter.unusedSectionVars false
set_option linter.unusedVariables false
set_option linter.unusedSimpArgs false
section
variable {P : Program} {C : CallF} {nt : Nat} {o : Oper}

theorem VR.sl_inv {Z : Fz} {ι : Iot} {nn : Bool} {sz : Nat} {l : List AVal} {u : Value} (h : VR Z ι (.sl nn sz l) u) :
    (nn = true ∧ l = [] ∧ u = .slice none 0 0) ∨ (nn = false ∧ ∃ (b off cap : Nat) (vals : Nat → Value), u = .slice (some ⟨b, off, none⟩) l.length cap ∧ l.length ≤ cap ∧ (∀ a ∈ l, a.cells.length = sz) ∧
      (∀ j, j < l.length * sz → Z ⟨b, off + j, none⟩ = some (vals j)) ∧ (∀ (i j : Nat) a c, l[i]? = some a → a.cells[j]? = some c → VR Z ι c (vals (i * sz + j))) ∧
      (∀ a ∈ l, (∃ cs, a = .agg cs) ∨ (a.cells = [a] ∧ ∀ vs, a ≠ .tup vs))) := by
  cases h with
  | nil => exact .inl ⟨rfl, rfl, rfl⟩
  | sl vals hn hcap hsz hz hr hagg => subst hn; exact .inr ⟨rfl, _, _, _, vals, rfl, hcap, hsz, hz, hr, hagg⟩

theorem intOr_some {G : Gh} {st : St} {a : Act} {w : World} (H : Rel G nt st a.tmps w) {x : Option Operand} {d : Int} {α : Type} {out : α} {c : Int → Option α} (h : intOr st x d c = some out) :
    ∃ n, ((x = none ∧ n = d) ∨ ∃ y k, x = some y ∧ a.eval y = .int k n) ∧ c n = some out := by
  unfold intOr at h
  split at h
  · obtain ⟨k, n, h1, h2⟩ := withN_some h
    exact ⟨n, .inr ⟨_, k, rfl, at_eq (rdA_rel H h1).1⟩, h2⟩
  · exact ⟨d, .inl ⟨rfl, rfl⟩, h⟩

theorem bounds_some {G : Gh} {st : St} {a : Act} {w : World} (H : Rel G nt st a.tmps w) {n : Nat} {lo hi : Option Operand} {α : Type} {out : α} {c : Nat → Nat → Option α} (h : bounds n st lo hi c = some out) :
    ∃ l h : Nat, l ≤ h ∧ h ≤ n ∧ c l h = some out ∧ ∀ (isS : Bool) (cap : Nat) (w' : World), n ≤ cap → (Instr.sliceBounds isS n cap (lo.map a.eval) (hi.map a.eval) none).run P w' = .ok (l, h, cap) w' := by
  unfold bounds at h
  obtain ⟨hh, e1, h1⟩ := intOr_some H h
  obtain ⟨ll, e2, h2⟩ := intOr_some H h1
  obtain ⟨⟨h3, h4, h5⟩, h6⟩ := if_some h2
  refine ⟨ll.toNat, hh.toNat, by omega, by omega, h6, fun isS cap w' hc => ?_⟩
  obtain ⟨m, rfl⟩ := Int.eq_ofNat_of_zero_le (show 0 ≤ hh by omega)
  obtain ⟨p, rfl⟩ := Int.eq_ofNat_of_zero_le h3
  have hH : m ≤ cap := by omega
  have hL : p ≤ m := by omega
  rcases e1 with ⟨rfl, e1⟩ | ⟨y, k, rfl, e1⟩ <;> rcases e2 with ⟨rfl, e2⟩ | ⟨z, k', rfl, e2⟩
  · have e1 : m = n := by omega
    have e2 : p = 0 := by omega
    subst e1; subst e2
    simp [Instr.sliceBounds]
  · have e1 : m = n := by omega
    subst e1
    simp [Instr.sliceBounds, Instr.sliceBound, asIntOf, e2, hL]
  · have e2 : p = 0 := by omega
    subst e2
    simp [Instr.sliceBounds, Instr.sliceBound, asIntOf, e1, hH]
  · simp [Instr.sliceBounds, Instr.sliceBound, asIntOf, e1, e2, hH, hL]

theorem ok_sliceS {t : TypeId} {x : Operand} {lo hi : Option Operand} (hd : ∀ x, o.dst = some x → x < nt) (hop : o.op = .slice t x lo hi none) (hu : P.underlying t = some .string) : OpOK P C nt o (.sliceS x lo hi) := by
  intro G st a w H out c h next Q hn hp
  simp only [sem] at h
  obtain ⟨s, h1, h2⟩ := withS_some h
  have he := at_eq (rdA_rel H h1).1
  obtain ⟨l, hh, b1, b2, b3, b4⟩ := bounds_some (P := P) H h2
  have hb := b4 false s.size w (Nat.le_refl _)
  exact opAt (P := P) H hd b3 rfl (by simp [execOp, hop, Instr.sliceAt, run_underlying hu, Instr.slice, he, hb]) hn

theorem ok_sliceV {t : TypeId} {e : TypeId} {n : Nat} {x : Operand} {lo hi : Option Operand} (hd : ∀ x, o.dst = some x → x < nt) (hop : o.op = .slice t x lo hi none)
    (hu : P.underlying t = some (.slice e)) (hs : sizeT P e = some n) : OpOK P C nt o (.sliceV n x lo hi) := by
  intro G st a w H out c h next Q hn hp
  simp only [sem] at h
  split at h
  · rename_i nn sz xs hx
    obtain ⟨h1, h2⟩ := bif_some h
    have h1 := Nat.eq_of_beq_eq_true h1
    subst h1
    obtain ⟨l, hh, b1, b2, b3, b4⟩ := bounds_some (P := P) H h2
    obtain ⟨hv, _⟩ := rdA_rel H hx
    generalize he : a.eval x = u at hv
    rcases hv.sl_inv with ⟨rfl, rfl, rfl⟩ | ⟨rfl, b, off, cap, vals, rfl, hcap, hsz, hz, hr, hagg⟩
    · simp only [List.length_nil] at b2 b4
      obtain ⟨rfl, rfl⟩ : l = 0 ∧ hh = 0 := by omega
      have hb := b4 true 0 w (Nat.le_refl _)
      exact opVal (P := P) H hd (v := .slice none 0 0) (by simp [execOp, hop, Instr.sliceAt, run_underlying hu, Instr.slice, he, hb, size_run hs]) (fun _ => slotV (by simpa using VR.nil)) b3 hn
    · have hb := b4 true cap w hcap
      have hlen : ((xs.drop l).take (hh - l)).length = hh - l := by simp; omega
      refine opVal (P := P) H hd (v := .slice (some ⟨b, if cap = l then off else off + l * sz, none⟩) (hh - l) (cap - l)) ?_ (fun _ => slotV (.sl (fun j => vals (l * sz + j)) hlen.symm (by omega) ?_ ?_ ?_ ?_)) b3 hn
      · simp only [execOp, hop, Option.map_none, Sem.run_bind, Instr.sliceAt, run_underlying hu, Result.andThen_ok, Instr.slice, he, hb, size_run hs, Sem.run_pure]
        congr 3
        split
        · rfl
        · simp [add_mk]
      · intro aa ha
        exact hsz aa (List.mem_of_mem_drop (List.mem_of_mem_take ha))
      · intro j hj
        have hlt : l ≠ cap := by
          rintro rfl
          have : hh - l = 0 := by omega
          rw [this] at hj; simp at hj
        rw [if_neg (fun e => hlt e.symm), Nat.add_assoc]
        refine hz _ ?_
        have : l * sz + (hh - l) * sz = hh * sz := by rw [← Nat.add_mul]; congr 1; omega
        have h3 : hh * sz ≤ xs.length * sz := Nat.mul_le_mul_right _ b2
        omega
      · intro i j aa cc hi hj
        rw [List.getElem?_take] at hi
        split at hi
        · rw [List.getElem?_drop] at hi
          have := hr (l + i) j aa cc hi hj
          rwa [Nat.add_mul, Nat.add_assoc] at this
        · cases hi
      · intro aa ha
        exact hagg aa (List.mem_of_mem_drop (List.mem_of_mem_take ha))
  · cases h

theorem ok_sliceA {t : TypeId} {e : TypeId} {len n : Nat} {x : Operand} {lo hi : Option Operand} {root : Option Nat} (hd : ∀ x, o.dst = some x → x < nt) (hop : o.op = .slice t x lo hi none)
    (hu : P.underlying t = some (.array len e)) (hs : sizeT P e = some n) : OpOK P C nt o (.sliceA len n root x lo hi) := by
  intro G st a w H out c h next Q hn hp
  simp only [sem] at h
  obtain ⟨l, hh, b1, b2, b3, b4⟩ := bounds_some (P := P) H h
  have hr := rdO_rel H x
  have hb := b4 false len w (Nat.le_refl _)
  have hrun : ∀ b off, a.eval x = .pointer (some ⟨b, off, none⟩) → (execOp a.eval o).run P w = .ok (.value (.slice (some ⟨b, bif Nat.beq len l then off else off + l * n, none⟩) (hh - l) (len - l))) w := by
    intro b off he
    simp only [execOp, hop, Option.map_none, Sem.run_bind, Instr.sliceAt, run_underlying hu, Result.andThen_ok, he, Instr.sureAddr, hb, size_run hs, Sem.run_pure]
    by_cases hl : len = l
    · subst hl; simp
    · have : Nat.beq len l = false := by
        cases hq : Nat.beq len l with
        | true => exact absurd (Nat.eq_of_beq_eq_true hq) hl
        | false => rfl
      simp [hl, this, add_mk]
  split at b3
  · rename_i b off hs'
    rw [hs'] at hr
    obtain ⟨blk, h1, h2, h3⟩ := hr
    exact opVal (P := P) (s := .ls b (bif Nat.beq len l then off else off + l * n) (hh - l)) H hd (hrun _ _ h3) (fun _ => ⟨blk, _, h1, h2, rfl, by omega⟩) b3 hn
  · rename_i g off f hs'
    rw [hs'] at hr
    rcases hr with hr | hr
    · cases hr
    generalize he : a.eval x = u at hr
    cases hr with
    | @gp _ _ pb hg =>
      split at b3
      · rename_i sg hsg
        obtain ⟨B, hB, b4'⟩ := withO_some b3
        obtain ⟨hcond, b5⟩ := bif_some b4'
        simp only [Bool.and_eq_true] at hcond
        obtain ⟨q1, q2⟩ := hcond
        have q2 := Nat.le_of_ble_eq_true q2
        have q1 : 0 < B.cells.length := Nat.blt_eq ▸ q1
        have hne : B.cells ≠ [] := by rintro e; rw [e] at q1; simp at q1
        obtain ⟨p, k1, k2, k3, k4⟩ := H.gbox sg hsg g B hB hne
        rw [hg] at k1; cases k1
        obtain ⟨arr, T, fr, m1, m2⟩ := k4
        obtain ⟨arr', T', fr', m3, m4, _⟩ := k3
        rw [m1] at m3; cases m3
        have hroom : (bif Nat.beq len l then off else off + l * n) + (len - l) * n ≤ pb.2 := by
          have e1 : l * n + (len - l) * n = len * n := by rw [← Nat.add_mul]; congr 1; omega
          cases hbe : Nat.beq len l with
          | true => have := Nat.eq_of_beq_eq_true hbe; subst this; simp; omega
          | false => simp only [cond_false]; omega
        exact opVal (P := P) H hd (hrun _ _ he) (fun _ => slotV (.gs hg (by omega) hroom)) b5 hn
      · cases b3
  · cases b3
end
end Go.Abs
