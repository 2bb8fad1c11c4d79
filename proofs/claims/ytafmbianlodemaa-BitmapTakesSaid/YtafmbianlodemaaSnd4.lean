/- THE ENGINE, part 7: fields, elements, addresses, loads. -/
import Derived.Test.YtafmbianlodemaaSnd3
namespace Go.Abs
set_option linter.unusedSectionVars false
set_option linter.unusedVariables false
set_option linter.unusedSimpArgs false
section
variable {P : Program} {C : CallF} {nt : Nat} {o : Oper}

theorem agg_value {Z : Fz} {ι : Iot} {a : AVal} {u : Value} {ks : List CK} {agg : Bool} {off : Nat} {α : Type} {out : α} {c : AVal → Option α}
    (h : VR Z ι a u) (hne : ∀ arr, u ≠ .agg arr) : ∀ cs, a ≠ .agg cs := by
  rintro cs rfl
  cases h with
  | agg => exact hne _ rfl

theorem ok_field {t : TypeId} {f : Nat} {x : Operand} {fs : Array Field} {fd : Field} {ks : List CK} {agg : Bool} (hd : ∀ x, o.dst = some x → x < nt) (hop : o.op = .field t x f)
    (hu : P.underlying t = some (.struct fs)) (hf : fs[f]? = some fd) (ha : isAggT P fd.type = some agg) (hs : sizeT P fd.type = some ks.length) : OpOK P C nt o (.field fd.offset ks agg x) := by
  intro G st a w H out c h next Q hn hp
  simp only [sem] at h
  obtain ⟨v, h1, h2⟩ := withA_some h
  split at h2
  · rename_i cs
    obtain ⟨hv, _⟩ := rdA_rel H h1
    generalize he : a.eval x = u at hv
    have hv0 := hv
    cases hv with
    | agg hl hh h1' =>
      rename_i arr
      obtain ⟨r, y, hy, hr, hc⟩ := withV_part (P := P) (w := w) hv0 rfl ha hs h2
      exact opVal (P := P) H hd (by simp [execOp, hop, he, Instr.field, run_underlying hu, hf, asAgg, hy]) (fun _ => slotV hr) hc hn
  · cases h2

theorem ok_indexA {t : TypeId} {x i : Operand} {len : Nat} {e : TypeId} {ks : List CK} {agg : Bool} (hd : ∀ x, o.dst = some x → x < nt) (hop : o.op = .index t x i)
    (hu : P.underlying t = some (.array len e)) (ha : isAggT P e = some agg) (hs : sizeT P e = some ks.length) : OpOK P C nt o (.indexA len ks.length ks agg x i) := by
  intro G st a w H out c h next Q hn hp
  simp only [sem] at h
  obtain ⟨v, h1, h2⟩ := withA_some h
  obtain ⟨k, n, h3, h4⟩ := withN_some h2
  obtain ⟨⟨hb1, hb2⟩, h5⟩ := if_some h4
  split at h5
  · rename_i cs
    obtain ⟨hv, _⟩ := rdA_rel H h1
    have hi := at_eq (rdA_rel H h3).1
    generalize he : a.eval x = u at hv
    have hv0 := hv
    cases hv with
    | agg hl hh h1' =>
      rename_i arr
      obtain ⟨r, y, hy, hr, hc⟩ := withV_part (P := P) (w := w) hv0 rfl ha hs h5
      have hsz : ∀ w, (sizeOf e).run P w = .ok ks.length w := by
        intro w; unfold sizeT at hs
        cases hi : P.info? e with
        | none => simp [hi] at hs
        | some inf => simp [hi] at hs; simp [sizeOf, typeInfo, hi, hs]
      exact opVal (P := P) H hd (by simp [execOp, hop, he, hi, Instr.index, asIntOf, run_underlying hu, hb1, hb2, hsz, hy]) (fun _ => slotV hr) hc hn
  · cases h5

theorem ok_indexS {t : TypeId} {x i : Operand} (hd : ∀ x, o.dst = some x → x < nt) (hop : o.op = .index t x i) (hu : P.underlying t = some .string) : OpOK P C nt o (.indexS x i) := by
  intro G st a w H out c h next Q hn hp
  simp only [sem] at h
  obtain ⟨s, h1, h2⟩ := withS_some h
  obtain ⟨k, n, h3, h4⟩ := withN_some h2
  obtain ⟨⟨hb1, hb2⟩, h5⟩ := if_some h4
  have e1 := at_eq (rdA_rel H h1).1
  have e2 := at_eq (rdA_rel H h3).1
  have hlt : n.toNat < s.size := by omega
  refine opAt (P := P) H hd h5 rfl ?_ hn
  have hg : s[n.toNat]? = some (s.data.getD n.toNat 0) := by
    rw [getElem?_pos s n.toNat hlt]
    have : s.data.getD n.toNat 0 = s.data[n.toNat]'hlt := by
      simp only [Array.getD]; rw [dif_pos (show n.toNat < s.data.size from hlt)]; rfl
    rw [this]; rfl
  simp [execOp, hop, e1, e2, Instr.index, asIntOf, run_underlying hu, hb1, hg]

theorem add_mk (b off n : Nat) : (⟨b, off, none⟩ : Addr).add n = ⟨b, off + n, none⟩ := by
  unfold Addr.add; split
  · rename_i h; simp [h]
  · rfl

theorem ok_addr {t : TypeId} {f : Nat} {x : Operand} {fs : Array Field} {fd : Field} {n : Nat} (hd : ∀ x, o.dst = some x → x < nt) (hop : o.op = .fieldAddr t x f)
    (hu : P.underlying t = some (.struct fs)) (hf : fs[f]? = some fd) (hs : sizeT P fd.type = some n) (hn0 : n ≠ 0) : OpOK P C nt o (.addr fd.offset x) := by
  intro G st a w H out c h next Q hn hp
  have hr := rdO_rel H x
  have hsz : (sizeOf fd.type).run P w = .ok n w := by
    unfold sizeT at hs
    cases hi : P.info? fd.type with
    | none => simp [hi] at hs
    | some inf => simp [hi] at hs; simp [sizeOf, typeInfo, hi, hs]
  have hrun : ∀ b off, a.eval x = .pointer (some ⟨b, off, none⟩) → (execOp a.eval o).run P w = .ok (.value (.pointer (some ⟨b, off + fd.offset, none⟩))) w := by
    intro b off he
    simp [execOp, hop, he, Instr.fieldAt, run_underlying hu, hf, Instr.sureAddr, fieldPlace, hsz, hn0, add_mk]
  simp only [sem] at h
  split at h
  · rename_i b off hs
    rw [hs] at hr
    obtain ⟨blk, h1, h2, h3⟩ := hr
    exact opVal (P := P) (s := .lp b (off + fd.offset)) H hd (hrun _ _ h3) (fun _ => ⟨blk, h1, h2, rfl⟩) h hn
  · rename_i g off f hs
    rw [hs] at hr
    rcases hr with hr | hr
    · cases hr
    generalize he : a.eval x = u at hr
    cases hr with
    | gp hg => exact opVal (P := P) H hd (hrun _ _ he) (fun _ => slotV (.gp hg)) h hn
  · rename_i cs f hs
    rw [hs] at hr
    rcases hr with hr | hr
    · cases hr
    generalize he : a.eval x = u at hr
    cases hr with
    | ep vals hz hh =>
      refine opVal (P := P) H hd (hrun _ _ he) (fun _ => slotV (.ep (fun j => vals (fd.offset + j)) ?_ ?_)) h hn
      · intro j hj
        simp at hj
        rw [Nat.add_assoc]
        exact hz _ (by omega)
      · intro j c' hc'
        rw [List.getElem?_drop] at hc'
        exact hh _ _ hc'
  · cases h

theorem size_run {t : TypeId} {n : Nat} (hs : sizeT P t = some n) (w : World) : (sizeOf t).run P w = .ok n w := by
  unfold sizeT at hs
  cases hi : P.info? t with
  | none => simp [hi] at hs
  | some inf => simp [hi] at hs; simp [sizeOf, typeInfo, hi, hs]

theorem ok_indexAddrA {t : TypeId} {x i : Operand} {len : Nat} {e : TypeId} {n : Nat} (hd : ∀ x, o.dst = some x → x < nt) (hop : o.op = .indexAddr t x i)
    (hu : P.underlying t = some (.array len e)) (hs : sizeT P e = some n) : OpOK P C nt o (.indexAddrA len n x i) := by
  intro G st a w H out c h next Q hn hp
  simp only [sem] at h
  obtain ⟨k, m, h3, h4⟩ := withN_some h
  obtain ⟨⟨hb1, hb2⟩, h5⟩ := if_some h4
  have hi := at_eq (rdA_rel H h3).1
  have hr := rdO_rel H x
  have hrun : ∀ b off, a.eval x = .pointer (some ⟨b, off, none⟩) → (execOp a.eval o).run P w = .ok (.value (.pointer (some ⟨b, off + m.toNat * n, none⟩))) w := by
    intro b off he
    simp [execOp, hop, he, hi, Instr.indexAt, asIntOf, run_underlying hu, Instr.sureAddr, hb1, hb2, size_run hs, add_mk]
  split at h5
  · rename_i b off hs
    rw [hs] at hr
    obtain ⟨blk, h1, h2, h3⟩ := hr
    exact opVal (P := P) (s := .lp b (off + m.toNat * n)) H hd (hrun _ _ h3) (fun _ => ⟨blk, h1, h2, rfl⟩) h5 hn
  · rename_i g off f hs
    rw [hs] at hr
    rcases hr with hr | hr
    · cases hr
    generalize he : a.eval x = u at hr
    cases hr with
    | gp hg => exact opVal (P := P) H hd (hrun _ _ he) (fun _ => slotV (.gp hg)) h5 hn
  · cases h5

theorem ok_indexAddrS {t : TypeId} {x i : Operand} {e : TypeId} {n : Nat} (hd : ∀ x, o.dst = some x → x < nt) (hop : o.op = .indexAddr t x i)
    (hu : P.underlying t = some (.slice e)) (hs : sizeT P e = some n) : OpOK P C nt o (.indexAddrS n x i) := by
  intro G st a w H out c h next Q hn hp
  simp only [sem] at h
  obtain ⟨k, m, h3, h4⟩ := withN_some h
  have hi := at_eq (rdA_rel H h3).1
  have hr := rdO_rel H x
  have hrun : ∀ b off len cap, a.eval x = .slice (some ⟨b, off, none⟩) len cap → 0 ≤ m → m < len → (execOp a.eval o).run P w = .ok (.value (.pointer (some ⟨b, off + m.toNat * n, none⟩))) w := by
    intro b off len cap he h0 h1
    simp [execOp, hop, he, hi, Instr.indexAt, asIntOf, run_underlying hu, h0, h1, size_run hs, add_mk]
  split at h4
  · rename_i nn sz l f hs
    rw [hs] at hr
    obtain ⟨hz, h5⟩ := bif_some h4
    obtain ⟨h0, h6⟩ := if_some h5
    obtain ⟨v, h7, h8⟩ := withA_some h6
    obtain ⟨h9, h10⟩ := bif_some h8
    have hz := Nat.eq_of_beq_eq_true hz
    have h9 := Nat.eq_of_beq_eq_true h9
    subst hz
    rcases hr with hr | hr
    · cases hr
    generalize he : a.eval x = u at hr
    have hlt := (List.getElem?_eq_some_iff.1 h7).1
    cases hr with
    | nil => simp at hlt
    | sl vals hn' hcap hsz hz hh hagg =>
      refine opVal (P := P) H hd (hrun _ _ _ _ he h0 (by omega)) (fun _ => slotV (.ep (fun j => vals (m.toNat * sz + j)) ?_ ?_)) h10 hn
      · intro j hj
        rw [h9] at hj
        rw [Nat.add_assoc]
        refine hz _ ?_
        have : m.toNat * sz + sz ≤ l.length * sz := by
          rw [← Nat.succ_mul]; exact Nat.mul_le_mul_right _ hlt
        rw [hn']; omega
      · intro j c' hc'
        exact hh _ _ _ _ h7 hc'
  · rename_i g sz off len f hs
    rw [hs] at hr
    obtain ⟨_, h4⟩ := bif_some h4
    obtain ⟨⟨hb1, hb2⟩, h5⟩ := if_some h4
    rcases hr with hr | hr
    · cases hr
    generalize he : a.eval x = u at hr
    cases hr with
    | gs hg hc => exact opVal (P := P) H hd (hrun _ _ _ _ he hb1 hb2) (fun _ => slotV (.gp hg)) h5 hn
  · rename_i b off len hs
    rw [hs] at hr
    obtain ⟨⟨hb1, hb2⟩, h5⟩ := if_some h4
    obtain ⟨blk, cap, h1, h2, h3, h4'⟩ := hr
    exact opVal (P := P) (s := .lp b (off + m.toNat * n)) H hd (hrun _ _ _ _ h3 hb1 hb2) (fun _ => ⟨blk, h1, h2, rfl⟩) h5 hn
  · cases h4
end
end Go.Abs
