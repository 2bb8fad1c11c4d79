/- THE ENGINE, part 23: makes; equality. -/
import Derived.Test.YtafmbianlodemaaSnd19
namespace Go.Abs
set_option linter.unusedSectionVars false
set_option linter.unusedVariables false
set_option linter.unusedSimpArgs false
section
variable {P : Program} {C : CallF} {nt : Nat} {o : Oper}

theorem wrap_small {n : Int} (h0 : 0 ≤ n) (h : n ≤ 35184372088832) : IntKind.i64.wrap n = n := by
  simp [IntKind.wrap, IntKind.bits, IntKind.signed]; omega

theorem ok_makeV {t e : TypeId} {sz bytes : Nat} {z : List AVal} {agg : Bool} {x y : Operand} (hd : ∀ x, o.dst = some x → x < nt) (hop : o.op = .makeSlice t x y)
    (hu : P.underlying t = some (.slice e)) (hs : sizeT P e = some sz) (hb : bytesT P e = some bytes) (hb0 : 0 < bytes) (hz : zeroT P e = some z) (ha : agg = false → sz = 1) :
    OpOK P C nt o (.makeV sz bytes z agg x y) := by
  intro G st a w H out c h next Q hn hp
  simp only [sem] at h
  obtain ⟨k1, n, h1, h2⟩ := withN_some h
  obtain ⟨k2, cp, h3, h4⟩ := withN_some h2
  obtain ⟨⟨b1, b2, b3⟩, h5⟩ := if_some h4
  have e1 := at_eq (rdA_rel H h1).1
  have e2 := at_eq (rdA_rel H h3).1
  obtain ⟨i, zv, hi, hisz, hiby, hizv, hzsz⟩ := info_some (P := P) hs hb hz
  obtain ⟨n, rfl⟩ := Int.eq_ofNat_of_zero_le b1
  obtain ⟨cp, rfl⟩ := Int.eq_ofNat_of_zero_le (show 0 ≤ cp by omega)
  have b3' : cp * bytes ≤ 35184372088832 := by
    have hq : ((cp * bytes : Nat) : Int) ≤ 35184372088832 := by rw [Int.natCast_mul]; exact b3
    omega
  have hcp : cp ≤ 35184372088832 := by
    have : cp * 1 ≤ cp * bytes := Nat.mul_le_mul_left _ hb0; omega
  have hncp : n ≤ cp := by omega
  have hw1 : IntKind.i64.wrap (n : Int) = n := wrap_small (by omega) (by omega)
  have hw2 : IntKind.i64.wrap (cp : Int) = cp := wrap_small (by omega) (by omega)
  have hl2 : L2 G.Z G.ι z zv.cells.toList := by
    unfold zeroT at hz
    split at hz
    · rename_i ks ag v hk hzz
      have hq : (P.info? e).bind (·.zero) = some zv := by rw [hi]; exact hizv
      rw [hq] at hzz
      cases hzz
      exact zero_rel hz
    · cases hz
  have hzl : z.length = sz := by have := hl2.1; simp at this; omega
  let arr : Array Value := (Array.range (cp * sz)).map fun x => zv.cells[x % zv.cells.size]!
  have hrun : (execOp a.eval o).run P w = .ok (.value (.slice (some ⟨w.heap.size, 0, none⟩) n cp)) (w.alloc (.cells arr e)) := by
    have t1 : ¬ ((cp : Int) < 0) := by omega
    have t2 : ¬ (281474976710656 < (bytes : Int) * (cp : Int)) := by
      have hq : (bytes : Int) * (cp : Int) = ((cp * bytes : Nat) : Int) := by rw [Int.natCast_mul, Int.mul_comm]
      rw [hq]; omega
    have t3 : ¬ ((n : Int) < 0) := by omega
    have t4 : ¬ ((cp : Int) < (n : Int)) := by omega
    have t5 : ¬ (cp < n) := by omega
    by_cases hc0 : cp * sz = 0
    · have ha0 : arr = #[] := by simp only [arr, hc0]; simp
      rw [ha0]
      have h00 : ∀ g : Nat → Value, Array.map g (Array.range 0) = #[] := by intro g; simp
      simp [execOp, hop, e1, e2, Instr.makeSlice, run_underlying hu, asInt, asIntOf, typeInfo, hi, hiby, hw1, hw2, t1, t2, t3, t4, t5, sizeOf, hisz, hc0, newRow]
      first | done | rw [h00] | (congr 2; simp)
    · simp [execOp, hop, e1, e2, Instr.makeSlice, run_underlying hu, asInt, asIntOf, typeInfo, hi, hiby, hw1, hw2, t1, t2, t3, t4, t5, sizeOf, hisz, hc0, newRow, zeroValue, hizv, arr]
  have hel : ∀ el : AVal, el = (bif agg then AVal.agg z else z.headD .junk) → el.cells = z ∧ ((∃ cs, el = .agg cs) ∨ (el.cells = [el] ∧ ∀ vs, el ≠ .tup vs)) := by
    rintro el rfl
    cases agg with
    | true => exact ⟨rfl, .inl ⟨z, rfl⟩⟩
    | false =>
      have := ha rfl
      cases z with
      | nil => simp at hzl; omega
      | cons z0 zs =>
        have hzs : zs = [] := by cases zs with | nil => rfl | cons => simp at hzl; omega
        subst hzs
        have h0 := hl2.2 0 z0 (zv.cells.toList[0]'(by rw [← hl2.1]; simp)) rfl (by rw [List.getElem?_eq_getElem])
        show z0.cells = [z0] ∧ _
        generalize zv.cells.toList[0]'(by rw [← hl2.1]; simp) = u at h0
        obtain ⟨h0, h1⟩ := h0
        cases h0 with
        | agg => simp [one] at h1
        | tup => simp [one] at h1
        | «at» => exact ⟨rfl, .inr ⟨rfl, by simp⟩⟩
        | nil => exact ⟨rfl, .inr ⟨rfl, by simp⟩⟩
        | sl vals q1 q2 q3 q4 q5 q6 => exact ⟨rfl, .inr ⟨rfl, by simp⟩⟩
        | ep => exact ⟨rfl, .inr ⟨rfl, by simp⟩⟩
        | gp => exact ⟨rfl, .inr ⟨rfl, by simp⟩⟩
        | gs => exact ⟨rfl, .inr ⟨rfl, by simp⟩⟩
        | clo => exact ⟨rfl, .inr ⟨rfl, by simp⟩⟩
        | ifc => exact ⟨rfl, .inr ⟨rfl, by simp⟩⟩
  have harr : ∀ i j, i < cp → j < sz → arr[i * sz + j]? = zv.cells.toList[j]? := by
    intro i j hi hj
    have hlt : i * sz + j < cp * sz := by
      have : i * sz + sz ≤ cp * sz := by rw [← Nat.succ_mul]; exact Nat.mul_le_mul_right _ hi
      omega
    have hm : (i * sz + j) % zv.cells.size = j := by
      rw [hzsz, Nat.mul_comm, Nat.mul_add_mod]; exact Nat.mod_eq_of_lt hj
    simp only [arr]
    rw [Array.getElem?_map, Array.getElem?_range]
    simp only [hlt, if_true, Option.map_some, hm]
    have hjz : j < zv.cells.size := by omega
    simp [hjz]
  have hE : ElemsR G.Z G.ι sz (List.replicate n (bif agg then AVal.agg z else z.headD .junk)) (fun j => arr[j]?) := by
    obtain ⟨q1, q2⟩ := hel _ rfl
    refine ⟨fun aa h => ?_, fun aa h => ?_, fun i j aa cc hi hj => ?_, fun j hj => ?_⟩
    · rw [(List.mem_replicate.1 h).2, q1]; exact hzl
    · rw [(List.mem_replicate.1 h).2]; exact q2
    · have hin : i < n := by have := (List.getElem?_eq_some_iff.1 hi).1; simpa using this
      simp only [List.getElem?_replicate, hin, if_true, Option.some.injEq] at hi
      subst hi
      rw [q1] at hj
      have hjl := (List.getElem?_eq_some_iff.1 hj).1
      have hjv : j < zv.cells.toList.length := by rw [← hl2.1]; exact hjl
      refine ⟨zv.cells.toList[j], ?_, (hl2.2 j cc _ hj (List.getElem?_eq_getElem hjv)).1⟩
      rw [harr i j (by omega) (by omega), List.getElem?_eq_getElem hjv]
    · simp only [List.length_replicate] at hj
      have hsz0 : 0 < sz := by
        rcases Nat.eq_zero_or_pos sz with h | h
        · subst h; simp at hj
        · exact h
      have hq : j / sz < n := Nat.div_lt_of_lt_mul (by rw [Nat.mul_comm]; exact hj)
      have hr : j % sz < sz := Nat.mod_lt _ hsz0
      have hjv : j % sz < zv.cells.toList.length := by simp; omega
      refine ⟨zv.cells.toList[j % sz], ?_, (hl2.2 _ _ _ (List.getElem?_eq_getElem (by rw [hl2.1]; exact hjv)) (List.getElem?_eq_getElem hjv)).2⟩
      have := harr (j / sz) (j % sz) (by omega) hr
      rw [Nat.mul_comm, Nat.div_add_mod] at this
      rw [this, List.getElem?_eq_getElem hjv]
  obtain ⟨G', R2, F2⟩ := H.newRow (w' := w.alloc (.cells arr e)) (cap := cp) hd rfl rfl rfl rfl hE (by simpa using hncp) (by simp [arr])
  simp only [List.length_replicate] at R2
  exact wp_val hrun (hn _ G' _ _ h5 (by simpa using R2) (put_defers _ _ _) F2)
end
end Go.Abs
