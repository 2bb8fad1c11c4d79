/- THE BITMAP: what the table's functions give; BitmapTells. -/
import Derived.Test.YtafmbianlodemaaBitE
import Derived.Test.YtafmbianlodemaaLivesB
namespace Go.Abs
set_option linter.unusedSectionVars false
set_option linter.unusedSimpArgs false
set_option linter.unusedVariables false

theorem tab_at {f : Nat} {af : AFun} (h : look fl f = some af) (d : Nat) (args : List AVal) (sg : Sg) : tab (d + 1) f args sg = evalF (tab d) NN af args sg := by
  simp only [tab, h]
theorem NN_big : 1000000 < NN := by decide
theorem t37 (d : Nat) (s : ByteArray) (sg : Sg) : tab (d + 1) 37 [S s] sg = some (.ret (B (decide (s.size = 480))) sg) := by
  rw [tab_at (af := bitmap_is.a) rfl]; exact is_ev s sg
theorem t38 (d : Nat) (i : Int) (sg : Sg) : tab (d + 1) 38 [I i] sg = some (.ret (B (decide (0 ≤ i ∧ i < 3840))) sg) := by
  rw [tab_at (af := bitmap_page.a) rfl]; exact page_ev i sg
theorem smallC (d : Nat) : SmallC (tab (d + 1)) := ⟨t37 d, t38 d⟩
theorem t19 (d : Nat) (s : ByteArray) (i : Int) (sg : Sg) : tab (d + 2) 19 [S s, I i] sg = some (.ret (B (usedS s i)) sg) := by
  rw [tab_at (af := bitmap_Used.a) rfl]; exact used_ev (smallC d) s i sg
theorem t20 (d : Nat) (s : ByteArray) (i : Int) (sg : Sg) : tab (d + 1) 20 [S s, I i] sg = some (.ret (B (usedS s i)) sg) := by
  rw [tab_at (af := ref10_Used.a) rfl]; exact rused_ev s i (by have := NN_big; omega) sg
theorem t17 (d : Nat) (s : ByteArray) (i : Int) (on : Bool) (sg : Sg) : tab (d + 2) 17 [S s, I i, B on] sg = some (.ret (.tup [S (setS s i on), I (codeS s i)]) sg) := by
  rw [tab_at (af := bitmap_Set.a) rfl]; exact set_ev (smallC d) s i on sg
theorem t18 (d : Nat) (s : ByteArray) (i : Int) (on : Bool) (sg : Sg) : tab (d + 2) 18 [S s, I i, B on] sg = some (.ret (.tup [S (setS s i on), I (codeS s i)]) sg) := by
  rw [tab_at (af := ref10_Set.a) rfl]; exact rset_ev (t20 d) s i on (by have := NN_big; omega) sg
theorem t39 (d : Nat) {b : Nat} (hb : b < 256) (sg : Sg) : tab (d + 1) 39 [.at (.int .u8 (b : Int))] sg = some (.ret (I (popN b)) sg) := by
  rw [tab_at (af := math_bits_OnesCount8.a) rfl]; exact pop_ev hb sg
theorem manyC (d : Nat) : ManyC (tab (d + 2)) := ⟨smallC (d + 1), t19 d, fun b hb sg => t39 (d + 1) hb sg⟩
theorem t21 (d : Nat) (s : ByteArray) (a b : Int) (ha : a ≤ 9223372036854775807) (sg : Sg) : tab (d + 3) 21 [S s, I a, I b] sg = some (.ret (I (manyS s a b : Nat)) sg) := by
  rw [tab_at (af := bitmap_Many.a) rfl]; exact many_ev (manyC d) s a b ha (by have := NN_big; omega) sg
theorem t22 (d : Nat) (s : ByteArray) (a b : Int) (sg : Sg) : tab (d + 2) 22 [S s, I a, I b] sg = some (.ret (I (manyS s a b : Nat)) sg) := by
  rw [tab_at (af := ref10_Many.a) rfl]; exact rmany_ev (t20 d) s a b (by have := NN_big; omega) sg
theorem t6 (s : ByteArray) (i : Int) (on : Bool) (a b : Int) (ha : a ≤ 9223372036854775807) (sg : Sg) : tab 9 6 [S s, I i, B on, I a, I b] sg = some (.ret (B true) sg) := by
  obtain ⟨sgl, hl⟩ := lives10
  rw [tab_at (af := law10_BitmapTells.a) rfl, law10_BitmapTells.main, hl, t17 6, t18 6, t19 6, t20 7, t21 5 s a b ha, t22 6]
  have e2 : Nat.beq [S (setS s i on), I (codeS s i)].length 2 = true := rfl
  simp only [withOut_ret, withB_at, withT_at, e2, cond_true, List.getElem?_cons_zero, List.getElem?_cons_succ, withS_at, withI_at, beq_self_eq_true, Bool.false_bne, if_true, Bool.false_xor, ite_self]
end Go.Abs
