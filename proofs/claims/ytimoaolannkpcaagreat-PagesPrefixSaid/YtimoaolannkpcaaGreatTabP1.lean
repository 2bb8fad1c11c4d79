/- THE TABLE: which function is which abstract code, and that all of it is sound. -/
import Derived.Test.YtimoaolannkpcaaGreatProg
import Derived.Test.YtimoaolannkpcaaGreatCodeP
import Derived.Test.YtimoaolannkpcaaGreatEngC
import Derived.KernelRfl
set_option linter.unusedVariables false
set_option linter.unusedSimpArgs false
set_option linter.unusedSectionVars false
namespace Go.Abs
open Go.Proofs
set_option maxRecDepth 100000
theorem mixed : Tryz.prog.follows .mixedOrders = true := by kernel_rfl
theorem nb {α : Type} {o : Option α} (h : o.isSome = true) : o ≠ none := by rintro rfl; simp at h
theorem ne_of_beq {a b : String} (h : (a == b) = false) : a ≠ b := by rintro rfl; simp at h

noncomputable instance : YTab where
  yt k := bif Nat.beq k 900000 then ycode Tryz.f239 0 [3, 4, 5] else none
  ro f := has roList f
theorem law09_PagesPrefix.made : compF Tryz.prog law09_PagesPrefix.pol Tryz.f5 = some law09_PagesPrefix.a := by kernel_rfl
theorem law09_PagesPrefix.fine : fOk Tryz.f5 law09_PagesPrefix.a = true := by kernel_rfl
theorem law08_Page.made : compF Tryz.prog law08_Page.pol Tryz.f24 = some law08_Page.a := by kernel_rfl
theorem law08_Page.fine : fOk Tryz.f24 law08_Page.a = true := by kernel_rfl
theorem ref03_Same.made : compF Tryz.prog ref03_Same.pol Tryz.f28 = some ref03_Same.a := by kernel_rfl
theorem ref03_Same.fine : fOk Tryz.f28 ref03_Same.a = true := by kernel_rfl
theorem pages_Format.made : compF Tryz.prog pages_Format.pol Tryz.f29 = some pages_Format.a := by kernel_rfl
theorem pages_Format.fine : fOk Tryz.f29 pages_Format.a = true := by kernel_rfl
theorem pages_Load.made : compF Tryz.prog pages_Load.pol Tryz.f30 = some pages_Load.a := by kernel_rfl
theorem pages_Load.fine : fOk Tryz.f30 pages_Load.a = true := by kernel_rfl
theorem pages_Store_Read.made : compF Tryz.prog pages_Store_Read.pol Tryz.f31 = some pages_Store_Read.a := by kernel_rfl
theorem pages_Store_Read.fine : fOk Tryz.f31 pages_Store_Read.a = true := by kernel_rfl
theorem pages_Store_Commit.made : compF Tryz.prog pages_Store_Commit.pol Tryz.f32 = some pages_Store_Commit.a := by kernel_rfl
theorem pages_Store_Commit.fine : fOk Tryz.f32 pages_Store_Commit.a = true := by kernel_rfl
theorem pages_Store_Flush.made : compF Tryz.prog pages_Store_Flush.pol Tryz.f33 = some pages_Store_Flush.a := by kernel_rfl
theorem pages_Store_Flush.fine : fOk Tryz.f33 pages_Store_Flush.a = true := by kernel_rfl
theorem pages_Store_Checkpoint.made : compF Tryz.prog pages_Store_Checkpoint.pol Tryz.f34 = some pages_Store_Checkpoint.a := by kernel_rfl
theorem pages_Store_Checkpoint.fine : fOk Tryz.f34 pages_Store_Checkpoint.a = true := by kernel_rfl
theorem pages_Store_Pages.made : compF Tryz.prog pages_Store_Pages.pol Tryz.f35 = some pages_Store_Pages.a := by kernel_rfl
theorem pages_Store_Pages.fine : fOk Tryz.f35 pages_Store_Pages.a = true := by kernel_rfl
theorem pages_Store_Room.made : compF Tryz.prog pages_Store_Room.pol Tryz.f36 = some pages_Store_Room.a := by kernel_rfl
theorem pages_Store_Room.fine : fOk Tryz.f36 pages_Store_Room.a = true := by kernel_rfl
theorem pages_Store_Waiting.made : compF Tryz.prog pages_Store_Waiting.pol Tryz.f37 = some pages_Store_Waiting.a := by kernel_rfl
theorem pages_Store_Waiting.fine : fOk Tryz.f37 pages_Store_Waiting.a = true := by kernel_rfl
theorem pages_Store_Fresh.made : compF Tryz.prog pages_Store_Fresh.pol Tryz.f38 = some pages_Store_Fresh.a := by kernel_rfl
theorem pages_Store_Fresh.fine : fOk Tryz.f38 pages_Store_Fresh.a = true := by kernel_rfl
theorem pages_Store_Epoch.made : compF Tryz.prog pages_Store_Epoch.pol Tryz.f39 = some pages_Store_Epoch.a := by kernel_rfl
theorem pages_Store_Epoch.fine : fOk Tryz.f39 pages_Store_Epoch.a = true := by kernel_rfl
theorem law09_lives.made : compF Tryz.prog law09_lives.pol Tryz.f40 = some law09_lives.a := by kernel_rfl
theorem law09_lives.fine : fOk Tryz.f40 law09_lives.a = true := by kernel_rfl
theorem pages_Size.made : compF Tryz.prog pages_Size.pol Tryz.f41 = some pages_Size.a := by kernel_rfl
theorem pages_Size.fine : fOk Tryz.f41 pages_Size.a = true := by kernel_rfl
theorem law09_small.made : compF Tryz.prog law09_small.pol Tryz.f42 = some law09_small.a := by kernel_rfl
theorem law09_small.fine : fOk Tryz.f42 law09_small.a = true := by kernel_rfl
theorem disk_New.made : compF Tryz.prog disk_New.pol Tryz.f43 = some disk_New.a := by kernel_rfl
theorem disk_New.fine : fOk Tryz.f43 disk_New.a = true := by kernel_rfl
theorem law09_texts.made : compF Tryz.prog law09_texts.pol Tryz.f44 = some law09_texts.a := by kernel_rfl
theorem law09_texts.fine : fOk Tryz.f44 law09_texts.a = true := by kernel_rfl
theorem law08_Images.made : compF Tryz.prog law08_Images.pol Tryz.f45 = some law08_Images.a := by kernel_rfl
theorem law08_Images.fine : fOk Tryz.f45 law08_Images.a = true := by kernel_rfl
theorem law08_Ours.made : compF Tryz.prog law08_Ours.pol Tryz.f46 = some law08_Ours.a := by kernel_rfl
theorem law08_Ours.fine : fOk Tryz.f46 law08_Ours.a = true := by kernel_rfl
theorem disk_Disk_Arm.made : compF Tryz.prog disk_Disk_Arm.pol Tryz.f47 = some disk_Disk_Arm.a := by kernel_rfl
theorem disk_Disk_Arm.fine : fOk Tryz.f47 disk_Disk_Arm.a = true := by kernel_rfl
theorem disk_Disk_Up.made : compF Tryz.prog disk_Disk_Up.pol Tryz.f48 = some disk_Disk_Up.a := by kernel_rfl
theorem disk_Disk_Up.fine : fOk Tryz.f48 disk_Disk_Up.a = true := by kernel_rfl
theorem octets_Pad.made : compF Tryz.prog octets_Pad.pol Tryz.f126 = some octets_Pad.a := by kernel_rfl
theorem octets_Pad.fine : fOk Tryz.f126 octets_Pad.a = true := by kernel_rfl
theorem disk_Disk_Len.made : compF Tryz.prog disk_Disk_Len.pol Tryz.f129 = some disk_Disk_Len.a := by kernel_rfl
theorem disk_Disk_Len.fine : fOk Tryz.f129 disk_Disk_Len.a = true := by kernel_rfl
theorem disk_Disk_Write.made : compF Tryz.prog disk_Disk_Write.pol Tryz.f130 = some disk_Disk_Write.a := by kernel_rfl
theorem disk_Disk_Write.fine : fOk Tryz.f130 disk_Disk_Write.a = true := by kernel_rfl
theorem sector_Blank.made : compF Tryz.prog sector_Blank.pol Tryz.f131 = some sector_Blank.a := by kernel_rfl
theorem sector_Blank.fine : fOk Tryz.f131 sector_Blank.a = true := by kernel_rfl
theorem disk_Disk_Flush.made : compF Tryz.prog disk_Disk_Flush.pol Tryz.f132 = some disk_Disk_Flush.a := by kernel_rfl
theorem disk_Disk_Flush.fine : fOk Tryz.f132 disk_Disk_Flush.a = true := by kernel_rfl
theorem pages_held.made : compF Tryz.prog pages_held.pol Tryz.f133 = some pages_held.a := by kernel_rfl
theorem pages_held.fine : fOk Tryz.f133 pages_held.a = true := by kernel_rfl
theorem pages_Store_write.made : compF Tryz.prog pages_Store_write.pol Tryz.f134 = some pages_Store_write.a := by kernel_rfl
theorem pages_Store_write.fine : fOk Tryz.f134 pages_Store_write.a = true := by kernel_rfl
theorem pages_open.made : compF Tryz.prog pages_open.pol Tryz.f135 = some pages_open.a := by kernel_rfl
theorem pages_open.fine : fOk Tryz.f135 pages_open.a = true := by kernel_rfl
theorem pages_Store_read.made : compF Tryz.prog pages_Store_read.pol Tryz.f136 = some pages_Store_read.a := by kernel_rfl
theorem pages_Store_read.fine : fOk Tryz.f136 pages_Store_read.a = true := by kernel_rfl
theorem pages_Store_replay.made : compF Tryz.prog pages_Store_replay.pol Tryz.f137 = some pages_Store_replay.a := by kernel_rfl
theorem pages_Store_replay.fine : fOk Tryz.f137 pages_Store_replay.a = true := by kernel_rfl
theorem pages_Store_checkpoint.made : compF Tryz.prog pages_Store_checkpoint.pol Tryz.f138 = some pages_Store_checkpoint.a := by kernel_rfl
theorem pages_Store_checkpoint.fine : fOk Tryz.f138 pages_Store_checkpoint.a = true := by kernel_rfl
theorem journal_Check.made : compF Tryz.prog journal_Check.pol Tryz.f139 = some journal_Check.a := by kernel_rfl
theorem journal_Check.fine : fOk Tryz.f139 journal_Check.a = true := by kernel_rfl
theorem pages_Store_has.made : compF Tryz.prog pages_Store_has.pol Tryz.f140 = some pages_Store_has.a := by kernel_rfl
theorem pages_Store_has.fine : fOk Tryz.f140 pages_Store_has.a = true := by kernel_rfl
theorem disk_Disk_Down.made : compF Tryz.prog disk_Disk_Down.pol Tryz.f141 = some disk_Disk_Down.a := by kernel_rfl
theorem disk_Disk_Down.fine : fOk Tryz.f141 disk_Disk_Down.a = true := by kernel_rfl
theorem journal_Journal_Append.made : compF Tryz.prog journal_Journal_Append.pol Tryz.f142 = some journal_Journal_Append.a := by kernel_rfl
theorem journal_Journal_Append.fine : fOk Tryz.f142 journal_Journal_Append.a = true := by kernel_rfl
theorem pages_Store_change.made : compF Tryz.prog pages_Store_change.pol Tryz.f143 = some pages_Store_change.a := by kernel_rfl
theorem pages_Store_change.fine : fOk Tryz.f143 pages_Store_change.a = true := by kernel_rfl
theorem pages_Store_may.made : compF Tryz.prog pages_Store_may.pol Tryz.f144 = some pages_Store_may.a := by kernel_rfl
theorem pages_Store_may.fine : fOk Tryz.f144 pages_Store_may.a = true := by kernel_rfl
theorem journal_Journal_Number.made : compF Tryz.prog journal_Journal_Number.pol Tryz.f145 = some journal_Journal_Number.a := by kernel_rfl
theorem journal_Journal_Number.fine : fOk Tryz.f145 journal_Journal_Number.a = true := by kernel_rfl
theorem journal_Journal_Room.made : compF Tryz.prog journal_Journal_Room.pol Tryz.f146 = some journal_Journal_Room.a := by kernel_rfl
theorem journal_Journal_Room.fine : fOk Tryz.f146 journal_Journal_Room.a = true := by kernel_rfl
theorem journal_Journal_Epoch.made : compF Tryz.prog journal_Journal_Epoch.pol Tryz.f147 = some journal_Journal_Epoch.a := by kernel_rfl
theorem journal_Journal_Epoch.fine : fOk Tryz.f147 journal_Journal_Epoch.a = true := by kernel_rfl
theorem pages_sizes.made : compF Tryz.prog pages_sizes.pol Tryz.f148 = some pages_sizes.a := by kernel_rfl
theorem pages_sizes.fine : fOk Tryz.f148 pages_sizes.a = true := by kernel_rfl
theorem slices_Repeat_string_string.made : compF Tryz.prog slices_Repeat_string_string.pol Tryz.f149 = some slices_Repeat_string_string.a := by kernel_rfl
theorem slices_Repeat_string_string.fine : fOk Tryz.f149 slices_Repeat_string_string.a = true := by kernel_rfl
theorem disk_Disk_settle.made : compF Tryz.prog disk_Disk_settle.pol Tryz.f150 = some disk_Disk_settle.a := by kernel_rfl
theorem disk_Disk_settle.fine : fOk Tryz.f150 disk_Disk_settle.a = true := by kernel_rfl
theorem disk_Disk_Up_1.made : compF Tryz.prog disk_Disk_Up_1.pol Tryz.f151 = some disk_Disk_Up_1.a := by kernel_rfl
theorem disk_Disk_Up_1.fine : fOk Tryz.f151 disk_Disk_Up_1.a = true := by kernel_rfl
theorem octets_Open.made : compF Tryz.prog octets_Open.pol Tryz.f186 = some octets_Open.a := by kernel_rfl
theorem octets_Open.fine : fOk Tryz.f186 octets_Open.a = true := by kernel_rfl
theorem octets_Reader_Num.made : compF Tryz.prog octets_Reader_Num.pol Tryz.f187 = some octets_Reader_Num.a := by kernel_rfl
theorem octets_Reader_Num.fine : fOk Tryz.f187 octets_Reader_Num.a = true := by kernel_rfl
theorem octets_Num.made : compF Tryz.prog octets_Num.pol Tryz.f194 = some octets_Num.a := by kernel_rfl
theorem octets_Num.fine : fOk Tryz.f194 octets_Num.a = true := by kernel_rfl
theorem disk_Disk_has.made : compF Tryz.prog disk_Disk_has.pol Tryz.f234 = some disk_Disk_has.a := by kernel_rfl
theorem disk_Disk_has.fine : fOk Tryz.f234 disk_Disk_has.a = true := by kernel_rfl
theorem disk_Disk_step.made : compF Tryz.prog disk_Disk_step.pol Tryz.f235 = some disk_Disk_step.a := by kernel_rfl
theorem disk_Disk_step.fine : fOk Tryz.f235 disk_Disk_step.a = true := by kernel_rfl
theorem disk_Disk_Flush_1.made : compF Tryz.prog disk_Disk_Flush_1.pol Tryz.f236 = some disk_Disk_Flush_1.a := by kernel_rfl
theorem disk_Disk_Flush_1.fine : fOk Tryz.f236 disk_Disk_Flush_1.a = true := by kernel_rfl
theorem pages_head.made : compF Tryz.prog pages_head.pol Tryz.f237 = some pages_head.a := by kernel_rfl
theorem pages_head.fine : fOk Tryz.f237 pages_head.a = true := by kernel_rfl
theorem journal_Open.made : compF Tryz.prog journal_Open.pol Tryz.f238 = some journal_Open.a := by kernel_rfl
theorem journal_Open.fine : fOk Tryz.f238 journal_Open.a = true := by kernel_rfl
theorem disk_Disk_Read.made : compF Tryz.prog disk_Disk_Read.pol Tryz.f239 = some disk_Disk_Read.a := by kernel_rfl
theorem disk_Disk_Read.fine : fOk0 Tryz.f239 disk_Disk_Read.a = true := by kernel_rfl
theorem disk_Disk_Read.rng : rgsA Tryz.f239 disk_Disk_Read.a = rgsB Tryz.f239 disk_Disk_Read.a := by kernel_rfl
noncomputable def disk_Disk_Read.yc900000 : YCode := (ycode Tryz.f239 0 [3, 4, 5]).getD ⟨#[], .skip, .skip, [], 0⟩
theorem disk_Disk_Read.yc900000.said : YTab.yt 900000 = some disk_Disk_Read.yc900000 := by kernel_rfl
theorem disk_Disk_Read.Y900000.made : compY Tryz.prog disk_Disk_Read.polY900000 disk_Disk_Read.yc900000 = some disk_Disk_Read.Y900000 := by kernel_rfl
theorem disk_Disk_Read.Y900000.fine : yOk disk_Disk_Read.yc900000 disk_Disk_Read.Y900000 = true := by kernel_rfl
theorem sector_Open.made : compF Tryz.prog sector_Open.pol Tryz.f240 = some sector_Open.a := by kernel_rfl
theorem sector_Open.fine : fOk Tryz.f240 sector_Open.a = true := by kernel_rfl
theorem pages_Store_home.made : compF Tryz.prog pages_Store_home.pol Tryz.f241 = some pages_Store_home.a := by kernel_rfl
theorem pages_Store_home.fine : fOk Tryz.f241 pages_Store_home.a = true := by kernel_rfl
theorem sector_OfHome.made : compF Tryz.prog sector_OfHome.pol Tryz.f242 = some sector_OfHome.a := by kernel_rfl
theorem sector_OfHome.fine : fOk Tryz.f242 sector_OfHome.a = true := by kernel_rfl
theorem journal_Scan.made : compF Tryz.prog journal_Scan.pol Tryz.f243 = some journal_Scan.a := by kernel_rfl
theorem journal_Scan.fine : fOk Tryz.f243 journal_Scan.a = true := by kernel_rfl
theorem maps_Keys_map_intbool_int_bool.made : compF Tryz.prog maps_Keys_map_intbool_int_bool.pol Tryz.f244 = some maps_Keys_map_intbool_int_bool.a := by kernel_rfl
theorem maps_Keys_map_intbool_int_bool.fine : fOk Tryz.f244 maps_Keys_map_intbool_int_bool.a = true := by kernel_rfl
theorem sector_Home.made : compF Tryz.prog sector_Home.pol Tryz.f245 = some sector_Home.a := by kernel_rfl
theorem sector_Home.fine : fOk Tryz.f245 sector_Home.a = true := by kernel_rfl
theorem journal_page.made : compF Tryz.prog journal_page.pol Tryz.f246 = some journal_page.a := by kernel_rfl
theorem journal_page.fine : fOk Tryz.f246 journal_page.a = true := by kernel_rfl
theorem slices_ContainsFunc_journal_Image_journal_Image.made : compF Tryz.prog slices_ContainsFunc_journal_Image_journal_Image.pol Tryz.f247 = some slices_ContainsFunc_journal_Image_journal_Image.a := by kernel_rfl
theorem slices_ContainsFunc_journal_Image_journal_Image.fine : fOk Tryz.f247 slices_ContainsFunc_journal_Image_journal_Image.a = true := by kernel_rfl
theorem pages_Store_has_1.made : compF Tryz.prog pages_Store_has_1.pol Tryz.f248 = some pages_Store_has_1.a := by kernel_rfl
theorem pages_Store_has_1.fine : fOk Tryz.f248 pages_Store_has_1.a = true := by kernel_rfl
theorem journal_Journal_write.made : compF Tryz.prog journal_Journal_write.pol Tryz.f249 = some journal_Journal_write.a := by kernel_rfl
theorem journal_Journal_write.fine : fOk Tryz.f249 journal_Journal_write.a = true := by kernel_rfl
theorem math_bits_Mul.made : compF Tryz.prog math_bits_Mul.pol Tryz.f250 = some math_bits_Mul.a := by kernel_rfl
theorem math_bits_Mul.fine : fOk Tryz.f250 math_bits_Mul.a = true := by kernel_rfl
theorem octets_width.made : compF Tryz.prog octets_width.pol Tryz.f277 = some octets_width.a := by kernel_rfl
theorem octets_width.fine : fOk Tryz.f277 octets_width.a = true := by kernel_rfl
theorem octets_Reader_Raw.made : compF Tryz.prog octets_Reader_Raw.pol Tryz.f278 = some octets_Reader_Raw.a := by kernel_rfl
theorem octets_Reader_Raw.fine : fOk Tryz.f278 octets_Reader_Raw.a = true := by kernel_rfl
theorem sector_Seal.made : compF Tryz.prog sector_Seal.pol Tryz.f328 = some sector_Seal.a := by kernel_rfl
theorem sector_Seal.fine : fOk Tryz.f328 sector_Seal.a = true := by kernel_rfl
theorem slices_Backward_disk_write_disk_write.made : compF Tryz.prog slices_Backward_disk_write_disk_write.pol Tryz.f329 = some slices_Backward_disk_write_disk_write.a := by kernel_rfl
theorem slices_Backward_disk_write_disk_write.fine : fOk Tryz.f329 slices_Backward_disk_write_disk_write.a = true := by kernel_rfl
theorem journal_scanner_next.made : compF Tryz.prog journal_scanner_next.pol Tryz.f330 = some journal_scanner_next.a := by kernel_rfl
theorem journal_scanner_next.fine : fOk Tryz.f330 journal_scanner_next.a = true := by kernel_rfl
theorem sector_Check.made : compF Tryz.prog sector_Check.pol Tryz.f332 = some sector_Check.a := by kernel_rfl
theorem sector_Check.fine : fOk Tryz.f332 sector_Check.a = true := by kernel_rfl
theorem octets_Noughts.made : compF Tryz.prog octets_Noughts.pol Tryz.f333 = some octets_Noughts.a := by kernel_rfl
theorem octets_Noughts.fine : fOk Tryz.f333 octets_Noughts.a = true := by kernel_rfl
theorem slices_IndexFunc_journal_Image_journal_Image.made : compF Tryz.prog slices_IndexFunc_journal_Image_journal_Image.pol Tryz.f334 = some slices_IndexFunc_journal_Image_journal_Image.a := by kernel_rfl
theorem slices_IndexFunc_journal_Image_journal_Image.fine : fOk Tryz.f334 slices_IndexFunc_journal_Image_journal_Image.a = true := by kernel_rfl
theorem math_bits_Mul32.made : compF Tryz.prog math_bits_Mul32.pol Tryz.f335 = some math_bits_Mul32.a := by kernel_rfl
theorem math_bits_Mul32.fine : fOk Tryz.f335 math_bits_Mul32.a = true := by kernel_rfl
theorem math_bits_Mul64.made : compF Tryz.prog math_bits_Mul64.pol Tryz.f336 = some math_bits_Mul64.a := by kernel_rfl
theorem math_bits_Mul64.fine : fOk Tryz.f336 math_bits_Mul64.a = true := by kernel_rfl
theorem octets_Reader_fail.made : compF Tryz.prog octets_Reader_fail.pol Tryz.f353 = some octets_Reader_fail.a := by kernel_rfl
theorem octets_Reader_fail.fine : fOk Tryz.f353 octets_Reader_fail.a = true := by kernel_rfl
theorem crc_More.made : compF Tryz.prog crc_More.pol Tryz.f380 = some crc_More.a := by kernel_rfl
theorem crc_More.fine : fOk Tryz.f380 crc_More.a = true := by kernel_rfl
theorem crc_Sum.made : compF Tryz.prog crc_Sum.pol Tryz.f381 = some crc_Sum.a := by kernel_rfl
theorem crc_Sum.fine : fOk Tryz.f381 crc_Sum.a = true := by kernel_rfl
theorem slices_Backward_disk_write_disk_write_1.made : compF Tryz.prog slices_Backward_disk_write_disk_write_1.pol Tryz.f382 = some slices_Backward_disk_write_disk_write_1.a := by kernel_rfl
theorem slices_Backward_disk_write_disk_write_1.fine : fOk Tryz.f382 slices_Backward_disk_write_disk_write_1.a = true := by kernel_rfl
theorem sector_short.made : compF Tryz.prog sector_short.pol Tryz.f383 = some sector_short.a := by kernel_rfl
theorem sector_short.fine : fOk Tryz.f383 sector_short.a = true := by kernel_rfl
theorem crc_fours.made : compF Tryz.prog crc_fours.pol Tryz.f415 = some crc_fours.a := by kernel_rfl
theorem crc_fours.fine : fOk Tryz.f415 crc_fours.a = true := by kernel_rfl
theorem crc_half.made : compF Tryz.prog crc_half.pol Tryz.f435 = some crc_half.a := by kernel_rfl
theorem crc_half.fine : fOk Tryz.f435 crc_half.a = true := by kernel_rfl
abbrev Fn := CallF → Nat → List AVal → Sg → R
inductive Tr where
  | leaf (n : Nat) (g : Fn)
  | node (k : Nat) (l r : Tr)
def Tr.run : Tr → Nat → Fn
  | .leaf n g, f, C, N, xs, sg => bif Nat.beq f n then g C N xs sg else none
  | .node k l r, f, C, N, xs, sg => bif Nat.blt f k then l.run f C N xs sg else r.run f C N xs sg
def Tr.All (p : Nat → Fn → Prop) : Tr → Prop
  | .leaf n g => p n g
  | .node _ l r => l.All p ∧ r.All p
theorem Tr.run_some {p : Nat → Fn → Prop} {f : Nat} {C : CallF} {N : Nat} {xs : List AVal} {sg : Sg} {out : Out} : ∀ {t : Tr}, t.All p → t.run f C N xs sg = some out → ∃ g, p f g ∧ g C N xs sg = some out
  | .leaf n g, h, e => by
    simp only [Tr.run] at e
    obtain ⟨h1, h2⟩ := bif_some e
    have := Nat.eq_of_beq_eq_true h1
    subst this
    exact ⟨g, h, h2⟩
  | .node k l r, h, e => by
    simp only [Tr.run] at e
    cases hb : Nat.blt f k with
    | true => rw [hb] at e; exact Tr.run_some h.1 e
    | false => rw [hb] at e; exact Tr.run_some h.2 e
/-- What is to be known of an entry. -/
def Good (f : Nat) (g : Fn) : Prop := ∀ C N xs sg out, SoundC Tryz.prog C → g C N xs sg = some out →
  ((f < yBase → Enters Tryz.prog f ∧ CallOK Tryz.prog f xs sg out) ∧ ∀ k, f = yBase + k → YieldOK Tryz.prog xs sg out) ∧ (YTab.ro f = true → out.sg = sg)
/-- Small, and left alone what must be. -/
noncomputable def roChk (f : Nat) (af : AFun) : Bool := Nat.blt f yBase && (!YTab.ro f || roC af.body)
theorem leafF {f : Nat} {fn : Func} {af : AFun} {p : Pol} (hf : Tryz.prog.funcs[f]? = some fn) (h1 : compF Tryz.prog p fn = some af) (h2 : fOk fn af = true) (h3 : fn.body ≠ none) (h4 : fn.name ≠ "runtime.NumGoroutine") (h5 : roChk f af = true) :
    Good f (fun C N xs sg => evalF C N af xs sg) := by
  intro C N xs sg out hC h
  simp only [roChk, Bool.and_eq_true, Bool.or_eq_true] at h5
  refine ⟨⟨fun _ => ⟨⟨fn, hf, h3, h4⟩, eval_ok hC mixed hf h1 h2 h⟩, fun k hk => ?_⟩, fun hr => ?_⟩
  · have : f < yBase := Nat.blt_eq ▸ h5.1
    omega
  · rcases h5.2 with h6 | h6
    · rw [hr] at h6; cases h6
    · exact evalF_ro h6 h
theorem leafR {f : Nat} {fn : Func} {af : AFun} {p : Pol} (hf : Tryz.prog.funcs[f]? = some fn) (h1 : compF Tryz.prog p fn = some af) (h2 : fOk0 fn af = true) (hr : rgsA fn af = rgsB fn af) (h3 : fn.body ≠ none) (h4 : fn.name ≠ "runtime.NumGoroutine") (h5 : roChk f af = true) :
    Good f (fun C N xs sg => evalF C N af xs sg) := by
  intro C N xs sg out hC h
  simp only [roChk, Bool.and_eq_true, Bool.or_eq_true] at h5
  refine ⟨⟨fun _ => ⟨⟨fn, hf, h3, h4⟩, eval_okR hC mixed hf h1 h2 (fRange_of h2 hr) h⟩, fun k hk => ?_⟩, fun hr => ?_⟩
  · have : f < yBase := Nat.blt_eq ▸ h5.1
    omega
  · rcases h5.2 with h6 | h6
    · rw [hr] at h6; cases h6
    · exact evalF_ro h6 h
theorem leafY {k : Nat} {y : YCode} {ay : AYield} {p : Pol} (h1 : YTab.yt k = some y) (h2 : compY Tryz.prog p y = some ay) (h3 : yOk y ay = true) (h4 : YTab.ro (yBase + k) = false) :
    Good (yBase + k) (fun C N xs sg => evalY C N ay k xs sg) := by
  intro C N xs sg out hC h
  refine ⟨⟨fun hlt => ?_, fun k' hk => yield_ok hC h1 (compY_ok hC mixed h2 h3) h⟩, fun hr => ?_⟩
  · omega
  · rw [hr] at h4; cases h4

end Go.Abs
