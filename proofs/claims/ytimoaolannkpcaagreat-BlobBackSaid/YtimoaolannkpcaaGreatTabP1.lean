/- THE TABLE: which function is which abstract code, and that all of it is sound. -/
import Derived.Test.YtimoaolannkpcaaGreatProg
import Derived.Test.YtimoaolannkpcaaGreatCodeP
import Derived.Test.YtimoaolannkpcaaGreatEngC
import Derived.KernelRfl
set_option linter.unusedVariables false
set_option linter.unusedSimpArgs false
set_option linter.unusedSectionVars false
namespace Go.Abs
open Go.Proofs
set_option maxRecDepth 100000
theorem mixed : Tryz.prog.follows .mixedOrders = true := by kernel_rfl
theorem nb {α : Type} {o : Option α} (h : o.isSome = true) : o ≠ none := by rintro rfl; simp at h
theorem ne_of_beq {a b : String} (h : (a == b) = false) : a ≠ b := by rintro rfl; simp at h
noncomputable instance : YTab where
  yt k := bif Nat.beq k 900000 then ycode Tryz.f67 0 [5] else bif Nat.beq k 900001 then ycode Tryz.f68 0 [5] else none
  ro f := has roList f
theorem law14_BlobBack.made : compF Tryz.prog law14_BlobBack.pol Tryz.f7 = some law14_BlobBack.a := by kernel_rfl
theorem law14_BlobBack.fine : fOk Tryz.f7 law14_BlobBack.a = true := by kernel_rfl
theorem law11_Made.made : compF Tryz.prog law11_Made.pol Tryz.f16 = some law11_Made.a := by kernel_rfl
theorem law11_Made.fine : fOk Tryz.f16 law11_Made.a = true := by kernel_rfl
theorem heap_Do.made : compF Tryz.prog heap_Do.pol Tryz.f18 = some heap_Do.a := by kernel_rfl
theorem heap_Do.fine : fOk Tryz.f18 heap_Do.a = true := by kernel_rfl
theorem heap_Heap_Put.made : compF Tryz.prog heap_Heap_Put.pol Tryz.f20 = some heap_Heap_Put.a := by kernel_rfl
theorem heap_Heap_Put.fine : fOk Tryz.f20 heap_Heap_Put.a = true := by kernel_rfl
theorem heap_Heap_Take.made : compF Tryz.prog heap_Heap_Take.pol Tryz.f22 = some heap_Heap_Take.a := by kernel_rfl
theorem heap_Heap_Take.fine : fOk Tryz.f22 heap_Heap_Take.a = true := by kernel_rfl
theorem heap_Heap_Get.made : compF Tryz.prog heap_Heap_Get.pol Tryz.f23 = some heap_Heap_Get.a := by kernel_rfl
theorem heap_Heap_Get.fine : fOk Tryz.f23 heap_Heap_Get.a = true := by kernel_rfl
theorem heap_Heap_Give.made : compF Tryz.prog heap_Heap_Give.pol Tryz.f25 = some heap_Heap_Give.a := by kernel_rfl
theorem heap_Heap_Give.fine : fOk Tryz.f25 heap_Heap_Give.a = true := by kernel_rfl
theorem heap_Heap_Stop.made : compF Tryz.prog heap_Heap_Stop.pol Tryz.f26 = some heap_Heap_Stop.a := by kernel_rfl
theorem heap_Heap_Stop.fine : fOk Tryz.f26 heap_Heap_Stop.a = true := by kernel_rfl
theorem heap_Heap_Free.made : compF Tryz.prog heap_Heap_Free.pol Tryz.f27 = some heap_Heap_Free.a := by kernel_rfl
theorem heap_Heap_Free.fine : fOk Tryz.f27 heap_Heap_Free.a = true := by kernel_rfl
theorem pages_Format.made : compF Tryz.prog pages_Format.pol Tryz.f29 = some pages_Format.a := by kernel_rfl
theorem pages_Format.fine : fOk Tryz.f29 pages_Format.a = true := by kernel_rfl
theorem pages_Store_Read.made : compF Tryz.prog pages_Store_Read.pol Tryz.f31 = some pages_Store_Read.a := by kernel_rfl
theorem pages_Store_Read.fine : fOk Tryz.f31 pages_Store_Read.a = true := by kernel_rfl
theorem pages_Store_Commit.made : compF Tryz.prog pages_Store_Commit.pol Tryz.f32 = some pages_Store_Commit.a := by kernel_rfl
theorem pages_Store_Commit.fine : fOk Tryz.f32 pages_Store_Commit.a = true := by kernel_rfl
theorem pages_Store_Pages.made : compF Tryz.prog pages_Store_Pages.pol Tryz.f35 = some pages_Store_Pages.a := by kernel_rfl
theorem pages_Store_Pages.fine : fOk Tryz.f35 pages_Store_Pages.a = true := by kernel_rfl
theorem pages_Store_Room.made : compF Tryz.prog pages_Store_Room.pol Tryz.f36 = some pages_Store_Room.a := by kernel_rfl
theorem pages_Store_Room.fine : fOk Tryz.f36 pages_Store_Room.a = true := by kernel_rfl
theorem pages_Store_Epoch.made : compF Tryz.prog pages_Store_Epoch.pol Tryz.f39 = some pages_Store_Epoch.a := by kernel_rfl
theorem pages_Store_Epoch.fine : fOk Tryz.f39 pages_Store_Epoch.a = true := by kernel_rfl
theorem pages_Size.made : compF Tryz.prog pages_Size.pol Tryz.f41 = some pages_Size.a := by kernel_rfl
theorem pages_Size.fine : fOk Tryz.f41 pages_Size.a = true := by kernel_rfl
theorem disk_New.made : compF Tryz.prog disk_New.pol Tryz.f43 = some disk_New.a := by kernel_rfl
theorem disk_New.fine : fOk Tryz.f43 disk_New.a = true := by kernel_rfl
theorem law14_lives.made : compF Tryz.prog law14_lives.pol Tryz.f49 = some law14_lives.a := by kernel_rfl
theorem law14_lives.fine : fOk Tryz.f49 law14_lives.a = true := by kernel_rfl
theorem blob_Need.made : compF Tryz.prog blob_Need.pol Tryz.f50 = some blob_Need.a := by kernel_rfl
theorem blob_Need.fine : fOk Tryz.f50 blob_Need.a = true := by kernel_rfl
theorem law14_text.made : compF Tryz.prog law14_text.pol Tryz.f60 = some law14_text.a := by kernel_rfl
theorem law14_text.fine : fOk Tryz.f60 law14_text.a = true := by kernel_rfl
theorem law14_BlobBack_1.made : compF Tryz.prog law14_BlobBack_1.pol Tryz.f61 = some law14_BlobBack_1.a := by kernel_rfl
theorem law14_BlobBack_1.fine : fOk Tryz.f61 law14_BlobBack_1.a = true := by kernel_rfl
theorem blob_Put.made : compF Tryz.prog blob_Put.pol Tryz.f62 = some blob_Put.a := by kernel_rfl
theorem blob_Put.fine : fOk Tryz.f62 blob_Put.a = true := by kernel_rfl
theorem law14_BlobBack_2.made : compF Tryz.prog law14_BlobBack_2.pol Tryz.f63 = some law14_BlobBack_2.a := by kernel_rfl
theorem law14_BlobBack_2.fine : fOk Tryz.f63 law14_BlobBack_2.a = true := by kernel_rfl
theorem blob_Drop.made : compF Tryz.prog blob_Drop.pol Tryz.f64 = some blob_Drop.a := by kernel_rfl
theorem blob_Drop.fine : fOk Tryz.f64 blob_Drop.a = true := by kernel_rfl
theorem heap_View.made : compF Tryz.prog heap_View.pol Tryz.f65 = some heap_View.a := by kernel_rfl
theorem heap_View.fine : fOk Tryz.f65 heap_View.a = true := by kernel_rfl
theorem law14_BlobBack_3.made : compF Tryz.prog law14_BlobBack_3.pol Tryz.f66 = some law14_BlobBack_3.a := by kernel_rfl
theorem law14_BlobBack_3.fine : fOk Tryz.f66 law14_BlobBack_3.a = true := by kernel_rfl
theorem blob_Pages.made : compF Tryz.prog blob_Pages.pol Tryz.f67 = some blob_Pages.a := by kernel_rfl
theorem blob_Pages.fine : fOk0 Tryz.f67 blob_Pages.a = true := by kernel_rfl
theorem blob_Pages.rng : rgsA Tryz.f67 blob_Pages.a = rgsB Tryz.f67 blob_Pages.a := by kernel_rfl
noncomputable def blob_Pages.yc900000 : YCode := (ycode Tryz.f67 0 [5]).getD ⟨#[], .skip, .skip, [], 0⟩
theorem blob_Pages.yc900000.said : YTab.yt 900000 = some blob_Pages.yc900000 := by kernel_rfl
theorem blob_Pages.Y900000.made : compY Tryz.prog blob_Pages.polY900000 blob_Pages.yc900000 = some blob_Pages.Y900000 := by kernel_rfl
theorem blob_Pages.Y900000.fine : yOk blob_Pages.yc900000 blob_Pages.Y900000 = true := by kernel_rfl
theorem blob_Get.made : compF Tryz.prog blob_Get.pol Tryz.f68 = some blob_Get.a := by kernel_rfl
theorem blob_Get.fine : fOk0 Tryz.f68 blob_Get.a = true := by kernel_rfl
theorem blob_Get.rng : rgsA Tryz.f68 blob_Get.a = rgsB Tryz.f68 blob_Get.a := by kernel_rfl
noncomputable def blob_Get.yc900001 : YCode := (ycode Tryz.f68 0 [5]).getD ⟨#[], .skip, .skip, [], 0⟩
theorem blob_Get.yc900001.said : YTab.yt 900001 = some blob_Get.yc900001 := by kernel_rfl
theorem blob_Get.Y900001.made : compY Tryz.prog blob_Get.polY900001 blob_Get.yc900001 = some blob_Get.Y900001 := by kernel_rfl
theorem blob_Get.Y900001.fine : yOk blob_Get.yc900001 blob_Get.Y900001 = true := by kernel_rfl
theorem law14_BlobBack_4.made : compF Tryz.prog law14_BlobBack_4.pol Tryz.f69 = some law14_BlobBack_4.a := by kernel_rfl
theorem law14_BlobBack_4.fine : fOk Tryz.f69 law14_BlobBack_4.a = true := by kernel_rfl
theorem law14_BlobBack_5.made : compF Tryz.prog law14_BlobBack_5.pol Tryz.f70 = some law14_BlobBack_5.a := by kernel_rfl
theorem law14_BlobBack_5.fine : fOk Tryz.f70 law14_BlobBack_5.a = true := by kernel_rfl
theorem heap_Heap_images.made : compF Tryz.prog heap_Heap_images.pol Tryz.f122 = some heap_Heap_images.a := by kernel_rfl
theorem heap_Heap_images.fine : fOk Tryz.f122 heap_Heap_images.a = true := by kernel_rfl
theorem heap_Heap_Pages.made : compF Tryz.prog heap_Heap_Pages.pol Tryz.f123 = some heap_Heap_Pages.a := by kernel_rfl
theorem heap_Heap_Pages.fine : fOk Tryz.f123 heap_Heap_Pages.a = true := by kernel_rfl
theorem bitmap_Take.made : compF Tryz.prog bitmap_Take.pol Tryz.f124 = some bitmap_Take.a := by kernel_rfl
theorem bitmap_Take.fine : fOk Tryz.f124 bitmap_Take.a = true := by kernel_rfl
theorem heap_Heap_must.made : compF Tryz.prog heap_Heap_must.pol Tryz.f125 = some heap_Heap_must.a := by kernel_rfl
theorem heap_Heap_must.fine : fOk Tryz.f125 heap_Heap_must.a = true := by kernel_rfl
theorem octets_Pad.made : compF Tryz.prog octets_Pad.pol Tryz.f126 = some octets_Pad.a := by kernel_rfl
theorem octets_Pad.fine : fOk Tryz.f126 octets_Pad.a = true := by kernel_rfl
theorem bitmap_Give.made : compF Tryz.prog bitmap_Give.pol Tryz.f127 = some bitmap_Give.a := by kernel_rfl
theorem bitmap_Give.fine : fOk Tryz.f127 bitmap_Give.a = true := by kernel_rfl
theorem bitmap_Many.made : compF Tryz.prog bitmap_Many.pol Tryz.f128 = some bitmap_Many.a := by kernel_rfl
theorem bitmap_Many.fine : fOk Tryz.f128 bitmap_Many.a = true := by kernel_rfl
theorem disk_Disk_Len.made : compF Tryz.prog disk_Disk_Len.pol Tryz.f129 = some disk_Disk_Len.a := by kernel_rfl
theorem disk_Disk_Len.fine : fOk Tryz.f129 disk_Disk_Len.a = true := by kernel_rfl
theorem disk_Disk_Write.made : compF Tryz.prog disk_Disk_Write.pol Tryz.f130 = some disk_Disk_Write.a := by kernel_rfl
theorem disk_Disk_Write.fine : fOk Tryz.f130 disk_Disk_Write.a = true := by kernel_rfl
theorem sector_Blank.made : compF Tryz.prog sector_Blank.pol Tryz.f131 = some sector_Blank.a := by kernel_rfl
theorem sector_Blank.fine : fOk Tryz.f131 sector_Blank.a = true := by kernel_rfl
theorem disk_Disk_Flush.made : compF Tryz.prog disk_Disk_Flush.pol Tryz.f132 = some disk_Disk_Flush.a := by kernel_rfl
theorem disk_Disk_Flush.fine : fOk Tryz.f132 disk_Disk_Flush.a = true := by kernel_rfl
theorem pages_held.made : compF Tryz.prog pages_held.pol Tryz.f133 = some pages_held.a := by kernel_rfl
theorem pages_held.fine : fOk Tryz.f133 pages_held.a = true := by kernel_rfl
theorem pages_Store_write.made : compF Tryz.prog pages_Store_write.pol Tryz.f134 = some pages_Store_write.a := by kernel_rfl
theorem pages_Store_write.fine : fOk Tryz.f134 pages_Store_write.a = true := by kernel_rfl
theorem pages_Store_checkpoint.made : compF Tryz.prog pages_Store_checkpoint.pol Tryz.f138 = some pages_Store_checkpoint.a := by kernel_rfl
theorem pages_Store_checkpoint.fine : fOk Tryz.f138 pages_Store_checkpoint.a = true := by kernel_rfl
theorem journal_Check.made : compF Tryz.prog journal_Check.pol Tryz.f139 = some journal_Check.a := by kernel_rfl
theorem journal_Check.fine : fOk Tryz.f139 journal_Check.a = true := by kernel_rfl
theorem pages_Store_has.made : compF Tryz.prog pages_Store_has.pol Tryz.f140 = some pages_Store_has.a := by kernel_rfl
theorem pages_Store_has.fine : fOk Tryz.f140 pages_Store_has.a = true := by kernel_rfl
theorem disk_Disk_Down.made : compF Tryz.prog disk_Disk_Down.pol Tryz.f141 = some disk_Disk_Down.a := by kernel_rfl
theorem disk_Disk_Down.fine : fOk Tryz.f141 disk_Disk_Down.a = true := by kernel_rfl
theorem journal_Journal_Append.made : compF Tryz.prog journal_Journal_Append.pol Tryz.f142 = some journal_Journal_Append.a := by kernel_rfl
theorem journal_Journal_Append.fine : fOk Tryz.f142 journal_Journal_Append.a = true := by kernel_rfl
theorem pages_Store_change.made : compF Tryz.prog pages_Store_change.pol Tryz.f143 = some pages_Store_change.a := by kernel_rfl
theorem pages_Store_change.fine : fOk Tryz.f143 pages_Store_change.a = true := by kernel_rfl
theorem journal_Journal_Room.made : compF Tryz.prog journal_Journal_Room.pol Tryz.f146 = some journal_Journal_Room.a := by kernel_rfl
theorem journal_Journal_Room.fine : fOk Tryz.f146 journal_Journal_Room.a = true := by kernel_rfl
theorem journal_Journal_Epoch.made : compF Tryz.prog journal_Journal_Epoch.pol Tryz.f147 = some journal_Journal_Epoch.a := by kernel_rfl
theorem journal_Journal_Epoch.fine : fOk Tryz.f147 journal_Journal_Epoch.a = true := by kernel_rfl
theorem pages_sizes.made : compF Tryz.prog pages_sizes.pol Tryz.f148 = some pages_sizes.a := by kernel_rfl
theorem pages_sizes.fine : fOk Tryz.f148 pages_sizes.a = true := by kernel_rfl
theorem slices_Repeat_string_string.made : compF Tryz.prog slices_Repeat_string_string.pol Tryz.f149 = some slices_Repeat_string_string.a := by kernel_rfl
theorem slices_Repeat_string_string.fine : fOk Tryz.f149 slices_Repeat_string_string.a = true := by kernel_rfl
theorem disk_Disk_settle.made : compF Tryz.prog disk_Disk_settle.pol Tryz.f150 = some disk_Disk_settle.a := by kernel_rfl
theorem disk_Disk_settle.fine : fOk Tryz.f150 disk_Disk_settle.a = true := by kernel_rfl
theorem law14_lives_1.made : compF Tryz.prog law14_lives_1.pol Tryz.f152 = some law14_lives_1.a := by kernel_rfl
theorem law14_lives_1.fine : fOk Tryz.f152 law14_lives_1.a = true := by kernel_rfl
theorem law14_lives_2.made : compF Tryz.prog law14_lives_2.pol Tryz.f153 = some law14_lives_2.a := by kernel_rfl
theorem law14_lives_2.fine : fOk Tryz.f153 law14_lives_2.a = true := by kernel_rfl
theorem law14_lives_3.made : compF Tryz.prog law14_lives_3.pol Tryz.f154 = some law14_lives_3.a := by kernel_rfl
theorem law14_lives_3.fine : fOk Tryz.f154 law14_lives_3.a = true := by kernel_rfl
theorem ref10_Same.made : compF Tryz.prog ref10_Same.pol Tryz.f155 = some ref10_Same.a := by kernel_rfl
theorem ref10_Same.fine : fOk Tryz.f155 ref10_Same.a = true := by kernel_rfl
theorem octets_Cut.made : compF Tryz.prog octets_Cut.pol Tryz.f170 = some octets_Cut.a := by kernel_rfl
theorem octets_Cut.fine : fOk Tryz.f170 octets_Cut.a = true := by kernel_rfl
theorem blob_page.made : compF Tryz.prog blob_page.pol Tryz.f171 = some blob_page.a := by kernel_rfl
theorem blob_page.fine : fOk Tryz.f171 blob_page.a = true := by kernel_rfl
theorem blob_parts.made : compF Tryz.prog blob_parts.pol Tryz.f172 = some blob_parts.a := by kernel_rfl
theorem blob_parts.fine : fOk Tryz.f172 blob_parts.a = true := by kernel_rfl
theorem strings_Builder_WriteString.made : compF Tryz.prog strings_Builder_WriteString.pol Tryz.f173 = some strings_Builder_WriteString.a := by kernel_rfl
theorem strings_Builder_WriteString.fine : fOk Tryz.f173 strings_Builder_WriteString.a = true := by kernel_rfl
theorem octets_Open.made : compF Tryz.prog octets_Open.pol Tryz.f186 = some octets_Open.a := by kernel_rfl
theorem octets_Open.fine : fOk Tryz.f186 octets_Open.a = true := by kernel_rfl
theorem octets_Reader_Num.made : compF Tryz.prog octets_Reader_Num.pol Tryz.f187 = some octets_Reader_Num.a := by kernel_rfl
theorem octets_Reader_Num.fine : fOk Tryz.f187 octets_Reader_Num.a = true := by kernel_rfl
theorem octets_Num.made : compF Tryz.prog octets_Num.pol Tryz.f194 = some octets_Num.a := by kernel_rfl
theorem octets_Num.fine : fOk Tryz.f194 octets_Num.a = true := by kernel_rfl
theorem maps_Keys_map_intstring_int_string.made : compF Tryz.prog maps_Keys_map_intstring_int_string.pol Tryz.f227 = some maps_Keys_map_intstring_int_string.a := by kernel_rfl
theorem maps_Keys_map_intstring_int_string.fine : fOk Tryz.f227 maps_Keys_map_intstring_int_string.a = true := by kernel_rfl
theorem bitmap_Lowest.made : compF Tryz.prog bitmap_Lowest.pol Tryz.f228 = some bitmap_Lowest.a := by kernel_rfl
theorem bitmap_Lowest.fine : fOk Tryz.f228 bitmap_Lowest.a = true := by kernel_rfl
theorem bitmap_turn.made : compF Tryz.prog bitmap_turn.pol Tryz.f229 = some bitmap_turn.a := by kernel_rfl
theorem bitmap_turn.fine : fOk Tryz.f229 bitmap_turn.a = true := by kernel_rfl
theorem bitmap_is.made : compF Tryz.prog bitmap_is.pol Tryz.f231 = some bitmap_is.a := by kernel_rfl
theorem bitmap_is.fine : fOk Tryz.f231 bitmap_is.a = true := by kernel_rfl
theorem math_bits_OnesCount8.made : compF Tryz.prog math_bits_OnesCount8.pol Tryz.f232 = some math_bits_OnesCount8.a := by kernel_rfl
theorem math_bits_OnesCount8.fine : fOk Tryz.f232 math_bits_OnesCount8.a = true := by kernel_rfl
theorem bitmap_Used.made : compF Tryz.prog bitmap_Used.pol Tryz.f233 = some bitmap_Used.a := by kernel_rfl
theorem bitmap_Used.fine : fOk Tryz.f233 bitmap_Used.a = true := by kernel_rfl
theorem disk_Disk_has.made : compF Tryz.prog disk_Disk_has.pol Tryz.f234 = some disk_Disk_has.a := by kernel_rfl
theorem disk_Disk_has.fine : fOk Tryz.f234 disk_Disk_has.a = true := by kernel_rfl
theorem disk_Disk_step.made : compF Tryz.prog disk_Disk_step.pol Tryz.f235 = some disk_Disk_step.a := by kernel_rfl
theorem disk_Disk_step.fine : fOk Tryz.f235 disk_Disk_step.a = true := by kernel_rfl
theorem disk_Disk_Flush_1.made : compF Tryz.prog disk_Disk_Flush_1.pol Tryz.f236 = some disk_Disk_Flush_1.a := by kernel_rfl
theorem disk_Disk_Flush_1.fine : fOk Tryz.f236 disk_Disk_Flush_1.a = true := by kernel_rfl
theorem pages_head.made : compF Tryz.prog pages_head.pol Tryz.f237 = some pages_head.a := by kernel_rfl
theorem pages_head.fine : fOk Tryz.f237 pages_head.a = true := by kernel_rfl
theorem journal_Open.made : compF Tryz.prog journal_Open.pol Tryz.f238 = some journal_Open.a := by kernel_rfl
theorem journal_Open.fine : fOk Tryz.f238 journal_Open.a = true := by kernel_rfl
theorem pages_Store_home.made : compF Tryz.prog pages_Store_home.pol Tryz.f241 = some pages_Store_home.a := by kernel_rfl
theorem pages_Store_home.fine : fOk Tryz.f241 pages_Store_home.a = true := by kernel_rfl
theorem maps_Keys_map_intbool_int_bool.made : compF Tryz.prog maps_Keys_map_intbool_int_bool.pol Tryz.f244 = some maps_Keys_map_intbool_int_bool.a := by kernel_rfl
theorem maps_Keys_map_intbool_int_bool.fine : fOk Tryz.f244 maps_Keys_map_intbool_int_bool.a = true := by kernel_rfl
theorem sector_Home.made : compF Tryz.prog sector_Home.pol Tryz.f245 = some sector_Home.a := by kernel_rfl
theorem sector_Home.fine : fOk Tryz.f245 sector_Home.a = true := by kernel_rfl
theorem journal_page.made : compF Tryz.prog journal_page.pol Tryz.f246 = some journal_page.a := by kernel_rfl
theorem journal_page.fine : fOk Tryz.f246 journal_page.a = true := by kernel_rfl
theorem slices_ContainsFunc_journal_Image_journal_Image.made : compF Tryz.prog slices_ContainsFunc_journal_Image_journal_Image.pol Tryz.f247 = some slices_ContainsFunc_journal_Image_journal_Image.a := by kernel_rfl
theorem slices_ContainsFunc_journal_Image_journal_Image.fine : fOk Tryz.f247 slices_ContainsFunc_journal_Image_journal_Image.a = true := by kernel_rfl
theorem pages_Store_has_1.made : compF Tryz.prog pages_Store_has_1.pol Tryz.f248 = some pages_Store_has_1.a := by kernel_rfl
theorem pages_Store_has_1.fine : fOk Tryz.f248 pages_Store_has_1.a = true := by kernel_rfl
theorem journal_Journal_write.made : compF Tryz.prog journal_Journal_write.pol Tryz.f249 = some journal_Journal_write.a := by kernel_rfl
theorem journal_Journal_write.fine : fOk Tryz.f249 journal_Journal_write.a = true := by kernel_rfl
theorem math_bits_Mul.made : compF Tryz.prog math_bits_Mul.pol Tryz.f250 = some math_bits_Mul.a := by kernel_rfl
theorem math_bits_Mul.fine : fOk Tryz.f250 math_bits_Mul.a = true := by kernel_rfl
theorem octets_Cut_1.made : compF Tryz.prog octets_Cut_1.pol Tryz.f268 = some octets_Cut_1.a := by kernel_rfl
theorem octets_Cut_1.fine : fOk Tryz.f268 octets_Cut_1.a = true := by kernel_rfl
theorem blob_parts_1.made : compF Tryz.prog blob_parts_1.pol Tryz.f269 = some blob_parts_1.a := by kernel_rfl
theorem blob_parts_1.fine : fOk Tryz.f269 blob_parts_1.a = true := by kernel_rfl
theorem blob_part.made : compF Tryz.prog blob_part.pol Tryz.f270 = some blob_part.a := by kernel_rfl
theorem blob_part.fine : fOk Tryz.f270 blob_part.a = true := by kernel_rfl
theorem octets_width.made : compF Tryz.prog octets_width.pol Tryz.f277 = some octets_width.a := by kernel_rfl
theorem octets_width.fine : fOk Tryz.f277 octets_width.a = true := by kernel_rfl
theorem octets_Reader_Raw.made : compF Tryz.prog octets_Reader_Raw.pol Tryz.f278 = some octets_Reader_Raw.a := by kernel_rfl
theorem octets_Reader_Raw.fine : fOk Tryz.f278 octets_Reader_Raw.a = true := by kernel_rfl
theorem bitmap_within.made : compF Tryz.prog bitmap_within.pol Tryz.f321 = some bitmap_within.a := by kernel_rfl
theorem bitmap_within.fine : fOk Tryz.f321 bitmap_within.a = true := by kernel_rfl
theorem bitmap_free.made : compF Tryz.prog bitmap_free.pol Tryz.f322 = some bitmap_free.a := by kernel_rfl
theorem bitmap_free.fine : fOk Tryz.f322 bitmap_free.a = true := by kernel_rfl
theorem bitmap_turn_1.made : compF Tryz.prog bitmap_turn_1.pol Tryz.f323 = some bitmap_turn_1.a := by kernel_rfl
theorem bitmap_turn_1.fine : fOk Tryz.f323 bitmap_turn_1.a = true := by kernel_rfl
theorem bitmap_page.made : compF Tryz.prog bitmap_page.pol Tryz.f324 = some bitmap_page.a := by kernel_rfl
theorem bitmap_page.fine : fOk Tryz.f324 bitmap_page.a = true := by kernel_rfl
theorem bitmap_Set.made : compF Tryz.prog bitmap_Set.pol Tryz.f325 = some bitmap_Set.a := by kernel_rfl
theorem bitmap_Set.fine : fOk Tryz.f325 bitmap_Set.a = true := by kernel_rfl
theorem sector_Seal.made : compF Tryz.prog sector_Seal.pol Tryz.f328 = some sector_Seal.a := by kernel_rfl
theorem sector_Seal.fine : fOk Tryz.f328 sector_Seal.a = true := by kernel_rfl
theorem sector_Check.made : compF Tryz.prog sector_Check.pol Tryz.f332 = some sector_Check.a := by kernel_rfl
theorem sector_Check.fine : fOk Tryz.f332 sector_Check.a = true := by kernel_rfl
theorem octets_Noughts.made : compF Tryz.prog octets_Noughts.pol Tryz.f333 = some octets_Noughts.a := by kernel_rfl
theorem octets_Noughts.fine : fOk Tryz.f333 octets_Noughts.a = true := by kernel_rfl
theorem slices_IndexFunc_journal_Image_journal_Image.made : compF Tryz.prog slices_IndexFunc_journal_Image_journal_Image.pol Tryz.f334 = some slices_IndexFunc_journal_Image_journal_Image.a := by kernel_rfl
theorem slices_IndexFunc_journal_Image_journal_Image.fine : fOk Tryz.f334 slices_IndexFunc_journal_Image_journal_Image.a = true := by kernel_rfl
theorem math_bits_Mul32.made : compF Tryz.prog math_bits_Mul32.pol Tryz.f335 = some math_bits_Mul32.a := by kernel_rfl
theorem math_bits_Mul32.fine : fOk Tryz.f335 math_bits_Mul32.a = true := by kernel_rfl
theorem math_bits_Mul64.made : compF Tryz.prog math_bits_Mul64.pol Tryz.f336 = some math_bits_Mul64.a := by kernel_rfl
theorem math_bits_Mul64.fine : fOk Tryz.f336 math_bits_Mul64.a = true := by kernel_rfl
theorem octets_Reader_fail.made : compF Tryz.prog octets_Reader_fail.pol Tryz.f353 = some octets_Reader_fail.a := by kernel_rfl
theorem octets_Reader_fail.fine : fOk Tryz.f353 octets_Reader_fail.a = true := by kernel_rfl
theorem crc_More.made : compF Tryz.prog crc_More.pol Tryz.f380 = some crc_More.a := by kernel_rfl
theorem crc_More.fine : fOk Tryz.f380 crc_More.a = true := by kernel_rfl
theorem crc_Sum.made : compF Tryz.prog crc_Sum.pol Tryz.f381 = some crc_Sum.a := by kernel_rfl
theorem crc_Sum.fine : fOk Tryz.f381 crc_Sum.a = true := by kernel_rfl
theorem sector_short.made : compF Tryz.prog sector_short.pol Tryz.f383 = some sector_short.a := by kernel_rfl
theorem sector_short.fine : fOk Tryz.f383 sector_short.a = true := by kernel_rfl
theorem crc_fours.made : compF Tryz.prog crc_fours.pol Tryz.f415 = some crc_fours.a := by kernel_rfl
theorem crc_fours.fine : fOk Tryz.f415 crc_fours.a = true := by kernel_rfl
theorem crc_half.made : compF Tryz.prog crc_half.pol Tryz.f435 = some crc_half.a := by kernel_rfl
theorem crc_half.fine : fOk Tryz.f435 crc_half.a = true := by kernel_rfl
abbrev Fn := CallF → Nat → List AVal → Sg → R
inductive Tr where
  | leaf (n : Nat) (g : Fn)
  | node (k : Nat) (l r : Tr)
def Tr.run : Tr → Nat → Fn
  | .leaf n g, f, C, N, xs, sg => bif Nat.beq f n then g C N xs sg else none
  | .node k l r, f, C, N, xs, sg => bif Nat.blt f k then l.run f C N xs sg else r.run f C N xs sg
def Tr.All (p : Nat → Fn → Prop) : Tr → Prop
  | .leaf n g => p n g
  | .node _ l r => l.All p ∧ r.All p
theorem Tr.run_some {p : Nat → Fn → Prop} {f : Nat} {C : CallF} {N : Nat} {xs : List AVal} {sg : Sg} {out : Out} : ∀ {t : Tr}, t.All p → t.run f C N xs sg = some out → ∃ g, p f g ∧ g C N xs sg = some out
  | .leaf n g, h, e => by
    simp only [Tr.run] at e
    obtain ⟨h1, h2⟩ := bif_some e
    have := Nat.eq_of_beq_eq_true h1
    subst this
    exact ⟨g, h, h2⟩
  | .node k l r, h, e => by
    simp only [Tr.run] at e
    cases hb : Nat.blt f k with
    | true => rw [hb] at e; exact Tr.run_some h.1 e
    | false => rw [hb] at e; exact Tr.run_some h.2 e
def Good (f : Nat) (g : Fn) : Prop := ∀ C N xs sg out, SoundC Tryz.prog C → g C N xs sg = some out →
  ((f < yBase → Enters Tryz.prog f ∧ CallOK Tryz.prog f xs sg out) ∧ ∀ k, f = yBase + k → YieldOK Tryz.prog xs sg out) ∧ (YTab.ro f = true → out.sg = sg)
noncomputable def roChk (f : Nat) (af : AFun) : Bool := Nat.blt f yBase && (!YTab.ro f || roC af.body)
theorem leafF {f : Nat} {fn : Func} {af : AFun} {p : Pol} (hf : Tryz.prog.funcs[f]? = some fn) (h1 : compF Tryz.prog p fn = some af) (h2 : fOk fn af = true) (h3 : fn.body ≠ none) (h4 : fn.name ≠ "runtime.NumGoroutine") (h5 : roChk f af = true) :
    Good f (fun C N xs sg => evalF C N af xs sg) := by
  intro C N xs sg out hC h
  simp only [roChk, Bool.and_eq_true, Bool.or_eq_true] at h5
  refine ⟨⟨fun _ => ⟨⟨fn, hf, h3, h4⟩, eval_ok hC mixed hf h1 h2 h⟩, fun k hk => ?_⟩, fun hr => ?_⟩
  · have : f < yBase := Nat.blt_eq ▸ h5.1
    omega
  · rcases h5.2 with h6 | h6
    · rw [hr] at h6; cases h6
    · exact evalF_ro h6 h
theorem leafR {f : Nat} {fn : Func} {af : AFun} {p : Pol} (hf : Tryz.prog.funcs[f]? = some fn) (h1 : compF Tryz.prog p fn = some af) (h2 : fOk0 fn af = true) (hr : rgsA fn af = rgsB fn af) (h3 : fn.body ≠ none) (h4 : fn.name ≠ "runtime.NumGoroutine") (h5 : roChk f af = true) :
    Good f (fun C N xs sg => evalF C N af xs sg) := by
  intro C N xs sg out hC h
  simp only [roChk, Bool.and_eq_true, Bool.or_eq_true] at h5
  refine ⟨⟨fun _ => ⟨⟨fn, hf, h3, h4⟩, eval_okR hC mixed hf h1 h2 (fRange_of h2 hr) h⟩, fun k hk => ?_⟩, fun hr => ?_⟩
  · have : f < yBase := Nat.blt_eq ▸ h5.1
    omega
  · rcases h5.2 with h6 | h6
    · rw [hr] at h6; cases h6
    · exact evalF_ro h6 h
theorem leafY {k : Nat} {y : YCode} {ay : AYield} {p : Pol} (h1 : YTab.yt k = some y) (h2 : compY Tryz.prog p y = some ay) (h3 : yOk y ay = true) (h4 : YTab.ro (yBase + k) = false) :
    Good (yBase + k) (fun C N xs sg => evalY C N ay k xs sg) := by
  intro C N xs sg out hC h
  refine ⟨⟨fun hlt => ?_, fun k' hk => yield_ok hC h1 (compY_ok hC mixed h2 h3) h⟩, fun hr => ?_⟩
  · omega
  · rw [hr] at h4; cases h4
end Go.Abs
