/- THE TABLE: which function is which abstract code, and that all of it is sound. -/
import Derived.Test.YtojghbipoihboaaGreatProg
import Derived.Test.YtojghbipoihboaaGreatCodeP
import Derived.Test.YtojghbipoihboaaGreatEngC
import Derived.KernelRfl
set_option linter.unusedVariables false
set_option linter.unusedSimpArgs false
set_option linter.unusedSectionVars false
namespace Go.Abs
open Go.Proofs
set_option maxRecDepth 100000
theorem mixed : Tryz.prog.follows .mixedOrders = true := by kernel_rfl
theorem nb {α : Type} {o : Option α} (h : o.isSome = true) : o ≠ none := by rintro rfl; simp at h
theorem ne_of_beq {a b : String} (h : (a == b) = false) : a ≠ b := by rintro rfl; simp at h

noncomputable instance : YTab where
  yt k := bif Nat.beq k 900000 then ycode Tryz.f35 0 [5] else bif Nat.beq k 900001 then ycode Tryz.f94 0 [3, 4, 5] else bif Nat.beq k 900002 then ycode Tryz.f131 0 [5] else none
  ro f := has roList f
theorem law15_KvNil.made : compF Tryz.prog law15_KvNil.pol Tryz.f3 = some law15_KvNil.a := by kernel_rfl
theorem law15_KvNil.fine : fOk Tryz.f3 law15_KvNil.a = true := by kernel_rfl
theorem kv_Format.made : compF Tryz.prog kv_Format.pol Tryz.f4 = some kv_Format.a := by kernel_rfl
theorem kv_Format.fine : fOk Tryz.f4 kv_Format.a = true := by kernel_rfl
theorem kv_Load.made : compF Tryz.prog kv_Load.pol Tryz.f5 = some kv_Load.a := by kernel_rfl
theorem kv_Load.fine : fOk Tryz.f5 kv_Load.a = true := by kernel_rfl
theorem kv_Store_Do.made : compF Tryz.prog kv_Store_Do.pol Tryz.f6 = some kv_Store_Do.a := by kernel_rfl
theorem kv_Store_Do.fine : fOk Tryz.f6 kv_Store_Do.a = true := by kernel_rfl
theorem law15_KvNil_1.made : compF Tryz.prog law15_KvNil_1.pol Tryz.f7 = some law15_KvNil_1.a := by kernel_rfl
theorem law15_KvNil_1.fine : fOk Tryz.f7 law15_KvNil_1.a = true := by kernel_rfl
theorem kv_Store_View.made : compF Tryz.prog kv_Store_View.pol Tryz.f8 = some kv_Store_View.a := by kernel_rfl
theorem kv_Store_View.fine : fOk Tryz.f8 kv_Store_View.a = true := by kernel_rfl
theorem law15_KvNil_2.made : compF Tryz.prog law15_KvNil_2.pol Tryz.f9 = some law15_KvNil_2.a := by kernel_rfl
theorem law15_KvNil_2.fine : fOk Tryz.f9 law15_KvNil_2.a = true := by kernel_rfl
theorem kv_Store_Flush.made : compF Tryz.prog kv_Store_Flush.pol Tryz.f10 = some kv_Store_Flush.a := by kernel_rfl
theorem kv_Store_Flush.fine : fOk Tryz.f10 kv_Store_Flush.a = true := by kernel_rfl
theorem kv_Store_Checkpoint.made : compF Tryz.prog kv_Store_Checkpoint.pol Tryz.f11 = some kv_Store_Checkpoint.a := by kernel_rfl
theorem kv_Store_Checkpoint.fine : fOk Tryz.f11 kv_Store_Checkpoint.a = true := by kernel_rfl
theorem kv_Store_Waiting.made : compF Tryz.prog kv_Store_Waiting.pol Tryz.f12 = some kv_Store_Waiting.a := by kernel_rfl
theorem kv_Store_Waiting.fine : fOk Tryz.f12 kv_Store_Waiting.a = true := by kernel_rfl
theorem kv_Store_Free.made : compF Tryz.prog kv_Store_Free.pol Tryz.f13 = some kv_Store_Free.a := by kernel_rfl
theorem kv_Store_Free.fine : fOk Tryz.f13 kv_Store_Free.a = true := by kernel_rfl
theorem kv_Store_Check.made : compF Tryz.prog kv_Store_Check.pol Tryz.f14 = some kv_Store_Check.a := by kernel_rfl
theorem kv_Store_Check.fine : fOk Tryz.f14 kv_Store_Check.a = true := by kernel_rfl
theorem law15_Blobs.made : compF Tryz.prog law15_Blobs.pol Tryz.f15 = some law15_Blobs.a := by kernel_rfl
theorem law15_Blobs.fine : fOk Tryz.f15 law15_Blobs.a = true := by kernel_rfl
theorem law15_lives.made : compF Tryz.prog law15_lives.pol Tryz.f16 = some law15_lives.a := by kernel_rfl
theorem law15_lives.fine : fOk Tryz.f16 law15_lives.a = true := by kernel_rfl
theorem kv_held.made : compF Tryz.prog kv_held.pol Tryz.f17 = some kv_held.a := by kernel_rfl
theorem kv_held.fine : fOk Tryz.f17 kv_held.a = true := by kernel_rfl
theorem pages_Format.made : compF Tryz.prog pages_Format.pol Tryz.f18 = some pages_Format.a := by kernel_rfl
theorem pages_Format.fine : fOk Tryz.f18 pages_Format.a = true := by kernel_rfl
theorem pages_Load.made : compF Tryz.prog pages_Load.pol Tryz.f19 = some pages_Load.a := by kernel_rfl
theorem pages_Load.fine : fOk Tryz.f19 pages_Load.a = true := by kernel_rfl
theorem heap_Do.made : compF Tryz.prog heap_Do.pol Tryz.f20 = some heap_Do.a := by kernel_rfl
theorem heap_Do.fine : fOk Tryz.f20 heap_Do.a = true := by kernel_rfl
theorem kv_Store_pages.made : compF Tryz.prog kv_Store_pages.pol Tryz.f21 = some kv_Store_pages.a := by kernel_rfl
theorem kv_Store_pages.fine : fOk Tryz.f21 kv_Store_pages.a = true := by kernel_rfl
theorem kv_on.made : compF Tryz.prog kv_on.pol Tryz.f22 = some kv_on.a := by kernel_rfl
theorem kv_on.fine : fOk Tryz.f22 kv_on.a = true := by kernel_rfl
theorem heap_View.made : compF Tryz.prog heap_View.pol Tryz.f23 = some heap_View.a := by kernel_rfl
theorem heap_View.fine : fOk Tryz.f23 heap_View.a = true := by kernel_rfl
theorem pages_Store_Flush.made : compF Tryz.prog pages_Store_Flush.pol Tryz.f24 = some pages_Store_Flush.a := by kernel_rfl
theorem pages_Store_Flush.fine : fOk Tryz.f24 pages_Store_Flush.a = true := by kernel_rfl
theorem pages_Store_Checkpoint.made : compF Tryz.prog pages_Store_Checkpoint.pol Tryz.f25 = some pages_Store_Checkpoint.a := by kernel_rfl
theorem pages_Store_Checkpoint.fine : fOk Tryz.f25 pages_Store_Checkpoint.a = true := by kernel_rfl
theorem pages_Store_Waiting.made : compF Tryz.prog pages_Store_Waiting.pol Tryz.f26 = some pages_Store_Waiting.a := by kernel_rfl
theorem pages_Store_Waiting.fine : fOk Tryz.f26 pages_Store_Waiting.a = true := by kernel_rfl
theorem kv_Store_Free_1.made : compF Tryz.prog kv_Store_Free_1.pol Tryz.f27 = some kv_Store_Free_1.a := by kernel_rfl
theorem kv_Store_Free_1.fine : fOk Tryz.f27 kv_Store_Free_1.a = true := by kernel_rfl
theorem heap_Heap_Free.made : compF Tryz.prog heap_Heap_Free.pol Tryz.f28 = some heap_Heap_Free.a := by kernel_rfl
theorem heap_Heap_Free.fine : fOk Tryz.f28 heap_Heap_Free.a = true := by kernel_rfl
theorem kv_Store_Check_1.made : compF Tryz.prog kv_Store_Check_1.pol Tryz.f29 = some kv_Store_Check_1.a := by kernel_rfl
theorem kv_Store_Check_1.fine : fOk Tryz.f29 kv_Store_Check_1.a = true := by kernel_rfl
theorem tree_Check.made : compF Tryz.prog tree_Check.pol Tryz.f30 = some tree_Check.a := by kernel_rfl
theorem tree_Check.fine : fOk Tryz.f30 tree_Check.a = true := by kernel_rfl
theorem kv_met.made : compF Tryz.prog kv_met.pol Tryz.f31 = some kv_met.a := by kernel_rfl
theorem kv_met.fine : fOk Tryz.f31 kv_met.a = true := by kernel_rfl
theorem tree_Pages.made : compF Tryz.prog tree_Pages.pol Tryz.f32 = some tree_Pages.a := by kernel_rfl
theorem tree_Pages.fine : fOk Tryz.f32 tree_Pages.a = true := by kernel_rfl
theorem tree_Scan.made : compF Tryz.prog tree_Scan.pol Tryz.f33 = some tree_Scan.a := by kernel_rfl
theorem tree_Scan.fine : fOk Tryz.f33 tree_Scan.a = true := by kernel_rfl
theorem tree_Many.made : compF Tryz.prog tree_Many.pol Tryz.f34 = some tree_Many.a := by kernel_rfl
theorem tree_Many.fine : fOk Tryz.f34 tree_Many.a = true := by kernel_rfl
theorem blob_Pages.made : compF Tryz.prog blob_Pages.pol Tryz.f35 = some blob_Pages.a := by kernel_rfl
theorem blob_Pages.fine : fOk0 Tryz.f35 blob_Pages.a = true := by kernel_rfl
theorem blob_Pages.rng : rgsA Tryz.f35 blob_Pages.a = rgsB Tryz.f35 blob_Pages.a := by kernel_rfl
noncomputable def blob_Pages.yc900000 : YCode := (ycode Tryz.f35 0 [5]).getD ⟨#[], .skip, .skip, [], 0⟩
theorem blob_Pages.yc900000.said : YTab.yt 900000 = some blob_Pages.yc900000 := by kernel_rfl
theorem blob_Pages.Y900000.made : compY Tryz.prog blob_Pages.polY900000 blob_Pages.yc900000 = some blob_Pages.Y900000 := by kernel_rfl
theorem blob_Pages.Y900000.fine : yOk blob_Pages.yc900000 blob_Pages.Y900000 = true := by kernel_rfl
theorem heap_Heap_Pages.made : compF Tryz.prog heap_Heap_Pages.pol Tryz.f36 = some heap_Heap_Pages.a := by kernel_rfl
theorem heap_Heap_Pages.fine : fOk Tryz.f36 heap_Heap_Pages.a = true := by kernel_rfl
theorem law15_Made.made : compF Tryz.prog law15_Made.pol Tryz.f37 = some law15_Made.a := by kernel_rfl
theorem law15_Made.fine : fOk Tryz.f37 law15_Made.a = true := by kernel_rfl
theorem law15_lives_1.made : compF Tryz.prog law15_lives_1.pol Tryz.f38 = some law15_lives_1.a := by kernel_rfl
theorem law15_lives_1.fine : fOk Tryz.f38 law15_lives_1.a = true := by kernel_rfl
theorem law15_set.made : compF Tryz.prog law15_set.pol Tryz.f39 = some law15_set.a := by kernel_rfl
theorem law15_set.fine : fOk Tryz.f39 law15_set.a = true := by kernel_rfl
theorem kv_Tx_Scan.made : compF Tryz.prog kv_Tx_Scan.pol Tryz.f40 = some kv_Tx_Scan.a := by kernel_rfl
theorem kv_Tx_Scan.fine : fOk Tryz.f40 kv_Tx_Scan.a = true := by kernel_rfl
theorem law15_lives_2.made : compF Tryz.prog law15_lives_2.pol Tryz.f41 = some law15_lives_2.a := by kernel_rfl
theorem law15_lives_2.fine : fOk Tryz.f41 law15_lives_2.a = true := by kernel_rfl
theorem law15_unset.made : compF Tryz.prog law15_unset.pol Tryz.f42 = some law15_unset.a := by kernel_rfl
theorem law15_unset.fine : fOk Tryz.f42 law15_unset.a = true := by kernel_rfl
theorem kv_Tx_Stop.made : compF Tryz.prog kv_Tx_Stop.pol Tryz.f43 = some kv_Tx_Stop.a := by kernel_rfl
theorem kv_Tx_Stop.fine : fOk Tryz.f43 kv_Tx_Stop.a = true := by kernel_rfl
theorem ref12_SameItems.made : compF Tryz.prog ref12_SameItems.pol Tryz.f44 = some ref12_SameItems.a := by kernel_rfl
theorem ref12_SameItems.fine : fOk Tryz.f44 ref12_SameItems.a = true := by kernel_rfl
theorem law15_list.made : compF Tryz.prog law15_list.pol Tryz.f45 = some law15_list.a := by kernel_rfl
theorem law15_list.fine : fOk Tryz.f45 law15_list.a = true := by kernel_rfl
theorem pages_Size.made : compF Tryz.prog pages_Size.pol Tryz.f46 = some pages_Size.a := by kernel_rfl
theorem pages_Size.fine : fOk Tryz.f46 pages_Size.a = true := by kernel_rfl
theorem disk_Disk_Len.made : compF Tryz.prog disk_Disk_Len.pol Tryz.f47 = some disk_Disk_Len.a := by kernel_rfl
theorem disk_Disk_Len.fine : fOk Tryz.f47 disk_Disk_Len.a = true := by kernel_rfl
theorem disk_Disk_Write.made : compF Tryz.prog disk_Disk_Write.pol Tryz.f48 = some disk_Disk_Write.a := by kernel_rfl
theorem disk_Disk_Write.fine : fOk Tryz.f48 disk_Disk_Write.a = true := by kernel_rfl
theorem sector_Blank.made : compF Tryz.prog sector_Blank.pol Tryz.f49 = some sector_Blank.a := by kernel_rfl
theorem sector_Blank.fine : fOk Tryz.f49 sector_Blank.a = true := by kernel_rfl
theorem disk_Disk_Flush.made : compF Tryz.prog disk_Disk_Flush.pol Tryz.f50 = some disk_Disk_Flush.a := by kernel_rfl
theorem disk_Disk_Flush.fine : fOk Tryz.f50 disk_Disk_Flush.a = true := by kernel_rfl
theorem pages_held.made : compF Tryz.prog pages_held.pol Tryz.f51 = some pages_held.a := by kernel_rfl
theorem pages_held.fine : fOk Tryz.f51 pages_held.a = true := by kernel_rfl
theorem pages_Store_write.made : compF Tryz.prog pages_Store_write.pol Tryz.f52 = some pages_Store_write.a := by kernel_rfl
theorem pages_Store_write.fine : fOk Tryz.f52 pages_Store_write.a = true := by kernel_rfl
theorem pages_open.made : compF Tryz.prog pages_open.pol Tryz.f53 = some pages_open.a := by kernel_rfl
theorem pages_open.fine : fOk Tryz.f53 pages_open.a = true := by kernel_rfl
theorem pages_Store_read.made : compF Tryz.prog pages_Store_read.pol Tryz.f54 = some pages_Store_read.a := by kernel_rfl
theorem pages_Store_read.fine : fOk Tryz.f54 pages_Store_read.a = true := by kernel_rfl
theorem pages_Store_replay.made : compF Tryz.prog pages_Store_replay.pol Tryz.f55 = some pages_Store_replay.a := by kernel_rfl
theorem pages_Store_replay.fine : fOk Tryz.f55 pages_Store_replay.a = true := by kernel_rfl
theorem pages_Store_checkpoint.made : compF Tryz.prog pages_Store_checkpoint.pol Tryz.f56 = some pages_Store_checkpoint.a := by kernel_rfl
theorem pages_Store_checkpoint.fine : fOk Tryz.f56 pages_Store_checkpoint.a = true := by kernel_rfl
theorem heap_Heap_images.made : compF Tryz.prog heap_Heap_images.pol Tryz.f58 = some heap_Heap_images.a := by kernel_rfl
theorem heap_Heap_images.fine : fOk Tryz.f58 heap_Heap_images.a = true := by kernel_rfl
theorem pages_Store_Commit.made : compF Tryz.prog pages_Store_Commit.pol Tryz.f59 = some pages_Store_Commit.a := by kernel_rfl
theorem pages_Store_Commit.fine : fOk Tryz.f59 pages_Store_Commit.a = true := by kernel_rfl
theorem kv_on_1.made : compF Tryz.prog kv_on_1.pol Tryz.f60 = some kv_on_1.a := by kernel_rfl
theorem kv_on_1.fine : fOk Tryz.f60 kv_on_1.a = true := by kernel_rfl
theorem pages_Store_may.made : compF Tryz.prog pages_Store_may.pol Tryz.f61 = some pages_Store_may.a := by kernel_rfl
theorem pages_Store_may.fine : fOk Tryz.f61 pages_Store_may.a = true := by kernel_rfl
theorem journal_Journal_Number.made : compF Tryz.prog journal_Journal_Number.pol Tryz.f62 = some journal_Journal_Number.a := by kernel_rfl
theorem journal_Journal_Number.fine : fOk Tryz.f62 journal_Journal_Number.a = true := by kernel_rfl
theorem pages_Store_Epoch.made : compF Tryz.prog pages_Store_Epoch.pol Tryz.f63 = some pages_Store_Epoch.a := by kernel_rfl
theorem pages_Store_Epoch.fine : fOk Tryz.f63 pages_Store_Epoch.a = true := by kernel_rfl
theorem bitmap_Many.made : compF Tryz.prog bitmap_Many.pol Tryz.f64 = some bitmap_Many.a := by kernel_rfl
theorem bitmap_Many.fine : fOk Tryz.f64 bitmap_Many.a = true := by kernel_rfl
theorem heap_Heap_Get.made : compF Tryz.prog heap_Heap_Get.pol Tryz.f65 = some heap_Heap_Get.a := by kernel_rfl
theorem heap_Heap_Get.fine : fOk Tryz.f65 heap_Heap_Get.a = true := by kernel_rfl
theorem tree_open.made : compF Tryz.prog tree_open.pol Tryz.f66 = some tree_open.a := by kernel_rfl
theorem tree_open.fine : fOk Tryz.f66 tree_open.a = true := by kernel_rfl
theorem tree_checker_depth.made : compF Tryz.prog tree_checker_depth.pol Tryz.f67 = some tree_checker_depth.a := by kernel_rfl
theorem tree_checker_depth.fine : fOk Tryz.f67 tree_checker_depth.a = true := by kernel_rfl
theorem tree_blank.made : compF Tryz.prog tree_blank.pol Tryz.f68 = some tree_blank.a := by kernel_rfl
theorem tree_blank.fine : fOk Tryz.f68 tree_blank.a = true := by kernel_rfl
theorem tree_tree_pages.made : compF Tryz.prog tree_tree_pages.pol Tryz.f69 = some tree_tree_pages.a := by kernel_rfl
theorem tree_tree_pages.fine : fOk Tryz.f69 tree_tree_pages.a = true := by kernel_rfl
theorem tree_tree_walk.made : compF Tryz.prog tree_tree_walk.pol Tryz.f70 = some tree_tree_walk.a := by kernel_rfl
theorem tree_tree_walk.fine : fOk Tryz.f70 tree_tree_walk.a = true := by kernel_rfl
theorem tree_Scan_1.made : compF Tryz.prog tree_Scan_1.pol Tryz.f71 = some tree_Scan_1.a := by kernel_rfl
theorem tree_Scan_1.fine : fOk Tryz.f71 tree_Scan_1.a = true := by kernel_rfl
theorem blob_parts.made : compF Tryz.prog blob_parts.pol Tryz.f72 = some blob_parts.a := by kernel_rfl
theorem blob_parts.fine : fOk Tryz.f72 blob_parts.a = true := by kernel_rfl
theorem pages_Store_Pages.made : compF Tryz.prog pages_Store_Pages.pol Tryz.f73 = some pages_Store_Pages.a := by kernel_rfl
theorem pages_Store_Pages.fine : fOk Tryz.f73 pages_Store_Pages.a = true := by kernel_rfl
theorem disk_New.made : compF Tryz.prog disk_New.pol Tryz.f74 = some disk_New.a := by kernel_rfl
theorem disk_New.fine : fOk Tryz.f74 disk_New.a = true := by kernel_rfl
theorem kv_Tx_Put.made : compF Tryz.prog kv_Tx_Put.pol Tryz.f75 = some kv_Tx_Put.a := by kernel_rfl
theorem kv_Tx_Put.fine : fOk Tryz.f75 kv_Tx_Put.a = true := by kernel_rfl
theorem law15_value.made : compF Tryz.prog law15_value.pol Tryz.f76 = some law15_value.a := by kernel_rfl
theorem law15_value.fine : fOk Tryz.f76 law15_value.a = true := by kernel_rfl
theorem kv_Tx_Keep.made : compF Tryz.prog kv_Tx_Keep.pol Tryz.f77 = some kv_Tx_Keep.a := by kernel_rfl
theorem kv_Tx_Keep.fine : fOk Tryz.f77 kv_Tx_Keep.a = true := by kernel_rfl
theorem strings_HasPrefix.made : compF Tryz.prog strings_HasPrefix.pol Tryz.f78 = some strings_HasPrefix.a := by kernel_rfl
theorem strings_HasPrefix.fine : fOk Tryz.f78 strings_HasPrefix.a = true := by kernel_rfl
theorem kv_Tx_Get.made : compF Tryz.prog kv_Tx_Get.pol Tryz.f79 = some kv_Tx_Get.a := by kernel_rfl
theorem kv_Tx_Get.fine : fOk Tryz.f79 kv_Tx_Get.a = true := by kernel_rfl
theorem kv_Tx_Drop.made : compF Tryz.prog kv_Tx_Drop.pol Tryz.f80 = some kv_Tx_Drop.a := by kernel_rfl
theorem kv_Tx_Drop.fine : fOk Tryz.f80 kv_Tx_Drop.a = true := by kernel_rfl
theorem kv_Tx_Delete.made : compF Tryz.prog kv_Tx_Delete.pol Tryz.f81 = some kv_Tx_Delete.a := by kernel_rfl
theorem kv_Tx_Delete.fine : fOk Tryz.f81 kv_Tx_Delete.a = true := by kernel_rfl
theorem heap_Heap_Stop.made : compF Tryz.prog heap_Heap_Stop.pol Tryz.f82 = some heap_Heap_Stop.a := by kernel_rfl
theorem heap_Heap_Stop.fine : fOk Tryz.f82 heap_Heap_Stop.a = true := by kernel_rfl
theorem law15_list_1.made : compF Tryz.prog law15_list_1.pol Tryz.f83 = some law15_list_1.a := by kernel_rfl
theorem law15_list_1.fine : fOk Tryz.f83 law15_list_1.a = true := by kernel_rfl
theorem kv_Tx_Body.made : compF Tryz.prog kv_Tx_Body.pol Tryz.f84 = some kv_Tx_Body.a := by kernel_rfl
theorem kv_Tx_Body.fine : fOk Tryz.f84 kv_Tx_Body.a = true := by kernel_rfl
theorem pages_sizes.made : compF Tryz.prog pages_sizes.pol Tryz.f85 = some pages_sizes.a := by kernel_rfl
theorem pages_sizes.fine : fOk Tryz.f85 pages_sizes.a = true := by kernel_rfl
theorem disk_Disk_has.made : compF Tryz.prog disk_Disk_has.pol Tryz.f86 = some disk_Disk_has.a := by kernel_rfl
theorem disk_Disk_has.fine : fOk Tryz.f86 disk_Disk_has.a = true := by kernel_rfl
theorem disk_Disk_step.made : compF Tryz.prog disk_Disk_step.pol Tryz.f87 = some disk_Disk_step.a := by kernel_rfl
theorem disk_Disk_step.fine : fOk Tryz.f87 disk_Disk_step.a = true := by kernel_rfl
theorem octets_Pad.made : compF Tryz.prog octets_Pad.pol Tryz.f88 = some octets_Pad.a := by kernel_rfl
theorem octets_Pad.fine : fOk Tryz.f88 octets_Pad.a = true := by kernel_rfl
theorem disk_Disk_settle.made : compF Tryz.prog disk_Disk_settle.pol Tryz.f89 = some disk_Disk_settle.a := by kernel_rfl
theorem disk_Disk_settle.fine : fOk Tryz.f89 disk_Disk_settle.a = true := by kernel_rfl
theorem disk_Disk_Flush_1.made : compF Tryz.prog disk_Disk_Flush_1.pol Tryz.f90 = some disk_Disk_Flush_1.a := by kernel_rfl
theorem disk_Disk_Flush_1.fine : fOk Tryz.f90 disk_Disk_Flush_1.a = true := by kernel_rfl
theorem slices_Repeat_string_string.made : compF Tryz.prog slices_Repeat_string_string.pol Tryz.f91 = some slices_Repeat_string_string.a := by kernel_rfl
theorem slices_Repeat_string_string.fine : fOk Tryz.f91 slices_Repeat_string_string.a = true := by kernel_rfl
theorem pages_head.made : compF Tryz.prog pages_head.pol Tryz.f92 = some pages_head.a := by kernel_rfl
theorem pages_head.fine : fOk Tryz.f92 pages_head.a = true := by kernel_rfl
theorem journal_Open.made : compF Tryz.prog journal_Open.pol Tryz.f93 = some journal_Open.a := by kernel_rfl
theorem journal_Open.fine : fOk Tryz.f93 journal_Open.a = true := by kernel_rfl
theorem disk_Disk_Read.made : compF Tryz.prog disk_Disk_Read.pol Tryz.f94 = some disk_Disk_Read.a := by kernel_rfl
theorem disk_Disk_Read.fine : fOk0 Tryz.f94 disk_Disk_Read.a = true := by kernel_rfl
theorem disk_Disk_Read.rng : rgsA Tryz.f94 disk_Disk_Read.a = rgsB Tryz.f94 disk_Disk_Read.a := by kernel_rfl
noncomputable def disk_Disk_Read.yc900001 : YCode := (ycode Tryz.f94 0 [3, 4, 5]).getD ⟨#[], .skip, .skip, [], 0⟩
theorem disk_Disk_Read.yc900001.said : YTab.yt 900001 = some disk_Disk_Read.yc900001 := by kernel_rfl
theorem disk_Disk_Read.Y900001.made : compY Tryz.prog disk_Disk_Read.polY900001 disk_Disk_Read.yc900001 = some disk_Disk_Read.Y900001 := by kernel_rfl
theorem disk_Disk_Read.Y900001.fine : yOk disk_Disk_Read.yc900001 disk_Disk_Read.Y900001 = true := by kernel_rfl
theorem sector_Open.made : compF Tryz.prog sector_Open.pol Tryz.f95 = some sector_Open.a := by kernel_rfl
theorem sector_Open.fine : fOk Tryz.f95 sector_Open.a = true := by kernel_rfl
theorem pages_Store_home.made : compF Tryz.prog pages_Store_home.pol Tryz.f96 = some pages_Store_home.a := by kernel_rfl
theorem pages_Store_home.fine : fOk Tryz.f96 pages_Store_home.a = true := by kernel_rfl
theorem sector_OfHome.made : compF Tryz.prog sector_OfHome.pol Tryz.f97 = some sector_OfHome.a := by kernel_rfl
theorem sector_OfHome.fine : fOk Tryz.f97 sector_OfHome.a = true := by kernel_rfl
theorem journal_Scan.made : compF Tryz.prog journal_Scan.pol Tryz.f98 = some journal_Scan.a := by kernel_rfl
theorem journal_Scan.fine : fOk Tryz.f98 journal_Scan.a = true := by kernel_rfl
theorem pages_Store_has.made : compF Tryz.prog pages_Store_has.pol Tryz.f99 = some pages_Store_has.a := by kernel_rfl
theorem pages_Store_has.fine : fOk Tryz.f99 pages_Store_has.a = true := by kernel_rfl
theorem pages_Store_change.made : compF Tryz.prog pages_Store_change.pol Tryz.f100 = some pages_Store_change.a := by kernel_rfl
theorem pages_Store_change.fine : fOk Tryz.f100 pages_Store_change.a = true := by kernel_rfl
theorem maps_Keys_map_intbool_int_bool.made : compF Tryz.prog maps_Keys_map_intbool_int_bool.pol Tryz.f102 = some maps_Keys_map_intbool_int_bool.a := by kernel_rfl
theorem maps_Keys_map_intbool_int_bool.fine : fOk Tryz.f102 maps_Keys_map_intbool_int_bool.a = true := by kernel_rfl
theorem sector_Home.made : compF Tryz.prog sector_Home.pol Tryz.f103 = some sector_Home.a := by kernel_rfl
theorem sector_Home.fine : fOk Tryz.f103 sector_Home.a = true := by kernel_rfl
theorem maps_Keys_map_intstring_int_string.made : compF Tryz.prog maps_Keys_map_intstring_int_string.pol Tryz.f105 = some maps_Keys_map_intstring_int_string.a := by kernel_rfl
theorem maps_Keys_map_intstring_int_string.fine : fOk Tryz.f105 maps_Keys_map_intstring_int_string.a = true := by kernel_rfl
theorem pages_Store_Read.made : compF Tryz.prog pages_Store_Read.pol Tryz.f106 = some pages_Store_Read.a := by kernel_rfl
theorem pages_Store_Read.fine : fOk Tryz.f106 pages_Store_Read.a = true := by kernel_rfl
theorem journal_Check.made : compF Tryz.prog journal_Check.pol Tryz.f107 = some journal_Check.a := by kernel_rfl
theorem journal_Check.fine : fOk Tryz.f107 journal_Check.a = true := by kernel_rfl
theorem disk_Disk_Down.made : compF Tryz.prog disk_Disk_Down.pol Tryz.f108 = some disk_Disk_Down.a := by kernel_rfl
theorem disk_Disk_Down.fine : fOk Tryz.f108 disk_Disk_Down.a = true := by kernel_rfl
theorem pages_Store_Room.made : compF Tryz.prog pages_Store_Room.pol Tryz.f109 = some pages_Store_Room.a := by kernel_rfl
theorem pages_Store_Room.fine : fOk Tryz.f109 pages_Store_Room.a = true := by kernel_rfl
theorem journal_Journal_Append.made : compF Tryz.prog journal_Journal_Append.pol Tryz.f110 = some journal_Journal_Append.a := by kernel_rfl
theorem journal_Journal_Append.fine : fOk Tryz.f110 journal_Journal_Append.a = true := by kernel_rfl
theorem journal_Journal_Epoch.made : compF Tryz.prog journal_Journal_Epoch.pol Tryz.f111 = some journal_Journal_Epoch.a := by kernel_rfl
theorem journal_Journal_Epoch.fine : fOk Tryz.f111 journal_Journal_Epoch.a = true := by kernel_rfl
theorem bitmap_is.made : compF Tryz.prog bitmap_is.pol Tryz.f112 = some bitmap_is.a := by kernel_rfl
theorem bitmap_is.fine : fOk Tryz.f112 bitmap_is.a = true := by kernel_rfl
theorem math_bits_OnesCount8.made : compF Tryz.prog math_bits_OnesCount8.pol Tryz.f113 = some math_bits_OnesCount8.a := by kernel_rfl
theorem math_bits_OnesCount8.fine : fOk Tryz.f113 math_bits_OnesCount8.a = true := by kernel_rfl
theorem bitmap_Used.made : compF Tryz.prog bitmap_Used.pol Tryz.f114 = some bitmap_Used.a := by kernel_rfl
theorem bitmap_Used.fine : fOk Tryz.f114 bitmap_Used.a = true := by kernel_rfl
theorem heap_Heap_must.made : compF Tryz.prog heap_Heap_must.pol Tryz.f115 = some heap_Heap_must.a := by kernel_rfl
theorem heap_Heap_must.fine : fOk Tryz.f115 heap_Heap_must.a = true := by kernel_rfl
theorem octets_Open.made : compF Tryz.prog octets_Open.pol Tryz.f116 = some octets_Open.a := by kernel_rfl
theorem octets_Open.fine : fOk Tryz.f116 octets_Open.a = true := by kernel_rfl
theorem octets_Reader_Num.made : compF Tryz.prog octets_Reader_Num.pol Tryz.f117 = some octets_Reader_Num.a := by kernel_rfl
theorem octets_Reader_Num.fine : fOk Tryz.f117 octets_Reader_Num.a = true := by kernel_rfl
theorem tree_checker_node.made : compF Tryz.prog tree_checker_node.pol Tryz.f118 = some tree_checker_node.a := by kernel_rfl
theorem tree_checker_node.fine : fOk Tryz.f118 tree_checker_node.a = true := by kernel_rfl
theorem tree_span_has.made : compF Tryz.prog tree_span_has.pol Tryz.f119 = some tree_span_has.a := by kernel_rfl
theorem tree_span_has.fine : fOk Tryz.f119 tree_span_has.a = true := by kernel_rfl
theorem tree_span_kid.made : compF Tryz.prog tree_span_kid.pol Tryz.f120 = some tree_span_kid.a := by kernel_rfl
theorem tree_span_kid.fine : fOk Tryz.f120 tree_span_kid.a = true := by kernel_rfl
theorem tree_tree_load.made : compF Tryz.prog tree_tree_load.pol Tryz.f121 = some tree_tree_load.a := by kernel_rfl
theorem tree_tree_load.fine : fOk Tryz.f121 tree_tree_load.a = true := by kernel_rfl
theorem node_Find.made : compF Tryz.prog node_Find.pol Tryz.f122 = some node_Find.a := by kernel_rfl
theorem node_Find.fine : fOk Tryz.f122 node_Find.a = true := by kernel_rfl
theorem blob_parts_1.made : compF Tryz.prog blob_parts_1.pol Tryz.f123 = some blob_parts_1.a := by kernel_rfl
theorem blob_parts_1.fine : fOk Tryz.f123 blob_parts_1.a = true := by kernel_rfl
theorem blob_part.made : compF Tryz.prog blob_part.pol Tryz.f124 = some blob_part.a := by kernel_rfl
theorem blob_part.fine : fOk Tryz.f124 blob_part.a = true := by kernel_rfl
theorem tree_Put.made : compF Tryz.prog tree_Put.pol Tryz.f125 = some tree_Put.a := by kernel_rfl
theorem tree_Put.fine : fOk Tryz.f125 tree_Put.a = true := by kernel_rfl
theorem blob_Put.made : compF Tryz.prog blob_Put.pol Tryz.f126 = some blob_Put.a := by kernel_rfl
theorem blob_Put.fine : fOk Tryz.f126 blob_Put.a = true := by kernel_rfl
theorem internal_stringslite_HasPrefix.made : compF Tryz.prog internal_stringslite_HasPrefix.pol Tryz.f127 = some internal_stringslite_HasPrefix.a := by kernel_rfl
theorem internal_stringslite_HasPrefix.fine : fOk Tryz.f127 internal_stringslite_HasPrefix.a = true := by kernel_rfl
theorem tree_Get.made : compF Tryz.prog tree_Get.pol Tryz.f128 = some tree_Get.a := by kernel_rfl
theorem tree_Get.fine : fOk Tryz.f128 tree_Get.a = true := by kernel_rfl
theorem blob_Drop.made : compF Tryz.prog blob_Drop.pol Tryz.f129 = some blob_Drop.a := by kernel_rfl
theorem blob_Drop.fine : fOk Tryz.f129 blob_Drop.a = true := by kernel_rfl
theorem tree_Delete.made : compF Tryz.prog tree_Delete.pol Tryz.f130 = some tree_Delete.a := by kernel_rfl
theorem tree_Delete.fine : fOk Tryz.f130 tree_Delete.a = true := by kernel_rfl
theorem blob_Get.made : compF Tryz.prog blob_Get.pol Tryz.f131 = some blob_Get.a := by kernel_rfl
theorem blob_Get.fine : fOk0 Tryz.f131 blob_Get.a = true := by kernel_rfl
theorem blob_Get.rng : rgsA Tryz.f131 blob_Get.a = rgsB Tryz.f131 blob_Get.a := by kernel_rfl
noncomputable def blob_Get.yc900002 : YCode := (ycode Tryz.f131 0 [5]).getD ⟨#[], .skip, .skip, [], 0⟩
theorem blob_Get.yc900002.said : YTab.yt 900002 = some blob_Get.yc900002 := by kernel_rfl
theorem blob_Get.Y900002.made : compY Tryz.prog blob_Get.polY900002 blob_Get.yc900002 = some blob_Get.Y900002 := by kernel_rfl
theorem blob_Get.Y900002.fine : yOk blob_Get.yc900002 blob_Get.Y900002 = true := by kernel_rfl
theorem math_bits_Mul.made : compF Tryz.prog math_bits_Mul.pol Tryz.f133 = some math_bits_Mul.a := by kernel_rfl
theorem math_bits_Mul.fine : fOk Tryz.f133 math_bits_Mul.a = true := by kernel_rfl
theorem sector_Seal.made : compF Tryz.prog sector_Seal.pol Tryz.f134 = some sector_Seal.a := by kernel_rfl
theorem sector_Seal.fine : fOk Tryz.f134 sector_Seal.a = true := by kernel_rfl
theorem slices_Backward_disk_write_disk_write.made : compF Tryz.prog slices_Backward_disk_write_disk_write.pol Tryz.f135 = some slices_Backward_disk_write_disk_write.a := by kernel_rfl
theorem slices_Backward_disk_write_disk_write.fine : fOk Tryz.f135 slices_Backward_disk_write_disk_write.a = true := by kernel_rfl
theorem octets_Reader_Raw.made : compF Tryz.prog octets_Reader_Raw.pol Tryz.f136 = some octets_Reader_Raw.a := by kernel_rfl
theorem octets_Reader_Raw.fine : fOk Tryz.f136 octets_Reader_Raw.a = true := by kernel_rfl
theorem journal_scanner_next.made : compF Tryz.prog journal_scanner_next.pol Tryz.f137 = some journal_scanner_next.a := by kernel_rfl
theorem journal_scanner_next.fine : fOk Tryz.f137 journal_scanner_next.a = true := by kernel_rfl
theorem slices_ContainsFunc_journal_Image_journal_Image.made : compF Tryz.prog slices_ContainsFunc_journal_Image_journal_Image.pol Tryz.f138 = some slices_ContainsFunc_journal_Image_journal_Image.a := by kernel_rfl
theorem slices_ContainsFunc_journal_Image_journal_Image.fine : fOk Tryz.f138 slices_ContainsFunc_journal_Image_journal_Image.a = true := by kernel_rfl
theorem pages_Store_has_1.made : compF Tryz.prog pages_Store_has_1.pol Tryz.f139 = some pages_Store_has_1.a := by kernel_rfl
theorem pages_Store_has_1.fine : fOk Tryz.f139 pages_Store_has_1.a = true := by kernel_rfl
theorem sector_Check.made : compF Tryz.prog sector_Check.pol Tryz.f143 = some sector_Check.a := by kernel_rfl
theorem sector_Check.fine : fOk Tryz.f143 sector_Check.a = true := by kernel_rfl
theorem octets_Noughts.made : compF Tryz.prog octets_Noughts.pol Tryz.f144 = some octets_Noughts.a := by kernel_rfl
theorem octets_Noughts.fine : fOk Tryz.f144 octets_Noughts.a = true := by kernel_rfl
theorem journal_page.made : compF Tryz.prog journal_page.pol Tryz.f146 = some journal_page.a := by kernel_rfl
theorem journal_page.fine : fOk Tryz.f146 journal_page.a = true := by kernel_rfl
theorem journal_Journal_Room.made : compF Tryz.prog journal_Journal_Room.pol Tryz.f147 = some journal_Journal_Room.a := by kernel_rfl
theorem journal_Journal_Room.fine : fOk Tryz.f147 journal_Journal_Room.a = true := by kernel_rfl
theorem journal_Journal_write.made : compF Tryz.prog journal_Journal_write.pol Tryz.f148 = some journal_Journal_write.a := by kernel_rfl
theorem journal_Journal_write.fine : fOk Tryz.f148 journal_Journal_write.a = true := by kernel_rfl
theorem bitmap_page.made : compF Tryz.prog bitmap_page.pol Tryz.f149 = some bitmap_page.a := by kernel_rfl
theorem bitmap_page.fine : fOk Tryz.f149 bitmap_page.a = true := by kernel_rfl
theorem octets_width.made : compF Tryz.prog octets_width.pol Tryz.f150 = some octets_width.a := by kernel_rfl
theorem octets_width.fine : fOk Tryz.f150 octets_width.a = true := by kernel_rfl
theorem node_Decode.made : compF Tryz.prog node_Decode.pol Tryz.f151 = some node_Decode.a := by kernel_rfl
theorem node_Decode.fine : fOk Tryz.f151 node_Decode.a = true := by kernel_rfl
theorem sort_Search.made : compF Tryz.prog sort_Search.pol Tryz.f152 = some sort_Search.a := by kernel_rfl
theorem sort_Search.fine : fOk Tryz.f152 sort_Search.a = true := by kernel_rfl
theorem node_Find_1.made : compF Tryz.prog node_Find_1.pol Tryz.f153 = some node_Find_1.a := by kernel_rfl
theorem node_Find_1.fine : fOk Tryz.f153 node_Find_1.a = true := by kernel_rfl
theorem node_Node_leaf.made : compF Tryz.prog node_Node_leaf.pol Tryz.f154 = some node_Node_leaf.a := by kernel_rfl
theorem node_Node_leaf.fine : fOk Tryz.f154 node_Node_leaf.a = true := by kernel_rfl
theorem blob_page.made : compF Tryz.prog blob_page.pol Tryz.f155 = some blob_page.a := by kernel_rfl
theorem blob_page.fine : fOk Tryz.f155 blob_page.a = true := by kernel_rfl
theorem node_Check.made : compF Tryz.prog node_Check.pol Tryz.f156 = some node_Check.a := by kernel_rfl
theorem node_Check.fine : fOk Tryz.f156 node_Check.a = true := by kernel_rfl
theorem heap_Heap_Take.made : compF Tryz.prog heap_Heap_Take.pol Tryz.f157 = some heap_Heap_Take.a := by kernel_rfl
theorem heap_Heap_Take.fine : fOk Tryz.f157 heap_Heap_Take.a = true := by kernel_rfl
theorem tree_tree_store.made : compF Tryz.prog tree_tree_store.pol Tryz.f158 = some tree_tree_store.a := by kernel_rfl
theorem tree_tree_store.fine : fOk Tryz.f158 tree_tree_store.a = true := by kernel_rfl
theorem tree_tree_save.made : compF Tryz.prog tree_tree_save.pol Tryz.f159 = some tree_tree_save.a := by kernel_rfl
theorem tree_tree_save.fine : fOk Tryz.f159 tree_tree_save.a = true := by kernel_rfl
theorem tree_tree_put.made : compF Tryz.prog tree_tree_put.pol Tryz.f160 = some tree_tree_put.a := by kernel_rfl
theorem tree_tree_put.fine : fOk Tryz.f160 tree_tree_put.a = true := by kernel_rfl
theorem octets_Cut.made : compF Tryz.prog octets_Cut.pol Tryz.f161 = some octets_Cut.a := by kernel_rfl
theorem octets_Cut.fine : fOk Tryz.f161 octets_Cut.a = true := by kernel_rfl
theorem heap_Heap_Put.made : compF Tryz.prog heap_Heap_Put.pol Tryz.f162 = some heap_Heap_Put.a := by kernel_rfl
theorem heap_Heap_Put.fine : fOk Tryz.f162 heap_Heap_Put.a = true := by kernel_rfl
theorem heap_Heap_Give.made : compF Tryz.prog heap_Heap_Give.pol Tryz.f163 = some heap_Heap_Give.a := by kernel_rfl
theorem heap_Heap_Give.fine : fOk Tryz.f163 heap_Heap_Give.a = true := by kernel_rfl
theorem tree_tree_cut.made : compF Tryz.prog tree_tree_cut.pol Tryz.f164 = some tree_tree_cut.a := by kernel_rfl
theorem tree_tree_cut.fine : fOk Tryz.f164 tree_tree_cut.a = true := by kernel_rfl
theorem tree_tree_lower.made : compF Tryz.prog tree_tree_lower.pol Tryz.f165 = some tree_tree_lower.a := by kernel_rfl
theorem tree_tree_lower.fine : fOk Tryz.f165 tree_tree_lower.a = true := by kernel_rfl
theorem strings_Builder_WriteString.made : compF Tryz.prog strings_Builder_WriteString.pol Tryz.f166 = some strings_Builder_WriteString.a := by kernel_rfl
theorem strings_Builder_WriteString.fine : fOk Tryz.f166 strings_Builder_WriteString.a = true := by kernel_rfl
theorem math_bits_Mul32.made : compF Tryz.prog math_bits_Mul32.pol Tryz.f170 = some math_bits_Mul32.a := by kernel_rfl
theorem math_bits_Mul32.fine : fOk Tryz.f170 math_bits_Mul32.a = true := by kernel_rfl
theorem math_bits_Mul64.made : compF Tryz.prog math_bits_Mul64.pol Tryz.f171 = some math_bits_Mul64.a := by kernel_rfl
theorem math_bits_Mul64.fine : fOk Tryz.f171 math_bits_Mul64.a = true := by kernel_rfl
theorem octets_Num.made : compF Tryz.prog octets_Num.pol Tryz.f172 = some octets_Num.a := by kernel_rfl
theorem octets_Num.fine : fOk Tryz.f172 octets_Num.a = true := by kernel_rfl
theorem crc_More.made : compF Tryz.prog crc_More.pol Tryz.f173 = some crc_More.a := by kernel_rfl
theorem crc_More.fine : fOk Tryz.f173 crc_More.a = true := by kernel_rfl
theorem crc_Sum.made : compF Tryz.prog crc_Sum.pol Tryz.f174 = some crc_Sum.a := by kernel_rfl
theorem crc_Sum.fine : fOk Tryz.f174 crc_Sum.a = true := by kernel_rfl
theorem slices_Backward_disk_write_disk_write_1.made : compF Tryz.prog slices_Backward_disk_write_disk_write_1.pol Tryz.f175 = some slices_Backward_disk_write_disk_write_1.a := by kernel_rfl
theorem slices_Backward_disk_write_disk_write_1.fine : fOk Tryz.f175 slices_Backward_disk_write_disk_write_1.a = true := by kernel_rfl
theorem octets_Reader_fail.made : compF Tryz.prog octets_Reader_fail.pol Tryz.f176 = some octets_Reader_fail.a := by kernel_rfl
theorem octets_Reader_fail.fine : fOk Tryz.f176 octets_Reader_fail.a = true := by kernel_rfl
theorem slices_IndexFunc_journal_Image_journal_Image.made : compF Tryz.prog slices_IndexFunc_journal_Image_journal_Image.pol Tryz.f177 = some slices_IndexFunc_journal_Image_journal_Image.a := by kernel_rfl
theorem slices_IndexFunc_journal_Image_journal_Image.fine : fOk Tryz.f177 slices_IndexFunc_journal_Image_journal_Image.a = true := by kernel_rfl
theorem sector_short.made : compF Tryz.prog sector_short.pol Tryz.f181 = some sector_short.a := by kernel_rfl
theorem sector_short.fine : fOk Tryz.f181 sector_short.a = true := by kernel_rfl
theorem node_read.made : compF Tryz.prog node_read.pol Tryz.f183 = some node_read.a := by kernel_rfl
theorem node_read.fine : fOk Tryz.f183 node_read.a = true := by kernel_rfl
theorem node_Encode.made : compF Tryz.prog node_Encode.pol Tryz.f184 = some node_Encode.a := by kernel_rfl
theorem node_Encode.fine : fOk Tryz.f184 node_Encode.a = true := by kernel_rfl
theorem node_Node_item.made : compF Tryz.prog node_Node_item.pol Tryz.f185 = some node_Node_item.a := by kernel_rfl
theorem node_Node_item.fine : fOk Tryz.f185 node_Node_item.a = true := by kernel_rfl
theorem node_Size.made : compF Tryz.prog node_Size.pol Tryz.f186 = some node_Size.a := by kernel_rfl
theorem node_Size.fine : fOk Tryz.f186 node_Size.a = true := by kernel_rfl
theorem bitmap_Take.made : compF Tryz.prog bitmap_Take.pol Tryz.f187 = some bitmap_Take.a := by kernel_rfl
theorem bitmap_Take.fine : fOk Tryz.f187 bitmap_Take.a = true := by kernel_rfl
theorem tree_tree_fit.made : compF Tryz.prog tree_tree_fit.pol Tryz.f188 = some tree_tree_fit.a := by kernel_rfl
theorem tree_tree_fit.fine : fOk Tryz.f188 tree_tree_fit.a = true := by kernel_rfl
theorem node_Put.made : compF Tryz.prog node_Put.pol Tryz.f189 = some node_Put.a := by kernel_rfl
theorem node_Put.fine : fOk Tryz.f189 node_Put.a = true := by kernel_rfl
theorem slices_Insert_api_Item_api_Item.made : compF Tryz.prog slices_Insert_api_Item_api_Item.pol Tryz.f190 = some slices_Insert_api_Item_api_Item.a := by kernel_rfl
theorem slices_Insert_api_Item_api_Item.fine : fOk Tryz.f190 slices_Insert_api_Item_api_Item.a = true := by kernel_rfl
theorem octets_Cut_1.made : compF Tryz.prog octets_Cut_1.pol Tryz.f192 = some octets_Cut_1.a := by kernel_rfl
theorem octets_Cut_1.fine : fOk Tryz.f192 octets_Cut_1.a = true := by kernel_rfl
theorem bitmap_Give.made : compF Tryz.prog bitmap_Give.pol Tryz.f193 = some bitmap_Give.a := by kernel_rfl
theorem bitmap_Give.fine : fOk Tryz.f193 bitmap_Give.a = true := by kernel_rfl
theorem tree_tree_keep.made : compF Tryz.prog tree_tree_keep.pol Tryz.f195 = some tree_tree_keep.a := by kernel_rfl
theorem tree_tree_keep.fine : fOk Tryz.f195 tree_tree_keep.a = true := by kernel_rfl
theorem tree_without.made : compF Tryz.prog tree_without.pol Tryz.f196 = some tree_without.a := by kernel_rfl
theorem tree_without.fine : fOk Tryz.f196 tree_without.a = true := by kernel_rfl
theorem crc_fours.made : compF Tryz.prog crc_fours.pol Tryz.f200 = some crc_fours.a := by kernel_rfl
theorem crc_fours.fine : fOk Tryz.f200 crc_fours.a = true := by kernel_rfl
theorem node_short.made : compF Tryz.prog node_short.pol Tryz.f215 = some node_short.a := by kernel_rfl
theorem node_short.fine : fOk Tryz.f215 node_short.a = true := by kernel_rfl
theorem node_key.made : compF Tryz.prog node_key.pol Tryz.f216 = some node_key.a := by kernel_rfl
theorem node_key.fine : fOk Tryz.f216 node_key.a = true := by kernel_rfl
theorem node_Node_all.made : compF Tryz.prog node_Node_all.pol Tryz.f217 = some node_Node_all.a := by kernel_rfl
theorem node_Node_all.fine : fOk Tryz.f217 node_Node_all.a = true := by kernel_rfl
theorem bitmap_Lowest.made : compF Tryz.prog bitmap_Lowest.pol Tryz.f218 = some bitmap_Lowest.a := by kernel_rfl
theorem bitmap_Lowest.fine : fOk Tryz.f218 bitmap_Lowest.a = true := by kernel_rfl
theorem bitmap_turn.made : compF Tryz.prog bitmap_turn.pol Tryz.f219 = some bitmap_turn.a := by kernel_rfl
theorem bitmap_turn.fine : fOk Tryz.f219 bitmap_turn.a = true := by kernel_rfl
theorem crc_half.made : compF Tryz.prog crc_half.pol Tryz.f229 = some crc_half.a := by kernel_rfl
theorem crc_half.fine : fOk Tryz.f229 crc_half.a = true := by kernel_rfl
theorem node_Node_one.made : compF Tryz.prog node_Node_one.pol Tryz.f237 = some node_Node_one.a := by kernel_rfl
theorem node_Node_one.fine : fOk Tryz.f237 node_Node_one.a = true := by kernel_rfl
theorem bitmap_within.made : compF Tryz.prog bitmap_within.pol Tryz.f238 = some bitmap_within.a := by kernel_rfl
theorem bitmap_within.fine : fOk Tryz.f238 bitmap_within.a = true := by kernel_rfl
theorem bitmap_free.made : compF Tryz.prog bitmap_free.pol Tryz.f239 = some bitmap_free.a := by kernel_rfl
theorem bitmap_free.fine : fOk Tryz.f239 bitmap_free.a = true := by kernel_rfl
theorem bitmap_turn_1.made : compF Tryz.prog bitmap_turn_1.pol Tryz.f240 = some bitmap_turn_1.a := by kernel_rfl
theorem bitmap_turn_1.fine : fOk Tryz.f240 bitmap_turn_1.a = true := by kernel_rfl
theorem bitmap_Set.made : compF Tryz.prog bitmap_Set.pol Tryz.f241 = some bitmap_Set.a := by kernel_rfl
theorem bitmap_Set.fine : fOk Tryz.f241 bitmap_Set.a = true := by kernel_rfl
abbrev Fn := CallF → Nat → List AVal → Sg → R
inductive Tr where
  | leaf (n : Nat) (g : Fn)
  | node (k : Nat) (l r : Tr)
def Tr.run : Tr → Nat → Fn
  | .leaf n g, f, C, N, xs, sg => bif Nat.beq f n then g C N xs sg else none
  | .node k l r, f, C, N, xs, sg => bif Nat.blt f k then l.run f C N xs sg else r.run f C N xs sg
def Tr.All (p : Nat → Fn → Prop) : Tr → Prop
  | .leaf n g => p n g
  | .node _ l r => l.All p ∧ r.All p
theorem Tr.run_some {p : Nat → Fn → Prop} {f : Nat} {C : CallF} {N : Nat} {xs : List AVal} {sg : Sg} {out : Out} : ∀ {t : Tr}, t.All p → t.run f C N xs sg = some out → ∃ g, p f g ∧ g C N xs sg = some out
  | .leaf n g, h, e => by
    simp only [Tr.run] at e
    obtain ⟨h1, h2⟩ := bif_some e
    have := Nat.eq_of_beq_eq_true h1
    subst this
    exact ⟨g, h, h2⟩
  | .node k l r, h, e => by
    simp only [Tr.run] at e
    cases hb : Nat.blt f k with
    | true => rw [hb] at e; exact Tr.run_some h.1 e
    | false => rw [hb] at e; exact Tr.run_some h.2 e
/-- What is to be known of an entry. -/
def Good (f : Nat) (g : Fn) : Prop := ∀ C N xs sg out, SoundC Tryz.prog C → g C N xs sg = some out →
  ((f < yBase → Enters Tryz.prog f ∧ CallOK Tryz.prog f xs sg out) ∧ ∀ k, f = yBase + k → YieldOK Tryz.prog xs sg out) ∧ (YTab.ro f = true → out.sg = sg)
/-- Small, and left alone what must be. -/
noncomputable def roChk (f : Nat) (af : AFun) : Bool := Nat.blt f yBase && (!YTab.ro f || roC af.body)
theorem leafF {f : Nat} {fn : Func} {af : AFun} {p : Pol} (hf : Tryz.prog.funcs[f]? = some fn) (h1 : compF Tryz.prog p fn = some af) (h2 : fOk fn af = true) (h3 : fn.body ≠ none) (h4 : fn.name ≠ "runtime.NumGoroutine") (h5 : roChk f af = true) :
    Good f (fun C N xs sg => evalF C N af xs sg) := by
  intro C N xs sg out hC h
  simp only [roChk, Bool.and_eq_true, Bool.or_eq_true] at h5
  refine ⟨⟨fun _ => ⟨⟨fn, hf, h3, h4⟩, eval_ok hC mixed hf h1 h2 h⟩, fun k hk => ?_⟩, fun hr => ?_⟩
  · have : f < yBase := Nat.blt_eq ▸ h5.1
    omega
  · rcases h5.2 with h6 | h6
    · rw [hr] at h6; cases h6
    · exact evalF_ro h6 h
theorem leafR {f : Nat} {fn : Func} {af : AFun} {p : Pol} (hf : Tryz.prog.funcs[f]? = some fn) (h1 : compF Tryz.prog p fn = some af) (h2 : fOk0 fn af = true) (hr : rgsA fn af = rgsB fn af) (h3 : fn.body ≠ none) (h4 : fn.name ≠ "runtime.NumGoroutine") (h5 : roChk f af = true) :
    Good f (fun C N xs sg => evalF C N af xs sg) := by
  intro C N xs sg out hC h
  simp only [roChk, Bool.and_eq_true, Bool.or_eq_true] at h5
  refine ⟨⟨fun _ => ⟨⟨fn, hf, h3, h4⟩, eval_okR hC mixed hf h1 h2 (fRange_of h2 hr) h⟩, fun k hk => ?_⟩, fun hr => ?_⟩
  · have : f < yBase := Nat.blt_eq ▸ h5.1
    omega
  · rcases h5.2 with h6 | h6
    · rw [hr] at h6; cases h6
    · exact evalF_ro h6 h
theorem leafY {k : Nat} {y : YCode} {ay : AYield} {p : Pol} (h1 : YTab.yt k = some y) (h2 : compY Tryz.prog p y = some ay) (h3 : yOk y ay = true) (h4 : YTab.ro (yBase + k) = false) :
    Good (yBase + k) (fun C N xs sg => evalY C N ay k xs sg) := by
  intro C N xs sg out hC h
  refine ⟨⟨fun hlt => ?_, fun k' hk => yield_ok hC h1 (compY_ok hC mixed h2 h3) h⟩, fun hr => ?_⟩
  · omega
  · rw [hr] at h4; cases h4

end Go.Abs
