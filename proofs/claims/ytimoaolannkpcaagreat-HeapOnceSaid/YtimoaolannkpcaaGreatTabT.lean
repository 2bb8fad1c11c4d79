/- The table, entry by entry. -/
import Derived.Test.YtimoaolannkpcaaGreatTabP
set_option linter.unusedVariables false
set_option linter.unusedSimpArgs false
set_option linter.unusedSectionVars false
namespace Go.Abs
theorem t3 (N dp : Nat) (xs : List AVal) (sg : Sg) : tab N (dp + 1) 3 xs sg = evalF (tab N dp) N law11_HeapOnce.a xs sg := rfl
theorem t5 (N dp : Nat) (xs : List AVal) (sg : Sg) : tab N (dp + 1) 5 xs sg = evalF (tab N dp) N law09_PagesPrefix.a xs sg := rfl
theorem t15 (N dp : Nat) (xs : List AVal) (sg : Sg) : tab N (dp + 1) 15 xs sg = evalF (tab N dp) N law11_lives.a xs sg := rfl
theorem t16 (N dp : Nat) (xs : List AVal) (sg : Sg) : tab N (dp + 1) 16 xs sg = evalF (tab N dp) N law11_Made.a xs sg := rfl
theorem t17 (N dp : Nat) (xs : List AVal) (sg : Sg) : tab N (dp + 1) 17 xs sg = evalF (tab N dp) N law11_all.a xs sg := rfl
theorem t18 (N dp : Nat) (xs : List AVal) (sg : Sg) : tab N (dp + 1) 18 xs sg = evalF (tab N dp) N heap_Do.a xs sg := rfl
theorem t19 (N dp : Nat) (xs : List AVal) (sg : Sg) : tab N (dp + 1) 19 xs sg = evalF (tab N dp) N law11_HeapOnce_1.a xs sg := rfl
theorem t20 (N dp : Nat) (xs : List AVal) (sg : Sg) : tab N (dp + 1) 20 xs sg = evalF (tab N dp) N heap_Heap_Put.a xs sg := rfl
theorem t21 (N dp : Nat) (xs : List AVal) (sg : Sg) : tab N (dp + 1) 21 xs sg = evalF (tab N dp) N law11_Act_text.a xs sg := rfl
theorem t22 (N dp : Nat) (xs : List AVal) (sg : Sg) : tab N (dp + 1) 22 xs sg = evalF (tab N dp) N heap_Heap_Take.a xs sg := rfl
theorem t23 (N dp : Nat) (xs : List AVal) (sg : Sg) : tab N (dp + 1) 23 xs sg = evalF (tab N dp) N heap_Heap_Get.a xs sg := rfl
theorem t25 (N dp : Nat) (xs : List AVal) (sg : Sg) : tab N (dp + 1) 25 xs sg = evalF (tab N dp) N heap_Heap_Give.a xs sg := rfl
theorem t26 (N dp : Nat) (xs : List AVal) (sg : Sg) : tab N (dp + 1) 26 xs sg = evalF (tab N dp) N heap_Heap_Stop.a xs sg := rfl
theorem t27 (N dp : Nat) (xs : List AVal) (sg : Sg) : tab N (dp + 1) 27 xs sg = evalF (tab N dp) N heap_Heap_Free.a xs sg := rfl
theorem t28 (N dp : Nat) (xs : List AVal) (sg : Sg) : tab N (dp + 1) 28 xs sg = evalF (tab N dp) N ref03_Same.a xs sg := rfl
theorem t29 (N dp : Nat) (xs : List AVal) (sg : Sg) : tab N (dp + 1) 29 xs sg = evalF (tab N dp) N pages_Format.a xs sg := rfl
theorem t30 (N dp : Nat) (xs : List AVal) (sg : Sg) : tab N (dp + 1) 30 xs sg = evalF (tab N dp) N pages_Load.a xs sg := rfl
theorem t31 (N dp : Nat) (xs : List AVal) (sg : Sg) : tab N (dp + 1) 31 xs sg = evalF (tab N dp) N pages_Store_Read.a xs sg := rfl
theorem t32 (N dp : Nat) (xs : List AVal) (sg : Sg) : tab N (dp + 1) 32 xs sg = evalF (tab N dp) N pages_Store_Commit.a xs sg := rfl
theorem t33 (N dp : Nat) (xs : List AVal) (sg : Sg) : tab N (dp + 1) 33 xs sg = evalF (tab N dp) N pages_Store_Flush.a xs sg := rfl
theorem t34 (N dp : Nat) (xs : List AVal) (sg : Sg) : tab N (dp + 1) 34 xs sg = evalF (tab N dp) N pages_Store_Checkpoint.a xs sg := rfl
theorem t35 (N dp : Nat) (xs : List AVal) (sg : Sg) : tab N (dp + 1) 35 xs sg = evalF (tab N dp) N pages_Store_Pages.a xs sg := rfl
theorem t36 (N dp : Nat) (xs : List AVal) (sg : Sg) : tab N (dp + 1) 36 xs sg = evalF (tab N dp) N pages_Store_Room.a xs sg := rfl
theorem t37 (N dp : Nat) (xs : List AVal) (sg : Sg) : tab N (dp + 1) 37 xs sg = evalF (tab N dp) N pages_Store_Waiting.a xs sg := rfl
theorem t38 (N dp : Nat) (xs : List AVal) (sg : Sg) : tab N (dp + 1) 38 xs sg = evalF (tab N dp) N pages_Store_Fresh.a xs sg := rfl
theorem t39 (N dp : Nat) (xs : List AVal) (sg : Sg) : tab N (dp + 1) 39 xs sg = evalF (tab N dp) N pages_Store_Epoch.a xs sg := rfl
theorem t40 (N dp : Nat) (xs : List AVal) (sg : Sg) : tab N (dp + 1) 40 xs sg = evalF (tab N dp) N law09_lives.a xs sg := rfl
theorem t41 (N dp : Nat) (xs : List AVal) (sg : Sg) : tab N (dp + 1) 41 xs sg = evalF (tab N dp) N pages_Size.a xs sg := rfl
theorem t42 (N dp : Nat) (xs : List AVal) (sg : Sg) : tab N (dp + 1) 42 xs sg = evalF (tab N dp) N law09_small.a xs sg := rfl
theorem t43 (N dp : Nat) (xs : List AVal) (sg : Sg) : tab N (dp + 1) 43 xs sg = evalF (tab N dp) N disk_New.a xs sg := rfl
theorem t44 (N dp : Nat) (xs : List AVal) (sg : Sg) : tab N (dp + 1) 44 xs sg = evalF (tab N dp) N law09_texts.a xs sg := rfl
theorem t45 (N dp : Nat) (xs : List AVal) (sg : Sg) : tab N (dp + 1) 45 xs sg = evalF (tab N dp) N law08_Images.a xs sg := rfl
theorem t46 (N dp : Nat) (xs : List AVal) (sg : Sg) : tab N (dp + 1) 46 xs sg = evalF (tab N dp) N law08_Ours.a xs sg := rfl
theorem t47 (N dp : Nat) (xs : List AVal) (sg : Sg) : tab N (dp + 1) 47 xs sg = evalF (tab N dp) N disk_Disk_Arm.a xs sg := rfl
theorem t48 (N dp : Nat) (xs : List AVal) (sg : Sg) : tab N (dp + 1) 48 xs sg = evalF (tab N dp) N disk_Disk_Up.a xs sg := rfl
theorem t65 (N dp : Nat) (xs : List AVal) (sg : Sg) : tab N (dp + 1) 65 xs sg = evalF (tab N dp) N heap_View.a xs sg := rfl
theorem t118 (N dp : Nat) (xs : List AVal) (sg : Sg) : tab N (dp + 1) 118 xs sg = evalF (tab N dp) N law11_lives_1.a xs sg := rfl
theorem t119 (N dp : Nat) (xs : List AVal) (sg : Sg) : tab N (dp + 1) 119 xs sg = evalF (tab N dp) N law11_lives_2.a xs sg := rfl
theorem t120 (N dp : Nat) (xs : List AVal) (sg : Sg) : tab N (dp + 1) 120 xs sg = evalF (tab N dp) N law11_lives_3.a xs sg := rfl
theorem t122 (N dp : Nat) (xs : List AVal) (sg : Sg) : tab N (dp + 1) 122 xs sg = evalF (tab N dp) N heap_Heap_images.a xs sg := rfl
theorem t123 (N dp : Nat) (xs : List AVal) (sg : Sg) : tab N (dp + 1) 123 xs sg = evalF (tab N dp) N heap_Heap_Pages.a xs sg := rfl
theorem t124 (N dp : Nat) (xs : List AVal) (sg : Sg) : tab N (dp + 1) 124 xs sg = evalF (tab N dp) N bitmap_Take.a xs sg := rfl
theorem t125 (N dp : Nat) (xs : List AVal) (sg : Sg) : tab N (dp + 1) 125 xs sg = evalF (tab N dp) N heap_Heap_must.a xs sg := rfl
theorem t126 (N dp : Nat) (xs : List AVal) (sg : Sg) : tab N (dp + 1) 126 xs sg = evalF (tab N dp) N octets_Pad.a xs sg := rfl
theorem t127 (N dp : Nat) (xs : List AVal) (sg : Sg) : tab N (dp + 1) 127 xs sg = evalF (tab N dp) N bitmap_Give.a xs sg := rfl
theorem t128 (N dp : Nat) (xs : List AVal) (sg : Sg) : tab N (dp + 1) 128 xs sg = evalF (tab N dp) N bitmap_Many.a xs sg := rfl
theorem t129 (N dp : Nat) (xs : List AVal) (sg : Sg) : tab N (dp + 1) 129 xs sg = evalF (tab N dp) N disk_Disk_Len.a xs sg := rfl
theorem t130 (N dp : Nat) (xs : List AVal) (sg : Sg) : tab N (dp + 1) 130 xs sg = evalF (tab N dp) N disk_Disk_Write.a xs sg := rfl
theorem t131 (N dp : Nat) (xs : List AVal) (sg : Sg) : tab N (dp + 1) 131 xs sg = evalF (tab N dp) N sector_Blank.a xs sg := rfl
theorem t132 (N dp : Nat) (xs : List AVal) (sg : Sg) : tab N (dp + 1) 132 xs sg = evalF (tab N dp) N disk_Disk_Flush.a xs sg := rfl
theorem t133 (N dp : Nat) (xs : List AVal) (sg : Sg) : tab N (dp + 1) 133 xs sg = evalF (tab N dp) N pages_held.a xs sg := rfl
theorem t134 (N dp : Nat) (xs : List AVal) (sg : Sg) : tab N (dp + 1) 134 xs sg = evalF (tab N dp) N pages_Store_write.a xs sg := rfl
theorem t135 (N dp : Nat) (xs : List AVal) (sg : Sg) : tab N (dp + 1) 135 xs sg = evalF (tab N dp) N pages_open.a xs sg := rfl
theorem t136 (N dp : Nat) (xs : List AVal) (sg : Sg) : tab N (dp + 1) 136 xs sg = evalF (tab N dp) N pages_Store_read.a xs sg := rfl
theorem t137 (N dp : Nat) (xs : List AVal) (sg : Sg) : tab N (dp + 1) 137 xs sg = evalF (tab N dp) N pages_Store_replay.a xs sg := rfl
theorem t138 (N dp : Nat) (xs : List AVal) (sg : Sg) : tab N (dp + 1) 138 xs sg = evalF (tab N dp) N pages_Store_checkpoint.a xs sg := rfl
theorem t139 (N dp : Nat) (xs : List AVal) (sg : Sg) : tab N (dp + 1) 139 xs sg = evalF (tab N dp) N journal_Check.a xs sg := rfl
theorem t140 (N dp : Nat) (xs : List AVal) (sg : Sg) : tab N (dp + 1) 140 xs sg = evalF (tab N dp) N pages_Store_has.a xs sg := rfl
theorem t141 (N dp : Nat) (xs : List AVal) (sg : Sg) : tab N (dp + 1) 141 xs sg = evalF (tab N dp) N disk_Disk_Down.a xs sg := rfl
theorem t142 (N dp : Nat) (xs : List AVal) (sg : Sg) : tab N (dp + 1) 142 xs sg = evalF (tab N dp) N journal_Journal_Append.a xs sg := rfl
theorem t143 (N dp : Nat) (xs : List AVal) (sg : Sg) : tab N (dp + 1) 143 xs sg = evalF (tab N dp) N pages_Store_change.a xs sg := rfl
theorem t144 (N dp : Nat) (xs : List AVal) (sg : Sg) : tab N (dp + 1) 144 xs sg = evalF (tab N dp) N pages_Store_may.a xs sg := rfl
theorem t145 (N dp : Nat) (xs : List AVal) (sg : Sg) : tab N (dp + 1) 145 xs sg = evalF (tab N dp) N journal_Journal_Number.a xs sg := rfl
theorem t146 (N dp : Nat) (xs : List AVal) (sg : Sg) : tab N (dp + 1) 146 xs sg = evalF (tab N dp) N journal_Journal_Room.a xs sg := rfl
theorem t147 (N dp : Nat) (xs : List AVal) (sg : Sg) : tab N (dp + 1) 147 xs sg = evalF (tab N dp) N journal_Journal_Epoch.a xs sg := rfl
theorem t148 (N dp : Nat) (xs : List AVal) (sg : Sg) : tab N (dp + 1) 148 xs sg = evalF (tab N dp) N pages_sizes.a xs sg := rfl
theorem t149 (N dp : Nat) (xs : List AVal) (sg : Sg) : tab N (dp + 1) 149 xs sg = evalF (tab N dp) N slices_Repeat_string_string.a xs sg := rfl
theorem t150 (N dp : Nat) (xs : List AVal) (sg : Sg) : tab N (dp + 1) 150 xs sg = evalF (tab N dp) N disk_Disk_settle.a xs sg := rfl
theorem t151 (N dp : Nat) (xs : List AVal) (sg : Sg) : tab N (dp + 1) 151 xs sg = evalF (tab N dp) N disk_Disk_Up_1.a xs sg := rfl
theorem t186 (N dp : Nat) (xs : List AVal) (sg : Sg) : tab N (dp + 1) 186 xs sg = evalF (tab N dp) N octets_Open.a xs sg := rfl
theorem t187 (N dp : Nat) (xs : List AVal) (sg : Sg) : tab N (dp + 1) 187 xs sg = evalF (tab N dp) N octets_Reader_Num.a xs sg := rfl
theorem t194 (N dp : Nat) (xs : List AVal) (sg : Sg) : tab N (dp + 1) 194 xs sg = evalF (tab N dp) N octets_Num.a xs sg := rfl
theorem t227 (N dp : Nat) (xs : List AVal) (sg : Sg) : tab N (dp + 1) 227 xs sg = evalF (tab N dp) N maps_Keys_map_intstring_int_string.a xs sg := rfl
theorem t228 (N dp : Nat) (xs : List AVal) (sg : Sg) : tab N (dp + 1) 228 xs sg = evalF (tab N dp) N bitmap_Lowest.a xs sg := rfl
theorem t229 (N dp : Nat) (xs : List AVal) (sg : Sg) : tab N (dp + 1) 229 xs sg = evalF (tab N dp) N bitmap_turn.a xs sg := rfl
theorem t231 (N dp : Nat) (xs : List AVal) (sg : Sg) : tab N (dp + 1) 231 xs sg = evalF (tab N dp) N bitmap_is.a xs sg := rfl
theorem t232 (N dp : Nat) (xs : List AVal) (sg : Sg) : tab N (dp + 1) 232 xs sg = evalF (tab N dp) N math_bits_OnesCount8.a xs sg := rfl
theorem t233 (N dp : Nat) (xs : List AVal) (sg : Sg) : tab N (dp + 1) 233 xs sg = evalF (tab N dp) N bitmap_Used.a xs sg := rfl
theorem t234 (N dp : Nat) (xs : List AVal) (sg : Sg) : tab N (dp + 1) 234 xs sg = evalF (tab N dp) N disk_Disk_has.a xs sg := rfl
theorem t235 (N dp : Nat) (xs : List AVal) (sg : Sg) : tab N (dp + 1) 235 xs sg = evalF (tab N dp) N disk_Disk_step.a xs sg := rfl
theorem t236 (N dp : Nat) (xs : List AVal) (sg : Sg) : tab N (dp + 1) 236 xs sg = evalF (tab N dp) N disk_Disk_Flush_1.a xs sg := rfl
theorem t237 (N dp : Nat) (xs : List AVal) (sg : Sg) : tab N (dp + 1) 237 xs sg = evalF (tab N dp) N pages_head.a xs sg := rfl
theorem t238 (N dp : Nat) (xs : List AVal) (sg : Sg) : tab N (dp + 1) 238 xs sg = evalF (tab N dp) N journal_Open.a xs sg := rfl
theorem t239 (N dp : Nat) (xs : List AVal) (sg : Sg) : tab N (dp + 1) 239 xs sg = evalF (tab N dp) N disk_Disk_Read.a xs sg := rfl
theorem t240 (N dp : Nat) (xs : List AVal) (sg : Sg) : tab N (dp + 1) 240 xs sg = evalF (tab N dp) N sector_Open.a xs sg := rfl
theorem t241 (N dp : Nat) (xs : List AVal) (sg : Sg) : tab N (dp + 1) 241 xs sg = evalF (tab N dp) N pages_Store_home.a xs sg := rfl
theorem t242 (N dp : Nat) (xs : List AVal) (sg : Sg) : tab N (dp + 1) 242 xs sg = evalF (tab N dp) N sector_OfHome.a xs sg := rfl
theorem t243 (N dp : Nat) (xs : List AVal) (sg : Sg) : tab N (dp + 1) 243 xs sg = evalF (tab N dp) N journal_Scan.a xs sg := rfl
theorem t244 (N dp : Nat) (xs : List AVal) (sg : Sg) : tab N (dp + 1) 244 xs sg = evalF (tab N dp) N maps_Keys_map_intbool_int_bool.a xs sg := rfl
theorem t245 (N dp : Nat) (xs : List AVal) (sg : Sg) : tab N (dp + 1) 245 xs sg = evalF (tab N dp) N sector_Home.a xs sg := rfl
theorem t246 (N dp : Nat) (xs : List AVal) (sg : Sg) : tab N (dp + 1) 246 xs sg = evalF (tab N dp) N journal_page.a xs sg := rfl
theorem t247 (N dp : Nat) (xs : List AVal) (sg : Sg) : tab N (dp + 1) 247 xs sg = evalF (tab N dp) N slices_ContainsFunc_journal_Image_journal_Image.a xs sg := rfl
theorem t248 (N dp : Nat) (xs : List AVal) (sg : Sg) : tab N (dp + 1) 248 xs sg = evalF (tab N dp) N pages_Store_has_1.a xs sg := rfl
theorem t249 (N dp : Nat) (xs : List AVal) (sg : Sg) : tab N (dp + 1) 249 xs sg = evalF (tab N dp) N journal_Journal_write.a xs sg := rfl
theorem t250 (N dp : Nat) (xs : List AVal) (sg : Sg) : tab N (dp + 1) 250 xs sg = evalF (tab N dp) N math_bits_Mul.a xs sg := rfl
theorem t277 (N dp : Nat) (xs : List AVal) (sg : Sg) : tab N (dp + 1) 277 xs sg = evalF (tab N dp) N octets_width.a xs sg := rfl
theorem t278 (N dp : Nat) (xs : List AVal) (sg : Sg) : tab N (dp + 1) 278 xs sg = evalF (tab N dp) N octets_Reader_Raw.a xs sg := rfl
theorem t321 (N dp : Nat) (xs : List AVal) (sg : Sg) : tab N (dp + 1) 321 xs sg = evalF (tab N dp) N bitmap_within.a xs sg := rfl
theorem t322 (N dp : Nat) (xs : List AVal) (sg : Sg) : tab N (dp + 1) 322 xs sg = evalF (tab N dp) N bitmap_free.a xs sg := rfl
theorem t323 (N dp : Nat) (xs : List AVal) (sg : Sg) : tab N (dp + 1) 323 xs sg = evalF (tab N dp) N bitmap_turn_1.a xs sg := rfl
theorem t324 (N dp : Nat) (xs : List AVal) (sg : Sg) : tab N (dp + 1) 324 xs sg = evalF (tab N dp) N bitmap_page.a xs sg := rfl
theorem t325 (N dp : Nat) (xs : List AVal) (sg : Sg) : tab N (dp + 1) 325 xs sg = evalF (tab N dp) N bitmap_Set.a xs sg := rfl
theorem t328 (N dp : Nat) (xs : List AVal) (sg : Sg) : tab N (dp + 1) 328 xs sg = evalF (tab N dp) N sector_Seal.a xs sg := rfl
theorem t329 (N dp : Nat) (xs : List AVal) (sg : Sg) : tab N (dp + 1) 329 xs sg = evalF (tab N dp) N slices_Backward_disk_write_disk_write.a xs sg := rfl
theorem t330 (N dp : Nat) (xs : List AVal) (sg : Sg) : tab N (dp + 1) 330 xs sg = evalF (tab N dp) N journal_scanner_next.a xs sg := rfl
theorem t332 (N dp : Nat) (xs : List AVal) (sg : Sg) : tab N (dp + 1) 332 xs sg = evalF (tab N dp) N sector_Check.a xs sg := rfl
theorem t333 (N dp : Nat) (xs : List AVal) (sg : Sg) : tab N (dp + 1) 333 xs sg = evalF (tab N dp) N octets_Noughts.a xs sg := rfl
theorem t334 (N dp : Nat) (xs : List AVal) (sg : Sg) : tab N (dp + 1) 334 xs sg = evalF (tab N dp) N slices_IndexFunc_journal_Image_journal_Image.a xs sg := rfl
theorem t335 (N dp : Nat) (xs : List AVal) (sg : Sg) : tab N (dp + 1) 335 xs sg = evalF (tab N dp) N math_bits_Mul32.a xs sg := rfl
theorem t336 (N dp : Nat) (xs : List AVal) (sg : Sg) : tab N (dp + 1) 336 xs sg = evalF (tab N dp) N math_bits_Mul64.a xs sg := rfl
theorem t353 (N dp : Nat) (xs : List AVal) (sg : Sg) : tab N (dp + 1) 353 xs sg = evalF (tab N dp) N octets_Reader_fail.a xs sg := rfl
theorem t381 (N dp : Nat) (xs : List AVal) (sg : Sg) : tab N (dp + 1) 381 xs sg = evalF (tab N dp) N crc_Sum.a xs sg := rfl
theorem t382 (N dp : Nat) (xs : List AVal) (sg : Sg) : tab N (dp + 1) 382 xs sg = evalF (tab N dp) N slices_Backward_disk_write_disk_write_1.a xs sg := rfl
theorem t383 (N dp : Nat) (xs : List AVal) (sg : Sg) : tab N (dp + 1) 383 xs sg = evalF (tab N dp) N sector_short.a xs sg := rfl
theorem t24 (N dp : Nat) (xs : List AVal) (sg : Sg) : tab N (dp + 1) 24 xs sg = ovPage xs sg := rfl
theorem t226 (N dp : Nat) (xs : List AVal) (sg : Sg) : tab N (dp + 1) 226 xs sg = ovSortedN xs sg := rfl
theorem t230 (N dp : Nat) (xs : List AVal) (sg : Sg) : tab N (dp + 1) 230 xs sg = ovRepeat xs sg := rfl
theorem t380 (N dp : Nat) (xs : List AVal) (sg : Sg) : tab N (dp + 1) 380 xs sg = ovMore xs sg := rfl
theorem t384 (N dp : Nat) (xs : List AVal) (sg : Sg) : tab N (dp + 1) 384 xs sg = ovCount xs sg := rfl
theorem t121 (N dp : Nat) (xs : List AVal) (sg : Sg) : tab N (dp + 1) 121 xs sg = ovTry (tab N dp) N xs sg := rfl
end Go.Abs
