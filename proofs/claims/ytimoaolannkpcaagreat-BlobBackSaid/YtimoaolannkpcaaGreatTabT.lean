/- The table, entry by entry. -/
import Derived.Test.YtimoaolannkpcaaGreatTabP
set_option linter.unusedVariables false
set_option linter.unusedSimpArgs false
set_option linter.unusedSectionVars false
namespace Go.Abs
theorem t7 (N dp : Nat) (xs : List AVal) (sg : Sg) : tab N (dp + 1) 7 xs sg = evalF (tab N dp) N law14_BlobBack.a xs sg := rfl
theorem t16 (N dp : Nat) (xs : List AVal) (sg : Sg) : tab N (dp + 1) 16 xs sg = evalF (tab N dp) N law11_Made.a xs sg := rfl
theorem t18 (N dp : Nat) (xs : List AVal) (sg : Sg) : tab N (dp + 1) 18 xs sg = evalF (tab N dp) N heap_Do.a xs sg := rfl
theorem t20 (N dp : Nat) (xs : List AVal) (sg : Sg) : tab N (dp + 1) 20 xs sg = evalF (tab N dp) N heap_Heap_Put.a xs sg := rfl
theorem t22 (N dp : Nat) (xs : List AVal) (sg : Sg) : tab N (dp + 1) 22 xs sg = evalF (tab N dp) N heap_Heap_Take.a xs sg := rfl
theorem t23 (N dp : Nat) (xs : List AVal) (sg : Sg) : tab N (dp + 1) 23 xs sg = evalF (tab N dp) N heap_Heap_Get.a xs sg := rfl
theorem t25 (N dp : Nat) (xs : List AVal) (sg : Sg) : tab N (dp + 1) 25 xs sg = evalF (tab N dp) N heap_Heap_Give.a xs sg := rfl
theorem t26 (N dp : Nat) (xs : List AVal) (sg : Sg) : tab N (dp + 1) 26 xs sg = evalF (tab N dp) N heap_Heap_Stop.a xs sg := rfl
theorem t27 (N dp : Nat) (xs : List AVal) (sg : Sg) : tab N (dp + 1) 27 xs sg = evalF (tab N dp) N heap_Heap_Free.a xs sg := rfl
theorem t29 (N dp : Nat) (xs : List AVal) (sg : Sg) : tab N (dp + 1) 29 xs sg = evalF (tab N dp) N pages_Format.a xs sg := rfl
theorem t31 (N dp : Nat) (xs : List AVal) (sg : Sg) : tab N (dp + 1) 31 xs sg = evalF (tab N dp) N pages_Store_Read.a xs sg := rfl
theorem t32 (N dp : Nat) (xs : List AVal) (sg : Sg) : tab N (dp + 1) 32 xs sg = evalF (tab N dp) N pages_Store_Commit.a xs sg := rfl
theorem t35 (N dp : Nat) (xs : List AVal) (sg : Sg) : tab N (dp + 1) 35 xs sg = evalF (tab N dp) N pages_Store_Pages.a xs sg := rfl
theorem t36 (N dp : Nat) (xs : List AVal) (sg : Sg) : tab N (dp + 1) 36 xs sg = evalF (tab N dp) N pages_Store_Room.a xs sg := rfl
theorem t39 (N dp : Nat) (xs : List AVal) (sg : Sg) : tab N (dp + 1) 39 xs sg = evalF (tab N dp) N pages_Store_Epoch.a xs sg := rfl
theorem t41 (N dp : Nat) (xs : List AVal) (sg : Sg) : tab N (dp + 1) 41 xs sg = evalF (tab N dp) N pages_Size.a xs sg := rfl
theorem t43 (N dp : Nat) (xs : List AVal) (sg : Sg) : tab N (dp + 1) 43 xs sg = evalF (tab N dp) N disk_New.a xs sg := rfl
theorem t49 (N dp : Nat) (xs : List AVal) (sg : Sg) : tab N (dp + 1) 49 xs sg = evalF (tab N dp) N law14_lives.a xs sg := rfl
theorem t50 (N dp : Nat) (xs : List AVal) (sg : Sg) : tab N (dp + 1) 50 xs sg = evalF (tab N dp) N blob_Need.a xs sg := rfl
theorem t60 (N dp : Nat) (xs : List AVal) (sg : Sg) : tab N (dp + 1) 60 xs sg = evalF (tab N dp) N law14_text.a xs sg := rfl
theorem t61 (N dp : Nat) (xs : List AVal) (sg : Sg) : tab N (dp + 1) 61 xs sg = evalF (tab N dp) N law14_BlobBack_1.a xs sg := rfl
theorem t62 (N dp : Nat) (xs : List AVal) (sg : Sg) : tab N (dp + 1) 62 xs sg = evalF (tab N dp) N blob_Put.a xs sg := rfl
theorem t63 (N dp : Nat) (xs : List AVal) (sg : Sg) : tab N (dp + 1) 63 xs sg = evalF (tab N dp) N law14_BlobBack_2.a xs sg := rfl
theorem t64 (N dp : Nat) (xs : List AVal) (sg : Sg) : tab N (dp + 1) 64 xs sg = evalF (tab N dp) N blob_Drop.a xs sg := rfl
theorem t65 (N dp : Nat) (xs : List AVal) (sg : Sg) : tab N (dp + 1) 65 xs sg = evalF (tab N dp) N heap_View.a xs sg := rfl
theorem t66 (N dp : Nat) (xs : List AVal) (sg : Sg) : tab N (dp + 1) 66 xs sg = evalF (tab N dp) N law14_BlobBack_3.a xs sg := rfl
theorem t67 (N dp : Nat) (xs : List AVal) (sg : Sg) : tab N (dp + 1) 67 xs sg = evalF (tab N dp) N blob_Pages.a xs sg := rfl
theorem t68 (N dp : Nat) (xs : List AVal) (sg : Sg) : tab N (dp + 1) 68 xs sg = evalF (tab N dp) N blob_Get.a xs sg := rfl
theorem t69 (N dp : Nat) (xs : List AVal) (sg : Sg) : tab N (dp + 1) 69 xs sg = evalF (tab N dp) N law14_BlobBack_4.a xs sg := rfl
theorem t70 (N dp : Nat) (xs : List AVal) (sg : Sg) : tab N (dp + 1) 70 xs sg = evalF (tab N dp) N law14_BlobBack_5.a xs sg := rfl
theorem t122 (N dp : Nat) (xs : List AVal) (sg : Sg) : tab N (dp + 1) 122 xs sg = evalF (tab N dp) N heap_Heap_images.a xs sg := rfl
theorem t123 (N dp : Nat) (xs : List AVal) (sg : Sg) : tab N (dp + 1) 123 xs sg = evalF (tab N dp) N heap_Heap_Pages.a xs sg := rfl
theorem t124 (N dp : Nat) (xs : List AVal) (sg : Sg) : tab N (dp + 1) 124 xs sg = evalF (tab N dp) N bitmap_Take.a xs sg := rfl
theorem t125 (N dp : Nat) (xs : List AVal) (sg : Sg) : tab N (dp + 1) 125 xs sg = evalF (tab N dp) N heap_Heap_must.a xs sg := rfl
theorem t126 (N dp : Nat) (xs : List AVal) (sg : Sg) : tab N (dp + 1) 126 xs sg = evalF (tab N dp) N octets_Pad.a xs sg := rfl
theorem t127 (N dp : Nat) (xs : List AVal) (sg : Sg) : tab N (dp + 1) 127 xs sg = evalF (tab N dp) N bitmap_Give.a xs sg := rfl
theorem t128 (N dp : Nat) (xs : List AVal) (sg : Sg) : tab N (dp + 1) 128 xs sg = evalF (tab N dp) N bitmap_Many.a xs sg := rfl
theorem t129 (N dp : Nat) (xs : List AVal) (sg : Sg) : tab N (dp + 1) 129 xs sg = evalF (tab N dp) N disk_Disk_Len.a xs sg := rfl
theorem t130 (N dp : Nat) (xs : List AVal) (sg : Sg) : tab N (dp + 1) 130 xs sg = evalF (tab N dp) N disk_Disk_Write.a xs sg := rfl
theorem t131 (N dp : Nat) (xs : List AVal) (sg : Sg) : tab N (dp + 1) 131 xs sg = evalF (tab N dp) N sector_Blank.a xs sg := rfl
theorem t132 (N dp : Nat) (xs : List AVal) (sg : Sg) : tab N (dp + 1) 132 xs sg = evalF (tab N dp) N disk_Disk_Flush.a xs sg := rfl
theorem t133 (N dp : Nat) (xs : List AVal) (sg : Sg) : tab N (dp + 1) 133 xs sg = evalF (tab N dp) N pages_held.a xs sg := rfl
theorem t134 (N dp : Nat) (xs : List AVal) (sg : Sg) : tab N (dp + 1) 134 xs sg = evalF (tab N dp) N pages_Store_write.a xs sg := rfl
theorem t138 (N dp : Nat) (xs : List AVal) (sg : Sg) : tab N (dp + 1) 138 xs sg = evalF (tab N dp) N pages_Store_checkpoint.a xs sg := rfl
theorem t139 (N dp : Nat) (xs : List AVal) (sg : Sg) : tab N (dp + 1) 139 xs sg = evalF (tab N dp) N journal_Check.a xs sg := rfl
theorem t140 (N dp : Nat) (xs : List AVal) (sg : Sg) : tab N (dp + 1) 140 xs sg = evalF (tab N dp) N pages_Store_has.a xs sg := rfl
theorem t141 (N dp : Nat) (xs : List AVal) (sg : Sg) : tab N (dp + 1) 141 xs sg = evalF (tab N dp) N disk_Disk_Down.a xs sg := rfl
theorem t142 (N dp : Nat) (xs : List AVal) (sg : Sg) : tab N (dp + 1) 142 xs sg = evalF (tab N dp) N journal_Journal_Append.a xs sg := rfl
theorem t143 (N dp : Nat) (xs : List AVal) (sg : Sg) : tab N (dp + 1) 143 xs sg = evalF (tab N dp) N pages_Store_change.a xs sg := rfl
theorem t146 (N dp : Nat) (xs : List AVal) (sg : Sg) : tab N (dp + 1) 146 xs sg = evalF (tab N dp) N journal_Journal_Room.a xs sg := rfl
theorem t147 (N dp : Nat) (xs : List AVal) (sg : Sg) : tab N (dp + 1) 147 xs sg = evalF (tab N dp) N journal_Journal_Epoch.a xs sg := rfl
theorem t148 (N dp : Nat) (xs : List AVal) (sg : Sg) : tab N (dp + 1) 148 xs sg = evalF (tab N dp) N pages_sizes.a xs sg := rfl
theorem t149 (N dp : Nat) (xs : List AVal) (sg : Sg) : tab N (dp + 1) 149 xs sg = evalF (tab N dp) N slices_Repeat_string_string.a xs sg := rfl
theorem t150 (N dp : Nat) (xs : List AVal) (sg : Sg) : tab N (dp + 1) 150 xs sg = evalF (tab N dp) N disk_Disk_settle.a xs sg := rfl
theorem t152 (N dp : Nat) (xs : List AVal) (sg : Sg) : tab N (dp + 1) 152 xs sg = evalF (tab N dp) N law14_lives_1.a xs sg := rfl
theorem t153 (N dp : Nat) (xs : List AVal) (sg : Sg) : tab N (dp + 1) 153 xs sg = evalF (tab N dp) N law14_lives_2.a xs sg := rfl
theorem t154 (N dp : Nat) (xs : List AVal) (sg : Sg) : tab N (dp + 1) 154 xs sg = evalF (tab N dp) N law14_lives_3.a xs sg := rfl
theorem t155 (N dp : Nat) (xs : List AVal) (sg : Sg) : tab N (dp + 1) 155 xs sg = evalF (tab N dp) N ref10_Same.a xs sg := rfl
theorem t170 (N dp : Nat) (xs : List AVal) (sg : Sg) : tab N (dp + 1) 170 xs sg = evalF (tab N dp) N octets_Cut.a xs sg := rfl
theorem t171 (N dp : Nat) (xs : List AVal) (sg : Sg) : tab N (dp + 1) 171 xs sg = evalF (tab N dp) N blob_page.a xs sg := rfl
theorem t172 (N dp : Nat) (xs : List AVal) (sg : Sg) : tab N (dp + 1) 172 xs sg = evalF (tab N dp) N blob_parts.a xs sg := rfl
theorem t173 (N dp : Nat) (xs : List AVal) (sg : Sg) : tab N (dp + 1) 173 xs sg = evalF (tab N dp) N strings_Builder_WriteString.a xs sg := rfl
theorem t186 (N dp : Nat) (xs : List AVal) (sg : Sg) : tab N (dp + 1) 186 xs sg = evalF (tab N dp) N octets_Open.a xs sg := rfl
theorem t187 (N dp : Nat) (xs : List AVal) (sg : Sg) : tab N (dp + 1) 187 xs sg = evalF (tab N dp) N octets_Reader_Num.a xs sg := rfl
theorem t194 (N dp : Nat) (xs : List AVal) (sg : Sg) : tab N (dp + 1) 194 xs sg = evalF (tab N dp) N octets_Num.a xs sg := rfl
theorem t227 (N dp : Nat) (xs : List AVal) (sg : Sg) : tab N (dp + 1) 227 xs sg = evalF (tab N dp) N maps_Keys_map_intstring_int_string.a xs sg := rfl
theorem t228 (N dp : Nat) (xs : List AVal) (sg : Sg) : tab N (dp + 1) 228 xs sg = evalF (tab N dp) N bitmap_Lowest.a xs sg := rfl
theorem t229 (N dp : Nat) (xs : List AVal) (sg : Sg) : tab N (dp + 1) 229 xs sg = evalF (tab N dp) N bitmap_turn.a xs sg := rfl
theorem t231 (N dp : Nat) (xs : List AVal) (sg : Sg) : tab N (dp + 1) 231 xs sg = evalF (tab N dp) N bitmap_is.a xs sg := rfl
theorem t232 (N dp : Nat) (xs : List AVal) (sg : Sg) : tab N (dp + 1) 232 xs sg = evalF (tab N dp) N math_bits_OnesCount8.a xs sg := rfl
theorem t233 (N dp : Nat) (xs : List AVal) (sg : Sg) : tab N (dp + 1) 233 xs sg = evalF (tab N dp) N bitmap_Used.a xs sg := rfl
theorem t234 (N dp : Nat) (xs : List AVal) (sg : Sg) : tab N (dp + 1) 234 xs sg = evalF (tab N dp) N disk_Disk_has.a xs sg := rfl
theorem t235 (N dp : Nat) (xs : List AVal) (sg : Sg) : tab N (dp + 1) 235 xs sg = evalF (tab N dp) N disk_Disk_step.a xs sg := rfl
theorem t236 (N dp : Nat) (xs : List AVal) (sg : Sg) : tab N (dp + 1) 236 xs sg = evalF (tab N dp) N disk_Disk_Flush_1.a xs sg := rfl
theorem t237 (N dp : Nat) (xs : List AVal) (sg : Sg) : tab N (dp + 1) 237 xs sg = evalF (tab N dp) N pages_head.a xs sg := rfl
theorem t238 (N dp : Nat) (xs : List AVal) (sg : Sg) : tab N (dp + 1) 238 xs sg = evalF (tab N dp) N journal_Open.a xs sg := rfl
theorem t241 (N dp : Nat) (xs : List AVal) (sg : Sg) : tab N (dp + 1) 241 xs sg = evalF (tab N dp) N pages_Store_home.a xs sg := rfl
theorem t244 (N dp : Nat) (xs : List AVal) (sg : Sg) : tab N (dp + 1) 244 xs sg = evalF (tab N dp) N maps_Keys_map_intbool_int_bool.a xs sg := rfl
theorem t245 (N dp : Nat) (xs : List AVal) (sg : Sg) : tab N (dp + 1) 245 xs sg = evalF (tab N dp) N sector_Home.a xs sg := rfl
theorem t246 (N dp : Nat) (xs : List AVal) (sg : Sg) : tab N (dp + 1) 246 xs sg = evalF (tab N dp) N journal_page.a xs sg := rfl
theorem t247 (N dp : Nat) (xs : List AVal) (sg : Sg) : tab N (dp + 1) 247 xs sg = evalF (tab N dp) N slices_ContainsFunc_journal_Image_journal_Image.a xs sg := rfl
theorem t248 (N dp : Nat) (xs : List AVal) (sg : Sg) : tab N (dp + 1) 248 xs sg = evalF (tab N dp) N pages_Store_has_1.a xs sg := rfl
theorem t249 (N dp : Nat) (xs : List AVal) (sg : Sg) : tab N (dp + 1) 249 xs sg = evalF (tab N dp) N journal_Journal_write.a xs sg := rfl
theorem t250 (N dp : Nat) (xs : List AVal) (sg : Sg) : tab N (dp + 1) 250 xs sg = evalF (tab N dp) N math_bits_Mul.a xs sg := rfl
theorem t268 (N dp : Nat) (xs : List AVal) (sg : Sg) : tab N (dp + 1) 268 xs sg = evalF (tab N dp) N octets_Cut_1.a xs sg := rfl
theorem t269 (N dp : Nat) (xs : List AVal) (sg : Sg) : tab N (dp + 1) 269 xs sg = evalF (tab N dp) N blob_parts_1.a xs sg := rfl
theorem t270 (N dp : Nat) (xs : List AVal) (sg : Sg) : tab N (dp + 1) 270 xs sg = evalF (tab N dp) N blob_part.a xs sg := rfl
theorem t277 (N dp : Nat) (xs : List AVal) (sg : Sg) : tab N (dp + 1) 277 xs sg = evalF (tab N dp) N octets_width.a xs sg := rfl
theorem t278 (N dp : Nat) (xs : List AVal) (sg : Sg) : tab N (dp + 1) 278 xs sg = evalF (tab N dp) N octets_Reader_Raw.a xs sg := rfl
theorem t321 (N dp : Nat) (xs : List AVal) (sg : Sg) : tab N (dp + 1) 321 xs sg = evalF (tab N dp) N bitmap_within.a xs sg := rfl
theorem t322 (N dp : Nat) (xs : List AVal) (sg : Sg) : tab N (dp + 1) 322 xs sg = evalF (tab N dp) N bitmap_free.a xs sg := rfl
theorem t323 (N dp : Nat) (xs : List AVal) (sg : Sg) : tab N (dp + 1) 323 xs sg = evalF (tab N dp) N bitmap_turn_1.a xs sg := rfl
theorem t324 (N dp : Nat) (xs : List AVal) (sg : Sg) : tab N (dp + 1) 324 xs sg = evalF (tab N dp) N bitmap_page.a xs sg := rfl
theorem t325 (N dp : Nat) (xs : List AVal) (sg : Sg) : tab N (dp + 1) 325 xs sg = evalF (tab N dp) N bitmap_Set.a xs sg := rfl
theorem t328 (N dp : Nat) (xs : List AVal) (sg : Sg) : tab N (dp + 1) 328 xs sg = evalF (tab N dp) N sector_Seal.a xs sg := rfl
theorem t332 (N dp : Nat) (xs : List AVal) (sg : Sg) : tab N (dp + 1) 332 xs sg = evalF (tab N dp) N sector_Check.a xs sg := rfl
theorem t333 (N dp : Nat) (xs : List AVal) (sg : Sg) : tab N (dp + 1) 333 xs sg = evalF (tab N dp) N octets_Noughts.a xs sg := rfl
theorem t334 (N dp : Nat) (xs : List AVal) (sg : Sg) : tab N (dp + 1) 334 xs sg = evalF (tab N dp) N slices_IndexFunc_journal_Image_journal_Image.a xs sg := rfl
theorem t336 (N dp : Nat) (xs : List AVal) (sg : Sg) : tab N (dp + 1) 336 xs sg = evalF (tab N dp) N math_bits_Mul64.a xs sg := rfl
theorem t381 (N dp : Nat) (xs : List AVal) (sg : Sg) : tab N (dp + 1) 381 xs sg = evalF (tab N dp) N crc_Sum.a xs sg := rfl
theorem t383 (N dp : Nat) (xs : List AVal) (sg : Sg) : tab N (dp + 1) 383 xs sg = evalF (tab N dp) N sector_short.a xs sg := rfl
theorem t174 (N dp : Nat) (xs : List AVal) (sg : Sg) : tab N (dp + 1) 174 xs sg = ovBString 5 xs sg := rfl
theorem t226 (N dp : Nat) (xs : List AVal) (sg : Sg) : tab N (dp + 1) 226 xs sg = ovSortedN xs sg := rfl
theorem t230 (N dp : Nat) (xs : List AVal) (sg : Sg) : tab N (dp + 1) 230 xs sg = ovRepeat xs sg := rfl
theorem t271 (N dp : Nat) (xs : List AVal) (sg : Sg) : tab N (dp + 1) 271 xs sg = ovCopyCheck 227 xs sg := rfl
theorem t380 (N dp : Nat) (xs : List AVal) (sg : Sg) : tab N (dp + 1) 380 xs sg = ovMore xs sg := rfl
theorem t384 (N dp : Nat) (xs : List AVal) (sg : Sg) : tab N (dp + 1) 384 xs sg = ovCount xs sg := rfl
theorem t121 (N dp : Nat) (xs : List AVal) (sg : Sg) : tab N (dp + 1) 121 xs sg = ovTry (tab N dp) N xs sg := rfl
theorem t1900000 (N dp : Nat) (xs : List AVal) (sg : Sg) : tab N (dp + 1) 1900000 xs sg = evalY (tab N dp) N blob_Pages.Y900000 900000 xs sg := rfl
theorem t1900001 (N dp : Nat) (xs : List AVal) (sg : Sg) : tab N (dp + 1) 1900001 xs sg = evalY (tab N dp) N blob_Get.Y900001 900001 xs sg := rfl
end Go.Abs
