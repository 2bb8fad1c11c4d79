/- The table, entry by entry. -/
import Derived.Test.YtimoaolannkpcaaGreatTabP
set_option linter.unusedVariables false
set_option linter.unusedSimpArgs false
set_option linter.unusedSectionVars false
namespace Go.Abs
variable (N dp : Nat) (xs : List AVal) (sg : Sg)
theorem t5 : tab N (dp + 1) 5 xs sg = evalF (tab N dp) N law09_PagesPrefix.a xs sg := rfl
theorem t28 : tab N (dp + 1) 28 xs sg = evalF (tab N dp) N ref03_Same.a xs sg := rfl
theorem t29 : tab N (dp + 1) 29 xs sg = evalF (tab N dp) N pages_Format.a xs sg := rfl
theorem t30 : tab N (dp + 1) 30 xs sg = evalF (tab N dp) N pages_Load.a xs sg := rfl
theorem t31 : tab N (dp + 1) 31 xs sg = evalF (tab N dp) N pages_Store_Read.a xs sg := rfl
theorem t32 : tab N (dp + 1) 32 xs sg = evalF (tab N dp) N pages_Store_Commit.a xs sg := rfl
theorem t33 : tab N (dp + 1) 33 xs sg = evalF (tab N dp) N pages_Store_Flush.a xs sg := rfl
theorem t34 : tab N (dp + 1) 34 xs sg = evalF (tab N dp) N pages_Store_Checkpoint.a xs sg := rfl
theorem t35 : tab N (dp + 1) 35 xs sg = evalF (tab N dp) N pages_Store_Pages.a xs sg := rfl
theorem t36 : tab N (dp + 1) 36 xs sg = evalF (tab N dp) N pages_Store_Room.a xs sg := rfl
theorem t37 : tab N (dp + 1) 37 xs sg = evalF (tab N dp) N pages_Store_Waiting.a xs sg := rfl
theorem t38 : tab N (dp + 1) 38 xs sg = evalF (tab N dp) N pages_Store_Fresh.a xs sg := rfl
theorem t39 : tab N (dp + 1) 39 xs sg = evalF (tab N dp) N pages_Store_Epoch.a xs sg := rfl
theorem t40 : tab N (dp + 1) 40 xs sg = evalF (tab N dp) N law09_lives.a xs sg := rfl
theorem t41 : tab N (dp + 1) 41 xs sg = evalF (tab N dp) N pages_Size.a xs sg := rfl
theorem t42 : tab N (dp + 1) 42 xs sg = evalF (tab N dp) N law09_small.a xs sg := rfl
theorem t43 : tab N (dp + 1) 43 xs sg = evalF (tab N dp) N disk_New.a xs sg := rfl
theorem t44 : tab N (dp + 1) 44 xs sg = evalF (tab N dp) N law09_texts.a xs sg := rfl
theorem t45 : tab N (dp + 1) 45 xs sg = evalF (tab N dp) N law08_Images.a xs sg := rfl
theorem t46 : tab N (dp + 1) 46 xs sg = evalF (tab N dp) N law08_Ours.a xs sg := rfl
theorem t47 : tab N (dp + 1) 47 xs sg = evalF (tab N dp) N disk_Disk_Arm.a xs sg := rfl
theorem t48 : tab N (dp + 1) 48 xs sg = evalF (tab N dp) N disk_Disk_Up.a xs sg := rfl
theorem t126 : tab N (dp + 1) 126 xs sg = evalF (tab N dp) N octets_Pad.a xs sg := rfl
theorem t129 : tab N (dp + 1) 129 xs sg = evalF (tab N dp) N disk_Disk_Len.a xs sg := rfl
theorem t130 : tab N (dp + 1) 130 xs sg = evalF (tab N dp) N disk_Disk_Write.a xs sg := rfl
theorem t131 : tab N (dp + 1) 131 xs sg = evalF (tab N dp) N sector_Blank.a xs sg := rfl
theorem t132 : tab N (dp + 1) 132 xs sg = evalF (tab N dp) N disk_Disk_Flush.a xs sg := rfl
theorem t133 : tab N (dp + 1) 133 xs sg = evalF (tab N dp) N pages_held.a xs sg := rfl
theorem t134 : tab N (dp + 1) 134 xs sg = evalF (tab N dp) N pages_Store_write.a xs sg := rfl
theorem t135 : tab N (dp + 1) 135 xs sg = evalF (tab N dp) N pages_open.a xs sg := rfl
theorem t136 : tab N (dp + 1) 136 xs sg = evalF (tab N dp) N pages_Store_read.a xs sg := rfl
theorem t137 : tab N (dp + 1) 137 xs sg = evalF (tab N dp) N pages_Store_replay.a xs sg := rfl
theorem t138 : tab N (dp + 1) 138 xs sg = evalF (tab N dp) N pages_Store_checkpoint.a xs sg := rfl
theorem t139 : tab N (dp + 1) 139 xs sg = evalF (tab N dp) N journal_Check.a xs sg := rfl
theorem t140 : tab N (dp + 1) 140 xs sg = evalF (tab N dp) N pages_Store_has.a xs sg := rfl
theorem t141 : tab N (dp + 1) 141 xs sg = evalF (tab N dp) N disk_Disk_Down.a xs sg := rfl
theorem t142 : tab N (dp + 1) 142 xs sg = evalF (tab N dp) N journal_Journal_Append.a xs sg := rfl
theorem t143 : tab N (dp + 1) 143 xs sg = evalF (tab N dp) N pages_Store_change.a xs sg := rfl
theorem t144 : tab N (dp + 1) 144 xs sg = evalF (tab N dp) N pages_Store_may.a xs sg := rfl
theorem t145 : tab N (dp + 1) 145 xs sg = evalF (tab N dp) N journal_Journal_Number.a xs sg := rfl
theorem t146 : tab N (dp + 1) 146 xs sg = evalF (tab N dp) N journal_Journal_Room.a xs sg := rfl
theorem t147 : tab N (dp + 1) 147 xs sg = evalF (tab N dp) N journal_Journal_Epoch.a xs sg := rfl
theorem t148 : tab N (dp + 1) 148 xs sg = evalF (tab N dp) N pages_sizes.a xs sg := rfl
theorem t149 : tab N (dp + 1) 149 xs sg = evalF (tab N dp) N slices_Repeat_string_string.a xs sg := rfl
theorem t150 : tab N (dp + 1) 150 xs sg = evalF (tab N dp) N disk_Disk_settle.a xs sg := rfl
theorem t151 : tab N (dp + 1) 151 xs sg = evalF (tab N dp) N disk_Disk_Up_1.a xs sg := rfl
theorem t186 : tab N (dp + 1) 186 xs sg = evalF (tab N dp) N octets_Open.a xs sg := rfl
theorem t187 : tab N (dp + 1) 187 xs sg = evalF (tab N dp) N octets_Reader_Num.a xs sg := rfl
theorem t194 : tab N (dp + 1) 194 xs sg = evalF (tab N dp) N octets_Num.a xs sg := rfl
theorem t234 : tab N (dp + 1) 234 xs sg = evalF (tab N dp) N disk_Disk_has.a xs sg := rfl
theorem t235 : tab N (dp + 1) 235 xs sg = evalF (tab N dp) N disk_Disk_step.a xs sg := rfl
theorem t236 : tab N (dp + 1) 236 xs sg = evalF (tab N dp) N disk_Disk_Flush_1.a xs sg := rfl
theorem t237 : tab N (dp + 1) 237 xs sg = evalF (tab N dp) N pages_head.a xs sg := rfl
theorem t238 : tab N (dp + 1) 238 xs sg = evalF (tab N dp) N journal_Open.a xs sg := rfl
theorem t239 : tab N (dp + 1) 239 xs sg = evalF (tab N dp) N disk_Disk_Read.a xs sg := rfl
theorem t240 : tab N (dp + 1) 240 xs sg = evalF (tab N dp) N sector_Open.a xs sg := rfl
theorem t241 : tab N (dp + 1) 241 xs sg = evalF (tab N dp) N pages_Store_home.a xs sg := rfl
theorem t242 : tab N (dp + 1) 242 xs sg = evalF (tab N dp) N sector_OfHome.a xs sg := rfl
theorem t243 : tab N (dp + 1) 243 xs sg = evalF (tab N dp) N journal_Scan.a xs sg := rfl
theorem t244 : tab N (dp + 1) 244 xs sg = evalF (tab N dp) N maps_Keys_map_intbool_int_bool.a xs sg := rfl
theorem t245 : tab N (dp + 1) 245 xs sg = evalF (tab N dp) N sector_Home.a xs sg := rfl
theorem t246 : tab N (dp + 1) 246 xs sg = evalF (tab N dp) N journal_page.a xs sg := rfl
theorem t247 : tab N (dp + 1) 247 xs sg = evalF (tab N dp) N slices_ContainsFunc_journal_Image_journal_Image.a xs sg := rfl
theorem t248 : tab N (dp + 1) 248 xs sg = evalF (tab N dp) N pages_Store_has_1.a xs sg := rfl
theorem t249 : tab N (dp + 1) 249 xs sg = evalF (tab N dp) N journal_Journal_write.a xs sg := rfl
theorem t250 : tab N (dp + 1) 250 xs sg = evalF (tab N dp) N math_bits_Mul.a xs sg := rfl
theorem t277 : tab N (dp + 1) 277 xs sg = evalF (tab N dp) N octets_width.a xs sg := rfl
theorem t278 : tab N (dp + 1) 278 xs sg = evalF (tab N dp) N octets_Reader_Raw.a xs sg := rfl
theorem t328 : tab N (dp + 1) 328 xs sg = evalF (tab N dp) N sector_Seal.a xs sg := rfl
theorem t329 : tab N (dp + 1) 329 xs sg = evalF (tab N dp) N slices_Backward_disk_write_disk_write.a xs sg := rfl
theorem t330 : tab N (dp + 1) 330 xs sg = evalF (tab N dp) N journal_scanner_next.a xs sg := rfl
theorem t332 : tab N (dp + 1) 332 xs sg = evalF (tab N dp) N sector_Check.a xs sg := rfl
theorem t333 : tab N (dp + 1) 333 xs sg = evalF (tab N dp) N octets_Noughts.a xs sg := rfl
theorem t334 : tab N (dp + 1) 334 xs sg = evalF (tab N dp) N slices_IndexFunc_journal_Image_journal_Image.a xs sg := rfl
theorem t336 : tab N (dp + 1) 336 xs sg = evalF (tab N dp) N math_bits_Mul64.a xs sg := rfl
theorem t381 : tab N (dp + 1) 381 xs sg = evalF (tab N dp) N crc_Sum.a xs sg := rfl
theorem t382 : tab N (dp + 1) 382 xs sg = evalF (tab N dp) N slices_Backward_disk_write_disk_write_1.a xs sg := rfl
theorem t383 : tab N (dp + 1) 383 xs sg = evalF (tab N dp) N sector_short.a xs sg := rfl
theorem t24 : tab N (dp + 1) 24 xs sg = ovPage xs sg := rfl
theorem t226 : tab N (dp + 1) 226 xs sg = ovSortedN xs sg := rfl
theorem t230 : tab N (dp + 1) 230 xs sg = ovRepeat xs sg := rfl
theorem t380 : tab N (dp + 1) 380 xs sg = ovMore xs sg := rfl
theorem t384 : tab N (dp + 1) 384 xs sg = ovCount xs sg := rfl
theorem t1900000 : tab N (dp + 1) 1900000 xs sg = evalY (tab N dp) N disk_Disk_Read.Y900000 900000 xs sg := rfl
end Go.Abs
