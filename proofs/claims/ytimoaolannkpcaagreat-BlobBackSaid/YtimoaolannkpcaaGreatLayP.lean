/-
  DERIVED: THE SHELF's CONTRACTS AT THIS DUMP, IN PLAIN WORDS (tools/lay-plain.mjs out of 'TryzLay2.lean', which tools/lay-shelf.mjs wrote): THE SAME DECLARATIONS UNDER THE SAME NAMES: 'import', 'namespace', 'open', 'def', 'theorem' AND NOTHING ELSE: no command of the shelf's: FOR A HAND-IN. Each laying: the table of numbers ('.._ren') and one theorem, a field a fact of the dump's own or the kernel's comparison; each contract: ONE APPLICATION.
-/
import Derived.Shelf.SlGeneric
import Derived.Shelf.Strings.Builder1
import Derived.Shelf.Strings.Count
import Derived.Shelf.Strings.Repeat
import Derived.Shelf.Sort.Plain
import Derived.Shelf.Slices.In.SortNone
import Derived.Shelf.SlIterI.Sorted
import Derived.Shelf.SlIterI.Keys
import Derived.Ground.GgzProg
import Derived.Ground.Names2Prog
import Derived.Ground.SlgnProg
import Derived.Test.YtimoaolannkpcaaGreatProg
set_option linter.unusedVariables false
set_option linter.unusedSimpArgs false
set_option linter.unusedSectionVars false
namespace Go.Proofs
open Go.Shelf
def Tryz.lays138_ren : Go.Shelf.Ren := ⟨fun | 138 => 384 | 195 => 416 | 218 => 417 | 143 => 418 | 219 => 397 | 217 => 368 | 225 => 424 | 224 => 425 | 267 => 426 | 266 => 398 | 314 => 437 | n => n, fun | 9 => 9 | 3 => 3 | 4 => 4 | 5 => 5 | 0 => 0 | 46 => 317 | 146 => 402 | 51 => 401 | n => n, fun | 1 => 0 | n => n⟩
theorem Tryz.lays138 : Go.Proofs.Lays.n138 Tryz.prog Tryz.lays138_ren := {
  mixed := by kernel_rfl
  f138 := Tryz.func384.trans (congrArg some (by kernel_rfl))
  f143 := Tryz.func418.trans (congrArg some (by kernel_rfl))
  f195 := Tryz.func416.trans (congrArg some (by kernel_rfl))
  f217 := Tryz.func368.trans (congrArg some (by kernel_rfl))
  f218 := Tryz.func417.trans (congrArg some (by kernel_rfl))
  f219 := Tryz.func397.trans (congrArg some (by kernel_rfl))
  f224 := Tryz.func425.trans (congrArg some (by kernel_rfl))
  f225 := Tryz.func424.trans (congrArg some (by kernel_rfl))
  f266 := Tryz.func398.trans (congrArg some (by kernel_rfl))
  f267 := Tryz.func426.trans (congrArg some (by kernel_rfl))
  f314 := Tryz.func437.trans (congrArg some (by kernel_rfl))
  t0 := Tryz.underlying0
  a0 := Tryz.isAgg0
  z0 := Tryz.sizeOf0
  v0 := Tryz.zeroValue0
  t3 := Tryz.underlying3
  a3 := Tryz.isAgg3
  z3 := Tryz.sizeOf3
  v3 := Tryz.zeroValue3
  t4 := Tryz.underlying4
  a4 := Tryz.isAgg4
  z4 := Tryz.sizeOf4
  v4 := Tryz.zeroValue4
  t5 := Tryz.underlying5
  a5 := Tryz.isAgg5
  z5 := Tryz.sizeOf5
  v5 := Tryz.zeroValue5
  t9 := Tryz.underlying9
  a9 := Tryz.isAgg9
  z9 := Tryz.sizeOf9
  v9 := Tryz.zeroValue9
  t46 := Tryz.underlying317
  a46 := Tryz.isAgg317
  z46 := Tryz.sizeOf317
  v46 := Tryz.zeroValue317
  t51 := Tryz.underlying401
  a51 := Tryz.isAgg401
  z51 := Tryz.sizeOf401
  v51 := Tryz.zeroValue401
  t146 := Tryz.underlying402
  a146 := Tryz.isAgg402
  z146 := Tryz.sizeOf402
  v146 := Tryz.zeroValue402
  g1 := by kernel_rfl }
open Go.RowKit Go.Lib in
theorem Tryz.strings_Count_one (s : ByteArray) (c : UInt8) (w : World) :
    Calls Tryz.prog 384 #[.string s, .string ⟨#[c]⟩] w fun e w' => e = .returned (.int .i64 (Lib.countByte s.data.toList c)) ∧ w' = w := Any.strings_Count_one Tryz.lays138 s c w
def Tryz.lays105_ren : Go.Shelf.Ren := ⟨fun | 105 => 230 | 212 => 250 | 99 => 309 | 165 => 326 | 166 => 173 | 170 => 327 | 169 => 174 | 263 => 335 | 264 => 336 | 206 => 366 | 240 => 271 | 241 => 379 | 276 => 346 | 277 => 414 | n => n, fun | 9 => 9 | 3 => 3 | 4 => 4 | 20 => 20 | 0 => 0 | 46 => 317 | 109 => 318 | 5 => 5 | 72 => 227 | 76 => 230 | 51 => 401 | 146 => 402 | 53 => 58 | 148 => 404 | 70 => 225 | 37 => 113 | 75 => 229 | 127 => 340 | 164 => 416 | 80 => 41 | n => n, fun | n => n⟩
theorem Tryz.lays105 : Go.Proofs.Lays.n105 Tryz.prog Tryz.lays105_ren := {
  mixed := by kernel_rfl
  f99 := Tryz.func309.trans (congrArg some (by kernel_rfl))
  f105 := Tryz.func230.trans (congrArg some (by kernel_rfl))
  f165 := Tryz.func326.trans (congrArg some (by kernel_rfl))
  f166 := Tryz.func173.trans (congrArg some (by kernel_rfl))
  f169 := Tryz.func174.trans (congrArg some (by kernel_rfl))
  f170 := Tryz.func327.trans (congrArg some (by kernel_rfl))
  f206 := Tryz.func366.trans (congrArg some (by kernel_rfl))
  f212 := Tryz.func250.trans (congrArg some (by kernel_rfl))
  f240 := Tryz.func271.trans (congrArg some (by kernel_rfl))
  f241 := Tryz.func379.trans (congrArg some (by kernel_rfl))
  f263 := Tryz.func335.trans (congrArg some (by kernel_rfl))
  f264 := Tryz.func336.trans (congrArg some (by kernel_rfl))
  f276 := Tryz.func346.trans (congrArg some (by kernel_rfl))
  f277 := Tryz.func414.trans (congrArg some (by kernel_rfl))
  t0 := Tryz.underlying0
  a0 := Tryz.isAgg0
  z0 := Tryz.sizeOf0
  v0 := Tryz.zeroValue0
  t3 := Tryz.underlying3
  a3 := Tryz.isAgg3
  z3 := Tryz.sizeOf3
  v3 := Tryz.zeroValue3
  t4 := Tryz.underlying4
  a4 := Tryz.isAgg4
  z4 := Tryz.sizeOf4
  v4 := Tryz.zeroValue4
  t5 := Tryz.underlying5
  a5 := Tryz.isAgg5
  z5 := Tryz.sizeOf5
  v5 := Tryz.zeroValue5
  t9 := Tryz.underlying9
  a9 := Tryz.isAgg9
  z9 := Tryz.sizeOf9
  v9 := Tryz.zeroValue9
  t20 := Tryz.underlying20
  a20 := Tryz.isAgg20
  z20 := Tryz.sizeOf20
  v20 := Tryz.zeroValue20
  t37 := Tryz.underlying113
  a37 := Tryz.isAgg113
  z37 := Tryz.sizeOf113
  v37 := Tryz.zeroValue113
  t46 := Tryz.underlying317
  a46 := Tryz.isAgg317
  z46 := Tryz.sizeOf317
  v46 := Tryz.zeroValue317
  t51 := Tryz.underlying401
  a51 := Tryz.isAgg401
  z51 := Tryz.sizeOf401
  v51 := Tryz.zeroValue401
  t53 := Tryz.underlying58
  a53 := Tryz.isAgg58
  z53 := Tryz.sizeOf58
  v53 := Tryz.zeroValue58
  t70 := Tryz.underlying225
  a70 := Tryz.isAgg225
  z70 := Tryz.sizeOf225
  v70 := Tryz.zeroValue225
  t72 := Tryz.underlying227
  a72 := Tryz.isAgg227
  z72 := Tryz.sizeOf227
  v72 := Tryz.zeroValue227
  t75 := Tryz.underlying229
  a75 := Tryz.isAgg229
  z75 := Tryz.sizeOf229
  v75 := Tryz.zeroValue229
  t76 := Tryz.underlying230
  a76 := Tryz.isAgg230
  z76 := Tryz.sizeOf230
  v76 := Tryz.zeroValue230
  t109 := Tryz.underlying318
  a109 := Tryz.isAgg318
  z109 := Tryz.sizeOf318
  v109 := Tryz.zeroValue318
  t127 := Tryz.underlying340
  a127 := Tryz.isAgg340
  z127 := Tryz.sizeOf340
  v127 := Tryz.zeroValue340
  t146 := Tryz.underlying402
  a146 := Tryz.isAgg402
  z146 := Tryz.sizeOf402
  v146 := Tryz.zeroValue402
  t148 := Tryz.underlying404
  a148 := Tryz.isAgg404
  z148 := Tryz.sizeOf404
  v148 := Tryz.zeroValue404
  t164 := Tryz.underlying416
  a164 := Tryz.isAgg416
  z164 := Tryz.sizeOf416
  v164 := Tryz.zeroValue416 }
theorem Tryz.Builder_Extra_105 : Builder.Extra Tryz.prog Tryz.lays105_ren := {
  sizeBuilder := by kernel_rfl
  liesBuilder := by kernel_rfl
  t5 := Tryz.underlying5
  a5 := Tryz.isAgg5
  z5 := Tryz.sizeOf5
  v5 := Tryz.zeroValue5
  infoByte := by kernel_rfl
  cellsByte := by kernel_rfl
  sizeByte := by kernel_rfl
  neB5 := by decide }
open Go.RowKit Go.Lib in
theorem Tryz.strings_Repeat (s : ByteArray) (c : Nat) (w : World) (hc : c ≤ 9223372036854775807) (hlen : s.size * c ≤ 140737488355328) :
    Calls Tryz.prog 230 #[.string s, .int .i64 c] w fun e w' => e = .returned (.string ⟨(Lib.repeatL s.data.toList c).toArray⟩) ∧ Below w.heap.size w w' := Any.strings_Repeat Tryz.lays105 Tryz.Builder_Extra_105 s c w hc hlen
def Tryz.lays189_ren : Go.Shelf.Ren := ⟨fun | 189 => 319 | 125 => 378 | 257 => 377 | 128 => 412 | 129 => 413 | 294 => 403 | 295 => 404 | 296 => 405 | 297 => 406 | 298 => 407 | 299 => 408 | 216 => 409 | 300 => 410 | 301 => 411 | 328 => 429 | 329 => 430 | 330 => 431 | 331 => 432 | 332 => 433 | 215 => 434 | 343 => 439 | n => n, fun | 28 => 108 | 3 => 3 | 46 => 317 | 0 => 0 | 51 => 401 | 53 => 58 | 4 => 4 | 183 => 458 | 182 => 457 | 131 => 260 | 5 => 5 | 9 => 9 | 218 => 474 | 222 => 477 | 228 => 482 | 229 => 483 | n => n, fun | n => n⟩
theorem Tryz.lays189 : Go.Proofs.Lays.n189 Tryz.prog Tryz.lays189_ren := {
  mixed := by kernel_rfl
  f125 := Tryz.func378.trans (congrArg some (by kernel_rfl))
  f128 := Tryz.func412.trans (congrArg some (by kernel_rfl))
  f129 := Tryz.func413.trans (congrArg some (by kernel_rfl))
  f189 := Tryz.func319.trans (congrArg some (by kernel_rfl))
  f215 := Tryz.func434.trans (congrArg some (by kernel_rfl))
  f216 := Tryz.func409.trans (congrArg some (by kernel_rfl))
  f257 := Tryz.func377.trans (congrArg some (by kernel_rfl))
  f294 := Tryz.func403.trans (congrArg some (by kernel_rfl))
  f295 := Tryz.func404.trans (congrArg some (by kernel_rfl))
  f296 := Tryz.func405.trans (congrArg some (by kernel_rfl))
  f297 := Tryz.func406.trans (congrArg some (by kernel_rfl))
  f298 := Tryz.func407.trans (congrArg some (by kernel_rfl))
  f299 := Tryz.func408.trans (congrArg some (by kernel_rfl))
  f300 := Tryz.func410.trans (congrArg some (by kernel_rfl))
  f301 := Tryz.func411.trans (congrArg some (by kernel_rfl))
  f328 := Tryz.func429.trans (congrArg some (by kernel_rfl))
  f329 := Tryz.func430.trans (congrArg some (by kernel_rfl))
  f330 := Tryz.func431.trans (congrArg some (by kernel_rfl))
  f331 := Tryz.func432.trans (congrArg some (by kernel_rfl))
  f332 := Tryz.func433.trans (congrArg some (by kernel_rfl))
  f343 := Tryz.func439.trans (congrArg some (by kernel_rfl))
  t0 := Tryz.underlying0
  a0 := Tryz.isAgg0
  z0 := Tryz.sizeOf0
  v0 := Tryz.zeroValue0
  t3 := Tryz.underlying3
  a3 := Tryz.isAgg3
  z3 := Tryz.sizeOf3
  v3 := Tryz.zeroValue3
  t4 := Tryz.underlying4
  a4 := Tryz.isAgg4
  z4 := Tryz.sizeOf4
  v4 := Tryz.zeroValue4
  t5 := Tryz.underlying5
  a5 := Tryz.isAgg5
  z5 := Tryz.sizeOf5
  v5 := Tryz.zeroValue5
  t9 := Tryz.underlying9
  a9 := Tryz.isAgg9
  z9 := Tryz.sizeOf9
  v9 := Tryz.zeroValue9
  t28 := Tryz.underlying108
  a28 := Tryz.isAgg108
  z28 := Tryz.sizeOf108
  v28 := Tryz.zeroValue108
  t46 := Tryz.underlying317
  a46 := Tryz.isAgg317
  z46 := Tryz.sizeOf317
  v46 := Tryz.zeroValue317
  t51 := Tryz.underlying401
  a51 := Tryz.isAgg401
  z51 := Tryz.sizeOf401
  v51 := Tryz.zeroValue401
  t53 := Tryz.underlying58
  a53 := Tryz.isAgg58
  z53 := Tryz.sizeOf58
  v53 := Tryz.zeroValue58
  t131 := Tryz.underlying260
  a131 := Tryz.isAgg260
  z131 := Tryz.sizeOf260
  v131 := Tryz.zeroValue260
  t182 := Tryz.underlying457
  a182 := Tryz.isAgg457
  z182 := Tryz.sizeOf457
  v182 := Tryz.zeroValue457
  t183 := Tryz.underlying458
  a183 := Tryz.isAgg458
  z183 := Tryz.sizeOf458
  v183 := Tryz.zeroValue458
  t218 := Tryz.underlying474
  a218 := Tryz.isAgg474
  z218 := Tryz.sizeOf474
  v218 := Tryz.zeroValue474
  t222 := Tryz.underlying477
  a222 := Tryz.isAgg477
  z222 := Tryz.sizeOf477
  v222 := Tryz.zeroValue477
  t228 := Tryz.underlying482
  a228 := Tryz.isAgg482
  z228 := Tryz.sizeOf482
  v228 := Tryz.zeroValue482
  t229 := Tryz.underlying483
  a229 := Tryz.isAgg483
  z229 := Tryz.sizeOf483
  v229 := Tryz.zeroValue483 }
open Go.Sort Go.RowKit in
theorem Tryz.slices_Sort_int (blk off cap : Nat) (zs : List Int) (w : World) (hH : Holds (Value.int .i64) w blk off zs.toArray) (hblk : blk < w.heap.size) (hsz : zs.length < 4611686018427387904) :
    Calls Tryz.prog 319 #[.slice (some ⟨blk, off, none⟩) zs.length cap] w fun e w' =>
      e = .returned (.tuple #[]) ∧ ∃ n os, w' = grow (putRow (Value.int .i64) (Sort.ahead w n) blk off (zs.mergeSort fun x y => decide (x ≤ y)).toArray) os := Any.slices_Sort_int Tryz.lays189 blk off cap zs w hH hblk hsz
open Go.RowKit Go.Lib in
theorem Tryz.slices_Sort_int_none (p : Option Addr) (cap : Nat) (w : World) :
    Calls Tryz.prog 319 #[.slice p 0 cap] w fun e w' => e = .returned (.tuple #[]) ∧ w' = w := Any.slices_Sort_int_none Tryz.lays189 p cap w
def Tryz.keysA_ren : Go.Shelf.Ren := ⟨fun | 7 => 244 | 10 => 331 | n => n, fun | 23 => 28 | 26 => 3 | 3 => 4 | 28 => 290 | 0 => 0 | 27 => 289 | 33 => 203 | 4 => 4 | n => n, fun | n => n⟩
theorem Tryz.keysA : Go.Proofs.SlLaysZI.n7 Tryz.prog Tryz.keysA_ren := {
  mixed := by kernel_rfl
  f7 := ⟨Tryz.f244.name, by decide, Tryz.func244.trans (congrArg some (by kernel_rfl))⟩
  f10 := ⟨Tryz.f331.name, by decide, Tryz.func331.trans (congrArg some (by kernel_rfl))⟩
  t0 := Tryz.underlying0
  a0 := Tryz.isAgg0
  z0 := Tryz.sizeOf0
  v0 := Tryz.zeroValue0
  t4 := Tryz.underlying4
  a4 := Tryz.isAgg4
  z4 := Tryz.sizeOf4
  v4 := Tryz.zeroValue4
  t23 := Tryz.underlying28
  a23 := Tryz.isAgg28
  z23 := Tryz.sizeOf28
  v23 := Tryz.zeroValue28
  t26 := Tryz.underlying3
  a26 := Tryz.isAgg3
  z26 := Tryz.sizeOf3
  v26 := Tryz.zeroValue3
  t27 := Tryz.underlying289
  a27 := Tryz.isAgg289
  z27 := Tryz.sizeOf289
  v27 := Tryz.zeroValue289
  t28 := Tryz.underlying290
  a28 := Tryz.isAgg290
  z28 := Tryz.sizeOf290
  v28 := Tryz.zeroValue290
  t33 := Tryz.underlying203
  a33 := Tryz.isAgg203
  z33 := Tryz.sizeOf203
  v33 := Tryz.zeroValue203 }
def Tryz.keysB_ren : Go.Shelf.Ren := ⟨fun | 7 => 227 | 10 => 320 | n => n, fun | 23 => 34 | 26 => 3 | 3 => 9 | 28 => 290 | 0 => 0 | 27 => 289 | 33 => 203 | 4 => 4 | n => n, fun | n => n⟩
theorem Tryz.keysB : Go.Proofs.SlLaysZI.n7 Tryz.prog Tryz.keysB_ren := {
  mixed := by kernel_rfl
  f7 := ⟨Tryz.f227.name, by decide, Tryz.func227.trans (congrArg some (by kernel_rfl))⟩
  f10 := ⟨Tryz.f320.name, by decide, Tryz.func320.trans (congrArg some (by kernel_rfl))⟩
  t0 := Tryz.underlying0
  a0 := Tryz.isAgg0
  z0 := Tryz.sizeOf0
  v0 := Tryz.zeroValue0
  t4 := Tryz.underlying4
  a4 := Tryz.isAgg4
  z4 := Tryz.sizeOf4
  v4 := Tryz.zeroValue4
  t23 := Tryz.underlying34
  a23 := Tryz.isAgg34
  z23 := Tryz.sizeOf34
  v23 := Tryz.zeroValue34
  t26 := Tryz.underlying3
  a26 := Tryz.isAgg3
  z26 := Tryz.sizeOf3
  v26 := Tryz.zeroValue3
  t27 := Tryz.underlying289
  a27 := Tryz.isAgg289
  z27 := Tryz.sizeOf289
  v27 := Tryz.zeroValue289
  t28 := Tryz.underlying290
  a28 := Tryz.isAgg290
  z28 := Tryz.sizeOf290
  v28 := Tryz.zeroValue290
  t33 := Tryz.underlying203
  a33 := Tryz.isAgg203
  z33 := Tryz.sizeOf203
  v33 := Tryz.zeroValue203 }
def Tryz.sortedA_ren : Go.Shelf.Ren := ⟨fun | 6 => 226 | 8 => 318 | 9 => 319 | 11 => 376 | 13 => 378 | 12 => 377 | 23 => 412 | 24 => 413 | 14 => 403 | 15 => 404 | 16 => 405 | 17 => 406 | 18 => 407 | 19 => 408 | 20 => 409 | 21 => 410 | 22 => 411 | 25 => 429 | 26 => 430 | 27 => 431 | 28 => 432 | 29 => 433 | 30 => 434 | 31 => 439 | n => n, fun | 26 => 3 | 28 => 290 | 24 => 108 | 0 => 0 | 3 => 3 | 37 => 317 | 48 => 401 | 50 => 58 | 4 => 4 | 40 => 458 | 39 => 457 | 45 => 260 | 5 => 5 | 9 => 9 | 51 => 474 | 55 => 477 | 57 => 482 | 58 => 483 | 33 => 203 | n => n, fun | n => n⟩
theorem Tryz.sortedA : Go.Proofs.SlLaysZI.n6 Tryz.prog Tryz.sortedA_ren := {
  mixed := by kernel_rfl
  f6 := ⟨Tryz.f226.name, by decide, Tryz.func226.trans (congrArg some (by kernel_rfl))⟩
  f8 := ⟨Tryz.f318.name, by decide, Tryz.func318.trans (congrArg some (by kernel_rfl))⟩
  f11 := ⟨Tryz.f376.name, by decide, Tryz.func376.trans (congrArg some (by kernel_rfl))⟩
  t0 := Tryz.underlying0
  a0 := Tryz.isAgg0
  z0 := Tryz.sizeOf0
  v0 := Tryz.zeroValue0
  t24 := Tryz.underlying108
  a24 := Tryz.isAgg108
  z24 := Tryz.sizeOf108
  v24 := Tryz.zeroValue108
  t26 := Tryz.underlying3
  a26 := Tryz.isAgg3
  z26 := Tryz.sizeOf3
  v26 := Tryz.zeroValue3
  t28 := Tryz.underlying290
  a28 := Tryz.isAgg290
  z28 := Tryz.sizeOf290
  v28 := Tryz.zeroValue290
  i26 := by kernel_rfl }
def Tryz.lays169_ren : Go.Shelf.Ren := ⟨fun | 169 => 174 | n => n, fun | 70 => 225 | 9 => 9 | 0 => 0 | 72 => 227 | 37 => 113 | 127 => 340 | 3 => 3 | 5 => 5 | n => n, fun | n => n⟩
theorem Tryz.lays169 : Go.Proofs.Lays.n169 Tryz.prog Tryz.lays169_ren := {
  mixed := by kernel_rfl
  f169 := Tryz.func174.trans (congrArg some (by kernel_rfl))
  t0 := Tryz.underlying0
  a0 := Tryz.isAgg0
  z0 := Tryz.sizeOf0
  v0 := Tryz.zeroValue0
  t3 := Tryz.underlying3
  a3 := Tryz.isAgg3
  z3 := Tryz.sizeOf3
  v3 := Tryz.zeroValue3
  t9 := Tryz.underlying9
  a9 := Tryz.isAgg9
  z9 := Tryz.sizeOf9
  v9 := Tryz.zeroValue9
  t37 := Tryz.underlying113
  a37 := Tryz.isAgg113
  z37 := Tryz.sizeOf113
  v37 := Tryz.zeroValue113
  t70 := Tryz.underlying225
  a70 := Tryz.isAgg225
  z70 := Tryz.sizeOf225
  v70 := Tryz.zeroValue225
  t72 := Tryz.underlying227
  a72 := Tryz.isAgg227
  z72 := Tryz.sizeOf227
  v72 := Tryz.zeroValue227
  t127 := Tryz.underlying340
  a127 := Tryz.isAgg340
  z127 := Tryz.sizeOf340
  v127 := Tryz.zeroValue340 }
theorem Tryz.Builder_Extra_169 : Builder.Extra Tryz.prog Tryz.lays169_ren := {
  sizeBuilder := by kernel_rfl
  liesBuilder := by kernel_rfl
  t5 := Tryz.underlying5
  a5 := Tryz.isAgg5
  z5 := Tryz.sizeOf5
  v5 := Tryz.zeroValue5
  infoByte := by kernel_rfl
  cellsByte := by kernel_rfl
  sizeByte := by kernel_rfl
  neB5 := by decide }
end Go.Proofs
