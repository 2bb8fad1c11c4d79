/-
  No cell of these rows narrows 'for every input' (looked for: loops, veiled, ifaces, maps, wideKeys, modest, calm, conditions, laid).
  DERIVED. THE GIVEN ROWS OF THIS SEAT. 6 by the template 'for every input the law returns true; each argument reads behind the call as it read before'; 0 by the template 'total and deterministic' (their statements: YtafmbianlodemaaTotals.lean).
  GIVEN WITH THE SEED: the statements are not yours to turn. If you find one false, say at which input.
  Laid BY PROGRAM, IN A SANDBOX (cutbox-rows.mjs): the forced cells as the released guide's own fill.sh prints them over the translation c39174f58e5ac16a… (all of the seat's roots in one cut). By AI agents, Wed Nov 11 2026. No macro, syntax, notation, axiom, sorry.
-/
import Derived.Test.YtafmbianlodemaaChecked
import GoSem.Claim
import GoSem.ClaimJoined
import GoSem.ClaimMapViews
import Derived.JoinedTies
import Derived.KernelRfl
namespace Go.Proofs.Ytafmbianlodemaa
/- THE CELL 'sum', in the pinned program and in every row, IS THE sha256 OF THE DUMP (.gsa) THAT YtafmbianlodemaaProg.lean LOADS. Nothing in Lean hashes anything: it is a label: what it is worth is what the hold of that sum in a sandbox is worth. -/
noncomputable def Try.pinned : Pinned := { name := "ytafmbianlodemaa", sum := "c39174f58e5ac16a1359d8a90461d7500c7f5adf8a390b0a0bc5eb55d79cf8d6", checked := Try.checked }
namespace Rows
def none {H : Type} : Left H := { results := [], args := [] }

/-- 'wharfagelaw26.DrrTells': WHATEVER THE INPUT: true; the input reads as it did. -/
def drrTellsSpec : ChangeSpec := { name := "drrTells", fn := fun _ => fun
  | [d1, d2, d3, d4] => { results := [.lit (.bool true)], args := [d1, d2, d3, d4] }
  | _ => none }
def drrTellsRow : OpenClaim := { program := "ytafmbianlodemaa", sum := "c39174f58e5ac16a1359d8a90461d7500c7f5adf8a390b0a0bc5eb55d79cf8d6", func := "wharfage/wharfagelaw26.DrrTells", spec := "drrTells", apart := false }
def DrrTellsSaid : Prop := drrTellsRow.holds Try.pinned (OpenSpec.ofChange drrTellsSpec)

/-- ITS FALSE NEIGHBOUR: 'it returns false'. Refute it at one input. -/
def drrTellsWrong : ChangeSpec := { name := "drrTells", fn := fun _ => fun
  | [d1, d2, d3, d4] => { results := [.lit (.bool false)], args := [d1, d2, d3, d4] }
  | _ => none }
def DrrTellsWrongFalsely : Prop := drrTellsRow.holds Try.pinned (OpenSpec.ofChange drrTellsWrong)

/-- 'wharfagelaw26.DrrFair': WHATEVER THE INPUT: true; the input reads as it did. -/
def drrFairSpec : ChangeSpec := { name := "drrFair", fn := fun _ => fun
  | [d1, d2, d3, d4, d5] => { results := [.lit (.bool true)], args := [d1, d2, d3, d4, d5] }
  | _ => none }
def drrFairRow : OpenClaim := { program := "ytafmbianlodemaa", sum := "c39174f58e5ac16a1359d8a90461d7500c7f5adf8a390b0a0bc5eb55d79cf8d6", func := "wharfage/wharfagelaw26.DrrFair", spec := "drrFair", apart := false }
def DrrFairSaid : Prop := drrFairRow.holds Try.pinned (OpenSpec.ofChange drrFairSpec)

/-- ITS FALSE NEIGHBOUR: 'it returns false'. Refute it at one input. -/
def drrFairWrong : ChangeSpec := { name := "drrFair", fn := fun _ => fun
  | [d1, d2, d3, d4, d5] => { results := [.lit (.bool false)], args := [d1, d2, d3, d4, d5] }
  | _ => none }
def DrrFairWrongFalsely : Prop := drrFairRow.holds Try.pinned (OpenSpec.ofChange drrFairWrong)

/-- 'wharfagelaw26.DrrNobody': WHATEVER THE INPUT: true; the input reads as it did. -/
def drrNobodySpec : ChangeSpec := { name := "drrNobody", fn := fun _ => fun
  | [d1, d2, d3] => { results := [.lit (.bool true)], args := [d1, d2, d3] }
  | _ => none }
def drrNobodyRow : OpenClaim := { program := "ytafmbianlodemaa", sum := "c39174f58e5ac16a1359d8a90461d7500c7f5adf8a390b0a0bc5eb55d79cf8d6", func := "wharfage/wharfagelaw26.DrrNobody", spec := "drrNobody", apart := false }
def DrrNobodySaid : Prop := drrNobodyRow.holds Try.pinned (OpenSpec.ofChange drrNobodySpec)

/-- ITS FALSE NEIGHBOUR: 'it returns false'. Refute it at one input. -/
def drrNobodyWrong : ChangeSpec := { name := "drrNobody", fn := fun _ => fun
  | [d1, d2, d3] => { results := [.lit (.bool false)], args := [d1, d2, d3] }
  | _ => none }
def DrrNobodyWrongFalsely : Prop := drrNobodyRow.holds Try.pinned (OpenSpec.ofChange drrNobodyWrong)

/-- 'wharfagelaw10.BitmapTells': WHATEVER THE INPUT: true; the input reads as it did. -/
def bitmapTellsSpec : ChangeSpec := { name := "bitmapTells", fn := fun _ => fun
  | [d1, d2, d3, d4, d5] => { results := [.lit (.bool true)], args := [d1, d2, d3, d4, d5] }
  | _ => none }
def bitmapTellsRow : OpenClaim := { program := "ytafmbianlodemaa", sum := "c39174f58e5ac16a1359d8a90461d7500c7f5adf8a390b0a0bc5eb55d79cf8d6", func := "wharfage/wharfagelaw10.BitmapTells", spec := "bitmapTells", unfollowed := true, recurses := true, apart := false }
def BitmapTellsSaid : Prop := bitmapTellsRow.holds Try.pinned (OpenSpec.ofChange bitmapTellsSpec)

/-- ITS FALSE NEIGHBOUR: 'it returns false'. Refute it at one input. -/
def bitmapTellsWrong : ChangeSpec := { name := "bitmapTells", fn := fun _ => fun
  | [d1, d2, d3, d4, d5] => { results := [.lit (.bool false)], args := [d1, d2, d3, d4, d5] }
  | _ => none }
def BitmapTellsWrongFalsely : Prop := bitmapTellsRow.holds Try.pinned (OpenSpec.ofChange bitmapTellsWrong)

/-- 'wharfagelaw10.BitmapTakes': WHATEVER THE INPUT: true; the input reads as it did. -/
def bitmapTakesSpec : ChangeSpec := { name := "bitmapTakes", fn := fun _ => fun
  | [d1, d2, d3, d4, d5] => { results := [.lit (.bool true)], args := [d1, d2, d3, d4, d5] }
  | _ => none }
def bitmapTakesRow : OpenClaim := { program := "ytafmbianlodemaa", sum := "c39174f58e5ac16a1359d8a90461d7500c7f5adf8a390b0a0bc5eb55d79cf8d6", func := "wharfage/wharfagelaw10.BitmapTakes", spec := "bitmapTakes", unfollowed := true, recurses := true, apart := false }
def BitmapTakesSaid : Prop := bitmapTakesRow.holds Try.pinned (OpenSpec.ofChange bitmapTakesSpec)

/-- ITS FALSE NEIGHBOUR: 'it returns false'. Refute it at one input. -/
def bitmapTakesWrong : ChangeSpec := { name := "bitmapTakes", fn := fun _ => fun
  | [d1, d2, d3, d4, d5] => { results := [.lit (.bool false)], args := [d1, d2, d3, d4, d5] }
  | _ => none }
def BitmapTakesWrongFalsely : Prop := bitmapTakesRow.holds Try.pinned (OpenSpec.ofChange bitmapTakesWrong)

/-- 'wharfagelaw10.BitmapBack': WHATEVER THE INPUT: true; the input reads as it did. -/
def bitmapBackSpec : ChangeSpec := { name := "bitmapBack", fn := fun _ => fun
  | [d1, d2, d3, d4] => { results := [.lit (.bool true)], args := [d1, d2, d3, d4] }
  | _ => none }
def bitmapBackRow : OpenClaim := { program := "ytafmbianlodemaa", sum := "c39174f58e5ac16a1359d8a90461d7500c7f5adf8a390b0a0bc5eb55d79cf8d6", func := "wharfage/wharfagelaw10.BitmapBack", spec := "bitmapBack", unfollowed := true, recurses := true, apart := false }
def BitmapBackSaid : Prop := bitmapBackRow.holds Try.pinned (OpenSpec.ofChange bitmapBackSpec)

/-- ITS FALSE NEIGHBOUR: 'it returns false'. Refute it at one input. -/
def bitmapBackWrong : ChangeSpec := { name := "bitmapBack", fn := fun _ => fun
  | [d1, d2, d3, d4] => { results := [.lit (.bool false)], args := [d1, d2, d3, d4] }
  | _ => none }
def BitmapBackWrongFalsely : Prop := bitmapBackRow.holds Try.pinned (OpenSpec.ofChange bitmapBackWrong)

/- THE SECOND FORM. 'bulk': how many values and letters a reading holds, each counted each time it is reached (what is shared counts as often as it is met; a slice's spare places count too). A statement '..UptoSaid' is the law's where the arguments, and the package variables that the reading takes, are together of bulk at most 1048576: NARROWER than '..Said'. Prove '..Said' where nothing that the law and all that it calls make is longer than what came in: it says more and counts as full. Else prove '..UptoSaid'. A law counts once. -/
mutual
def uptoBulk {H : Type} : DataW H → Nat
  | .lit (.string bytes) => bytes.length + 1
  | .lit _ => 1
  | .nil => 1
  | .ptr d => uptoBulk d + 1
  | .slice elems spare => uptoBulkAll elems + uptoBulkAll spare + 1
  | .agg parts => uptoBulkAll parts + 1
  | .iface _ d => uptoBulk d + 1
  | .map entries => uptoBulkEntries entries + 1
  | .held _ => 1
def uptoBulkAll {H : Type} : List (DataW H) → Nat
  | [] => 0
  | d :: r => uptoBulk d + uptoBulkAll r
def uptoBulkEntries {H : Type} : List (Lit × DataW H) → Nat
  | [] => 0
  | x :: r => uptoBulkEntry x + uptoBulkEntries r
def uptoBulkEntry {H : Type} : Lit × DataW H → Nat
  | (.string bytes, d) => bytes.length + uptoBulk d + 1
  | (_, d) => uptoBulk d + 1
 end
def uptoSmall : (H : Type) → List (DataW H) → Bool := fun _ ds => decide (uptoBulkAll ds ≤ 1048576)
def OpenSpec.upto (s : _root_.Go.ChangeSpec) : _root_.Go.OpenSpec := { _root_.Go.OpenSpec.ofChange s with cond := some uptoSmall }

/-- 'wharfagelaw26.DrrTells', WHERE WHAT IT READS IS OF BULK AT MOST 1048576: true; the input reads as it did. -/
def drrTellsUptoRow : OpenClaim := { program := "ytafmbianlodemaa", sum := "c39174f58e5ac16a1359d8a90461d7500c7f5adf8a390b0a0bc5eb55d79cf8d6", func := "wharfage/wharfagelaw26.DrrTells", spec := "drrTells", apart := false, narrowed := true }
def DrrTellsUptoSaid : Prop := drrTellsUptoRow.holds Try.pinned (OpenSpec.upto drrTellsSpec)

/-- 'wharfagelaw26.DrrFair', WHERE WHAT IT READS IS OF BULK AT MOST 1048576: true; the input reads as it did. -/
def drrFairUptoRow : OpenClaim := { program := "ytafmbianlodemaa", sum := "c39174f58e5ac16a1359d8a90461d7500c7f5adf8a390b0a0bc5eb55d79cf8d6", func := "wharfage/wharfagelaw26.DrrFair", spec := "drrFair", apart := false, narrowed := true }
def DrrFairUptoSaid : Prop := drrFairUptoRow.holds Try.pinned (OpenSpec.upto drrFairSpec)

/-- 'wharfagelaw26.DrrNobody', WHERE WHAT IT READS IS OF BULK AT MOST 1048576: true; the input reads as it did. -/
def drrNobodyUptoRow : OpenClaim := { program := "ytafmbianlodemaa", sum := "c39174f58e5ac16a1359d8a90461d7500c7f5adf8a390b0a0bc5eb55d79cf8d6", func := "wharfage/wharfagelaw26.DrrNobody", spec := "drrNobody", apart := false, narrowed := true }
def DrrNobodyUptoSaid : Prop := drrNobodyUptoRow.holds Try.pinned (OpenSpec.upto drrNobodySpec)

/-- 'wharfagelaw10.BitmapTells', WHERE WHAT IT READS IS OF BULK AT MOST 1048576: true; the input reads as it did. -/
def bitmapTellsUptoRow : OpenClaim := { program := "ytafmbianlodemaa", sum := "c39174f58e5ac16a1359d8a90461d7500c7f5adf8a390b0a0bc5eb55d79cf8d6", func := "wharfage/wharfagelaw10.BitmapTells", spec := "bitmapTells", unfollowed := true, recurses := true, apart := false, narrowed := true }
def BitmapTellsUptoSaid : Prop := bitmapTellsUptoRow.holds Try.pinned (OpenSpec.upto bitmapTellsSpec)

/-- 'wharfagelaw10.BitmapTakes', WHERE WHAT IT READS IS OF BULK AT MOST 1048576: true; the input reads as it did. -/
def bitmapTakesUptoRow : OpenClaim := { program := "ytafmbianlodemaa", sum := "c39174f58e5ac16a1359d8a90461d7500c7f5adf8a390b0a0bc5eb55d79cf8d6", func := "wharfage/wharfagelaw10.BitmapTakes", spec := "bitmapTakes", unfollowed := true, recurses := true, apart := false, narrowed := true }
def BitmapTakesUptoSaid : Prop := bitmapTakesUptoRow.holds Try.pinned (OpenSpec.upto bitmapTakesSpec)

/-- 'wharfagelaw10.BitmapBack', WHERE WHAT IT READS IS OF BULK AT MOST 1048576: true; the input reads as it did. -/
def bitmapBackUptoRow : OpenClaim := { program := "ytafmbianlodemaa", sum := "c39174f58e5ac16a1359d8a90461d7500c7f5adf8a390b0a0bc5eb55d79cf8d6", func := "wharfage/wharfagelaw10.BitmapBack", spec := "bitmapBack", unfollowed := true, recurses := true, apart := false, narrowed := true }
def BitmapBackUptoSaid : Prop := bitmapBackUptoRow.holds Try.pinned (OpenSpec.upto bitmapBackSpec)

end Rows
end Go.Proofs.Ytafmbianlodemaa
