/-
  No cell of these rows narrows 'for every input' (looked for: loops, veiled, ifaces, maps, wideKeys, modest, calm, conditions, laid).
  DERIVED. THE GIVEN ROWS OF THIS SEAT. 3 by the template 'for every input the law returns true; each argument reads behind the call as it read before'; 0 by the template 'total and deterministic' (their statements: YtodollbkpkpklaaGreatTotals.lean).
  GIVEN WITH THE SEED: the statements are not yours to turn. If you find one false, say at which input.
  Laid BY PROGRAM, IN A SANDBOX (cutbox-rows.mjs): the forced cells as the released guide's own fill.sh prints them over the translation 86d6c39193f598a0… (all of the seat's roots in one cut). By AI agents, Wed Nov 11 2026. No macro, syntax, notation, axiom, sorry.
-/
import Derived.Test.YtodollbkpkpklaaGreatChecked
import GoSem.Claim
import GoSem.ClaimJoined
import GoSem.ClaimMapViews
import Derived.JoinedTies
import Derived.KernelRfl
namespace Go.Proofs.YtodollbkpkpklaaGreat
/- THE CELL 'sum', in the pinned program and in every row, IS THE sha256 OF THE DUMP (.gsa) THAT YtodollbkpkpklaaGreatProg.lean LOADS. Nothing in Lean hashes anything: it is a label: what it is worth is what the hold of that sum in a sandbox is worth. -/
noncomputable def Tryz.pinned : Pinned := { name := "ytodollbkpkpklaagreat", sum := "86d6c39193f598a0135a1130ac8ad32c78d17e02b52bf568ae9a2aeaca2b8038", checked := Tryz.checked }
namespace Rows
def none {H : Type} : Left H := { results := [], args := [] }

/-- 'craquelurelaw12.BranchReads': WHATEVER THE INPUT: true; the input reads as it did. -/
def branchReadsSpec : ChangeSpec := { name := "branchReads", fn := fun _ => fun
  | [d1, d2, d3, d4, d5] => { results := [.lit (.bool true)], args := [d1, d2, d3, d4, d5] }
  | _ => none }
def branchReadsRow : OpenClaim := { program := "ytodollbkpkpklaagreat", sum := "86d6c39193f598a0135a1130ac8ad32c78d17e02b52bf568ae9a2aeaca2b8038", func := "craquelure/craquelurelaw12.BranchReads", spec := "branchReads", unfollowed := true, recurses := true, apart := false }
def BranchReadsSaid : Prop := branchReadsRow.holds Tryz.pinned (OpenSpec.ofChange branchReadsSpec)

/-- ITS FALSE NEIGHBOUR: 'it returns false'. Refute it at one input. -/
def branchReadsWrong : ChangeSpec := { name := "branchReads", fn := fun _ => fun
  | [d1, d2, d3, d4, d5] => { results := [.lit (.bool false)], args := [d1, d2, d3, d4, d5] }
  | _ => none }
def BranchReadsWrongFalsely : Prop := branchReadsRow.holds Tryz.pinned (OpenSpec.ofChange branchReadsWrong)

/-- 'craquelurelaw12.BranchCuts': WHATEVER THE INPUT: true; the input reads as it did. -/
def branchCutsSpec : ChangeSpec := { name := "branchCuts", fn := fun _ => fun
  | [d1, d2, d3] => { results := [.lit (.bool true)], args := [d1, d2, d3] }
  | _ => none }
def branchCutsRow : OpenClaim := { program := "ytodollbkpkpklaagreat", sum := "86d6c39193f598a0135a1130ac8ad32c78d17e02b52bf568ae9a2aeaca2b8038", func := "craquelure/craquelurelaw12.BranchCuts", spec := "branchCuts", unfollowed := true, recurses := true, apart := false }
def BranchCutsSaid : Prop := branchCutsRow.holds Tryz.pinned (OpenSpec.ofChange branchCutsSpec)

/-- ITS FALSE NEIGHBOUR: 'it returns false'. Refute it at one input. -/
def branchCutsWrong : ChangeSpec := { name := "branchCuts", fn := fun _ => fun
  | [d1, d2, d3] => { results := [.lit (.bool false)], args := [d1, d2, d3] }
  | _ => none }
def BranchCutsWrongFalsely : Prop := branchCutsRow.holds Tryz.pinned (OpenSpec.ofChange branchCutsWrong)

/-- 'craquelurelaw12.BranchImages': WHATEVER THE INPUT: true; the input reads as it did. -/
def branchImagesSpec : ChangeSpec := { name := "branchImages", fn := fun _ => fun
  | [d1, d2] => { results := [.lit (.bool true)], args := [d1, d2] }
  | _ => none }
def branchImagesRow : OpenClaim := { program := "ytodollbkpkpklaagreat", sum := "86d6c39193f598a0135a1130ac8ad32c78d17e02b52bf568ae9a2aeaca2b8038", func := "craquelure/craquelurelaw12.BranchImages", spec := "branchImages", unfollowed := true, recurses := true, apart := false }
def BranchImagesSaid : Prop := branchImagesRow.holds Tryz.pinned (OpenSpec.ofChange branchImagesSpec)

/-- ITS FALSE NEIGHBOUR: 'it returns false'. Refute it at one input. -/
def branchImagesWrong : ChangeSpec := { name := "branchImages", fn := fun _ => fun
  | [d1, d2] => { results := [.lit (.bool false)], args := [d1, d2] }
  | _ => none }
def BranchImagesWrongFalsely : Prop := branchImagesRow.holds Tryz.pinned (OpenSpec.ofChange branchImagesWrong)

/- THE SECOND FORM. 'bulk': how many values and letters a reading holds, each counted each time it is reached (what is shared counts as often as it is met; a slice's spare places count too). A statement '..UptoSaid' is the law's where the arguments, and the package variables that the reading takes, are together of bulk at most 1048576: NARROWER than '..Said'. Prove '..Said' where nothing that the law and all that it calls make is longer than what came in: it says more and counts as full. Else prove '..UptoSaid'. A law counts once. -/
mutual
def uptoBulk {H : Type} : DataW H → Nat
  | .lit (.string bytes) => bytes.length + 1
  | .lit _ => 1
  | .nil => 1
  | .ptr d => uptoBulk d + 1
  | .slice elems spare => uptoBulkAll elems + uptoBulkAll spare + 1
  | .agg parts => uptoBulkAll parts + 1
  | .iface _ d => uptoBulk d + 1
  | .map entries => uptoBulkEntries entries + 1
  | .held _ => 1
def uptoBulkAll {H : Type} : List (DataW H) → Nat
  | [] => 0
  | d :: r => uptoBulk d + uptoBulkAll r
def uptoBulkEntries {H : Type} : List (Lit × DataW H) → Nat
  | [] => 0
  | x :: r => uptoBulkEntry x + uptoBulkEntries r
def uptoBulkEntry {H : Type} : Lit × DataW H → Nat
  | (.string bytes, d) => bytes.length + uptoBulk d + 1
  | (_, d) => uptoBulk d + 1
 end
def uptoSmall : (H : Type) → List (DataW H) → Bool := fun _ ds => decide (uptoBulkAll ds ≤ 1048576)
def OpenSpec.upto (s : _root_.Go.ChangeSpec) : _root_.Go.OpenSpec := { _root_.Go.OpenSpec.ofChange s with cond := some uptoSmall }

/-- 'craquelurelaw12.BranchReads', WHERE WHAT IT READS IS OF BULK AT MOST 1048576: true; the input reads as it did. -/
def branchReadsUptoRow : OpenClaim := { program := "ytodollbkpkpklaagreat", sum := "86d6c39193f598a0135a1130ac8ad32c78d17e02b52bf568ae9a2aeaca2b8038", func := "craquelure/craquelurelaw12.BranchReads", spec := "branchReads", unfollowed := true, recurses := true, apart := false, narrowed := true }
def BranchReadsUptoSaid : Prop := branchReadsUptoRow.holds Tryz.pinned (OpenSpec.upto branchReadsSpec)

/-- 'craquelurelaw12.BranchCuts', WHERE WHAT IT READS IS OF BULK AT MOST 1048576: true; the input reads as it did. -/
def branchCutsUptoRow : OpenClaim := { program := "ytodollbkpkpklaagreat", sum := "86d6c39193f598a0135a1130ac8ad32c78d17e02b52bf568ae9a2aeaca2b8038", func := "craquelure/craquelurelaw12.BranchCuts", spec := "branchCuts", unfollowed := true, recurses := true, apart := false, narrowed := true }
def BranchCutsUptoSaid : Prop := branchCutsUptoRow.holds Tryz.pinned (OpenSpec.upto branchCutsSpec)

/-- 'craquelurelaw12.BranchImages', WHERE WHAT IT READS IS OF BULK AT MOST 1048576: true; the input reads as it did. -/
def branchImagesUptoRow : OpenClaim := { program := "ytodollbkpkpklaagreat", sum := "86d6c39193f598a0135a1130ac8ad32c78d17e02b52bf568ae9a2aeaca2b8038", func := "craquelure/craquelurelaw12.BranchImages", spec := "branchImages", unfollowed := true, recurses := true, apart := false, narrowed := true }
def BranchImagesUptoSaid : Prop := branchImagesUptoRow.holds Tryz.pinned (OpenSpec.upto branchImagesSpec)

end Rows
end Go.Proofs.YtodollbkpkpklaaGreat
