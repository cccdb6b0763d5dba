/-
  No cell of these rows narrows 'for every input' (looked for: loops, veiled, ifaces, maps, wideKeys, modest, calm, conditions, laid).
  DERIVED. THE GIVEN ROWS OF THIS SEAT. 4 by the template 'for every input the law returns true; each argument reads behind the call as it read before'; 0 by the template 'total and deterministic' (their statements: YtgpecnihjjnkeaaTotals.lean).
  GIVEN WITH THE SEED: the statements are not yours to turn. If you find one false, say at which input.
  Laid BY PROGRAM, IN A SANDBOX (cutbox-rows.mjs): the forced cells as the released guide's own fill.sh prints them over the translation 4e683e839f3ba196… (all of the seat's roots in one cut). By AI agents, Wed Nov 11 2026. No macro, syntax, notation, axiom, sorry.
-/
import Derived.Test.YtgpecnihjjnkeaaChecked
import GoSem.Claim
import GoSem.ClaimJoined
import GoSem.ClaimMapViews
import Derived.JoinedTies
import Derived.KernelRfl
namespace Go.Proofs.Ytgpecnihjjnkeaa
/- THE CELL 'sum', in the pinned program and in every row, IS THE sha256 OF THE DUMP (.gsa) THAT YtgpecnihjjnkeaaProg.lean LOADS. Nothing in Lean hashes anything: it is a label: what it is worth is what the hold of that sum in a sandbox is worth. -/
noncomputable def Try.pinned : Pinned := { name := "ytgpecnihjjnkeaa", sum := "4e683e839f3ba196d7b967d6b66d77c19b93c592572a8fed702d41b1228594a9", checked := Try.checked }
namespace Rows
def none {H : Type} : Left H := { results := [], args := [] }

/-- 'landmarklaw04.VfsFaults': WHATEVER THE INPUT: true; the input reads as it did. -/
def vfsFaultsSpec : ChangeSpec := { name := "vfsFaults", fn := fun _ => fun
  | [d1, d2, d3] => { results := [.lit (.bool true)], args := [d1, d2, d3] }
  | _ => none }
def vfsFaultsRow : OpenClaim := { program := "ytgpecnihjjnkeaa", sum := "4e683e839f3ba196d7b967d6b66d77c19b93c592572a8fed702d41b1228594a9", func := "landmark/landmarklaw04.VfsFaults", spec := "vfsFaults", inPlace := ["maps.clone"], unfollowed := true, recurses := true, apart := false }
def VfsFaultsSaid : Prop := vfsFaultsRow.holds Try.pinned (OpenSpec.ofChange vfsFaultsSpec)

/-- ITS FALSE NEIGHBOUR: 'it returns false'. Refute it at one input. -/
def vfsFaultsWrong : ChangeSpec := { name := "vfsFaults", fn := fun _ => fun
  | [d1, d2, d3] => { results := [.lit (.bool false)], args := [d1, d2, d3] }
  | _ => none }
def VfsFaultsWrongFalsely : Prop := vfsFaultsRow.holds Try.pinned (OpenSpec.ofChange vfsFaultsWrong)

/-- 'landmarklaw04.VfsNames': WHATEVER THE INPUT: true; the input reads as it did. -/
def vfsNamesSpec : ChangeSpec := { name := "vfsNames", fn := fun _ => fun
  | [d1, d2, d3] => { results := [.lit (.bool true)], args := [d1, d2, d3] }
  | _ => none }
def vfsNamesRow : OpenClaim := { program := "ytgpecnihjjnkeaa", sum := "4e683e839f3ba196d7b967d6b66d77c19b93c592572a8fed702d41b1228594a9", func := "landmark/landmarklaw04.VfsNames", spec := "vfsNames", inPlace := ["maps.clone"], unfollowed := true, recurses := true, apart := false }
def VfsNamesSaid : Prop := vfsNamesRow.holds Try.pinned (OpenSpec.ofChange vfsNamesSpec)

/-- ITS FALSE NEIGHBOUR: 'it returns false'. Refute it at one input. -/
def vfsNamesWrong : ChangeSpec := { name := "vfsNames", fn := fun _ => fun
  | [d1, d2, d3] => { results := [.lit (.bool false)], args := [d1, d2, d3] }
  | _ => none }
def VfsNamesWrongFalsely : Prop := vfsNamesRow.holds Try.pinned (OpenSpec.ofChange vfsNamesWrong)

/-- 'landmarklaw04.VfsBack': WHATEVER THE INPUT: true; the input reads as it did. -/
def vfsBackSpec : ChangeSpec := { name := "vfsBack", fn := fun _ => fun
  | [d1, d2, d3] => { results := [.lit (.bool true)], args := [d1, d2, d3] }
  | _ => none }
def vfsBackRow : OpenClaim := { program := "ytgpecnihjjnkeaa", sum := "4e683e839f3ba196d7b967d6b66d77c19b93c592572a8fed702d41b1228594a9", func := "landmark/landmarklaw04.VfsBack", spec := "vfsBack", inPlace := ["maps.clone"], unfollowed := true, recurses := true, apart := false }
def VfsBackSaid : Prop := vfsBackRow.holds Try.pinned (OpenSpec.ofChange vfsBackSpec)

/-- ITS FALSE NEIGHBOUR: 'it returns false'. Refute it at one input. -/
def vfsBackWrong : ChangeSpec := { name := "vfsBack", fn := fun _ => fun
  | [d1, d2, d3] => { results := [.lit (.bool false)], args := [d1, d2, d3] }
  | _ => none }
def VfsBackWrongFalsely : Prop := vfsBackRow.holds Try.pinned (OpenSpec.ofChange vfsBackWrong)

/-- 'landmarklaw04.VfsNil': WHATEVER THE INPUT: true; the input reads as it did. -/
def vfsNilSpec : ChangeSpec := { name := "vfsNil", fn := fun _ => fun
  | [] => { results := [.lit (.bool true)], args := [] }
  | _ => none }
def vfsNilRow : OpenClaim := { program := "ytgpecnihjjnkeaa", sum := "4e683e839f3ba196d7b967d6b66d77c19b93c592572a8fed702d41b1228594a9", func := "landmark/landmarklaw04.VfsNil", spec := "vfsNil", inPlace := ["maps.clone"], unfollowed := true, recurses := true, apart := false }
def VfsNilSaid : Prop := vfsNilRow.holds Try.pinned (OpenSpec.ofChange vfsNilSpec)

/-- ITS FALSE NEIGHBOUR: 'it returns false'. Refute it at one input. -/
def vfsNilWrong : ChangeSpec := { name := "vfsNil", fn := fun _ => fun
  | [] => { results := [.lit (.bool false)], args := [] }
  | _ => none }
def VfsNilWrongFalsely : Prop := vfsNilRow.holds Try.pinned (OpenSpec.ofChange vfsNilWrong)

/- THE SECOND FORM. 'bulk': how many values and letters a reading holds, each counted each time it is reached (what is shared counts as often as it is met; a slice's spare places count too). A statement '..UptoSaid' is the law's where the arguments, and the package variables that the reading takes, are together of bulk at most 1048576: NARROWER than '..Said'. Prove '..Said' where nothing that the law and all that it calls make is longer than what came in: it says more and counts as full. Else prove '..UptoSaid'. A law counts once. -/
mutual
def uptoBulk {H : Type} : DataW H → Nat
  | .lit (.string bytes) => bytes.length + 1
  | .lit _ => 1
  | .nil => 1
  | .ptr d => uptoBulk d + 1
  | .slice elems spare => uptoBulkAll elems + uptoBulkAll spare + 1
  | .agg parts => uptoBulkAll parts + 1
  | .iface _ d => uptoBulk d + 1
  | .map entries => uptoBulkEntries entries + 1
  | .held _ => 1
def uptoBulkAll {H : Type} : List (DataW H) → Nat
  | [] => 0
  | d :: r => uptoBulk d + uptoBulkAll r
def uptoBulkEntries {H : Type} : List (Lit × DataW H) → Nat
  | [] => 0
  | x :: r => uptoBulkEntry x + uptoBulkEntries r
def uptoBulkEntry {H : Type} : Lit × DataW H → Nat
  | (.string bytes, d) => bytes.length + uptoBulk d + 1
  | (_, d) => uptoBulk d + 1
 end
def uptoSmall : (H : Type) → List (DataW H) → Bool := fun _ ds => decide (uptoBulkAll ds ≤ 1048576)
def OpenSpec.upto (s : _root_.Go.ChangeSpec) : _root_.Go.OpenSpec := { _root_.Go.OpenSpec.ofChange s with cond := some uptoSmall }

/-- 'landmarklaw04.VfsFaults', WHERE WHAT IT READS IS OF BULK AT MOST 1048576: true; the input reads as it did. -/
def vfsFaultsUptoRow : OpenClaim := { program := "ytgpecnihjjnkeaa", sum := "4e683e839f3ba196d7b967d6b66d77c19b93c592572a8fed702d41b1228594a9", func := "landmark/landmarklaw04.VfsFaults", spec := "vfsFaults", inPlace := ["maps.clone"], unfollowed := true, recurses := true, apart := false, narrowed := true }
def VfsFaultsUptoSaid : Prop := vfsFaultsUptoRow.holds Try.pinned (OpenSpec.upto vfsFaultsSpec)

/-- 'landmarklaw04.VfsNames', WHERE WHAT IT READS IS OF BULK AT MOST 1048576: true; the input reads as it did. -/
def vfsNamesUptoRow : OpenClaim := { program := "ytgpecnihjjnkeaa", sum := "4e683e839f3ba196d7b967d6b66d77c19b93c592572a8fed702d41b1228594a9", func := "landmark/landmarklaw04.VfsNames", spec := "vfsNames", inPlace := ["maps.clone"], unfollowed := true, recurses := true, apart := false, narrowed := true }
def VfsNamesUptoSaid : Prop := vfsNamesUptoRow.holds Try.pinned (OpenSpec.upto vfsNamesSpec)

/-- 'landmarklaw04.VfsBack', WHERE WHAT IT READS IS OF BULK AT MOST 1048576: true; the input reads as it did. -/
def vfsBackUptoRow : OpenClaim := { program := "ytgpecnihjjnkeaa", sum := "4e683e839f3ba196d7b967d6b66d77c19b93c592572a8fed702d41b1228594a9", func := "landmark/landmarklaw04.VfsBack", spec := "vfsBack", inPlace := ["maps.clone"], unfollowed := true, recurses := true, apart := false, narrowed := true }
def VfsBackUptoSaid : Prop := vfsBackUptoRow.holds Try.pinned (OpenSpec.upto vfsBackSpec)

/-- 'landmarklaw04.VfsNil', WHERE WHAT IT READS IS OF BULK AT MOST 1048576: true; the input reads as it did. -/
def vfsNilUptoRow : OpenClaim := { program := "ytgpecnihjjnkeaa", sum := "4e683e839f3ba196d7b967d6b66d77c19b93c592572a8fed702d41b1228594a9", func := "landmark/landmarklaw04.VfsNil", spec := "vfsNil", inPlace := ["maps.clone"], unfollowed := true, recurses := true, apart := false, narrowed := true }
def VfsNilUptoSaid : Prop := vfsNilUptoRow.holds Try.pinned (OpenSpec.upto vfsNilSpec)

end Rows
end Go.Proofs.Ytgpecnihjjnkeaa
