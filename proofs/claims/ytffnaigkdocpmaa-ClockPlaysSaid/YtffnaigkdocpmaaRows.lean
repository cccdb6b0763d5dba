/-
  No cell of these rows narrows 'for every input' (looked for: loops, veiled, ifaces, maps, wideKeys, modest, calm, conditions, laid).
  DERIVED. THE GIVEN ROWS OF THIS SEAT. 5 by the template 'for every input the law returns true; each argument reads behind the call as it read before'; 0 by the template 'total and deterministic' (their statements: YtffnaigkdocpmaaTotals.lean).
  GIVEN WITH THE SEED: the statements are not yours to turn. If you find one false, say at which input.
  Laid BY PROGRAM, IN A SANDBOX (cutbox-rows.mjs): the forced cells as the released guide's own fill.sh prints them over the translation e16bda972d439b07… (all of the seat's roots in one cut). By AI agents, Wed Nov 11 2026. No macro, syntax, notation, axiom, sorry.
-/
import Derived.Test.YtffnaigkdocpmaaChecked
import GoSem.Claim
import GoSem.ClaimJoined
import GoSem.ClaimMapViews
import Derived.JoinedTies
import Derived.KernelRfl
namespace Go.Proofs.Ytffnaigkdocpmaa
/- THE CELL 'sum', in the pinned program and in every row, IS THE sha256 OF THE DUMP (.gsa) THAT YtffnaigkdocpmaaProg.lean LOADS. Nothing in Lean hashes anything: it is a label: what it is worth is what the hold of that sum in a sandbox is worth. -/
noncomputable def Try.pinned : Pinned := { name := "ytffnaigkdocpmaa", sum := "e16bda972d439b0792b6d908fc813912a6eb57de65cbc5a3c1bb458ce372171a", checked := Try.checked }
namespace Rows
def none {H : Type} : Left H := { results := [], args := [] }

/-- 'landmarklaw17.ClockGreatest': WHATEVER THE INPUT: true; the input reads as it did. -/
def clockGreatestSpec : ChangeSpec := { name := "clockGreatest", fn := fun _ => fun
  | [d] => { results := [.lit (.bool true)], args := [d] }
  | _ => none }
def clockGreatestRow : OpenClaim := { program := "ytffnaigkdocpmaa", sum := "e16bda972d439b0792b6d908fc813912a6eb57de65cbc5a3c1bb458ce372171a", func := "landmark/landmarklaw17.ClockGreatest", spec := "clockGreatest", apart := false }
def ClockGreatestSaid : Prop := clockGreatestRow.holds Try.pinned (OpenSpec.ofChange clockGreatestSpec)

/-- ITS FALSE NEIGHBOUR: 'it returns false'. Refute it at one input. -/
def clockGreatestWrong : ChangeSpec := { name := "clockGreatest", fn := fun _ => fun
  | [d] => { results := [.lit (.bool false)], args := [d] }
  | _ => none }
def ClockGreatestWrongFalsely : Prop := clockGreatestRow.holds Try.pinned (OpenSpec.ofChange clockGreatestWrong)

/-- 'landmarklaw17.ClockMeans': WHATEVER THE INPUT: true; the input reads as it did. -/
def clockMeansSpec : ChangeSpec := { name := "clockMeans", fn := fun _ => fun
  | [d1, d2, d3, d4] => { results := [.lit (.bool true)], args := [d1, d2, d3, d4] }
  | _ => none }
def clockMeansRow : OpenClaim := { program := "ytffnaigkdocpmaa", sum := "e16bda972d439b0792b6d908fc813912a6eb57de65cbc5a3c1bb458ce372171a", func := "landmark/landmarklaw17.ClockMeans", spec := "clockMeans", apart := false }
def ClockMeansSaid : Prop := clockMeansRow.holds Try.pinned (OpenSpec.ofChange clockMeansSpec)

/-- ITS FALSE NEIGHBOUR: 'it returns false'. Refute it at one input. -/
def clockMeansWrong : ChangeSpec := { name := "clockMeans", fn := fun _ => fun
  | [d1, d2, d3, d4] => { results := [.lit (.bool false)], args := [d1, d2, d3, d4] }
  | _ => none }
def ClockMeansWrongFalsely : Prop := clockMeansRow.holds Try.pinned (OpenSpec.ofChange clockMeansWrong)

/-- 'landmarklaw17.ClockParts': WHATEVER THE INPUT: true; the input reads as it did. -/
def clockPartsSpec : ChangeSpec := { name := "clockParts", fn := fun _ => fun
  | [d1, d2, d3] => { results := [.lit (.bool true)], args := [d1, d2, d3] }
  | _ => none }
def clockPartsRow : OpenClaim := { program := "ytffnaigkdocpmaa", sum := "e16bda972d439b0792b6d908fc813912a6eb57de65cbc5a3c1bb458ce372171a", func := "landmark/landmarklaw17.ClockParts", spec := "clockParts", apart := false }
def ClockPartsSaid : Prop := clockPartsRow.holds Try.pinned (OpenSpec.ofChange clockPartsSpec)

/-- ITS FALSE NEIGHBOUR: 'it returns false'. Refute it at one input. -/
def clockPartsWrong : ChangeSpec := { name := "clockParts", fn := fun _ => fun
  | [d1, d2, d3] => { results := [.lit (.bool false)], args := [d1, d2, d3] }
  | _ => none }
def ClockPartsWrongFalsely : Prop := clockPartsRow.holds Try.pinned (OpenSpec.ofChange clockPartsWrong)

/-- 'landmarklaw17.ClockPlays': WHATEVER THE INPUT: true; the input reads as it did. -/
def clockPlaysSpec : ChangeSpec := { name := "clockPlays", fn := fun _ => fun
  | [d1, d2] => { results := [.lit (.bool true)], args := [d1, d2] }
  | _ => none }
def clockPlaysRow : OpenClaim := { program := "ytffnaigkdocpmaa", sum := "e16bda972d439b0792b6d908fc813912a6eb57de65cbc5a3c1bb458ce372171a", func := "landmark/landmarklaw17.ClockPlays", spec := "clockPlays", apart := false }
def ClockPlaysSaid : Prop := clockPlaysRow.holds Try.pinned (OpenSpec.ofChange clockPlaysSpec)

/-- ITS FALSE NEIGHBOUR: 'it returns false'. Refute it at one input. -/
def clockPlaysWrong : ChangeSpec := { name := "clockPlays", fn := fun _ => fun
  | [d1, d2] => { results := [.lit (.bool false)], args := [d1, d2] }
  | _ => none }
def ClockPlaysWrongFalsely : Prop := clockPlaysRow.holds Try.pinned (OpenSpec.ofChange clockPlaysWrong)

/-- 'landmarklaw17.ClockNil': WHATEVER THE INPUT: true; the input reads as it did. -/
def clockNilSpec : ChangeSpec := { name := "clockNil", fn := fun _ => fun
  | [] => { results := [.lit (.bool true)], args := [] }
  | _ => none }
def clockNilRow : OpenClaim := { program := "ytffnaigkdocpmaa", sum := "e16bda972d439b0792b6d908fc813912a6eb57de65cbc5a3c1bb458ce372171a", func := "landmark/landmarklaw17.ClockNil", spec := "clockNil", apart := false }
def ClockNilSaid : Prop := clockNilRow.holds Try.pinned (OpenSpec.ofChange clockNilSpec)

/-- ITS FALSE NEIGHBOUR: 'it returns false'. Refute it at one input. -/
def clockNilWrong : ChangeSpec := { name := "clockNil", fn := fun _ => fun
  | [] => { results := [.lit (.bool false)], args := [] }
  | _ => none }
def ClockNilWrongFalsely : Prop := clockNilRow.holds Try.pinned (OpenSpec.ofChange clockNilWrong)

/- THE SECOND FORM. 'bulk': how many values and letters a reading holds, each counted each time it is reached (what is shared counts as often as it is met; a slice's spare places count too). A statement '..UptoSaid' is the law's where the arguments, and the package variables that the reading takes, are together of bulk at most 1048576: NARROWER than '..Said'. Prove '..Said' where nothing that the law and all that it calls make is longer than what came in: it says more and counts as full. Else prove '..UptoSaid'. A law counts once. -/
mutual
def uptoBulk {H : Type} : DataW H → Nat
  | .lit (.string bytes) => bytes.length + 1
  | .lit _ => 1
  | .nil => 1
  | .ptr d => uptoBulk d + 1
  | .slice elems spare => uptoBulkAll elems + uptoBulkAll spare + 1
  | .agg parts => uptoBulkAll parts + 1
  | .iface _ d => uptoBulk d + 1
  | .map entries => uptoBulkEntries entries + 1
  | .held _ => 1
def uptoBulkAll {H : Type} : List (DataW H) → Nat
  | [] => 0
  | d :: r => uptoBulk d + uptoBulkAll r
def uptoBulkEntries {H : Type} : List (Lit × DataW H) → Nat
  | [] => 0
  | x :: r => uptoBulkEntry x + uptoBulkEntries r
def uptoBulkEntry {H : Type} : Lit × DataW H → Nat
  | (.string bytes, d) => bytes.length + uptoBulk d + 1
  | (_, d) => uptoBulk d + 1
 end
def uptoSmall : (H : Type) → List (DataW H) → Bool := fun _ ds => decide (uptoBulkAll ds ≤ 1048576)
def OpenSpec.upto (s : _root_.Go.ChangeSpec) : _root_.Go.OpenSpec := { _root_.Go.OpenSpec.ofChange s with cond := some uptoSmall }

/-- 'landmarklaw17.ClockGreatest', WHERE WHAT IT READS IS OF BULK AT MOST 1048576: true; the input reads as it did. -/
def clockGreatestUptoRow : OpenClaim := { program := "ytffnaigkdocpmaa", sum := "e16bda972d439b0792b6d908fc813912a6eb57de65cbc5a3c1bb458ce372171a", func := "landmark/landmarklaw17.ClockGreatest", spec := "clockGreatest", apart := false, narrowed := true }
def ClockGreatestUptoSaid : Prop := clockGreatestUptoRow.holds Try.pinned (OpenSpec.upto clockGreatestSpec)

/-- 'landmarklaw17.ClockMeans', WHERE WHAT IT READS IS OF BULK AT MOST 1048576: true; the input reads as it did. -/
def clockMeansUptoRow : OpenClaim := { program := "ytffnaigkdocpmaa", sum := "e16bda972d439b0792b6d908fc813912a6eb57de65cbc5a3c1bb458ce372171a", func := "landmark/landmarklaw17.ClockMeans", spec := "clockMeans", apart := false, narrowed := true }
def ClockMeansUptoSaid : Prop := clockMeansUptoRow.holds Try.pinned (OpenSpec.upto clockMeansSpec)

/-- 'landmarklaw17.ClockParts', WHERE WHAT IT READS IS OF BULK AT MOST 1048576: true; the input reads as it did. -/
def clockPartsUptoRow : OpenClaim := { program := "ytffnaigkdocpmaa", sum := "e16bda972d439b0792b6d908fc813912a6eb57de65cbc5a3c1bb458ce372171a", func := "landmark/landmarklaw17.ClockParts", spec := "clockParts", apart := false, narrowed := true }
def ClockPartsUptoSaid : Prop := clockPartsUptoRow.holds Try.pinned (OpenSpec.upto clockPartsSpec)

/-- 'landmarklaw17.ClockPlays', WHERE WHAT IT READS IS OF BULK AT MOST 1048576: true; the input reads as it did. -/
def clockPlaysUptoRow : OpenClaim := { program := "ytffnaigkdocpmaa", sum := "e16bda972d439b0792b6d908fc813912a6eb57de65cbc5a3c1bb458ce372171a", func := "landmark/landmarklaw17.ClockPlays", spec := "clockPlays", apart := false, narrowed := true }
def ClockPlaysUptoSaid : Prop := clockPlaysUptoRow.holds Try.pinned (OpenSpec.upto clockPlaysSpec)

/-- 'landmarklaw17.ClockNil', WHERE WHAT IT READS IS OF BULK AT MOST 1048576: true; the input reads as it did. -/
def clockNilUptoRow : OpenClaim := { program := "ytffnaigkdocpmaa", sum := "e16bda972d439b0792b6d908fc813912a6eb57de65cbc5a3c1bb458ce372171a", func := "landmark/landmarklaw17.ClockNil", spec := "clockNil", apart := false, narrowed := true }
def ClockNilUptoSaid : Prop := clockNilUptoRow.holds Try.pinned (OpenSpec.upto clockNilSpec)

end Rows
end Go.Proofs.Ytffnaigkdocpmaa
