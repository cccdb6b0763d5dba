/-
  No cell of these rows narrows 'for every input' (looked for: loops, veiled, ifaces, maps, wideKeys, modest, calm, conditions, laid).
  DERIVED. THE GIVEN ROWS OF THIS SEAT. 5 by the template 'for every input the law returns true; each argument reads behind the call as it read before'; 0 by the template 'total and deterministic' (their statements: YtffnaigkdocpmabTotals.lean).
  GIVEN WITH THE SEED: the statements are not yours to turn. If you find one false, say at which input.
  Laid BY PROGRAM, IN A SANDBOX (cutbox-rows.mjs): the forced cells as the released guide's own fill.sh prints them over the translation b3a07fb5318ee8fb… (all of the seat's roots in one cut). By AI agents, Wed Nov 11 2026. No macro, syntax, notation, axiom, sorry.
-/
import Derived.Test.YtffnaigkdocpmabChecked
import GoSem.Claim
import GoSem.ClaimJoined
import GoSem.ClaimMapViews
import Derived.JoinedTies
import Derived.KernelRfl
namespace Go.Proofs.Ytffnaigkdocpmab
/- THE CELL 'sum', in the pinned program and in every row, IS THE sha256 OF THE DUMP (.gsa) THAT YtffnaigkdocpmabProg.lean LOADS. Nothing in Lean hashes anything: it is a label: what it is worth is what the hold of that sum in a sandbox is worth. -/
noncomputable def Try.pinned : Pinned := { name := "ytffnaigkdocpmab", sum := "b3a07fb5318ee8fb7106416fb05762b4f7f94cd272183b7c9ed5bfcf49599de7", checked := Try.checked }
namespace Rows
def none {H : Type} : Left H := { results := [], args := [] }

/-- 'landmarklaw02.RecordSums': WHATEVER THE INPUT: true; the input reads as it did. -/
def recordSumsSpec : ChangeSpec := { name := "recordSums", fn := fun _ => fun
  | [d1, d2] => { results := [.lit (.bool true)], args := [d1, d2] }
  | _ => none }
def recordSumsRow : OpenClaim := { program := "ytffnaigkdocpmab", sum := "b3a07fb5318ee8fb7106416fb05762b4f7f94cd272183b7c9ed5bfcf49599de7", func := "landmark/landmarklaw02.RecordSums", spec := "recordSums", apart := false }
def RecordSumsSaid : Prop := recordSumsRow.holds Try.pinned (OpenSpec.ofChange recordSumsSpec)

/-- ITS FALSE NEIGHBOUR: 'it returns false'. Refute it at one input. -/
def recordSumsWrong : ChangeSpec := { name := "recordSums", fn := fun _ => fun
  | [d1, d2] => { results := [.lit (.bool false)], args := [d1, d2] }
  | _ => none }
def RecordSumsWrongFalsely : Prop := recordSumsRow.holds Try.pinned (OpenSpec.ofChange recordSumsWrong)

/-- 'landmarklaw02.SumsBack': WHATEVER THE INPUT: true; the input reads as it did. -/
def sumsBackSpec : ChangeSpec := { name := "sumsBack", fn := fun _ => fun
  | [d1, d2] => { results := [.lit (.bool true)], args := [d1, d2] }
  | _ => none }
def sumsBackRow : OpenClaim := { program := "ytffnaigkdocpmab", sum := "b3a07fb5318ee8fb7106416fb05762b4f7f94cd272183b7c9ed5bfcf49599de7", func := "landmark/landmarklaw02.SumsBack", spec := "sumsBack", apart := false }
def SumsBackSaid : Prop := sumsBackRow.holds Try.pinned (OpenSpec.ofChange sumsBackSpec)

/-- ITS FALSE NEIGHBOUR: 'it returns false'. Refute it at one input. -/
def sumsBackWrong : ChangeSpec := { name := "sumsBack", fn := fun _ => fun
  | [d1, d2] => { results := [.lit (.bool false)], args := [d1, d2] }
  | _ => none }
def SumsBackWrongFalsely : Prop := sumsBackRow.holds Try.pinned (OpenSpec.ofChange sumsBackWrong)

/-- 'landmarklaw02.SumsTell': WHATEVER THE INPUT: true; the input reads as it did. -/
def sumsTellSpec : ChangeSpec := { name := "sumsTell", fn := fun _ => fun
  | [d1, d2, d3] => { results := [.lit (.bool true)], args := [d1, d2, d3] }
  | _ => none }
def sumsTellRow : OpenClaim := { program := "ytffnaigkdocpmab", sum := "b3a07fb5318ee8fb7106416fb05762b4f7f94cd272183b7c9ed5bfcf49599de7", func := "landmark/landmarklaw02.SumsTell", spec := "sumsTell", apart := false }
def SumsTellSaid : Prop := sumsTellRow.holds Try.pinned (OpenSpec.ofChange sumsTellSpec)

/-- ITS FALSE NEIGHBOUR: 'it returns false'. Refute it at one input. -/
def sumsTellWrong : ChangeSpec := { name := "sumsTell", fn := fun _ => fun
  | [d1, d2, d3] => { results := [.lit (.bool false)], args := [d1, d2, d3] }
  | _ => none }
def SumsTellWrongFalsely : Prop := sumsTellRow.holds Try.pinned (OpenSpec.ofChange sumsTellWrong)

/-- 'landmarklaw02.SumsTorn': WHATEVER THE INPUT: true; the input reads as it did. -/
def sumsTornSpec : ChangeSpec := { name := "sumsTorn", fn := fun _ => fun
  | [d1, d2] => { results := [.lit (.bool true)], args := [d1, d2] }
  | _ => none }
def sumsTornRow : OpenClaim := { program := "ytffnaigkdocpmab", sum := "b3a07fb5318ee8fb7106416fb05762b4f7f94cd272183b7c9ed5bfcf49599de7", func := "landmark/landmarklaw02.SumsTorn", spec := "sumsTorn", apart := false }
def SumsTornSaid : Prop := sumsTornRow.holds Try.pinned (OpenSpec.ofChange sumsTornSpec)

/-- ITS FALSE NEIGHBOUR: 'it returns false'. Refute it at one input. -/
def sumsTornWrong : ChangeSpec := { name := "sumsTorn", fn := fun _ => fun
  | [d1, d2] => { results := [.lit (.bool false)], args := [d1, d2] }
  | _ => none }
def SumsTornWrongFalsely : Prop := sumsTornRow.holds Try.pinned (OpenSpec.ofChange sumsTornWrong)

/-- 'landmarklaw02.SumsFit': WHATEVER THE INPUT: true; the input reads as it did. -/
def sumsFitSpec : ChangeSpec := { name := "sumsFit", fn := fun _ => fun
  | [d1, d2, d3] => { results := [.lit (.bool true)], args := [d1, d2, d3] }
  | _ => none }
def sumsFitRow : OpenClaim := { program := "ytffnaigkdocpmab", sum := "b3a07fb5318ee8fb7106416fb05762b4f7f94cd272183b7c9ed5bfcf49599de7", func := "landmark/landmarklaw02.SumsFit", spec := "sumsFit", apart := false }
def SumsFitSaid : Prop := sumsFitRow.holds Try.pinned (OpenSpec.ofChange sumsFitSpec)

/-- ITS FALSE NEIGHBOUR: 'it returns false'. Refute it at one input. -/
def sumsFitWrong : ChangeSpec := { name := "sumsFit", fn := fun _ => fun
  | [d1, d2, d3] => { results := [.lit (.bool false)], args := [d1, d2, d3] }
  | _ => none }
def SumsFitWrongFalsely : Prop := sumsFitRow.holds Try.pinned (OpenSpec.ofChange sumsFitWrong)

/- THE SECOND FORM. 'bulk': how many values and letters a reading holds, each counted each time it is reached (what is shared counts as often as it is met; a slice's spare places count too). A statement '..UptoSaid' is the law's where the arguments, and the package variables that the reading takes, are together of bulk at most 1048576: NARROWER than '..Said'. Prove '..Said' where nothing that the law and all that it calls make is longer than what came in: it says more and counts as full. Else prove '..UptoSaid'. A law counts once. -/
mutual
def uptoBulk {H : Type} : DataW H → Nat
  | .lit (.string bytes) => bytes.length + 1
  | .lit _ => 1
  | .nil => 1
  | .ptr d => uptoBulk d + 1
  | .slice elems spare => uptoBulkAll elems + uptoBulkAll spare + 1
  | .agg parts => uptoBulkAll parts + 1
  | .iface _ d => uptoBulk d + 1
  | .map entries => uptoBulkEntries entries + 1
  | .held _ => 1
def uptoBulkAll {H : Type} : List (DataW H) → Nat
  | [] => 0
  | d :: r => uptoBulk d + uptoBulkAll r
def uptoBulkEntries {H : Type} : List (Lit × DataW H) → Nat
  | [] => 0
  | x :: r => uptoBulkEntry x + uptoBulkEntries r
def uptoBulkEntry {H : Type} : Lit × DataW H → Nat
  | (.string bytes, d) => bytes.length + uptoBulk d + 1
  | (_, d) => uptoBulk d + 1
 end
def uptoSmall : (H : Type) → List (DataW H) → Bool := fun _ ds => decide (uptoBulkAll ds ≤ 1048576)
def OpenSpec.upto (s : _root_.Go.ChangeSpec) : _root_.Go.OpenSpec := { _root_.Go.OpenSpec.ofChange s with cond := some uptoSmall }

/-- 'landmarklaw02.RecordSums', WHERE WHAT IT READS IS OF BULK AT MOST 1048576: true; the input reads as it did. -/
def recordSumsUptoRow : OpenClaim := { program := "ytffnaigkdocpmab", sum := "b3a07fb5318ee8fb7106416fb05762b4f7f94cd272183b7c9ed5bfcf49599de7", func := "landmark/landmarklaw02.RecordSums", spec := "recordSums", apart := false, narrowed := true }
def RecordSumsUptoSaid : Prop := recordSumsUptoRow.holds Try.pinned (OpenSpec.upto recordSumsSpec)

/-- 'landmarklaw02.SumsBack', WHERE WHAT IT READS IS OF BULK AT MOST 1048576: true; the input reads as it did. -/
def sumsBackUptoRow : OpenClaim := { program := "ytffnaigkdocpmab", sum := "b3a07fb5318ee8fb7106416fb05762b4f7f94cd272183b7c9ed5bfcf49599de7", func := "landmark/landmarklaw02.SumsBack", spec := "sumsBack", apart := false, narrowed := true }
def SumsBackUptoSaid : Prop := sumsBackUptoRow.holds Try.pinned (OpenSpec.upto sumsBackSpec)

/-- 'landmarklaw02.SumsTell', WHERE WHAT IT READS IS OF BULK AT MOST 1048576: true; the input reads as it did. -/
def sumsTellUptoRow : OpenClaim := { program := "ytffnaigkdocpmab", sum := "b3a07fb5318ee8fb7106416fb05762b4f7f94cd272183b7c9ed5bfcf49599de7", func := "landmark/landmarklaw02.SumsTell", spec := "sumsTell", apart := false, narrowed := true }
def SumsTellUptoSaid : Prop := sumsTellUptoRow.holds Try.pinned (OpenSpec.upto sumsTellSpec)

/-- 'landmarklaw02.SumsTorn', WHERE WHAT IT READS IS OF BULK AT MOST 1048576: true; the input reads as it did. -/
def sumsTornUptoRow : OpenClaim := { program := "ytffnaigkdocpmab", sum := "b3a07fb5318ee8fb7106416fb05762b4f7f94cd272183b7c9ed5bfcf49599de7", func := "landmark/landmarklaw02.SumsTorn", spec := "sumsTorn", apart := false, narrowed := true }
def SumsTornUptoSaid : Prop := sumsTornUptoRow.holds Try.pinned (OpenSpec.upto sumsTornSpec)

/-- 'landmarklaw02.SumsFit', WHERE WHAT IT READS IS OF BULK AT MOST 1048576: true; the input reads as it did. -/
def sumsFitUptoRow : OpenClaim := { program := "ytffnaigkdocpmab", sum := "b3a07fb5318ee8fb7106416fb05762b4f7f94cd272183b7c9ed5bfcf49599de7", func := "landmark/landmarklaw02.SumsFit", spec := "sumsFit", apart := false, narrowed := true }
def SumsFitUptoSaid : Prop := sumsFitUptoRow.holds Try.pinned (OpenSpec.upto sumsFitSpec)

end Rows
end Go.Proofs.Ytffnaigkdocpmab
