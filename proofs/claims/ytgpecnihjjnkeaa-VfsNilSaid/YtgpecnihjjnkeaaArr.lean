/- A block that holds an array of small numbers, told whole. -/
import Derived.Test.YtgpecnihjjnkeaaOwn
namespace Go.Lk
open Go.RowKit
set_option linter.unusedVariables false
variable {S : Nat → Prop} {w w' : World}

/-- The numbers as cells. -/
def arrV (k : IntKind) (m : List Nat) : Array Value := (m.map fun x => Value.int k (x : Nat)).toArray
theorem arrV_size (k : IntKind) (m : List Nat) : (arrV k m).size = m.length := by simp [arrV]
theorem arrV_one (k : IntKind) (m : List Nat) : ∀ v ∈ (arrV k m).toList, v.oneCell' = true := by simp only [arrV]; exact one_nats
/-- Block g (of type T) holds just these numbers. -/
def ArrB (k : IntKind) (T : TypeId) (w : World) (g : Nat) (m : List Nat) : Prop := w.heap[g]? = some (.cells (arrV k m) T (0, 0))
variable {k : IntKind} {T : TypeId} {g : Nat} {m : List Nat}
theorem ArrB.own (h : ArrB k T w g m) : OwnB k T w g m := ⟨_, h, by rw [arrV_size]; exact Nat.le_refl _, by rw [arrV]; exact List.take_of_length_le (by simp)⟩
theorem ArrB.set (h : ArrB k T w g m) (j x : Nat) : ArrB k T (w.setCell ⟨g, j, none⟩ (.int k (x : Nat))) g (m.set j x) := by
  have := block_setCell (i := j) h (.int k (x : Nat))
  unfold ArrB
  rw [this]
  congr 2
  simp [arrV, List.map_set]
theorem ArrB.lt (h : ArrB k T w g m) : g < w.heap.size := lt_of_block h
theorem ArrB.keeps (h : ArrB k T w g m) (hk : Keeps S w w') (hn : ¬ S g) : ArrB k T w' g m := (hk.block g (lt_of_block h) hn).trans h
end Go.Lk
