/- A row of bytes (of numbers of a kind) of one's own that is written: its block, its first cells. -/
import Derived.Test.YtgpecnihjjnkeaaRow
namespace Go.Lk
open Go.RowKit
set_option linter.unusedVariables false
variable {S : Nat → Prop} {w w' : World}

/-- Block g (of elements of type E, kind k) begins with these numbers. -/
def OwnB (k : IntKind) (E : TypeId) (w : World) (g : Nat) (m : List Nat) : Prop :=
  ∃ cur : Array Value, w.heap[g]? = some (.cells cur E (0, 0)) ∧ m.length ≤ cur.size ∧ cur.toList.take m.length = m.map fun x => .int k (x : Nat)
variable {k : IntKind} {E : TypeId} {g : Nat} {m : List Nat}
theorem OwnB.cell (h : OwnB k E w g m) {i : Nat} (hi : i < m.length) : w.cell? ⟨g, i, none⟩ = some (.int k (ntn m i : Nat)) := by
  obtain ⟨cur, h1, h2, h3⟩ := h
  rw [cell_of_block h1, ← Array.getElem?_toList]
  have : (cur.toList.take m.length)[i]? = some (.int k (ntn m i : Nat)) := by rw [h3, List.getElem?_map, List.getElem?_eq_getElem hi, ntn_eq hi]; rfl
  rwa [List.getElem?_take, if_pos hi] at this
theorem OwnB.free (h : OwnB k E w g m) (i : Nat) : w.frozen? ⟨g, i, none⟩ = false := by
  obtain ⟨cur, h1, -⟩ := h
  exact free_of_block h1
theorem OwnB.lt (h : OwnB k E w g m) : g < w.heap.size := by obtain ⟨cur, h1, -⟩ := h; exact lt_of_block h1
theorem OwnB.keeps (h : OwnB k E w g m) (hk : Keeps S w w') (hn : ¬ S g) : OwnB k E w' g m := by
  obtain ⟨cur, h1, h2⟩ := h
  exact ⟨cur, (hk.block g (lt_of_block h1) hn).trans h1, h2⟩
theorem OwnB.reads (h : OwnB k E w g m) : ReadsN k w (some ⟨g, 0, none⟩) m := .inr ⟨g, 0, rfl, fun i hi => by rw [Nat.zero_add]; exact h.cell hi⟩
theorem OwnB.readsFrom (h : OwnB k E w g m) (j : Nat) : ReadsN k w (some ⟨g, j, none⟩) (m.drop j) := .inr ⟨g, j, rfl, fun i hi => by
  rw [List.length_drop] at hi
  rw [h.cell (by omega)]; simp [ntn, List.getD]⟩
theorem OwnB.set (h : OwnB k E w g m) (j x : Nat) : OwnB k E (w.setCell ⟨g, j, none⟩ (.int k (x : Nat))) g (m.set j x) := by
  obtain ⟨cur, h1, h2, h3⟩ := h
  refine ⟨_, block_setCell h1 _, by simpa using h2, ?_⟩
  rw [Array.toList_setIfInBounds, List.length_set, List.take_set, h3, List.map_set]
theorem own_of_row {base : Nat} {v : Value} {n : Nat} (h : w.ownsRow base E 1 v n (m.map fun x => .int k (x : Nat))) (hm : m ≠ []) : ∃ g c, v = .slice (some ⟨g, 0, none⟩) n c ∧ n = m.length ∧ n ≤ c ∧ c ≤ maxLen ∧ base ≤ g ∧ OwnB k E w g m := by
  obtain ⟨h1, h2⟩ := h
  rw [List.length_map, Nat.mul_one] at h1
  rcases h2 with ⟨rfl, rfl⟩ | ⟨g, cap, cur, rfl, hbg, hg, hnc, hcm, hcs, htake⟩
  · exact absurd (List.eq_nil_of_length_eq_zero h1) hm
  · refine ⟨g, cap, rfl, h1.symm, hnc, hcm, hbg, cur, hg, by omega, ?_⟩
    rw [h1]; rwa [Nat.mul_one] at htake
theorem ReadsN.has {a : Option Addr} {l : List Nat} (h : ReadsN k w a l) : Has w a (l.map fun x => .int k (x : Nat)) := by
  rcases h with rfl | ⟨b, off, ha, h⟩
  · exact .inl rfl
  · refine .inr ⟨b, off, ha, fun i v hi => ?_⟩
    rw [List.getElem?_map] at hi
    by_cases hl : i < l.length
    · rw [List.getElem?_eq_getElem hl] at hi
      simp only [Option.map_some, Option.some.injEq] at hi
      rw [h i hl, ntn_eq hl, hi]
    · rw [List.getElem?_eq_none (by omega)] at hi; simp at hi
theorem ReadsN.drop {l : List Nat} {b off : Nat} (h : ReadsN k w (some ⟨b, off, none⟩) l) (j : Nat) : ReadsN k w (some ⟨b, off + j, none⟩) (l.drop j) := by
  rcases h with rfl | ⟨b', off', ha, h⟩
  · exact .inl (by simp)
  · cases ha
    refine .inr ⟨b, off + j, rfl, fun i hi => ?_⟩
    rw [List.length_drop] at hi
    rw [Nat.add_assoc, h (j + i) (by omega)]; simp [ntn, List.getD]
theorem one_nats {l : List Nat} : ∀ u ∈ l.map (fun x => Value.int k (x : Nat)), u.oneCell' = true := by
  intro u hu
  obtain ⟨_, _, rfl⟩ := List.mem_map.1 hu
  rfl
end Go.Lk
