/- Arrays and structs that are loaded, stored and laid whole, whatever they hold. -/
import Derived.Test.YtgpecnihjjnkeaaLk
namespace Go.Lk
open Go.RowKit
set_option linter.unusedVariables false
variable {S S' : Nat → Prop} {b c w w' : World}

theorem Keeps.setRow {a w : World} (h : Keeps S a w) {g : Nat} (hp : g < a.heap.size → S g) (cs : Array Value) : Keeps S a (w.setRow g cs) :=
  ⟨h.os, h.tape, h.output, by simpa using h.size, fun k hk hn => by
    rw [setRow_other w g k cs (by rintro rfl; exact hn (hp hk))]; exact h.block k hk hn⟩

/-- What is asked of an aggregate's type: how many cells it has. -/
structure AggT (P : Program) (t : TypeId) (n : Nat) : Prop where
  agg : (P.underlying t).map (fun d => match d with | .struct _ | .array _ _ => true | _ => false) = some true
  size : (P.info? t).map (·.size) = some n

theorem AggT.isAgg {P : Program} {t : TypeId} {n : Nat} (h : AggT P t n) (w : World) : (isAgg t).run P w = .ok true w := by
  obtain ⟨d, hd, h2⟩ := Option.map_eq_some_iff.1 h.agg
  unfold Go.isAgg
  rw [Sem.run_bind, run_underlying hd w]
  cases d <;> simp_all
theorem AggT.sizeOf {P : Program} {t : TypeId} {n : Nat} (h : AggT P t n) (w : World) : (sizeOf t).run P w = .ok n w := by
  obtain ⟨i, hi, h2⟩ := Option.map_eq_some_iff.1 h.size
  simp [Go.sizeOf, typeInfo, hi, h2]

theorem run_loadAgg {P : Program} {t T : TypeId} {n g off : Nat} {cs : Array Value} {fr : Nat × Nat} (h : AggT P t n) (hg : w.heap[g]? = some (.cells cs T fr)) (hn : off + n ≤ cs.size) :
    (loadVar t ⟨g, off, none⟩).run P w = .ok (.agg (cs.extract off (off + n))) w := by
  have hsz : (cs.extract off (off + n)).toList.length = n := by simp; omega
  have hl := run_loadCells_list (P := P) w ⟨g, off, none⟩ (cs.extract off (off + n)).toList (fun j v hv => by
    rw [Addr.add_lit, cell_of_block hg]
    rw [Array.getElem?_toList, Array.getElem?_extract] at hv
    split at hv
    · exact hv
    · cases hv)
  rw [hsz, Array.toArray_toList] at hl
  simp [loadVar, Sem.run_bind, h.isAgg, h.sizeOf, hl]

/-- The cells ds laid over cs from off on. -/
def splice (cs ds : Array Value) (off : Nat) : Array Value := (cs.toList.take off ++ ds.toList ++ cs.toList.drop (off + ds.size)).toArray
theorem splice_size {cs ds : Array Value} {off : Nat} (h : off + ds.size ≤ cs.size) : (splice cs ds off).size = cs.size := by
  simp [splice]; omega
theorem splice_all {cs ds : Array Value} (h : ds.size = cs.size) : splice cs ds 0 = ds := by
  simp [splice, h]
  rw [List.drop_of_length_le (by simp), List.append_nil]

theorem run_storeAgg {P : Program} {t T : TypeId} {n g off : Nat} {cs ds : Array Value} (h : (P.info? t).map (·.size) = some n) (hg : w.heap[g]? = some (.cells cs T (0, 0))) (hd : ds.size = n) (hn : off + n ≤ cs.size)
    (h1 : ∀ v ∈ ds.toList, v.oneCell' = true) : (storeVar t ⟨g, off, none⟩ (.agg ds)).run P w = .ok () (w.setRow g (splice cs ds off)) := by
  obtain ⟨i, hi, h2⟩ := Option.map_eq_some_iff.1 h
  have hst := run_storeCells_at P g off T ds.toList 0 cs w hg (by simpa [hd] using hn) h1
  simp only [Nat.add_zero, Array.length_toList] at hst
  simp [storeVar, Value.cells, Go.sizeOf, typeInfo, hi, h2, hd, hst, splice]

section
variable {P : Program} {ops : Array Oper} {rest : List Oper} {dst : Option Tmp} {s x : Operand} {t ty T : TypeId} {pos : String} {aft : Array Edge} {a : Act} {Q : Exit → Act → World → Prop} {n g off : Nat} {cs ds : Array Value} {fr : Nat × Nat}

theorem wp_alloc {z : Value} (hz : (P.info? t).map (·.zero) = some (some z)) (h : wpList P ops Q rest (a.put dst (.pointer (some ⟨w.heap.size, 0, none⟩))) (w.alloc (.cells z.cells t))) :
    wpList P ops Q (⟨dst, .alloc t, ty, pos, aft, none⟩ :: rest) a w := by
  obtain ⟨i, hi, h2⟩ := Option.map_eq_some_iff.1 hz
  refine wpList_plain rfl fun K hK => ?_
  unfold Oper.wp execOp
  simp only [Instr.alloc, zeroValue, typeInfo, newVar, newRow, Sem.run_bind, Sem.run_pure, Result.andThen_ok, Sem.run, newObj]
  simp [hi, h2]
  exact hK _ _ h

theorem wp_load (A : AggT P t n) (hx : a.eval x = .pointer (some ⟨g, off, none⟩)) (hg : w.heap[g]? = some (.cells cs T fr)) (hn : off + n ≤ cs.size)
    (h : wpList P ops Q rest (a.put dst (.agg (cs.extract off (off + n)))) w) : wpList P ops Q (⟨dst, .load t x, ty, pos, aft, none⟩ :: rest) a w := by
  refine wpList_plain rfl fun K hK => ?_
  unfold Oper.wp execOp
  simp only [hx, Instr.loadAt, Instr.sureAddr, Sem.run_bind, Sem.run_pure, Result.andThen_ok, run_loadAgg A hg hn]
  exact hK _ _ h

theorem wp_store (A : (P.info? t).map (·.size) = some n) (hs : a.eval s = .pointer (some ⟨g, off, none⟩)) (hx : a.eval x = .agg ds) (hg : w.heap[g]? = some (.cells cs T (0, 0))) (hd : ds.size = n) (hn : off + n ≤ cs.size)
    (h1 : ∀ v ∈ ds.toList, v.oneCell' = true) (h : wpList P ops Q rest (a.put dst undef) (w.setRow g (splice cs ds off))) : wpList P ops Q (⟨dst, .store t s x, ty, pos, aft, none⟩ :: rest) a w := by
  refine wpList_plain rfl fun K hK => ?_
  unfold Oper.wp execOp
  simp only [hs, hx, Instr.storeAt, Instr.sureAddr, Sem.run_bind, Sem.run_pure, Result.andThen_ok, run_storeAgg A hg hd hn h1]
  exact hK _ _ h
theorem wp_box (hx : a.eval x = .agg cs) (h : wpList P ops Q rest (a.put dst (.pointer (some ⟨w.heap.size, 0, none⟩))) (w.alloc (.cells cs t))) :
    wpList P ops Q (⟨dst, .box t x, ty, pos, aft, none⟩ :: rest) a w := by
  refine wpList_plain rfl fun K hK => ?_
  unfold Oper.wp execOp
  simp only [hx, Instr.box, newVar, newRow, Sem.run_bind, Sem.run_pure, Result.andThen_ok, Sem.run, newObj]
  exact hK _ _ h

/-- An element of an array (of elements of one cell) by value. -/
theorem wp_index {e : TypeId} {len i : Nat} {k : IntKind} {v : Value} (hu : P.underlying t = some (.array len e)) (he : (P.underlying e).map (fun d => match d with | .struct _ | .array _ _ => true | _ => false) = some false) (hsz : (P.info? e).map (·.size) = some 1)
    (hs : a.eval s = .agg cs) (hx : a.eval x = .int k i) (hi : i < len) (hv : cs[i]? = some v)
    (h : wpList P ops Q rest (a.put dst v) w) : wpList P ops Q (⟨dst, .index t s x, ty, pos, aft, none⟩ :: rest) a w := by
  refine wpList_plain rfl fun K hK => ?_
  obtain ⟨d, hd, h2⟩ := Option.map_eq_some_iff.1 he
  obtain ⟨ie, hie, h3⟩ := Option.map_eq_some_iff.1 hsz
  have hagg : (Go.isAgg e).run P w = .ok false w := by
    unfold Go.isAgg
    rw [Sem.run_bind, run_underlying hd w]
    cases d <;> simp_all
  have hso : (Go.sizeOf e).run P w = .ok 1 w := by simp [Go.sizeOf, typeInfo, hie, h3]
  have key : (Instr.index t (.agg cs) (.int k i)).run P w = .ok v w := by
    simp [Instr.index, asIntOf, run_underlying hu, Sem.run_bind, hso, part, hagg, hi, hv]
  unfold Oper.wp execOp
  simp only [hs, hx, Sem.run_bind, Sem.run_pure, Result.andThen_ok, key]
  exact hK _ _ h

theorem wp_loadAll (A : AggT P t n) (hx : a.eval x = .pointer (some ⟨g, 0, none⟩)) (hg : w.heap[g]? = some (.cells cs T fr)) (hn : cs.size = n)
    (h : wpList P ops Q rest (a.put dst (.agg cs)) w) : wpList P ops Q (⟨dst, .load t x, ty, pos, aft, none⟩ :: rest) a w :=
  wp_load A hx hg (by omega) (by rw [Nat.zero_add, ← hn, Array.extract_size]; exact h)

theorem wp_storeAll (A : (P.info? t).map (·.size) = some n) (hs : a.eval s = .pointer (some ⟨g, 0, none⟩)) (hx : a.eval x = .agg ds) (hg : w.heap[g]? = some (.cells cs T (0, 0))) (hd : ds.size = n) (hn : cs.size = n)
    (h1 : ∀ v ∈ ds.toList, v.oneCell' = true) (h : wpList P ops Q rest (a.put dst undef) (w.setRow g ds)) : wpList P ops Q (⟨dst, .store t s x, ty, pos, aft, none⟩ :: rest) a w :=
  wp_store A hs hx hg hd (by omega) h1 (by rw [splice_all (by omega)]; exact h)
end
/-- A function's result that lies in a block, whole. -/
theorem results_all {P : Program} {fn : Func} {p : Tmp} {ty T : TypeId} {g n : Nat} {cs : Array Value} {fr : Nat × Nat} (A : AggT P ty n) (h : fn.results = #[.cell p ty]) (tmps : Array Value) (hp : tmps.getD p undef = .pointer (some ⟨g, 0, none⟩)) (hg : w.heap[g]? = some (.cells cs T fr)) (hn : cs.size = n) :
    (results fn tmps).run P w = .ok (.agg cs) w := by
  have hp' : tmps[p]?.getD undef = .pointer (some ⟨g, 0, none⟩) := by simpa using hp
  have hl := run_loadAgg (w := w) (off := 0) A hg (by omega)
  rw [Nat.zero_add, ← hn, Array.extract_size] at hl
  simp [results, h, hp', asAddr, hl]
end Go.Lk
