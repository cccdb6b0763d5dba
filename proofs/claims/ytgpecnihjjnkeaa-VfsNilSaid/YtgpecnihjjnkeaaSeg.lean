/- Structs whose cells are told by a list: built out of their parts, loaded out of a stretch of cells. -/
import Derived.Test.YtgpecnihjjnkeaaMapv
import Derived.Laws.Tables
namespace Go.Lk
open Go.RowKit
set_option linter.unusedVariables false
variable {P : Program} {w : World}

theorem fold_set (off : Nat) : ∀ (vs : List Value) (j : Nat) (A B : List Value), A.length = off + j → vs.length ≤ B.length →
    (vs.zipIdx j).foldl (fun (cs : Array Value) p => cs.setIfInBounds (off + p.2) p.1) (A ++ B).toArray = (A ++ vs ++ B.drop vs.length).toArray
  | [], j, A, B, _, _ => by simp
  | v :: vs, j, A, B, h, hB => by
    rcases B with _ | ⟨x, B⟩
    · simp at hB
    · rw [List.zipIdx_cons, List.foldl_cons]
      have h1 : (A ++ x :: B).toArray.setIfInBounds (off + j) v = ((A ++ [v]) ++ B).toArray := by
        rw [List.setIfInBounds_toArray, ← h, List.set_append_right _ _ (Nat.le_refl _)]
        simp
      rw [h1, fold_set off vs (j + 1) (A ++ [v]) B (by simp; omega) (by simpa using hB)]
      simp

theorem fill_seq (pl : Nat → Option (Nat × Nat)) : ∀ (vs : List Value) (i : Nat) (A B : List Value),
    (∀ j v, vs[j]? = some v → pl (i + j) = some (A.length + ((vs.take j).map (·.cells.size)).sum, v.cells.size)) → (vs.map (·.cells.size)).sum = B.length →
    Instr.fill pl (A ++ B).toArray ((List.range' i vs.length).zip vs) = some (A ++ vs.flatMap (·.cells.toList)).toArray
  | [], i, A, B, _, hB => by
    have : B = [] := List.eq_nil_of_length_eq_zero (by simpa using hB.symm)
    subst this
    simp [Instr.fill]
  | v :: vs, i, A, B, h, hB => by
    simp only [List.map_cons, List.sum_cons] at hB
    have h0 := h 0 v rfl
    simp only [Nat.add_zero, List.take_zero, List.map_nil, List.sum_nil] at h0
    rw [List.length_cons, List.range'_succ, List.zip_cons_cons]
    unfold Instr.fill
    simp only [h0]
    have hsz : ¬ ((v.cells.size ≠ v.cells.size) || decide (A.length + v.cells.size > (A ++ B).toArray.size)) = true := by simp; omega
    rw [if_neg hsz]
    have hf := fold_set A.length v.cells.toList 0 A B (by simp) (by simp; omega)
    have e : v.cells.zipIdx.foldl (fun cs x => match x with | (c, j) => cs.setIfInBounds (A.length + j) c) (A ++ B).toArray = (A ++ v.cells.toList ++ B.drop v.cells.size).toArray := by
      rw [← Array.foldl_toList, Array.toList_zipIdx]
      rw [Array.length_toList] at hf
      exact hf
    rw [e, fill_seq pl vs (i + 1) (A ++ v.cells.toList) (B.drop v.cells.size) (fun j u hu => by
      have := h (j + 1) u (by simpa using hu)
      rw [show i + 1 + j = i + (j + 1) by omega, this]
      simp; omega) (by simp; omega)]
    simp

/-- What is asked of a struct's type: where its fields lie, how many cells it has. -/
structure StructT (P : Program) (t : TypeId) (pl : List (Nat × Nat)) (n : Nat) : Prop where
  places : (P.underlying t).bind (fun d => match d with | .struct fs => fs.toList.mapM (fun f => (P.info? f.type).map fun i => (f.offset, i.size)) | _ => none) = some pl
  zero : ((P.info? t).bind (·.zero)).map (·.cells.size) = some n
theorem run_buildS {t : TypeId} {pl : List (Nat × Nat)} {n : Nat} (A : StructT P t pl n) {parts : Array (Nat × Value)} {vs : List Value} (hp : parts.toList = (List.range' 0 vs.length).zip vs)
    (h1 : ∀ j v, vs[j]? = some v → pl[j]? = some (((vs.take j).map (·.cells.size)).sum, v.cells.size)) (h2 : (vs.map (·.cells.size)).sum = n) (w : World) :
    (Instr.build t parts).run P w = .ok (.agg (vs.flatMap (·.cells.toList)).toArray) w := by
  refine run_build w t parts _ ?_
  obtain ⟨d, hd, h3⟩ := Option.bind_eq_some_iff.1 A.places
  obtain ⟨z, hz, h4⟩ := Option.map_eq_some_iff.1 A.zero
  obtain ⟨i, hi, h5⟩ := Option.bind_eq_some_iff.1 hz
  unfold Program.built
  rw [hi, hd]
  cases d <;> try (simp at h3; done)
  simp only [h5, h3, hp]
  have := fill_seq (fun x => pl.toArray[x]?) vs 0 [] z.cells.toList (fun j v hj => by simpa using h1 j v hj) (by rw [h2]; simpa using h4.symm)
  simpa using this

section
variable {t : TypeId} {n : Nat} {L : List Value} {g off : Nat}
theorem run_loadHas (A : AggT P t n) (h : Has w (some ⟨g, off, none⟩) L) (hl : L.length = n) : (loadVar t ⟨g, off, none⟩).run P w = .ok (.agg L.toArray) w := by
  have hs := run_loadCells_list (P := P) w ⟨g, off, none⟩ L (fun j v hv => by
    rcases h with rfl | ⟨b, o, he, h⟩
    · simp at hv
    · cases he; rw [Addr.add_lit]; exact h j v hv)
  rw [hl] at hs
  simp [loadVar, Sem.run_bind, A.isAgg, A.sizeOf, hs]
theorem Has.left {X Y : List Value} (h : Has w (some ⟨g, off, none⟩) (X ++ Y)) : Has w (some ⟨g, off, none⟩) X := by
  rcases h with h | ⟨b, o, he, h⟩
  · exact .inl (List.append_eq_nil_iff.1 h).1
  · refine .inr ⟨b, o, he, fun i v hi => h i v ?_⟩
    rw [List.getElem?_append_left (List.getElem?_eq_some_iff.1 hi).1]; exact hi
theorem Has.right {X Y : List Value} (h : Has w (some ⟨g, off, none⟩) (X ++ Y)) {m : Nat} (hm : X.length = m) : Has w (some ⟨g, off + m, none⟩) Y := by
  subst hm
  rcases h with h | ⟨b, o, he, h⟩
  · exact .inl (List.append_eq_nil_iff.1 h).2
  · cases he
    refine .inr ⟨g, _, rfl, fun i v hi => ?_⟩
    rw [Nat.add_assoc]
    refine h (X.length + i) v ?_
    rw [List.getElem?_append_right (by omega)]; simpa using hi
theorem Has.one {v : Value} {Y : List Value} (h : Has w (some ⟨g, off, none⟩) (v :: Y)) : w.cell? ⟨g, off, none⟩ = some v := by
  rcases h with h | ⟨b, o, he, h⟩
  · cases h
  · cases he; exact h 0 v rfl
theorem Has.tail {v : Value} {Y : List Value} (h : Has w (some ⟨g, off, none⟩) (v :: Y)) : Has w (some ⟨g, off + 1, none⟩) Y := Has.right (X := [v]) h rfl
theorem has_block {cs : Array Value} {T : TypeId} {fr : Nat × Nat} (h : w.heap[g]? = some (.cells cs T fr)) : Has w (some ⟨g, 0, none⟩) cs.toList :=
  .inr ⟨g, 0, rfl, fun i v hi => by rw [Nat.zero_add, cell_of_block h, ← Array.getElem?_toList]; exact hi⟩

variable {ops : Array Oper} {rest : List Oper} {dst : Option Tmp} {x : Operand} {ty : TypeId} {pos : String} {aft : Array Edge} {a : Act} {Q : Exit → Act → World → Prop}
theorem wp_loadH (A : AggT P t n) (hx : a.eval x = .pointer (some ⟨g, off, none⟩)) (hh : Has w (some ⟨g, off, none⟩) L) (hl : L.length = n)
    (h : wpList P ops Q rest (a.put dst (.agg L.toArray)) w) : wpList P ops Q (⟨dst, .load t x, ty, pos, aft, none⟩ :: rest) a w := by
  refine wpList_plain rfl fun K hK => ?_
  unfold Oper.wp execOp
  simp only [hx, Instr.loadAt, Instr.sureAddr, Sem.run_bind, Sem.run_pure, Result.andThen_ok, run_loadHas A hh hl]
  exact hK _ _ h
theorem wp_buildS {pl : List (Nat × Nat)} (A : StructT P t pl n) {parts : Array (Nat × Operand)} (vs : List Value) (hp : (parts.map fun (i, x) => (i, a.eval x)).toList = (List.range' 0 vs.length).zip vs)
    (h1 : ∀ j v, vs[j]? = some v → pl[j]? = some (((vs.take j).map (·.cells.size)).sum, v.cells.size)) (h2 : (vs.map (·.cells.size)).sum = n)
    (h : wpList P ops Q rest (a.put dst (.agg (vs.flatMap (·.cells.toList)).toArray)) w) : wpList P ops Q (⟨dst, .build t parts, ty, pos, aft, none⟩ :: rest) a w := by
  refine wpList_plain rfl fun K hK => ?_
  unfold Oper.wp execOp
  simp only [Sem.run_bind, run_buildS A hp h1 h2, Result.andThen_ok]
  exact hK _ _ h
theorem wp_build2 {x y : Operand} {X Y : List Value} {u v : Value} {m1 m2 : Nat} (A : StructT P t [(0, m1), (m1, m2)] n) (hx : a.eval x = u) (hy : a.eval y = v)
    (cu : u.cells.toList = X) (cv : v.cells.toList = Y) (h1 : X.length = m1) (h2 : Y.length = m2) (hn : m1 + m2 = n)
    (h : wpList P ops Q rest (a.put dst (.agg (X ++ Y).toArray)) w) : wpList P ops Q (⟨dst, .build t #[(0, x), (1, y)], ty, pos, aft, none⟩ :: rest) a w := by
  have s1 : u.cells.size = m1 := by rw [← h1, ← cu]; simp
  have s2 : v.cells.size = m2 := by rw [← h2, ← cv]; simp
  refine wp_buildS A [u, v] (by simp [hx, hy, List.range']) ?_ (by simp [s1, s2, hn]) ?_
  · intro j z hj
    match j with
    | 0 => simp at hj; subst hj; simp [s1]
    | 1 => simp at hj; subst hj; simp [s1, s2]
    | j + 2 => simp at hj
  · simpa [cu, cv] using h
end
end Go.Lk
