/- The walk's rules over worlds that are variables: what is new, what is written, what stays. -/
import Derived.Test.YtgpecnihjjnkeaaSeg
namespace Go.Lk
open Go.RowKit
set_option linter.unusedVariables false
variable {P : Program} {S S' : Nat → Prop} {w w' w2 : World}

/-- Block g is new in w', and holds o. -/
structure NewAt (w w' : World) (g : Nat) (o : Obj) : Prop where
  ge : w.heap.size ≤ g
  blk : w'.heap[g]? = some o
  k : Keeps Nb w w'
theorem newAt (w : World) (o : Obj) : NewAt w (w.alloc o) w.heap.size o := ⟨Nat.le_refl _, block_alloc _ _, (Keeps.refl _ _).alloc _⟩
theorem newAt_of {g : Nat} {o : Obj} (h : w.heap.size = g) : NewAt w (w.alloc o) g o := h ▸ newAt w o
theorem NewAt.lt {g : Nat} {o : Obj} (h : NewAt w w' g o) : g < w'.heap.size := lt_of_block h.blk
/-- Block g was written: it holds o now. -/
structure SetAt (w w' : World) (g : Nat) (o : Obj) : Prop where
  blk : w'.heap[g]? = some o
  k : Keeps (· = g) w w'
theorem setRow_at {g : Nat} {cs ds : Array Value} {T : TypeId} {fr : Nat × Nat} (h : w.heap[g]? = some (.cells cs T fr)) : SetAt w (w.setRow g ds) g (.cells ds T fr) :=
  ⟨setRow_heap _ _ _ _ _ _ h, (Keeps.refl (· = g) w).setRow (fun _ => rfl) _⟩
theorem setCell_at {g i : Nat} {cs : Array Value} {T : TypeId} {fr : Nat × Nat} (h : w.heap[g]? = some (.cells cs T fr)) (v : Value) : SetAt w (w.setCell ⟨g, i, none⟩ v) g (.cells (cs.setIfInBounds i v) T fr) :=
  ⟨block_setCell h v, (Keeps.refl (· = g) w).setCell (fun _ => rfl) _⟩
/-- A block that is known stays as it was. -/
theorem Keeps.at {g : Nat} {o : Obj} (h : Keeps S w w') (hb : w.heap[g]? = some o) (hn : ¬ S g) : w'.heap[g]? = some o := (h.block g (lt_of_block hb) hn).trans hb
theorem Keeps.nb {g : Nat} {o : Obj} (h : Keeps Nb w w') (hb : w.heap[g]? = some o) : w'.heap[g]? = some o := h.at hb (fun e => e)

section
variable {ops : Array Oper} {rest : List Oper} {dst : Option Tmp} {s x : Operand} {t ty T : TypeId} {pos : String} {aft : Array Edge} {a : Act} {Q : Exit → Act → World → Prop} {n g off : Nat} {cs ds : Array Value} {fr : Nat × Nat}

theorem vbox (hx : a.eval x = .agg cs) (h : ∀ g w', NewAt w w' g (.cells cs t) → wpList P ops Q rest (a.put dst (.pointer (some ⟨g, 0, none⟩))) w') :
    wpList P ops Q (⟨dst, .box t x, ty, pos, aft, none⟩ :: rest) a w := wp_box hx (h _ _ (newAt _ _))
theorem valloc {z : Value} (hz : (P.info? t).map (·.zero) = some (some z)) (h : ∀ g w', NewAt w w' g (.cells z.cells t) → wpList P ops Q rest (a.put dst (.pointer (some ⟨g, 0, none⟩))) w') :
    wpList P ops Q (⟨dst, .alloc t, ty, pos, aft, none⟩ :: rest) a w := wp_alloc hz (h _ _ (newAt _ _))
theorem vstoreAll (A : AggT P t n) (hs : a.eval s = .pointer (some ⟨g, 0, none⟩)) (hx : a.eval x = .agg ds) (hg : w.heap[g]? = some (.cells cs T (0, 0))) (hd : ds.size = n) (hn : cs.size = n)
    (h1 : ∀ v ∈ ds.toList, v.oneCell' = true) (h : ∀ w', SetAt w w' g (.cells ds T) → wpList P ops Q rest (a.put dst undef) w') : wpList P ops Q (⟨dst, .store t s x, ty, pos, aft, none⟩ :: rest) a w :=
  wp_storeAll A.size hs hx hg hd hn h1 (h _ (setRow_at hg))

/-- Where the walk stands still: a load, a store, an alloc, a box, a build of one type (guarded or not: what is passed over goes first by 'go_skip'). -/
theorem stop_load {gd : Option (Nat × Bool)} (h : At (wpList P ops Q (⟨dst, .load t x, ty, pos, aft, gd⟩ :: rest) a w)) : wpList P ops Q (⟨dst, .load t x, ty, pos, aft, gd⟩ :: rest) a w := h
theorem stop_store {gd : Option (Nat × Bool)} (h : At (wpList P ops Q (⟨dst, .store t s x, ty, pos, aft, gd⟩ :: rest) a w)) : wpList P ops Q (⟨dst, .store t s x, ty, pos, aft, gd⟩ :: rest) a w := h
theorem stop_box {gd : Option (Nat × Bool)} (h : At (wpList P ops Q (⟨dst, .box t x, ty, pos, aft, gd⟩ :: rest) a w)) : wpList P ops Q (⟨dst, .box t x, ty, pos, aft, gd⟩ :: rest) a w := h
theorem stop_alloc {gd : Option (Nat × Bool)} (h : At (wpList P ops Q (⟨dst, .alloc t, ty, pos, aft, gd⟩ :: rest) a w)) : wpList P ops Q (⟨dst, .alloc t, ty, pos, aft, gd⟩ :: rest) a w := h
theorem stop_build {gd : Option (Nat × Bool)} {parts : Array (Nat × Operand)} (h : At (wpList P ops Q (⟨dst, .build t parts, ty, pos, aft, gd⟩ :: rest) a w)) : wpList P ops Q (⟨dst, .build t parts, ty, pos, aft, gd⟩ :: rest) a w := h
theorem stop_lookup {gd : Option (Nat × Bool)} {ok : Bool} (h : At (wpList P ops Q (⟨dst, .lookup t s x ok, ty, pos, aft, gd⟩ :: rest) a w)) : wpList P ops Q (⟨dst, .lookup t s x ok, ty, pos, aft, gd⟩ :: rest) a w := h
theorem stop_buildSlice {gd : Option (Nat × Bool)} {m : Nat} {parts : Array (Nat × Operand)} (h : At (wpList P ops Q (⟨dst, .buildSlice t m parts, ty, pos, aft, gd⟩ :: rest) a w)) : wpList P ops Q (⟨dst, .buildSlice t m parts, ty, pos, aft, gd⟩ :: rest) a w := h
theorem stop_app {gd : Option (Nat × Bool)} {t2 : TypeId} (h : At (wpList P ops Q (⟨dst, .call ⟨.builtin .append, #[s, x], #[t, t2]⟩, ty, pos, aft, gd⟩ :: rest) a w)) : wpList P ops Q (⟨dst, .call ⟨.builtin .append, #[s, x], #[t, t2]⟩, ty, pos, aft, gd⟩ :: rest) a w := h
theorem stop_eql {gd : Option (Nat × Bool)} {t2 : TypeId} (h : At (wpList P ops Q (⟨dst, .binOp .eql t s x t2, ty, pos, aft, gd⟩ :: rest) a w)) : wpList P ops Q (⟨dst, .binOp .eql t s x t2, ty, pos, aft, gd⟩ :: rest) a w := h
theorem stop_neq {gd : Option (Nat × Bool)} {t2 : TypeId} (h : At (wpList P ops Q (⟨dst, .binOp .neq t s x t2, ty, pos, aft, gd⟩ :: rest) a w)) : wpList P ops Q (⟨dst, .binOp .neq t s x t2, ty, pos, aft, gd⟩ :: rest) a w := h
theorem stop_mapEntry {gd : Option (Nat × Bool)} (h : At (wpList P ops Q (⟨dst, .mapEntry t s x, ty, pos, aft, gd⟩ :: rest) a w)) : wpList P ops Q (⟨dst, .mapEntry t s x, ty, pos, aft, gd⟩ :: rest) a w := h

/-- An operation that is wanted and yields a value, in a plain region. -/
theorem wpList_val {o : Oper} {v : Value} (hw : Region.wanted o (yielded ops a.tmps) = true) (hr : (execOp a.eval o).run P w = .ok (.value v) w') (h : wpList P ops Q rest (a.put o.dst v) w') : wpList P ops Q (o :: rest) a w :=
  wpList_step fun K hK => by
    rw [if_pos hw]
    unfold Oper.wp
    rw [hr]
    exact hK _ _ h
end

/-! The operations' runs (whatever guards them). -/
section
variable {dst : Option Tmp} {s x y : Operand} {t ty T : TypeId} {pos : String} {aft : Array Edge} {gd : Option (Nat × Bool)} {a : Act} {n g off : Nat} {L : List Value}
theorem rn_loadH (A : AggT P t n) (hx : a.eval x = .pointer (some ⟨g, off, none⟩)) (hh : Has w (some ⟨g, off, none⟩) L) (hl : L.length = n) :
    (execOp a.eval ⟨dst, .load t x, ty, pos, aft, gd⟩).run P w = .ok (.value (.agg L.toArray)) w := by
  unfold execOp
  simp only [hx, Instr.loadAt, Instr.sureAddr, Sem.run_bind, Sem.run_pure, Result.andThen_ok, run_loadHas A hh hl]
theorem rn_build {parts : Array (Nat × Operand)} {pl : List (Nat × Nat)} (A : StructT P t pl n) (vs : List Value) (hp : (parts.map fun (i, x) => (i, a.eval x)).toList = (List.range' 0 vs.length).zip vs)
    (h1 : ∀ j v, vs[j]? = some v → pl[j]? = some (((vs.take j).map (·.cells.size)).sum, v.cells.size)) (h2 : (vs.map (·.cells.size)).sum = n) :
    (execOp a.eval ⟨dst, .build t parts, ty, pos, aft, gd⟩).run P w = .ok (.value (.agg (vs.flatMap (·.cells.toList)).toArray)) w := by
  unfold execOp
  simp only [Sem.run_bind, run_buildS A hp h1 h2, Result.andThen_ok, Sem.run_pure]
theorem rn_build2 {X Y : List Value} {u v : Value} {m1 m2 : Nat} (A : StructT P t [(0, m1), (m1, m2)] n) (hx : a.eval x = u) (hy : a.eval y = v)
    (cu : u.cells.toList = X) (cv : v.cells.toList = Y) (h1 : X.length = m1) (h2 : Y.length = m2) (hn : m1 + m2 = n) :
    (execOp a.eval ⟨dst, .build t #[(0, x), (1, y)], ty, pos, aft, gd⟩).run P w = .ok (.value (.agg (X ++ Y).toArray)) w := by
  have s1 : u.cells.size = m1 := by rw [← h1, ← cu]; simp
  have s2 : v.cells.size = m2 := by rw [← h2, ← cv]; simp
  have := rn_build (P := P) (w := w) (a := a) (parts := #[(0, x), (1, y)]) (dst := dst) (ty := ty) (pos := pos) (aft := aft) (gd := gd) A [u, v] (by simp [hx, hy, List.range']) (by
    intro j z hj
    match j with
    | 0 => simp at hj; subst hj; simp [s1]
    | 1 => simp at hj; subst hj; simp [s1, s2]
    | j + 2 => simp at hj) (by simp [s1, s2, hn])
  simpa [cu, cv] using this
theorem rn_build3 {z : Operand} {X Y Z : List Value} {u v q : Value} {m1 m2 m3 k2 : Nat} (A : StructT P t [(0, m1), (m1, m2), (k2, m3)] n) (hx : a.eval x = u) (hy : a.eval y = v) (hz : a.eval z = q)
    (cu : u.cells.toList = X) (cv : v.cells.toList = Y) (cq : q.cells.toList = Z) (h1 : X.length = m1) (h2 : Y.length = m2) (h3 : Z.length = m3) (hk : m1 + m2 = k2) (hn : m1 + m2 + m3 = n) :
    (execOp a.eval ⟨dst, .build t #[(0, x), (1, y), (2, z)], ty, pos, aft, gd⟩).run P w = .ok (.value (.agg (X ++ (Y ++ Z)).toArray)) w := by
  have s1 : u.cells.size = m1 := by rw [← h1, ← cu]; simp
  have s2 : v.cells.size = m2 := by rw [← h2, ← cv]; simp
  have s3 : q.cells.size = m3 := by rw [← h3, ← cq]; simp
  have := rn_build (P := P) (w := w) (a := a) (parts := #[(0, x), (1, y), (2, z)]) (dst := dst) (ty := ty) (pos := pos) (aft := aft) (gd := gd) A [u, v, q] (by simp [hx, hy, hz, List.range']) (by
    intro j z hj
    match j with
    | 0 => simp at hj; subst hj; simp [s1]
    | 1 => simp at hj; subst hj; simp [s1, s2]
    | 2 => simp at hj; subst hj; simp [s1, s2, s3]; omega
    | j + 3 => simp at hj) (by simp [s1, s2, s3]; omega)
  simpa [cu, cv, cq] using this
theorem rn_eqlK {ks : List IntKind} {l1 l2 : List Int} {t2 : TypeId} (A : AggK P t ks) (hx : a.eval x = kv ks l1) (hy : a.eval y = kv ks l2) (h1 : Fits ks l1) (h2 : Fits ks l2) :
    (execOp a.eval ⟨dst, .binOp .eql t x y t2, ty, pos, aft, gd⟩).run P w = .ok (.value (.bool (decide (l1 = l2)))) w := by
  unfold execOp
  simp [hx, hy, eqGuard, A.guard, binOp, kv, run_equal_kinds A h1 h2]
theorem rn_neqK {ks : List IntKind} {l1 l2 : List Int} {t2 : TypeId} (A : AggK P t ks) (hx : a.eval x = kv ks l1) (hy : a.eval y = kv ks l2) (h1 : Fits ks l1) (h2 : Fits ks l2) :
    (execOp a.eval ⟨dst, .binOp .neq t x y t2, ty, pos, aft, gd⟩).run P w = .ok (.value (.bool (!decide (l1 = l2)))) w := by
  unfold execOp
  simp [hx, hy, eqGuard, A.guard, binOp, kv, run_equal_kinds A h1 h2]
theorem rn_lookup {k e : TypeId} {ks : List IntKind} {f : List Int → Option Value} {b : Nat} {z : Value} {l : List Int} {c : Bool} (h : MapAt ks w b f) (K : KeyK P k ks) (ht : P.underlying t = some (.map k e)) (hz : (zeroValue e).run P w = .ok z w)
    (hx : a.eval x = .map (some b)) (hy : a.eval y = kv ks l) (hl : Fits ks l) :
    (execOp a.eval ⟨dst, .lookup t x y c, ty, pos, aft, gd⟩).run P w = .ok (.value (if c then .tuple #[(f l).getD z, .bool (f l).isSome] else (f l).getD z)) w := by
  unfold execOp
  simp only [hx, hy, Sem.run_bind, h.look K ht hz hl, Result.andThen_ok, Sem.run_pure]
end

/-! The same in a quiet region over a class of worlds. -/
section
variable {ops : Array Oper} {rest : List Oper} {C : World → Prop} {Q : Act → Prop} {a : Act} {o : Oper} {v : Value}
theorem wpq_val (hw : Region.wanted o (yielded ops a.tmps) = true) (hr : ∀ w, C w → (execOp a.eval o).run P w = .ok (.value v) w) (h : wpQuiet P ops C Q rest (a.put o.dst v)) : wpQuiet P ops C Q (o :: rest) a :=
  wpQuiet_step fun K hK => by
    rw [if_pos hw]
    refine ⟨v, fun w hc => ?_, hK _ h⟩
    unfold Oper.quietAt
    rw [hr w hc]
    exact ⟨rfl, rfl⟩
theorem stopq {op : Op} {dst : Option Tmp} {ty : TypeId} {pos : String} {aft : Array Edge} {gd : Option (Nat × Bool)} (h : At (wpQuiet P ops C Q (⟨dst, op, ty, pos, aft, gd⟩ :: rest) a)) : wpQuiet P ops C Q (⟨dst, op, ty, pos, aft, gd⟩ :: rest) a := h
end
end Go.Lk
