/- Maps whose keys are pointers to objects, told by a function of the objects; how they are read and written. -/
import Derived.Test.YtgpecnihjjnkeaaSmap
import Derived.LaidEqlPtr
namespace Go.Lk
open Go.RowKit Go.MapKept Go.ChangeMaps
set_option linter.unusedVariables false
variable {P : Program} {t k e te : TypeId} {S : Nat → Prop} {w w' : World} {m : Nat} {f : Option Nat → Option Value} {a b : Option Nat}

/-- A pointer to a whole object, or nil. -/
def pk : Option Nat → Value
  | none => .pointer none
  | some b => .pointer (some ⟨b, 0, none⟩)
theorem pk_inj (h : pk a = pk b) : a = b := by
  cases a <;> cases b <;> simp [pk] at h ⊢
  exact h
/-- What is asked of the map's type. -/
structure PmT (P : Program) (t k e te : TypeId) : Prop where
  ht : P.underlying t = some (.map k e)
  hk : P.underlying k = some (.pointer te)
  hte : ∃ j, P.info? te = some j ∧ j.size ≠ 0
/-- The object is a row of cells. -/
def IsObj (w : World) (a : Option Nat) : Prop := ∀ b, a = some b → ∃ c t, w.heap[b]? = some (.cells c t (0, 0))
theorem IsObj.keeps (h : IsObj w a) (hk : Keeps S w w') (hn : ∀ b, a = some b → ¬ S b) : IsObj w' a := fun b hb => by
  obtain ⟨c, t, h1⟩ := h b hb
  exact ⟨c, t, hk.at h1 (hn b hb)⟩
theorem PmT.eqIn (T : PmT P t k e te) (d : Nat) (ha : IsObj w a) (hb : IsObj w b) : (Op.equalIn (d + 1) k (pk a) (pk b)).run P w = .ok (decide (a = b)) w := by
  obtain ⟨j, hj, hsz⟩ := T.hte
  cases a with
  | none => cases b <;> simp [pk, Op.equalIn, run_underlying T.hk]
  | some a =>
    cases b with
    | none => simp [pk, Op.equalIn, run_underlying T.hk]
    | some b =>
      obtain ⟨ca, ta, h1⟩ := ha a rfl
      obtain ⟨cb, tb, h2⟩ := hb b rfl
      by_cases hab : a = b
      · subst hab
        simp [pk, Op.equalIn, run_underlying T.hk, sizeOf, typeInfo, hj, run_sameAddr_same]
      · have hne : (⟨a, 0, none⟩ : Addr) ≠ ⟨b, 0, none⟩ := fun e => hab (by cases e; rfl)
        simp [pk, Op.equalIn, run_underlying T.hk, sizeOf, typeInfo, hj, hsz, run_sameAddr_other w hne h1 h2, hab]
theorem PmT.eq (T : PmT P t k e te) (ha : IsObj w a) (hb : IsObj w b) : (Op.equal k (pk a) (pk b)).run P w = .ok (decide (a = b)) w := T.eqIn 9999 ha hb
theorem PmT.asking (T : PmT P t k e te) (ha : IsObj w a) : ∀ (es : List MapEntry) (i : Nat), (∀ x ∈ es, ∃ b, IsObj w b ∧ x.key = pk b) →
    ((Instr.findAsking k (pk a) es i).run P w = .ok none w ∧ ∀ x ∈ es, x.key ≠ pk a) ∨ ∃ j x, (Instr.findAsking k (pk a) es i).run P w = .ok (some (i + j, x.val)) w ∧ es[j]? = some x ∧ x.key = pk a
  | [], i, _ => .inl ⟨by simp [Instr.findAsking], by simp⟩
  | x :: es, i, h => by
    obtain ⟨b, hb, hx⟩ := h x (by simp)
    by_cases hab : a = b
    · subst hab
      refine .inr ⟨0, x, ?_, rfl, hx⟩
      unfold Instr.findAsking
      simp [hx, T.eq ha hb, Result.andThen]
    · have hne : x.key ≠ pk a := fun e => hab (pk_inj (hx.symm.trans e)).symm
      have step : (Instr.findAsking k (pk a) (x :: es) i).run P w = (Instr.findAsking k (pk a) es (i + 1)).run P w := by
        rw [Instr.findAsking]
        simp [hx, T.eq ha hb, Result.andThen, hab]
      rw [step]
      rcases T.asking ha es (i + 1) (fun y hy => h y (by simp [hy])) with ⟨h1, h2⟩ | ⟨j, y, h1, h2, h3⟩
      · refine .inl ⟨h1, fun y hy => ?_⟩
        rcases List.mem_cons.1 hy with rfl | hy
        · exact hne
        · exact h2 y hy
      · exact .inr ⟨j + 1, y, by rw [h1, show i + 1 + j = i + (j + 1) by omega], h2, h3⟩
theorem PmT.find (T : PmT P t k e te) (ha : IsObj w a) (es : List MapEntry) (h : ∀ x ∈ es, ∃ b, IsObj w b ∧ x.key = pk b) :
    ((Instr.findKey k (pk a) es).run P w = .ok none w ∧ ∀ x ∈ es, x.key ≠ pk a) ∨ ∃ j x, (Instr.findKey k (pk a) es).run P w = .ok (some (j, x.val)) w ∧ es[j]? = some x ∧ x.key = pk a := by
  cases es with
  | nil => exact .inl ⟨by simp [Instr.findKey, run_underlying T.hk, Instr.findNow, Result.andThen], by simp⟩
  | cons x es =>
    have : (Instr.findKey k (pk a) (x :: es)).run P w = (Instr.findAsking k (pk a) (x :: es)).run P w := by
      have hn : Instr.findNow (.pointer te) (pk a) (x :: es) 0 = none := by
        simp [Instr.findNow, Instr.sameNow]
      simp [Instr.findKey, run_underlying T.hk, hn, Result.andThen]
    rw [this]
    simpa using T.asking ha (x :: es) 0 h
theorem PmT.check (T : PmT P t k e te) (em : Bool) (w : World) : (Instr.checkKey em 10000 k (pk a)).run P w = .ok () w := by
  have h : ∀ d : Nat, (Instr.checkKey em (d + 1) k (pk a)).run P w = .ok () w := fun d => by cases a <;> simp [pk, Instr.checkKey, run_underlying T.hk, Result.andThen]
  exact h 9999
/-- Block m is a map of these. -/
def PMap (w : World) (m : Nat) (f : Option Nat → Option Value) : Prop :=
  ∃ es clock, w.heap[m]? = some (.map es clock) ∧ Stamped es clock ∧ (∀ x ∈ es.toList, ∃ a, IsObj w a ∧ x.key = pk a ∧ f a = some x.val) ∧ ∀ a v, f a = some v → ∃ x ∈ es.toList, x.key = pk a ∧ x.val = v
theorem PMap.lt (h : PMap w m f) : m < w.heap.size := by obtain ⟨_, _, h1, -⟩ := h; exact lt_of_block h1
theorem PMap.keeps (h : PMap w m f) (hk : Keeps S w w') (hn : ¬ S m) (hS : ∀ b, f (some b) ≠ none → ¬ S b) : PMap w' m f := by
  obtain ⟨es, clock, h1, h2, h3, h4⟩ := h
  refine ⟨es, clock, hk.at h1 hn, h2, fun x hx => ?_, h4⟩
  obtain ⟨a, g1, g2, g3⟩ := h3 x hx
  exact ⟨a, g1.keeps hk (fun b hb => hS b (by rw [← hb, g3]; simp)), g2, g3⟩
theorem PMap.nb (h : PMap w m f) (hk : Keeps Nb w w') : PMap w' m f := h.keeps hk (fun e => e) (fun _ _ e => e)
theorem pmap_new (h : w.heap[m]? = some (.map #[] 0)) : PMap w m (fun _ => none) := ⟨#[], 0, h, stamped_empty 0, by simp, by simp⟩
theorem PMap.look (h : PMap w m f) (T : PmT P t k e te) {z : Value} (hz : (zeroValue e).run P w = .ok z w) (ha : IsObj w a) (c : Bool) :
    (Instr.lookup t (.map (some m)) (pk a) c).run P w = .ok (if c then .tuple #[(f a).getD z, .bool (f a).isSome] else (f a).getD z) w := by
  obtain ⟨es, clock, hb, hst, h3, h4⟩ := h
  rcases T.find ha es.toList (fun x hx => by obtain ⟨b, g1, g2, -⟩ := h3 x hx; exact ⟨b, g1, g2⟩) with ⟨h5, h6⟩ | ⟨j, x, h5, h6, h7⟩
  · have hf : f a = none := by
      cases hfl : f a with
      | none => rfl
      | some v => obtain ⟨x, hx, hk, -⟩ := h4 a v hfl; exact absurd hk (h6 x hx)
    simp [Instr.lookup, run_underlying T.ht, MapKept.run_getObj_map hb, T.check, h5, hz, Result.andThen, hf]
  · obtain ⟨b, -, g2, g3⟩ := h3 x (List.mem_of_getElem? h6)
    have hba : b = a := pk_inj (g2.symm.trans h7)
    subst hba
    simp [Instr.lookup, run_underlying T.ht, MapKept.run_getObj_map hb, T.check, h5, Result.andThen, g3]
def pput (f : Option Nat → Option Value) (a : Option Nat) (v : Value) : Option Nat → Option Value := fun x => if x = a then some v else f x
theorem same_pk (a : Option Nat) (w : World) : (Instr.keyThatStays (pk a) (pk a)).run P w = .ok (pk a) w := by
  cases a <;> simp [Instr.keyThatStays, pk, Instr.sameBits]
theorem PMap.put (h : PMap w m f) (T : PmT P t k e te) (ha : IsObj w a) (v : Value) :
    ∃ w', (Instr.mapUpdate t (.map (some m)) (pk a) v).run P w = .ok () w' ∧ PMap w' m (pput f a v) ∧ Keeps (· = m) w w' := by
  obtain ⟨es, clock, hb, hst, h3, h4⟩ := h
  have hrow : ∀ {b : Option Nat} {o : Obj}, IsObj w b → IsObj (setBlock w m o) b := fun {b o} h => h.keeps (keeps_setBlock2 hb o) (fun c hc e => by
    obtain ⟨cc, tt, h1⟩ := h c hc
    subst e
    rw [hb] at h1; cases h1)
  rcases T.find ha es.toList (fun x hx => by obtain ⟨b, g1, g2, -⟩ := h3 x hx; exact ⟨b, g1, g2⟩) with ⟨h5, h6⟩ | ⟨j, x, h5, h6, h7⟩
  · refine ⟨setBlock w m (.map (es.push ⟨pk a, v, clock⟩) (clock + 1)), ?_, ⟨_, _, heap_setBlock_same hb _, stamped_push hst h6, ?_, ?_⟩, keeps_setBlock2 hb _⟩
    · simp [Instr.mapUpdate, run_underlying T.ht, MapKept.run_getObj_map hb, T.check, h5, Result.andThen, MapKept.run_setObj_map _ hb, setBlock]
    · intro y hy
      rw [Array.toList_push, List.mem_append, List.mem_singleton] at hy
      rcases hy with hy | rfl
      · obtain ⟨b, g1, g2, g3⟩ := h3 y hy
        refine ⟨b, hrow g1, g2, ?_⟩
        unfold pput
        rw [if_neg (fun hba => h6 y hy (by rw [g2, hba]))]
        exact g3
      · exact ⟨a, hrow ha, rfl, by simp [pput]⟩
    · intro b v' hv
      unfold pput at hv
      rw [Array.toList_push]
      split at hv
      · rename_i e; subst e; cases hv; exact ⟨_, List.mem_append.2 (.inr (List.mem_singleton.2 rfl)), rfl, rfl⟩
      · obtain ⟨y, hy, g⟩ := h4 b v' hv
        exact ⟨y, List.mem_append.2 (.inl hy), g⟩
  · have hj : es[j]? = some x := by simpa using h6
    refine ⟨setBlock w m (.map (es.modify j fun e => { e with key := pk a, val := v }) clock), ?_, ⟨_, _, heap_setBlock_same hb _, ?_, ?_, ?_⟩, keeps_setBlock2 hb _⟩
    · simp [Instr.mapUpdate, run_underlying T.ht, MapKept.run_getObj_map hb, T.check, h5, Result.andThen, hj, h7, same_pk, MapKept.run_setObj_map _ hb, setBlock]
    · refine stamped_modify hst _ _ (fun _ _ => rfl) (fun y hy hyj => ?_)
      rw [hj] at hyj; cases hyj; exact h7.symm
    · have hs2 : (es.modify j fun e => { e with key := pk a, val := v }).toList = es.toList.set j { x with key := pk a, val := v } := by rw [Array.toList_modify, modify_eq_set _ _ _ _ h6]
      rw [hs2]
      intro y hy
      obtain ⟨i, hi⟩ := List.mem_iff_getElem?.1 hy
      rw [List.getElem?_set] at hi
      split at hi
      · split at hi
        · cases hi; exact ⟨a, hrow ha, rfl, by simp [pput]⟩
        · cases hi
      · rename_i hji
        have hyin := List.mem_of_getElem? hi
        obtain ⟨b, g1, g2, g3⟩ := h3 y hyin
        refine ⟨b, hrow g1, g2, ?_⟩
        unfold pput
        rw [if_neg (fun hba => hji (nodup_at hst.2.2 (i := j) (j := i) (x := x.key) (by rw [List.getElem?_map, h6]; rfl) (by rw [List.getElem?_map, hi]; simp [g2, hba, h7])))]
        exact g3
    · have hs2 : (es.modify j fun e => { e with key := pk a, val := v }).toList = es.toList.set j { x with key := pk a, val := v } := by rw [Array.toList_modify, modify_eq_set _ _ _ _ h6]
      rw [hs2]
      intro b v' hv
      have hjl := (List.getElem?_eq_some_iff.1 h6).1
      unfold pput at hv
      split at hv
      · rename_i e; subst e; cases hv
        exact ⟨_, List.mem_of_getElem? (i := j) (by rw [List.getElem?_set_self hjl]), rfl, rfl⟩
      · rename_i hne
        obtain ⟨y, hy, g1, g2⟩ := h4 b v' hv
        obtain ⟨i, hi⟩ := List.mem_iff_getElem?.1 hy
        have hij : j ≠ i := by rintro rfl; rw [h6] at hi; cases hi; exact hne (pk_inj (g1.symm.trans h7))
        exact ⟨y, List.mem_of_getElem? (i := i) (by rw [List.getElem?_set_ne hij]; exact hi), g1, g2⟩
/-! The operations' runs. -/
section
variable {dst : Option Tmp} {s x y : Operand} {ty : TypeId} {pos : String} {aft : Array Edge} {gd : Option (Nat × Bool)} {ac : Act}
theorem rn_plook {z : Value} {c : Bool} (h : PMap w m f) (T : PmT P t k e te) (hz : (zeroValue e).run P w = .ok z w) (hs : ac.eval s = .map (some m)) (hx : ac.eval x = pk a) (ha : IsObj w a) :
    (execOp ac.eval ⟨dst, .lookup t s x c, ty, pos, aft, gd⟩).run P w = .ok (.value (if c then .tuple #[(f a).getD z, .bool (f a).isSome] else (f a).getD z)) w := by
  unfold execOp
  simp only [hs, hx, Sem.run_bind, h.look T hz ha, Result.andThen_ok, Sem.run_pure]
theorem re_pput {v : Value} (h : PMap w m f) (T : PmT P t k e te) (hs : ac.eval s = .map (some m)) (hx : ac.eval x = pk a) (hy : ac.eval y = v) (ha : IsObj w a) :
    ∃ w', (execOp ac.eval ⟨dst, .mapUpdate t s x y, ty, pos, aft, gd⟩).run P w = .ok .skip w' ∧ PMap w' m (pput f a v) ∧ Keeps (· = m) w w' := by
  obtain ⟨w', h1, h2⟩ := h.put T ha v
  refine ⟨w', ?_, h2⟩
  unfold execOp
  simp only [hs, hx, hy, Sem.run_bind, h1, Result.andThen_ok, Sem.run_pure]
end
end Go.Lk
