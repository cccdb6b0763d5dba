/- A region that draws its order, in two phases: in the first (the operations below k) what only reads may be taken first, under a condition S that each of its operations keeps; all of the second wait for all of the first. (After the kit's OrdersHeld, which has one phase.) -/
import Derived.Test.YtgpecnihjjnkeaaRows3
import Derived.OrdersHeld
import Derived.Deep.DrawnRows
namespace Go.Lk
open Go.RowKit
set_option linter.unusedVariables false
section
variable {P : Program} {ops : Array Oper} {Q : Exit → Act → World → Prop} {md : Region.Mode} {S : World → Prop} {k : Nat}

def stopK (k : Nat) (L : Array Bool) : Bool := (List.range k).all fun j => L.getD j true
theorem stopK_not {L : Array Bool} {j : Nat} (hj : j < k) (h : L.getD j true = false) : ¬ stopK k L = true := by
  intro hs
  unfold stopK at hs
  have := List.all_eq_true.1 hs j (List.mem_range.2 hj)
  rw [h] at this
  cases this

def wpAnyT (P : Program) (md : Region.Mode) (ops : Array Oper) (Q : Exit → Act → World → Prop) (S : World → Prop) (k : Nat) : Nat → Array Bool → Act → World → Prop
  | 0, L, a, w => wpAny P md ops Q 0 L a w
  | fuel + 1, L, a, w => if stopK k L = true then wpAny P md ops Q (fuel + 1) L a w else
    (Region.ready md ops L = [] → Q .normal a w) ∧ ∀ i ∈ Region.ready md ops L, wpOp P ops Q i (fun a' w' => S w' ∧ wpAnyT P md ops Q S k fuel (L.setIfInBounds i true) a' w') a w
theorem wpAny_of_T : ∀ (fuel : Nat) (L : Array Bool) (a : Act) (w : World), wpAnyT P md ops Q S k fuel L a w → wpAny P md ops Q fuel L a w
  | 0, _, _, _, h => h
  | fuel + 1, L, a, w, h => by
    unfold wpAnyT at h
    split at h
    · exact h
    · exact ⟨h.1, fun i hi => wpOp_mono (fun a' w' h' => wpAny_of_T fuel _ a' w' h'.2) (h.2 i hi)⟩

theorem wpAnyT_first {i : Nat} {oi : Oper} {v : Value} (hi : ops[i]? = some oi) (hik : i < k) (hdep : ∀ j oj, ops[j]? = some oj → k ≤ j → ∃ e ∈ oj.after, Region.binds md e = true ∧ e.on = i)
    (hsel : ∀ (j : Nat) (o : Oper) cs b, ops[j]? = some o → o.op ≠ .select cs b) (hQ : ∀ c a w, Q (.panic c) (a.put oi.dst v) w → Q (.panic c) a w) :
    ∀ (fuel : Nat) (L : Array Bool) (a : Act) (w : World),
      (∀ j oj, ops[j]? = some oj → j ≠ i → L.getD j true = false → (∀ e ∈ oj.after, Region.binds md e = true → e.on ≠ i) → oi.apart ops oj = true) →
      i ∈ Region.ready md ops L → YieldsIf P ops S oi v a → S w →
      wpAnyT P md ops Q S k fuel (L.setIfInBounds i true) (a.put oi.dst v) w → wpAnyT P md ops Q S k (fuel + 1) L a w := by
  intro fuel
  induction fuel with
  | zero =>
    intro L a w _ hr hy hS H
    unfold wpAnyT
    rw [if_neg (stopK_not hik (mem_ready.1 hr).1)]
    refine ⟨fun h => (by rw [h] at hr; cases hr), fun j hj => ?_⟩
    by_cases hji : j = i
    · subst hji; exact hy.wpOp hi hS ⟨hS, H⟩
    · have := ready_mono hj hji
      have H' : wpAny P md ops Q 0 (L.setIfInBounds i true) (a.put oi.dst v) w := H
      rw [H'.1] at this
      cases this
  | succ fuel ih =>
    intro L a w hfree hr hy hS H
    unfold wpAnyT
    rw [if_neg (stopK_not hik (mem_ready.1 hr).1)]
    refine ⟨fun h => (by rw [h] at hr; cases hr), fun j hj => ?_⟩
    by_cases hji : j = i
    · subst hji; exact hy.wpOp hi hS ⟨hS, H⟩
    · obtain ⟨hjun, oj, hoj, hall⟩ := mem_ready.1 hj
      have hiun : L.getD i false = false := by
        have h0 := (mem_ready.1 hr).1
        rcases Nat.lt_or_ge i L.size with h' | h'
        · simp [h'] at h0 ⊢; exact h0
        · simp [Array.getElem?_eq_none h'] at h0
      have hnot : ∀ e ∈ oj.after, Region.binds md e = true → e.on ≠ i := fun e he hb heq => by
        have h1 := hall e he hb
        rw [heq, hiun] at h1
        cases h1
      have hjk : j < k := by
        rcases Nat.lt_or_ge j k with h | h
        · exact h
        · obtain ⟨e, he, hb, heq⟩ := hdep j oj hoj h
          exact absurd heq (hnot e he hb)
      have hns : ¬ stopK k (L.setIfInBounds i true) = true := stopK_not hjk (by rw [getD_set_ne true (Ne.symm hji)]; exact hjun)
      unfold wpAnyT at H
      rw [if_neg hns] at H
      have h1 := H.2 j (ready_mono hj hji)
      have h2 := wpOp_putIf hoj (hfree j oj hoj hji hjun hnot) (fun cs b => hsel i oi cs b hi) (fun cs b => hsel j oj cs b hoj) hQ hy h1
      have hfree' : ∀ k' ok, ops[k']? = some ok → k' ≠ i → (L.setIfInBounds j true).getD k' true = false →
          (∀ e ∈ ok.after, Region.binds md e = true → e.on ≠ i) → oi.apart ops ok = true := fun k' ok hk hki hun hno => by
        refine hfree k' ok hk hki ?_ hno
        by_cases hjk : j = k'
        · subst hjk; exact hjun
        · rw [getD_set_ne true hjk] at hun; exact hun
      refine wpOp_mono (fun a' w' h3 => ⟨h3.2.1, ih (L.setIfInBounds j true) a' w' hfree' (ready_mono hr (Ne.symm hji)) h3.1 h3.2.1 ?_⟩) h2
      rw [Array.setIfInBounds_comm _ _ hji]
      exact h3.2.2

/-- Do all from k on wait for i? -/
def waitB (md : Region.Mode) (ops : Array Oper) (k i : Nat) : Bool := (ops.toList.drop k).all fun o => o.after.any fun e => Region.binds md e && (e.on == i)
theorem waitB_spec {i : Nat} (h : waitB md ops k i = true) (j : Nat) (oj : Oper) (hj : ops[j]? = some oj) (hk : k ≤ j) : ∃ e ∈ oj.after, Region.binds md e = true ∧ e.on = i := by
  unfold waitB at h
  have hm : oj ∈ ops.toList.drop k := by
    rw [← Array.getElem?_toList] at hj
    refine List.mem_of_getElem? (i := j - k) ?_
    rw [List.getElem?_drop, show k + (j - k) = j by omega]; exact hj
  have := List.all_eq_true.1 h oj hm
  rw [Array.any_eq_true] at this
  obtain ⟨x, hx, h2⟩ := this
  simp only [Bool.and_eq_true, beq_iff_eq] at h2
  exact ⟨_, Array.getElem_mem hx, h2.1, h2.2⟩

/- (Structures, not definitions: Lean lays open a definition that it elaborates a term against.) -/
/-- What has come up once the first m of a plan have. -/
def Lst (n : Nat) (plan : List Nat) (m : Nat) : Array Bool := (plan.take m).foldl (fun L i => L.setIfInBounds i true) (Array.replicate n false)
theorem Lst_succ {n m i : Nat} {plan : List Nat} (h : plan[m]? = some i) : Lst n plan (m + 1) = (Lst n plan m).setIfInBounds i true := by
  obtain ⟨hm, h⟩ := List.getElem?_eq_some_iff.1 h
  unfold Lst
  rw [List.take_succ_eq_append_getElem hm, List.foldl_append, h]
  rfl
/-- The first phase, the first m of the plan being done. -/
structure WT (P : Program) (ops : Array Oper) (Q : Exit → Act → World → Prop) (S : World → Prop) (k n : Nat) (plan : List Nat) (m : Nat) (a : Act) (w : World) : Prop where
  h : wpAnyT P .any ops Q S k (n - m) (Lst n plan m) a w
/-- The second phase. -/
structure WP (P : Program) (ops : Array Oper) (Q : Exit → Act → World → Prop) (n : Nat) (plan : List Nat) (m : Nat) (a : Act) (w : World) : Prop where
  h : wpAny P .any ops Q (n - m) (Lst n plan m) a w
def mayTake (ops : Array Oper) (k n : Nat) (plan : List Nat) (m i : Nat) : Bool :=
  decide (m < n) && (plan[m]? == some i) && (decide (i < k) && waitB .any ops k i && (Region.noSelect ops && (Region.free .any ops (Lst n plan m) i && (Region.ready .any ops (Lst n plan m)).contains i)))
def mayOnly (ops : Array Oper) (k n : Nat) (plan : List Nat) (m i : Nat) : Bool :=
  decide (m < n) && (plan[m]? == some i) && ((Region.ready .any ops (Lst n plan m) == [i]) && !stopK k (Lst n plan m))
def mayOnlyP (ops : Array Oper) (n : Nat) (plan : List Nat) (m i : Nat) : Bool :=
  decide (m < n) && (plan[m]? == some i) && (Region.ready .any ops (Lst n plan m) == [i])
variable {n m : Nat} {plan : List Nat}

theorem WT.yields (i : Nat) {oi : Oper} {v : Value} {a : Act} {w : World} (hi : ops[i]? = some oi) (hok : mayTake ops k n plan m i = true) (hQ : ∀ c a w, Q (.panic c) (a.put oi.dst v) w → Q (.panic c) a w)
    (hy : YieldsIf P ops S oi v a) (hS : S w) (h : WT P ops Q S k n plan (m + 1) (a.put oi.dst v) w) : WT P ops Q S k n plan m a w := by
  unfold mayTake at hok
  simp only [Bool.and_eq_true, decide_eq_true_eq, beq_iff_eq] at hok
  obtain ⟨⟨h0, hp⟩, ⟨h1, h2⟩, h3, h4, h5⟩ := hok
  have h := h.h
  rw [Lst_succ hp] at h
  refine ⟨?_⟩
  rw [show n - m = (n - (m + 1)) + 1 by omega]
  exact wpAnyT_first hi h1 (waitB_spec h2) (Region.noSelect_spec h3) hQ _ _ a w (Region.free_spec hi h4) (by simpa using h5) hy hS h
theorem WT.take (i : Nat) {oi : Oper} {v : Value} {a : Act} {w : World} (hi : ops[i]? = some oi) (hok : mayTake ops k n plan m i = true) (hQ : ∀ c a w, Q (.panic c) (a.put oi.dst v) w → Q (.panic c) a w)
    (hw : Region.wanted oi (yielded ops a.tmps) = true) (hy : ∀ w, S w → (execOp a.eval oi).run P w = .ok (.value v) w) (hS : S w) (h : WT P ops Q S k n plan (m + 1) (a.put oi.dst v) w) : WT P ops Q S k n plan m a w :=
  WT.yields i hi hok hQ (.inl ⟨hw, hy⟩) hS h
/-- A guarded operation that is passed over. -/
theorem WT.skip (i : Nat) {oi : Oper} {a : Act} {w : World} (hi : ops[i]? = some oi) (hok : mayTake ops k n plan m i = true) (hQ : ∀ c a w, Q (.panic c) (a.put oi.dst undef) w → Q (.panic c) a w)
    (hw : Region.wanted oi (yielded ops a.tmps) = false) (hS : S w) (h : WT P ops Q S k n plan (m + 1) (a.put oi.dst undef) w) : WT P ops Q S k n plan m a w :=
  WT.yields i hi hok hQ (.inr ⟨hw, rfl⟩) hS h

/-- One alone may come up. -/
theorem WT.one (i : Nat) {oi : Oper} {a : Act} {w : World} (hi : ops[i]? = some oi) (hok : mayOnly ops k n plan m i = true) (hw : Region.wanted oi (yielded ops a.tmps) = true)
    (h : oi.wp P a w (fun a' w' => S w' ∧ WT P ops Q S k n plan (m + 1) a' w') Q) : WT P ops Q S k n plan m a w := by
  unfold mayOnly at hok
  simp only [Bool.and_eq_true, decide_eq_true_eq, beq_iff_eq, Bool.not_eq_true'] at hok
  obtain ⟨⟨h0, hp⟩, hr, hk⟩ := hok
  have h' : oi.wp P a w (fun a' w' => S w' ∧ wpAnyT P .any ops Q S k (n - (m + 1)) ((Lst n plan m).setIfInBounds i true) a' w') Q := Oper.wp_mono (fun a' w' hh => ⟨hh.1, Lst_succ hp ▸ hh.2.h⟩) h
  refine ⟨?_⟩
  rw [show n - m = (n - (m + 1)) + 1 by omega]
  unfold wpAnyT
  rw [if_neg (by rw [hk]; exact Bool.false_ne_true)]
  refine ⟨fun h0 => (by rw [hr] at h0; cases h0), fun j hj => ?_⟩
  rw [hr] at hj
  have e : j = i := by simpa using hj
  subst e
  unfold wpOp
  simp only [hi, hw, if_true]
  exact .inl h'
theorem WT.only (i : Nat) {oi : Oper} {v : Value} {a : Act} {w w' : World} (hi : ops[i]? = some oi) (hok : mayOnly ops k n plan m i = true) (hw : Region.wanted oi (yielded ops a.tmps) = true)
    (hy : (execOp a.eval oi).run P w = .ok (.value v) w') (hS : S w') (h : WT P ops Q S k n plan (m + 1) (a.put oi.dst v) w') : WT P ops Q S k n plan m a w :=
  WT.one i hi hok hw (by unfold Oper.wp; rw [hy]; exact ⟨hS, h⟩)
theorem WT.call (i : Nat) {oi : Oper} {f : FuncId} {args : Array Value} {a : Act} {w w' : World} {R : Ending → World → Prop} (hi : ops[i]? = some oi) (hok : mayOnly ops k n plan m i = true) (hw : Region.wanted oi (yielded ops a.tmps) = true)
    (hy : (execOp a.eval oi).run P w = .ok (.enter f args) w') (hc : Calls P f args w' R) (h : ∀ e w'', R e w'' → ∃ v, e = .returned v ∧ S w'' ∧ WT P ops Q S k n plan (m + 1) (a.put oi.dst v) w'') : WT P ops Q S k n plan m a w :=
  WT.one i hi hok hw (by unfold Oper.wp; rw [hy]; exact hc.mono fun e w'' hR => by obtain ⟨v, rfl, h1, h2⟩ := h e w'' hR; exact ⟨h1, h2⟩)
/-- .. and what comes of it is told by Φ. -/
theorem WT.onlyE (i : Nat) {oi : Oper} {Φ : Value → World → Prop} {a : Act} {w : World} (hi : ops[i]? = some oi) (hok : mayOnly ops k n plan m i = true) (hw : Region.wanted oi (yielded ops a.tmps) = true)
    (hy : ∃ v w', (execOp a.eval oi).run P w = .ok (.value v) w' ∧ Φ v w') (h : ∀ v w', Φ v w' → S w' ∧ WT P ops Q S k n plan (m + 1) (a.put oi.dst v) w') : WT P ops Q S k n plan m a w := by
  obtain ⟨v, w', h1, h2⟩ := hy
  exact WT.only i hi hok hw h1 (h v w' h2).1 (h v w' h2).2
theorem WT.onlySkipE (i : Nat) {oi : Oper} {Φ : World → Prop} {a : Act} {w : World} (hi : ops[i]? = some oi) (hok : mayOnly ops k n plan m i = true) (hw : Region.wanted oi (yielded ops a.tmps) = true)
    (hy : ∃ w', (execOp a.eval oi).run P w = .ok .skip w' ∧ Φ w') (h : ∀ w', Φ w' → S w' ∧ WT P ops Q S k n plan (m + 1) (a.put oi.dst undef) w') : WT P ops Q S k n plan m a w := by
  obtain ⟨w', h1, h2⟩ := hy
  exact WT.one i hi hok hw (by unfold Oper.wp; rw [h1]; exact h w' h2)
/-- The first phase is over. -/
theorem WT.stop {a : Act} {w : World} (hk : stopK k (Lst n plan m) = true) (h : WP P ops Q n plan m a w) : WT P ops Q S k n plan m a w := by
  have h := h.h
  refine ⟨?_⟩
  generalize n - m = fuel at *
  rcases fuel with _ | fuel
  · exact h
  · unfold wpAnyT; rw [if_pos hk]; exact h
theorem WT.region {id : Nat} {a : Act} {w : World} (S : World → Prop) (k n : Nat) (plan : List Nat) (hm : P.follows .mixedOrders = true) (hn : ops.size = n) (h : WT P ops Q S k n plan 0 a w.drew) : (Code.region id ops true).wp P Q a w := by
  subst hn
  exact wp_region_any hm (wpAny_of_T _ _ _ _ h.h)
/-- The second phase: one after the other. -/
theorem WP.one (i : Nat) {oi : Oper} {a : Act} {w : World} (hi : ops[i]? = some oi) (hok : mayOnlyP ops n plan m i = true) (hw : Region.wanted oi (yielded ops a.tmps) = true)
    (h : oi.wp P a w (fun a' w' => WP P ops Q n plan (m + 1) a' w') Q) : WP P ops Q n plan m a w := by
  unfold mayOnlyP at hok
  simp only [Bool.and_eq_true, decide_eq_true_eq, beq_iff_eq] at hok
  obtain ⟨⟨h0, hp⟩, hr⟩ := hok
  have h' : oi.wp P a w (fun a' w' => wpAny P .any ops Q (n - (m + 1)) ((Lst n plan m).setIfInBounds i true) a' w') Q := Oper.wp_mono (fun a' w' hh => Lst_succ hp ▸ hh.h) h
  refine ⟨?_⟩
  rw [show n - m = (n - (m + 1)) + 1 by omega]
  refine ⟨fun h0 => (by rw [hr] at h0; cases h0), fun j hj => ?_⟩
  rw [hr] at hj
  have e : j = i := by simpa using hj
  subst e
  unfold wpOp
  simp only [hi, hw, if_true]
  exact .inl h'
theorem WP.only (i : Nat) {oi : Oper} {v : Value} {a : Act} {w w' : World} (hi : ops[i]? = some oi) (hok : mayOnlyP ops n plan m i = true) (hw : Region.wanted oi (yielded ops a.tmps) = true)
    (hy : (execOp a.eval oi).run P w = .ok (.value v) w') (h : WP P ops Q n plan (m + 1) (a.put oi.dst v) w') : WP P ops Q n plan m a w :=
  WP.one i hi hok hw (by unfold Oper.wp; rw [hy]; exact h)
theorem WP.onlyE (i : Nat) {oi : Oper} {Φ : Value → World → Prop} {a : Act} {w : World} (hi : ops[i]? = some oi) (hok : mayOnlyP ops n plan m i = true) (hw : Region.wanted oi (yielded ops a.tmps) = true)
    (hy : ∃ v w', (execOp a.eval oi).run P w = .ok (.value v) w' ∧ Φ v w') (h : ∀ v w', Φ v w' → WP P ops Q n plan (m + 1) (a.put oi.dst v) w') : WP P ops Q n plan m a w := by
  obtain ⟨v, w', h1, h2⟩ := hy
  exact WP.only i hi hok hw h1 (h v w' h2)
theorem WP.onlySkipE (i : Nat) {oi : Oper} {Φ : World → Prop} {a : Act} {w : World} (hi : ops[i]? = some oi) (hok : mayOnlyP ops n plan m i = true) (hw : Region.wanted oi (yielded ops a.tmps) = true)
    (hy : ∃ w', (execOp a.eval oi).run P w = .ok .skip w' ∧ Φ w') (h : ∀ w', Φ w' → WP P ops Q n plan (m + 1) (a.put oi.dst undef) w') : WP P ops Q n plan m a w := by
  obtain ⟨w', h1, h2⟩ := hy
  exact WP.one i hi hok hw (by unfold Oper.wp; rw [h1]; exact h w' h2)
theorem WP.done {a : Act} {w : World} (hr : (Region.ready .any ops (Lst n plan m) == []) = true) (h : Q .normal a w) : WP P ops Q n plan m a w := by
  refine ⟨?_⟩
  generalize n - m = fuel
  have hr' : Region.ready .any ops (Lst n plan m) = [] := by simpa using hr
  rcases fuel with _ | fuel
  · exact ⟨hr', h⟩
  · exact ⟨fun _ => h, by rw [hr']; simp⟩
end

/-! Runs of stores. -/
section
variable {P : Program} {w : World} {dst : Option Tmp} {s x : Operand} {t ty T : TypeId} {pos : String} {aft : Array Edge} {gd : Option (Nat × Bool)} {a : Act} {n g i : Nat} {cs ds : Array Value}
theorem rn_storeAll (A : AggT P t n) (hs : a.eval s = .pointer (some ⟨g, 0, none⟩)) (hx : a.eval x = .agg ds) (hg : w.heap[g]? = some (.cells cs T (0, 0))) (hd : ds.size = n) (hn : cs.size = n) (h1 : ∀ v ∈ ds.toList, v.oneCell' = true) :
    (execOp a.eval ⟨dst, .store t s x, ty, pos, aft, gd⟩).run P w = .ok .skip (w.setRow g ds) := by
  unfold execOp
  have := run_storeAgg (P := P) (w := w) (off := 0) A.size hg hd (by omega) h1
  rw [splice_all (by omega)] at this
  simp only [hs, hx, Instr.storeAt, Instr.sureAddr, Sem.run_bind, Sem.run_pure, Result.andThen_ok, this]
theorem rn_alloc {z : Value} (hz : (P.info? t).map (·.zero) = some (some z)) : (execOp a.eval ⟨dst, .alloc t, ty, pos, aft, gd⟩).run P w = .ok (.value (.pointer (some ⟨w.heap.size, 0, none⟩))) (w.alloc (.cells z.cells t)) := by
  obtain ⟨i, hi, h2⟩ := Option.map_eq_some_iff.1 hz
  unfold execOp
  simp only [Instr.alloc, zeroValue, typeInfo, newVar, newRow, Sem.run_bind, Sem.run_pure, Result.andThen_ok, Sem.run, newObj]
  simp [hi, h2]
/-- A store of a value, whatever it is, into a block that is known. -/
theorem rn_store {off : Nat} {v : Value} (A : (P.info? t).map (·.size) = some n) (hs : a.eval s = .pointer (some ⟨g, off, none⟩)) (hx : a.eval x = v) (hg : w.heap[g]? = some (.cells cs T (0, 0))) (hd : v.cells.size = n) (hn : off + n ≤ cs.size) (h1 : ∀ u ∈ v.cells.toList, u.oneCell' = true) :
    (execOp a.eval ⟨dst, .store t s x, ty, pos, aft, gd⟩).run P w = .ok .skip (w.setRow g (splice cs v.cells off)) := by
  obtain ⟨i, hi, h2⟩ := Option.map_eq_some_iff.1 A
  have hst := run_storeCells_at P g off T v.cells.toList 0 cs w hg (by simpa [hd] using hn) h1
  simp only [Nat.add_zero, Array.length_toList] at hst
  unfold execOp
  simp [hs, hx, Instr.storeAt, Instr.sureAddr, storeVar, Go.sizeOf, typeInfo, hi, h2, hd, hst, splice]
/-- A scalar load. -/
theorem rn_load1 {off : Nat} {v : Value} (A : (P.underlying t).map (fun d => match d with | .struct _ | .array _ _ => true | _ => false) = some false) (hx : a.eval x = .pointer (some ⟨g, off, none⟩)) (hc : w.cell? ⟨g, off, none⟩ = some v) :
    (execOp a.eval ⟨dst, .load t x, ty, pos, aft, gd⟩).run P w = .ok (.value v) w := by
  obtain ⟨d, hd, h2⟩ := Option.map_eq_some_iff.1 A
  have hagg : (Go.isAgg t).run P w = .ok false w := by
    unfold Go.isAgg
    rw [Sem.run_bind, run_underlying hd w]
    cases d <;> simp_all
  unfold execOp
  simp [hx, Instr.loadAt, Instr.sureAddr, loadVar, Sem.run_bind, hagg, hc]
theorem rn_mapEntry {k e : TypeId} {ks : List IntKind} {f : List Int → Option Value} {b : Nat} {z : Value} {l : List Int} (h : MapAt ks w b f) (K : KeyK P k ks) (ht : P.underlying t = some (.map k e)) (hz : (zeroValue e).run P w = .ok z w)
    (hs : a.eval s = .map (some b)) (hx : a.eval x = kv ks l) (hl : Fits ks l) :
    ∃ v m w', (execOp a.eval ⟨dst, .mapEntry t s x, ty, pos, aft, gd⟩).run P w = .ok (.value (.tuple #[v, .int .i64 (m : Nat)])) w' ∧ MapMid ks w' b f l m ∧ Keeps (· = b) w w' := by
  obtain ⟨v, m, w', h1, h2, h3⟩ := h.entry K ht hz hl
  refine ⟨v, m, w', ?_, h2, h3⟩
  unfold execOp
  simp only [hs, hx, Sem.run_bind, h1, Result.andThen_ok, Sem.run_pure]
theorem rn_entryStore {y : Operand} {ks : List IntKind} {f : List Int → Option Value} {b m : Nat} {l : List Int} {v : Value} (h : MapMid ks w b f l m) (hs : a.eval s = .map (some b)) (hx : a.eval x = .int .i64 (m : Nat)) (hy : a.eval y = v) (hl : Fits ks l) :
    ∃ w', (execOp a.eval ⟨dst, .entryStore t s x y, ty, pos, aft, gd⟩).run P w = .ok .skip w' ∧ MapAt ks w' b (fun l' => if l' = l then some v else f l') ∧ Keeps (· = b) w w' := by
  obtain ⟨w', h1, h2, h3⟩ := h.store (P := P) hl t v
  refine ⟨w', ?_, h2, h3⟩
  unfold execOp
  simp only [hs, hx, hy, Sem.run_bind, h1, Result.andThen_ok, Sem.run_pure]
theorem rn_b1 {u v : Value} (hx : a.eval x = u) (h : (Instr.build t #[(0, u)]).run P w = .ok v w) : (execOp a.eval ⟨dst, .build t #[(0, x)], ty, pos, aft, gd⟩).run P w = .ok (.value v) w := by
  unfold execOp
  simp [Sem.run_bind, hx, h, Result.andThen_ok]
theorem rn_b3 {y z : Operand} {u1 u2 u3 v : Value} (hx : a.eval x = u1) (hy : a.eval y = u2) (hz : a.eval z = u3) (h : (Instr.build t #[(0, u1), (1, u2), (2, u3)]).run P w = .ok v w) :
    (execOp a.eval ⟨dst, .build t #[(0, x), (1, y), (2, z)], ty, pos, aft, gd⟩).run P w = .ok (.value v) w := by
  unfold execOp
  simp [Sem.run_bind, hx, hy, hz, h, Result.andThen_ok]
/-- What these runs come to, the world a variable. -/
def IsNew (w : World) (o : Obj) (v : Value) (w' : World) : Prop := ∃ g, v = .pointer (some ⟨g, 0, none⟩) ∧ NewAt w w' g o
theorem re_alloc {z : Value} (hz : (P.info? t).map (·.zero) = some (some z)) : ∃ v w', (execOp a.eval ⟨dst, .alloc t, ty, pos, aft, gd⟩).run P w = .ok (.value v) w' ∧ IsNew w (.cells z.cells t) v w' :=
  ⟨_, _, rn_alloc hz, _, rfl, newAt _ _⟩
theorem re_store {off : Nat} {v : Value} (A : (P.info? t).map (·.size) = some n) (hs : a.eval s = .pointer (some ⟨g, off, none⟩)) (hx : a.eval x = v) (hg : w.heap[g]? = some (.cells cs T (0, 0))) (hd : v.cells.size = n) (hn : off + n ≤ cs.size) (h1 : ∀ u ∈ v.cells.toList, u.oneCell' = true) :
    ∃ w', (execOp a.eval ⟨dst, .store t s x, ty, pos, aft, gd⟩).run P w = .ok .skip w' ∧ SetAt w w' g (.cells (splice cs v.cells off) T (0, 0)) := ⟨_, rn_store A hs hx hg hd hn h1, setRow_at hg⟩
def IsRowNew (w : World) (m : Nat) (o : Obj) (v : Value) (w' : World) : Prop := ∃ g, v = .slice (some ⟨g, 0, none⟩) m m ∧ NewAt w w' g o
theorem re_buildSlice {e : TypeId} {size bytes : Nat} {z : Value} (E : ElemT P t e size bytes z) {m : Nat} {parts : Array (Nat × Operand)} (vs : List Value) (hm : m = vs.length) (hp : (parts.map fun (i, x) => (i, a.eval x)).toList = (List.range' 0 vs.length).zip vs) (hs : ∀ v ∈ vs, v.cells.size = size)
    (hn : vs.length * size ≤ 16777216) : ∃ v w', (execOp a.eval ⟨dst, .buildSlice t m parts, ty, pos, aft, gd⟩).run P w = .ok (.value v) w' ∧ IsRowNew w m (.cells (vs.flatMap (·.cells.toList)).toArray e) v w' :=
  ⟨_, _, rn_buildSlice E vs hm hp hs hn, _, rfl, newAt _ _⟩
theorem re_buildSlice1 {e : TypeId} {size bytes : Nat} {z v : Value} (E : ElemT P t e size bytes z) (hx : a.eval x = v) (hs : v.cells.size = size) (hn : size ≤ 16777216) :
    ∃ v' w', (execOp a.eval ⟨dst, .buildSlice t 1 #[(0, x)], ty, pos, aft, gd⟩).run P w = .ok (.value v') w' ∧ IsRowNew w 1 (.cells v.cells e) v' w' := by
  have := re_buildSlice (P := P) (w := w) (dst := dst) (ty := ty) (pos := pos) (aft := aft) (gd := gd) (a := a) (m := 1) (parts := #[(0, x)]) E [v] rfl (by simp [hx, List.range']) (by simpa using hs) (by simpa using hn)
  simpa using this
def IsPush (F R : Nat → Prop) (e size : Nat) (n : Nat) (xs : List Value) (w : World) (v : Value) (w' : World) : Prop := RowS w' (Up F w w') R e size v n xs ∧ ∃ S, Keeps S w w' ∧ ∀ k, S k → F k ∧ IsT w e k
theorem re_push {F R : Nat → Prop} {e : TypeId} {size bytes : Nat} {z v : Value} (E : ElemT P t e size bytes z) {ad : Option Addr} {m c2 n : Nat} {xs news : List Value} (hv : RowS w F R e size v n xs) (hs : a.eval s = v) (hx : a.eval x = .slice ad m c2)
    (hsrc : Has w ad news) (hl : news.length = m * size) (h1 : ∀ u ∈ news, u.oneCell' = true) (hm : 0 < m) (h63 : n + m ≤ maxLen) (hbytes : (n + m) * bytes ≤ 140737488355328) :
    ∃ v' w', (execOp a.eval ⟨dst, .call ⟨.builtin .append, #[s, x], #[t, t]⟩, ty, pos, aft, gd⟩).run P w = .ok (.value v') w' ∧ IsPush F R e size (n + m) (xs ++ news) w v' w' := by
  obtain ⟨v', w', S, h2, h3, h4, h5⟩ := run_push (P := P) (c2 := c2) ty E hv hsrc hl h1 hm h63 hbytes
  exact ⟨v', w', rn_app hs hx h2, h3, S, h4, h5⟩
def IsMid (ks : List IntKind) (b : Nat) (f : List Int → Option Value) (l : List Int) (w : World) (v : Value) (w' : World) : Prop := ∃ x m, v = .tuple #[x, .int .i64 (m : Nat)] ∧ MapMid ks w' b f l m ∧ Keeps (· = b) w w'
theorem re_mapEntry {k e : TypeId} {ks : List IntKind} {f : List Int → Option Value} {b : Nat} {z : Value} {l : List Int} (h : MapAt ks w b f) (K : KeyK P k ks) (ht : P.underlying t = some (.map k e)) (hz : (zeroValue e).run P w = .ok z w)
    (hs : a.eval s = .map (some b)) (hx : a.eval x = kv ks l) (hl : Fits ks l) :
    ∃ v w', (execOp a.eval ⟨dst, .mapEntry t s x, ty, pos, aft, gd⟩).run P w = .ok (.value v) w' ∧ IsMid ks b f l w v w' := by
  obtain ⟨v, m, w', h1, h2, h3⟩ := rn_mapEntry (dst := dst) (ty := ty) (pos := pos) (aft := aft) (gd := gd) h K ht hz hs hx hl
  exact ⟨_, w', h1, v, m, rfl, h2, h3⟩
end
section
variable {P : Program} {ops : Array Oper} {rest : List Oper} {a : Act} {Q : Exit → Act → World → Prop} {w w' : World} {o : Oper}
theorem wpList_valE {Φ : Value → World → Prop} (hw : Region.wanted o (yielded ops a.tmps) = true) (hy : ∃ v w', (execOp a.eval o).run P w = .ok (.value v) w' ∧ Φ v w') (h : ∀ v w', Φ v w' → wpList P ops Q rest (a.put o.dst v) w') : wpList P ops Q (o :: rest) a w := by
  obtain ⟨v, w', h1, h2⟩ := hy
  exact wpList_val hw h1 (h v w' h2)
theorem wpList_skipE {Φ : World → Prop} (hw : Region.wanted o (yielded ops a.tmps) = true) (hy : ∃ w', (execOp a.eval o).run P w = .ok .skip w' ∧ Φ w') (h : ∀ w', Φ w' → wpList P ops Q rest (a.put o.dst undef) w') : wpList P ops Q (o :: rest) a w := by
  obtain ⟨w', h1, h2⟩ := hy
  refine wpList_step fun K hK => ?_
  rw [if_pos hw]
  unfold Oper.wp
  rw [h1]
  exact hK _ _ (h w' h2)
end
end Go.Lk
