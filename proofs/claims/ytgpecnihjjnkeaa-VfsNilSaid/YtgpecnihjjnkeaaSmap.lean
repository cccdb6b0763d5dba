/- Maps whose keys are strings, told by the list of their entries as they lie; how they are read, written, gone through. -/
import Derived.Test.YtgpecnihjjnkeaaRows3
import Derived.Maps.Keyed
import Derived.Maps.RangeRun
import Derived.StringKeys
namespace Go.Lk
open Go.RowKit Go.MapKept Go.ChangeMaps
open Go.Maps (Keyed string_keyed)
set_option linter.unusedVariables false
variable {P : Program} {t k e : TypeId} {S : Nat → Prop} {w w' : World} {m : Nat} {l : List (ByteArray × Value)}

/-- Block m is a map of these entries. -/
def SMap (w : World) (m : Nat) (l : List (ByteArray × Value)) : Prop :=
  ∃ es clock, w.heap[m]? = some (.map es clock) ∧ Stamped es clock ∧ es.toList.map (fun e => (e.key, e.val)) = l.map (fun p => (Value.string p.1, p.2)) ∧ ∀ p ∈ l, p.1.size ≤ maxLen
theorem SMap.lt (h : SMap w m l) : m < w.heap.size := by obtain ⟨_, _, h1, -⟩ := h; exact lt_of_block h1
theorem SMap.keeps (h : SMap w m l) (hk : Keeps S w w') (hn : ¬ S m) : SMap w' m l := by
  have hl := h.lt
  obtain ⟨es, clock, h1, h2⟩ := h
  exact ⟨es, clock, (hk.block m hl hn).trans h1, h2⟩
theorem SMap.nb (h : SMap w m l) (hk : Keeps Nb w w') : SMap w' m l := h.keeps hk (fun e => e)
theorem SMap.block (h : SMap w m l) (hk : w'.heap[m]? = w.heap[m]?) : SMap w' m l := by
  obtain ⟨es, clock, h1, h2⟩ := h
  exact ⟨es, clock, hk.trans h1, h2⟩
theorem smap_new (h : w.heap[m]? = some (.map #[] 0)) : SMap w m [] := ⟨#[], 0, h, stamped_empty 0, by simp, by simp⟩
/-- The names are told apart. -/
theorem SMap.nodup (h : SMap w m l) : (l.map Prod.fst).Nodup := by
  obtain ⟨es, clock, h1, h2, h3, h4⟩ := h
  have h5 : (es.toList.map (·.key)) = (l.map Prod.fst).map Value.string := by
    have := congrArg (List.map Prod.fst) h3
    simpa [List.map_map, Function.comp_def] using this
  have h6 := h2.2.2
  rw [h5] at h6
  exact List.Pairwise.of_map Value.string (fun a b hab e => hab (by rw [e])) h6
/-- What stands at a name. -/
def sget (l : List (ByteArray × Value)) (s : ByteArray) : Option Value := (l.find? fun p => decide (p.1 = s)).map Prod.snd
def shas (l : List (ByteArray × Value)) (s : ByteArray) : Bool := l.any fun p => decide (p.1 = s)
def sput (l : List (ByteArray × Value)) (s : ByteArray) (v : Value) : List (ByteArray × Value) := if shas l s then l.map fun p => if p.1 = s then (s, v) else p else l ++ [(s, v)]
def sdel (l : List (ByteArray × Value)) (s : ByteArray) : List (ByteArray × Value) := l.filter fun p => decide (p.1 ≠ s)
theorem sget_none {s : ByteArray} (h : ∀ p ∈ l, p.1 ≠ s) : sget l s = none := by
  unfold sget
  rw [List.find?_eq_none.2 (fun p hp => by simpa using h p hp)]; rfl
theorem sget_some {s : ByteArray} {v : Value} (hd : (l.map Prod.fst).Nodup) (h : (s, v) ∈ l) : sget l s = some v := by
  unfold sget
  induction l with
  | nil => cases h
  | cons p l ih =>
    rw [List.find?_cons]
    by_cases hp : p.1 = s
    · rcases List.mem_cons.1 h with rfl | h2
      · simp
      · simp only [List.map_cons, List.nodup_cons] at hd
        exact absurd (List.mem_map.2 ⟨_, h2, hp.symm⟩) hd.1
    · simp only [hp, decide_false]
      rcases List.mem_cons.1 h with rfl | h2
      · exact absurd rfl hp
      · exact ih (by simp only [List.map_cons, List.nodup_cons] at hd; exact hd.2) h2
section
variable {es : Array MapEntry}
/-- The entries and the list, place by place. -/
theorem ent_at (h3 : es.toList.map (fun e => (e.key, e.val)) = l.map (fun p => (Value.string p.1, p.2))) {j : Nat} {e0 : MapEntry} (hj : es.toList[j]? = some e0) : ∃ p, l[j]? = some p ∧ e0.key = .string p.1 ∧ e0.val = p.2 := by
  have := congrArg (fun x => x[j]?) h3
  simp only [List.getElem?_map, hj, Option.map_some] at this
  cases hl : l[j]? with
  | none => rw [hl] at this; cases this
  | some p =>
    rw [hl] at this
    simp only [Option.map_some, Option.some.injEq, Prod.mk.injEq] at this
    exact ⟨p, rfl, this.1, this.2⟩
theorem ent_of (h3 : es.toList.map (fun e => (e.key, e.val)) = l.map (fun p => (Value.string p.1, p.2))) {p : ByteArray × Value} (hp : p ∈ l) : ∃ e0 ∈ es.toList, e0.key = .string p.1 ∧ e0.val = p.2 := by
  have : (Value.string p.1, p.2) ∈ es.toList.map (fun e => (e.key, e.val)) := by rw [h3]; exact List.mem_map.2 ⟨p, hp, rfl⟩
  obtain ⟨e0, he, h4⟩ := List.mem_map.1 this
  simp only [Prod.mk.injEq] at h4
  exact ⟨e0, he, h4.1, h4.2⟩
theorem ent_len (h3 : es.toList.map (fun e => (e.key, e.val)) = l.map (fun p => (Value.string p.1, p.2))) : es.size = l.length := by
  have := congrArg List.length h3
  simpa using this
end
theorem keeps_setBlock2 {es : Array MapEntry} {clock : Nat} (hb : w.heap[m]? = some (.map es clock)) (o : Obj) : Keeps (· = m) w (setBlock w m o) :=
  ⟨rfl, rfl, rfl, by simp [setBlock], fun i hi hn => heap_setBlock_other hb o hn⟩
theorem nodup_at {α : Type} {l : List α} (h : l.Nodup) {i j : Nat} {x : α} (hi : l[i]? = some x) (hj : l[j]? = some x) : i = j := by
  obtain ⟨h1, e1⟩ := List.getElem?_eq_some_iff.1 hi
  obtain ⟨h2, e2⟩ := List.getElem?_eq_some_iff.1 hj
  have h3 := List.pairwise_iff_getElem.1 h
  rcases Nat.lt_trichotomy i j with hl | hl | hl
  · exact absurd (e1.trans e2.symm) (h3 i j h1 h2 hl)
  · exact hl
  · exact absurd (e2.trans e1.symm) (h3 j i h2 h1 hl)
theorem map_set (hd : (l.map Prod.fst).Nodup) {j : Nat} {p : ByteArray × Value} (hj : l[j]? = some p) (v : Value) : (l.map fun q => if q.1 = p.1 then (p.1, v) else q) = l.set j (p.1, v) := by
  apply List.ext_getElem?
  intro i
  rw [List.getElem?_map, List.getElem?_set]
  by_cases hij : j = i
  · subst hij
    rw [hj]
    simp [(List.getElem?_eq_some_iff.1 hj).1]
  · rw [if_neg hij]
    cases hi : l[i]? with
    | none => rfl
    | some q =>
      have : q.1 ≠ p.1 := fun e => hij (nodup_at hd (i := j) (j := i) (x := p.1) (by rw [List.getElem?_map, hj]; rfl) (by rw [List.getElem?_map, hi]; simp [e]))
      simp [this]
theorem filter_erase {p : ByteArray × Value} : ∀ {l : List (ByteArray × Value)} {j : Nat}, (l.map Prod.fst).Nodup → l[j]? = some p → l.filter (fun q => decide (q.1 ≠ p.1)) = l.eraseIdx j
  | [], j, _, h => by simp at h
  | q :: l, 0, hd, h => by
    simp at h; subst h
    simp only [List.map_cons, List.nodup_cons] at hd
    rw [List.filter_cons, List.eraseIdx_zero, List.tail_cons]
    simp only [ne_eq, not_true_eq_false, decide_false, Bool.false_eq_true, if_false]
    exact List.filter_eq_self.2 fun x hx => by
      have : x.1 ≠ q.1 := fun e => hd.1 (List.mem_map.2 ⟨x, hx, e⟩)
      simpa using this
  | q :: l, j + 1, hd, h => by
    have h' : l[j]? = some p := by simpa using h
    simp only [List.map_cons, List.nodup_cons] at hd
    have hne : q.1 ≠ p.1 := fun e => hd.1 (List.mem_map.2 ⟨p, List.mem_of_getElem? h', e.symm⟩)
    rw [List.filter_cons, List.eraseIdx_cons_succ, filter_erase hd.2 h']
    simp [hne]
/-- What is asked of the map's type. -/
structure SmT (P : Program) (t k e : TypeId) : Prop where
  ht : P.underlying t = some (.map k e)
  hk : P.underlying k = some .string
theorem SmT.key (T : SmT P t k e) {s : ByteArray} (hs : s.size ≤ maxLen) : ∃ kl, keyOf P k (.string s) = some kl := ⟨_, Go.WideMaps.keyOf_string_mk T.hk hs⟩
theorem SmT.find (T : SmT P t k e) {es : Array MapEntry} {clock : Nat} {s : ByteArray} (hs : s.size ≤ maxLen) (h3 : es.toList.map (fun e => (e.key, e.val)) = l.map (fun p => (Value.string p.1, p.2))) (h4 : ∀ p ∈ l, p.1.size ≤ maxLen) (w : World) :
    ((Instr.findKey k (.string s) es.toList).run P w = .ok none w ∧ (∀ x ∈ es.toList, x.key ≠ .string s) ∧ ∀ p ∈ l, p.1 ≠ s) ∨
    ∃ (j : Nat) (e0 : MapEntry) (p : ByteArray × Value), (Instr.findKey k (.string s) es.toList).run P w = .ok (some (j, e0.val)) w ∧ es.toList[j]? = some e0 ∧ e0.key = .string s ∧ l[j]? = some p ∧ p.1 = s ∧ p.2 = e0.val := by
  obtain ⟨kl, hkey⟩ := T.key hs
  rcases (string_keyed T.hk).find w hkey es.toList (fun x hx => by
      obtain ⟨j, hj⟩ := List.mem_iff_getElem?.1 hx
      obtain ⟨p, hp, h5, -⟩ := ent_at h3 hj
      rw [h5]
      exact T.key (h4 p (List.mem_of_getElem? hp))) with ⟨h5, h6⟩ | ⟨j, e0, h5, h6, h7⟩
  · refine .inl ⟨h5, h6, fun p hp e => ?_⟩
    obtain ⟨e0, he, h7, -⟩ := ent_of h3 hp
    exact h6 e0 he (by rw [h7, e])
  · obtain ⟨p, hp, h8, h9⟩ := ent_at h3 h6
    rw [h7] at h8
    exact .inr ⟨j, e0, p, h5, h6, h7, hp, (by cases h8; rfl), h9.symm⟩
theorem SMap.look (h : SMap w m l) (T : SmT P t k e) {z : Value} (hz : (zeroValue e).run P w = .ok z w) {s : ByteArray} (hs : s.size ≤ maxLen) (c : Bool) :
    (Instr.lookup t (.map (some m)) (.string s) c).run P w = .ok (if c then .tuple #[(sget l s).getD z, .bool (sget l s).isSome] else (sget l s).getD z) w := by
  have hd := h.nodup
  obtain ⟨es, clock, hb, hst, h3, h4⟩ := h
  obtain ⟨kl, hkey⟩ := T.key hs
  have K := string_keyed T.hk
  rcases T.find (clock := clock) hs h3 h4 w with ⟨h5, -, h6⟩ | ⟨j, e0, p, h5, h6, h7, h8, rfl, h9⟩
  · simp [Instr.lookup, run_underlying T.ht, MapKept.run_getObj_map hb, K.check w _ hkey, h5, hz, Result.andThen]
    rw [sget_none h6]; rfl
  · have : sget l p.1 = some e0.val := sget_some hd (by rw [← h9]; exact List.mem_of_getElem? h8)
    simp [Instr.lookup, run_underlying T.ht, MapKept.run_getObj_map hb, K.check w _ hkey, h5, Result.andThen, this]
theorem shas_iff {s : ByteArray} : shas l s = true ↔ ∃ p ∈ l, p.1 = s := by simp [shas]
theorem SMap.put (h : SMap w m l) (T : SmT P t k e) {s : ByteArray} (hs : s.size ≤ maxLen) (v : Value) :
    ∃ w', (Instr.mapUpdate t (.map (some m)) (.string s) v).run P w = .ok () w' ∧ SMap w' m (sput l s v) ∧ Keeps (· = m) w w' := by
  have hd := h.nodup
  obtain ⟨es, clock, hb, hst, h3, h4⟩ := h
  obtain ⟨kl, hkey⟩ := T.key hs
  have K := string_keyed T.hk
  rcases T.find (clock := clock) hs h3 h4 w with ⟨h5, h5b, h6⟩ | ⟨j, e0, p, h5, h6, h7, h8, rfl, h9⟩
  · refine ⟨setBlock w m (.map (es.push ⟨.string s, v, clock⟩) (clock + 1)), ?_, ⟨_, _, heap_setBlock_same hb _, stamped_push hst h5b, ?_, ?_⟩, keeps_setBlock2 hb _⟩
    · simp [Instr.mapUpdate, run_underlying T.ht, MapKept.run_getObj_map hb, K.check w _ hkey, h5, Result.andThen, MapKept.run_setObj_map _ hb, setBlock]
    · have : shas l s = false := by rw [← Bool.not_eq_true, shas_iff]; rintro ⟨p, hp, e⟩; exact h6 p hp e
      simp [sput, this, h3]
    · intro p hp
      have : shas l s = false := by rw [← Bool.not_eq_true, shas_iff]; rintro ⟨p, hp, e⟩; exact h6 p hp e
      simp only [sput, this, Bool.false_eq_true, if_false, List.mem_append, List.mem_singleton] at hp
      rcases hp with hp | rfl
      · exact h4 p hp
      · exact hs
  · have hj : es[j]? = some e0 := by simpa using h6
    have hin : shas l p.1 = true := shas_iff.2 ⟨p, List.mem_of_getElem? h8, rfl⟩
    refine ⟨setBlock w m (.map (es.modify j fun e => { e with key := .string p.1, val := v }) clock), ?_, ⟨_, _, heap_setBlock_same hb _, ?_, ?_, ?_⟩, keeps_setBlock2 hb _⟩
    · simp [Instr.mapUpdate, run_underlying T.ht, MapKept.run_getObj_map hb, K.check w _ hkey, h5, Result.andThen, hj, h7, K.stays w hkey, MapKept.run_setObj_map _ hb, setBlock]
    · refine stamped_modify hst _ _ (fun _ _ => rfl) (fun x hx hxj => ?_)
      rw [hj] at hxj; cases hxj; exact h7.symm
    · have hs2 : (es.modify j fun e => { e with key := .string p.1, val := v }).toList = es.toList.set j { e0 with key := .string p.1, val := v } := by rw [Array.toList_modify, modify_eq_set _ _ _ _ h6]
      rw [hs2, List.map_set, h3, sput, if_pos hin, map_set hd h8, List.map_set]
    · intro q hq
      rw [sput, if_pos hin, map_set hd h8] at hq
      rcases List.mem_or_eq_of_mem_set hq with hq | rfl
      · exact h4 q hq
      · exact h4 p (List.mem_of_getElem? h8)
theorem SMap.del (h : SMap w m l) (T : SmT P t k e) {s : ByteArray} (hs : s.size ≤ maxLen) (ty : TypeId) :
    ∃ w', (Builtin.delete_ #[t, k] ty #[.map (some m), .string s]).run P w = .ok (.tuple #[]) w' ∧ SMap w' m (sdel l s) ∧ Keeps (· = m) w w' := by
  have hd := h.nodup
  obtain ⟨es, clock, hb, hst, h3, h4⟩ := h
  obtain ⟨kl, hkey⟩ := T.key hs
  have K := string_keyed T.hk
  rcases T.find (clock := clock) hs h3 h4 w with ⟨h5, h5b, h6⟩ | ⟨j, e0, p, h5, h6, h7, h8, rfl, h9⟩
  · refine ⟨setBlock w m (.map es clock), ?_, ⟨_, _, heap_setBlock_same hb _, hst, ?_, ?_⟩, keeps_setBlock2 hb _⟩
    · simp [Builtin.delete_, run_underlying T.ht, MapKept.run_getObj_map hb, K.check w _ hkey, h5, MapKept.run_setObj_map _ hb, Result.andThen, setBlock]
    · rw [h3, sdel, List.filter_eq_self.2 (fun p hp => by simpa using h6 p hp)]
    · exact fun p hp => h4 p (List.mem_filter.1 hp).1
  · have hjs : j < es.size := by simpa using (List.getElem?_eq_some_iff.1 h6).1
    have hsub : (es.eraseIdxIfInBounds j).toList = es.toList.eraseIdx j := by
      unfold Array.eraseIdxIfInBounds
      rw [dif_pos hjs]
      simp
    refine ⟨setBlock w m (.map (es.eraseIdxIfInBounds j) clock), ?_, ⟨_, _, heap_setBlock_same hb _, stamped_erase hst j, ?_, ?_⟩, keeps_setBlock2 hb _⟩
    · simp [Builtin.delete_, run_underlying T.ht, MapKept.run_getObj_map hb, K.check w _ hkey, h5, MapKept.run_setObj_map _ hb, Result.andThen, setBlock]
    · rw [hsub, sdel, filter_erase hd h8, map_eraseIdx, map_eraseIdx, h3]
    · exact fun p hp => h4 p (List.mem_filter.1 hp).1
theorem SMap.len (h : SMap w m l) (T : SmT P t k e) (hm : t < P.types.size ∨ True) : ∃ es clock, w.heap[m]? = some (.map es clock) ∧ es.size = l.length := by
  obtain ⟨es, clock, hb, hst, h3, h4⟩ := h
  exact ⟨es, clock, hb, ent_len h3⟩
/-- A range under way over the entries l of m, the iterator in block r: vs have come. -/
def SRng (w : World) (m r : Nat) (l vs : List (ByteArray × Value)) : Prop :=
  ∃ es clock since seen c0, w.heap[m]? = some (.map es clock) ∧ Stamped es clock ∧ es.toList.map (fun e => (e.key, e.val)) = l.map (fun p => (Value.string p.1, p.2)) ∧ (∀ p ∈ l, p.1.size ≤ maxLen) ∧
    w.heap[r]? = some (.mapIter (some m) since seen c0) ∧ (∀ x ∈ es.toList, x.born < since) ∧ since ≤ c0 ∧ since ≤ clock ∧ vs.Nodup ∧ (∀ p ∈ vs, p ∈ l) ∧
    (∀ x ∈ es.toList, ∀ s v, x.key = .string s → x.val = v → (seen.contains x.born = true ↔ (s, v) ∈ vs))
theorem SRng.map {vs : List (ByteArray × Value)} {r : Nat} (h : SRng w m r l vs) : SMap w m l := by
  obtain ⟨es, clock, since, seen, c0, h1, h2, h3, h4, -⟩ := h
  exact ⟨es, clock, h1, h2, h3, h4⟩
theorem SRng.keeps {vs : List (ByteArray × Value)} {r : Nat} (h : SRng w m r l vs) (hk : Keeps S w w') (hn : ¬ S m) (hr : ¬ S r) : SRng w' m r l vs := by
  obtain ⟨es, clock, since, seen, c0, h1, h2, h3, h4, h5, h6⟩ := h
  exact ⟨es, clock, since, seen, c0, hk.at h1 hn, h2, h3, h4, hk.at h5 hr, h6⟩
theorem SMap.range (h : SMap w m l) (T : SmT P t k e) :
    ∃ r w', (Instr.range t (.map (some m))).run P w = .ok (.pointer (some ⟨r, 0, none⟩)) w' ∧ w.heap.size ≤ r ∧ SRng w' m r l [] ∧ Keeps Nb w w' := by
  have hlt := h.lt
  obtain ⟨es, clock, hb, hst, h3, h4⟩ := h
  refine ⟨_, _, run_range_map w t k e m es clock T.ht hb, Nat.le_refl _, ⟨es, clock, clock, #[], clock, ((MapKept.heap_alloc w _).2 m hlt).trans hb, hst, h3, h4, (MapKept.heap_alloc w _).1, hst.1, Nat.le_refl _, Nat.le_refl _, List.nodup_nil, by simp, by simp⟩, (Keeps.refl _ _).alloc _⟩
/-- The step: all have come; or one that has not, and it may be had. -/
theorem SRng.next {vs : List (ByteArray × Value)} {r : Nat} (h : SRng w m r l vs) (ty : TypeId) :
    (vs.Perm l ∧ (Instr.next (.pointer (some ⟨r, 0, none⟩)) false ty).run P w = .ok (.tuple #[.bool false]) w) ∨
    ∃ p w', p ∈ l ∧ p ∉ vs ∧ (Instr.next (.pointer (some ⟨r, 0, none⟩)) false ty).run P w = .ok (.tuple #[.bool true, .string p.1, p.2]) w' ∧ SRng w' m r l (vs ++ [p]) ∧ Keeps (· = r) w w' ∧
      ∀ u, u.heap[m]? = w'.heap[m]? → u.heap[r]? = w'.heap[r]? → (Instr.entry (.pointer (some ⟨r, 0, none⟩))).run P u = .ok (.tuple #[.string p.1, p.2]) u := by
  have hd := h.map.nodup
  obtain ⟨es, clock, since, seen, c0, hb, hst, h3, h4, hr, hold, hsc, hsk, hnd, hsub, hseen⟩ := h
  have hne : r ≠ m := by rintro rfl; rw [hb] at hr; cases hr
  have hdl : l.Nodup := List.Pairwise.of_map Prod.fst (fun a b hab e => hab (by rw [e])) hd
  rcases run_next_at (P := P) w ty r m since c0 seen es clock hr hb hold hsc with ⟨h0, hrun⟩ | ⟨x, hx, w1, hal, hrun⟩
  · refine .inl ⟨?_, hrun⟩
    refine (List.perm_ext_iff_of_nodup hnd hdl).2 fun p => ⟨hsub p, fun hp => ?_⟩
    obtain ⟨x, hx, h5, h6⟩ := ent_of h3 hp
    have h7 : seen.contains x.born = true := by
      have h8 : leftOf es seen = #[] := Array.eq_empty_of_size_eq_zero h0
      unfold leftOf at h8
      rw [Array.filter_eq_empty_iff] at h8
      simpa using h8 x (by simpa using hx)
    exact (hseen x hx p.1 p.2 h5 h6).1 h7
  · unfold leftOf at hx
    have hx' : x ∈ es.toList ∧ seen.contains x.born = false := by simpa using hx
    obtain ⟨j, hj⟩ := List.mem_iff_getElem?.1 hx'.1
    obtain ⟨p, hp, h5, h6⟩ := ent_at h3 hj
    have hpl := List.mem_of_getElem? hp
    have hpn : p ∉ vs := fun hv => by
      have := (hseen x hx'.1 p.1 p.2 h5 h6).2 hv
      rw [hx'.2] at this; cases this
    have hr1 : w1.heap[r]? = some (.mapIter (some m) since seen c0) := by rcases hal with rfl | rfl <;> exact hr
    have hb1 : w1.heap[m]? = some (.map es clock) := by rcases hal with rfl | rfl <;> exact hb
    have hset := heap_set (o' := .mapIter (some m) since (seen.push x.born) clock) hr1
    have hb' : (setBlock w1 r (.mapIter (some m) since (seen.push x.born) clock)).heap[m]? = some (.map es clock) := (hset.2 m (fun e1 => hne e1.symm)).trans hb1
    rw [h5, h6] at hrun
    refine .inr ⟨p, _, hpl, hpn, hrun, ⟨es, clock, since, seen.push x.born, clock, hb', hst, h3, h4, hset.1, hold, hsk, hsk, ?_, ?_, ?_⟩, ?_, ?_⟩
    · rw [List.nodup_append]
      exact ⟨hnd, by simp, fun a ha b hb2 => by simp at hb2; subst hb2; rintro rfl; exact hpn ha⟩
    · intro q hq
      rcases List.mem_append.1 hq with hq | hq
      · exact hsub q hq
      · simp at hq; subst hq; exact hpl
    · intro y hy s v hs hv
      rw [contains_push, List.mem_append, List.mem_singleton, Bool.or_eq_true, hseen y hy s v hs hv]
      refine or_congr Iff.rfl ?_
      rw [beq_iff_eq]
      constructor
      · intro e1
        have : y = x := by
          obtain ⟨i1, hi1⟩ := List.mem_iff_getElem?.1 hy
          have := nodup_at hst.2.1 (i := i1) (j := j) (x := x.born) (by rw [List.getElem?_map, hi1]; simp [e1]) (by rw [List.getElem?_map, hj]; rfl)
          subst this
          rw [hi1] at hj; cases hj; rfl
        subst this
        rw [h5] at hs; rw [h6] at hv
        cases hs; exact Prod.ext rfl hv.symm
      · intro e1
        obtain ⟨i1, hi1⟩ := List.mem_iff_getElem?.1 hy
        have hk2 : y.key = x.key := by rw [hs, h5, ← e1]
        have := nodup_at hst.2.2 (i := i1) (j := j) (x := x.key) (by rw [List.getElem?_map, hi1]; simp [hk2]) (by rw [List.getElem?_map, hj]; rfl)
        subst this
        rw [hi1] at hj; cases hj; rfl
    · rcases hal with rfl | rfl <;> exact ⟨rfl, rfl, rfl, by simp [setBlock], fun i _ hi => hset.2 i hi⟩
    · intro u hum hur
      have := run_entry_at (P := P) u r m since seen es clock x (hur.trans hset.1) (hum.trans hb') hx'.1 hst.2.1
      rw [h5, h6] at this
      exact this
/-- How many are still to come. -/
noncomputable def leftS (w : World) (m r : Nat) (l : List (ByteArray × Value)) : Nat := open Classical in if h : ∃ vs, SRng w m r l vs then l.length - h.choose.length else 0
theorem SRng.vs_eq {vs vs' : List (ByteArray × Value)} {r : Nat} (h : SRng w m r l vs) (h' : SRng w m r l vs') : vs.length = vs'.length := by
  have hd := h.map.nodup
  obtain ⟨es, clock, since, seen, c0, hb, hst, h3, h4, hr, -, -, -, hnd, hsub, hseen⟩ := h
  obtain ⟨es', clock', since', seen', c0', hb', hst', h3', h4', hr', -, -, -, hnd', hsub', hseen'⟩ := h'
  rw [hb] at hb'; cases hb'
  rw [hr] at hr'; cases hr'
  refine List.Perm.length_eq ((List.perm_ext_iff_of_nodup hnd hnd').2 fun p => ⟨fun hp => ?_, fun hp => ?_⟩)
  · obtain ⟨x, hx, h5, h6⟩ := ent_of h3 (hsub p hp)
    exact (hseen' x hx p.1 p.2 h5 h6).1 ((hseen x hx p.1 p.2 h5 h6).2 hp)
  · obtain ⟨x, hx, h5, h6⟩ := ent_of h3 (hsub' p hp)
    exact (hseen x hx p.1 p.2 h5 h6).1 ((hseen' x hx p.1 p.2 h5 h6).2 hp)
theorem SRng.left {vs : List (ByteArray × Value)} {r : Nat} (h : SRng w m r l vs) : leftS w m r l = l.length - vs.length := by
  unfold leftS
  rw [dif_pos ⟨vs, h⟩]
  have := (Exists.choose_spec (⟨vs, h⟩ : ∃ vs, SRng w m r l vs)).vs_eq h
  omega
theorem SRng.lt {vs : List (ByteArray × Value)} {r : Nat} (h : SRng w m r l vs) {p : ByteArray × Value} (hp : p ∈ l) (hn : p ∉ vs) : vs.length < l.length := by
  have hd : l.Nodup := List.Pairwise.of_map Prod.fst (fun a b hab e => hab (by rw [e])) h.map.nodup
  obtain ⟨es, clock, since, seen, c0, hb, hst, h3, h4, hr, -, -, -, hnd, hsub, hseen⟩ := h
  have : (p :: vs).Nodup := List.nodup_cons.2 ⟨hn, hnd⟩
  have h2 : (p :: vs).length ≤ l.length := List.Nodup.length_le_of_subset this (fun q hq => by
    rcases List.mem_cons.1 hq with rfl | hq
    · exact hp
    · exact hsub q hq)
  rw [List.length_cons] at h2; omega
/-! The operations' runs. -/
section
variable {dst : Option Tmp} {s x y : Operand} {ty : TypeId} {pos : String} {aft : Array Edge} {gd : Option (Nat × Bool)} {a : Act}
theorem rn_slook {z : Value} {n : ByteArray} {c : Bool} (h : SMap w m l) (T : SmT P t k e) (hz : (zeroValue e).run P w = .ok z w) (hs : a.eval s = .map (some m)) (hx : a.eval x = .string n) (hn : n.size ≤ maxLen) :
    (execOp a.eval ⟨dst, .lookup t s x c, ty, pos, aft, gd⟩).run P w = .ok (.value (if c then .tuple #[(sget l n).getD z, .bool (sget l n).isSome] else (sget l n).getD z)) w := by
  unfold execOp
  simp only [hs, hx, Sem.run_bind, h.look T hz hn, Result.andThen_ok, Sem.run_pure]
theorem re_sput {n : ByteArray} {v : Value} (h : SMap w m l) (T : SmT P t k e) (hs : a.eval s = .map (some m)) (hx : a.eval x = .string n) (hy : a.eval y = v) (hn : n.size ≤ maxLen) :
    ∃ w', (execOp a.eval ⟨dst, .mapUpdate t s x y, ty, pos, aft, gd⟩).run P w = .ok .skip w' ∧ SMap w' m (sput l n v) ∧ Keeps (· = m) w w' := by
  obtain ⟨w', h1, h2⟩ := h.put T hn v
  refine ⟨w', ?_, h2⟩
  unfold execOp
  simp only [hs, hx, hy, Sem.run_bind, h1, Result.andThen_ok, Sem.run_pure]
theorem re_sdel {n : ByteArray} (h : SMap w m l) (T : SmT P t k e) (hs : a.eval s = .map (some m)) (hx : a.eval x = .string n) (hn : n.size ≤ maxLen) :
    ∃ v w', (execOp a.eval ⟨dst, .call ⟨.builtin .delete, #[s, x], #[t, k]⟩, ty, pos, aft, gd⟩).run P w = .ok (.value v) w' ∧ SMap w' m (sdel l n) ∧ Keeps (· = m) w w' := by
  obtain ⟨w', h1, h2⟩ := h.del T hn ty
  refine ⟨.tuple #[], w', ?_, h2⟩
  unfold execOp
  simp only [resolve, invoke, builtin, Sem.run_bind, Sem.run_pure, Result.andThen_ok, List.map_toArray, List.map_cons, List.map_nil, hs, hx, h1]
/-- What a range comes to. -/
def IsRng (w : World) (m : Nat) (l : List (ByteArray × Value)) (v : Value) (w' : World) : Prop := ∃ r, v = .pointer (some ⟨r, 0, none⟩) ∧ w.heap.size ≤ r ∧ SRng w' m r l [] ∧ Keeps Nb w w'
theorem re_range (h : SMap w m l) (T : SmT P t k e) (hs : a.eval s = .map (some m)) : ∃ v w', (execOp a.eval ⟨dst, .range t s, ty, pos, aft, gd⟩).run P w = .ok (.value v) w' ∧ IsRng w m l v w' := by
  obtain ⟨r, w', h1, h2⟩ := h.range T
  refine ⟨_, w', ?_, r, rfl, h2⟩
  unfold execOp
  simp only [hs, Sem.run_bind, h1, Result.andThen_ok, Sem.run_pure]
/-- What a step comes to. -/
def IsNext (P : Program) (w : World) (m r : Nat) (l vs : List (ByteArray × Value)) (v : Value) (w' : World) : Prop :=
  (vs.Perm l ∧ v = .tuple #[.bool false] ∧ w' = w) ∨ ∃ p, p ∈ l ∧ p ∉ vs ∧ v = .tuple #[.bool true, .string p.1, p.2] ∧ SRng w' m r l (vs ++ [p]) ∧ Keeps (· = r) w w' ∧
    ∀ u, u.heap[m]? = w'.heap[m]? → u.heap[r]? = w'.heap[r]? → (Instr.entry (.pointer (some ⟨r, 0, none⟩))).run P u = .ok (.tuple #[.string p.1, p.2]) u
theorem re_next {vs : List (ByteArray × Value)} {r : Nat} (h : SRng w m r l vs) (hs : a.eval s = .pointer (some ⟨r, 0, none⟩)) : ∃ v w', (execOp a.eval ⟨dst, .next s false, ty, pos, aft, gd⟩).run P w = .ok (.value v) w' ∧ IsNext P w m r l vs v w' := by
  rcases h.next (P := P) ty with ⟨h1, h2⟩ | ⟨p, w', h1, h2, h3, h4⟩
  · exact ⟨_, w, by unfold execOp; simp only [hs, Sem.run_bind, h2, Result.andThen_ok, Sem.run_pure], .inl ⟨h1, rfl, rfl⟩⟩
  · exact ⟨_, w', by unfold execOp; simp only [hs, Sem.run_bind, h3, Result.andThen_ok, Sem.run_pure], .inr ⟨p, h1, h2, rfl, h4⟩⟩
theorem rn_entry {v : Value} {r : Nat} (h : (Instr.entry (.pointer (some ⟨r, 0, none⟩))).run P w = .ok v w) (hs : a.eval s = .pointer (some ⟨r, 0, none⟩)) : (execOp a.eval ⟨dst, .entry s, ty, pos, aft, gd⟩).run P w = .ok (.value v) w := by
  unfold execOp
  simp only [hs, Sem.run_bind, h, Result.andThen_ok, Sem.run_pure]
end
section
variable {ops : Array Oper} {rest : List Oper} {dst : Option Tmp} {s x y : Operand} {ty : TypeId} {pos : String} {aft : Array Edge} {gd : Option (Nat × Bool)} {a : Act} {Q : Exit → Act → World → Prop}
theorem stop_mapUpdate (h : At (wpList P ops Q (⟨dst, .mapUpdate t s x y, ty, pos, aft, gd⟩ :: rest) a w)) : wpList P ops Q (⟨dst, .mapUpdate t s x y, ty, pos, aft, gd⟩ :: rest) a w := h
theorem stop_delete (h : At (wpList P ops Q (⟨dst, .call ⟨.builtin .delete, #[s, x], #[t, k]⟩, ty, pos, aft, gd⟩ :: rest) a w)) : wpList P ops Q (⟨dst, .call ⟨.builtin .delete, #[s, x], #[t, k]⟩, ty, pos, aft, gd⟩ :: rest) a w := h
theorem stop_rangem (h : At (wpList P ops Q (⟨dst, .range t s, ty, pos, aft, gd⟩ :: rest) a w)) : wpList P ops Q (⟨dst, .range t s, ty, pos, aft, gd⟩ :: rest) a w := h
theorem stop_next {b : Bool} (h : At (wpList P ops Q (⟨dst, .next s b, ty, pos, aft, gd⟩ :: rest) a w)) : wpList P ops Q (⟨dst, .next s b, ty, pos, aft, gd⟩ :: rest) a w := h
theorem stop_entry (h : At (wpList P ops Q (⟨dst, .entry s, ty, pos, aft, gd⟩ :: rest) a w)) : wpList P ops Q (⟨dst, .entry s, ty, pos, aft, gd⟩ :: rest) a w := h
end
end Go.Lk
