/- Maps whose keys are structs or arrays of integers: what stands at a key, told by a function of the key's numbers. -/
import Derived.Test.YtgpecnihjjnkeaaKinds
import Derived.Maps.OwnSet
namespace Go.Lk
open Go.RowKit Go.MapKept Go.ChangeMaps
open Go.Maps (Keyed)
set_option linter.unusedVariables false
variable {P : Program} {t k e : TypeId} {ks : List IntKind} {S : Nat → Prop} {w w' : World} {b : Nat}

theorem nodup_inj {α : Type} {l : List α} (h : l.Nodup) {i j : Nat} (hi : i < l.length) (hj : j < l.length) (he : l[i] = l[j]) : i = j := by
  have h2 := List.pairwise_iff_getElem.1 h
  rcases Nat.lt_trichotomy i j with hl | hl | hl
  · exact absurd he (h2 i j hi hj hl)
  · exact hl
  · exact absurd he.symm (h2 j i hj hi hl)
/-- The key of these numbers. -/
def kv (ks : List IntKind) (l : List Int) : Value := .agg (valsK ks l).toArray
theorem kv_inj {a b : List Int} (ha : Fits ks a) (hb : Fits ks b) : kv ks a = kv ks b ↔ a = b := by
  simp only [kv, Value.agg.injEq, Array.mk.injEq]
  exact valsK_inj ha.length hb.length

structure KeyK (P : Program) (k : TypeId) (ks : List IntKind) : Prop where
  agg : AggK P k ks
  is : P.keyType k = true
  law : Keyed P k
theorem KeyK.keyOf (K : KeyK P k ks) {l : List Int} (h : Fits ks l) : ∃ s, Go.keyOf P k (kv ks l) = some s := by
  obtain ⟨d, hd, h2⟩ := Option.map_eq_some_iff.1 K.agg.agg.agg
  have h3 := K.agg.lits h
  have h4 := K.agg.formed h
  unfold Go.keyOf
  rw [hd]
  cases d <;> simp_all [K.is, kv, Value.cells]

/-- Block b is a map: f tells what stands at a key. -/
def MapAt (ks : List IntKind) (w : World) (b : Nat) (f : List Int → Option Value) : Prop :=
  ∃ (es : Array MapEntry) (clock : Nat), w.heap[b]? = some (.map es clock) ∧ Stamped es clock ∧ (∀ e ∈ es.toList, ∃ l, Fits ks l ∧ e.key = kv ks l ∧ f l = some e.val) ∧
    ∀ l x, Fits ks l → f l = some x → ∃ e ∈ es.toList, e.key = kv ks l ∧ e.val = x
/-- .. and at one key an entry stands ready. -/
def MapMid (ks : List IntKind) (w : World) (b : Nat) (f : List Int → Option Value) (l0 : List Int) (s : Nat) : Prop :=
  ∃ (es : Array MapEntry) (clock j : Nat) (e0 : MapEntry), w.heap[b]? = some (.map es clock) ∧ Stamped es clock ∧ es.toList[j]? = some e0 ∧ e0.key = kv ks l0 ∧ e0.born = s ∧
    (∀ e ∈ es.toList, ∃ l, Fits ks l ∧ e.key = kv ks l ∧ (l ≠ l0 → f l = some e.val)) ∧
    ∀ l x, l ≠ l0 → Fits ks l → f l = some x → ∃ e ∈ es.toList, e.key = kv ks l ∧ e.val = x

theorem mapAt_new (ks : List IntKind) (w : World) : MapAt ks (w.alloc (.map #[] 0)) w.heap.size (fun _ => none) :=
  ⟨#[], 0, block_alloc _ _, stamped_empty 0, by simp, by simp⟩
theorem MapAt.lt {f : List Int → Option Value} (h : MapAt ks w b f) : b < w.heap.size := by obtain ⟨_, _, h1, -⟩ := h; exact lt_of_block h1
theorem MapAt.keeps {f : List Int → Option Value} (h : MapAt ks w b f) (hk : Keeps S w w') (hn : ¬ S b) : MapAt ks w' b f := by
  have hl := h.lt
  obtain ⟨es, clock, h1, h2⟩ := h
  exact ⟨es, clock, (hk.block b hl hn).trans h1, h2⟩
theorem MapAt.block {f : List Int → Option Value} (h : MapAt ks w b f) (hk : w'.heap[b]? = w.heap[b]?) : MapAt ks w' b f := by
  obtain ⟨es, clock, h1, h2⟩ := h
  exact ⟨es, clock, hk.trans h1, h2⟩
theorem MapMid.block {f : List Int → Option Value} {l0 : List Int} {s : Nat} (h : MapMid ks w b f l0 s) (hk : w'.heap[b]? = w.heap[b]?) : MapMid ks w' b f l0 s := by
  obtain ⟨es, clock, j, e0, h1, h2⟩ := h
  exact ⟨es, clock, j, e0, hk.trans h1, h2⟩
theorem keeps_setBlock {es : Array MapEntry} {clock : Nat} (hb : w.heap[b]? = some (.map es clock)) (o : Obj) : Keeps (· = b) w (setBlock w b o) :=
  ⟨rfl, rfl, rfl, by simp [setBlock], fun i hi hn => heap_setBlock_other hb o hn⟩

theorem MapAt.look {f : List Int → Option Value} (h : MapAt ks w b f) (K : KeyK P k ks) (ht : P.underlying t = some (.map k e)) {z : Value} (hz : (zeroValue e).run P w = .ok z w) {l : List Int} (hl : Fits ks l) (c : Bool) :
    (Instr.lookup t (.map (some b)) (kv ks l) c).run P w = .ok (if c then .tuple #[(f l).getD z, .bool (f l).isSome] else (f l).getD z) w := by
  obtain ⟨es, clock, hb, hst, h1, h2⟩ := h
  obtain ⟨kl, hkey⟩ := K.keyOf hl
  rcases K.law.find w hkey es.toList (fun e he => by obtain ⟨l', h3, h4, _⟩ := h1 e he; rw [h4]; exact K.keyOf h3) with ⟨h3, h4⟩ | ⟨j, e0, h3, h4, h5⟩
  · have hf : f l = none := by
      cases hfl : f l with
      | none => rfl
      | some x => obtain ⟨e, he, hk, _⟩ := h2 l x hl hfl; exact absurd hk (h4 e he)
    simp [Instr.lookup, run_underlying ht, MapKept.run_getObj_map hb, K.law.check w _ hkey, h3, hz, Result.andThen, hf]
  · have hm : e0 ∈ es.toList := List.mem_of_getElem? h4
    obtain ⟨l', h6, h7, h8⟩ := h1 e0 hm
    have : l' = l := (kv_inj h6 hl).1 (h7.symm.trans h5)
    subst this
    simp [Instr.lookup, run_underlying ht, MapKept.run_getObj_map hb, K.law.check w _ hkey, h3, Result.andThen, h8]
/-- A map that is not there. -/
theorem look_none (K : KeyK P k ks) (ht : P.underlying t = some (.map k e)) {z : Value} (hz : (zeroValue e).run P w = .ok z w) {l : List Int} (hl : Fits ks l) (c : Bool) :
    (Instr.lookup t (.map none) (kv ks l) c).run P w = .ok (if c then .tuple #[z, .bool false] else z) w := by
  obtain ⟨kl, hkey⟩ := K.keyOf hl
  rcases K.law.find w hkey [] (by simp) with ⟨h3, h4⟩ | ⟨j, e0, h3, h4, h5⟩
  · simp [Instr.lookup, run_underlying ht, K.law.check w _ hkey, h3, hz, Result.andThen]
  · simp at h4

theorem MapAt.entry {f : List Int → Option Value} (h : MapAt ks w b f) (K : KeyK P k ks) (ht : P.underlying t = some (.map k e)) {z : Value} (hz : (zeroValue e).run P w = .ok z w) {l : List Int} (hl : Fits ks l) :
    ∃ v s w', (Instr.mapEntry t (.map (some b)) (kv ks l)).run P w = .ok (.tuple #[v, .int .i64 (s : Nat)]) w' ∧ MapMid ks w' b f l s ∧ Keeps (· = b) w w' := by
  obtain ⟨es, clock, hb, hst, h1, h2⟩ := h
  obtain ⟨kl, hkey⟩ := K.keyOf hl
  rcases K.law.find w hkey es.toList (fun e he => by obtain ⟨l', h3, h4, _⟩ := h1 e he; rw [h4]; exact K.keyOf h3) with ⟨h3, h4⟩ | ⟨j, e0, h3, h4, h5⟩
  · refine ⟨z, clock, setBlock w b (.map (es.push ⟨kv ks l, z, clock⟩) (clock + 1)), ?_, ?_, keeps_setBlock hb _⟩
    · simp [Instr.mapEntry, run_underlying ht, MapKept.run_getObj_map hb, K.law.check w _ hkey, h3, hz, Result.andThen, MapKept.run_setObj_map _ hb, setBlock, goInt]
    · refine ⟨_, _, es.size, ⟨kv ks l, z, clock⟩, heap_setBlock_same hb _, stamped_push hst h4, by simp, rfl, rfl, ?_, ?_⟩
      · intro e' he
        simp only [Array.toList_push, List.mem_append, List.mem_singleton] at he
        rcases he with he | rfl
        · obtain ⟨l', h5, h6, h7⟩ := h1 e' he
          exact ⟨l', h5, h6, fun _ => h7⟩
        · exact ⟨l, hl, rfl, fun hn => absurd rfl hn⟩
      · intro l' x _ h5 h6
        obtain ⟨e', he, h7⟩ := h2 l' x h5 h6
        exact ⟨e', by simp [Array.mem_toList_iff.1 he], h7⟩
  · have hj : es[j]? = some e0 := by simpa using h4
    have hmod : es.modify j (fun e' => { e' with key := kv ks l }) = es := by
      apply Array.ext_getElem?
      intro i
      rw [Array.getElem?_modify]
      split
      · rename_i hij; subst hij; rw [hj, Option.map_some, ← h5]
      · rfl
    refine ⟨e0.val, e0.born, setBlock w b (.map es clock), ?_, ?_, keeps_setBlock hb _⟩
    · simp [Instr.mapEntry, run_underlying ht, MapKept.run_getObj_map hb, K.law.check w _ hkey, h3, Result.andThen, hj, h5, K.law.stays w hkey, hmod, MapKept.run_setObj_map _ hb, setBlock, goInt]
    · refine ⟨es, clock, j, e0, heap_setBlock_same hb _, hst, h4, h5, rfl, ?_, fun l' x _ h6 h7 => h2 l' x h6 h7⟩
      intro e' he
      obtain ⟨l', h6, h7, h8⟩ := h1 e' he
      exact ⟨l', h6, h7, fun _ => h8⟩

theorem MapMid.store {f : List Int → Option Value} {l : List Int} {s : Nat} (h : MapMid ks w b f l s) (hl : Fits ks l) (t : TypeId) (v : Value) :
    ∃ w', (Instr.entryStore t (.map (some b)) (.int .i64 (s : Nat)) v).run P w = .ok () w' ∧ MapAt ks w' b (fun l' => if l' = l then some v else f l') ∧ Keeps (· = b) w w' := by
  obtain ⟨es, clock, j, e0, hb, hst, hj, hk, hs, h1, h2⟩ := h
  have hjl : j < es.toList.length := (List.getElem?_eq_some_iff.1 hj).1
  have hfind : es.findIdx? (fun e => (e.born : Int) == (s : Int)) = some j := by
    cases hf : es.findIdx? (fun e => (e.born : Int) == (s : Int)) with
    | none =>
      rw [Array.findIdx?_eq_none_iff] at hf
      have := hf e0 (Array.mem_toList_iff.1 (List.mem_of_getElem? hj))
      simp [hs] at this
    | some i =>
      rw [Array.findIdx?_eq_some_iff_getElem] at hf
      obtain ⟨hi, hp, -⟩ := hf
      simp only [beq_iff_eq, Int.natCast_inj] at hp
      have hn := hst.2.1
      congr 1
      have hi' : i < (es.toList.map (·.born)).length := by simpa using hi
      have hj' : j < (es.toList.map (·.born)).length := by simpa using hjl
      refine nodup_inj hn hi' hj' ?_
      have h3 : es.toList[j] = e0 := by rw [List.getElem?_eq_getElem hjl] at hj; exact Option.some.inj hj
      simp only [List.getElem_map, h3, hs]
      simpa using hp
  have hlist : (es.modify j (fun e' => { e' with val := v })).toList = es.toList.set j { e0 with val := v } := by rw [Array.toList_modify, modify_eq_set _ _ _ _ hj]
  refine ⟨setBlock w b (.map (es.modify j fun e' => { e' with val := v }) clock), ?_, ?_, keeps_setBlock hb _⟩
  · simp [Instr.entryStore, MapKept.run_getObj_map hb, Result.andThen, asInt, asIntOf, hfind, MapKept.run_setObj_map _ hb, setBlock]
  · have hother : ∀ e' ∈ es.toList.set j { e0 with val := v }, e' = { e0 with val := v } ∨ (e' ∈ es.toList ∧ e'.key ≠ kv ks l) := by
      intro x hx
      obtain ⟨i, hi, ex⟩ := List.getElem_of_mem hx
      rw [List.getElem_set] at ex
      split at ex
      · exact .inl ex.symm
      · rename_i hne
        have hi' : i < es.toList.length := by simpa using hi
        refine .inr ⟨ex ▸ List.getElem_mem hi', ?_⟩
        rw [← hk]
        intro he
        have hi2 : i < (es.toList.map (·.key)).length := by simpa using hi'
        have hj2 : j < (es.toList.map (·.key)).length := by simpa using hjl
        have h3 : es.toList[j] = e0 := by rw [List.getElem?_eq_getElem hjl] at hj; exact Option.some.inj hj
        have := nodup_inj hst.2.2 hi2 hj2 (by simp only [List.getElem_map, h3]; rw [ex]; exact he)
        exact hne this.symm
    have hin : ({ e0 with val := v } : MapEntry) ∈ es.toList.set j { e0 with val := v } := by
      rw [List.mem_iff_getElem]; exact ⟨j, by simpa using hjl, by simp⟩
    refine ⟨_, _, heap_setBlock_same hb _, stamped_modify hst _ _ (fun _ _ => rfl) (fun _ _ _ => rfl), ?_, ?_⟩
    · intro e' he
      rw [hlist] at he
      rcases hother e' he with rfl | ⟨h3, h4⟩
      · exact ⟨l, hl, hk, by simp⟩
      · obtain ⟨l', h5, h6, h7⟩ := h1 e' h3
        have hne : l' ≠ l := by rintro rfl; exact h4 h6
        exact ⟨l', h5, h6, by simp [hne, h7 hne]⟩
    · intro l' x h3 h4
      rw [hlist]
      by_cases hne : l' = l
      · subst hne
        simp only [if_true, Option.some.injEq] at h4
        exact ⟨_, hin, hk, h4⟩
      · simp only [hne, if_false] at h4
        obtain ⟨e', he, h5, h6⟩ := h2 l' x hne h3 h4
        refine ⟨e', ?_, h5, h6⟩
        obtain ⟨i, hi, ex⟩ := List.getElem_of_mem he
        have hij : j ≠ i := by
          rintro rfl
          rw [List.getElem?_eq_getElem hjl] at hj
          rw [← ex, Option.some.inj hj, hk] at h5
          exact hne ((kv_inj hl h3).1 h5).symm
        rw [List.mem_iff_getElem]
        exact ⟨i, by simpa using hi, by rw [List.getElem_set, if_neg hij]; exact ex⟩
end Go.Lk
