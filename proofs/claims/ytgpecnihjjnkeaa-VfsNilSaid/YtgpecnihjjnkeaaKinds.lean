/- Structs and arrays of numbers, told by the kinds of their cells: how they are compared, and what they are as keys. -/
import Derived.Test.YtgpecnihjjnkeaaEq
import Derived.DeepKeys4
import Derived.Maps.Keyed
namespace Go.Lk
open Go.RowKit
set_option linter.unusedVariables false
variable {P : Program}

def fieldsAt (P : Program) (r : TypeId → Option (List IntKind)) : Nat → List Field → Option (List IntKind)
  | _, [] => some []
  | off, f :: fs => match r f.type with
    | some ks => if f.offset = off ∧ P.cellsOf f.type = ks.length ∧ (f.name != "_") = true then (fieldsAt P r (off + ks.length) fs).map (ks ++ ·) else none
    | none => none
/-- The kinds of a type's cells, where all are integers. -/
def kindsAt (P : Program) : Nat → TypeId → Option (List IntKind)
  | 0, _ => none
  | d + 1, t => match P.underlying t with
    | some (.int q) => some [q]
    | some (.array n e) => match kindsAt P d e with
      | some ks => if P.cellsOf e = ks.length ∧ P.cellsOf t = n * ks.length then some (List.replicate n ks).flatten else none
      | none => none
    | some (.struct fs) => match fieldsAt P (kindsAt P d) 0 fs.toList with
      | some ks => if P.cellsOf t = ks.length then some ks else none
      | none => none
    | _ => none
/-- Numbers that are of these kinds. -/
def Fits : List IntKind → List Int → Prop
  | [], [] => True
  | k :: ks, z :: zs => (Lit.int k z).wf = true ∧ Fits ks zs
  | _, _ => False
def valsK (ks : List IntKind) (l : List Int) : List Value := List.zipWith Value.int ks l
def litsK (ks : List IntKind) (l : List Int) : List Lit := List.zipWith Lit.int ks l
theorem Fits.length : ∀ {ks : List IntKind} {l : List Int}, Fits ks l → l.length = ks.length
  | [], [], _ => rfl
  | _ :: _, _ :: _, h => by simp [h.2.length]
  | [], _ :: _, h => h.elim
  | _ :: _, [], h => h.elim
theorem Fits.append : ∀ {ks ks' : List IntKind} {l l' : List Int}, Fits ks l → Fits ks' l' → Fits (ks ++ ks') (l ++ l')
  | [], _, [], _, _, h' => h'
  | _ :: _, _, _ :: _, _, h, h' => ⟨h.1, h.2.append h'⟩
  | [], _, _ :: _, _, h, _ => h.elim
  | _ :: _, _, [], _, h, _ => h.elim
theorem Fits.split : ∀ {ks ks' : List IntKind} {l : List Int}, Fits (ks ++ ks') l → ∃ a b, l = a ++ b ∧ Fits ks a ∧ Fits ks' b
  | [], _, l, h => ⟨[], l, rfl, trivial, h⟩
  | k :: ks, _, z :: l, h => by
    obtain ⟨a, b, rfl, h1, h2⟩ := Fits.split h.2
    exact ⟨z :: a, b, rfl, ⟨h.1, h1⟩, h2⟩
  | _ :: _, _, [], h => h.elim
theorem valsK_append {ks ks' : List IntKind} {a b : List Int} (h : a.length = ks.length) : valsK (ks ++ ks') (a ++ b) = valsK ks a ++ valsK ks' b := List.zipWith_append h.symm
theorem litsK_append {ks ks' : List IntKind} {a b : List Int} (h : a.length = ks.length) : litsK (ks ++ ks') (a ++ b) = litsK ks a ++ litsK ks' b := List.zipWith_append h.symm
theorem valsK_length {ks : List IntKind} {a : List Int} (h : a.length = ks.length) : (valsK ks a).length = ks.length := by simp [valsK, h]
theorem litsK_inj : ∀ {ks : List IntKind} {a b : List Int}, a.length = ks.length → b.length = ks.length → (litsK ks a = litsK ks b ↔ a = b)
  | [], [], [], _, _ => by simp
  | k :: ks, x :: a, y :: b, ha, hb => by
    have := litsK_inj (ks := ks) (a := a) (b := b) (by simpa using ha) (by simpa using hb)
    simp only [litsK] at this
    simp only [litsK, List.zipWith_cons_cons, List.cons.injEq, this, Lit.int.injEq, true_and]
  | [], _ :: _, _, h, _ => by simp at h
  | [], _, _ :: _, _, h => by simp at h
  | _ :: _, [], _, h, _ => by simp at h
  | _ :: _, _, [], _, h => by simp at h
theorem valsK_inj : ∀ {ks : List IntKind} {a b : List Int}, a.length = ks.length → b.length = ks.length → (valsK ks a = valsK ks b ↔ a = b)
  | [], [], [], _, _ => by simp
  | k :: ks, x :: a, y :: b, ha, hb => by
    have := valsK_inj (ks := ks) (a := a) (b := b) (by simpa using ha) (by simpa using hb)
    simp only [valsK] at this
    simp only [valsK, List.zipWith_cons_cons, List.cons.injEq, this, Value.int.injEq, true_and]
  | [], _ :: _, _, h, _ => by simp at h
  | [], _, _ :: _, _, h => by simp at h
  | _ :: _, [], _, h, _ => by simp at h
  | _ :: _, _, [], _, h => by simp at h
theorem valsK_one (ks : List IntKind) (a : List Int) : ∀ v ∈ valsK ks a, v.oneCell' = true := by
  induction ks generalizing a with
  | nil => simp [valsK]
  | cons k ks ih =>
    rcases a with _ | ⟨z, a⟩
    · simp [valsK]
    · intro v hv
      simp only [valsK, List.zipWith_cons_cons, List.mem_cons] at hv
      rcases hv with rfl | hv
      · rfl
      · exact ih a v hv

theorem keyLits_items {d : Nat} {e : TypeId} {kk : List IntKind} (hc : P.cellsOf e = kk.length) (ih : ∀ l, Fits kk l → P.keyLits d e (valsK kk l) = some (litsK kk l)) :
    ∀ (m j : Nat) (pre : List Value) (l : List Int), pre.length = j * kk.length → Fits (List.replicate m kk).flatten l →
      ∃ L, (List.range' j m).mapM (fun i => P.keyLits d e (((pre ++ valsK (List.replicate m kk).flatten l).drop (i * P.cellsOf e)).take (P.cellsOf e))) = some L ∧ L.flatten = litsK (List.replicate m kk).flatten l
  | 0, j, pre, l, _, h => by
    rcases l with _ | ⟨z, l⟩
    · exact ⟨[], by simp, by simp [litsK]⟩
    · exact h.elim
  | m + 1, j, pre, l, hp, h => by
    rw [List.replicate_succ, List.flatten_cons] at h ⊢
    obtain ⟨a, b, rfl, ha, hb⟩ := h.split
    rw [valsK_append ha.length, litsK_append ha.length]
    obtain ⟨L, hL, hf⟩ := keyLits_items hc ih m (j + 1) (pre ++ valsK kk a) b (by rw [List.length_append, hp, valsK_length ha.length, Nat.succ_mul]) hb
    rw [List.append_assoc] at hL
    refine ⟨litsK kk a :: L, ?_, by rw [List.flatten_cons, hf]⟩
    rw [List.range'_succ, List.mapM_cons, hL]
    have h1 : ((pre ++ (valsK kk a ++ valsK (List.replicate m kk).flatten b)).drop (j * P.cellsOf e)).take (P.cellsOf e) = valsK kk a := by
      rw [hc, ← hp, List.drop_left]
      have := valsK_length ha.length
      rw [List.take_append_of_le_length (by omega), List.take_of_length_le (by omega)]
    rw [h1, ih a ha]
    rfl

theorem keyLits_fields {d : Nat} {r : TypeId → Option (List IntKind)} (ih : ∀ t ks l, r t = some ks → Fits ks l → P.keyLits d t (valsK ks l) = some (litsK ks l)) :
    ∀ (fs : List Field) (ks : List IntKind) (pre : List Value) (l : List Int), fieldsAt P r pre.length fs = some ks → Fits ks l →
      (∃ L, fs.mapM (fun f => P.keyLits d f.type (((pre ++ valsK ks l).drop f.offset).take (P.cellsOf f.type))) = some L ∧ L.flatten = litsK ks l) ∧ ∀ f ∈ fs, (f.name != "_") = true
  | [], ks, pre, l, hf, h => by
    simp only [fieldsAt, Option.some.injEq] at hf
    subst hf
    rcases l with _ | ⟨z, l⟩
    · exact ⟨⟨[], by simp, by simp [litsK]⟩, by simp⟩
    · exact h.elim
  | f :: fs, ks, pre, l, hf, h => by
    unfold fieldsAt at hf
    split at hf
    · rename_i k1 hk1
      split at hf
      · rename_i hc
        obtain ⟨h1, h2, h3⟩ := hc
        obtain ⟨k2, hk2, rfl⟩ := Option.map_eq_some_iff.1 hf
        obtain ⟨a, b, rfl, ha, hb⟩ := h.split
        have hlen := valsK_length ha.length
        rw [valsK_append ha.length, litsK_append ha.length]
        obtain ⟨⟨L, hL, hfl⟩, hn⟩ := keyLits_fields ih fs k2 (pre ++ valsK k1 a) b (by rw [List.length_append, hlen]; exact hk2) hb
        rw [List.append_assoc] at hL
        refine ⟨⟨litsK k1 a :: L, ?_, by rw [List.flatten_cons, hfl]⟩, fun g hg => ?_⟩
        · rw [List.mapM_cons, hL]
          have h4 : ((pre ++ (valsK k1 a ++ valsK k2 b)).drop f.offset).take (P.cellsOf f.type) = valsK k1 a := by
            rw [h1, h2, List.drop_left, List.take_append_of_le_length (by omega), List.take_of_length_le (by omega)]
          rw [h4, ih f.type k1 a hk1 ha]
          rfl
        · rcases List.mem_cons.1 hg with rfl | hg
          · exact h3
          · exact hn g hg
      · cases hf
    · cases hf

theorem keyLits_kinds : ∀ (d : Nat) (t : TypeId) (ks : List IntKind) (l : List Int), kindsAt P d t = some ks → Fits ks l → P.keyLits d t (valsK ks l) = some (litsK ks l)
  | 0, _, _, _, h, _ => by simp [kindsAt] at h
  | d + 1, t, ks, l, h, hf => by
    unfold kindsAt at h
    unfold Program.keyLits
    split at h
    · rename_i q hu
      cases h
      rcases l with _ | ⟨z, _ | ⟨z', l⟩⟩
      · exact hf.elim
      · rw [hu]; simp [valsK, litsK, hf.1]
      · exact hf.2.elim
    · rename_i n e hu
      rw [hu]
      split at h
      · rename_i kk hk
        split at h
        · rename_i hc
          cases h
          obtain ⟨L, hL, hfl⟩ := keyLits_items hc.1 (fun l hl => keyLits_kinds d e kk l hk hl) n 0 [] l (by simp) hf
          rw [List.nil_append] at hL
          have hlen : (valsK (List.replicate n kk).flatten l).length = P.cellsOf t := by rw [valsK_length hf.length, hc.2]; simp
          simp only [hlen, if_true, List.range_eq_range', hL, Option.map_some, hfl]
        · cases h
      · cases h
    · rename_i fs hu
      rw [hu]
      split at h
      · rename_i kk hk
        split at h
        · rename_i hc
          cases h
          obtain ⟨⟨L, hL, hfl⟩, hn⟩ := keyLits_fields (fun t ks l => keyLits_kinds d t ks l) fs.toList ks [] l (by simpa using hk) hf
          rw [List.nil_append] at hL
          have hlen : (valsK ks l).length = P.cellsOf t := by rw [valsK_length hf.length, hc]
          have hall : fs.all (·.name != "_") = true := by rw [← Array.all_toList]; exact List.all_eq_true.2 hn
          simp only [hlen, hall, and_self, if_true, hL, Option.map_some, hfl]
        · cases h
      · cases h
    · cases h

/-- What is asked of an array or a struct of integers. -/
structure AggK (P : Program) (t : TypeId) (ks : List IntKind) : Prop where
  kinds : kindsAt P (P.types.size + 1) t = some ks
  agg : AggT P t ks.length
  key : P.keyTypeAt 8 t = true
  guard : P.eqGuardType P.depth t = false
variable {t : TypeId} {ks : List IntKind}
theorem AggK.cells (A : AggK P t ks) : P.cellsOf t = ks.length := by simp [Program.cellsOf, A.agg.size]
theorem AggK.lits (A : AggK P t ks) {l : List Int} (h : Fits ks l) : P.keyLits (P.types.size + 1) t (valsK ks l) = some (litsK ks l) := keyLits_kinds _ _ _ _ A.kinds h
theorem AggK.formed (A : AggK P t ks) {l : List Int} (h : Fits ks l) : (Value.agg (valsK ks l).toArray).formed P t = true := by
  obtain ⟨d, hd, h2⟩ := Option.map_eq_some_iff.1 A.agg.agg
  have hc := A.cells
  have hl := valsK_length h.length
  cases d <;> simp_all [Value.formed]

theorem run_equal_kinds (A : AggK P t ks) {a b : List Int} (ha : Fits ks a) (hb : Fits ks b) (w : World) :
    (Op.equal t (.agg (valsK ks a).toArray) (.agg (valsK ks b).toArray)).run P w = .ok (decide (a = b)) w := by
  obtain ⟨r, h1, h2⟩ := run_equalIn_deep (P := P) 9992 8 t A.key w (P.types.size + 1) (P.types.size + 1) (.agg (valsK ks a).toArray) (.agg (valsK ks b).toArray) _ _ (A.formed ha) (A.formed hb) (A.lits ha) (A.lits hb)
  rw [litsK_inj ha.length hb.length] at h2
  show (Op.equalIn (9992 + 8) t (.agg (valsK ks a).toArray) (.agg (valsK ks b).toArray)).run P w = _
  rw [h1]
  congr 1
  rw [Bool.eq_iff_iff, h2]; simp
end Go.Lk
