/- An argument that is a struct or an array of integers: it reads as numbers of its kinds. -/
import Derived.Test.YtgpecnihjjnkeaaKinds
import Derived.ChangeArms
import Derived.OpenShut
import Derived.DataReads
namespace Go.Lk
open Go.RowKit Go.ChangeShapes
set_option linter.unusedVariables false
variable {P : Program} {H : Type} {enc : TypeId × Value → H} {w : World} {base : Nat} {spare : Nat → Bool} {held : Bool}

theorem cut_at {α : Type} {l : List α} {a b : Nat} (h : a + b ≤ l.length) : l.drop a = (l.drop a).take b ++ l.drop (a + b) := by
  rw [← List.drop_drop, List.take_append_drop]

theorem items_fit {kk : List IntKind} {c : Nat} (hc : c = kk.length) : ∀ (m j : Nat) (cs : List Value), cs.length = (j + m) * c → (∀ i, j ≤ i → i < j + m → ∃ l, Fits kk l ∧ (cs.drop (i * c)).take c = valsK kk l) →
    ∃ l, Fits (List.replicate m kk).flatten l ∧ cs.drop (j * c) = valsK (List.replicate m kk).flatten l
  | 0, j, cs, hl, _ => ⟨[], by simp [Fits], by rw [List.drop_of_length_le (by rw [hl]; simp)]; simp [valsK]⟩
  | m + 1, j, cs, hl, h => by
    obtain ⟨a, ha, ea⟩ := h j (Nat.le_refl _) (by omega)
    obtain ⟨b, hb, eb⟩ := items_fit hc m (j + 1) cs (by rw [hl]; congr 1; omega) (fun i h1 h2 => h i (by omega) (by omega))
    refine ⟨a ++ b, by rw [List.replicate_succ, List.flatten_cons]; exact ha.append hb, ?_⟩
    rw [List.replicate_succ, List.flatten_cons, valsK_append ha.length, ← ea, ← eb, Nat.succ_mul]
    refine cut_at ?_
    rw [hl, ← Nat.succ_mul]
    exact Nat.mul_le_mul_right _ (by omega)
theorem fields_fit {r : TypeId → Option (List IntKind)} {cells : TypeId → Nat} {n : Nat} {cs : List Value}
    (ih : ∀ t ks (ds : List Value) x, r t = some ks → DataW.trod enc P w base spare held n t ds = some x → ∃ l, Fits ks l ∧ ds = valsK ks l) :
    ∀ (fs : List Field) (off : Nat) (ks : List IntKind), fieldsAt P r off fs = some ks → cs.length = off + ks.length → (∀ f ∈ fs, ∃ x, DataW.trod enc P w base spare held n f.type ((cs.drop f.offset).take (P.cellsOf f.type)) = some x) →
      ∃ l, Fits ks l ∧ cs.drop off = valsK ks l
  | [], off, ks, h, hl, _ => by
    simp only [fieldsAt, Option.some.injEq] at h
    subst h
    exact ⟨[], trivial, by rw [List.drop_of_length_le (by simpa using Nat.le_of_eq hl)]; simp [valsK]⟩
  | f :: fs, off, ks, h, hl, hx => by
    unfold fieldsAt at h
    split at h
    · rename_i k1 hk1
      split at h
      · rename_i hc
        obtain ⟨c1, c2, c3⟩ := hc
        obtain ⟨k2, hk2, rfl⟩ := Option.map_eq_some_iff.1 h
        obtain ⟨x, ht⟩ := hx f (by simp)
        obtain ⟨a, ha, ea⟩ := ih f.type k1 _ x hk1 ht
        rw [List.length_append] at hl
        obtain ⟨b, hb, eb⟩ := fields_fit (cells := cells) ih fs (off + k1.length) k2 hk2 (by omega) (fun g hg => hx g (by simp [hg]))
        refine ⟨a ++ b, ha.append hb, ?_⟩
        rw [valsK_append ha.length, ← eb, ← ea, c1, c2]
        exact cut_at (by omega)
      · cases h
    · cases h

theorem trod_kinds : ∀ (d : Nat) (t : TypeId) (ks : List IntKind) (fuel : Nat) (cs : List Value) (x : DataW H × List MemPlace), kindsAt P d t = some ks → DataW.trod enc P w base spare held fuel t cs = some x → ∃ l, Fits ks l ∧ cs = valsK ks l
  | 0, _, _, _, _, _, h, _ => by simp [kindsAt] at h
  | d + 1, t, ks, fuel, cs, x, h, ht => by
    unfold kindsAt at h
    split at h
    · rename_i q hu
      cases h
      obtain ⟨z, rfl, -, hw⟩ := DataW.trod_int hu ht
      exact ⟨[z], ⟨hw, trivial⟩, rfl⟩
    · rename_i n e hu
      split at h
      · rename_i kk hk
        split at h
        · rename_i hc
          cases h
          obtain ⟨xs, m, -, -, hl, hx, hi⟩ := DataW.trod_array hu ht
          obtain ⟨l, h1, h2⟩ := items_fit hc.1 n 0 cs (by rw [hl, hc.2, Nat.zero_add, hc.1]) (fun i _ h2 => by
            have h3 := hi i (by omega)
            rw [List.getElem?_eq_getElem (by omega)] at h3
            exact trod_kinds d e kk m _ _ hk h3)
          exact ⟨l, h1, by simpa using h2⟩
        · cases h
      · cases h
    · rename_i fs hu
      split at h
      · rename_i kk hk
        split at h
        · rename_i hc
          cases h
          obtain ⟨xs, m, -, -, hl, hx, hi⟩ := DataW.trod_struct hu ht
          obtain ⟨l, h1, h2⟩ := fields_fit (cells := P.cellsOf) (n := m) (cs := cs) (fun t ks ds x h1 h2 => trod_kinds d t ks m ds x h1 h2) fs.toList 0 ks hk (by rw [hl, hc, Nat.zero_add]) (fun f hf => by
            obtain ⟨i, hi2, rfl⟩ := List.getElem_of_mem hf
            have h3 := hi i _ (by rw [← Array.getElem?_toList]; exact List.getElem?_eq_getElem hi2)
            rw [List.getElem?_eq_getElem (by simpa [hx] using hi2)] at h3
            exact ⟨_, h3⟩)
          exact ⟨l, h1, by simpa using h2⟩
        · cases h
      · cases h
    · cases h
end Go.Lk
