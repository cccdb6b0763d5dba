/- What PoolPlays needs plainly: keys in a row; the votes that are put in are of the list. -/
import Derived.Test.YtffnaigkdocpmacSameW
import Derived.Test.YtffnaigkdocpmacSumW
set_option linter.unusedVariables false
set_option linter.unusedSimpArgs false
namespace Go.Pool
open Go.Lk Go.RowKit
theorem row_get {w : World} {a : Option Addr} {ks : List IntKind} {n : Nat} {L : List (List Int)} (hk : ks.length = n) (hn : 0 < n) (h : Has w a (L.flatMap (valsK ks))) (hf : ∀ l ∈ L, Fits ks l) :
    ∃ b off, (L ≠ [] → a = some ⟨b, off, none⟩) ∧ ∀ j l, L[j]? = some l → Has w (some ⟨b, off + j * n, none⟩) (valsK ks l) := by
  have hlen : ∀ l ∈ L, (valsK ks l).length = n := fun l hl => by rw [valsK_length (hf l hl).length, hk]
  by_cases h0 : L = []
  · subst h0; exact ⟨0, 0, fun h => absurd rfl h, by simp⟩
  · have hne : L.flatMap (valsK ks) ≠ [] := by
      intro e
      obtain ⟨l, hl⟩ := List.exists_mem_of_ne_nil _ h0
      have h1 := hlen l hl
      have : valsK ks l = [] := by
        rw [List.eq_nil_iff_forall_not_mem]
        intro x hx
        have hm : x ∈ L.flatMap (valsK ks) := List.mem_flatMap.2 ⟨l, hl, hx⟩
        rw [e] at hm; cases hm
      rw [this] at h1; simp at h1; omega
    rcases h with h | ⟨b, off, rfl, hc⟩
    · exact absurd h hne
    · refine ⟨b, off, fun _ => rfl, fun j l hj => .inr ⟨b, off + j * n, rfl, fun i v hi => ?_⟩⟩
      have : (L.flatMap (valsK ks))[j * n + i]? = some v := by
        clear hne h0 hc
        induction L generalizing j with
        | nil => simp at hj
        | cons x L ih =>
          have hx := hlen x (by simp)
          rw [List.flatMap_cons]
          cases j with
          | zero =>
            simp at hj; subst hj
            rw [Nat.zero_mul, Nat.zero_add, List.getElem?_append_left (List.getElem?_eq_some_iff.1 hi).1]
            exact hi
          | succ j =>
            rw [List.getElem?_append_right (by rw [hx, Nat.succ_mul]; omega), hx, show (j + 1) * n + i - n = j * n + i by rw [Nat.succ_mul]; omega]
            exact ih (fun l hl => hf l (by simp [hl])) (fun l hl => hlen l (by simp [hl])) j (by simpa using hj)
      have := hc _ _ this
      rwa [show off + (j * n + i) = off + j * n + i by omega] at this
theorem all_sub {m cs : List Ct} {c : Ct} (h : c ∈ all cs m) : c ∈ cs ∨ c ∈ m := by
  induction m generalizing cs with
  | nil => exact .inl h
  | cons x m ih =>
    rcases ih h with h1 | h1
    · unfold addTo at h1
      split at h1
      · rcases List.mem_append.1 h1 with h2 | h2
        · exact .inl h2
        · simp at h2; subst h2; exact .inr (by simp)
      · exact .inl h1
    · exact .inr (by simp [h1])
theorem few_sig {cs : List Ct} (h : fewB cs = true) : ∀ c ∈ cs, c.sig.length ≤ 5000 := by
  unfold fewB at h
  simp only [Bool.and_eq_true, List.all_eq_true, decide_eq_true_eq] at h
  exact h.1
end Go.Pool
namespace Go.Proofs.Ytffnaigkdocpmac
open Go.RowKit Go.Lk Go.Pool
theorem el55 : ∃ z, ElemT Try.prog 55 28 32 32 z := by
  have h : ((Try.prog.info? 28).map (fun i => (i.zero.isSome, (i.zero.map (·.cells.size)), i.size, i.bytes))) = some (true, some 32, 32, 32) := by kernel_rfl
  obtain ⟨i, hi, h2⟩ := Option.map_eq_some_iff.1 h
  simp only [Prod.mk.injEq] at h2
  obtain ⟨z, hz⟩ := Option.isSome_iff_exists.1 h2.1
  have h3 := h2.2.1
  rw [hz, Option.map_some, Option.some.injEq] at h3
  exact ⟨z, Try.underlying55, by rw [hi, Option.map_some, hz, h2.2.2.1, h2.2.2.2], h3, by omega⟩
/-- Of's row of votes, got at. -/
theorem vts_get {w : World} {R : Nat → Prop} {v : Value} {base : Nat} {ds : List Ct} {xs : List Value} (h : w.ownsRow base 33 68 v ds.length xs) (hv : Vts w R ds xs) (hok : ∀ c ∈ ds, c.Ok) :
    ∃ a c b off, v = .slice a ds.length c ∧ ds.length ≤ c ∧ c ≤ maxLen ∧ (ds ≠ [] → a = some ⟨b, off, none⟩ ∧ base ≤ b) ∧ ∀ i c, ds[i]? = some c → ∃ s, SigAt w R c s ∧ Has w (some ⟨b, off + i * 68, none⟩) (vc c s) := by
  obtain ⟨a, c, rfl, h1, h2, h3, h4⟩ := owns_has h
  by_cases h0 : ds = []
  · subst h0; exact ⟨a, c, 0, 0, rfl, h1, h2, fun h => absurd rfl h, by simp⟩
  · have hl := hv.len hok
    have hd := List.length_pos_iff.2 h0
    have hne : xs ≠ [] := by rintro rfl; simp at hl; omega
    rcases h3 with h3 | ⟨b, off, rfl, hc⟩
    · exact absurd h3 hne
    · refine ⟨_, c, b, off, rfl, h1, h2, fun _ => ⟨rfl, (h4 b off rfl).2.2.1⟩, fun i c hi => ?_⟩
      obtain ⟨s, A, B, e, hA, hs⟩ := hv.get hok hi
      refine ⟨s, hs, .inr ⟨b, off + i * 68, rfl, fun j u hj => ?_⟩⟩
      have := hc (A.length + j) u (by rw [e, List.getElem?_append_right (by omega), Nat.add_sub_cancel_left, List.getElem?_append_left (List.getElem?_eq_some_iff.1 hj).1]; exact hj)
      rwa [hA, show off + (i * 68 + j) = off + i * 68 + j by omega] at this
end Go.Proofs.Ytffnaigkdocpmac
