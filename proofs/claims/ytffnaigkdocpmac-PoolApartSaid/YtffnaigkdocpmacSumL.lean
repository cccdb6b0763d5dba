/- Plainly: over the links of a list of votes the weights sum to the stakes, the voters to the votes. -/
import Derived.Test.YtffnaigkdocpmacDoW
set_option linter.unusedVariables false
set_option linter.unusedSimpArgs false
namespace Go.Pool
open Go.Lk Go.RowKit

def skA (cs : List Ct) : Nat := (cs.map (·.stake)).sum
theorem sum_ind (ls : List (List Int)) (hd : ls.Nodup) (f : List Int → Nat) (x : List Int) (s : Nat) :
    (ls.map fun l => f l + if x = l then s else 0).sum = (ls.map f).sum + if x ∈ ls then s else 0 := by
  induction ls with
  | nil => simp
  | cons l ls ih =>
    have hd' := List.nodup_cons.1 hd
    have := ih hd'.2
    simp only [List.map_cons, List.sum_cons, this]
    by_cases hx : x = l
    · subst hx
      rw [if_pos rfl, if_neg hd'.1, if_pos (by simp)]; omega
    · rw [if_neg hx]
      by_cases h2 : x ∈ ls
      · rw [if_pos h2, if_pos (by simp [h2])]; omega
      · rw [if_neg h2, if_neg (by simp [h2, hx])]; omega
theorem sums_snoc (cs : List Ct) (c : Ct) (f : List Ct → List Int → Nat) (s : Nat) (hf : ∀ l, f (cs ++ [c]) l = f cs l + if c.link = l then s else 0) (h0 : ¬ c.link ∈ lks cs → f cs c.link = 0) :
    ((lks (cs ++ [c])).map (f (cs ++ [c]))).sum = ((lks cs).map (f cs)).sum + s := by
  have e : f (cs ++ [c]) = fun l => f cs l + if c.link = l then s else 0 := funext hf
  rw [lks_snoc, e]
  unfold addL
  by_cases h : c.link ∈ lks cs
  · rw [if_pos h, sum_ind _ (lks_nodup cs), if_pos h]
  · rw [if_neg h, List.map_append, List.sum_append, sum_ind _ (lks_nodup cs), if_neg h]
    simp [h0 h]
theorem snoc_rec {P : List Ct → Prop} (h0 : P []) (h1 : ∀ cs c, P cs → P (cs ++ [c])) (cs : List Ct) : P cs := by
  have : ∀ k, k ≤ cs.length → P (cs.take k) := by
    intro k
    induction k with
    | zero => intro _; simpa using h0
    | succ k ih => intro hk; rw [List.take_succ_eq_append_getElem (by omega)]; exact h1 _ _ (ih (by omega))
  simpa using this cs.length (Nat.le_refl _)
theorem sum_wt (cs : List Ct) : ((lks cs).map (wt cs)).sum = skA cs := by
  refine snoc_rec (P := fun cs => ((lks cs).map (wt cs)).sum = skA cs) rfl (fun cs c ih => ?_) cs
  show ((lks (cs ++ [c])).map (wt (cs ++ [c]))).sum = _
  rw [sums_snoc cs c wt c.stake (wt_snoc cs c) (fun h => wt_none h), ih]; simp [skA]
theorem sum_vs (cs : List Ct) : ((lks cs).map (vs cs)).sum = cs.length := by
  refine snoc_rec (P := fun cs => ((lks cs).map (vs cs)).sum = cs.length) rfl (fun cs c ih => ?_) cs
  show ((lks (cs ++ [c])).map (vs (cs ++ [c]))).sum = _
  rw [sums_snoc cs c vs 1 (vs_snoc cs c) (fun h => vs_none h), ih]; simp
theorem sum_take (l : List Nat) (k : Nat) : (l.take k).sum ≤ l.sum := by
  have h : (l.take k ++ l.drop k).sum = l.sum := by rw [List.take_append_drop]
  rw [List.sum_append] at h; omega
theorem sum_take_succ {α : Type} (l : List α) (f : α → Nat) {k : Nat} (h : k < l.length) : ((l.take (k + 1)).map f).sum = ((l.take k).map f).sum + f l[k] := by
  rw [List.take_succ_eq_append_getElem h, List.map_append, List.sum_append, List.map_cons, List.map_nil, List.sum_cons, List.sum_nil, Nat.add_zero]
theorem sum_map_take {α : Type} (l : List α) (f : α → Nat) (k : Nat) : ((l.take k).map f).sum ≤ (l.map f).sum := by
  rw [List.map_take]; exact sum_take _ _
theorem skA_le {cs : List Ct} (h : ∀ c ∈ cs, c.stake ≤ 4294967296) : skA cs ≤ 4294967296 * cs.length := by
  induction cs with
  | nil => simp [skA]
  | cons c cs ih =>
    have h1 := ih (fun c hc => h c (by simp [hc])); have h2 := h c (by simp)
    unfold skA at *
    rw [List.map_cons, List.sum_cons, List.length_cons, Nat.mul_succ]; omega

/-- The links of a row. -/
theorem links_get {w : World} {a : Option Addr} {L : List (List Int)} (h : Has w a (L.flatMap (valsK LK))) (hf : ∀ l ∈ L, Fits LK l) :
    ∃ b off, (L ≠ [] → a = some ⟨b, off, none⟩) ∧ ∀ j l, L[j]? = some l → Has w (some ⟨b, off + j * 66, none⟩) (valsK LK l) := by
  have hlen : ∀ l ∈ L, (valsK LK l).length = 66 := fun l hl => by rw [valsK_length (hf l hl).length]; rfl
  by_cases h0 : L = []
  · subst h0; exact ⟨0, 0, fun h => absurd rfl h, by simp⟩
  · have hne : L.flatMap (valsK LK) ≠ [] := by
      intro e
      obtain ⟨l, hl⟩ := List.exists_mem_of_ne_nil _ h0
      have h1 := hlen l hl
      rw [List.flatMap_eq_nil_iff] at e
      rw [e l hl] at h1; cases h1
    rcases h with h | ⟨b, off, rfl, h⟩
    · exact absurd h hne
    · refine ⟨b, off, fun _ => rfl, fun j l hj => ?_⟩
      have hh : Has w (some ⟨b, off, none⟩) (L.flatMap (valsK LK)) := .inr ⟨b, off, rfl, h⟩
      obtain ⟨hjl, hj⟩ := List.getElem?_eq_some_iff.1 hj
      have e : L = L.take j ++ l :: L.drop (j + 1) := by rw [← hj, List.getElem_cons_drop, List.take_append_drop]
      have el : ∀ M : List (List Int), (∀ l ∈ M, (valsK LK l).length = 66) → (M.flatMap (valsK LK)).length = M.length * 66 := by
        intro M
        induction M with
        | nil => simp
        | cons x M ih => intro hM; rw [List.flatMap_cons, List.length_append, hM x (by simp), ih (fun l hl => hM l (by simp [hl])), List.length_cons]; omega
      rw [e, List.flatMap_append, List.flatMap_cons] at hh
      refine (hh.right (m := j * 66) ?_).left
      rw [el _ (fun l hl => hlen l (List.mem_of_mem_take hl)), List.length_take]
      congr 1; omega
theorem lks_fits {cs : List Ct} (h : ∀ c ∈ cs, c.Ok) : ∀ l ∈ lks cs, Fits LK l := by
  intro l hl
  obtain ⟨c, hc, rfl⟩ := mem_lks.1 hl
  exact (h c hc).link
end Go.Pool
