/- The weights do not hang on the order of votes, plainly. -/
import Derived.Test.YtffnaigkdocpmacSpec
set_option linter.unusedVariables false
namespace Go.Pool
open Go.Lk

def all (cs : List Ct) (m : List Ct) : List Ct := m.foldl addTo cs
theorem all_nil (cs : List Ct) : all cs [] = cs := rfl
theorem all_snoc (cs m : List Ct) (c : Ct) : all cs (m ++ [c]) = addTo (all cs m) c := by simp [all, List.foldl_append]
theorem all_append (cs m n : List Ct) : all cs (m ++ n) = all (all cs m) n := by simp [all, List.foldl_append]
theorem all_len (m : List Ct) (cs : List Ct) : (all cs m).length ≤ cs.length + m.length := by
  induction m generalizing cs with
  | nil => simp [all]
  | cons c m ih => have h1 := ih (addTo cs c); have h2 := addTo_len cs c; simp only [all, List.foldl_cons, List.length_cons] at *; omega
theorem all_good {m cs : List Ct} (h : Good cs) (hm : ∀ c ∈ m, c.Ok) : Good (all cs m) := by
  induction m generalizing cs with
  | nil => exact h
  | cons c m ih => exact ih (h.addTo (hm c (by simp))) (fun c hc => hm c (by simp [hc]))

def tri (c : Ct) : List Int × List Int × Nat := (c.key, c.link, c.stake)
/-- May a vote be added to an empty pool? -/
def ok1 (c : Ct) : Bool := may c && (decide (1 ≤ c.stake) && decide (c.stake ≤ 4294967296))
theorem addTo_eq (cs : List Ct) (c : Ct) : addTo cs c = if ok1 c && !cs.any (hits c) then cs ++ [c] else cs := by
  unfold addTo chk ok1
  cases may c && (decide (1 ≤ c.stake) && decide (c.stake ≤ 4294967296)) <;> cases cs.any (hits c) <;> simp
/-- In l each key has one stake. -/
def OneStake (l : List Ct) : Prop := ∀ c ∈ l, ∀ d ∈ l, c.key = d.key → c.stake = d.stake

/-- What has been kept of m. -/
structure Kept (l m cs : List Ct) : Prop where
  sub : ∀ c ∈ cs, c ∈ l ∧ ok1 c = true
  dup : (cs.map tri).Nodup
  mem : ∀ x, x ∈ cs.map tri ↔ ∃ c ∈ m, ok1 c = true ∧ tri c = x
theorem kept_nil (l : List Ct) : Kept l [] [] := ⟨by simp, by simp, by simp⟩
theorem Kept.step {l m cs : List Ct} (h : Kept l m cs) (h1 : OneStake l) {c : Ct} (hc : c ∈ l) : Kept l (m ++ [c]) (addTo cs c) := by
  have hit : cs.any (hits c) = true ↔ ok1 c = true ∧ tri c ∈ cs.map tri ∨ (ok1 c = false ∧ cs.any (hits c) = true) := by
    constructor
    · intro hh
      cases ho : ok1 c
      · exact .inr ⟨rfl, hh⟩
      · refine .inl ⟨rfl, ?_⟩
        obtain ⟨x, hx, hhx⟩ := List.any_eq_true.1 hh
        simp only [hits, Bool.and_eq_true, decide_eq_true_eq] at hhx
        refine List.mem_map.2 ⟨x, hx, ?_⟩
        unfold tri
        rw [hhx.1, hhx.2, h1 x (h.sub x hx).1 c hc hhx.1]
    · rintro (⟨_, hh⟩ | ⟨_, hh⟩)
      · obtain ⟨x, hx, e⟩ := List.mem_map.1 hh
        unfold tri at e
        simp only [Prod.mk.injEq] at e
        exact List.any_eq_true.2 ⟨x, hx, by simp [hits, e.1, e.2.1]⟩
      · exact hh
  rw [addTo_eq]
  cases ho : ok1 c
  · rw [Bool.false_and, if_neg (by simp)]
    refine ⟨h.sub, h.dup, fun x => ?_⟩
    rw [h.mem]
    constructor
    · rintro ⟨d, hd, e⟩; exact ⟨d, by simp [hd], e⟩
    · rintro ⟨d, hd, e⟩
      rcases List.mem_append.1 hd with hd | hd
      · exact ⟨d, hd, e⟩
      · simp at hd; subst hd; rw [ho] at e; exact absurd e.1 (by simp)
  · cases hh : cs.any (hits c)
    · rw [if_pos (by simp)]
      have hn : tri c ∉ cs.map tri := fun hm => by
        have := hit.2 (.inl ⟨ho, hm⟩)
        rw [hh] at this; cases this
      refine ⟨fun d hd => ?_, ?_, fun x => ?_⟩
      · rcases List.mem_append.1 hd with hd | hd
        · exact h.sub d hd
        · simp at hd; subst hd; exact ⟨hc, ho⟩
      · rw [List.map_append, List.map_singleton, List.nodup_append]
        exact ⟨h.dup, by simp, fun a ha b hb => by simp at hb; subst hb; rintro rfl; exact hn ha⟩
      · rw [List.map_append, List.mem_append, h.mem]
        constructor
        · rintro (⟨d, hd, e⟩ | e)
          · exact ⟨d, by simp [hd], e⟩
          · simp at e; subst e; exact ⟨c, by simp, ho, rfl⟩
        · rintro ⟨d, hd, e1, e2⟩
          rcases List.mem_append.1 hd with hd | hd
          · exact .inl ⟨d, hd, e1, e2⟩
          · simp at hd; subst hd; exact .inr (by simp [e2])
    · rw [if_neg (by simp)]
      have hm : tri c ∈ cs.map tri := by
        rcases hit.1 hh with h2 | h2
        · exact h2.2
        · rw [ho] at h2; cases h2.1
      refine ⟨h.sub, h.dup, fun x => ?_⟩
      constructor
      · intro hx; obtain ⟨d, hd, e⟩ := (h.mem x).1 hx; exact ⟨d, by simp [hd], e⟩
      · rintro ⟨d, hd, e1, e2⟩
        rcases List.mem_append.1 hd with hd | hd
        · exact (h.mem x).2 ⟨d, hd, e1, e2⟩
        · simp at hd; subst hd; rw [← e2]; exact hm
theorem kept_all {l : List Ct} (h1 : OneStake l) : ∀ (m n cs : List Ct), (∀ c ∈ m, c ∈ l) → Kept l n cs → Kept l (n ++ m) (all cs m)
  | [], n, cs, _, h => by simpa [all] using h
  | c :: m, n, cs, hm, h => by
    have := kept_all h1 m (n ++ [c]) (addTo cs c) (fun c hc => hm c (by simp [hc])) (h.step h1 (hm c (by simp)))
    simpa [all] using this

/-- Two lists of the same votes. -/
theorem same_kept {l m n : List Ct} (h1 : OneStake l) (hm : ∀ c, c ∈ m ↔ c ∈ l) (hn : ∀ c, c ∈ n ↔ c ∈ l) : ((all [] m).map tri).Perm ((all [] n).map tri) := by
  have a := kept_all h1 m [] [] (fun c hc => (hm c).1 hc) (kept_nil l)
  have b := kept_all h1 n [] [] (fun c hc => (hn c).1 hc) (kept_nil l)
  rw [List.nil_append] at a b
  rw [List.perm_ext_iff_of_nodup a.dup b.dup]
  intro x
  rw [a.mem, b.mem]
  constructor
  · rintro ⟨c, hc, e⟩; exact ⟨c, (hn c).2 ((hm c).1 hc), e⟩
  · rintro ⟨c, hc, e⟩; exact ⟨c, (hm c).2 ((hn c).1 hc), e⟩
theorem wt_tri (cs : List Ct) (x : List Int) : wt cs x = (((cs.map tri).filter fun t => decide (t.2.1 = x)).map (·.2.2)).sum := by
  unfold wt
  rw [List.filter_map, List.map_map]
  rfl
theorem vs_tri (cs : List Ct) (x : List Int) : vs cs x = ((cs.map tri).filter fun t => decide (t.2.1 = x)).length := by
  unfold vs
  rw [List.filter_map, List.length_map]
  rfl
theorem sum_perm {a b : List Nat} (h : a.Perm b) : a.sum = b.sum := by
  induction h with
  | nil => rfl
  | cons x _ ih => simp [ih]
  | swap x y l => simp; omega
  | trans _ _ h1 h2 => exact h1.trans h2
theorem same_all {l m n : List Ct} (h1 : OneStake l) (hm : ∀ c, c ∈ m ↔ c ∈ l) (hn : ∀ c, c ∈ n ↔ c ∈ l) :
    (∀ x, wt (all [] m) x = wt (all [] n) x ∧ vs (all [] m) x = vs (all [] n) x) ∧ (all [] m).length = (all [] n).length ∧ (lks (all [] m)).length = (lks (all [] n)).length := by
  have h := same_kept h1 hm hn
  refine ⟨fun x => ⟨?_, ?_⟩, ?_, ?_⟩
  · rw [wt_tri, wt_tri]; exact sum_perm ((h.filter _).map _)
  · rw [vs_tri, vs_tri]; exact (h.filter _).length_eq
  · have := h.length_eq; simpa using this
  · refine List.Perm.length_eq ((List.perm_ext_iff_of_nodup (lks_nodup _) (lks_nodup _)).2 fun x => ?_)
    rw [mem_lks, mem_lks]
    have e : ∀ cs : List Ct, (∃ c ∈ cs, c.link = x) ↔ ∃ t ∈ cs.map tri, t.2.1 = x := fun cs => by
      constructor
      · rintro ⟨c, hc, e⟩; exact ⟨tri c, List.mem_map_of_mem hc, e⟩
      · rintro ⟨t, ht, e⟩; obtain ⟨c, hc, rfl⟩ := List.mem_map.1 ht; exact ⟨c, hc, e⟩
    rw [e, e]
    constructor
    · rintro ⟨t, ht, e⟩; exact ⟨t, h.mem_iff.1 ht, e⟩
    · rintro ⟨t, ht, e⟩; exact ⟨t, h.mem_iff.2 ht, e⟩
end Go.Pool
