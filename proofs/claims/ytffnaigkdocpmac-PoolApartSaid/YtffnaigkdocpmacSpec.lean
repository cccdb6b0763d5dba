/- What a pool tells of its votes, plainly: weights, voters, links; what is refused. -/
import Derived.Test.YtffnaigkdocpmacBase
set_option linter.unusedVariables false
namespace Go.Pool
open Go.Lk

def wt (cs : List Ct) (l : List Int) : Nat := ((cs.filter fun c => decide (c.link = l)).map (·.stake)).sum
def vs (cs : List Ct) (l : List Int) : Nat := (cs.filter fun c => decide (c.link = l)).length
def addL (ls : List (List Int)) (l : List Int) : List (List Int) := if l ∈ ls then ls else ls ++ [l]
def lks (cs : List Ct) : List (List Int) := cs.foldl (fun ls c => addL ls c.link) []
def hits (c x : Ct) : Bool := decide (x.key = c.key) && decide (x.link = c.link)
/-- 0: it may be added. -/
def chk (cs : List Ct) (c : Ct) : Nat := if may c && (decide (1 ≤ c.stake) && decide (c.stake ≤ 4294967296)) then (if cs.any (hits c) then 11 else 0) else 2
def addTo (cs : List Ct) (c : Ct) : List Ct := if chk cs c = 0 then cs ++ [c] else cs
/-- What Add answers. -/
def told (cs : List Ct) (c : Ct) : Nat := if chk cs c = 0 then wt (cs ++ [c]) c.link else 0

theorem wt_snoc (cs : List Ct) (c : Ct) (l : List Int) : wt (cs ++ [c]) l = wt cs l + if c.link = l then c.stake else 0 := by
  unfold wt; rw [List.filter_append, List.map_append, List.sum_append]
  by_cases h : c.link = l <;> simp [h]
theorem vs_snoc (cs : List Ct) (c : Ct) (l : List Int) : vs (cs ++ [c]) l = vs cs l + if c.link = l then 1 else 0 := by
  unfold vs; rw [List.filter_append, List.length_append]
  by_cases h : c.link = l <;> simp [h]
theorem lks_snoc (cs : List Ct) (c : Ct) : lks (cs ++ [c]) = addL (lks cs) c.link := by simp [lks, List.foldl_append]
theorem lks_nil : lks [] = [] := rfl
theorem mem_addL {ls : List (List Int)} {l x : List Int} : x ∈ addL ls l ↔ x ∈ ls ∨ x = l := by
  unfold addL; split
  · constructor
    · exact .inl
    · rintro (h | rfl) <;> assumption
  · simp
theorem foldl_mem (cs : List Ct) (ls : List (List Int)) (x : List Int) : x ∈ cs.foldl (fun ls c => addL ls c.link) ls ↔ x ∈ ls ∨ ∃ c ∈ cs, c.link = x := by
  induction cs generalizing ls with
  | nil => simp
  | cons c cs ih =>
    rw [List.foldl_cons, ih, mem_addL]
    constructor
    · rintro ((h | rfl) | ⟨y, hy, rfl⟩)
      · exact .inl h
      · exact .inr ⟨c, by simp, rfl⟩
      · exact .inr ⟨y, by simp [hy], rfl⟩
    · rintro (h | ⟨y, hy, rfl⟩)
      · exact .inl (.inl h)
      · rcases List.mem_cons.1 hy with rfl | hy
        · exact .inl (.inr rfl)
        · exact .inr ⟨y, hy, rfl⟩
theorem mem_lks {cs : List Ct} {x : List Int} : x ∈ lks cs ↔ ∃ c ∈ cs, c.link = x := by rw [lks, foldl_mem]; simp
theorem addL_len (ls : List (List Int)) (l : List Int) : (addL ls l).length ≤ ls.length + 1 := by unfold addL; split <;> simp
theorem foldl_len (cs : List Ct) (ls : List (List Int)) : (cs.foldl (fun ls c => addL ls c.link) ls).length ≤ ls.length + cs.length := by
  induction cs generalizing ls with
  | nil => simp
  | cons c cs ih => have := ih (addL ls c.link); have h2 := addL_len ls c.link; rw [List.foldl_cons, List.length_cons]; omega
theorem lks_len (cs : List Ct) : (lks cs).length ≤ cs.length := by have := foldl_len cs []; simpa [lks] using this
theorem addL_nodup {ls : List (List Int)} {l : List Int} (h : ls.Nodup) : (addL ls l).Nodup := by
  unfold addL; split
  · exact h
  · rename_i hn
    rw [List.nodup_append]
    exact ⟨h, by simp, fun a ha b hb => by simp at hb; subst hb; rintro rfl; exact hn ha⟩
theorem lks_nodup (cs : List Ct) : (lks cs).Nodup := by
  unfold lks
  have : ∀ (cs : List Ct) (ls : List (List Int)), ls.Nodup → (cs.foldl (fun ls c => addL ls c.link) ls).Nodup := by
    intro cs
    induction cs with
    | nil => exact fun _ h => h
    | cons c cs ih => exact fun ls h => ih _ (addL_nodup h)
  exact this cs [] List.nodup_nil

theorem wt_le {B : Nat} {cs : List Ct} (h : ∀ c ∈ cs, c.stake ≤ B) (l : List Int) : wt cs l ≤ B * cs.length := by
  induction cs with
  | nil => simp [wt]
  | cons c cs ih =>
    have h1 := ih (fun c hc => h c (by simp [hc]))
    have h2 := h c (by simp)
    have e : wt (c :: cs) l = (if c.link = l then c.stake else 0) + wt cs l := by
      unfold wt; by_cases hl : c.link = l <;> simp [hl]
    rw [e, List.length_cons, Nat.mul_succ]
    split <;> omega
theorem vs_le (cs : List Ct) (l : List Int) : vs cs l ≤ cs.length := List.length_filter_le _ _
theorem wt_none {cs : List Ct} {l : List Int} (h : ¬ l ∈ lks cs) : wt cs l = 0 := by
  have : cs.filter (fun c => decide (c.link = l)) = [] := by
    rw [List.filter_eq_nil_iff]; intro c hc; simp; rintro rfl; exact h (mem_lks.2 ⟨c, hc, rfl⟩)
  simp [wt, this]
theorem vs_none {cs : List Ct} {l : List Int} (h : ¬ l ∈ lks cs) : vs cs l = 0 := by
  have : cs.filter (fun c => decide (c.link = l)) = [] := by
    rw [List.filter_eq_nil_iff]; intro c hc; simp; rintro rfl; exact h (mem_lks.2 ⟨c, hc, rfl⟩)
  simp [vs, this]

/-- The kept votes: each may be, each has a stake, no two of one key have one link. -/
structure Good (cs : List Ct) : Prop where
  ok : ∀ c ∈ cs, c.Ok
  lo : ∀ c ∈ cs, 1 ≤ c.stake ∧ c.stake ≤ 4294967296
theorem Good.nil : Good [] := ⟨by simp, by simp⟩
theorem chk_stake {cs : List Ct} {c : Ct} (h : chk cs c = 0) : may c = true ∧ 1 ≤ c.stake ∧ c.stake ≤ 4294967296 ∧ cs.any (hits c) = false := by
  unfold chk at h
  split at h
  · rename_i h1
    simp only [Bool.and_eq_true, decide_eq_true_eq] at h1
    split at h
    · cases h
    · rename_i h2; exact ⟨h1.1, h1.2.1, h1.2.2, by simpa using h2⟩
  · cases h
theorem Good.addTo {cs : List Ct} {c : Ct} (h : Good cs) (hc : c.Ok) : Good (addTo cs c) := by
  unfold Pool.addTo
  split
  · rename_i h0
    have h1 := chk_stake h0
    refine ⟨fun x hx => ?_, fun x hx => ?_⟩ <;> rcases List.mem_append.1 hx with hx | hx
    · exact h.ok x hx
    · simp at hx; subst hx; exact hc
    · exact h.lo x hx
    · simp at hx; subst hx; exact ⟨h1.2.1, h1.2.2.1⟩
  · exact h
theorem addTo_len (cs : List Ct) (c : Ct) : (addTo cs c).length ≤ cs.length + 1 := by unfold addTo; split <;> simp

/-- What stands in the maps. -/
def hasF (cs : List Ct) : List Int → Option Value := fun k => if cs.any (fun c => decide (c.key ++ c.link = k)) then some (.agg #[.bool true]) else none
def wF (cs : List Ct) : List Int → Option Value := fun l => if l ∈ lks cs then some (.agg #[.int .u64 (wt cs l : Nat), .int .i64 (vs cs l : Nat)]) else none
theorem hasF_snoc (cs : List Ct) (c : Ct) : hasF (cs ++ [c]) = fun k => if k = c.key ++ c.link then some (.agg #[.bool true]) else hasF cs k := by
  funext k
  unfold hasF
  by_cases h : k = c.key ++ c.link
  · simp [h]
  · have h2 : ¬ (c.key ++ c.link = k) := fun e => h e.symm
    simp [h, h2]
theorem wF_snoc (cs : List Ct) (c : Ct) : wF (cs ++ [c]) = fun l => if l = c.link then some (.agg #[.int .u64 (wt (cs ++ [c]) c.link : Nat), .int .i64 (vs (cs ++ [c]) c.link : Nat)]) else wF cs l := by
  funext l
  unfold wF
  by_cases h : l = c.link
  · subst h; simp [lks_snoc, mem_addL]
  · have h2 : ¬ c.link = l := fun e => h e.symm
    simp only [lks_snoc, mem_addL, wt_snoc, vs_snoc, h, or_false, h2, if_false, Nat.add_zero]
theorem hasF_get {cs : List Ct} {c : Ct} (h : Good cs) (hc : c.Ok) : (hasF cs (c.key ++ c.link)).getD (.agg #[.bool false]) = .agg #[.bool (cs.any (hits c))] := by
  have e : ∀ x ∈ cs, decide (x.key ++ x.link = c.key ++ c.link) = hits c x := by
    intro x hx
    have h1 := (h.ok x hx).key.length
    have h2 := hc.key.length
    unfold hits
    rw [Bool.eq_iff_iff]
    simp only [decide_eq_true_eq, Bool.and_eq_true]
    constructor
    · intro e; exact List.append_inj e (by omega)
    · rintro ⟨e1, e2⟩; rw [e1, e2]
  have e2 : cs.any (fun x => decide (x.key ++ x.link = c.key ++ c.link)) = cs.any (hits c) := by
    rw [Bool.eq_iff_iff, List.any_eq_true, List.any_eq_true]
    constructor
    · rintro ⟨x, hx, hh⟩; exact ⟨x, hx, by rw [← e x hx]; exact hh⟩
    · rintro ⟨x, hx, hh⟩; exact ⟨x, hx, by rw [e x hx]; exact hh⟩
  unfold hasF
  rw [e2]
  cases cs.any (hits c) <;> rfl
theorem wF_get (cs : List Ct) (l : List Int) : (wF cs l).getD (.agg #[.int .u64 0, .int .i64 0]) = .agg #[.int .u64 (wt cs l : Nat), .int .i64 (vs cs l : Nat)] := by
  unfold wF
  split
  · rfl
  · rename_i h; rw [wt_none h, vs_none h]; rfl
theorem wF_is (cs : List Ct) (l : List Int) : (wF cs l).isSome = decide (l ∈ lks cs) := by
  unfold wF; split <;> simp_all
end Go.Pool
