/- A slice of slices of bytes that came in; an owned row of bytes that is read. -/
import Derived.Test.YtffnaigkdocpmabFitW
import Derived.SizedLaws
set_option linter.unusedVariables false
namespace Go.Proofs.Ytffnaigkdocpmab
open Go.RowKit Go.Lk Go.Crc Go.WideShapes Go.ChangeShapes

theorem pick_rows {p : Nat → List Nat → Prop} (n : Nat) (h : ∀ i, i < n → ∃ l, p i l) : ∃ ls : List (List Nat), ls.length = n ∧ ∀ i, i < n → p i (nrow ls i) := by
  induction n with
  | zero => exact ⟨[], rfl, fun i hi => by omega⟩
  | succ n ih =>
    obtain ⟨ls, hl, hp⟩ := ih (fun i hi => h i (by omega))
    obtain ⟨l, hpl⟩ := h n (by omega)
    refine ⟨ls ++ [l], by simp [hl], fun i hi => ?_⟩
    rcases Nat.lt_or_ge i n with h1 | h1
    · have := hp i h1
      rwa [show nrow (ls ++ [l]) i = nrow ls i by simp [nrow, List.getD, List.getElem?_append_left (show i < ls.length by omega)]]
    · obtain rfl : i = n := by omega
      rwa [show nrow (ls ++ [l]) i = l by simp [nrow, List.getD, ← hl]]

theorem cells_one {w : World} {a : Addr} {cs : List Value} (h : w.cells? 0 a 1 = some cs) : ∃ v, cs = [v] ∧ w.cell? a = some v := by
  have h' := h
  unfold World.cells? at h
  simp [Addr.add] at h
  cases hc : w.cell? a with
  | none => rw [hc] at h; simp at h
  | some v => rw [hc] at h; simp at h; exact ⟨v, h.symm, rfl⟩

theorem weights_all {H : Type} {P : Program} {e : TypeId} {ds : List (DataW H)} {d : DataW H} (h : d ∈ ds) {n : Nat} (hn : n ∈ d.weights P e) : n ∈ DataW.weightsAll P e ds := by
  induction ds with
  | nil => simp at h
  | cons x ds ih =>
    simp only [DataW.weightsAll, List.mem_append]
    rcases List.mem_cons.1 h with rfl | h
    · exact .inl hn
    · exact .inr (ih h)

theorem rows_of {w : World} {base : Nat} {H : Type} {enc : TypeId × Value → H} {v : Value} {d : DataW H} {p : List MemPlace} (kv : Value.okWide Try.prog w .any base 22 v) (k : DataW.Trod enc Try.prog w 0 (fun _ => true) true 22 v d p) (sz : ∀ n ∈ d.weights Try.prog 22, n ≤ reachBytes) :
    ∃ (a : Option Addr) (c : Nat) (ls : List (List Nat)), v = .slice a ls.length c ∧ ls.length ≤ c ∧ c ≤ maxLen ∧ RowsN w a ls ∧ ∀ l ∈ ls, Bytes l ∧ l.length ≤ 140737488351232 := by
  obtain ⟨a, n, c, rfl⟩ := okWide_slice Try.underlying22 kv
  obtain ⟨fuel, hf⟩ := k
  rcases DataW.trod_slice Try.underlying22 hf with ⟨h, -⟩ | ⟨x, len, cap, elems, rest, m, -, hcs, hx, -, hl, hm, hlen, hel, -, -⟩
  · simp [Value.cells] at h
    obtain ⟨rfl, rfl, rfl⟩ := h
    exact ⟨none, 0, [], rfl, Nat.le_refl _, Nat.zero_le _, .inl rfl, by simp⟩
  · simp [Value.cells] at hcs
    obtain ⟨rfl, rfl, rfl⟩ := hcs
    simp only [Prod.mk.injEq] at hx
    obtain ⟨rfl, -⟩ := hx
    have hb5 : Try.prog.bytesOf 5 = 1 := by kernel_rfl
    have h1 : Try.prog.cellsOf 24 = 1 := by kernel_rfl
    rw [h1] at hel
    have each : ∀ i, i < n → ∃ l : List Nat, ∃ (a' : Option Addr) (c' : Nat), w.cell? (x.add i) = some (.slice a' l.length c') ∧ l.length ≤ c' ∧ ReadsN .u8 w a' l ∧ Bytes l ∧ l.length ≤ 140737488351232 := by
      intro i hi
      have h := hel i hi
      rw [List.getElem?_eq_getElem (by omega), Nat.mul_one] at h
      obtain ⟨cs, hcs, ht⟩ := Option.bind_eq_some_iff.1 h
      obtain ⟨u, rfl, hu⟩ := cells_one hcs
      have hmem : (elems[i]'(by omega)).1 ∈ elems.map (·.1) := List.mem_map_of_mem (List.getElem_mem _)
      have hsi : ∀ n ∈ (elems[i]'(by omega)).1.weights Try.prog 24, n ≤ reachBytes := fun n hn => sz n (by
        simp only [DataW.weights, Try.underlying22, List.mem_cons, List.mem_append]
        exact .inr (.inl (weights_all hmem hn)))
      have hrow : ∃ (a' : Option Addr) (l' c' : Nat) (zs : List Int), u = .slice a' l' c' ∧ IsRow .u8 w a' l' c' zs ∧ l' ≤ 140737488351232 := by
        rcases open_ints Try.underlying24 Try.underlying5 (by kernel_rfl) ht with ⟨hc, _⟩ | ⟨y, l, c, zs, hc, _, hl, hm, hz, hd, hcell, hwz⟩
        · simp at hc
          exact ⟨none, 0, 0, [], hc, .inl ⟨rfl, rfl, rfl, rfl⟩, Nat.zero_le _⟩
        · simp at hc
          have hz' : zs.length = c := by simpa using hz
          refine ⟨some y, l, c, zs, hc, .inr ⟨_, rfl, hl, hm, hz', hcell, hwz⟩, ?_⟩
          have := hsi ((l + (c - l)) * 1) (by
            rw [congrArg (·.1) hd]
            simp only [DataW.weights, Try.underlying24, hb5, List.mem_cons]
            left; simp [lits, hz']; omega)
          have hr : reachBytes = 140737488351232 := by rfl
          omega
      obtain ⟨a', l', c', zs, rfl, hr, hrl⟩ := hrow
      obtain ⟨l, rfl, hlc, -, hrd, hb⟩ := hr.bytes
      exact ⟨l, a', c', hu, hlc, hrd, hb, hrl⟩
    obtain ⟨ls, hll, hp⟩ := pick_rows n each
    subst hll
    refine ⟨some x, c, ls, rfl, hl, hm, ?_, fun l hl => ?_⟩
    · by_cases h0 : ls = []
      · exact .inl h0
      · obtain ⟨a', c', hcell, -⟩ := hp 0 (List.length_pos_iff.2 h0)
        obtain ⟨b, off, sp⟩ := x
        have hs : sp = none := spot_of_cell (by simpa [Addr.add] using hcell)
        subst hs
        refine .inr ⟨b, off, rfl, fun i hi => ?_⟩
        obtain ⟨a', c', h1, h2, h3, -⟩ := hp i hi
        rw [Addr.add_lit] at h1
        exact ⟨a', c', h1, h2, h3⟩
    · obtain ⟨i, hi, rfl⟩ := List.getElem_of_mem hl
      obtain ⟨_, _, _, _, _, hb⟩ := hp i hi
      rwa [nrow_eq hi] at hb

theorem owns_readsN {w : World} {base n : Nat} {e : TypeId} {k : IntKind} {v : Value} {m : List Nat} (h : w.ownsRow base e 1 v n (m.map fun x => .int k (x : Nat))) :
    ∃ a c, v = .slice a n c ∧ n = m.length ∧ n ≤ c ∧ c ≤ maxLen ∧ ReadsN k w a m := by
  by_cases hm : m = []
  · subst hm
    obtain ⟨h1, h2⟩ := h
    rcases h2 with ⟨rfl, rfl⟩ | ⟨g, cap, cur, rfl, hbg, hg, hnc, hcm, hcs, htake⟩
    · exact ⟨none, 0, rfl, rfl, Nat.le_refl _, Nat.zero_le _, .inl rfl⟩
    · exact ⟨_, cap, rfl, by simpa using h1.symm, hnc, hcm, .inl rfl⟩
  · obtain ⟨g, c, rfl, h1, h2, h3, -, ho⟩ := own_of_row h hm
    exact ⟨_, c, rfl, h1, h2, h3, ho.reads⟩
end Go.Proofs.Ytffnaigkdocpmab
