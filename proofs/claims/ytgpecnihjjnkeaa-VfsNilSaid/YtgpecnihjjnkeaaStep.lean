/- A change of the directory: the files' map is another, a step waits more. -/
import Derived.Test.YtgpecnihjjnkeaaSyncW
set_option linter.unusedVariables false
set_option linter.unusedSimpArgs false
namespace Go.Vfs
open Go.Lk Go.RowKit
variable {w w2 w3 w4 w5 : World} {R S F S4 : Nat → Prop} {d b : Nat} {x : Fl} {D : Dk} {fc : Nat → Fl}
def Dk.step (D : Dk) (l : List (ByteArray × Nat)) (st : Stp) : Dk := { D with files := l, steps := D.steps ++ [st] }
theorem DiskAt.step (h : DiskAt w d F R D fc) {m1 m2 : Nat} {sv sv' : Value} {l : List (ByteArray × Nat)} {st : Stp} (hd : w.heap[d]? = some (.cells (dcs m1 m2 sv D) 61 (0, 0)))
    (k12 : Keeps (· = m1) w w2) (M2 : SMap w2 m1 (vals l)) (k23 : Keeps Nb w2 w3) (k34 : Keeps S4 w3 w4) (hS4 : ∀ k, S4 k → F k ∧ IsT w3 72 k) (r4 : RowS w4 (Up F w3 w4) R 72 4 sv' (D.steps.length + 1) (D.steps.flatMap stp ++ stp st))
    (k45 : Keeps (· = d) w4 w5) (s5 : w5.heap[d]? = some (.cells (dcs m1 m2 sv' D) 61 (0, 0))) (hf : st.f = none) (hl : l.length ≤ 1000000) (hgs : GoodS st) (hm : ∀ p ∈ l, mnB p.1 = true) (hr : ∀ p ∈ l, ∃ q ∈ D.files, q.2 = p.2) (hst : (D.steps.length : Int) + 1 ≤ D.changes) :
    Now w w5 d F R (D.step l st) fc := by
  have H := Lib.hid h
  obtain ⟨⟨n1, n2, nv, h3, h4, h5, h6, h7, h8, h9⟩, g1, g2, g3, g3b, g4, g5, g6⟩ := h
  rw [hd] at h3
  have e : m1 = n1 ∧ m2 = n2 ∧ sv = nv := by simpa [dcs] using h3
  obtain ⟨rfl, rfl, rfl⟩ := e
  clear h3
  have n : ∀ {k : Nat}, ¬ Nb k := fun e => e
  have hdm1 : ¬ d = m1 := by rintro rfl; obtain ⟨es, cl, q, -⟩ := h4; rw [hd] at q; cases q
  have hdm2 : ¬ d = m2 := by rintro rfl; obtain ⟨es, cl, q, -⟩ := h5; rw [hd] at q; cases q
  have ML2 := h5.keeps k12 (fun e => h6 e.symm)
  have d2 := k12.at hd hdm1
  have d4 := k34.at (k23.nb d2) (fun e => (hS4 _ e).2.ne ⟨_, _, k23.nb d2⟩ (by decide) rfl)
  have M4 := (M2.nb k23).keeps k34 (fun e => by obtain ⟨es, cl, q, -⟩ := M2.nb k23; exact (hS4 _ e).2.map q rfl)
  have M5 := M4.keeps k45 (fun e => hdm1 e.symm)
  have ML4 := (ML2.nb k23).keeps k34 (fun e => by obtain ⟨es, cl, q, -⟩ := ML2.nb k23; exact (hS4 _ e).2.map q rfl)
  have ML5 := ML4.keeps k45 (fun e => hdm2 e.symm)
  have r5 := r4.keeps k45 (fun k _ ht e => ht.ne ⟨_, _, d4⟩ (by decide) e)
  have k2 : Keeps F w w2 := (Keeps.refl F w).trans k12 (fun i _ e => e ▸ h8)
  have k4 : Keeps F w w4 := (k2.trans_nb k23).trans k34 (fun i _ e => (hS4 i e).1)
  have k5 : Keeps F w w5 := k4.trans k45 (fun i _ e => e ▸ g1)
  have kz := k5.size
  have kz2 := k12.size
  have kz3 := k23.size
  have kz4 := k34.size
  have kz5 := k45.size
  refine ⟨Up F w w5, R, ⟨⟨m1, m2, sv', ?_, M5, ML5, h6, ?_, .inl h8, .inl h9⟩, .inl g1, ?_, ?_, ?_, ?_, fun k hk => Up.lt g5 kz hk, fun k hk => Nat.lt_of_lt_of_le (g6 k hk) kz⟩, fun k hk => hk.imp id fun x => x.1, fun k hk => .inl hk, k5⟩
  · exact s5
  · refine RowS.mono (F := Up F w3 w4) (R := R) ?_ (fun k hk => hk.imp id fun ⟨x, y⟩ => ⟨by omega, by omega⟩) (fun _ h => h)
    simpa [Dk.step, List.flatMap_append] using r5
  · intro c hc
    have hr : Ref D c := by
      unfold Ref Dk.step at hc
      simp only [List.mem_append, List.mem_singleton] at hc
      rcases hc with ⟨p, hp, hx⟩ | hx | ⟨p, hp | rfl, hx⟩
      · obtain ⟨q, hq, e⟩ := hr p hp; exact .inl ⟨q, hq, e.trans hx⟩
      · exact .inr (.inl hx)
      · exact .inr (.inr ⟨p, hp, hx⟩)
      · rw [hf] at hx; cases hx
    obtain ⟨q1, q2⟩ := g2 c hr
    have hcd := H.out.ne_file hr
    have hT := q1.isT
    have hcm : ¬ c = m1 := fun e => by subst e; obtain ⟨es, cl, q, -⟩ := h4; exact hT.map q rfl
    have hT2 : IsT w2 65 c := hT.keeps k12 hcm
    have e2 : w2.heap[c]? = w.heap[c]? := k12.block c q1.lt hcm
    have hc2 : c < w2.heap.size := Nat.lt_of_lt_of_le q1.lt kz2
    have e3 : w3.heap[c]? = w2.heap[c]? := k23.block c hc2 n
    have e4 : w4.heap[c]? = w3.heap[c]? := k34.block c (Nat.lt_of_lt_of_le hc2 kz3) (fun e => (hS4 _ e).2.ne (hT2.keeps k23 n) (by decide) rfl)
    have e5 : w5.heap[c]? = w4.heap[c]? := k45.block c (Nat.lt_of_lt_of_le (Nat.lt_of_lt_of_le hc2 kz3) kz4) hcd
    exact ⟨q1.block (e5.trans (e4.trans (e3.trans e2))) k5 (fun k hr hf => g4 k hf hr), .inl q2⟩
  · obtain ⟨z1, z2, z3, z4, z5, z6, z7, z8⟩ := g3
    refine ⟨z1, z2, z3, z4, z5, hl, z7, ?_⟩
    simp only [Dk.step, List.length_append, List.length_cons, List.length_nil]; omega
  · refine ⟨hm, g3b.lasting, fun p hp => ?_⟩
    simp only [Dk.step, List.mem_append, List.mem_singleton] at hp
    rcases hp with hp | rfl
    · exact g3b.steps p hp
    · exact hgs
  · rintro k (hk | hk) hr
    · exact g4 k hk hr
    · have := g6 k hr; omega
/-- A name's entry is gone. -/
def fdel (l : List (ByteArray × Nat)) (s : ByteArray) : List (ByteArray × Nat) := l.filter fun p => decide (p.1 ≠ s)
theorem sdel_vals (l : List (ByteArray × Nat)) (s : ByteArray) : sdel (vals l) s = vals (fdel l s) := by
  unfold sdel vals fdel
  rw [List.filter_map]; rfl
def fput (l : List (ByteArray × Nat)) (s : ByteArray) (b : Nat) : List (ByteArray × Nat) := if l.any (fun p => decide (p.1 = s)) then l.map fun p => if p.1 = s then (s, b) else p else l ++ [(s, b)]
theorem sput_vals' (l : List (ByteArray × Nat)) (s : ByteArray) (b : Nat) : sput (vals l) s (.pointer (some ⟨b, 0, none⟩)) = vals (fput l s b) := by
  unfold sput vals fput shas
  rw [List.any_map, show (l.any ((fun p : ByteArray × Value => decide (p.1 = s)) ∘ fun p : ByteArray × Nat => (p.1, Value.pointer (some ⟨p.2, 0, none⟩)))) = l.any (fun p => decide (p.1 = s)) from rfl]
  by_cases h : (l.any fun p => decide (p.1 = s)) = true
  · rw [if_pos h, if_pos h]
    simp only [List.map_map]
    refine List.map_congr_left fun p hp => ?_
    simp only [Function.comp]
    split <;> rfl
  · rw [if_neg h, if_neg h]
    simp
end Go.Vfs
