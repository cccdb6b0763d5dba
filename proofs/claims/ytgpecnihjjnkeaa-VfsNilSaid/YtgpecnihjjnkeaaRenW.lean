/- Rename: a file goes from name to name. -/
import Derived.Test.YtgpecnihjjnkeaaRemW
set_option linter.unusedVariables false
set_option linter.unusedSimpArgs false
namespace Go.Vfs
open Go.Lk Go.RowKit
def frenm (l : List (ByteArray × Nat)) (s t : ByteArray) (b : Nat) : List (ByteArray × Nat) := fput (fdel l s) t b
def Dk.ren (D : Dk) (s t : ByteArray) (b : Nat) : Dk := D.step (fput (fdel D.files s) t b) ⟨1, s, t, none⟩
/-- What Rename comes to. -/
def RenR (D : Dk) (s t : ByteArray) (e : Int) (D' : Dk) : Prop :=
  (mnB t = false ∧ e = 2 ∧ D' = D) ∨ (mnB t = true ∧ mnB s = false ∧ e = 2 ∧ D' = D) ∨ (mnB t = true ∧ mnB s = true ∧ flook D.files s = none ∧ e = 6 ∧ D' = D) ∨
  ∃ b, mnB t = true ∧ mnB s = true ∧ flook D.files s = some b ∧ ((D.dead = true ∧ e = 8 ∧ D' = D) ∨ (D.dead = false ∧ e = (chg D).2.2 ∧ D' = if (chg D).2.1 = 1 then (chg D).1.ren s t b else (chg D).1))
variable {D : Dk} {l : List (ByteArray × Nat)} {s t : ByteArray} {b : Nat}
theorem fdel_lt (h : flook l s = some b) : (fdel l s).length + 1 ≤ l.length := by
  have h1 := flook_some h
  have h2 : (fdel l s).length < l.length := by
    unfold fdel
    exact List.length_filter_lt_length_iff_exists.2 ⟨_, h1, by simp⟩
  omega
theorem ren_len (h : flook l s = some b) (t : ByteArray) : (fput (fdel l s) t b).length ≤ l.length := by
  have := fdel_lt h
  unfold fput
  split
  · rw [List.length_map]; omega
  · rw [List.length_append]; simpa using this
theorem mem_fput {p : ByteArray × Nat} (h : p ∈ fput l t b) : p ∈ l ∨ p = (t, b) := by
  unfold fput at h
  split at h
  · obtain ⟨q, hq, e⟩ := List.mem_map.1 h
    split at e
    · exact .inr e.symm
    · exact .inl (e ▸ hq)
  · rcases List.mem_append.1 h with h | h
    · exact .inl h
    · exact .inr (by simpa using h)
theorem ren_names (h : ∀ p ∈ l, mnB p.1 = true) (ht : mnB t = true) : ∀ p ∈ fput (fdel l s) t b, mnB p.1 = true := by
  intro p hp
  rcases mem_fput hp with h1 | rfl
  · exact h p (List.mem_filter.1 h1).1
  · exact ht
theorem ren_refs (h : flook l s = some b) : ∀ p ∈ fput (fdel l s) t b, ∃ q ∈ l, q.2 = p.2 := by
  intro p hp
  rcases mem_fput hp with h1 | rfl
  · exact ⟨p, (List.mem_filter.1 h1).1, rfl⟩
  · exact ⟨_, flook_some h, rfl⟩
end Go.Vfs
namespace Go.Proofs.Ytgpecnihjjnkeaa
open Go.RowKit Go.Lk Go.Vfs
set_option maxHeartbeats 4000000 in
theorem ren1_at (d a1 a2 a3 a4 b : Nat) (s t : ByteArray) (D : Dk) (F R : Nat → Prop) (fc : Nat → Fl) (w : World) (h : DiskAt w d F R D fc) (h1 : w.heap[a1]? = some (.cells #[.pointer (some ⟨d, 0, none⟩)] 25 (0, 0))) (h2 : w.heap[a2]? = some (.cells #[.string s] 9 (0, 0)))
    (h2b : w.heap[a3]? = some (.cells #[.pointer (some ⟨b, 0, none⟩)] 63 (0, 0))) (h2c : w.heap[a4]? = some (.cells #[.string t] 9 (0, 0))) (hF1 : ¬ F a1) (hF2 : ¬ F a2) (hF3 : ¬ F a3) (hF4 : ¬ F a4) (hs : s.size ≤ maxLen) (ht : t.size ≤ maxLen) (hmt : mnB t = true) (hfl : flook D.files s = some b) (hst : (D.steps.length : Int) + 1 ≤ D.changes) :
    Calls Try.prog 44 #[.pointer (some ⟨a1, 0, none⟩), .pointer (some ⟨a2, 0, none⟩), .pointer (some ⟨a3, 0, none⟩), .pointer (some ⟨a4, 0, none⟩)] w fun e w' => (∃ v, e = .returned v) ∧ Now w w' d F R (D.ren s t b) fc := by
  have H := Lib.hid h
  obtain ⟨⟨m1, m2, sv, h3, h4, h5, h6, h7, h8, h9⟩, g1, g2, g3, g3b, g4, g5, g6⟩ := h
  have hch : D.changes ≤ 1000000 := g3.ch.2
  have hb72 : ∀ (W : World) (n m : ByteArray), (Instr.build 72 #[(0, .int .i64 1), (1, .string n), (2, .string m)]).run Try.prog W = .ok (.agg #[.int .i64 1, .string n, .string m, .pointer none]) W := fun _ _ _ => by kernel_rfl
  have n : ∀ {k : Nat}, ¬ Nb k := fun e => e
  have HS0 := Lib.hid hs
  have HT0 := Lib.hid ht
  have hdm1 : ¬ d = m1 := by rintro rfl; obtain ⟨es, cl, q, -⟩ := h4; rw [h3] at q; cases q
  have hA1 : ¬ a1 = m1 := by rintro rfl; exact hF1 h8
  have hA2 : ¬ a2 = m1 := by rintro rfl; exact hF2 h8
  have hA3 : ¬ a3 = m1 := by rintro rfl; exact hF3 h8
  have hA4 : ¬ a4 = m1 := by rintro rfl; exact hF4 h8
  have HFL := Lib.hid hfl
  have HMT := Lib.hid hmt
  clear hs ht hfl hmt
  go_enter Try.func44, Try.ntmps44
  go_wp2
  have HS : Hid ((fun u : World => u.cell? ⟨a1, 0, none⟩ = some (.pointer (some ⟨d, 0, none⟩)) ∧ u.cell? ⟨a2, 0, none⟩ = some (.string s) ∧ u.cell? ⟨d, 0, none⟩ = some (.map (some m1))) w.drew) := ⟨cell_of_block h1, cell_of_block h2, cell_of_block h3⟩
  refine WT.region (fun u : World => u.cell? ⟨a1, 0, none⟩ = some (.pointer (some ⟨d, 0, none⟩)) ∧ u.cell? ⟨a2, 0, none⟩ = some (.string s) ∧ u.cell? ⟨d, 0, none⟩ = some (.map (some m1))) 6 6 [0, 1, 2, 3, 4, 5] (by kernel_rfl) rfl ?_
  refine WT.take 0 (v := .pointer (some ⟨d, 0, none⟩)) (by simp only [List.getElem?_toArray, List.getElem?_cons_succ, List.getElem?_cons_zero]; rfl) (by kernel_rfl) (by exact fun _ _ _ h => h) (by rfl) (by rintro w ⟨C1, C2, C3⟩; exact rn_load1 (by kernel_rfl) (by rfl) C1) HS.out ?_
  simp only [Nat.reduceAdd, Nat.zero_add, Act.put, List.setIfInBounds_toArray, List.set_cons_succ, List.set_cons_zero]
  refine WT.take 1 (v := _) (by simp only [List.getElem?_toArray, List.getElem?_cons_succ, List.getElem?_cons_zero]; rfl) (by kernel_rfl) (by exact fun _ _ _ h => h) (by rfl) (by rintro w ⟨C1, C2, C3⟩; go_simp; with_reducible rfl) HS.out ?_
  simp only [Nat.reduceAdd, Nat.zero_add, Act.put, List.setIfInBounds_toArray, List.set_cons_succ, List.set_cons_zero]
  refine WT.take 2 (v := _) (by simp only [List.getElem?_toArray, List.getElem?_cons_succ, List.getElem?_cons_zero]; rfl) (by kernel_rfl) (by exact fun _ _ _ h => h) (by rfl) (by rintro w ⟨C1, C2, C3⟩; go_simp; with_reducible rfl) HS.out ?_
  simp only [Nat.reduceAdd, Nat.zero_add, Act.put, List.setIfInBounds_toArray, List.set_cons_succ, List.set_cons_zero]
  refine WT.take 3 (v := .map (some m1)) (by simp only [List.getElem?_toArray, List.getElem?_cons_succ, List.getElem?_cons_zero]; rfl) (by kernel_rfl) (by exact fun _ _ _ h => h) (by rfl) (by rintro w ⟨C1, C2, C3⟩; exact rn_load1 (by kernel_rfl) (by rfl) C3) HS.out ?_
  simp only [Nat.reduceAdd, Nat.zero_add, Act.put, List.setIfInBounds_toArray, List.set_cons_succ, List.set_cons_zero]
  refine WT.take 4 (v := .string s) (by simp only [List.getElem?_toArray, List.getElem?_cons_succ, List.getElem?_cons_zero]; rfl) (by kernel_rfl) (by exact fun _ _ _ h => h) (by rfl) (by rintro w ⟨C1, C2, C3⟩; exact rn_load1 (by kernel_rfl) (by rfl) C2) HS.out ?_
  simp only [Nat.reduceAdd, Nat.zero_add, Act.put, List.setIfInBounds_toArray, List.set_cons_succ, List.set_cons_zero]
  have M1d : SMap w.drew m1 (vals D.files) := h4
  refine WT.onlyE 5 (by simp only [List.getElem?_toArray, List.getElem?_cons_succ, List.getElem?_cons_zero]; rfl) (by kernel_rfl) (by rfl) (re_sdel M1d smT (by rfl) (by rfl) HS0.out) ?_
  rintro _ w2 ⟨M2, k2⟩
  rw [sdel_vals] at M2
  have k12 : Keeps (· = m1) w w2 := (Keeps.refl (· = m1) w).drew.trans k2 (fun _ _ e => e)
  have d2 := k12.at h3 hdm1
  have f1 := k12.at h1 hA1
  have f2 := k12.at h2 hA2
  have HS2 : Hid ((fun u : World => u.cell? ⟨a1, 0, none⟩ = some (.pointer (some ⟨d, 0, none⟩)) ∧ u.cell? ⟨a2, 0, none⟩ = some (.string s) ∧ u.cell? ⟨d, 0, none⟩ = some (.map (some m1))) w2) := ⟨cell_of_block f1, cell_of_block f2, cell_of_block d2⟩
  refine ⟨HS2.out, ?_⟩
  simp only [Nat.reduceAdd, Nat.zero_add, Act.put, List.setIfInBounds_toArray, List.set_cons_succ, List.set_cons_zero]
  refine WT.stop (by kernel_rfl) ?_
  refine WP.done (by kernel_rfl) ?_
  have f3 := k12.at h2b hA3
  have f4 := k12.at h2c hA4
  clear HS HS2
  go_wp2
  have HSb : Hid ((fun u : World => u.cell? ⟨a1, 0, none⟩ = some (.pointer (some ⟨d, 0, none⟩)) ∧ u.cell? ⟨a4, 0, none⟩ = some (.string t) ∧ u.cell? ⟨a3, 0, none⟩ = some (.pointer (some ⟨b, 0, none⟩)) ∧ u.cell? ⟨d, 0, none⟩ = some (.map (some m1))) w2.drew) := ⟨cell_of_block f1, cell_of_block f4, cell_of_block f3, cell_of_block d2⟩
  refine WT.region (fun u : World => u.cell? ⟨a1, 0, none⟩ = some (.pointer (some ⟨d, 0, none⟩)) ∧ u.cell? ⟨a4, 0, none⟩ = some (.string t) ∧ u.cell? ⟨a3, 0, none⟩ = some (.pointer (some ⟨b, 0, none⟩)) ∧ u.cell? ⟨d, 0, none⟩ = some (.map (some m1))) 6 7 [0, 1, 2, 3, 4, 5, 6] (by kernel_rfl) rfl ?_
  refine WT.take 0 (v := .pointer (some ⟨d, 0, none⟩)) (by simp only [List.getElem?_toArray, List.getElem?_cons_succ, List.getElem?_cons_zero]; rfl) (by kernel_rfl) (by exact fun _ _ _ h => h) (by rfl) (by rintro w ⟨C1, C2, C3, C4⟩; exact rn_load1 (by kernel_rfl) (by rfl) C1) HSb.out ?_
  simp only [Nat.reduceAdd, Nat.zero_add, Act.put, List.setIfInBounds_toArray, List.set_cons_succ, List.set_cons_zero]
  refine WT.take 1 (v := _) (by simp only [List.getElem?_toArray, List.getElem?_cons_succ, List.getElem?_cons_zero]; rfl) (by kernel_rfl) (by exact fun _ _ _ h => h) (by rfl) (by rintro w ⟨C1, C2, C3, C4⟩; go_simp; with_reducible rfl) HSb.out ?_
  simp only [Nat.reduceAdd, Nat.zero_add, Act.put, List.setIfInBounds_toArray, List.set_cons_succ, List.set_cons_zero]
  refine WT.take 2 (v := _) (by simp only [List.getElem?_toArray, List.getElem?_cons_succ, List.getElem?_cons_zero]; rfl) (by kernel_rfl) (by exact fun _ _ _ h => h) (by rfl) (by rintro w ⟨C1, C2, C3, C4⟩; go_simp; with_reducible rfl) HSb.out ?_
  simp only [Nat.reduceAdd, Nat.zero_add, Act.put, List.setIfInBounds_toArray, List.set_cons_succ, List.set_cons_zero]
  refine WT.take 3 (v := .map (some m1)) (by simp only [List.getElem?_toArray, List.getElem?_cons_succ, List.getElem?_cons_zero]; rfl) (by kernel_rfl) (by exact fun _ _ _ h => h) (by rfl) (by rintro w ⟨C1, C2, C3, C4⟩; exact rn_load1 (by kernel_rfl) (by rfl) C4) HSb.out ?_
  simp only [Nat.reduceAdd, Nat.zero_add, Act.put, List.setIfInBounds_toArray, List.set_cons_succ, List.set_cons_zero]
  refine WT.take 4 (v := .string t) (by simp only [List.getElem?_toArray, List.getElem?_cons_succ, List.getElem?_cons_zero]; rfl) (by kernel_rfl) (by exact fun _ _ _ h => h) (by rfl) (by rintro w ⟨C1, C2, C3, C4⟩; exact rn_load1 (by kernel_rfl) (by rfl) C2) HSb.out ?_
  simp only [Nat.reduceAdd, Nat.zero_add, Act.put, List.setIfInBounds_toArray, List.set_cons_succ, List.set_cons_zero]
  refine WT.take 5 (v := .pointer (some ⟨b, 0, none⟩)) (by simp only [List.getElem?_toArray, List.getElem?_cons_succ, List.getElem?_cons_zero]; rfl) (by kernel_rfl) (by exact fun _ _ _ h => h) (by rfl) (by rintro w ⟨C1, C2, C3, C4⟩; exact rn_load1 (by kernel_rfl) (by rfl) C3) HSb.out ?_
  simp only [Nat.reduceAdd, Nat.zero_add, Act.put, List.setIfInBounds_toArray, List.set_cons_succ, List.set_cons_zero]
  refine WT.stop (by kernel_rfl) ?_
  have M2d : SMap w2.drew m1 (vals (fdel D.files s)) := M2
  refine WP.onlySkipE 6 (by simp only [List.getElem?_toArray, List.getElem?_cons_succ, List.getElem?_cons_zero]; rfl) (by kernel_rfl) (by rfl) (re_sput (v := .pointer (some ⟨b, 0, none⟩)) M2d smT (by rfl) (by rfl) (by rfl) HT0.out) ?_
  rintro w2' ⟨M2', k2'⟩
  rw [sput_vals'] at M2'
  simp only [Nat.reduceAdd, Nat.zero_add, Act.put, List.setIfInBounds_toArray, List.set_cons_succ, List.set_cons_zero]
  refine WP.done (by kernel_rfl) ?_
  have k22 : Keeps (· = m1) w w2' := k12.trans ((Keeps.refl (· = m1) w2).drew.trans k2' (fun _ _ e => e)) (fun _ _ e => e)
  have d2' := k22.at h3 hdm1
  have f1' := k22.at h1 hA1
  have f2' := k22.at h2 hA2
  have f4' := k22.at h2c hA4
  clear HSb M2d k2' f1 f2 f3 f4 d2 k12 M2
  have rw2 : RowS w2' F R 72 4 sv D.steps.length (D.steps.flatMap stp) := h7.keeps k22 (fun k _ ht e => by
    subst e; obtain ⟨es, cl, q, -⟩ := h4; exact ht.map q rfl)
  have H1 := Lib.hid h1
  have H2 := Lib.hid h2
  have H3 := Lib.hid h3
  clear M1d k2 h1 h2 h3 h2b h2c
  go_wp2
  have HS : Hid ((fun u : World => u.cell? ⟨a1, 0, none⟩ = some (.pointer (some ⟨d, 0, none⟩)) ∧ u.cell? ⟨a2, 0, none⟩ = some (.string s) ∧ u.cell? ⟨a4, 0, none⟩ = some (.string t) ∧ u.cell? ⟨d, 2, none⟩ = some sv) w2'.drew) := ⟨cell_of_block f1', cell_of_block f2', cell_of_block f4', cell_of_block d2'⟩
  refine WT.region (fun u : World => u.cell? ⟨a1, 0, none⟩ = some (.pointer (some ⟨d, 0, none⟩)) ∧ u.cell? ⟨a2, 0, none⟩ = some (.string s) ∧ u.cell? ⟨a4, 0, none⟩ = some (.string t) ∧ u.cell? ⟨d, 2, none⟩ = some sv) 10 13 [0, 1, 2, 3, 4, 5, 6, 7, 8, 9, 10, 11, 12] (by kernel_rfl) rfl ?_
  refine WT.take 0 (v := .pointer (some ⟨d, 0, none⟩)) (by simp only [List.getElem?_toArray, List.getElem?_cons_succ, List.getElem?_cons_zero]; rfl) (by kernel_rfl) (by exact fun _ _ _ h => h) (by rfl) (by rintro w ⟨C1, C2, C4, C3⟩; exact rn_load1 (by kernel_rfl) (by rfl) C1) HS.out ?_
  simp only [Nat.reduceAdd, Nat.zero_add, Act.put, List.setIfInBounds_toArray, List.set_cons_succ, List.set_cons_zero]
  refine WT.take 1 (v := .pointer (some ⟨d, 0, none⟩)) (by simp only [List.getElem?_toArray, List.getElem?_cons_succ, List.getElem?_cons_zero]; rfl) (by kernel_rfl) (by exact fun _ _ _ h => h) (by rfl) (by rintro w ⟨C1, C2, C4, C3⟩; exact rn_load1 (by kernel_rfl) (by rfl) C1) HS.out ?_
  simp only [Nat.reduceAdd, Nat.zero_add, Act.put, List.setIfInBounds_toArray, List.set_cons_succ, List.set_cons_zero]
  refine WT.take 2 (v := _) (by simp only [List.getElem?_toArray, List.getElem?_cons_succ, List.getElem?_cons_zero]; rfl) (by kernel_rfl) (by exact fun _ _ _ h => h) (by rfl) (by rintro w ⟨C1, C2, C4, C3⟩; go_simp; with_reducible rfl) HS.out ?_
  simp only [Nat.reduceAdd, Nat.zero_add, Act.put, List.setIfInBounds_toArray, List.set_cons_succ, List.set_cons_zero]
  refine WT.take 3 (v := _) (by simp only [List.getElem?_toArray, List.getElem?_cons_succ, List.getElem?_cons_zero]; rfl) (by kernel_rfl) (by exact fun _ _ _ h => h) (by rfl) (by rintro w ⟨C1, C2, C4, C3⟩; go_simp; with_reducible rfl) HS.out ?_
  simp only [Nat.reduceAdd, Nat.zero_add, Act.put, List.setIfInBounds_toArray, List.set_cons_succ, List.set_cons_zero]
  refine WT.take 4 (v := sv) (by simp only [List.getElem?_toArray, List.getElem?_cons_succ, List.getElem?_cons_zero]; rfl) (by kernel_rfl) (by exact fun _ _ _ h => h) (by rfl) (by rintro w ⟨C1, C2, C4, C3⟩; exact rn_load1 (by kernel_rfl) (by rfl) C3) HS.out ?_
  simp only [Nat.reduceAdd, Nat.zero_add, Act.put, List.setIfInBounds_toArray, List.set_cons_succ, List.set_cons_zero]
  refine WT.take 5 (v := .string s) (by simp only [List.getElem?_toArray, List.getElem?_cons_succ, List.getElem?_cons_zero]; rfl) (by kernel_rfl) (by exact fun _ _ _ h => h) (by rfl) (by rintro w ⟨C1, C2, C4, C3⟩; exact rn_load1 (by kernel_rfl) (by rfl) C2) HS.out ?_
  simp only [Nat.reduceAdd, Nat.zero_add, Act.put, List.setIfInBounds_toArray, List.set_cons_succ, List.set_cons_zero]
  refine WT.take 6 (v := .string t) (by simp only [List.getElem?_toArray, List.getElem?_cons_succ, List.getElem?_cons_zero]; rfl) (by kernel_rfl) (by exact fun _ _ _ h => h) (by rfl) (by rintro w ⟨C1, C2, C4, C3⟩; exact rn_load1 (by kernel_rfl) (by rfl) C4) HS.out ?_
  simp only [Nat.reduceAdd, Nat.zero_add, Act.put, List.setIfInBounds_toArray, List.set_cons_succ, List.set_cons_zero]
  refine WT.take 7 (v := .agg #[.int .i64 1, .string s, .string t, .pointer none]) (by simp only [List.getElem?_toArray, List.getElem?_cons_succ, List.getElem?_cons_zero]; rfl) (by kernel_rfl) (by exact fun _ _ _ h => h) (by rfl) (by rintro w ⟨C1, C2, C4, C3⟩; exact rn_b3 (by rfl) (by rfl) (by rfl) (hb72 _ _ _)) HS.out ?_
  simp only [Nat.reduceAdd, Nat.zero_add, Act.put, List.setIfInBounds_toArray, List.set_cons_succ, List.set_cons_zero]
  refine WT.onlyE 8 (by simp only [List.getElem?_toArray, List.getElem?_cons_succ, List.getElem?_cons_zero]; rfl) (by kernel_rfl) (by rfl) (re_buildSlice1 (v := .agg #[.int .i64 1, .string s, .string t, .pointer none]) el57 (by rfl) (by rfl) (by omega)) ?_
  rintro _ w3 ⟨g, rfl, ng⟩
  have k23 : Keeps Nb w2' w3 := (Keeps.refl Nb w2').drew.trans_nb ng.k
  have HS3 : Hid ((fun u : World => u.cell? ⟨a1, 0, none⟩ = some (.pointer (some ⟨d, 0, none⟩)) ∧ u.cell? ⟨a2, 0, none⟩ = some (.string s) ∧ u.cell? ⟨a4, 0, none⟩ = some (.string t) ∧ u.cell? ⟨d, 2, none⟩ = some sv) w3) := ⟨cell_of_block (k23.nb f1'), cell_of_block (k23.nb f2'), cell_of_block (k23.nb f4'), cell_of_block (k23.nb d2')⟩
  refine ⟨HS3.out, ?_⟩
  simp only [Nat.reduceAdd, Nat.zero_add, Act.put, List.setIfInBounds_toArray, List.set_cons_succ, List.set_cons_zero]
  have hns := g3.ns
  refine WT.onlyE 9 (by simp only [List.getElem?_toArray, List.getElem?_cons_succ, List.getElem?_cons_zero]; rfl) (by kernel_rfl) (by rfl) (re_push (news := stp ⟨1, s, t, none⟩) el57 (rw2.keeps k23 (fun _ _ _ => n)) (by rfl) (by rfl) (has_block ng.blk) (by rfl) (by simp [stp, ptr, Value.oneCell']) (by omega) (by unfold maxLen; omega) (by omega)) ?_
  rintro sv' w4 ⟨r4, S4, k34, hS4⟩
  have d4 := k34.at (k23.nb d2') (fun e => (hS4 _ e).2.ne ⟨_, _, k23.nb d2'⟩ (by decide) rfl)
  have HS4 : Hid ((fun u : World => u.cell? ⟨a1, 0, none⟩ = some (.pointer (some ⟨d, 0, none⟩)) ∧ u.cell? ⟨a2, 0, none⟩ = some (.string s) ∧ u.cell? ⟨a4, 0, none⟩ = some (.string t) ∧ u.cell? ⟨d, 2, none⟩ = some sv) w4) := ⟨cell_of_block (k34.at (k23.nb f1') (fun e => hF1 (hS4 _ e).1)), cell_of_block (k34.at (k23.nb f2') (fun e => hF2 (hS4 _ e).1)), cell_of_block (k34.at (k23.nb f4') (fun e => hF4 (hS4 _ e).1)), cell_of_block d4⟩
  refine ⟨HS4.out, ?_⟩
  simp only [Nat.reduceAdd, Nat.zero_add, Act.put, List.setIfInBounds_toArray, List.set_cons_succ, List.set_cons_zero]
  refine WT.stop (by kernel_rfl) ?_
  refine WP.only 10 (v := _) (by simp only [List.getElem?_toArray, List.getElem?_cons_succ, List.getElem?_cons_zero]; rfl) (by kernel_rfl) (by rfl) (by go_simp; first | with_reducible rfl | exact ⟨rfl, rfl⟩) ?_
  simp only [Nat.reduceAdd, Nat.zero_add, Act.put, List.setIfInBounds_toArray, List.set_cons_succ, List.set_cons_zero]
  refine WP.only 11 (v := _) (by simp only [List.getElem?_toArray, List.getElem?_cons_succ, List.getElem?_cons_zero]; rfl) (by kernel_rfl) (by rfl) (by go_simp; first | with_reducible rfl | exact ⟨rfl, rfl⟩) ?_
  simp only [Nat.reduceAdd, Nat.zero_add, Act.put, List.setIfInBounds_toArray, List.set_cons_succ, List.set_cons_zero]
  have o4 : sv'.cells = #[sv'] ∧ sv'.oneCell' = true := by obtain ⟨-, -, a, c, rfl, -⟩ := r4; exact ⟨rfl, rfl⟩
  refine WP.onlySkipE 12 (by simp only [List.getElem?_toArray, List.getElem?_cons_succ, List.getElem?_cons_zero]; rfl) (by kernel_rfl) (by rfl) (re_store (v := sv') (n := 1) (by kernel_rfl) (by rfl) (by rfl) d4 (by rw [o4.1]; rfl) (by simp [dcs]) (by rw [o4.1]; simpa using o4.2)) ?_
  intro w5 s5
  rw [o4.1] at s5
  simp only [Nat.reduceAdd, Nat.zero_add, Act.put, List.setIfInBounds_toArray, List.set_cons_succ, List.set_cons_zero]
  refine WP.done (by kernel_rfl) ?_
  go_wp2
  go_end0
  refine ⟨⟨_, rfl⟩, H.out.step H3.out k22 M2' k23 k34 hS4 r4 s5.k s5.blk rfl ?_ (.inr (.inl ⟨rfl, g3b.files _ (flook_some HFL.out), HMT.out, rfl⟩)) ?_ ?_ hst⟩
  · exact Nat.le_trans (ren_len HFL.out t) g3.nf
  · exact fun p hp => ren_names g3b.files HMT.out p hp
  · exact fun p hp => ren_refs HFL.out p hp
set_option maxHeartbeats 4000000 in
set_option maxRecDepth 100000 in
theorem ren_at (d : Nat) (s t : ByteArray) (D : Dk) (F R : Nat → Prop) (fc : Nat → Fl) (w : World) (h : DiskAt w d F R D fc) (hs : s.size ≤ maxLen) (ht : t.size ≤ maxLen) (hc : D.changes < 1000000) :
    Calls Try.prog 20 #[.pointer (some ⟨d, 0, none⟩), .string s, .string t] w fun e w' => ∃ (er : Int) (D' : Dk), e = .returned (.int .i64 er) ∧ Now w w' d F R D' fc ∧ RenR D s t er D' := by
  have H := Lib.hid h
  have HS := Lib.hid hs
  have HT := Lib.hid ht
  have HC := Lib.hid hc
  obtain ⟨⟨m1, m2, sv, h3, h4, h5, h6, h7, h8, h9⟩, g1, g2, g3, g3b, g4, g5, g6⟩ := h
  have H3 := Lib.hid h3
  have G5 := Lib.hid g5
  have H4 := Lib.hid h4
  clear hs ht hc g2 g3 g3b g4 h5 h6 h7 h3 h4 h8 h9 g1 g5 g6
  go_enter Try.func20, Try.ntmps20
  go_wp2_with (first | go_skip | (with_reducible refine stop_box (t := 25) ?_) | (with_reducible refine stop_box (t := 9) ?_))
  refine at_out (vbox1 (v := .pointer (some ⟨d, 0, none⟩)) (by rfl) (by rfl) ?_)
  intro a1 w1 n1
  simp only [Nat.reduceAdd, Nat.zero_add, Act.put, List.setIfInBounds_toArray, List.set_cons_succ, List.set_cons_zero]
  go_wp2_with (first | go_skip | (with_reducible refine stop_box (t := 25) ?_) | (with_reducible refine stop_box (t := 9) ?_))
  refine at_out (vbox1 (v := .string s) (by rfl) (by rfl) ?_)
  intro a2 w2 n2
  simp only [Nat.reduceAdd, Nat.zero_add, Act.put, List.setIfInBounds_toArray, List.set_cons_succ, List.set_cons_zero]
  go_wp2_with (first | go_skip | (with_reducible refine stop_box (t := 25) ?_) | (with_reducible refine stop_box (t := 9) ?_))
  refine at_out (vbox1 (v := .string t) (by rfl) (by rfl) ?_)
  intro a4 w3 n3
  simp only [Nat.reduceAdd, Nat.zero_add, Act.put, List.setIfInBounds_toArray, List.set_cons_succ, List.set_cons_zero]
  have k3 : Keeps Nb w w3 := (n1.k.trans_nb n2.k).trans_nb n3.k
  have B1 := Lib.hid (n3.k.nb (n2.k.nb n1.blk))
  have B2 := Lib.hid (n3.k.nb n2.blk)
  have B4 := Lib.hid n3.blk
  have XF1 : Hid (¬ F a1) := fun e => by have := G5.out _ e; have := n1.ge; omega
  have XF2 : Hid (¬ F a2) := fun e => by have := G5.out _ e; have := n2.ge; have := n1.k.size; omega
  have XF4 : Hid (¬ F a4) := fun e => by have := G5.out _ e; have := n3.ge; have := n1.k.size; have := n2.k.size; omega
  have c1 : w3.cell? ⟨a1, 0, none⟩ = some (.pointer (some ⟨d, 0, none⟩)) := cell_of_block B1.out
  have c2 : w3.cell? ⟨a2, 0, none⟩ = some (.string s) := cell_of_block B2.out
  have FA := Lib.hid (find_at d m1 m2 sv D w3 (k3.nb H3.out) (H4.out.nb k3) s HS.out)
  clear n1 n2 n3
  go_wp2_with fail
  refine FA.out.mono ?_
  rintro _ w4 ⟨rfl, k34⟩
  obtain ⟨r, er, hr⟩ : ∃ r er, found D s = (r, er) := ⟨_, _, rfl⟩
  have HR := Lib.hid hr
  rw [hr]
  clear hr FA
  simp only
  go_wp2_with (first | go_skip | (with_reducible refine stop_alloc (t := 63) ?_))
  refine at_out (valloc (z := .pointer none) zero63i ?_)
  intro a3 w5 n5
  simp only [Nat.reduceAdd, Nat.zero_add, Act.put, List.setIfInBounds_toArray, List.set_cons_succ, List.set_cons_zero]
  have c5 := n5.blk
  go_wp2_with (first | go_skip | (with_reducible refine stop_store (t := 63) ?_))
  refine at_out (wpList_skipE rfl (re_store (v := ptr r) (n := 1) (by kernel_rfl) (by rfl) (by rfl) c5 (by cases r <;> rfl) (by simp [Value.cells]) (by cases r <;> simp [ptr, Value.cells, Value.oneCell'])) ?_)
  intro w6 s6
  simp only [Nat.reduceAdd, Nat.zero_add, Act.put, List.setIfInBounds_toArray, List.set_cons_succ, List.set_cons_zero]
  have k36 : Keeps Nb w3 w6 := (k34.trans_nb n5.k).own (Nat.le_trans k34.size n5.ge) s6.k
  have k6 : Keeps Nb w w6 := k3.trans_nb k36
  have XF3 : Hid (¬ F a3) := fun e => by have := G5.out _ e; have := n5.ge; have := k34.size; have := k3.size; omega
  have B3 : Hid (w6.heap[a3]? = some (.cells #[ptr r] 63 (0, 0))) := by
    have := s6.blk; cases r <;> exact this
  have B16 := Lib.hid (k36.nb B1.out)
  have B26 := Lib.hid (k36.nb B2.out)
  have B46 := Lib.hid (k36.nb B4.out)
  have c16 : w6.cell? ⟨a1, 0, none⟩ = some (.pointer (some ⟨d, 0, none⟩)) := cell_of_block B16.out
  have c46 : w6.cell? ⟨a4, 0, none⟩ = some (.string t) := cell_of_block B46.out
  clear n5 c5 s6 c1 c2 k34 k36 B1 B2 B4
  have her : er = 2 ∨ er = 6 ∨ er = 0 := by
    rcases found_cases D s with ⟨q1, q2⟩ | ⟨q1, q2, q3⟩ | ⟨b, q1, q2, q3⟩
    · have := q2.symm.trans HR.out; simp at this; omega
    · have := q3.symm.trans HR.out; simp at this; omega
    · have := q3.symm.trans HR.out; simp at this; omega
  have her1 : ¬ er = 1 := by omega
  have NA := Lib.hid (name_at t HT.out w6)
  go_wp2_with fail
  refine NA.out.mono ?_
  rintro _ w7 ⟨rfl, k67⟩
  have k7 : Keeps Nb w w7 := k6.trans_nb k67
  have c17 : w7.cell? ⟨a1, 0, none⟩ = some (.pointer (some ⟨d, 0, none⟩)) := cell_of_block (k67.nb B16.out)
  cases hmt : mnB t
  · go_wp2
    go_ret
    exact ⟨_, _, rfl, Now.same H.out k7, .inl ⟨hmt, rfl, rfl⟩⟩
  have MT := Lib.hid hmt
  have B37 := Lib.hid (k67.nb B3.out)
  have B17 := Lib.hid (k67.nb B16.out)
  have B27 := Lib.hid (k67.nb B26.out)
  have B47 := Lib.hid (k67.nb B46.out)
  clear hmt NA c16 c46 B3 B16 B26 B46 her her1
  rcases found_cases D s with ⟨q1, q2⟩ | ⟨q1, q2, q3⟩ | ⟨b, q1, q2, q3⟩
  · obtain ⟨rfl, rfl⟩ : none = r ∧ (2 : Int) = er := by have := q2.symm.trans HR.out; simpa using this
    clear q2
    go_wp2
    go_ret
    exact ⟨_, _, rfl, Now.same H.out k7, .inr (.inl ⟨MT.out, q1, rfl, rfl⟩)⟩
  · obtain ⟨rfl, rfl⟩ : none = r ∧ (6 : Int) = er := by have := q3.symm.trans HR.out; simpa using this
    clear q3
    go_wp2
    go_ret
    exact ⟨_, _, rfl, Now.same H.out k7, .inr (.inr (.inl ⟨MT.out, q1, q2, rfl, rfl⟩))⟩
  · obtain ⟨rfl, rfl⟩ : some b = r ∧ (0 : Int) = er := by have := q3.symm.trans HR.out; simpa using this
    have Q1 := Lib.hid q1
    have Q2 := Lib.hid q2
    clear q1 q2 q3
    cases hdd : D.dead
    · have HW : Hid (Ways w7 d m1 m2 sv (chg D).1 (chg D).2.1 44 36 36 #[.pointer (some ⟨a1, 0, none⟩), .pointer (some ⟨a2, 0, none⟩), .pointer (some ⟨a3, 0, none⟩), .pointer (some ⟨a4, 0, none⟩)] #[] #[] fun w' => Now w w' d F R (if (chg D).2.1 = 1 then (chg D).1.ren s t b else (chg D).1) fc) := by
        intro w8 hb4 hk4
        have D4 := (H.out.nb k7).chg (k7.nb H3.out) hb4 hk4 HC.out
        have kw4 : Keeps F w w8 := ((Keeps.refl F w).trans_nb k7).trans hk4 (fun i _ e => e ▸ H.out.fd)
        have nd1 : ¬ a1 = d := fun e => XF1.out (e ▸ H.out.fd)
        have nd2 : ¬ a2 = d := fun e => XF2.out (e ▸ H.out.fd)
        have nd3 : ¬ a3 = d := fun e => XF3.out (e ▸ H.out.fd)
        have nd4 : ¬ a4 = d := fun e => XF4.out (e ▸ H.out.fd)
        have hn := chg_same D
        have hno : (chg D).2.1 ≠ 1 → Now w w8 d F R (if (chg D).2.1 = 1 then (chg D).1.ren s t b else (chg D).1) fc := fun e => by rw [if_neg e]; exact Now.of D4 kw4
        refine ⟨fun e => hno (by omega), fun e => ?_, fun e => ?_, fun e => ?_⟩
        · refine (ren1_at d a1 a2 a3 a4 b s t (chg D).1 F R fc w8 D4 (hk4.at B17.out nd1) (hk4.at B27.out nd2) (hk4.at B37.out nd3) (hk4.at B47.out nd4) XF1.out XF2.out XF3.out XF4.out HS.out HT.out MT.out (by rw [hn.1]; exact Q2.out) (by rw [hn.2.2.1, hn.2.2.2.1]; have := H.out.nums.ns; omega)).mono ?_
          rintro e5 w5 ⟨hv, hN⟩
          rw [if_pos e]
          exact ⟨hv, hN.from kw4⟩
        · exact ways_nothing (hno (by omega))
        · exact ways_nothing (hno (by omega))
      have hnu := H.out.nums
      have CA := Lib.hid (change_at d m1 m2 sv D w7 (k7.nb H3.out) hdd ⟨hnu.ch.1, hnu.ch.2⟩ hnu.fu hnu.fn hnu.fe 44 36 36 #[.pointer (some ⟨a1, 0, none⟩), .pointer (some ⟨a2, 0, none⟩), .pointer (some ⟨a3, 0, none⟩), .pointer (some ⟨a4, 0, none⟩)] #[] #[] (fun _ _ => rfl) (fun _ _ => rfl) (fun _ _ => rfl) _ HW.out)
      have HD := Lib.hid hdd
      clear HW hdd hnu
      go_wp2_with fail
      refine CA.out.mono ?_
      rintro _ w9 ⟨rfl, hN⟩
      go_wp2
      go_ret
      exact ⟨_, _, rfl, hN, .inr (.inr (.inr ⟨b, MT.out, Q1.out, Q2.out, .inr ⟨HD.out, rfl, rfl⟩⟩))⟩
    · have CA := Lib.hid (change_dead d m1 m2 sv D w7 (k7.nb H3.out) hdd (.func (.func 44) #[] #[.pointer (some ⟨a1, 0, none⟩), .pointer (some ⟨a2, 0, none⟩), .pointer (some ⟨a3, 0, none⟩), .pointer (some ⟨a4, 0, none⟩)]) (.func (.func 36) #[] #[]) (.func (.func 36) #[] #[]))
      have HD := Lib.hid hdd
      clear hdd
      go_wp2_with fail
      refine CA.out.mono ?_
      rintro _ w9 ⟨rfl, rfl⟩
      go_wp2
      go_ret
      exact ⟨_, _, rfl, Now.same H.out k7, .inr (.inr (.inr ⟨b, MT.out, Q1.out, Q2.out, .inl ⟨HD.out, rfl, rfl⟩⟩))⟩
end Go.Proofs.Ytgpecnihjjnkeaa
