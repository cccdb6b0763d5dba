/- Remove: a name is taken away. -/
import Derived.Test.YtgpecnihjjnkeaaStep
set_option linter.unusedVariables false
set_option linter.unusedSimpArgs false
namespace Go.Vfs
open Go.Lk Go.RowKit
def Dk.rem (D : Dk) (s : ByteArray) : Dk := D.step (fdel D.files s) ⟨2, s, ByteArray.empty, none⟩
/-- What Remove comes to. -/
def RemR (D : Dk) (s : ByteArray) (e : Int) (D' : Dk) : Prop :=
  (mnB s = false ∧ e = 2 ∧ D' = D) ∨ (mnB s = true ∧ flook D.files s = none ∧ e = 6 ∧ D' = D) ∨
  ∃ b, mnB s = true ∧ flook D.files s = some b ∧ ((D.dead = true ∧ e = 8 ∧ D' = D) ∨ (D.dead = false ∧ e = (chg D).2.2 ∧ D' = if (chg D).2.1 = 1 then (chg D).1.rem s else (chg D).1))
end Go.Vfs
namespace Go.Proofs.Ytgpecnihjjnkeaa
open Go.RowKit Go.Lk Go.Vfs
theorem rn_b01 {P : Program} {w : World} {a : Act} {dst : Option Tmp} {t ty : TypeId} {pos : String} {aft : Array Edge} {gd : Option (Nat × Bool)} {x y : Operand} {u1 u2 v : Value} (hx : a.eval x = u1) (hy : a.eval y = u2) (h : (Instr.build t #[(0, u1), (1, u2)]).run P w = .ok v w) :
    (execOp a.eval ⟨dst, .build t #[(0, x), (1, y)], ty, pos, aft, gd⟩).run P w = .ok (.value v) w := by
  unfold execOp
  simp [hx, hy, h, Sem.run_bind, Result.andThen_ok, Sem.run_pure]
set_option maxHeartbeats 4000000 in
theorem rem1_at (d a1 a2 : Nat) (s : ByteArray) (D : Dk) (F R : Nat → Prop) (fc : Nat → Fl) (w : World) (h : DiskAt w d F R D fc) (h1 : w.heap[a1]? = some (.cells #[.pointer (some ⟨d, 0, none⟩)] 25 (0, 0))) (h2 : w.heap[a2]? = some (.cells #[.string s] 9 (0, 0)))
    (hF1 : ¬ F a1) (hF2 : ¬ F a2) (hs : s.size ≤ maxLen) (hmn : mnB s = true) (hst : (D.steps.length : Int) + 1 ≤ D.changes) :
    Calls Try.prog 53 #[.pointer (some ⟨a1, 0, none⟩), .pointer (some ⟨a2, 0, none⟩)] w fun e w' => (∃ v, e = .returned v) ∧ Now w w' d F R (D.rem s) fc := by
  have H := Lib.hid h
  obtain ⟨⟨m1, m2, sv, h3, h4, h5, h6, h7, h8, h9⟩, g1, g2, g3, g3b, g4, g5, g6⟩ := h
  have hch : D.changes ≤ 1000000 := g3.ch.2
  have hb72 : ∀ (W : World) (n : ByteArray), (Instr.build 72 #[(0, .int .i64 2), (1, .string n)]).run Try.prog W = .ok (.agg #[.int .i64 2, .string n, .string ByteArray.empty, .pointer none]) W := fun _ _ => by kernel_rfl
  have n : ∀ {k : Nat}, ¬ Nb k := fun e => e
  have HS0 := Lib.hid hs
  have HMN := Lib.hid hmn
  clear hmn
  have hdm1 : ¬ d = m1 := by rintro rfl; obtain ⟨es, cl, q, -⟩ := h4; rw [h3] at q; cases q
  have hA1 : ¬ a1 = m1 := by rintro rfl; exact hF1 h8
  have hA2 : ¬ a2 = m1 := by rintro rfl; exact hF2 h8
  clear hs
  go_enter Try.func53, Try.ntmps53
  go_wp2
  have HS : Hid ((fun u : World => u.cell? ⟨a1, 0, none⟩ = some (.pointer (some ⟨d, 0, none⟩)) ∧ u.cell? ⟨a2, 0, none⟩ = some (.string s) ∧ u.cell? ⟨d, 0, none⟩ = some (.map (some m1))) w.drew) := ⟨cell_of_block h1, cell_of_block h2, cell_of_block h3⟩
  refine WT.region (fun u : World => u.cell? ⟨a1, 0, none⟩ = some (.pointer (some ⟨d, 0, none⟩)) ∧ u.cell? ⟨a2, 0, none⟩ = some (.string s) ∧ u.cell? ⟨d, 0, none⟩ = some (.map (some m1))) 6 6 [0, 1, 2, 3, 4, 5] (by kernel_rfl) rfl ?_
  refine WT.take 0 (v := .pointer (some ⟨d, 0, none⟩)) (by simp only [List.getElem?_toArray, List.getElem?_cons_succ, List.getElem?_cons_zero]; rfl) (by kernel_rfl) (by exact fun _ _ _ h => h) (by rfl) (by rintro w ⟨C1, C2, C3⟩; exact rn_load1 (by kernel_rfl) (by rfl) C1) HS.out ?_
  simp only [Nat.reduceAdd, Nat.zero_add, Act.put, List.setIfInBounds_toArray, List.set_cons_succ, List.set_cons_zero]
  refine WT.take 1 (v := _) (by simp only [List.getElem?_toArray, List.getElem?_cons_succ, List.getElem?_cons_zero]; rfl) (by kernel_rfl) (by exact fun _ _ _ h => h) (by rfl) (by rintro w ⟨C1, C2, C3⟩; go_simp; with_reducible rfl) HS.out ?_
  simp only [Nat.reduceAdd, Nat.zero_add, Act.put, List.setIfInBounds_toArray, List.set_cons_succ, List.set_cons_zero]
  refine WT.take 2 (v := _) (by simp only [List.getElem?_toArray, List.getElem?_cons_succ, List.getElem?_cons_zero]; rfl) (by kernel_rfl) (by exact fun _ _ _ h => h) (by rfl) (by rintro w ⟨C1, C2, C3⟩; go_simp; with_reducible rfl) HS.out ?_
  simp only [Nat.reduceAdd, Nat.zero_add, Act.put, List.setIfInBounds_toArray, List.set_cons_succ, List.set_cons_zero]
  refine WT.take 3 (v := .map (some m1)) (by simp only [List.getElem?_toArray, List.getElem?_cons_succ, List.getElem?_cons_zero]; rfl) (by kernel_rfl) (by exact fun _ _ _ h => h) (by rfl) (by rintro w ⟨C1, C2, C3⟩; exact rn_load1 (by kernel_rfl) (by rfl) C3) HS.out ?_
  simp only [Nat.reduceAdd, Nat.zero_add, Act.put, List.setIfInBounds_toArray, List.set_cons_succ, List.set_cons_zero]
  refine WT.take 4 (v := .string s) (by simp only [List.getElem?_toArray, List.getElem?_cons_succ, List.getElem?_cons_zero]; rfl) (by kernel_rfl) (by exact fun _ _ _ h => h) (by rfl) (by rintro w ⟨C1, C2, C3⟩; exact rn_load1 (by kernel_rfl) (by rfl) C2) HS.out ?_
  simp only [Nat.reduceAdd, Nat.zero_add, Act.put, List.setIfInBounds_toArray, List.set_cons_succ, List.set_cons_zero]
  have M1d : SMap w.drew m1 (vals D.files) := h4
  refine WT.onlyE 5 (by simp only [List.getElem?_toArray, List.getElem?_cons_succ, List.getElem?_cons_zero]; rfl) (by kernel_rfl) (by rfl) (re_sdel M1d smT (by rfl) (by rfl) HS0.out) ?_
  rintro _ w2 ⟨M2, k2⟩
  rw [sdel_vals] at M2
  have k12 : Keeps (· = m1) w w2 := (Keeps.refl (· = m1) w).drew.trans k2 (fun _ _ e => e)
  have d2 := k12.at h3 hdm1
  have f1 := k12.at h1 hA1
  have f2 := k12.at h2 hA2
  have HS2 : Hid ((fun u : World => u.cell? ⟨a1, 0, none⟩ = some (.pointer (some ⟨d, 0, none⟩)) ∧ u.cell? ⟨a2, 0, none⟩ = some (.string s) ∧ u.cell? ⟨d, 0, none⟩ = some (.map (some m1))) w2) := ⟨cell_of_block f1, cell_of_block f2, cell_of_block d2⟩
  refine ⟨HS2.out, ?_⟩
  simp only [Nat.reduceAdd, Nat.zero_add, Act.put, List.setIfInBounds_toArray, List.set_cons_succ, List.set_cons_zero]
  refine WT.stop (by kernel_rfl) ?_
  refine WP.done (by kernel_rfl) ?_
  have rw2 : RowS w2 F R 72 4 sv D.steps.length (D.steps.flatMap stp) := h7.keeps k12 (fun k _ ht e => by
    subst e; obtain ⟨es, cl, q, -⟩ := h4; exact ht.map q rfl)
  have H1 := Lib.hid h1
  have H2 := Lib.hid h2
  have H3 := Lib.hid h3
  clear HS HS2 M1d k2 h1 h2 h3
  go_wp2
  have HS : Hid ((fun u : World => u.cell? ⟨a1, 0, none⟩ = some (.pointer (some ⟨d, 0, none⟩)) ∧ u.cell? ⟨a2, 0, none⟩ = some (.string s) ∧ u.cell? ⟨d, 2, none⟩ = some sv) w2.drew) := ⟨cell_of_block f1, cell_of_block f2, cell_of_block d2⟩
  refine WT.region (fun u : World => u.cell? ⟨a1, 0, none⟩ = some (.pointer (some ⟨d, 0, none⟩)) ∧ u.cell? ⟨a2, 0, none⟩ = some (.string s) ∧ u.cell? ⟨d, 2, none⟩ = some sv) 9 12 [0, 1, 2, 3, 4, 5, 6, 7, 8, 9, 10, 11] (by kernel_rfl) rfl ?_
  refine WT.take 0 (v := .pointer (some ⟨d, 0, none⟩)) (by simp only [List.getElem?_toArray, List.getElem?_cons_succ, List.getElem?_cons_zero]; rfl) (by kernel_rfl) (by exact fun _ _ _ h => h) (by rfl) (by rintro w ⟨C1, C2, C3⟩; exact rn_load1 (by kernel_rfl) (by rfl) C1) HS.out ?_
  simp only [Nat.reduceAdd, Nat.zero_add, Act.put, List.setIfInBounds_toArray, List.set_cons_succ, List.set_cons_zero]
  refine WT.take 1 (v := .pointer (some ⟨d, 0, none⟩)) (by simp only [List.getElem?_toArray, List.getElem?_cons_succ, List.getElem?_cons_zero]; rfl) (by kernel_rfl) (by exact fun _ _ _ h => h) (by rfl) (by rintro w ⟨C1, C2, C3⟩; exact rn_load1 (by kernel_rfl) (by rfl) C1) HS.out ?_
  simp only [Nat.reduceAdd, Nat.zero_add, Act.put, List.setIfInBounds_toArray, List.set_cons_succ, List.set_cons_zero]
  refine WT.take 2 (v := _) (by simp only [List.getElem?_toArray, List.getElem?_cons_succ, List.getElem?_cons_zero]; rfl) (by kernel_rfl) (by exact fun _ _ _ h => h) (by rfl) (by rintro w ⟨C1, C2, C3⟩; go_simp; with_reducible rfl) HS.out ?_
  simp only [Nat.reduceAdd, Nat.zero_add, Act.put, List.setIfInBounds_toArray, List.set_cons_succ, List.set_cons_zero]
  refine WT.take 3 (v := _) (by simp only [List.getElem?_toArray, List.getElem?_cons_succ, List.getElem?_cons_zero]; rfl) (by kernel_rfl) (by exact fun _ _ _ h => h) (by rfl) (by rintro w ⟨C1, C2, C3⟩; go_simp; with_reducible rfl) HS.out ?_
  simp only [Nat.reduceAdd, Nat.zero_add, Act.put, List.setIfInBounds_toArray, List.set_cons_succ, List.set_cons_zero]
  refine WT.take 4 (v := sv) (by simp only [List.getElem?_toArray, List.getElem?_cons_succ, List.getElem?_cons_zero]; rfl) (by kernel_rfl) (by exact fun _ _ _ h => h) (by rfl) (by rintro w ⟨C1, C2, C3⟩; exact rn_load1 (by kernel_rfl) (by rfl) C3) HS.out ?_
  simp only [Nat.reduceAdd, Nat.zero_add, Act.put, List.setIfInBounds_toArray, List.set_cons_succ, List.set_cons_zero]
  refine WT.take 5 (v := .string s) (by simp only [List.getElem?_toArray, List.getElem?_cons_succ, List.getElem?_cons_zero]; rfl) (by kernel_rfl) (by exact fun _ _ _ h => h) (by rfl) (by rintro w ⟨C1, C2, C3⟩; exact rn_load1 (by kernel_rfl) (by rfl) C2) HS.out ?_
  simp only [Nat.reduceAdd, Nat.zero_add, Act.put, List.setIfInBounds_toArray, List.set_cons_succ, List.set_cons_zero]
  refine WT.take 6 (v := .agg #[.int .i64 2, .string s, .string ByteArray.empty, .pointer none]) (by simp only [List.getElem?_toArray, List.getElem?_cons_succ, List.getElem?_cons_zero]; rfl) (by kernel_rfl) (by exact fun _ _ _ h => h) (by rfl) (by rintro w ⟨C1, C2, C3⟩; exact rn_b01 (by rfl) (by rfl) (hb72 _ _)) HS.out ?_
  simp only [Nat.reduceAdd, Nat.zero_add, Act.put, List.setIfInBounds_toArray, List.set_cons_succ, List.set_cons_zero]
  refine WT.onlyE 7 (by simp only [List.getElem?_toArray, List.getElem?_cons_succ, List.getElem?_cons_zero]; rfl) (by kernel_rfl) (by rfl) (re_buildSlice1 (v := .agg #[.int .i64 2, .string s, .string ByteArray.empty, .pointer none]) el57 (by rfl) (by rfl) (by omega)) ?_
  rintro _ w3 ⟨g, rfl, ng⟩
  have k23 : Keeps Nb w2 w3 := (Keeps.refl Nb w2).drew.trans_nb ng.k
  have HS3 : Hid ((fun u : World => u.cell? ⟨a1, 0, none⟩ = some (.pointer (some ⟨d, 0, none⟩)) ∧ u.cell? ⟨a2, 0, none⟩ = some (.string s) ∧ u.cell? ⟨d, 2, none⟩ = some sv) w3) := ⟨cell_of_block (k23.nb f1), cell_of_block (k23.nb f2), cell_of_block (k23.nb d2)⟩
  refine ⟨HS3.out, ?_⟩
  simp only [Nat.reduceAdd, Nat.zero_add, Act.put, List.setIfInBounds_toArray, List.set_cons_succ, List.set_cons_zero]
  have hns := g3.ns
  refine WT.onlyE 8 (by simp only [List.getElem?_toArray, List.getElem?_cons_succ, List.getElem?_cons_zero]; rfl) (by kernel_rfl) (by rfl) (re_push (news := stp ⟨2, s, ByteArray.empty, none⟩) el57 (rw2.keeps k23 (fun _ _ _ => n)) (by rfl) (by rfl) (has_block ng.blk) (by rfl) (by simp [stp, ptr, Value.oneCell']) (by omega) (by unfold maxLen; omega) (by omega)) ?_
  rintro sv' w4 ⟨r4, S4, k34, hS4⟩
  have d4 := k34.at (k23.nb d2) (fun e => (hS4 _ e).2.ne ⟨_, _, k23.nb d2⟩ (by decide) rfl)
  have HS4 : Hid ((fun u : World => u.cell? ⟨a1, 0, none⟩ = some (.pointer (some ⟨d, 0, none⟩)) ∧ u.cell? ⟨a2, 0, none⟩ = some (.string s) ∧ u.cell? ⟨d, 2, none⟩ = some sv) w4) := ⟨cell_of_block (k34.at (k23.nb f1) (fun e => hF1 (hS4 _ e).1)), cell_of_block (k34.at (k23.nb f2) (fun e => hF2 (hS4 _ e).1)), cell_of_block d4⟩
  refine ⟨HS4.out, ?_⟩
  simp only [Nat.reduceAdd, Nat.zero_add, Act.put, List.setIfInBounds_toArray, List.set_cons_succ, List.set_cons_zero]
  refine WT.stop (by kernel_rfl) ?_
  refine WP.only 9 (v := _) (by simp only [List.getElem?_toArray, List.getElem?_cons_succ, List.getElem?_cons_zero]; rfl) (by kernel_rfl) (by rfl) (by go_simp; first | with_reducible rfl | exact ⟨rfl, rfl⟩) ?_
  simp only [Nat.reduceAdd, Nat.zero_add, Act.put, List.setIfInBounds_toArray, List.set_cons_succ, List.set_cons_zero]
  refine WP.only 10 (v := _) (by simp only [List.getElem?_toArray, List.getElem?_cons_succ, List.getElem?_cons_zero]; rfl) (by kernel_rfl) (by rfl) (by go_simp; first | with_reducible rfl | exact ⟨rfl, rfl⟩) ?_
  simp only [Nat.reduceAdd, Nat.zero_add, Act.put, List.setIfInBounds_toArray, List.set_cons_succ, List.set_cons_zero]
  have o4 : sv'.cells = #[sv'] ∧ sv'.oneCell' = true := by obtain ⟨-, -, a, c, rfl, -⟩ := r4; exact ⟨rfl, rfl⟩
  refine WP.onlySkipE 11 (by simp only [List.getElem?_toArray, List.getElem?_cons_succ, List.getElem?_cons_zero]; rfl) (by kernel_rfl) (by rfl) (re_store (v := sv') (n := 1) (by kernel_rfl) (by rfl) (by rfl) d4 (by rw [o4.1]; rfl) (by simp [dcs]) (by rw [o4.1]; simpa using o4.2)) ?_
  intro w5 s5
  rw [o4.1] at s5
  simp only [Nat.reduceAdd, Nat.zero_add, Act.put, List.setIfInBounds_toArray, List.set_cons_succ, List.set_cons_zero]
  refine WP.done (by kernel_rfl) ?_
  go_wp2
  go_end0
  refine ⟨⟨_, rfl⟩, H.out.step H3.out k12 M2 k23 k34 hS4 r4 s5.k s5.blk rfl ?_ (.inr (.inr ⟨rfl, HMN.out, rfl⟩)) ?_ ?_ hst⟩
  · exact Nat.le_trans (List.length_filter_le _ _) g3.nf
  · exact fun p hp => g3b.files p (List.mem_filter.1 hp).1
  · exact fun p hp => ⟨p, (List.mem_filter.1 hp).1, rfl⟩
set_option maxHeartbeats 4000000 in
set_option maxRecDepth 100000 in
theorem rem_at (d : Nat) (s : ByteArray) (D : Dk) (F R : Nat → Prop) (fc : Nat → Fl) (w : World) (h : DiskAt w d F R D fc) (hs : s.size ≤ maxLen) (hc : D.changes < 1000000) :
    Calls Try.prog 30 #[.pointer (some ⟨d, 0, none⟩), .string s] w fun e w' => ∃ (er : Int) (D' : Dk), e = .returned (.int .i64 er) ∧ Now w w' d F R D' fc ∧ RemR D s er D' := by
  have H := Lib.hid h
  have HS := Lib.hid hs
  have HC := Lib.hid hc
  obtain ⟨⟨m1, m2, sv, h3, h4, h5, h6, h7, h8, h9⟩, g1, g2, g3, g3b, g4, g5, g6⟩ := h
  have H3 := Lib.hid h3
  have G5 := Lib.hid g5
  have H4 := Lib.hid h4
  clear hs hc g2 g3 g3b g4 h5 h6 h7 h3 h4 h8 h9 g1 g5 g6
  go_enter Try.func30, Try.ntmps30
  go_wp2_with (first | go_skip | (with_reducible refine stop_box (t := 25) ?_) | (with_reducible refine stop_box (t := 9) ?_))
  refine at_out (vbox1 (v := .pointer (some ⟨d, 0, none⟩)) (by rfl) (by rfl) ?_)
  intro a1 w1 n1
  simp only [Nat.reduceAdd, Nat.zero_add, Act.put, List.setIfInBounds_toArray, List.set_cons_succ, List.set_cons_zero]
  go_wp2_with (first | go_skip | (with_reducible refine stop_box (t := 25) ?_) | (with_reducible refine stop_box (t := 9) ?_))
  refine at_out (vbox1 (v := .string s) (by rfl) (by rfl) ?_)
  intro a2 w2 n2
  simp only [Nat.reduceAdd, Nat.zero_add, Act.put, List.setIfInBounds_toArray, List.set_cons_succ, List.set_cons_zero]
  have k2 : Keeps Nb w w2 := n1.k.trans_nb n2.k
  have b1 := n2.k.nb n1.blk
  have b2 := n2.blk
  have x1 : ¬ F a1 := fun e => by have := G5.out _ e; have := n1.ge; omega
  have x2 : ¬ F a2 := fun e => by have := G5.out _ e; have := n2.ge; have := n1.k.size; omega
  have XF1 := Lib.hid x1
  have XF2 := Lib.hid x2
  have c1 : w2.cell? ⟨a1, 0, none⟩ = some (.pointer (some ⟨d, 0, none⟩)) := cell_of_block b1
  have c2 : w2.cell? ⟨a2, 0, none⟩ = some (.string s) := cell_of_block b2
  have FA := Lib.hid (find_at d m1 m2 sv D w2 (k2.nb H3.out) (H4.out.nb k2) s HS.out)
  clear n1 n2 x1 x2
  go_wp2_with fail
  refine FA.out.mono ?_
  rintro _ w3 ⟨rfl, k23⟩
  have k3 : Keeps Nb w w3 := k2.trans_nb k23
  have B3 := Lib.hid (k23.nb b1)
  have B23 := Lib.hid (k23.nb b2)
  have c13 : w3.cell? ⟨a1, 0, none⟩ = some (.pointer (some ⟨d, 0, none⟩)) := cell_of_block B3.out
  have c23 : w3.cell? ⟨a2, 0, none⟩ = some (.string s) := cell_of_block B23.out
  clear FA b1 b2 c1 c2 k23 k2
  rcases found_cases D s with ⟨q1, q2⟩ | ⟨q1, q2, q3⟩ | ⟨b, q1, q2, q3⟩
  · rw [q2]
    clear q2
    go_wp2
    go_ret
    exact ⟨_, _, rfl, Now.same H.out k3, .inl ⟨q1, rfl, rfl⟩⟩
  · rw [q3]
    clear q3
    go_wp2
    go_ret
    exact ⟨_, _, rfl, Now.same H.out k3, .inr (.inl ⟨q1, q2, rfl, rfl⟩)⟩
  · rw [q3]
    have Q1 := Lib.hid q1
    have Q2 := Lib.hid q2
    clear q1 q2 q3
    cases hdd : D.dead
    · have HW : Hid (Ways w3 d m1 m2 sv (chg D).1 (chg D).2.1 53 36 36 #[.pointer (some ⟨a1, 0, none⟩), .pointer (some ⟨a2, 0, none⟩)] #[] #[] fun w' => Now w w' d F R (if (chg D).2.1 = 1 then (chg D).1.rem s else (chg D).1) fc) := by
        intro w4 hb4 hk4
        have D4 := (H.out.nb k3).chg (k3.nb H3.out) hb4 hk4 HC.out
        have kw4 : Keeps F w w4 := ((Keeps.refl F w).trans_nb k3).trans hk4 (fun i _ e => e ▸ H.out.fd)
        have nd1 : ¬ a1 = d := fun e => XF1.out (e ▸ H.out.fd)
        have nd2 : ¬ a2 = d := fun e => XF2.out (e ▸ H.out.fd)
        have hn := chg_same D
        have hno : (chg D).2.1 ≠ 1 → Now w w4 d F R (if (chg D).2.1 = 1 then (chg D).1.rem s else (chg D).1) fc := fun e => by rw [if_neg e]; exact Now.of D4 kw4
        refine ⟨fun e => hno (by omega), fun e => ?_, fun e => ?_, fun e => ?_⟩
        · refine (rem1_at d a1 a2 s (chg D).1 F R fc w4 D4 (hk4.at B3.out nd1) (hk4.at B23.out nd2) XF1.out XF2.out HS.out Q1.out (by rw [hn.2.2.1, hn.2.2.2.1]; have := H.out.nums.ns; omega)).mono ?_
          rintro e5 w5 ⟨hv, hN⟩
          rw [if_pos e]
          exact ⟨hv, hN.from kw4⟩
        · exact ways_nothing (hno (by omega))
        · exact ways_nothing (hno (by omega))
      have hnu := H.out.nums
      have CA := Lib.hid (change_at d m1 m2 sv D w3 (k3.nb H3.out) hdd ⟨hnu.ch.1, hnu.ch.2⟩ hnu.fu hnu.fn hnu.fe 53 36 36 #[.pointer (some ⟨a1, 0, none⟩), .pointer (some ⟨a2, 0, none⟩)] #[] #[] (fun _ _ => rfl) (fun _ _ => rfl) (fun _ _ => rfl) _ HW.out)
      have HD := Lib.hid hdd
      clear HW hdd hnu
      go_wp2_with fail
      refine CA.out.mono ?_
      rintro _ w9 ⟨rfl, hN⟩
      go_wp2
      go_ret
      exact ⟨_, _, rfl, hN, .inr (.inr ⟨b, Q1.out, Q2.out, .inr ⟨HD.out, rfl, rfl⟩⟩)⟩
    · have CA := Lib.hid (change_dead d m1 m2 sv D w3 (k3.nb H3.out) hdd (.func (.func 53) #[] #[.pointer (some ⟨a1, 0, none⟩), .pointer (some ⟨a2, 0, none⟩)]) (.func (.func 36) #[] #[]) (.func (.func 36) #[] #[]))
      have HD := Lib.hid hdd
      clear hdd
      go_wp2_with fail
      refine CA.out.mono ?_
      rintro _ w9 ⟨rfl, rfl⟩
      go_wp2
      go_ret
      exact ⟨_, _, rfl, Now.same H.out k3, .inr (.inr ⟨b, Q1.out, Q2.out, .inl ⟨HD.out, rfl, rfl⟩⟩)⟩
end Go.Proofs.Ytgpecnihjjnkeaa
