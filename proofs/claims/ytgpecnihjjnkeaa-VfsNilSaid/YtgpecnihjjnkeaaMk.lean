/- A name for a new file: what a Make does to the disk. -/
import Derived.Test.YtgpecnihjjnkeaaAt
set_option linter.unusedVariables false
set_option linter.unusedSimpArgs false
namespace Go.Vfs
open Go.Lk Go.RowKit
variable {w w' : World} {R R' S F F' : Nat → Prop} {d b : Nat} {x : Fl} {D : Dk} {fc : Nat → Fl}
theorem flook_none {l : List (ByteArray × Nat)} {s : ByteArray} (h : flook l s = none) : ∀ p ∈ l, p.1 ≠ s := by
  intro p hp e
  unfold flook at h
  rw [Option.map_eq_none_iff, List.find?_eq_none] at h
  exact h p hp (by simpa using e)
theorem flook_some {l : List (ByteArray × Nat)} {s : ByteArray} (h : flook l s = some b) : (s, b) ∈ l := by
  unfold flook at h
  obtain ⟨p, hp, rfl⟩ := Option.map_eq_some_iff.1 h
  have h1 := List.mem_of_find?_eq_some hp
  have h2 := List.find?_some hp
  simp only [decide_eq_true_eq] at h2
  rw [← h2]; exact h1
theorem sput_vals {l : List (ByteArray × Nat)} {s : ByteArray} (h : flook l s = none) (b : Nat) : sput (vals l) s (.pointer (some ⟨b, 0, none⟩)) = vals (l ++ [(s, b)]) := by
  have hn : shas (vals l) s = false := by
    rw [Bool.eq_false_iff]
    intro hs
    obtain ⟨p, hp, e⟩ := shas_iff.1 hs
    obtain ⟨q, hq, rfl⟩ := List.mem_map.1 hp
    exact flook_none h q hq e
  unfold sput
  rw [hn]
  simp [vals]
theorem FileAt.block (h : FileAt w R b x) (e : w'.heap[b]? = w.heap[b]?) (hk : Keeps S w w') (hn : ∀ k, R k → ¬ S k) : FileAt w' R b x := by
  obtain ⟨v, h1, h2, h3⟩ := h
  exact ⟨v, e.trans h1, h2.keeps hk hn, h3⟩
theorem FileAt.lt (h : FileAt w R b x) : b < w.heap.size := by obtain ⟨v, h1, -⟩ := h; exact lt_of_block h1
theorem FileAt.isT (h : FileAt w R b x) : IsT w 65 b := by obtain ⟨v, h1, -⟩ := h; exact ⟨_, _, h1⟩
/-- A disk with a new file. -/
def Dk.make (D : Dk) (s : ByteArray) (b : Nat) : Dk := { D with files := D.files ++ [(s, b)], steps := D.steps ++ [⟨0, s, ByteArray.empty, some b⟩] }
end Go.Vfs
namespace Go.Proofs.Ytgpecnihjjnkeaa
open Go.RowKit Go.Lk Go.Vfs
theorem el57 : ElemT Try.prog 57 72 4 48 (.agg #[.int .i64 0, .string ByteArray.empty, .string ByteArray.empty, .pointer none]) := ⟨by kernel_rfl, by kernel_rfl, rfl, by decide⟩
theorem stp_cells (a : Nat) (n t : ByteArray) (f : Option Nat) : stp ⟨a, n, t, f⟩ = [.int .i64 (a : Nat), .string n, .string t, ptr f] := rfl
theorem rn_b013 {P : Program} {w : World} {a : Act} {dst : Option Tmp} {t ty : TypeId} {pos : String} {aft : Array Edge} {gd : Option (Nat × Bool)} {x y z : Operand} {u1 u2 u3 v : Value} (hx : a.eval x = u1) (hy : a.eval y = u2) (hz : a.eval z = u3) (h : (Instr.build t #[(0, u1), (1, u2), (3, u3)]).run P w = .ok v w) :
    (execOp a.eval ⟨dst, .build t #[(0, x), (1, y), (3, z)], ty, pos, aft, gd⟩).run P w = .ok (.value v) w := by
  unfold execOp
  simp [hx, hy, hz, h, Sem.run_bind, Result.andThen_ok, Sem.run_pure]
set_option maxHeartbeats 4000000 in
theorem make1_at (d a1 a2 : Nat) (s : ByteArray) (D : Dk) (F R : Nat → Prop) (fc : Nat → Fl) (w : World) (h : DiskAt w d F R D fc) (h1 : w.heap[a1]? = some (.cells #[.pointer (some ⟨d, 0, none⟩)] 25 (0, 0))) (h2 : w.heap[a2]? = some (.cells #[.string s] 9 (0, 0)))
    (hF1 : ¬ F a1) (hF2 : ¬ F a2) (hs : s.size ≤ maxLen) (hm : mnB s = true) (hn : flook D.files s = none) (hl : D.files.length < 64) (hst : (D.steps.length : Int) + 1 ≤ D.changes) :
    Calls Try.prog 35 #[.pointer (some ⟨a1, 0, none⟩), .pointer (some ⟨a2, 0, none⟩)] w fun e w' => (∃ v, e = .returned v) ∧ ∃ b, w.heap.size ≤ b ∧ Now w w' d F R (D.make s b) (fun k => if k = b then ⟨[], 0⟩ else fc k) := by
  have H := Lib.hid h
  obtain ⟨⟨m1, m2, sv, h3, h4, h5, h6, h7, h8, h9⟩, g1, g2, g3, g3b, g4, g5, g6⟩ := h
  have hch : D.changes ≤ 1000000 := g3.ch.2
  have hb65 : ∀ W : World, (Instr.build 65 #[]).run Try.prog W = .ok (.agg #[.slice none 0 0, .int .i64 0]) W := fun _ => by kernel_rfl
  have hb72 : ∀ (W : World) (n : ByteArray) (b : Nat), (Instr.build 72 #[(0, .int .i64 0), (1, .string n), (3, .pointer (some ⟨b, 0, none⟩))]).run Try.prog W = .ok (.agg #[.int .i64 0, .string n, .string ByteArray.empty, .pointer (some ⟨b, 0, none⟩)]) W := fun _ _ _ => by kernel_rfl
  have n : ∀ {k : Nat}, ¬ Nb k := fun e => e
  have HN := Lib.hid hn
  have HM := Lib.hid hm
  have HS0 := Lib.hid hs
  have HL := Lib.hid hl
  clear hm hs
  go_enter Try.func35, Try.ntmps35
  go_wp2_with (first | go_skip | (with_reducible refine stop_box (t := 65) ?_))
  refine at_out (vbox (by rfl) ?_)
  intro b w1 nb
  simp only [Nat.reduceAdd, Nat.zero_add, Act.put, List.setIfInBounds_toArray, List.set_cons_succ, List.set_cons_zero]
  go_wp2
  have k1 := nb.k
  have d1 := k1.nb h3
  have e1 := k1.nb h1
  have e2 := k1.nb h2
  have M1 := h4.nb k1
  have hbd : ¬ d = b := by have := g5 d g1; have := nb.ge; omega
  have hbm1 : ¬ m1 = b := by have := g5 m1 h8; have := nb.ge; omega
  have hbm2 : ¬ m2 = b := by have := g5 m2 h9; have := nb.ge; omega
  have hdm1 : ¬ d = m1 := by rintro rfl; obtain ⟨es, cl, q, -⟩ := h4; rw [h3] at q; cases q
  have hdm2 : ¬ d = m2 := by rintro rfl; obtain ⟨es, cl, q, -⟩ := h5; rw [h3] at q; cases q
  have hA1 : ¬ a1 = m1 := by rintro rfl; exact hF1 h8
  have hA2 : ¬ a2 = m1 := by rintro rfl; exact hF2 h8
  have HS : Hid ((fun u : World => u.cell? ⟨a1, 0, none⟩ = some (.pointer (some ⟨d, 0, none⟩)) ∧ u.cell? ⟨a2, 0, none⟩ = some (.string s) ∧ u.cell? ⟨d, 0, none⟩ = some (.map (some m1))) w1.drew) := ⟨cell_of_block e1, cell_of_block e2, cell_of_block d1⟩
  refine WT.region (fun u : World => u.cell? ⟨a1, 0, none⟩ = some (.pointer (some ⟨d, 0, none⟩)) ∧ u.cell? ⟨a2, 0, none⟩ = some (.string s) ∧ u.cell? ⟨d, 0, none⟩ = some (.map (some m1))) 6 7 [0, 1, 2, 3, 4, 5, 6] (by kernel_rfl) rfl ?_
  refine WT.take 0 (v := .pointer (some ⟨d, 0, none⟩)) (by simp only [List.getElem?_toArray, List.getElem?_cons_succ, List.getElem?_cons_zero]; rfl) (by kernel_rfl) (by exact fun _ _ _ h => h) (by rfl) (by rintro w ⟨C1, C2, C3⟩; exact rn_load1 (by kernel_rfl) (by rfl) C1) HS.out ?_
  simp only [Nat.reduceAdd, Nat.zero_add, Act.put, List.setIfInBounds_toArray, List.set_cons_succ, List.set_cons_zero]
  refine WT.take 1 (v := _) (by simp only [List.getElem?_toArray, List.getElem?_cons_succ, List.getElem?_cons_zero]; rfl) (by kernel_rfl) (by exact fun _ _ _ h => h) (by rfl) (by rintro w ⟨C1, C2, C3⟩; go_simp; with_reducible rfl) HS.out ?_
  simp only [Nat.reduceAdd, Nat.zero_add, Act.put, List.setIfInBounds_toArray, List.set_cons_succ, List.set_cons_zero]
  refine WT.take 2 (v := _) (by simp only [List.getElem?_toArray, List.getElem?_cons_succ, List.getElem?_cons_zero]; rfl) (by kernel_rfl) (by exact fun _ _ _ h => h) (by rfl) (by rintro w ⟨C1, C2, C3⟩; go_simp; with_reducible rfl) HS.out ?_
  simp only [Nat.reduceAdd, Nat.zero_add, Act.put, List.setIfInBounds_toArray, List.set_cons_succ, List.set_cons_zero]
  refine WT.take 3 (v := .map (some m1)) (by simp only [List.getElem?_toArray, List.getElem?_cons_succ, List.getElem?_cons_zero]; rfl) (by kernel_rfl) (by exact fun _ _ _ h => h) (by rfl) (by rintro w ⟨C1, C2, C3⟩; exact rn_load1 (by kernel_rfl) (by rfl) C3) HS.out ?_
  simp only [Nat.reduceAdd, Nat.zero_add, Act.put, List.setIfInBounds_toArray, List.set_cons_succ, List.set_cons_zero]
  refine WT.take 4 (v := .string s) (by simp only [List.getElem?_toArray, List.getElem?_cons_succ, List.getElem?_cons_zero]; rfl) (by kernel_rfl) (by exact fun _ _ _ h => h) (by rfl) (by rintro w ⟨C1, C2, C3⟩; exact rn_load1 (by kernel_rfl) (by rfl) C2) HS.out ?_
  simp only [Nat.reduceAdd, Nat.zero_add, Act.put, List.setIfInBounds_toArray, List.set_cons_succ, List.set_cons_zero]
  refine WT.take 5 (v := _) (by simp only [List.getElem?_toArray, List.getElem?_cons_succ, List.getElem?_cons_zero]; rfl) (by kernel_rfl) (by exact fun _ _ _ h => h) (by rfl) (by rintro w ⟨C1, C2, C3⟩; go_simp; with_reducible rfl) HS.out ?_
  simp only [Nat.reduceAdd, Nat.zero_add, Act.put, List.setIfInBounds_toArray, List.set_cons_succ, List.set_cons_zero]
  refine WT.stop (by kernel_rfl) ?_
  have M1d : SMap w1.drew m1 (vals D.files) := M1
  refine WP.onlySkipE 6 (by simp only [List.getElem?_toArray, List.getElem?_cons_succ, List.getElem?_cons_zero]; rfl) (by kernel_rfl) (by rfl) (re_sput (v := .pointer (some ⟨b, 0, none⟩)) M1d smT (by rfl) (by rfl) (by rfl) HS0.out) ?_
  rintro w2 ⟨M2, k2⟩
  rw [sput_vals HN.out] at M2
  simp only [Nat.reduceAdd, Nat.zero_add, Act.put, List.setIfInBounds_toArray, List.set_cons_succ, List.set_cons_zero]
  refine WP.done (by kernel_rfl) ?_
  have k12 : Keeps (· = m1) w1 w2 := (Keeps.refl (· = m1) w1).drew.trans k2 (fun _ _ e => e)
  have d2 := k12.at d1 hdm1
  have f1 := k12.at e1 hA1
  have f2 := k12.at e2 hA2
  have ML2 := (h5.nb k1).keeps k12 (fun e => h6 e.symm)
  have rw2 : RowS w2 F R 72 4 sv D.steps.length (D.steps.flatMap stp) := (h7.keeps k1 (fun _ _ _ => n)).keeps k12 (fun k _ ht e => by
    subst e; obtain ⟨es, cl, q, -⟩ := M1; exact ht.map q rfl)
  have nb2 := k12.at nb.blk (fun e => hbm1 e.symm)
  have kk2 : Keeps F w w2 := ((Keeps.refl F w).trans_nb k1).trans k12 (fun i _ e => e ▸ h8)
  clear HS M1d M1 k2 d1 e1 e2
  go_wp2
  have HS : Hid ((fun u : World => u.cell? ⟨a1, 0, none⟩ = some (.pointer (some ⟨d, 0, none⟩)) ∧ u.cell? ⟨a2, 0, none⟩ = some (.string s) ∧ u.cell? ⟨d, 2, none⟩ = some sv) w2.drew) := ⟨cell_of_block f1, cell_of_block f2, cell_of_block d2⟩
  refine WT.region (fun u : World => u.cell? ⟨a1, 0, none⟩ = some (.pointer (some ⟨d, 0, none⟩)) ∧ u.cell? ⟨a2, 0, none⟩ = some (.string s) ∧ u.cell? ⟨d, 2, none⟩ = some sv) 10 13 [0, 1, 2, 3, 4, 5, 6, 7, 8, 9, 10, 11, 12] (by kernel_rfl) rfl ?_
  refine WT.take 0 (v := .pointer (some ⟨d, 0, none⟩)) (by simp only [List.getElem?_toArray, List.getElem?_cons_succ, List.getElem?_cons_zero]; rfl) (by kernel_rfl) (by exact fun _ _ _ h => h) (by rfl) (by rintro w ⟨C1, C2, C3⟩; exact rn_load1 (by kernel_rfl) (by rfl) C1) HS.out ?_
  simp only [Nat.reduceAdd, Nat.zero_add, Act.put, List.setIfInBounds_toArray, List.set_cons_succ, List.set_cons_zero]
  refine WT.take 1 (v := .pointer (some ⟨d, 0, none⟩)) (by simp only [List.getElem?_toArray, List.getElem?_cons_succ, List.getElem?_cons_zero]; rfl) (by kernel_rfl) (by exact fun _ _ _ h => h) (by rfl) (by rintro w ⟨C1, C2, C3⟩; exact rn_load1 (by kernel_rfl) (by rfl) C1) HS.out ?_
  simp only [Nat.reduceAdd, Nat.zero_add, Act.put, List.setIfInBounds_toArray, List.set_cons_succ, List.set_cons_zero]
  refine WT.take 2 (v := _) (by simp only [List.getElem?_toArray, List.getElem?_cons_succ, List.getElem?_cons_zero]; rfl) (by kernel_rfl) (by exact fun _ _ _ h => h) (by rfl) (by rintro w ⟨C1, C2, C3⟩; go_simp; with_reducible rfl) HS.out ?_
  simp only [Nat.reduceAdd, Nat.zero_add, Act.put, List.setIfInBounds_toArray, List.set_cons_succ, List.set_cons_zero]
  refine WT.take 3 (v := _) (by simp only [List.getElem?_toArray, List.getElem?_cons_succ, List.getElem?_cons_zero]; rfl) (by kernel_rfl) (by exact fun _ _ _ h => h) (by rfl) (by rintro w ⟨C1, C2, C3⟩; go_simp; with_reducible rfl) HS.out ?_
  simp only [Nat.reduceAdd, Nat.zero_add, Act.put, List.setIfInBounds_toArray, List.set_cons_succ, List.set_cons_zero]
  refine WT.take 4 (v := sv) (by simp only [List.getElem?_toArray, List.getElem?_cons_succ, List.getElem?_cons_zero]; rfl) (by kernel_rfl) (by exact fun _ _ _ h => h) (by rfl) (by rintro w ⟨C1, C2, C3⟩; exact rn_load1 (by kernel_rfl) (by rfl) C3) HS.out ?_
  simp only [Nat.reduceAdd, Nat.zero_add, Act.put, List.setIfInBounds_toArray, List.set_cons_succ, List.set_cons_zero]
  refine WT.take 5 (v := .string s) (by simp only [List.getElem?_toArray, List.getElem?_cons_succ, List.getElem?_cons_zero]; rfl) (by kernel_rfl) (by exact fun _ _ _ h => h) (by rfl) (by rintro w ⟨C1, C2, C3⟩; exact rn_load1 (by kernel_rfl) (by rfl) C2) HS.out ?_
  simp only [Nat.reduceAdd, Nat.zero_add, Act.put, List.setIfInBounds_toArray, List.set_cons_succ, List.set_cons_zero]
  refine WT.take 6 (v := _) (by simp only [List.getElem?_toArray, List.getElem?_cons_succ, List.getElem?_cons_zero]; rfl) (by kernel_rfl) (by exact fun _ _ _ h => h) (by rfl) (by rintro w ⟨C1, C2, C3⟩; go_simp; with_reducible rfl) HS.out ?_
  simp only [Nat.reduceAdd, Nat.zero_add, Act.put, List.setIfInBounds_toArray, List.set_cons_succ, List.set_cons_zero]
  refine WT.take 7 (v := .agg #[.int .i64 0, .string s, .string ByteArray.empty, .pointer (some ⟨b, 0, none⟩)]) (by simp only [List.getElem?_toArray, List.getElem?_cons_succ, List.getElem?_cons_zero]; rfl) (by kernel_rfl) (by exact fun _ _ _ h => h) (by rfl) (by rintro w ⟨C1, C2, C3⟩; exact rn_b013 (by rfl) (by rfl) (by rfl) (hb72 _ _ _)) HS.out ?_
  simp only [Nat.reduceAdd, Nat.zero_add, Act.put, List.setIfInBounds_toArray, List.set_cons_succ, List.set_cons_zero]
  refine WT.onlyE 8 (by simp only [List.getElem?_toArray, List.getElem?_cons_succ, List.getElem?_cons_zero]; rfl) (by kernel_rfl) (by rfl) (re_buildSlice1 (v := .agg #[.int .i64 0, .string s, .string ByteArray.empty, .pointer (some ⟨b, 0, none⟩)]) el57 (by rfl) (by rfl) (by omega)) ?_
  rintro _ w3 ⟨g, rfl, ng⟩
  have k23 : Keeps Nb w2 w3 := (Keeps.refl Nb w2).drew.trans_nb ng.k
  have HS3 : Hid ((fun u : World => u.cell? ⟨a1, 0, none⟩ = some (.pointer (some ⟨d, 0, none⟩)) ∧ u.cell? ⟨a2, 0, none⟩ = some (.string s) ∧ u.cell? ⟨d, 2, none⟩ = some sv) w3) := ⟨cell_of_block (k23.nb f1), cell_of_block (k23.nb f2), cell_of_block (k23.nb d2)⟩
  refine ⟨HS3.out, ?_⟩
  simp only [Nat.reduceAdd, Nat.zero_add, Act.put, List.setIfInBounds_toArray, List.set_cons_succ, List.set_cons_zero]
  refine WT.onlyE 9 (by simp only [List.getElem?_toArray, List.getElem?_cons_succ, List.getElem?_cons_zero]; rfl) (by kernel_rfl) (by rfl) (re_push (news := stp ⟨0, s, ByteArray.empty, some b⟩) el57 (rw2.keeps k23 (fun _ _ _ => n)) (by rfl) (by rfl) (has_block ng.blk) (by rfl) (by simp [stp, ptr, Value.oneCell']) (by omega) (by unfold maxLen; omega) (by omega)) ?_
  rintro sv' w4 ⟨r4, S4, k34, hS4⟩
  have d4 := k34.at (k23.nb d2) (fun e => (hS4 _ e).2.ne ⟨_, _, k23.nb d2⟩ (by decide) rfl)
  have HS4 : Hid ((fun u : World => u.cell? ⟨a1, 0, none⟩ = some (.pointer (some ⟨d, 0, none⟩)) ∧ u.cell? ⟨a2, 0, none⟩ = some (.string s) ∧ u.cell? ⟨d, 2, none⟩ = some sv) w4) := ⟨cell_of_block (k34.at (k23.nb f1) (fun e => hF1 (hS4 _ e).1)), cell_of_block (k34.at (k23.nb f2) (fun e => hF2 (hS4 _ e).1)), cell_of_block d4⟩
  refine ⟨HS4.out, ?_⟩
  simp only [Nat.reduceAdd, Nat.zero_add, Act.put, List.setIfInBounds_toArray, List.set_cons_succ, List.set_cons_zero]
  refine WT.stop (by kernel_rfl) ?_
  refine WP.only 10 (v := _) (by simp only [List.getElem?_toArray, List.getElem?_cons_succ, List.getElem?_cons_zero]; rfl) (by kernel_rfl) (by rfl) (by go_simp; first | with_reducible rfl | exact ⟨rfl, rfl⟩) ?_
  simp only [Nat.reduceAdd, Nat.zero_add, Act.put, List.setIfInBounds_toArray, List.set_cons_succ, List.set_cons_zero]
  refine WP.only 11 (v := _) (by simp only [List.getElem?_toArray, List.getElem?_cons_succ, List.getElem?_cons_zero]; rfl) (by kernel_rfl) (by rfl) (by go_simp; first | with_reducible rfl | exact ⟨rfl, rfl⟩) ?_
  simp only [Nat.reduceAdd, Nat.zero_add, Act.put, List.setIfInBounds_toArray, List.set_cons_succ, List.set_cons_zero]
  have o4 : sv'.cells = #[sv'] ∧ sv'.oneCell' = true := by obtain ⟨-, -, a, c, rfl, -⟩ := r4; exact ⟨rfl, rfl⟩
  refine WP.onlySkipE 12 (by simp only [List.getElem?_toArray, List.getElem?_cons_succ, List.getElem?_cons_zero]; rfl) (by kernel_rfl) (by rfl) (re_store (v := sv') (n := 1) (by kernel_rfl) (by rfl) (by rfl) d4 (by rw [o4.1]; rfl) (by simp [dcs]) (by rw [o4.1]; simpa using o4.2)) ?_
  intro w5 s5
  rw [o4.1] at s5
  simp only [Nat.reduceAdd, Nat.zero_add, Act.put, List.setIfInBounds_toArray, List.set_cons_succ, List.set_cons_zero]
  refine WP.done (by kernel_rfl) ?_
  go_wp2
  go_end0
  refine ⟨⟨_, rfl⟩, b, nb.ge, ?_⟩
  have M4 := (M2.nb k23).keeps k34 (fun e => by obtain ⟨es, cl, q, -⟩ := M2.nb k23; exact (hS4 _ e).2.map q rfl)
  have M5 := M4.keeps s5.k (fun e => hdm1 e.symm)
  have ML4 := (ML2.nb k23).keeps k34 (fun e => by obtain ⟨es, cl, q, -⟩ := ML2.nb k23; exact (hS4 _ e).2.map q rfl)
  have ML5 := ML4.keeps s5.k (fun e => hdm2 e.symm)
  have b4 := k34.at (k23.nb nb2) (fun e => (hS4 _ e).2.ne ⟨_, _, k23.nb nb2⟩ (by decide) rfl)
  have b5 := s5.k.at b4 (fun e => hbd e.symm)
  have r5 := r4.keeps s5.k (fun k _ ht e => ht.ne ⟨_, _, d4⟩ (by decide) e)
  have k4 : Keeps F w w4 := (kk2.trans_nb k23).trans k34 (fun i _ e => (hS4 i e).1)
  have k5 : Keeps F w w5 := k4.trans s5.k (fun i _ e => e ▸ g1)
  have kz := k5.size
  have kz1 := k1.size
  have kz2 := k12.size
  have kz3 := k23.size
  have kz4 := k34.size
  have kz5 := s5.k.size
  have hbl := nb.lt
  refine ⟨Up F w w5, R, ⟨⟨m1, m2, sv', ?_, M5, ML5, h6, ?_, .inl h8, .inl h9⟩, .inl g1, ?_, ?_, ?_, ?_, fun k hk => Up.lt g5 kz hk, fun k hk => Nat.lt_of_lt_of_le (g6 k hk) kz⟩, fun k hk => hk.imp id fun x => x.1, fun k hk => .inl hk, k5⟩
  · exact s5.blk
  · refine RowS.mono (F := Up F w3 w4) (R := R) ?_ (fun k hk => hk.imp id fun ⟨x, y⟩ => ⟨by omega, by omega⟩) (fun _ h => h)
    simpa [Dk.make, List.flatMap_append] using r5
  · intro c hc
    by_cases e : c = b
    · subst e
      simp only [if_true]
      exact ⟨⟨_, b5, Bytes.nil _ _, Nat.le_refl _, Nat.zero_le _⟩, .inr ⟨nb.ge, by omega⟩⟩
    · have hr : Ref D c := by
        unfold Ref Dk.make at hc
        simp only [List.mem_append, List.mem_singleton] at hc
        rcases hc with ⟨p, hp | rfl, hx⟩ | hx | ⟨p, hp | rfl, hx⟩
        · exact .inl ⟨p, hp, hx⟩
        · exact absurd hx.symm e
        · exact .inr (.inl hx)
        · exact .inr (.inr ⟨p, hp, hx⟩)
        · exact absurd (Option.some.inj hx).symm e
      simp only [e, if_false]
      obtain ⟨q1, q2⟩ := g2 c hr
      have hcd := H.out.ne_file hr
      have hT := q1.isT
      have hT2 : IsT w2 65 c := (hT.keeps k1 n).keeps k12 (fun e => by subst e; obtain ⟨es, cl, q, -⟩ := h4; exact hT.map q rfl)
      have e1 : w1.heap[c]? = w.heap[c]? := k1.block c q1.lt n
      have e2 : w2.heap[c]? = w1.heap[c]? := k12.block c (Nat.lt_of_lt_of_le q1.lt kz1) (fun e => by subst e; obtain ⟨es, cl, q, -⟩ := h4; exact hT.map q rfl)
      have hc2 : c < w2.heap.size := Nat.lt_of_lt_of_le (Nat.lt_of_lt_of_le q1.lt kz1) kz2
      have e3 : w3.heap[c]? = w2.heap[c]? := k23.block c hc2 n
      have e4 : w4.heap[c]? = w3.heap[c]? := k34.block c (Nat.lt_of_lt_of_le hc2 kz3) (fun e => (hS4 _ e).2.ne (hT2.keeps k23 n) (by decide) rfl)
      have e5 : w5.heap[c]? = w4.heap[c]? := s5.k.block c (Nat.lt_of_lt_of_le (Nat.lt_of_lt_of_le hc2 kz3) kz4) hcd
      exact ⟨q1.block (e5.trans (e4.trans (e3.trans (e2.trans e1)))) k5 (fun k hr hf => g4 k hf hr), .inl q2⟩
  · obtain ⟨z1, z2, z3, z4, z5, z6, z7, z8⟩ := g3
    refine ⟨z1, z2, z3, z4, z5, ?_, z7, ?_⟩
    · simp only [Dk.make, List.length_append, List.length_cons, List.length_nil]; have := HL.out; omega
    · simp only [Dk.make, List.length_append, List.length_cons, List.length_nil]; omega
  · refine ⟨fun p hp => ?_, g3b.lasting, fun p hp => ?_⟩
    · simp only [Dk.make, List.mem_append, List.mem_singleton] at hp
      rcases hp with hp | rfl
      · exact g3b.files p hp
      · exact HM.out
    · simp only [Dk.make, List.mem_append, List.mem_singleton] at hp
      rcases hp with hp | rfl
      · exact g3b.steps p hp
      · exact .inl ⟨rfl, HM.out, _, rfl⟩
  · rintro k (hk | hk) hr
    · exact g4 k hk hr
    · have := g6 k hr; omega
end Go.Proofs.Ytgpecnihjjnkeaa
