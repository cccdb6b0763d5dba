/- Copy: another disk that goes on apart. -/
import Derived.Test.YtgpecnihjjnkeaaCopyS
set_option linter.unusedVariables false
set_option linter.unusedSimpArgs false
namespace Go.Proofs.Ytgpecnihjjnkeaa
open Go.RowKit Go.Lk Go.Vfs
theorem agg61 : AggT Try.prog 61 9 := ⟨by kernel_rfl, by kernel_rfl⟩
theorem agg72 : AggT Try.prog 72 4 := ⟨by kernel_rfl, by kernel_rfl⟩
theorem zero93 : (Try.prog.info? 93).map (·.zero) = some (some (.map none)) := by kernel_rfl
theorem zero61 : ∃ z, (Try.prog.info? 61).map (·.zero) = some (some z) ∧ z.cells.size = 9 := by
  obtain ⟨i, h1, h2⟩ := Option.map_eq_some_iff.1 (show (Try.prog.info? 61).map (fun i => i.zero.map (·.cells.size)) = some (some 9) by kernel_rfl)
  obtain ⟨z, h3, h4⟩ := Option.map_eq_some_iff.1 h2
  exact ⟨z, by rw [h1]; simp [h3], h4⟩
theorem zero72 : ∃ z, (Try.prog.info? 72).map (·.zero) = some (some z) ∧ z.cells.size = 4 := by
  obtain ⟨i, h1, h2⟩ := Option.map_eq_some_iff.1 (show (Try.prog.info? 72).map (fun i => i.zero.map (·.cells.size)) = some (some 4) by kernel_rfl)
  obtain ⟨z, h3, h4⟩ := Option.map_eq_some_iff.1 h2
  exact ⟨z, by rw [h1]; simp [h3], h4⟩
/-- What Copy answers. -/
def CopiedD (w : World) (D : Dk) (fc : Nat → Fl) (e : Ending) (w' : World) : Prop :=
  ∃ d' D' fc' F' R' φ l1 l2, e = .returned (.pointer (some ⟨d', 0, none⟩)) ∧ DiskAt w' d' F' R' D' fc' ∧ (∀ k, F' k → w.heap.size ≤ k) ∧ (∀ k, R' k → w.heap.size ≤ k) ∧ Keeps Nb w w' ∧ CopyR D fc D' fc' φ l1 l2
set_option maxHeartbeats 8000000 in
set_option maxRecDepth 100000 in
theorem copy_at (d : Nat) (D : Dk) (F R : Nat → Prop) (fc : Nat → Fl) (w : World) (h : DiskAt w d F R D fc) : Calls Try.prog 46 #[.pointer (some ⟨d, 0, none⟩)] w (CopiedD w D fc) := by
  have H := Lib.hid h
  obtain ⟨⟨m1, m2, sv, h3, h4, h5, h6, h7, h8, h9⟩, g1, g2, g3, g3b, g4, g5, g6⟩ := h
  have H3 := Lib.hid h3
  have H4 := Lib.hid h4
  have H5 := Lib.hid h5
  have H7 := Lib.hid h7
  obtain ⟨c0, -⟩ := cells9 h3
  have TH := Lib.hid (there_at d m1 (.map none) (.map none) [] w (c0 ⟨w, Keeps.refl _ _⟩))
  have HO : Hid (∀ b, Ref D b → b < w.heap.size) := fun b hb => g5 b (g2 b hb).2
  have HX : Hid (∀ (wr : World), Keeps Nb w wr → ∀ b, Ref D b → FileAt wr R b (fc b) ∧ Ref D b) := fun wr hk b hb => ⟨(g2 b hb).1.keeps hk (fun e => e) (fun _ _ e => e), hb⟩
  have HG6 := Lib.hid g6
  have sv1 : Hid (sv.oneCell' = true ∧ sv.cells.size = 1) := by obtain ⟨-, -, a, c, rfl, -⟩ := h7; exact ⟨rfl, rfl⟩
  have NU := Lib.hid g3
  clear c0 h3 h4 h5 h6 h7 h8 h9 g1 g2 g3 g3b g4 g5 g6
  go_enter Try.func46, Try.ntmps46
  go_wp2_with fail
  refine TH.out.mono ?_; rintro e w' ⟨rfl, rfl⟩
  go_wp2_with (first | go_skip | (with_reducible refine stop_load (t := 72) ?_) | (with_reducible refine stop_load (t := 61) ?_) | (with_reducible refine stop_alloc ?_) | (with_reducible refine stop_store ?_) | (with_reducible refine stop_makeMap ?_) | (with_reducible refine stop_rangem ?_) | (with_reducible refine stop_next ?_) | (with_reducible refine stop_entry ?_) | (with_reducible refine stop_buildSlice ?_) | (with_reducible refine stop_app ?_) | (with_reducible refine stop_mapUpdate ?_) | (with_reducible refine stop_lookup ?_) | (with_reducible refine stop_delete ?_) | (with_reducible refine stop_box ?_))
  refine at_out (wpList_valE rfl re_makeMap ?_)
  rintro _ w1 ⟨mo, rfl, n1⟩
  simp only [Nat.reduceAdd, Nat.zero_add, Act.put, List.setIfInBounds_toArray, List.set_cons_succ, List.set_cons_zero]
  go_wp2_with (first | go_skip | (with_reducible refine stop_load (t := 72) ?_) | (with_reducible refine stop_load (t := 61) ?_) | (with_reducible refine stop_alloc ?_) | (with_reducible refine stop_store ?_) | (with_reducible refine stop_makeMap ?_) | (with_reducible refine stop_rangem ?_) | (with_reducible refine stop_next ?_) | (with_reducible refine stop_entry ?_) | (with_reducible refine stop_buildSlice ?_) | (with_reducible refine stop_app ?_) | (with_reducible refine stop_mapUpdate ?_) | (with_reducible refine stop_lookup ?_) | (with_reducible refine stop_delete ?_) | (with_reducible refine stop_box ?_))
  refine at_out (valloc zero93 ?_)
  intro a3 w2 n2
  simp only [Nat.reduceAdd, Nat.zero_add, Act.put, List.setIfInBounds_toArray, List.set_cons_succ, List.set_cons_zero]
  go_wp2_with (first | go_skip | (with_reducible refine stop_load (t := 72) ?_) | (with_reducible refine stop_load (t := 61) ?_) | (with_reducible refine stop_alloc ?_) | (with_reducible refine stop_store ?_) | (with_reducible refine stop_makeMap ?_) | (with_reducible refine stop_rangem ?_) | (with_reducible refine stop_next ?_) | (with_reducible refine stop_entry ?_) | (with_reducible refine stop_buildSlice ?_) | (with_reducible refine stop_app ?_) | (with_reducible refine stop_mapUpdate ?_) | (with_reducible refine stop_lookup ?_) | (with_reducible refine stop_delete ?_) | (with_reducible refine stop_box ?_))
  refine at_out (wpList_skipE rfl (re_store (v := .map (some mo)) (n := 1) (by kernel_rfl) (by rfl) (by rfl) n2.blk (by rfl) (by simp [Value.cells]) (by simp [Value.cells, Value.oneCell'])) ?_)
  intro w3 s3
  simp only [Nat.reduceAdd, Nat.zero_add, Act.put, List.setIfInBounds_toArray, List.set_cons_succ, List.set_cons_zero]
  have k03 : Keeps Nb w w3 := (n1.k.trans_nb n2.k).own (Nat.le_trans n1.k.size n2.ge) s3.k
  have B3 : w3.heap[a3]? = some (.cells #[.map (some mo)] 93 (0, 0)) := s3.blk
  have hoa : ¬ mo = a3 := fun e => by have := n1.lt; have := n2.ge; omega
  have M3 : w3.heap[mo]? = some (.map #[] 0) := s3.k.at (n2.k.nb n1.blk) hoa
  obtain ⟨z61, hz61, hzl⟩ := zero61
  go_wp2_with (first | go_skip | (with_reducible refine stop_load (t := 72) ?_) | (with_reducible refine stop_load (t := 61) ?_) | (with_reducible refine stop_alloc ?_) | (with_reducible refine stop_store ?_) | (with_reducible refine stop_makeMap ?_) | (with_reducible refine stop_rangem ?_) | (with_reducible refine stop_next ?_) | (with_reducible refine stop_entry ?_) | (with_reducible refine stop_buildSlice ?_) | (with_reducible refine stop_app ?_) | (with_reducible refine stop_mapUpdate ?_) | (with_reducible refine stop_lookup ?_) | (with_reducible refine stop_delete ?_) | (with_reducible refine stop_box ?_))
  refine at_out (wpList_val (v := .agg (dcs m1 m2 sv D)) rfl (rn_loadH agg61 (by rfl) (has_block (k03.nb H3.out)) (by simp [dcs])) ?_)
  simp only [Nat.reduceAdd, Nat.zero_add, Act.put, List.setIfInBounds_toArray, List.set_cons_succ, List.set_cons_zero]
  go_wp2_with (first | go_skip | (with_reducible refine stop_load (t := 72) ?_) | (with_reducible refine stop_load (t := 61) ?_) | (with_reducible refine stop_alloc ?_) | (with_reducible refine stop_store ?_) | (with_reducible refine stop_makeMap ?_) | (with_reducible refine stop_rangem ?_) | (with_reducible refine stop_next ?_) | (with_reducible refine stop_entry ?_) | (with_reducible refine stop_buildSlice ?_) | (with_reducible refine stop_app ?_) | (with_reducible refine stop_mapUpdate ?_) | (with_reducible refine stop_lookup ?_) | (with_reducible refine stop_delete ?_) | (with_reducible refine stop_box ?_))
  refine at_out (valloc hz61 ?_)
  intro d' w4 n4
  simp only [Nat.reduceAdd, Nat.zero_add, Act.put, List.setIfInBounds_toArray, List.set_cons_succ, List.set_cons_zero]
  go_wp2_with (first | go_skip | (with_reducible refine stop_load (t := 72) ?_) | (with_reducible refine stop_load (t := 61) ?_) | (with_reducible refine stop_alloc ?_) | (with_reducible refine stop_store ?_) | (with_reducible refine stop_makeMap ?_) | (with_reducible refine stop_rangem ?_) | (with_reducible refine stop_next ?_) | (with_reducible refine stop_entry ?_) | (with_reducible refine stop_buildSlice ?_) | (with_reducible refine stop_app ?_) | (with_reducible refine stop_mapUpdate ?_) | (with_reducible refine stop_lookup ?_) | (with_reducible refine stop_delete ?_) | (with_reducible refine stop_box ?_))
  refine at_out (wpList_skipE rfl (re_store (v := .agg (dcs m1 m2 sv D)) (n := 9) agg61.size (by rfl) (by rfl) n4.blk (by simp [Value.cells, dcs]) (by rw [hzl]; exact Nat.le_refl _) (by intro u hu; simp [Value.cells, dcs] at hu; rcases hu with rfl | rfl | rfl | rfl | rfl | rfl | rfl | rfl | rfl <;> first | rfl | exact sv1.out.1)) ?_)
  intro w5 s5
  rw [splice_all (by rw [hzl]; simp [Value.cells, dcs])] at s5
  simp only [Nat.reduceAdd, Nat.zero_add, Act.put, List.setIfInBounds_toArray, List.set_cons_succ, List.set_cons_zero]
  have k05 : Keeps Nb w w5 := (k03.trans_nb n4.k).own (Nat.le_trans k03.size n4.ge) s5.k
  have k35 : Keeps Nb w3 w5 := n4.k.own n4.ge s5.k
  have B5 : w5.heap[d']? = some (.cells (dcs m1 m2 sv D) 61 (0, 0)) := s5.blk
  go_wp2_with (first | go_skip | (with_reducible refine stop_load (t := 72) ?_) | (with_reducible refine stop_load (t := 61) ?_) | (with_reducible refine stop_alloc ?_) | (with_reducible refine stop_store ?_) | (with_reducible refine stop_makeMap ?_) | (with_reducible refine stop_rangem ?_) | (with_reducible refine stop_next ?_) | (with_reducible refine stop_entry ?_) | (with_reducible refine stop_buildSlice ?_) | (with_reducible refine stop_app ?_) | (with_reducible refine stop_mapUpdate ?_) | (with_reducible refine stop_lookup ?_) | (with_reducible refine stop_delete ?_) | (with_reducible refine stop_box ?_))
  refine at_out (wpList_valE rfl re_makeMap ?_)
  rintro _ w6 ⟨mf, rfl, n6⟩
  simp only [Nat.reduceAdd, Nat.zero_add, Act.put, List.setIfInBounds_toArray, List.set_cons_succ, List.set_cons_zero]
  go_wp2_with (first | go_skip | (with_reducible refine stop_load (t := 72) ?_) | (with_reducible refine stop_load (t := 61) ?_) | (with_reducible refine stop_alloc ?_) | (with_reducible refine stop_store ?_) | (with_reducible refine stop_makeMap ?_) | (with_reducible refine stop_rangem ?_) | (with_reducible refine stop_next ?_) | (with_reducible refine stop_entry ?_) | (with_reducible refine stop_buildSlice ?_) | (with_reducible refine stop_app ?_) | (with_reducible refine stop_mapUpdate ?_) | (with_reducible refine stop_lookup ?_) | (with_reducible refine stop_delete ?_) | (with_reducible refine stop_box ?_))
  refine at_out (wpList_valE rfl re_makeMap ?_)
  rintro _ w7 ⟨ml, rfl, n7⟩
  simp only [Nat.reduceAdd, Nat.zero_add, Act.put, List.setIfInBounds_toArray, List.set_cons_succ, List.set_cons_zero]
  go_wp2_with (first | go_skip | (with_reducible refine stop_load (t := 72) ?_) | (with_reducible refine stop_load (t := 61) ?_) | (with_reducible refine stop_alloc ?_) | (with_reducible refine stop_store ?_) | (with_reducible refine stop_makeMap ?_) | (with_reducible refine stop_rangem ?_) | (with_reducible refine stop_next ?_) | (with_reducible refine stop_entry ?_) | (with_reducible refine stop_buildSlice ?_) | (with_reducible refine stop_app ?_) | (with_reducible refine stop_mapUpdate ?_) | (with_reducible refine stop_lookup ?_) | (with_reducible refine stop_delete ?_) | (with_reducible refine stop_box ?_))
  refine at_out (wpList_skipE rfl (re_store (v := .map (some mf)) (n := 1) (by kernel_rfl) (by rfl) (by rfl) (n7.k.nb (n6.k.nb B5)) (by rfl) (by simp [dcs]) (by simp [Value.cells, Value.oneCell'])) ?_)
  intro w8 s8
  simp only [Nat.reduceAdd, Nat.zero_add, Act.put, List.setIfInBounds_toArray, List.set_cons_succ, List.set_cons_zero]
  have B8 : w8.heap[d']? = some (.cells (dcs mf m2 sv D) 61 (0, 0)) := s8.blk
  go_wp2_with (first | go_skip | (with_reducible refine stop_load (t := 72) ?_) | (with_reducible refine stop_load (t := 61) ?_) | (with_reducible refine stop_alloc ?_) | (with_reducible refine stop_store ?_) | (with_reducible refine stop_makeMap ?_) | (with_reducible refine stop_rangem ?_) | (with_reducible refine stop_next ?_) | (with_reducible refine stop_entry ?_) | (with_reducible refine stop_buildSlice ?_) | (with_reducible refine stop_app ?_) | (with_reducible refine stop_mapUpdate ?_) | (with_reducible refine stop_lookup ?_) | (with_reducible refine stop_delete ?_) | (with_reducible refine stop_box ?_))
  refine at_out (wpList_skipE rfl (re_store (v := .map (some ml)) (n := 1) (by kernel_rfl) (by rfl) (by rfl) B8 (by rfl) (by simp [dcs]) (by simp [Value.cells, Value.oneCell'])) ?_)
  intro w9 s9
  simp only [Nat.reduceAdd, Nat.zero_add, Act.put, List.setIfInBounds_toArray, List.set_cons_succ, List.set_cons_zero]
  have B9 : w9.heap[d']? = some (.cells (dcs mf ml sv D) 61 (0, 0)) := s9.blk
  go_wp2_with (first | go_skip | (with_reducible refine stop_load (t := 72) ?_) | (with_reducible refine stop_load (t := 61) ?_) | (with_reducible refine stop_alloc ?_) | (with_reducible refine stop_store ?_) | (with_reducible refine stop_makeMap ?_) | (with_reducible refine stop_rangem ?_) | (with_reducible refine stop_next ?_) | (with_reducible refine stop_entry ?_) | (with_reducible refine stop_buildSlice ?_) | (with_reducible refine stop_app ?_) | (with_reducible refine stop_mapUpdate ?_) | (with_reducible refine stop_lookup ?_) | (with_reducible refine stop_delete ?_) | (with_reducible refine stop_box ?_))
  refine at_out (wpList_skipE rfl (re_store (v := .slice none 0 0) (n := 1) (by kernel_rfl) (by rfl) (by rfl) B9 (by rfl) (by simp [dcs]) (by simp [Value.cells, Value.oneCell'])) ?_)
  intro w10 s10
  simp only [Nat.reduceAdd, Nat.zero_add, Act.put, List.setIfInBounds_toArray, List.set_cons_succ, List.set_cons_zero]
  have B10 : w10.heap[d']? = some (.cells (dcs mf ml (.slice none 0 0) D) 61 (0, 0)) := s10.blk
  have ST : CpSt w w10 d' a3 mo mf ml (.slice none 0 0) D fc (fun _ => none) [] [] 0 := by
    have q1 := n1.ge; have q2 := n2.ge; have q4 := n4.ge; have q6 := n6.ge; have q7 := n7.ge
    have l1 := n1.lt; have l2 := n2.lt; have l4 := n4.lt; have l6 := n6.lt; have l7 := n7.lt
    have z1 := n1.k.size; have z2 := n2.k.size; have z3 := s3.k.size; have z4 := n4.k.size; have z5 := s5.k.size; have z6 := n6.k.size; have z7 := n7.k.size; have z8 := s8.k.size; have z9 := s9.k.size; have z10 := s10.k.size
    have k510 : Keeps (· = d') w5 w10 := (((Keeps.of_nb (n6.k.trans_nb n7.k)).trans s8.k (fun _ _ e => e)).trans s9.k (fun _ _ e => e)).trans s10.k (fun _ _ e => e)
    have M10 : w10.heap[mo]? = some (.map #[] 0) := k510.at (k35.nb M3) (by omega)
    have mm : ∀ (m : Nat) (W : World), W.heap[m]? = some (.map #[] 0) → SMap W m (vals (([] : List (ByteArray × Nat)).map (mv fun _ => none))) := fun m W hm => smap_new hm
    have kd : ∀ (W : World) (m : Nat), Keeps (· = d') W w10 → W.heap[m]? = some (.map #[] 0) → m ≠ d' → w10.heap[m]? = some (.map #[] 0) := fun W m hk hm hne => hk.at hm hne
    have k810 : Keeps (· = d') w7 w10 := (s8.k.trans s9.k (fun _ _ e => e)).trans s10.k (fun _ _ e => e)
    exact ⟨B10, k510.at (k35.nb B3) (by omega), copies_new (pmap_new M10), mm _ _ (k810.at (n7.k.nb n6.blk) (by omega)), mm _ _ (k810.at n7.blk (by omega)), by simp, by simp, RowS.nil _ _ _ _ _, by simp, (k05.own (by omega) k510), by omega, by omega, by omega, by omega, by omega, by omega, by omega⟩
  have ST0 := Lib.hid ST
  clear ST B3 B5 B8 B9 B10 M3 hoa hz61 hzl n1 n2 n4 n6 n7 s3 s5 s8 s9 s10 k03 k05 k35
  have C1 : w10.cell? ⟨d, 0, none⟩ = some (.map (some m1)) := (cell_of_block (ST0.out.k.nb H3.out)).trans rfl
  go_wp2_with (first | go_skip | (with_reducible refine stop_load (t := 72) ?_) | (with_reducible refine stop_load (t := 61) ?_) | (with_reducible refine stop_alloc ?_) | (with_reducible refine stop_store ?_) | (with_reducible refine stop_makeMap ?_) | (with_reducible refine stop_rangem ?_) | (with_reducible refine stop_next ?_) | (with_reducible refine stop_entry ?_) | (with_reducible refine stop_buildSlice ?_) | (with_reducible refine stop_app ?_) | (with_reducible refine stop_mapUpdate ?_) | (with_reducible refine stop_lookup ?_) | (with_reducible refine stop_delete ?_) | (with_reducible refine stop_box ?_))
  refine at_out (wpList_valE rfl (re_range (H4.out.nb ST0.out.k) smT (by rfl)) ?_)
  rintro _ w11 ⟨r, rfl, hr, hR, k11⟩
  simp only [Nat.reduceAdd, Nat.zero_add, Act.put, List.setIfInBounds_toArray, List.set_cons_succ, List.set_cons_zero]
  have HR := Lib.hid hR
  have HRR : Hid (w.heap.size ≤ r) := by have := ST0.out.k.size; refine Lib.hid ?_; omega
  have ST1 := Lib.hid (ST0.out.nb k11)
  clear hR hr k11 C1 ST0
  go_wp2
  go_loopw [6] (fun i wr => ∃ (us : List (ByteArray × Nat)) (φ : Nat → Option Nat), SRng wr m1 r (vals D.files) (vals us) ∧ CpSt w wr d' a3 mo mf ml (.slice none 0 0) D fc φ us [] 0) (fun _ wr => leftS wr m1 r (vals D.files))
  case atStart => exact ⟨[], _, HR.out, ST1.out⟩
  case round =>
    obtain ⟨us, φ, hs, st⟩ := hrel
    have HSR := Lib.hid hs
    have ST := Lib.hid st
    clear hs st
    go_wp2_with (first | go_skip | (with_reducible refine stop_next ?_))
    refine at_out (wpList_valE rfl (re_next HSR.out (by rfl)) ?_)
    rintro _ w2 (⟨hp, rfl, rfl⟩ | ⟨p, hp, hn, rfl, hs2, k2, hen⟩)
    · simp only [Nat.reduceAdd, Nat.zero_add, Act.put, List.setIfInBounds_toArray, List.set_cons_succ, List.set_cons_zero]
      have P1 : Hid (us.Perm D.files) := perm_vals hp
      clear hp
      have C1 : w2.cell? ⟨d, 1, none⟩ = some (.map (some m2)) := (cell_of_block (ST.out.k.nb H3.out)).trans rfl
      have ST1b := ST
      clear HSR ST HR ST1 HRR
      go_wp2_with (first | go_skip | (with_reducible refine stop_load (t := 72) ?_) | (with_reducible refine stop_load (t := 61) ?_) | (with_reducible refine stop_alloc ?_) | (with_reducible refine stop_store ?_) | (with_reducible refine stop_makeMap ?_) | (with_reducible refine stop_rangem ?_) | (with_reducible refine stop_next ?_) | (with_reducible refine stop_entry ?_) | (with_reducible refine stop_buildSlice ?_) | (with_reducible refine stop_app ?_) | (with_reducible refine stop_mapUpdate ?_) | (with_reducible refine stop_lookup ?_) | (with_reducible refine stop_delete ?_) | (with_reducible refine stop_box ?_))
      refine at_out (wpList_valE rfl (re_range (H5.out.nb ST1b.out.k) smT (by rfl)) ?_)
      rintro _ w12 ⟨r2, rfl, hr, hR, k12⟩
      simp only [Nat.reduceAdd, Nat.zero_add, Act.put, List.setIfInBounds_toArray, List.set_cons_succ, List.set_cons_zero]
      have HR2 := Lib.hid hR
      have HRR2 : Hid (w.heap.size ≤ r2) := by have := ST1b.out.k.size; refine Lib.hid ?_; omega
      have ST5 := Lib.hid (ST1b.out.nb k12)
      clear hR hr k12 C1 ST1b
      go_wp2
      go_loopw [8] (fun i wr => ∃ (ws : List (ByteArray × Nat)) (φ : Nat → Option Nat), SRng wr m2 r2 (vals D.lasting) (vals ws) ∧ CpSt w wr d' a3 mo mf ml (.slice none 0 0) D fc φ us ws 0) (fun _ wr => leftS wr m2 r2 (vals D.lasting))
      case atStart => exact ⟨[], _, HR2.out, ST5.out⟩
      case round =>
        obtain ⟨ws, φ, hs, st⟩ := hrel
        have HSR := Lib.hid hs
        have ST := Lib.hid st
        clear hs st
        go_wp2_with (first | go_skip | (with_reducible refine stop_next ?_))
        refine at_out (wpList_valE rfl (re_next HSR.out (by rfl)) ?_)
        rintro _ w2 (⟨hp, rfl, rfl⟩ | ⟨p, hp, hn, rfl, hs2, k2, hen⟩)
        · simp only [Nat.reduceAdd, Nat.zero_add, Act.put, List.setIfInBounds_toArray, List.set_cons_succ, List.set_cons_zero]
          have P2 : Hid (ws.Perm D.lasting) := perm_vals hp
          clear hp
          have ST6 := ST
          clear HSR ST HR2 ST5 HRR2
          obtain ⟨-, hone, a, c, hsv, hc1, hc2, hhas, -, -⟩ := H7.out
          obtain ⟨n, hn⟩ : ∃ n, n = D.steps.length := ⟨_, rfl⟩
          have HN := Lib.hid hn
          have C2 : w2.cell? ⟨d, 2, none⟩ = some (.slice a n c) := by rw [hn]; exact (cell_of_block (ST6.out.k.nb H3.out)).trans (by rw [← hsv]; rfl)
          have hcm : n ≤ c ∧ c ≤ 9223372036854775807 := by rw [hn]; unfold maxLen at hc2; exact ⟨hc1, hc2⟩
          have hnb : n ≤ 1000000 := by have := NU.out.ns; have := NU.out.ch; omega
          have HH := Lib.hid hhas
          have HONE := Lib.hid hone
          clear hone hsv hhas hn hc1 hc2
          go_wp2
          go_loopw [62] (fun i wr => ∃ (k : Nat) (φ : Nat → Option Nat) (sv' : Value), k ≤ n ∧ i = .int .i64 k ∧ CpSt w wr d' a3 mo mf ml sv' D fc φ us ws k) (fun i _ => n - (intOf i).toNat)
          case atStart => exact ⟨0, _, _, Nat.zero_le _, rfl, ST6.out⟩
          case round =>
            obtain ⟨k, φ, sv', hk, rfl, st⟩ := hrel
            have ST := Lib.hid st
            clear st
            by_cases hlt : k < n
            · have i1 : (k : Int) < (n : Int) := by omega
              have hlt' : k < D.steps.length := by rw [← HN.out]; exact hlt
              obtain ⟨s, hs⟩ : ∃ s, D.steps[k]? = some s := ⟨_, List.getElem?_eq_getElem hlt'⟩
              obtain ⟨b, off, rfl⟩ : ∃ b off, a = some ⟨b, off, none⟩ := by
                rcases HH.out with h | ⟨b, off, h, -⟩
                · exfalso
                  have : (stp s) ⊆ D.steps.flatMap stp := fun x hx => List.mem_flatMap.2 ⟨s, List.mem_of_getElem? hs, hx⟩
                  rw [h] at this
                  exact absurd (this (show Value.string s.name ∈ stp s by simp [stp])) (by simp)
                · exact ⟨b, off, h⟩
              have HSS := Lib.hid hs
              have hone : ∀ u ∈ stp s, u.oneCell' = true := fun u hu => HONE.out u (List.mem_flatMap.2 ⟨s, List.mem_of_getElem? hs, hu⟩)
              have hst : Has wr (some ⟨b, off + k * 4, none⟩) (stp s) := has_nth (f := stp) (fun _ => rfl) (HH.out.nb ST.out.k) hs
              have hone2 := Lib.hid hone
              have HST := Lib.hid hst
              clear hs hone hst hlt'
              obtain ⟨z72, hz72, hzl⟩ := zero72
              go_wp2_with (first | go_skip | (with_reducible refine stop_load (t := 72) ?_) | (with_reducible refine stop_load (t := 61) ?_) | (with_reducible refine stop_alloc ?_) | (with_reducible refine stop_store ?_) | (with_reducible refine stop_makeMap ?_) | (with_reducible refine stop_rangem ?_) | (with_reducible refine stop_next ?_) | (with_reducible refine stop_entry ?_) | (with_reducible refine stop_buildSlice ?_) | (with_reducible refine stop_app ?_) | (with_reducible refine stop_mapUpdate ?_) | (with_reducible refine stop_lookup ?_) | (with_reducible refine stop_delete ?_) | (with_reducible refine stop_box ?_))
              refine at_out (wpList_val (v := .agg (stp s).toArray) rfl (rn_loadH agg72 (by rfl) HST.out rfl) ?_)
              simp only [Nat.reduceAdd, Nat.zero_add, Act.put, List.setIfInBounds_toArray, List.set_cons_succ, List.set_cons_zero]
              go_wp2_with (first | go_skip | (with_reducible refine stop_load (t := 72) ?_) | (with_reducible refine stop_load (t := 61) ?_) | (with_reducible refine stop_alloc ?_) | (with_reducible refine stop_store ?_) | (with_reducible refine stop_makeMap ?_) | (with_reducible refine stop_rangem ?_) | (with_reducible refine stop_next ?_) | (with_reducible refine stop_entry ?_) | (with_reducible refine stop_buildSlice ?_) | (with_reducible refine stop_app ?_) | (with_reducible refine stop_mapUpdate ?_) | (with_reducible refine stop_lookup ?_) | (with_reducible refine stop_delete ?_) | (with_reducible refine stop_box ?_))
              refine at_out (valloc hz72 ?_)
              intro g3 w3 n3
              simp only [Nat.reduceAdd, Nat.zero_add, Act.put, List.setIfInBounds_toArray, List.set_cons_succ, List.set_cons_zero]
              go_wp2_with (first | go_skip | (with_reducible refine stop_load (t := 72) ?_) | (with_reducible refine stop_load (t := 61) ?_) | (with_reducible refine stop_alloc ?_) | (with_reducible refine stop_store ?_) | (with_reducible refine stop_makeMap ?_) | (with_reducible refine stop_rangem ?_) | (with_reducible refine stop_next ?_) | (with_reducible refine stop_entry ?_) | (with_reducible refine stop_buildSlice ?_) | (with_reducible refine stop_app ?_) | (with_reducible refine stop_mapUpdate ?_) | (with_reducible refine stop_lookup ?_) | (with_reducible refine stop_delete ?_) | (with_reducible refine stop_box ?_))
              refine at_out (wpList_skipE rfl (re_store (v := .agg (stp s).toArray) (n := 4) agg72.size (by rfl) (by rfl) n3.blk (by simp [Value.cells, stp]) (by rw [hzl]; exact Nat.le_refl _) (by intro u hu; exact hone2.out u (by simpa [Value.cells] using hu))) ?_)
              intro w4 s4
              rw [splice_all (by rw [hzl]; simp [Value.cells, stp])] at s4
              simp only [Nat.reduceAdd, Nat.zero_add, Act.put, List.setIfInBounds_toArray, List.set_cons_succ, List.set_cons_zero]
              have B4 : w4.heap[g3]? = some (.cells (stp s).toArray 72 (0, 0)) := s4.blk
              have k4 : Keeps Nb wr w4 := n3.k.own n3.ge s4.k
              have G3 : Hid (wr.heap.size ≤ g3) := n3.ge
              have ST4 := Lib.hid (ST.out.nb k4)
              have C3 : w4.cell? ⟨g3, 3, none⟩ = some (pk s.f) := (cell_of_block B4).trans (by rw [← ptr_pk]; rfl)
              have STw := ST.out
              clear n3 s4 hz72 hzl HST ST
              go_wp2_with (first | go_skip | (with_reducible refine stop_store ?_) | fail)
              refine (copied_at w.heap.size a3 mo φ s.f D fc R w4 ST4.out.cp ST4.out.bx ST4.out.k.size (fun b' e => HX.out _ ST4.out.k _ (.inr (.inr ⟨s, List.mem_of_getElem? HSS.out, e⟩))) (fun k hk e => by have := HG6.out k hk; have := ST4.out.go; omega)).mono ?_
              rintro _ w5 ⟨φ', rfl, hc5, hle, hin, k5⟩
              have ST5 := Lib.hid (ST4.out.copied hc5 hle k5)
              have hgmo : ¬ g3 = mo := fun e => by obtain ⟨es, cl, q, -⟩ := ST4.out.cp.map; rw [← e, B4] at q; cases q
              have B5 := k5.at B4 hgmo
              have HIN := Lib.hid hin
              have STk := Lib.hid STw.k
              have rowAt : ∀ (W : World), Keeps (· = g3) w5 W → RowS W (fun j => w.heap.size ≤ j) Nb 72 4 sv' k (((D.steps.take k).map (ms φ')).flatMap stp) := fun W hW => by
                rw [ms_eq STw.in3 hle]
                have h0 : RowS wr (fun j => w.heap.size ≤ j ∧ j < wr.heap.size) Nb 72 4 sv' k (((D.steps.take k).map (ms φ)).flatMap stp) := STw.row.tight (fun j hj ht => ⟨hj, by obtain ⟨cur, fr, q⟩ := ht; exact lt_of_block q⟩)
                exact (((h0.keeps k4 (fun _ _ _ e => e)).keeps k5 (fun j _ ht e => by obtain ⟨es, cl, q, -⟩ := ST4.out.cp.map; exact ht.map q e)).keeps hW (fun j hj _ e => by have := G3.out; exact hj.elim (fun h => by omega) id)).mono (fun j hj => hj.1) (fun _ h => h)
              clear hc5 hle hin k5 C3 B4 STw
              go_wp2_with (first | go_skip | (with_reducible refine stop_store ?_) | fail)
              refine at_out (wpList_skipE rfl (re_store (v := pk (s.f.bind φ')) (n := 1) (by kernel_rfl) (by rfl) (by rfl) B5 (by rw [(pk_one _).1]; rfl) (by simp [stp]) (by rw [(pk_one _).1]; simpa using (pk_one _).2)) ?_)
              intro w6 s6
              simp only [Nat.reduceAdd, Nat.zero_add, Act.put, List.setIfInBounds_toArray, List.set_cons_succ, List.set_cons_zero]
              have B6 : w6.heap[g3]? = some (.cells (stp (ms φ' s)).toArray 72 (0, 0)) := by
                rw [s6.blk, (pk_one _).1]
                unfold ms stp
                rw [ptr_pk, ptr_pk]
                rfl
              have k6 := s6.k
              have ROW := Lib.hid (rowAt w6 k6)
              have ST6' := Lib.hid (ST5.out.cell (g := g3) ⟨_, _, B5⟩ (by have := ST5.out.k.size; have := G3.out; have := STk.out.size; omega) k6 ROW.out HO.out)
              clear s6 k6 B5 hgmo rowAt
              have hrw := ST6'.out.row
              obtain ⟨-, -, va, vc, hsv', -⟩ := hrw
              have C2' : w6.cell? ⟨d', 2, none⟩ = some sv' := (cell_of_block ST6'.out.dk).trans rfl
              subst hsv'
              go_wp2_with (first | go_skip | (with_reducible refine stop_load (t := 72) ?_) | (with_reducible refine stop_load (t := 61) ?_) | (with_reducible refine stop_alloc ?_) | (with_reducible refine stop_store ?_) | (with_reducible refine stop_makeMap ?_) | (with_reducible refine stop_rangem ?_) | (with_reducible refine stop_next ?_) | (with_reducible refine stop_entry ?_) | (with_reducible refine stop_buildSlice ?_) | (with_reducible refine stop_app ?_) | (with_reducible refine stop_mapUpdate ?_) | (with_reducible refine stop_lookup ?_) | (with_reducible refine stop_delete ?_) | (with_reducible refine stop_box ?_))
              refine at_out (wpList_val (v := .agg (stp (ms φ' s)).toArray) rfl (rn_loadH agg72 (by rfl) (has_block B6) rfl) ?_)
              simp only [Nat.reduceAdd, Nat.zero_add, Act.put, List.setIfInBounds_toArray, List.set_cons_succ, List.set_cons_zero]
              go_wp2_with (first | go_skip | (with_reducible refine stop_load (t := 72) ?_) | (with_reducible refine stop_load (t := 61) ?_) | (with_reducible refine stop_alloc ?_) | (with_reducible refine stop_store ?_) | (with_reducible refine stop_makeMap ?_) | (with_reducible refine stop_rangem ?_) | (with_reducible refine stop_next ?_) | (with_reducible refine stop_entry ?_) | (with_reducible refine stop_buildSlice ?_) | (with_reducible refine stop_app ?_) | (with_reducible refine stop_mapUpdate ?_) | (with_reducible refine stop_lookup ?_) | (with_reducible refine stop_delete ?_) | (with_reducible refine stop_box ?_))
              refine at_out (wpList_valE rfl (re_buildSlice1 (v := .agg (stp (ms φ' s)).toArray) el57 (by rfl) (by rfl) (by omega)) ?_)
              rintro _ w7 ⟨g7, rfl, n7⟩
              simp only [Nat.reduceAdd, Nat.zero_add, Act.put, List.setIfInBounds_toArray, List.set_cons_succ, List.set_cons_zero]
              have ST7 := Lib.hid (ST6'.out.nb n7.k)
              have hone7 : ∀ u ∈ stp (ms φ' s), u.oneCell' = true := by
                intro u hu
                simp only [stp, ms, List.mem_cons, List.not_mem_nil, or_false] at hu
                rcases hu with rfl | rfl | rfl | rfl
                · rfl
                · rfl
                · rfl
                · rw [ptr_pk]; exact (pk_one _).2
              go_wp2_with (first | go_skip | (with_reducible refine stop_load (t := 72) ?_) | (with_reducible refine stop_load (t := 61) ?_) | (with_reducible refine stop_alloc ?_) | (with_reducible refine stop_store ?_) | (with_reducible refine stop_makeMap ?_) | (with_reducible refine stop_rangem ?_) | (with_reducible refine stop_next ?_) | (with_reducible refine stop_entry ?_) | (with_reducible refine stop_buildSlice ?_) | (with_reducible refine stop_app ?_) | (with_reducible refine stop_mapUpdate ?_) | (with_reducible refine stop_lookup ?_) | (with_reducible refine stop_delete ?_) | (with_reducible refine stop_box ?_))
              refine at_out (wpList_valE rfl (re_push (news := stp (ms φ' s)) el57 ST7.out.row (by rfl) (by rfl) (has_block n7.blk) (by rfl) hone7 (by omega) (by unfold maxLen; omega) (by omega)) ?_)
              rintro sv8 w8 ⟨r8, S8, k8, hS8⟩
              have o8 : sv8.cells = #[sv8] ∧ sv8.oneCell' = true := by obtain ⟨-, -, a, c, rfl, -⟩ := r8; exact ⟨rfl, rfl⟩
              simp only [Nat.reduceAdd, Nat.zero_add, Act.put, List.setIfInBounds_toArray, List.set_cons_succ, List.set_cons_zero]
              have D8 : w8.heap[d']? = some (.cells (dcs mf ml (.slice va k vc) D) 61 (0, 0)) := k8.at ST7.out.dk (fun e => (hS8 _ e).2.ne ⟨_, _, ST7.out.dk⟩ (by decide) rfl)
              go_wp2_with (first | go_skip | (with_reducible refine stop_load (t := 72) ?_) | (with_reducible refine stop_load (t := 61) ?_) | (with_reducible refine stop_alloc ?_) | (with_reducible refine stop_store ?_) | (with_reducible refine stop_makeMap ?_) | (with_reducible refine stop_rangem ?_) | (with_reducible refine stop_next ?_) | (with_reducible refine stop_entry ?_) | (with_reducible refine stop_buildSlice ?_) | (with_reducible refine stop_app ?_) | (with_reducible refine stop_mapUpdate ?_) | (with_reducible refine stop_lookup ?_) | (with_reducible refine stop_delete ?_) | (with_reducible refine stop_box ?_))
              refine at_out (wpList_skipE rfl (re_store (v := sv8) (n := 1) (by kernel_rfl) (by rfl) (by rfl) D8 (by rw [o8.1]; rfl) (by simp [dcs]) (by rw [o8.1]; simpa using o8.2)) ?_)
              intro w9 s9
              rw [o8.1] at s9
              simp only [Nat.reduceAdd, Nat.zero_add, Act.put, List.setIfInBounds_toArray, List.set_cons_succ, List.set_cons_zero]
              have ST9 := Lib.hid (ST7.out.push HSS.out HIN.out k8 (fun j hj => hS8 j hj) r8 s9.k s9.blk HO.out)
              clear r8 k8 hS8 s9 D8 o8 n7 hone7 C2'
              go_wp2
              go_roundw
              case rel => exact ⟨k + 1, φ', sv8, by omega, by go_num, ST9.out⟩
              case measure => simp [intOf]; omega
            · have hkl : k = n := by omega
              subst hkl
              have STz := ST
              clear ST hk hlt
              go_wp2
              go_ret
              have hz := STz.out
              rw [HN.out] at hz
              obtain ⟨D', fc', F', R', g1, g2, g3, g4⟩ := hz.done H.out P1.out P2.out
              exact ⟨d', D', fc', F', R', φ, us, ws, rfl, g1, g2, g3, hz.k, g4⟩
        · obtain ⟨q, hq, rfl⟩ := mem_vals hp
          have hlt := HSR.out.lt hp hn
          have hl1 := HSR.out.left
          have hl2 := hs2.left
          rw [vals_snoc] at hs2 hl2
          have HLL : Hid (leftS w2 m2 r2 (vals D.lasting) < leftS wr m2 r2 (vals D.lasting)) := by
            have e1 := vals_len ws
            have e2 := vals_len (ws ++ [q])
            have e3 := vals_len D.lasting
            have hla : (ws ++ [q]).length = ws.length + 1 := by simp
            refine Lib.hid ?_
            rw [hl1, hl2]; omega
          have hfresh : Hid (flook ws q.1 = none) := fresh_name H5.out.nodup HSR.out hq hn
          have hen2 := Lib.hid hen
          have HS2 := Lib.hid hs2
          have ST2 := Lib.hid (ST.out.rng HRR2.out HSR.out k2 HO.out)
          have HQ := Lib.hid hq
          have HNL : Hid (q.1.size ≤ maxLen) := by obtain ⟨es, cl, -, -, -, hln⟩ := H5.out; exact hln _ hp
          clear hen hs2 hn hp hq k2 hlt hl1 hl2
          simp only [Nat.reduceAdd, Nat.zero_add, Act.put, List.setIfInBounds_toArray, List.set_cons_succ, List.set_cons_zero]
          go_wp2_with (first | go_skip | (with_reducible refine stop_entry ?_))
          refine at_out (wpList_val rfl (rn_entry (hen2.out _ rfl rfl) (by rfl)) ?_)
          simp only [Nat.reduceAdd, Nat.zero_add, Act.put, List.setIfInBounds_toArray, List.set_cons_succ, List.set_cons_zero]
          go_wp2
          have c2 : w2.cell? ⟨d', 1, none⟩ = some (.map (some ml)) := (cell_of_block ST2.out.dk).trans rfl
          have HS : Hid ((fun u : World => u.cell? ⟨d', 1, none⟩ = some (.map (some ml)) ∧ True) w2.drew) := ⟨c2, trivial⟩
          refine WT.region (fun u : World => u.cell? ⟨d', 1, none⟩ = some (.map (some ml)) ∧ True) 6 7 [0, 1, 2, 3, 4, 5, 6] (by kernel_rfl) rfl ?_
          refine WT.take 0 (v := _) (by simp only [List.getElem?_toArray, List.getElem?_cons_succ, List.getElem?_cons_zero]; rfl) (by kernel_rfl) (by exact fun _ _ _ h => h) (by rfl) (by rintro w ⟨C1, C2⟩; go_simp; with_reducible rfl) HS.out ?_
          simp only [Nat.reduceAdd, Nat.zero_add, Act.put, List.setIfInBounds_toArray, List.set_cons_succ, List.set_cons_zero]
          refine WT.take 1 (v := .map (some ml)) (by simp only [List.getElem?_toArray, List.getElem?_cons_succ, List.getElem?_cons_zero]; rfl) (by kernel_rfl) (by exact fun _ _ _ h => h) (by rfl) (by rintro w ⟨C1, C2⟩; exact rn_load1 (by kernel_rfl) (by rfl) C1) HS.out ?_
          simp only [Nat.reduceAdd, Nat.zero_add, Act.put, List.setIfInBounds_toArray, List.set_cons_succ, List.set_cons_zero]
          refine WT.take 2 (v := _) (by simp only [List.getElem?_toArray, List.getElem?_cons_succ, List.getElem?_cons_zero]; rfl) (by kernel_rfl) (by exact fun _ _ _ h => h) (by rfl) (by rintro w ⟨C1, C2⟩; go_simp; with_reducible rfl) HS.out ?_
          simp only [Nat.reduceAdd, Nat.zero_add, Act.put, List.setIfInBounds_toArray, List.set_cons_succ, List.set_cons_zero]
          refine WT.take 3 (v := _) (by simp only [List.getElem?_toArray, List.getElem?_cons_succ, List.getElem?_cons_zero]; rfl) (by kernel_rfl) (by exact fun _ _ _ h => h) (by rfl) (by rintro w ⟨C1, C2⟩; go_simp; with_reducible rfl) HS.out ?_
          simp only [Nat.reduceAdd, Nat.zero_add, Act.put, List.setIfInBounds_toArray, List.set_cons_succ, List.set_cons_zero]
          refine WT.take 4 (v := _) (by simp only [List.getElem?_toArray, List.getElem?_cons_succ, List.getElem?_cons_zero]; rfl) (by kernel_rfl) (by exact fun _ _ _ h => h) (by rfl) (by rintro w ⟨C1, C2⟩; go_simp; with_reducible rfl) HS.out ?_
          simp only [Nat.reduceAdd, Nat.zero_add, Act.put, List.setIfInBounds_toArray, List.set_cons_succ, List.set_cons_zero]
          have STd := Lib.hid (ST2.out.nb (Keeps.refl Nb w2).drew)
          refine WT.call 5 (by simp only [List.getElem?_toArray, List.getElem?_cons_succ, List.getElem?_cons_zero]; rfl) (by kernel_rfl) (by rfl) (by go_simp; first | done | rfl | exact ⟨⟨rfl, rfl⟩, rfl⟩) (copied_at w.heap.size a3 mo φ (some q.2) D fc R w2.drew STd.out.cp STd.out.bx STd.out.k.size (fun b e => by cases e; exact HX.out _ STd.out.k _ (.inr <| .inl ⟨q, HQ.out, rfl⟩)) (fun k hk e => by have := HG6.out k hk; have := STd.out.go; omega)) ?_
          rintro _ w3 ⟨φ', rfl, hc3, hle, hin, k3⟩
          have ST3 := Lib.hid (STd.out.copied hc3 hle k3)
          have kd3 : Keeps (· = mo) w2 w3 := (Keeps.refl (· = mo) w2).drew.trans k3 (fun _ _ e => e)
          refine ⟨_, rfl, ⟨(cell_of_block ST3.out.dk).trans rfl, trivial⟩, ?_⟩
          obtain ⟨c, hc⟩ : ∃ c, φ' q.2 = some c := by
            cases e : φ' q.2 with
            | none => exact absurd e (hin q.2 rfl)
            | some c => exact ⟨c, rfl⟩
          have HC := Lib.hid hc
          rw [show (some q.2).bind φ' = some c from hc]
          simp only [Nat.reduceAdd, Nat.zero_add, Act.put, List.setIfInBounds_toArray, List.set_cons_succ, List.set_cons_zero]
          refine WT.stop (by kernel_rfl) ?_
          refine WP.onlySkipE 6 (by simp only [List.getElem?_toArray, List.getElem?_cons_succ, List.getElem?_cons_zero]; rfl) (by kernel_rfl) (by rfl) (re_sput (v := pk (some c)) ST3.out.m2 smT (by rfl) (by rfl) (by rfl) HNL.out) ?_
          rintro w4 ⟨M4, k4⟩
          simp only [Nat.reduceAdd, Nat.zero_add, Act.put, List.setIfInBounds_toArray, List.set_cons_succ, List.set_cons_zero]
          refine WP.done (by kernel_rfl) ?_
          have hmvq : mv φ' q = (q.1, c) := by simp [mv, HC.out]
          have M4' : SMap w4 ml (vals ((ws ++ [q]).map (mv φ'))) := by
            rw [List.map_append, List.map_singleton, hmvq, ← sput_vals (flook_mv hfresh.out φ')]
            exact M4
          have ST4 := Lib.hid (ST3.out.put2 (q := q) (by rw [HC.out]; simp) M4' k4 HO.out)
          have hrm : ¬ m2 = mo := fun e => by have := H4.out.lt; have := H5.out.lt; have := STd.out.go; omega
          have hrm2 : ¬ m2 = ml := fun e => by have := H4.out.lt; have := H5.out.lt; have := STd.out.gf; have := STd.out.gl; omega
          have hr1 : ¬ r2 = mo := fun e => HS2.out.notPM STd.out.cp.map e.symm
          have hr2 : ¬ r2 = ml := fun e => HS2.out.notM ST2.out.m2 e.symm
          have HS4 := Lib.hid ((HS2.out.keeps kd3 hrm hr1).keeps k4 hrm2 hr2)
          have HLL4 : Hid (leftS w4 m2 r2 (vals D.lasting) < leftS wr m2 r2 (vals D.lasting)) := by
            have h1 := HLL.out
            rw [HS2.out.left] at h1
            refine Lib.hid ?_
            rw [HS4.out.left]; exact h1
          clear hc3 hle hin k3 hc M4 M4' k4 hmvq HS c2 kd3 hrm hrm2 hr1 hr2
          go_wp2
          go_roundw
          case rel => exact ⟨ws ++ [q], φ', HS4.out, ST4.out⟩
          case measure => exact HLL4.out
    · obtain ⟨q, hq, rfl⟩ := mem_vals hp
      have hlt := HSR.out.lt hp hn
      have hl1 := HSR.out.left
      have hl2 := hs2.left
      rw [vals_snoc] at hs2 hl2
      have HLL : Hid (leftS w2 m1 r (vals D.files) < leftS wr m1 r (vals D.files)) := by
        have e1 := vals_len us
        have e2 := vals_len (us ++ [q])
        have e3 := vals_len D.files
        have hla : (us ++ [q]).length = us.length + 1 := by simp
        refine Lib.hid ?_
        rw [hl1, hl2]; omega
      have hfresh : Hid (flook us q.1 = none) := fresh_name H4.out.nodup HSR.out hq hn
      have hen2 := Lib.hid hen
      have HS2 := Lib.hid hs2
      have ST2 := Lib.hid (ST.out.rng HRR.out HSR.out k2 HO.out)
      have HQ := Lib.hid hq
      have HNL : Hid (q.1.size ≤ maxLen) := by obtain ⟨es, cl, -, -, -, hln⟩ := H4.out; exact hln _ hp
      clear hen hs2 hn hp hq k2 hlt hl1 hl2
      simp only [Nat.reduceAdd, Nat.zero_add, Act.put, List.setIfInBounds_toArray, List.set_cons_succ, List.set_cons_zero]
      go_wp2_with (first | go_skip | (with_reducible refine stop_entry ?_))
      refine at_out (wpList_val rfl (rn_entry (hen2.out _ rfl rfl) (by rfl)) ?_)
      simp only [Nat.reduceAdd, Nat.zero_add, Act.put, List.setIfInBounds_toArray, List.set_cons_succ, List.set_cons_zero]
      go_wp2
      have c2 : w2.cell? ⟨d', 0, none⟩ = some (.map (some mf)) := (cell_of_block ST2.out.dk).trans rfl
      have HS : Hid ((fun u : World => u.cell? ⟨d', 0, none⟩ = some (.map (some mf)) ∧ True) w2.drew) := ⟨c2, trivial⟩
      refine WT.region (fun u : World => u.cell? ⟨d', 0, none⟩ = some (.map (some mf)) ∧ True) 6 7 [0, 1, 2, 3, 4, 5, 6] (by kernel_rfl) rfl ?_
      refine WT.take 0 (v := _) (by simp only [List.getElem?_toArray, List.getElem?_cons_succ, List.getElem?_cons_zero]; rfl) (by kernel_rfl) (by exact fun _ _ _ h => h) (by rfl) (by rintro w ⟨C1, C2⟩; go_simp; with_reducible rfl) HS.out ?_
      simp only [Nat.reduceAdd, Nat.zero_add, Act.put, List.setIfInBounds_toArray, List.set_cons_succ, List.set_cons_zero]
      refine WT.take 1 (v := .map (some mf)) (by simp only [List.getElem?_toArray, List.getElem?_cons_succ, List.getElem?_cons_zero]; rfl) (by kernel_rfl) (by exact fun _ _ _ h => h) (by rfl) (by rintro w ⟨C1, C2⟩; exact rn_load1 (by kernel_rfl) (by rfl) C1) HS.out ?_
      simp only [Nat.reduceAdd, Nat.zero_add, Act.put, List.setIfInBounds_toArray, List.set_cons_succ, List.set_cons_zero]
      refine WT.take 2 (v := _) (by simp only [List.getElem?_toArray, List.getElem?_cons_succ, List.getElem?_cons_zero]; rfl) (by kernel_rfl) (by exact fun _ _ _ h => h) (by rfl) (by rintro w ⟨C1, C2⟩; go_simp; with_reducible rfl) HS.out ?_
      simp only [Nat.reduceAdd, Nat.zero_add, Act.put, List.setIfInBounds_toArray, List.set_cons_succ, List.set_cons_zero]
      refine WT.take 3 (v := _) (by simp only [List.getElem?_toArray, List.getElem?_cons_succ, List.getElem?_cons_zero]; rfl) (by kernel_rfl) (by exact fun _ _ _ h => h) (by rfl) (by rintro w ⟨C1, C2⟩; go_simp; with_reducible rfl) HS.out ?_
      simp only [Nat.reduceAdd, Nat.zero_add, Act.put, List.setIfInBounds_toArray, List.set_cons_succ, List.set_cons_zero]
      refine WT.take 4 (v := _) (by simp only [List.getElem?_toArray, List.getElem?_cons_succ, List.getElem?_cons_zero]; rfl) (by kernel_rfl) (by exact fun _ _ _ h => h) (by rfl) (by rintro w ⟨C1, C2⟩; go_simp; with_reducible rfl) HS.out ?_
      simp only [Nat.reduceAdd, Nat.zero_add, Act.put, List.setIfInBounds_toArray, List.set_cons_succ, List.set_cons_zero]
      have STd := Lib.hid (ST2.out.nb (Keeps.refl Nb w2).drew)
      refine WT.call 5 (by simp only [List.getElem?_toArray, List.getElem?_cons_succ, List.getElem?_cons_zero]; rfl) (by kernel_rfl) (by rfl) (by go_simp; first | done | rfl | exact ⟨⟨rfl, rfl⟩, rfl⟩) (copied_at w.heap.size a3 mo φ (some q.2) D fc R w2.drew STd.out.cp STd.out.bx STd.out.k.size (fun b e => by cases e; exact HX.out _ STd.out.k _ (.inl ⟨q, HQ.out, rfl⟩)) (fun k hk e => by have := HG6.out k hk; have := STd.out.go; omega)) ?_
      rintro _ w3 ⟨φ', rfl, hc3, hle, hin, k3⟩
      have ST3 := Lib.hid (STd.out.copied hc3 hle k3)
      have kd3 : Keeps (· = mo) w2 w3 := (Keeps.refl (· = mo) w2).drew.trans k3 (fun _ _ e => e)
      refine ⟨_, rfl, ⟨(cell_of_block ST3.out.dk).trans rfl, trivial⟩, ?_⟩
      obtain ⟨c, hc⟩ : ∃ c, φ' q.2 = some c := by
        cases e : φ' q.2 with
        | none => exact absurd e (hin q.2 rfl)
        | some c => exact ⟨c, rfl⟩
      have HC := Lib.hid hc
      rw [show (some q.2).bind φ' = some c from hc]
      simp only [Nat.reduceAdd, Nat.zero_add, Act.put, List.setIfInBounds_toArray, List.set_cons_succ, List.set_cons_zero]
      refine WT.stop (by kernel_rfl) ?_
      refine WP.onlySkipE 6 (by simp only [List.getElem?_toArray, List.getElem?_cons_succ, List.getElem?_cons_zero]; rfl) (by kernel_rfl) (by rfl) (re_sput (v := pk (some c)) ST3.out.m1 smT (by rfl) (by rfl) (by rfl) HNL.out) ?_
      rintro w4 ⟨M4, k4⟩
      simp only [Nat.reduceAdd, Nat.zero_add, Act.put, List.setIfInBounds_toArray, List.set_cons_succ, List.set_cons_zero]
      refine WP.done (by kernel_rfl) ?_
      have hmvq : mv φ' q = (q.1, c) := by simp [mv, HC.out]
      have M4' : SMap w4 mf (vals ((us ++ [q]).map (mv φ'))) := by
        rw [List.map_append, List.map_singleton, hmvq, ← sput_vals (flook_mv hfresh.out φ')]
        exact M4
      have ST4 := Lib.hid (ST3.out.put1 (q := q) (by rw [HC.out]; simp) M4' k4 HO.out)
      have hrm : ¬ m1 = mo := fun e => by have := H4.out.lt; have := H5.out.lt; have := STd.out.go; omega
      have hrm2 : ¬ m1 = mf := fun e => by have := H4.out.lt; have := H5.out.lt; have := STd.out.gf; have := STd.out.gl; omega
      have hr1 : ¬ r = mo := fun e => HS2.out.notPM STd.out.cp.map e.symm
      have hr2 : ¬ r = mf := fun e => HS2.out.notM ST2.out.m1 e.symm
      have HS4 := Lib.hid ((HS2.out.keeps kd3 hrm hr1).keeps k4 hrm2 hr2)
      have HLL4 : Hid (leftS w4 m1 r (vals D.files) < leftS wr m1 r (vals D.files)) := by
        have h1 := HLL.out
        rw [HS2.out.left] at h1
        refine Lib.hid ?_
        rw [HS4.out.left]; exact h1
      clear hc3 hle hin k3 hc M4 M4' k4 hmvq HS c2 kd3 hrm hrm2 hr1 hr2
      go_wp2
      go_roundw
      case rel => exact ⟨us ++ [q], φ', HS4.out, ST4.out⟩
      case measure => exact HLL4.out
end Go.Proofs.Ytgpecnihjjnkeaa
