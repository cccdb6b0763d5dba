/- Crash: a disk behind a loss of power. -/
import Derived.Test.YtgpecnihjjnkeaaCrashL
set_option linter.unusedVariables false
set_option linter.unusedSimpArgs false
namespace Go.Proofs.Ytgpecnihjjnkeaa
open Go.RowKit Go.Lk Go.Vfs
/-- What Crash answers. -/
def CrashedD (zs : List Int) (w : World) (D : Dk) (fc : Nat → Fl) (e : Ending) (w' : World) : Prop :=
  ∃ d' D' fc' F' R' φ l2 bs, e = .returned (.pointer (some ⟨d', 0, none⟩)) ∧ DiskAt w' d' F' R' D' fc' ∧ (∀ k, F' k → w.heap.size ≤ k) ∧ (∀ k, R' k → w.heap.size ≤ k) ∧ Keeps Nb w w' ∧ CrashR zs D fc D' fc' φ l2 bs
set_option maxHeartbeats 8000000 in
set_option maxRecDepth 100000 in
theorem crash_at (d n c : Nat) (a : Option Addr) (zs : List Int) (D : Dk) (F R : Nat → Prop) (fc : Nat → Fl) (w : World) (h : DiskAt w d F R D fc) (hr : Reads .i64 w a zs) (hl : zs.length = n) (hz : ∀ z ∈ zs, -9223372036854775808 ≤ z ∧ z ≤ 9223372036854775807) (hn : n ≤ c ∧ c ≤ maxLen) (hls : D.lasting.length + D.steps.length ≤ 1000000) :
    Calls Try.prog 23 #[.pointer (some ⟨d, 0, none⟩), .slice a n c] w (CrashedD zs w D fc) := by
  have H := Lib.hid h
  have HRD := Lib.hid hr
  have HL := Lib.hid hl
  have HZ := Lib.hid hz
  have HN := Lib.hid hn
  have HLS := Lib.hid hls
  clear h hr hl hz hn hls
  go_enter Try.func23, Try.ntmps23
  go_wp2_with (first | go_skip | (with_reducible refine stop_load (t := 72) ?_) | (with_reducible refine stop_load (t := 61) ?_) | (with_reducible refine stop_alloc ?_) | (with_reducible refine stop_store ?_) | (with_reducible refine stop_makeMap ?_) | (with_reducible refine stop_rangem ?_) | (with_reducible refine stop_next ?_) | (with_reducible refine stop_entry ?_) | (with_reducible refine stop_buildSlice ?_) | (with_reducible refine stop_app ?_) | (with_reducible refine stop_mapUpdate ?_) | (with_reducible refine stop_lookup ?_) | (with_reducible refine stop_delete ?_) | (with_reducible refine stop_box ?_))
  refine at_out (vbox1 (v := .slice a n c) (by rfl) (by rfl) ?_)
  intro ap w1 n1
  simp only [Nat.reduceAdd, Nat.zero_add, Act.put, List.setIfInBounds_toArray, List.set_cons_succ, List.set_cons_zero]
  have BP1 := Lib.hid n1.blk
  have K1 := Lib.hid n1.k
  have HAP := Lib.hid n1.lt
  clear n1
  go_wp2_with fail
  refine (copy_at d D F R fc w1 (H.out.nb K1.out)).mono ?_
  rintro _ w2 ⟨d', D1, fc1, F1, R1, φ, l1, l2, rfl, hd1, hF1, hR1, k12, hcp⟩
  have HD1 := Lib.hid hd1
  have HF1 := Lib.hid hF1
  have HR1 := Lib.hid hR1
  have K12 := Lib.hid k12
  have CP := Lib.hid hcp
  have BP2 := Lib.hid (k12.nb BP1.out)
  clear hd1 hF1 hR1 k12 hcp BP1
  obtain ⟨⟨m1, m2, sv, h3, h4, h5, h6, h7, h8, h9⟩, g1, g2, g3, g3b, g4, g5, g6⟩ := HD1.out
  have H3 := Lib.hid h3
  have H5 := Lib.hid h5
  have H7 := Lib.hid h7
  have G1 := Lib.hid g1
  have G5 := Lib.hid g5
  have G3B := Lib.hid g3b
  have H9 := Lib.hid h9
  have NU := Lib.hid g3
  clear h3 h4 h5 h6 h7 h8 h9 g1 g2 g3 g3b g4 g5 g6
  go_wp2_with (first | go_skip | (with_reducible refine stop_load (t := 72) ?_) | (with_reducible refine stop_load (t := 61) ?_) | (with_reducible refine stop_alloc ?_) | (with_reducible refine stop_store ?_) | (with_reducible refine stop_makeMap ?_) | (with_reducible refine stop_rangem ?_) | (with_reducible refine stop_next ?_) | (with_reducible refine stop_entry ?_) | (with_reducible refine stop_buildSlice ?_) | (with_reducible refine stop_app ?_) | (with_reducible refine stop_mapUpdate ?_) | (with_reducible refine stop_lookup ?_) | (with_reducible refine stop_delete ?_) | (with_reducible refine stop_box ?_))
  refine at_out (valloc (z := .int .i64 0) (by kernel_rfl) ?_)
  intro ai w3 n3
  simp only [Nat.reduceAdd, Nat.zero_add, Act.put, List.setIfInBounds_toArray, List.set_cons_succ, List.set_cons_zero]
  go_wp2_with (first | go_skip | (with_reducible refine stop_load (t := 72) ?_) | (with_reducible refine stop_load (t := 61) ?_) | (with_reducible refine stop_alloc ?_) | (with_reducible refine stop_store ?_) | (with_reducible refine stop_makeMap ?_) | (with_reducible refine stop_rangem ?_) | (with_reducible refine stop_next ?_) | (with_reducible refine stop_entry ?_) | (with_reducible refine stop_buildSlice ?_) | (with_reducible refine stop_app ?_) | (with_reducible refine stop_mapUpdate ?_) | (with_reducible refine stop_lookup ?_) | (with_reducible refine stop_delete ?_) | (with_reducible refine stop_box ?_))
  refine at_out (wpList_skipE rfl (re_store (v := .int .i64 0) (n := 1) (by kernel_rfl) (by rfl) (by rfl) n3.blk (by rfl) (by simp [Value.cells]) (by simp [Value.cells, Value.oneCell'])) ?_)
  intro w4 s4
  simp only [Nat.reduceAdd, Nat.zero_add, Act.put, List.setIfInBounds_toArray, List.set_cons_succ, List.set_cons_zero]
  have BA4 : Hid (w4.heap[ai]? = some (.cells #[.int .i64 (0 : Nat)] 3 (0, 0))) := s4.blk
  have K24 : Hid (Keeps Nb w2 w4) := n3.k.own n3.ge s4.k
  have GA : Hid (w2.heap.size ≤ ai) := n3.ge
  have BP4 := Lib.hid (K24.out.nb BP2.out)
  clear n3 s4 BP2
  obtain ⟨-, hone, sa, sc, hsv, hc1, hc2, hhas, -, -⟩ := H7.out
  obtain ⟨ns, hns⟩ : ∃ ns, ns = D1.steps.length := ⟨_, rfl⟩
  have HNS := Lib.hid hns
  have C2 : w4.cell? ⟨d', 2, none⟩ = some (.slice sa ns sc) := by rw [hns]; exact (cell_of_block (K24.out.nb H3.out)).trans (by rw [← hsv]; rfl)
  have hcm : ns ≤ sc ∧ sc ≤ 9223372036854775807 := by rw [hns]; unfold maxLen at hc2; exact ⟨hc1, hc2⟩
  have hnb : ns ≤ 1000000 := by have := NU.out.ns; have := NU.out.ch; omega
  have HONE := Lib.hid hone
  have HROW : Hid (RowS w4 F1 R1 72 4 sv D1.steps.length (D1.steps.flatMap stp)) := H7.out.keeps K24.out (fun _ _ _ e => e)
  have HSV := Lib.hid hsv
  clear hone hsv hhas hns hc1 hc2
  go_wp2
  go_loopw [24] (fun i wr => ∃ (k j : Nat) (bs : List Bool), k ≤ ns ∧ i = .int .i64 k ∧ bs = bsOf zs k ∧ j = k ∧ SMap wr m2 (vals (replay bs D1.steps D1.lasting)) ∧ wr.heap[ai]? = some (.cells #[.int .i64 j] 3 (0, 0)) ∧ Keeps (fun x => x = m2 ∨ x = ai) w4 wr) (fun i _ => ns - (intOf i).toNat)
  case atStart => exact ⟨0, 0, [], Nat.zero_le _, rfl, rfl, rfl, by rw [replay_nil]; exact H5.out.nb K24.out, BA4.out, Keeps.refl _ _⟩
  case round =>
    obtain ⟨k, j, bs, hk, rfl, hbq, hj, hm, hb, hkp⟩ := hrel
    have hbl : bs.length = k := by rw [hbq]; simp [bsOf]
    have HBQ := Lib.hid hbq
    have HJK := Lib.hid hj
    have hj : j ≤ k := Nat.le_of_eq hj
    clear hbq
    have HM := Lib.hid hm
    have HB := Lib.hid hb
    have HKP := Lib.hid hkp
    have HBL := Lib.hid hbl
    clear hm hb hkp hbl
    by_cases hlt : k < ns
    · have i1 : (k : Int) < (ns : Int) := by omega
      have hlt' : k < D1.steps.length := by rw [← HNS.out]; exact hlt
      obtain ⟨s, hs⟩ : ∃ s, D1.steps[k]? = some s := ⟨_, List.getElem?_eq_getElem hlt'⟩
      have hrow : RowS wr F1 R1 72 4 sv D1.steps.length (D1.steps.flatMap stp) := HROW.out.keeps HKP.out (fun x _ ht e => by
        rcases e with e | e
        · subst e; obtain ⟨es, cl, q, -⟩ := H5.out.nb K24.out; exact ht.map q rfl
        · exact ht.ne ⟨_, _, e ▸ BA4.out⟩ (by decide) rfl)
      obtain ⟨-, -, sa', sc', hsv', -, -, hhas, -, -⟩ := hrow
      obtain ⟨rfl, rfl⟩ : sa = sa' ∧ sc = sc' := by have := HSV.out.symm.trans hsv'; simp only [Value.slice.injEq] at this; exact ⟨this.1, this.2.2⟩
      obtain ⟨b, off, rfl⟩ : ∃ b off, sa = some ⟨b, off, none⟩ := by
        rcases hhas with h | ⟨b, off, h, -⟩
        · exfalso
          have : (stp s) ⊆ D1.steps.flatMap stp := fun x hx => List.mem_flatMap.2 ⟨s, List.mem_of_getElem? hs, hx⟩
          rw [h] at this
          exact absurd (this (show Value.string s.name ∈ stp s by simp [stp])) (by simp)
        · exact ⟨b, off, h⟩
      have HSS := Lib.hid hs
      have hone2 : Hid (∀ u ∈ stp s, u.oneCell' = true) := fun u hu => HONE.out u (List.mem_flatMap.2 ⟨s, List.mem_of_getElem? hs, hu⟩)
      have HST := Lib.hid (has_nth (f := stp) (m := 4) (fun _ => rfl) hhas hs)
      clear hs hhas hlt' hsv'
      obtain ⟨z72, hz72, hzl⟩ := zero72
      go_wp2_with (first | go_skip | (with_reducible refine stop_load (t := 72) ?_) | (with_reducible refine stop_load (t := 61) ?_) | (with_reducible refine stop_alloc ?_) | (with_reducible refine stop_store ?_) | (with_reducible refine stop_makeMap ?_) | (with_reducible refine stop_rangem ?_) | (with_reducible refine stop_next ?_) | (with_reducible refine stop_entry ?_) | (with_reducible refine stop_buildSlice ?_) | (with_reducible refine stop_app ?_) | (with_reducible refine stop_mapUpdate ?_) | (with_reducible refine stop_lookup ?_) | (with_reducible refine stop_delete ?_) | (with_reducible refine stop_box ?_))
      refine at_out (wpList_val (v := .agg (stp s).toArray) rfl (rn_loadH agg72 (by rfl) HST.out rfl) ?_)
      simp only [Nat.reduceAdd, Nat.zero_add, Act.put, List.setIfInBounds_toArray, List.set_cons_succ, List.set_cons_zero]
      go_wp2_with (first | go_skip | (with_reducible refine stop_load (t := 72) ?_) | (with_reducible refine stop_load (t := 61) ?_) | (with_reducible refine stop_alloc ?_) | (with_reducible refine stop_store ?_) | (with_reducible refine stop_makeMap ?_) | (with_reducible refine stop_rangem ?_) | (with_reducible refine stop_next ?_) | (with_reducible refine stop_entry ?_) | (with_reducible refine stop_buildSlice ?_) | (with_reducible refine stop_app ?_) | (with_reducible refine stop_mapUpdate ?_) | (with_reducible refine stop_lookup ?_) | (with_reducible refine stop_delete ?_) | (with_reducible refine stop_box ?_))
      refine at_out (valloc hz72 ?_)
      intro g5 w5 n5
      simp only [Nat.reduceAdd, Nat.zero_add, Act.put, List.setIfInBounds_toArray, List.set_cons_succ, List.set_cons_zero]
      go_wp2_with (first | go_skip | (with_reducible refine stop_load (t := 72) ?_) | (with_reducible refine stop_load (t := 61) ?_) | (with_reducible refine stop_alloc ?_) | (with_reducible refine stop_store ?_) | (with_reducible refine stop_makeMap ?_) | (with_reducible refine stop_rangem ?_) | (with_reducible refine stop_next ?_) | (with_reducible refine stop_entry ?_) | (with_reducible refine stop_buildSlice ?_) | (with_reducible refine stop_app ?_) | (with_reducible refine stop_mapUpdate ?_) | (with_reducible refine stop_lookup ?_) | (with_reducible refine stop_delete ?_) | (with_reducible refine stop_box ?_))
      refine at_out (wpList_skipE rfl (re_store (v := .agg (stp s).toArray) (n := 4) agg72.size (by rfl) (by rfl) n5.blk (by simp [Value.cells, stp]) (by rw [hzl]; exact Nat.le_refl _) (by intro u hu; exact hone2.out u (by simpa [Value.cells] using hu))) ?_)
      intro w6 s6
      rw [splice_all (by rw [hzl]; simp [Value.cells, stp])] at s6
      simp only [Nat.reduceAdd, Nat.zero_add, Act.put, List.setIfInBounds_toArray, List.set_cons_succ, List.set_cons_zero]
      have k6 : Keeps Nb wr w6 := n5.k.own n5.ge s6.k
      have B6 := Lib.hid s6.blk
      have K6 := Lib.hid k6
      have KP4 := Lib.hid (HKP.out.trans_nb k6)
      have hai : Hid (¬ ap = ai) := fun e => by have := lt_of_block BP4.out; have h1 := BP4.out; rw [e, BA4.out] at h1; cases h1
      have hap : Hid (¬ ap = m2) := fun e => by obtain ⟨es, cl, q, -⟩ := H5.out.nb K24.out; rw [← e, BP4.out] at q; cases q
      have BP6 := Lib.hid (KP4.out.at BP4.out (fun e => e.elim hap.out hai.out))
      have KW : Hid (∀ W, Keeps (fun x => x = m2 ∨ x = ai) w4 W → Keeps Nb w W) := fun W hW => ((K1.out.trans_nb K12.out).trans_nb K24.out).trans hW (fun i hi e => by
        have e1 := HF1.out _ H9.out; have e2 := GA.out; have e3 := K1.out.size; have e4 := K12.out.size
        rcases e with e | e <;> omega)
      have hgm : ¬ g5 = ai := fun e => by have := lt_of_block HB.out; have := n5.ge; omega
      clear n5 s6 hz72 hzl k6 HST
      have PK := Lib.hid (pick_at ai ap j n c a zs w6 (K6.out.nb HB.out) BP6.out (HRD.out.nb (KW.out _ KP4.out)) HL.out HZ.out HN.out (by omega))
      go_wp2_with fail
      refine PK.out.mono ?_
      rintro _ w7 ⟨rfl, hm2, hb7, k7⟩
      obtain ⟨m, hmq⟩ : ∃ m, m = pkn zs j := ⟨_, rfl⟩
      have HMQ := Lib.hid hmq
      rw [← hmq] at hm2 ⊢
      clear hmq
      have HB7 := Lib.hid hb7
      have K7 := Lib.hid k7
      have KP7 := Lib.hid (KP4.out.trans k7 (fun _ _ e => .inr e))
      have B7 := Lib.hid (k7.at B6.out (fun e => hgm e))
      have M7 := Lib.hid ((HM.out.nb K6.out).keeps k7 (fun e => by obtain ⟨es, cl, q, -⟩ := H5.out.nb K24.out; rw [e, BA4.out] at q; cases q))
      have hd2 : ¬ d' = m2 := fun e => by obtain ⟨es, cl, q, -⟩ := H5.out; rw [← e, H3.out] at q; cases q
      have hda : ¬ d' = ai := fun e => by have := G5.out _ G1.out; have := GA.out; omega
      have D7 := Lib.hid (KP7.out.at (K24.out.nb H3.out) (fun e => e.elim hd2 hda))
      have HGS : Hid (GoodS s) := G3B.out.steps s (List.mem_of_getElem? HSS.out)
      clear PK hb7 k7 hgm hd2 hda
      by_cases hodd : (m : Int) % 2 = 1
      · go_wp2_with (first | go_skip | (with_reducible refine stop_load (t := 72) ?_) | (with_reducible refine stop_load (t := 61) ?_) | (with_reducible refine stop_alloc ?_) | (with_reducible refine stop_store ?_) | (with_reducible refine stop_makeMap ?_) | (with_reducible refine stop_rangem ?_) | (with_reducible refine stop_next ?_) | (with_reducible refine stop_entry ?_) | (with_reducible refine stop_buildSlice ?_) | (with_reducible refine stop_app ?_) | (with_reducible refine stop_mapUpdate ?_) | (with_reducible refine stop_lookup ?_) | (with_reducible refine stop_delete ?_) | (with_reducible refine stop_box ?_))
        refine at_out (wpList_val (v := .agg (stp s).toArray) rfl (rn_loadH agg72 (by rfl) (has_block B7.out) rfl) ?_)
        simp only [Nat.reduceAdd, Nat.zero_add, Act.put, List.setIfInBounds_toArray, List.set_cons_succ, List.set_cons_zero]
        have AG := Lib.hid (again_at d' m1 m2 sv { D1 with lasting := replay bs D1.steps D1.lasting } s w7 D7.out M7.out HGS.out)
        go_wp2_with fail
        refine AG.out.mono ?_
        rintro _ w8 ⟨⟨v, rfl⟩, hm8, k8⟩
        have HM8 : Hid (SMap w8 m2 (vals (replay (bs ++ [true]) D1.steps D1.lasting))) := by
          rw [replay_snoc true bs _ _ s (by rw [HBL.out]; exact HSS.out)]; exact hm8
        have HB8 := Lib.hid (k8.at HB7.out (fun e => by obtain ⟨es, cl, q, -⟩ := H5.out.nb K24.out; rw [← e, BA4.out] at q; cases q))
        have KP8 := Lib.hid (KP7.out.trans k8 (fun _ _ e => .inl e))
        have HL8 : Hid (bs ++ [true] = bsOf zs (k + 1)) := by refine Lib.hid ?_; rw [bsOf_succ, ← HBQ.out, ← HJK.out, ← HMQ.out, show decide (m % 2 = 1) = true from decide_eq_true (by omega)]
        have HJ8 : Hid (j + 1 = k + 1) := by refine Lib.hid ?_; rw [HJK.out]
        clear hm8 k8 AG
        go_wp2
        go_roundw
        case rel => exact ⟨k + 1, j + 1, bs ++ [true], by omega, by go_num, HL8.out, HJ8.out, HM8.out, HB8.out, KP8.out⟩
        case measure => simp [intOf]; omega
      · have HM8 : Hid (SMap w7 m2 (vals (replay (bs ++ [false]) D1.steps D1.lasting))) := by
          rw [replay_snoc false bs _ _ s (by rw [HBL.out]; exact HSS.out)]; exact M7.out
        have HL8 : Hid (bs ++ [false] = bsOf zs (k + 1)) := by refine Lib.hid ?_; rw [bsOf_succ, ← HBQ.out, ← HJK.out, ← HMQ.out, show decide (m % 2 = 1) = false from decide_eq_false (by omega)]
        have HJ8 : Hid (j + 1 = k + 1) := by refine Lib.hid ?_; rw [HJK.out]
        go_wp2
        go_roundw
        case rel => exact ⟨k + 1, j + 1, bs ++ [false], by omega, by go_num, HL8.out, HJ8.out, HM8.out, HB7.out, KP7.out⟩
        case measure => simp [intOf]; omega
    · have hkl : k = ns := by omega
      subst hkl
      have HJ := Lib.hid hj
      obtain ⟨X, hX⟩ : ∃ X, X = replay bs D1.steps D1.lasting := ⟨_, rfl⟩
      have HX := Lib.hid hX
      rw [← hX] at HM
      have hd2 : ¬ d' = m2 := fun e => by obtain ⟨es, cl, q, -⟩ := H5.out; rw [← e, H3.out] at q; cases q
      have hda : ¬ d' = ai := fun e => by have := G5.out _ G1.out; have := GA.out; omega
      have D7 := Lib.hid (HKP.out.at (K24.out.nb H3.out) (fun e => e.elim hd2 hda))
      have C1 : wr.cell? ⟨d', 1, none⟩ = some (.map (some m2)) := (cell_of_block D7.out).trans rfl
      have CM := Lib.hid (clonem_at m2 (vals X) wr HM.out)
      clear hX hj hk hlt hd2 hda C2
      go_wp2_with (first | go_skip | (with_reducible refine stop_store ?_) | fail)
      refine CM.out.mono ?_
      rintro _ w5 ⟨g, rfl, hg, hmg, k5⟩
      have HMG := Lib.hid hmg
      have HG : Hid (wr.heap.size ≤ g) := hg
      have K5 := Lib.hid k5
      have D5 := Lib.hid (k5.nb D7.out)
      clear CM hmg hg k5 C1
      go_wp2_with (first | go_skip | (with_reducible refine stop_load (t := 72) ?_) | (with_reducible refine stop_load (t := 61) ?_) | (with_reducible refine stop_alloc ?_) | (with_reducible refine stop_store ?_) | (with_reducible refine stop_makeMap ?_) | (with_reducible refine stop_rangem ?_) | (with_reducible refine stop_next ?_) | (with_reducible refine stop_entry ?_) | (with_reducible refine stop_buildSlice ?_) | (with_reducible refine stop_app ?_) | (with_reducible refine stop_mapUpdate ?_) | (with_reducible refine stop_lookup ?_) | (with_reducible refine stop_delete ?_) | (with_reducible refine stop_box ?_))
      refine at_out (wpList_skipE rfl (re_store (v := .map (some g)) (n := 1) (by kernel_rfl) (by rfl) (by rfl) D5.out (by rfl) (by simp [dcs]) (by simp [Value.cells, Value.oneCell'])) ?_)
      intro w6 s6
      simp only [Nat.reduceAdd, Nat.zero_add, Act.put, List.setIfInBounds_toArray, List.set_cons_succ, List.set_cons_zero]
      have D6 : Hid (w6.heap[d']? = some (.cells (dcs g m2 sv D1) 61 (0, 0))) := s6.blk
      have K6 := Lib.hid s6.k
      clear s6
      go_wp2_with (first | go_skip | (with_reducible refine stop_load (t := 72) ?_) | (with_reducible refine stop_load (t := 61) ?_) | (with_reducible refine stop_alloc ?_) | (with_reducible refine stop_store ?_) | (with_reducible refine stop_makeMap ?_) | (with_reducible refine stop_rangem ?_) | (with_reducible refine stop_next ?_) | (with_reducible refine stop_entry ?_) | (with_reducible refine stop_buildSlice ?_) | (with_reducible refine stop_app ?_) | (with_reducible refine stop_mapUpdate ?_) | (with_reducible refine stop_lookup ?_) | (with_reducible refine stop_delete ?_) | (with_reducible refine stop_box ?_))
      refine at_out (wpList_skipE rfl (re_store (v := .slice none 0 0) (n := 1) (by kernel_rfl) (by rfl) (by rfl) D6.out (by rfl) (by simp [dcs]) (by simp [Value.cells, Value.oneCell'])) ?_)
      intro w7 s7
      simp only [Nat.reduceAdd, Nat.zero_add, Act.put, List.setIfInBounds_toArray, List.set_cons_succ, List.set_cons_zero]
      have D7b : Hid (w7.heap[d']? = some (.cells (dcs g m2 (.slice none 0 0) D1) 61 (0, 0))) := s7.blk
      have K7 := Lib.hid (K6.out.trans s7.k (fun _ _ e => e))
      clear s7 K6 D6
      have hb59 : ∀ W : World, (Instr.build 59 #[]).run Try.prog W = .ok (.agg #[.int .i64 0, .int .i64 0]) W := fun _ => by kernel_rfl
      go_wp2_with (first | go_skip | (with_reducible refine stop_load (t := 72) ?_) | (with_reducible refine stop_load (t := 61) ?_) | (with_reducible refine stop_alloc ?_) | (with_reducible refine stop_store ?_) | (with_reducible refine stop_makeMap ?_) | (with_reducible refine stop_rangem ?_) | (with_reducible refine stop_next ?_) | (with_reducible refine stop_entry ?_) | (with_reducible refine stop_buildSlice ?_) | (with_reducible refine stop_app ?_) | (with_reducible refine stop_mapUpdate ?_) | (with_reducible refine stop_lookup ?_) | (with_reducible refine stop_delete ?_) | (with_reducible refine stop_box ?_))
      refine at_out (wpList_skipE rfl (re_store (v := .int .i64 (-1)) (n := 1) (by kernel_rfl) (by rfl) (by rfl) D7b.out (by rfl) (by simp [dcs]) (by simp [Value.cells, Value.oneCell'])) ?_)
      intro w8 s8
      simp only [Nat.reduceAdd, Nat.zero_add, Act.put, List.setIfInBounds_toArray, List.set_cons_succ, List.set_cons_zero]
      have D8 : Hid (w8.heap[d']? = some (.cells (dcs g m2 (.slice none 0 0) { D1 with fuse := -1 }) 61 (0, 0))) := s8.blk
      have K8 := Lib.hid (K7.out.trans s8.k (fun _ _ e => e))
      clear s8 K7
      go_wp2_with (first | go_skip | (with_reducible refine stop_load (t := 72) ?_) | (with_reducible refine stop_load (t := 61) ?_) | (with_reducible refine stop_alloc ?_) | (with_reducible refine stop_store ?_) | (with_reducible refine stop_makeMap ?_) | (with_reducible refine stop_rangem ?_) | (with_reducible refine stop_next ?_) | (with_reducible refine stop_entry ?_) | (with_reducible refine stop_buildSlice ?_) | (with_reducible refine stop_app ?_) | (with_reducible refine stop_mapUpdate ?_) | (with_reducible refine stop_lookup ?_) | (with_reducible refine stop_delete ?_) | (with_reducible refine stop_box ?_))
      refine at_out (wpList_skipE rfl (re_store (v := .agg #[.int .i64 0, .int .i64 0]) (n := 2) (by kernel_rfl) (by rfl) (by rfl) D8.out (by rfl) (by simp [dcs]) (by simp [Value.cells, Value.oneCell'])) ?_)
      intro w9 s9
      simp only [Nat.reduceAdd, Nat.zero_add, Act.put, List.setIfInBounds_toArray, List.set_cons_succ, List.set_cons_zero]
      have D9 : Hid (w9.heap[d']? = some (.cells (dcs g m2 (.slice none 0 0) { D1 with fuse := -1, fn := 0, fe := 0 }) 61 (0, 0))) := s9.blk
      have K9 := Lib.hid (K8.out.trans s9.k (fun _ _ e => e))
      clear s9 K8
      go_wp2_with (first | go_skip | (with_reducible refine stop_load (t := 72) ?_) | (with_reducible refine stop_load (t := 61) ?_) | (with_reducible refine stop_alloc ?_) | (with_reducible refine stop_store ?_) | (with_reducible refine stop_makeMap ?_) | (with_reducible refine stop_rangem ?_) | (with_reducible refine stop_next ?_) | (with_reducible refine stop_entry ?_) | (with_reducible refine stop_buildSlice ?_) | (with_reducible refine stop_app ?_) | (with_reducible refine stop_mapUpdate ?_) | (with_reducible refine stop_lookup ?_) | (with_reducible refine stop_delete ?_) | (with_reducible refine stop_box ?_))
      refine at_out (wpList_skipE rfl (re_store (v := .bool false) (n := 1) (by kernel_rfl) (by rfl) (by rfl) D9.out (by rfl) (by simp [dcs]) (by simp [Value.cells, Value.oneCell'])) ?_)
      intro w10 s10
      simp only [Nat.reduceAdd, Nat.zero_add, Act.put, List.setIfInBounds_toArray, List.set_cons_succ, List.set_cons_zero]
      have D10 : Hid (w10.heap[d']? = some (.cells (dcs g m2 (.slice none 0 0) { D1 with fuse := -1, fn := 0, fe := 0, dead := false }) 61 (0, 0))) := s10.blk
      have K10 := Lib.hid (K9.out.trans s10.k (fun _ _ e => e))
      clear s10 K9
      go_wp2_with (first | go_skip | (with_reducible refine stop_load (t := 72) ?_) | (with_reducible refine stop_load (t := 61) ?_) | (with_reducible refine stop_alloc ?_) | (with_reducible refine stop_store ?_) | (with_reducible refine stop_makeMap ?_) | (with_reducible refine stop_rangem ?_) | (with_reducible refine stop_next ?_) | (with_reducible refine stop_entry ?_) | (with_reducible refine stop_buildSlice ?_) | (with_reducible refine stop_app ?_) | (with_reducible refine stop_mapUpdate ?_) | (with_reducible refine stop_lookup ?_) | (with_reducible refine stop_delete ?_) | (with_reducible refine stop_box ?_))
      refine at_out (wpList_skipE rfl (re_store (v := .int .i64 0) (n := 1) (by kernel_rfl) (by rfl) (by rfl) D10.out (by rfl) (by simp [dcs]) (by simp [Value.cells, Value.oneCell'])) ?_)
      intro w11 s11
      simp only [Nat.reduceAdd, Nat.zero_add, Act.put, List.setIfInBounds_toArray, List.set_cons_succ, List.set_cons_zero]
      have D11 : Hid (w11.heap[d']? = some (.cells (dcs g m2 (.slice none 0 0) (crashD D1 X)) 61 (0, 0))) := s11.blk
      have K11 : Hid (Keeps (· = d') w5 w11) := K10.out.trans s11.k (fun _ _ e => e)
      clear s11 K10
      have hD5 : ∃ F', DiskAt w11 d' F' R1 (crashD D1 X) fc1 ∧ (∀ k, F' k → F1 k ∨ k = g) := by
        have z1 := K24.out.size; have z2 := HKP.out.size; have z3 := K5.out.size; have z4 := GA.out; have z5 := HG.out
        have hdl := G5.out _ G1.out
        have hd2 : ¬ m2 = d' := fun e => by obtain ⟨es, cl, q, -⟩ := H5.out; rw [e, H3.out] at q; cases q
        have kk : Keeps (fun x => x = d' ∨ x = m2) w2 w11 := (((Keeps.of_nb K24.out).trans HKP.out (fun i hi e => e.elim .inr (fun e => by omega))).trans_nb K5.out).trans K11.out (fun i _ e => .inl e)
        refine HD1.out.crashed H3.out D11.out kk (by omega) (HMG.out.keeps K11.out (by omega)) ((HM.out.nb K5.out).keeps K11.out hd2) (fun p hp => ?_) (fun p hp => ?_) ?_
        · rw [HX.out] at hp
          rcases (replay_mem bs _ _ G3B.out.steps p hp).1 with ⟨q, hq, e⟩ | ⟨s, hs, e⟩
          · exact .inr (.inl ⟨q, hq, e⟩)
          · exact .inr (.inr ⟨s, hs, e⟩)
        · rw [HX.out] at hp
          rcases (replay_mem bs _ _ G3B.out.steps p hp).2 with h | h
          · exact G3B.out.lasting p h
          · exact h
        · rw [HX.out]
          refine Nat.le_trans (replay_len _ _ _) ?_
          have e1 := CP.out.eq
          have e2 := CP.out.p2.length_eq
          have := HLS.out
          rw [e1]; simp only [List.length_map]; omega
      obtain ⟨F5, hD5, hF5⟩ := hD5
      have HD5 := Lib.hid hD5
      have HF5 : Hid (∀ k, F5 k → w1.heap.size ≤ k) := fun k hk => by
        have := K12.out.size; have := K24.out.size; have := HKP.out.size; have := HG.out
        exact (hF5 k hk).elim (HF1.out k) (fun h => by omega)
      have KALL : Hid (Keeps Nb w w11) := by
        have e3 := K1.out.size; have e4 := K12.out.size; have e5 := GA.out; have e6 := K24.out.size; have e7 := HKP.out.size; have e8 := K5.out.size
        have k1 : Keeps Nb w wr := ((K1.out.trans_nb K12.out).trans_nb K24.out).trans HKP.out (fun i hi e => by have e1 := HF1.out _ H9.out; rcases e with e | e <;> omega)
        exact (k1.trans_nb K5.out).trans K11.out (fun i hi e => by have e1 := HF1.out _ G1.out; omega)
      have BA11 : Hid (w11.heap[ai]? = some (.cells #[.int .i64 j] 3 (0, 0))) := K11.out.at (K5.out.nb HB.out) (fun e => by have := G5.out _ G1.out; have := GA.out; omega)
      have BP11 : Hid (w11.heap[ap]? = some (.cells #[.slice a n c] 32 (0, 0))) := by
        have hai : ¬ ap = ai := fun e => by have h1 := BP4.out; rw [e, BA4.out] at h1; cases h1
        have hap : ¬ ap = m2 := fun e => by obtain ⟨es, cl, q, -⟩ := H5.out.nb K24.out; rw [← e, BP4.out] at q; cases q
        have hapd : ¬ ap = d' := fun e => by have h1 := (K24.out.nb H3.out); rw [← e, BP4.out] at h1; cases h1
        exact K11.out.at (K5.out.nb (HKP.out.at BP4.out (fun e => e.elim hap hai))) hapd
      have LEX : Hid (X.length ≤ 1000000) := hD5.nums.nf
      have HFA : Hid (¬ F5 ai ∧ ¬ R1 ai) := ⟨fun e => (hF5 ai e).elim (fun e => by have := G5.out _ e; have := GA.out; omega) (fun e => by have := lt_of_block HB.out; have := HG.out; omega), fun e => by have := HD1.out.ltR _ e; have := GA.out; omega⟩
      have HFP : Hid (¬ F5 ap) := fun e => by have h1 := HF5.out _ e; have h2 := (hF5 ap e); have h3 := BP4.out; have h4 := HG.out; have h5 := lt_of_block BP4.out; have h6 := HKP.out.size; rcases h2 with h2 | h2
                                              · have h7 := lt_of_block BP4.out; exact absurd (HAP.out) (by omega)
                                              · omega
      have C0 : w11.cell? ⟨d', 0, none⟩ = some (.map (some g)) := (cell_of_block D11.out).trans rfl
      have MG := Lib.hid (HMG.out.keeps K11.out (fun e => by have := G5.out _ G1.out; have := HKP.out.size; have := K24.out.size; have := HG.out; omega))
      have SA := Lib.hid (sorted_at g (vals X) w11 MG.out (by rw [vals_len]; exact LEX.out))
      have HXL := Lib.hid HX.out
      clear BP4 BA4 HROW HONE HSV HM D5 D7 D7b D8 D9 D10 K5 HMG H7 hF5 hD5 hb59 hcm HB K11 MG H3 H5 HKP
      go_wp2_with fail
      refine (keys_at g w11).mono ?_
      rintro _ _ ⟨rfl, rfl⟩
      go_wp2_with fail
      refine SA.out.mono ?_
      rintro _ w12 ⟨v, nms, rfl, hperm, hrow, k12⟩
      have HPERM := Lib.hid hperm
      obtain ⟨va, vc, rfl, hv1, hv2, hv3, hv4⟩ := owns_has hrow
      obtain ⟨nn, hnn⟩ : ∃ nn, nn = nms.length := ⟨_, rfl⟩
      have HNN := Lib.hid hnn
      rw [← hnn] at hv1 ⊢
      have hvm : nn ≤ vc ∧ vc ≤ 9223372036854775807 := by unfold maxLen at hv2; exact ⟨hv1, hv2⟩
      have hnx : nn ≤ 1000000 := by rw [hnn, hperm.length_eq, List.length_map, vals_len]; exact LEX.out
      have HV := Lib.hid hv3
      have HV4 : Hid (∀ b off, va = some ⟨b, off, none⟩ → w11.heap.size ≤ b) := fun b off e => (hv4 b off e).2.2.1
      have K12' := Lib.hid k12
      have HD12 := Lib.hid (HD5.out.nb k12)
      have BA12 := Lib.hid (k12.nb BA11.out)
      have BP12 := Lib.hid (k12.nb BP11.out)
      clear hperm hrow hv1 hv2 hv3 hv4 hnn k12 C0 SA
      go_wp2
      go_loopw [67] (fun i wr => ∃ (k j : Nat) (fcr : Nat → Fl), k ≤ nn ∧ i = .int .i64 k ∧ j ≤ 1000000 + k ∧ Hid ((nms.take k).foldl (tr1 zs X) (fc1, D1.steps.length) = (fcr, j)) ∧ DiskAt wr d' F5 R1 (crashD D1 X) fcr ∧ wr.heap[ai]? = some (.cells #[.int .i64 j] 3 (0, 0)) ∧ (∀ b, Tr (fc1 b) (fcr b)) ∧ (∀ s ∈ nms.take k, ∀ b, flook X s = some b → (fcr b).lasts = (fcr b).b.length) ∧ Keeps (fun x => F5 x ∨ x = ai) w12 wr) (fun i _ => nn - (intOf i).toNat)
      case atStart => exact ⟨0, j, fc1, Nat.zero_le _, rfl, by have := HJ.out; omega, Lib.hid (by rw [List.take_zero, ← HNS.out, HJK.out]; rfl), HD12.out, BA12.out, fun b => .inl rfl, by simp, Keeps.refl _ _⟩
      case round =>
        obtain ⟨k, j, fcr, hk, rfl, hj, HFO, hd, hb, htr, hdn, hkp⟩ := hrel
        have HD := Lib.hid hd
        have HB := Lib.hid hb
        have HTR := Lib.hid htr
        have HDN := Lib.hid hdn
        have HKP := Lib.hid hkp
        clear hd hb htr hdn hkp
        by_cases hlt : k < nn
        · have i1 : (k : Int) < (nn : Int) := by omega
          obtain ⟨s, hs⟩ : ∃ s, nms[k]? = some s := ⟨_, List.getElem?_eq_getElem (by rw [← HNN.out]; exact hlt)⟩
          have HS := Lib.hid hs
          have hvr : Has wr va (nms.map Value.string) := HV.out.keeps HKP.out (fun b off e hne e2 => by
            have := HV4.out b off e
            rcases e2 with e2 | e2
            · have := HD5.out.ltF _ e2; omega
            · have := lt_of_block BA11.out; omega)
          obtain ⟨b9, o9, rfl⟩ : ∃ b off, va = some ⟨b, off, none⟩ := by
            rcases hvr with h | ⟨b, off, h, -⟩
            · exfalso; have : nms = [] := List.map_eq_nil_iff.1 h; rw [this] at hs; cases hs
            · exact ⟨b, off, h⟩
          have c9 : wr.cell? ⟨b9, o9 + k, none⟩ = some (.string s) := by
            rcases hvr with h | ⟨b, off, h, hc⟩
            · exfalso; have : nms = [] := List.map_eq_nil_iff.1 h; rw [this] at hs; cases hs
            · cases h; exact hc k _ (by rw [List.getElem?_map, hs]; rfl)
          have hin : s ∈ X.map Prod.fst := by
            have h1 := HPERM.out.mem_iff.1 (List.mem_of_getElem? hs)
            simpa [vals, List.map_map] using h1
          obtain ⟨b, hfl⟩ := flook_in hin
          have HFL := Lib.hid hfl
          have hsm : Hid (s.size ≤ maxLen) := by
            obtain ⟨p, hp, rfl⟩ := List.mem_map.1 hin
            exact mnB_max (HD5.out.names.files p hp)
          clear hs hvr hin hfl
          obtain ⟨⟨p1, p2, pv, ph3, ph4, -⟩, -⟩ := HD.out
          have C0 : wr.cell? ⟨d', 0, none⟩ = some (.map (some p1)) := (cell_of_block ph3).trans rfl
          have PH4 : Hid (SMap wr p1 (vals X)) := ph4
          have HG0 : Hid ((sget (vals X) s).getD (.pointer none) = .pointer (some ⟨b, 0, none⟩)) := by refine Lib.hid ?_; rw [sget_vals, HFL.out]; rfl
          clear ph3 ph4
          go_wp2_with (first | go_skip | (with_reducible refine stop_load (t := 72) ?_) | (with_reducible refine stop_load (t := 61) ?_) | (with_reducible refine stop_alloc ?_) | (with_reducible refine stop_store ?_) | (with_reducible refine stop_makeMap ?_) | (with_reducible refine stop_rangem ?_) | (with_reducible refine stop_next ?_) | (with_reducible refine stop_entry ?_) | (with_reducible refine stop_buildSlice ?_) | (with_reducible refine stop_app ?_) | (with_reducible refine stop_mapUpdate ?_) | (with_reducible refine stop_lookup ?_) | (with_reducible refine stop_delete ?_) | (with_reducible refine stop_box ?_))
          refine at_out (wpList_val rfl (rn_slook (n := s) PH4.out smT (zero63 _) (by rfl) (by rfl) hsm.out) ?_)
          simp only [Bool.false_eq_true, if_false, HG0.out]
          simp only [Nat.reduceAdd, Nat.zero_add, Act.put, List.setIfInBounds_toArray, List.set_cons_succ, List.set_cons_zero]
          have hrf : Ref (crashD D1 X) b := .inl ⟨_, flook_some HFL.out, rfl⟩
          have HRF := Lib.hid hrf
          obtain ⟨⟨fv, z1, z2, z3, z4⟩, z5⟩ := HD.out.file b hrf
          obtain ⟨fa, fcap, rfl, -⟩ := z2.rows
          obtain ⟨m, hm⟩ : ∃ m, m = (fcr b).b.length := ⟨_, rfl⟩
          obtain ⟨q, hq⟩ : ∃ q, q = (fcr b).lasts := ⟨_, rfl⟩
          have HM := Lib.hid hm
          have HQ := Lib.hid hq
          have Z2 := Lib.hid z2
          have Z5 := Lib.hid z5
          rw [← hm] at z1 z3 z4
          rw [← hq] at z1 z3
          have Z1 := Lib.hid z1
          have F0 : ∀ u : Sub wr, u.wd.cell? ⟨b, 0, none⟩ = some (.slice fa m fcap) := fun u => (cell_of_block (u.k.nb z1)).trans rfl
          have F1' : ∀ u : Sub wr, u.wd.cell? ⟨b, 1, none⟩ = some (.int .i64 q) := fun u => (cell_of_block (u.k.nb z1)).trans rfl
          clear z1 z2 z5 hrf hm hq C0 c9
          go_wp2
          refine region_sub (by kernel_rfl) (by kernel_rfl) ?_
          repeat (go_big_quiet_step (fail))
          refine wpQuiet_nil ?_
          rintro w13 ⟨u13, hu13⟩
          have K13 : Hid (Keeps Nb wr w13) := hu13 ▸ u13.k
          clear hu13 F0 F1'
          have HPK := Lib.hid (pick_at ai ap j n c a zs)
          have HD13 := Lib.hid (HD.out.nb K13.out)
          have HB13 := Lib.hid (K13.out.nb HB.out)
          have Z13 := Lib.hid (K13.out.nb Z1.out)
          have hba : ¬ b = ai := fun e => HFA.out.1 (e ▸ Z5.out)
          by_cases hloose : q < m
          · have l1 : (0 : Int) < (m : Int) - (q : Int) := by omega
            go_wp2
            have HSb : Hid ((fun u : World => u.cell? ⟨b, 1, none⟩ = some (.int .i64 q) ∧ True) w13.drew) := ⟨(cell_of_block Z13.out).trans rfl, trivial⟩
            refine WT.region (fun u : World => u.cell? ⟨b, 1, none⟩ = some (.int .i64 q) ∧ True) 10 13 [0, 1, 2, 3, 4, 6, 7, 5, 8, 9, 10, 11, 12] (by kernel_rfl) rfl ?_
            have HSS := HS
            have HS := HSb
            refine WT.take 0 (v := _) (by simp only [List.getElem?_toArray, List.getElem?_cons_succ, List.getElem?_cons_zero]; rfl) (by kernel_rfl) (by exact fun _ _ _ h => h) (by rfl) (by rintro w ⟨C1, C2⟩; go_simp; with_reducible rfl) HS.out ?_
            simp only [Nat.reduceAdd, Nat.zero_add, Act.put, List.setIfInBounds_toArray, List.set_cons_succ, List.set_cons_zero]
            refine WT.take 1 (v := _) (by simp only [List.getElem?_toArray, List.getElem?_cons_succ, List.getElem?_cons_zero]; rfl) (by kernel_rfl) (by exact fun _ _ _ h => h) (by rfl) (by rintro w ⟨C1, C2⟩; go_simp; with_reducible rfl) HS.out ?_
            simp only [Nat.reduceAdd, Nat.zero_add, Act.put, List.setIfInBounds_toArray, List.set_cons_succ, List.set_cons_zero]
            refine WT.take 2 (v := _) (by simp only [List.getElem?_toArray, List.getElem?_cons_succ, List.getElem?_cons_zero]; rfl) (by kernel_rfl) (by exact fun _ _ _ h => h) (by rfl) (by rintro w ⟨C1, C2⟩; go_simp; with_reducible rfl) HS.out ?_
            simp only [Nat.reduceAdd, Nat.zero_add, Act.put, List.setIfInBounds_toArray, List.set_cons_succ, List.set_cons_zero]
            refine WT.take 3 (v := .int .i64 q) (by simp only [List.getElem?_toArray, List.getElem?_cons_succ, List.getElem?_cons_zero]; rfl) (by kernel_rfl) (by exact fun _ _ _ h => h) (by rfl) (by rintro w ⟨C1, C2⟩; exact rn_load1 (by kernel_rfl) (by rfl) C1) HS.out ?_
            simp only [Nat.reduceAdd, Nat.zero_add, Act.put, List.setIfInBounds_toArray, List.set_cons_succ, List.set_cons_zero]
            refine WT.take 4 (v := _) (by simp only [List.getElem?_toArray, List.getElem?_cons_succ, List.getElem?_cons_zero]; rfl) (by kernel_rfl) (by exact fun _ _ _ h => h) (by rfl) (by rintro w ⟨C1, C2⟩; go_simp; with_reducible rfl) HS.out ?_
            simp only [Nat.reduceAdd, Nat.zero_add, Act.put, List.setIfInBounds_toArray, List.set_cons_succ, List.set_cons_zero]
            refine WT.take 6 (v := _) (by simp only [List.getElem?_toArray, List.getElem?_cons_succ, List.getElem?_cons_zero]; rfl) (by kernel_rfl) (by exact fun _ _ _ h => h) (by rfl) (by rintro w ⟨C1, C2⟩; go_simp; with_reducible rfl) HS.out ?_
            simp only [Nat.reduceAdd, Nat.zero_add, Act.put, List.setIfInBounds_toArray, List.set_cons_succ, List.set_cons_zero]
            refine WT.take 7 (v := _) (by simp only [List.getElem?_toArray, List.getElem?_cons_succ, List.getElem?_cons_zero]; rfl) (by kernel_rfl) (by exact fun _ _ _ h => h) (by rfl) (by rintro w ⟨C1, C2⟩; go_simp; with_reducible rfl) HS.out ?_
            simp only [Nat.reduceAdd, Nat.zero_add, Act.put, List.setIfInBounds_toArray, List.set_cons_succ, List.set_cons_zero]
            have BPw : w13.heap[ap]? = some (.cells #[.slice a n c] 32 (0, 0)) := K13.out.nb (HKP.out.at BP12.out (fun e => e.elim HFP.out (fun e => by have h1 := BP12.out; rw [e, BA12.out] at h1; cases h1)))
            have HRw : Reads .i64 w13.drew a zs := by
              have k1 : Keeps Nb w wr := ((KALL.out.trans_nb K12'.out)).trans HKP.out (fun i hi e => by
                rcases e with e | e
                · have := HF5.out _ e; have := K1.out.size; omega
                · have := GA.out; have := K1.out.size; have := K12.out.size; omega)
              exact HRD.out.nb ((k1.trans_nb K13.out).drew)
            refine WT.call 5 (by simp only [List.getElem?_toArray, List.getElem?_cons_succ, List.getElem?_cons_zero]; rfl) (by kernel_rfl) (by rfl) (by go_simp; first | done | rfl | exact ⟨⟨rfl, rfl⟩, rfl⟩) (HPK.out w13.drew HB13.out BPw HRw HL.out HZ.out HN.out (by omega)) ?_
            rintro _ w14 ⟨rfl, hmm, hb14, k14⟩
            obtain ⟨mm, hmq⟩ : ∃ mm, mm = pkn zs j := ⟨_, rfl⟩
            have HMQ := Lib.hid hmq
            rw [← hmq] at hmm ⊢
            clear hmq
            have Z14 := Lib.hid (k14.at (show w13.drew.heap[b]? = _ from Z13.out) hba)
            refine ⟨_, rfl, ⟨(cell_of_block Z14.out).trans rfl, trivial⟩, ?_⟩
            replace HS : Hid ((fun u : World => u.cell? ⟨b, 1, none⟩ = some (.int .i64 q) ∧ True) w14) := ⟨(cell_of_block Z14.out).trans rfl, trivial⟩
            simp only [Nat.reduceAdd, Nat.zero_add, Act.put, List.setIfInBounds_toArray, List.set_cons_succ, List.set_cons_zero]
            obtain ⟨y, hy, hyl⟩ : ∃ y : Nat, y = mm % (m - q + 1) ∧ y ≤ m - q := ⟨_, rfl, by have := Nat.mod_lt mm (show 0 < m - q + 1 by omega); omega⟩
            have hw : IntKind.i64.wrap ((m : Int) - (q : Int) + 1) = (m : Int) - (q : Int) + 1 := IntWalk.i64_in _ (by omega)
            have ht : ((mm : Int).tmod ((m : Int) - (q : Int) + 1)) = (y : Int) := by
              rw [Int.tmod_eq_emod_of_nonneg (by omega), hy, Int.natCast_emod, show ((m - q + 1 : Nat) : Int) = (m : Int) - (q : Int) + 1 by omega]
            have HT := Lib.hid (And.intro hw ht)
            have HYQ := Lib.hid hy
            have hy2 : y ≤ 16777216 := by omega
            obtain ⟨qy, hqy⟩ : ∃ qy, qy = q + y := ⟨_, rfl⟩
            have HQY := Lib.hid hqy
            clear hqy
            clear hy hw ht hmm
            refine WT.take 8 (v := .int .i64 y) (by simp only [List.getElem?_toArray, List.getElem?_cons_succ, List.getElem?_cons_zero]; rfl) (by kernel_rfl) (by exact fun _ _ _ h => h) (by rfl) (by rintro w ⟨C1, C2⟩; go_simp; rw [HT.out.1, HT.out.2, if_neg (by omega)]) HS.out ?_
            simp only [Nat.reduceAdd, Nat.zero_add, Act.put, List.setIfInBounds_toArray, List.set_cons_succ, List.set_cons_zero]
            refine WT.take 9 (v := .int .i64 (qy : Nat)) (by simp only [List.getElem?_toArray, List.getElem?_cons_succ, List.getElem?_cons_zero]; rfl) (by kernel_rfl) (by exact fun _ _ _ h => h) (by rfl) (by rintro w ⟨C1, C2⟩; go_simp; have := HQY.out; rw [IntWalk.i64_in _ (by omega)]; omega) HS.out ?_
            simp only [Nat.reduceAdd, Nat.zero_add, Act.put, List.setIfInBounds_toArray, List.set_cons_succ, List.set_cons_zero]
            refine WT.stop (by kernel_rfl) ?_
            refine WP.only 10 (v := _) (by simp only [List.getElem?_toArray, List.getElem?_cons_succ, List.getElem?_cons_zero]; rfl) (by kernel_rfl) (by rfl) (by go_simp; first | with_reducible rfl | exact ⟨rfl, rfl⟩) ?_
            simp only [Nat.reduceAdd, Nat.zero_add, Act.put, List.setIfInBounds_toArray, List.set_cons_succ, List.set_cons_zero]
            refine WP.only 11 (v := _) (by simp only [List.getElem?_toArray, List.getElem?_cons_succ, List.getElem?_cons_zero]; rfl) (by kernel_rfl) (by rfl) (by go_simp; first | with_reducible rfl | exact ⟨rfl, rfl⟩) ?_
            simp only [Nat.reduceAdd, Nat.zero_add, Act.put, List.setIfInBounds_toArray, List.set_cons_succ, List.set_cons_zero]
            refine WP.onlySkipE 12 (by simp only [List.getElem?_toArray, List.getElem?_cons_succ, List.getElem?_cons_zero]; rfl) (by kernel_rfl) (by rfl) (re_store (v := .int .i64 (qy : Nat)) (n := 1) (by kernel_rfl) (by rfl) (by rfl) Z14.out (by rfl) (by simp) (by simp [Value.cells, Value.oneCell'])) ?_
            intro w15 s15
            have Z15 : Hid (w15.heap[b]? = some (.cells #[.slice fa m fcap, .int .i64 (qy : Nat)] 65 (0, 0))) := s15.blk
            have HB15 := Lib.hid (s15.k.at hb14 (fun e => hba e.symm))
            have K14 : Hid (Keeps (· = ai) w13 w14) := (Keeps.refl (· = ai) w13).drew.trans k14 (fun _ _ e => e)
            have KS15 := Lib.hid s15.k
            clear s15 hb14 k14 HS HSb
            simp only [Nat.reduceAdd, Nat.zero_add, Act.put, List.setIfInBounds_toArray, List.set_cons_succ, List.set_cons_zero]
            refine WP.done (by kernel_rfl) ?_
            go_wp2
            have hcmx : m ≤ fcap ∧ fcap ≤ 9223372036854775807 := by obtain ⟨_, _, e, h1, h2, -⟩ := Z2.out; cases e; rw [← HM.out] at h1; unfold maxLen at h2; exact ⟨h1, h2⟩
            have hqb : qy ≤ fcap := by have := HQY.out; omega
            have HSc : Hid ((fun u : World => u.cell? ⟨b, 0, none⟩ = some (.slice fa m fcap) ∧ u.cell? ⟨b, 1, none⟩ = some (.int .i64 (qy : Nat))) w15.drew) := ⟨(cell_of_block Z15.out).trans rfl, (cell_of_block Z15.out).trans rfl⟩
            refine WT.region (fun u : World => u.cell? ⟨b, 0, none⟩ = some (.slice fa m fcap) ∧ u.cell? ⟨b, 1, none⟩ = some (.int .i64 (qy : Nat))) 10 13 [0, 1, 2, 3, 4, 5, 6, 7, 8, 9, 10, 11, 12] (by kernel_rfl) rfl ?_
            have HS := HSc
            refine WT.take 0 (v := _) (by simp only [List.getElem?_toArray, List.getElem?_cons_succ, List.getElem?_cons_zero]; rfl) (by kernel_rfl) (by exact fun _ _ _ h => h) (by rfl) (by rintro w ⟨C1, C2⟩; go_simp; with_reducible rfl) HS.out ?_
            simp only [Nat.reduceAdd, Nat.zero_add, Act.put, List.setIfInBounds_toArray, List.set_cons_succ, List.set_cons_zero]
            refine WT.take 1 (v := _) (by simp only [List.getElem?_toArray, List.getElem?_cons_succ, List.getElem?_cons_zero]; rfl) (by kernel_rfl) (by exact fun _ _ _ h => h) (by rfl) (by rintro w ⟨C1, C2⟩; go_simp; with_reducible rfl) HS.out ?_
            simp only [Nat.reduceAdd, Nat.zero_add, Act.put, List.setIfInBounds_toArray, List.set_cons_succ, List.set_cons_zero]
            refine WT.take 2 (v := _) (by simp only [List.getElem?_toArray, List.getElem?_cons_succ, List.getElem?_cons_zero]; rfl) (by kernel_rfl) (by exact fun _ _ _ h => h) (by rfl) (by rintro w ⟨C1, C2⟩; go_simp; with_reducible rfl) HS.out ?_
            simp only [Nat.reduceAdd, Nat.zero_add, Act.put, List.setIfInBounds_toArray, List.set_cons_succ, List.set_cons_zero]
            refine WT.take 3 (v := _) (by simp only [List.getElem?_toArray, List.getElem?_cons_succ, List.getElem?_cons_zero]; rfl) (by kernel_rfl) (by exact fun _ _ _ h => h) (by rfl) (by rintro w ⟨C1, C2⟩; go_simp; with_reducible rfl) HS.out ?_
            simp only [Nat.reduceAdd, Nat.zero_add, Act.put, List.setIfInBounds_toArray, List.set_cons_succ, List.set_cons_zero]
            refine WT.take 4 (v := .slice fa m fcap) (by simp only [List.getElem?_toArray, List.getElem?_cons_succ, List.getElem?_cons_zero]; rfl) (by kernel_rfl) (by exact fun _ _ _ h => h) (by rfl) (by rintro w ⟨C1, C2⟩; exact rn_load1 (by kernel_rfl) (by rfl) C1) HS.out ?_
            simp only [Nat.reduceAdd, Nat.zero_add, Act.put, List.setIfInBounds_toArray, List.set_cons_succ, List.set_cons_zero]
            refine WT.take 5 (v := _) (by simp only [List.getElem?_toArray, List.getElem?_cons_succ, List.getElem?_cons_zero]; rfl) (by kernel_rfl) (by exact fun _ _ _ h => h) (by rfl) (by rintro w ⟨C1, C2⟩; go_simp; with_reducible rfl) HS.out ?_
            simp only [Nat.reduceAdd, Nat.zero_add, Act.put, List.setIfInBounds_toArray, List.set_cons_succ, List.set_cons_zero]
            refine WT.take 6 (v := _) (by simp only [List.getElem?_toArray, List.getElem?_cons_succ, List.getElem?_cons_zero]; rfl) (by kernel_rfl) (by exact fun _ _ _ h => h) (by rfl) (by rintro w ⟨C1, C2⟩; go_simp; with_reducible rfl) HS.out ?_
            simp only [Nat.reduceAdd, Nat.zero_add, Act.put, List.setIfInBounds_toArray, List.set_cons_succ, List.set_cons_zero]
            refine WT.take 7 (v := _) (by simp only [List.getElem?_toArray, List.getElem?_cons_succ, List.getElem?_cons_zero]; rfl) (by kernel_rfl) (by exact fun _ _ _ h => h) (by rfl) (by rintro w ⟨C1, C2⟩; go_simp; with_reducible rfl) HS.out ?_
            simp only [Nat.reduceAdd, Nat.zero_add, Act.put, List.setIfInBounds_toArray, List.set_cons_succ, List.set_cons_zero]
            refine WT.take 8 (v := .int .i64 (qy : Nat)) (by simp only [List.getElem?_toArray, List.getElem?_cons_succ, List.getElem?_cons_zero]; rfl) (by kernel_rfl) (by exact fun _ _ _ h => h) (by rfl) (by rintro w ⟨C1, C2⟩; exact rn_load1 (by kernel_rfl) (by rfl) C2) HS.out ?_
            simp only [Nat.reduceAdd, Nat.zero_add, Act.put, List.setIfInBounds_toArray, List.set_cons_succ, List.set_cons_zero]
            refine WT.take 9 (v := .slice fa qy fcap) (by simp only [List.getElem?_toArray, List.getElem?_cons_succ, List.getElem?_cons_zero]; rfl) (by kernel_rfl) (by exact fun _ _ _ h => h) (by rfl) (by rintro w ⟨C1, C2⟩; exact by go_simp <;> exact fun h => absurd h (by omega)) HS.out ?_
            simp only [Nat.reduceAdd, Nat.zero_add, Act.put, List.setIfInBounds_toArray, List.set_cons_succ, List.set_cons_zero]
            refine WT.stop (by kernel_rfl) ?_
            refine WP.only 10 (v := _) (by simp only [List.getElem?_toArray, List.getElem?_cons_succ, List.getElem?_cons_zero]; rfl) (by kernel_rfl) (by rfl) (by go_simp; first | with_reducible rfl | exact ⟨rfl, rfl⟩) ?_
            simp only [Nat.reduceAdd, Nat.zero_add, Act.put, List.setIfInBounds_toArray, List.set_cons_succ, List.set_cons_zero]
            refine WP.only 11 (v := _) (by simp only [List.getElem?_toArray, List.getElem?_cons_succ, List.getElem?_cons_zero]; rfl) (by kernel_rfl) (by rfl) (by go_simp; first | with_reducible rfl | exact ⟨rfl, rfl⟩) ?_
            simp only [Nat.reduceAdd, Nat.zero_add, Act.put, List.setIfInBounds_toArray, List.set_cons_succ, List.set_cons_zero]
            refine WP.onlySkipE 12 (by simp only [List.getElem?_toArray, List.getElem?_cons_succ, List.getElem?_cons_zero]; rfl) (by kernel_rfl) (by rfl) (re_store (w := w15.drew) (v := .slice fa qy fcap) (n := 1) (by kernel_rfl) (by rfl) (by rfl) Z15.out (by rfl) (by simp) (by simp [Value.cells, Value.oneCell'])) ?_
            intro w16 s16
            have Z16 : Hid (w16.heap[b]? = some (.cells #[.slice fa qy fcap, .int .i64 (qy : Nat)] 65 (0, 0))) := s16.blk
            have K16 : Hid (Keeps (· = b) w14 w16) := KS15.out.trans ((Keeps.refl (· = b) w15).drew.trans s16.k (fun _ _ e => e)) (fun _ _ e => e)
            have HB16 : Hid (w16.heap[ai]? = some (.cells #[.int .i64 (j + 1 : Nat)] 3 (0, 0))) := s16.k.at (show w15.drew.heap[ai]? = _ from HB15.out) (fun e => hba e.symm)
            clear s16 HS HSc
            simp only [Nat.reduceAdd, Nat.zero_add, Act.put, List.setIfInBounds_toArray, List.set_cons_succ, List.set_cons_zero]
            refine WP.done (by kernel_rfl) ?_
            have HD14 := HD13.out.keeps K14.out (fun k hk e => HFA.out.1 (e ▸ hk)) (fun k hk e => HFA.out.2 (e ▸ hk))
            have hlq : (fcr b).lasts ≤ qy := by rw [← HQ.out]; have := HQY.out; omega
            have hlm : qy ≤ (fcr b).b.length := by rw [← HM.out]; have := HQY.out; omega
            have hlt2 : ((fcr b).b.take qy).length = qy := by rw [List.length_take]; omega
            have HD16 : Hid (DiskAt w16 d' F5 R1 (crashD D1 X) (setf fcr b ⟨(fcr b).b.take qy, qy⟩)) := by
              refine HD14.set HRF.out K16.out ⟨_, Z16.out, ?_, by simp only; omega, by simp only; rw [hlt2]; have := HM.out; have := HQY.out; omega⟩ (fun _ h => h) (fun _ h => .inl h)
              have h1 : Bytes wr R1 (.slice fa (fcr b).b.length fcap) (fcr b).b := Z2.out
              have h2 := ((h1.keeps K13.out (fun _ _ e => e)).keeps K14.out (fun k hk e => HFA.out.2 (e ▸ hk))).keeps K16.out (fun k hk e => HD5.out.apart k (e ▸ Z5.out) hk)
              exact h2.take hlm (by omega) (by unfold maxLen; omega)
            have HTR16 : Hid (∀ b', Tr (fc1 b') (setf fcr b ⟨(fcr b).b.take qy, qy⟩ b')) := fun b' => by
              unfold setf
              by_cases e : b' = b
              · subst e; rw [if_pos rfl]; exact (HTR.out b').step hlq hlm
              · rw [if_neg e]; exact HTR.out b'
            have HDN16 : Hid (∀ s' ∈ nms.take (k + 1), ∀ b', flook X s' = some b' → (setf fcr b ⟨(fcr b).b.take qy, qy⟩ b').lasts = (setf fcr b ⟨(fcr b).b.take qy, qy⟩ b').b.length) := fun s' hs' b' hb' => by
              unfold setf
              by_cases e : b' = b
              · subst e; rw [if_pos rfl]; exact hlt2.symm
              · rw [if_neg e]
                rw [take_snocA HSS.out] at hs'
                rcases List.mem_append.1 hs' with hs' | hs'
                · exact HDN.out s' hs' b' hb'
                · rw [List.mem_singleton.1 hs', HFL.out] at hb'; exact absurd (Option.some.inj hb').symm e
            have KP16 : Hid (Keeps (fun x => F5 x ∨ x = ai) w12 w16) := ((HKP.out.trans_nb K13.out).trans K14.out (fun _ _ e => .inr e)).trans K16.out (fun _ _ e => .inl (e ▸ Z5.out))
            have HFO16 : Hid ((nms.take (k + 1)).foldl (tr1 zs X) (fc1, D1.steps.length) = (setf fcr b ⟨(fcr b).b.take qy, qy⟩, j + 1)) := by
              refine Lib.hid ?_
              rw [take_snocA HSS.out, List.foldl_append, HFO.out]
              show tr1 zs X (fcr, j) s = _
              rw [tr1_some HFL.out, ← HM.out, ← HQ.out, if_pos hloose, ← HMQ.out, ← HYQ.out, ← HQY.out]
            clear HD14 hlq hlm hlt2
            go_wp2
            go_roundw
            case rel => exact ⟨k + 1, j + 1, _, by omega, by go_num, by omega, HFO16, HD16.out, HB16.out, HTR16.out, HDN16.out, KP16.out⟩
            case measure => simp [intOf]; omega
          · have l1 : ¬ ((0 : Int) < (m : Int) - (q : Int)) := by omega
            have HDN16 : Hid (∀ s' ∈ nms.take (k + 1), ∀ b', flook X s' = some b' → (fcr b').lasts = (fcr b').b.length) := fun s' hs' b' hb' => by
              rw [take_snocA HS.out] at hs'
              rcases List.mem_append.1 hs' with hs' | hs'
              · exact HDN.out s' hs' b' hb'
              · rw [List.mem_singleton.1 hs', HFL.out] at hb'
                cases hb'
                rw [← HM.out, ← HQ.out]; omega
            have KP16 := Lib.hid (HKP.out.trans_nb K13.out)
            have HFO16 : Hid ((nms.take (k + 1)).foldl (tr1 zs X) (fc1, D1.steps.length) = (fcr, j)) := by
              refine Lib.hid ?_
              rw [take_snocA HS.out, List.foldl_append, HFO.out]
              show tr1 zs X (fcr, j) s = _
              rw [tr1_some HFL.out, ← HM.out, ← HQ.out, if_neg hloose]
            go_wp2
            go_roundw
            case rel => exact ⟨k + 1, j, fcr, by omega, by go_num, by omega, HFO16, HD13.out, HB13.out, HTR.out, HDN16.out, KP16.out⟩
            case measure => simp [intOf]; omega
        · have hkl : k = nn := by omega
          subst hkl
          go_wp2
          go_ret
          have KF : Keeps Nb w wr := ((KALL.out.trans_nb K12'.out)).trans HKP.out (fun i hi e => by
            rcases e with e | e
            · have := HF5.out _ e; have := K1.out.size; omega
            · have := GA.out; have := K1.out.size; have := K12.out.size; omega)
          have e1 := CP.out.eq
          have hgs := H.out.names.steps
          have hXL : X = (replay bs D.steps l2).map (mv φ) := by
            rw [HXL.out, e1]; exact replay_mv bs D.steps l2 hgs
          have e2 : crashD D1 X = crashD D ((replay bs D.steps l2).map (mv φ)) := by rw [e1, ← hXL]; rfl
          refine ⟨d', crashD D1 X, fcr, F5, R1, φ, l2, bs, rfl, HD.out, fun k hk => by have := HF5.out k hk; have := K1.out.size; omega, fun k hk => by have := HR1.out k hk; have := K1.out.size; omega, KF, ⟨CP.out.p2, ?_, ?_, ?_, CP.out.inj, CP.out.all, e2, fun p hp => ?_⟩⟩
          · rw [HBL.out, HNS.out, e1]; simp
          · rw [HBQ.out, HNS.out, e1]; simp
          · refine ⟨nms, fc1, ?_, CP.out.fc, ?_⟩
            · have h1 := HPERM.out
              rw [show (vals X).map Prod.fst = X.map Prod.fst by unfold vals; rw [List.map_map]; rfl] at h1
              exact h1
            · have h1 := HFO.out
              rw [HNN.out, List.take_length] at h1
              have h2 : D1.steps.length = D.steps.length := by rw [e1]; simp
              rw [h2] at h1
              show fcr = _
              rw [show (crashD D1 X).files = X from rfl, h1]
          · have hpx : mv φ p ∈ X := by rw [hXL]; exact List.mem_map.2 ⟨p, hp, rfl⟩
            have hrfD : Ref D p.2 := by
              rcases (replay_mem bs _ _ hgs p hp).1 with ⟨q, hq, e⟩ | ⟨s, hs, e⟩
              · exact .inr (.inl ⟨q, CP.out.p2.mem_iff.1 hq, e⟩)
              · exact .inr (.inr ⟨s, hs, e⟩)
            obtain ⟨cc, hcc⟩ : ∃ cc, φ p.2 = some cc := by
              cases e : φ p.2 with
              | none => exact absurd e (CP.out.all _ hrfD)
              | some cc => exact ⟨cc, rfl⟩
            have hfl : ∃ b', flook X p.1 = some b' ∧ b' = cc := by
              obtain ⟨b', hb'⟩ := flook_in (List.mem_map.2 ⟨_, hpx, rfl⟩ : p.1 ∈ X.map Prod.fst)
              refine ⟨b', hb', ?_⟩
              have hmm := flook_some hb'
              obtain ⟨⟨p1, p2, pv, ph3, ph4, -⟩, -⟩ := HD5.out
              have hnd : ((vals X).map Prod.fst).Nodup := ph4.nodup
              have hnd2 : (X.map Prod.fst).Nodup := by simpa [vals, List.map_map, Function.comp_def] using hnd
              have hx2 : (p.1, cc) ∈ X := by have : mv φ p = (p.1, cc) := by simp [mv, hcc]
                                             exact this ▸ hpx
              obtain ⟨i, hi⟩ := List.mem_iff_getElem?.1 hmm
              obtain ⟨i', hi'⟩ := List.mem_iff_getElem?.1 hx2
              have := nodup_at hnd2 (i := i) (j := i') (x := p.1) (by rw [List.getElem?_map, hi]; rfl) (by rw [List.getElem?_map, hi']; rfl)
              subst this
              rw [hi] at hi'
              have := Option.some.inj hi'
              exact congrArg Prod.snd this
            obtain ⟨b', hb', rfl⟩ := hfl
            have hin : p.1 ∈ nms := by
              refine HPERM.out.mem_iff.2 ?_
              have : p.1 ∈ X.map Prod.fst := List.mem_map.2 ⟨_, hpx, rfl⟩
              simpa [vals, List.map_map] using this
            have hdone := HDN.out p.1 (by rw [HNN.out, List.take_length]; exact hin) b' hb'
            have htr := HTR.out b'
            rw [CP.out.fc _ _ hcc] at htr
            rw [hcc]
            exact htr.full hdone
end Go.Proofs.Ytgpecnihjjnkeaa
