/- do, an Append: the bytes handed in are the caller's, and are written afterwards. -/
import Derived.Test.YtgpecnihjjnkeaaDoW
set_option linter.unusedVariables false
set_option linter.unusedSimpArgs false
namespace Go.Proofs.Ytgpecnihjjnkeaa
open Go.RowKit Go.Lk Go.Vfs
variable {W0 w w' : World} {d : Nat} {D : Dk} {fc : Nat → Fl}
set_option maxHeartbeats 4000000 in
set_option maxRecDepth 100000 in
theorem do2 (h : Db W0 w d D fc) (s : StepD) (cs : List Value) (hst : StepV W0 w s cs) (hc : D.changes < 1000000) (hsz : s.b.length ≤ 20000) (hk : s.kind = 2) : Calls Try.prog 14 #[.pointer (some ⟨d, 0, none⟩), .agg cs.toArray] w (DoA W0 w.heap.size d D fc s) := by
  have HDB := Lib.hid h
  have HCH := Lib.hid hc
  obtain ⟨vb, vp, rfl, hB, hP, hn1, hn2, i1, i2, i3⟩ := hst
  have HB := Lib.hid hB
  have HN1 := Lib.hid hn1
  have hone : ∀ u ∈ stc s vb vp, u.oneCell' = true := by
    obtain ⟨_, _, rfl, -⟩ := hB
    obtain ⟨_, _, rfl, -⟩ := hP
    intro u hu
    simp only [stc, List.mem_cons, List.not_mem_nil, or_false] at hu
    rcases hu with rfl | rfl | rfl | rfl | rfl | rfl | rfl <;> rfl
  have hz : ∀ z ∈ s.b, z < 256 := by obtain ⟨_, _, _, _, _, _, h, _⟩ := hB; exact h
  have HZ := Lib.hid hz
  obtain ⟨ba, bc, rfl, b6, b7, b8⟩ := hB.rows
  obtain ⟨n, hn⟩ : ∃ n, n = s.b.length := ⟨_, rfl⟩
  have HN := Lib.hid hn
  rw [← hn] at b6 hsz
  have H8 := Lib.hid b8
  have hbm : bc ≤ 9223372036854775807 := by unfold maxLen at b7; exact b7
  clear hB hP hn1 hn2 i1 i2 i3 h hc hn hz b8
  go_enter Try.func14, Try.ntmps14
  go_wp2_with (first | go_skip | (with_reducible refine stop_load (t := 72) ?_) | (with_reducible refine stop_load (t := 61) ?_) | (with_reducible refine stop_alloc ?_) | (with_reducible refine stop_store ?_) | (with_reducible refine stop_makeMap ?_) | (with_reducible refine stop_rangem ?_) | (with_reducible refine stop_next ?_) | (with_reducible refine stop_entry ?_) | (with_reducible refine stop_buildSlice ?_) | (with_reducible refine stop_app ?_) | (with_reducible refine stop_mapUpdate ?_) | (with_reducible refine stop_lookup ?_) | (with_reducible refine stop_delete ?_) | (with_reducible refine stop_box ?_))
  refine at_out (vbox rfl ?_)
  intro g w1 n1
  simp only [Nat.reduceAdd, Nat.zero_add, Act.put, List.setIfInBounds_toArray, List.set_cons_succ, List.set_cons_zero]
  have c0 : w1.cell? ⟨g, 0, none⟩ = some (.int .i64 2) := by rw [← hk]; exact (cell_of_block n1.blk).trans rfl
  have c3 : w1.cell? ⟨g, 3, none⟩ = some (.string s.name) := (cell_of_block n1.blk).trans rfl
  have c5 : w1.cell? ⟨g, 5, none⟩ = some (.slice ba n bc) := by rw [HN.out]; exact (cell_of_block n1.blk).trans rfl
  have D1 := Lib.hid (HDB.out.nb n1.k)
  have K1 := Lib.hid n1.k
  have BG := Lib.hid n1.blk
  have GG := Lib.hid n1.ge
  have HK := Lib.hid hk
  clear n1 hk
  go_wp2_with (first | go_skip | (with_reducible refine stop_load (t := 72) ?_) | (with_reducible refine stop_load (t := 61) ?_) | (with_reducible refine stop_alloc ?_) | (with_reducible refine stop_store ?_) | (with_reducible refine stop_makeMap ?_) | (with_reducible refine stop_rangem ?_) | (with_reducible refine stop_next ?_) | (with_reducible refine stop_entry ?_) | (with_reducible refine stop_buildSlice ?_) | (with_reducible refine stop_app ?_) | (with_reducible refine stop_mapUpdate ?_) | (with_reducible refine stop_lookup ?_) | (with_reducible refine stop_delete ?_) | (with_reducible refine stop_box ?_))
  refine at_out (wpList_valE rfl (re_appO (wx := w1) (v := .slice none 0 0) (n := 0) (m := n) (xs := []) (news := s.b.map fun x => Value.int .u8 (x : Nat)) el31 (Keeps.refl Nb w1) (World.ownsRow_nil _ _ _ _) (by rfl) (by rfl) (H8.out.nb K1.out) (by rw [List.length_map, ← HN.out]; omega) one_nats (by unfold maxLen; omega) (by omega)) ?_)
  rintro v2 w2 ⟨ho2, k2⟩
  rw [Nat.zero_add, List.nil_append] at ho2
  simp only [Nat.reduceAdd, Nat.zero_add, Act.put, List.setIfInBounds_toArray, List.set_cons_succ, List.set_cons_zero]
  go_wp2_with (first | go_skip | (with_reducible refine stop_load (t := 72) ?_) | (with_reducible refine stop_load (t := 61) ?_) | (with_reducible refine stop_alloc ?_) | (with_reducible refine stop_store ?_) | (with_reducible refine stop_makeMap ?_) | (with_reducible refine stop_rangem ?_) | (with_reducible refine stop_next ?_) | (with_reducible refine stop_entry ?_) | (with_reducible refine stop_buildSlice ?_) | (with_reducible refine stop_app ?_) | (with_reducible refine stop_mapUpdate ?_) | (with_reducible refine stop_lookup ?_) | (with_reducible refine stop_delete ?_) | (with_reducible refine stop_box ?_))
  refine at_out (wpList_valE rfl (re_buildSlice1 (v := .int .u8 7) el31 (by rfl) (by rfl) (by omega)) ?_)
  rintro _ w3 ⟨g3, rfl, n3⟩
  simp only [Nat.reduceAdd, Nat.zero_add, Act.put, List.setIfInBounds_toArray, List.set_cons_succ, List.set_cons_zero]
  go_wp2_with (first | go_skip | (with_reducible refine stop_load (t := 72) ?_) | (with_reducible refine stop_load (t := 61) ?_) | (with_reducible refine stop_alloc ?_) | (with_reducible refine stop_store ?_) | (with_reducible refine stop_makeMap ?_) | (with_reducible refine stop_rangem ?_) | (with_reducible refine stop_next ?_) | (with_reducible refine stop_entry ?_) | (with_reducible refine stop_buildSlice ?_) | (with_reducible refine stop_app ?_) | (with_reducible refine stop_mapUpdate ?_) | (with_reducible refine stop_lookup ?_) | (with_reducible refine stop_delete ?_) | (with_reducible refine stop_box ?_))
  refine at_out (wpList_valE rfl (re_appO (wx := w1) (n := n) (m := 1) (news := [.int .u8 7]) el31 (k2.trans_nb n3.k) (owns_keeps ho2 n3.k (fun _ _ e => e)) (by rfl) (by rfl) (has_block n3.blk) (by rfl) (by simp [Value.oneCell']) (by unfold maxLen; omega) (by omega)) ?_)
  rintro v4 w4 ⟨ho4, k4⟩
  have k14 : Keeps Nb w1 w4 := k4
  simp only [Nat.reduceAdd, Nat.zero_add, Act.put, List.setIfInBounds_toArray, List.set_cons_succ, List.set_cons_zero]
  have hown := ho4
  obtain ⟨-, ⟨-, hbad⟩ | ⟨gr, cap, cur, rfl, hbg, hblk, hnc, hcm, hcs, htake⟩⟩ := hown
  · omega
  have HBLK := Lib.hid hblk
  have HGR : Hid (w1.heap.size ≤ gr ∧ gr < w4.heap.size) := ⟨hbg, lt_of_block hblk⟩
  have HCS : Hid (cur.size = cap) := by refine Lib.hid ?_; omega
  have hcap : n + 1 ≤ cap ∧ cap ≤ 9223372036854775807 := by unfold maxLen at hcm; exact ⟨hnc, hcm⟩
  have HBY : Hid (Bytes w4 (fun k => w.heap.size ≤ k) (.slice (some ⟨gr, 0, none⟩) n cap) s.b) := by
    have h0 := owns_has ho4
    obtain ⟨a, c, e, e1, e2, e3, e4⟩ := h0
    cases e
    refine ⟨_, _, by rw [HN.out], by rw [← HN.out]; omega, hcm, ?_, HZ.out, fun b off e _ => by cases e; exact Nat.le_trans K1.out.size hbg⟩
    refine .inr ⟨gr, 0, rfl, fun i hi => ?_⟩
    rcases e3 with e3 | ⟨b', off', e3, e5⟩
    · simp at e3
    · cases e3
      have := e5 i (.int .u8 (ntn s.b i : Nat)) (by rw [List.getElem?_append_left (by rw [List.length_map]; exact hi), List.getElem?_map, List.getElem?_eq_getElem hi, ntn_eq hi]; rfl)
      exact this
  have d3 : w4.cell? ⟨g, 3, none⟩ = some (.string s.name) := (cell_of_block (k14.nb BG.out)).trans rfl
  have d5 : w4.cell? ⟨g, 5, none⟩ = some (.slice ba n bc) := by rw [HN.out]; exact (cell_of_block (k14.nb BG.out)).trans rfl
  have K14 := Lib.hid k14
  clear ho2 k2 n3 ho4 k4 hbg hblk hnc hcm hcs htake c0 c3 c5 k14
  go_wp2
  have HS : Hid ((fun u : World => u.cell? ⟨g, 3, none⟩ = some (.string s.name) ∧ u.cell? ⟨g, 5, none⟩ = some (.slice ba n bc)) w4.drew) := ⟨d3, d5⟩
  refine WT.region (fun u : World => u.cell? ⟨g, 3, none⟩ = some (.string s.name) ∧ u.cell? ⟨g, 5, none⟩ = some (.slice ba n bc)) 9 10 [0, 1, 2, 3, 4, 5, 6, 7, 8, 9] (by kernel_rfl) rfl ?_
  refine WT.take 0 (v := _) (by simp only [List.getElem?_toArray, List.getElem?_cons_succ, List.getElem?_cons_zero]; rfl) (by kernel_rfl) (by exact fun _ _ _ h => h) (by rfl) (by rintro w ⟨C1, C2⟩; go_simp; with_reducible rfl) HS.out ?_
  simp only [Nat.reduceAdd, Nat.zero_add, Act.put, List.setIfInBounds_toArray, List.set_cons_succ, List.set_cons_zero]
  refine WT.take 1 (v := _) (by simp only [List.getElem?_toArray, List.getElem?_cons_succ, List.getElem?_cons_zero]; rfl) (by kernel_rfl) (by exact fun _ _ _ h => h) (by rfl) (by rintro w ⟨C1, C2⟩; go_simp; with_reducible rfl) HS.out ?_
  simp only [Nat.reduceAdd, Nat.zero_add, Act.put, List.setIfInBounds_toArray, List.set_cons_succ, List.set_cons_zero]
  refine WT.take 2 (v := .string s.name) (by simp only [List.getElem?_toArray, List.getElem?_cons_succ, List.getElem?_cons_zero]; rfl) (by kernel_rfl) (by exact fun _ _ _ h => h) (by rfl) (by rintro w ⟨C1, C2⟩; exact rn_load1 (by kernel_rfl) (by rfl) C1) HS.out ?_
  simp only [Nat.reduceAdd, Nat.zero_add, Act.put, List.setIfInBounds_toArray, List.set_cons_succ, List.set_cons_zero]
  refine WT.take 3 (v := _) (by simp only [List.getElem?_toArray, List.getElem?_cons_succ, List.getElem?_cons_zero]; rfl) (by kernel_rfl) (by exact fun _ _ _ h => h) (by rfl) (by rintro w ⟨C1, C2⟩; go_simp; with_reducible rfl) HS.out ?_
  simp only [Nat.reduceAdd, Nat.zero_add, Act.put, List.setIfInBounds_toArray, List.set_cons_succ, List.set_cons_zero]
  refine WT.take 4 (v := _) (by simp only [List.getElem?_toArray, List.getElem?_cons_succ, List.getElem?_cons_zero]; rfl) (by kernel_rfl) (by exact fun _ _ _ h => h) (by rfl) (by rintro w ⟨C1, C2⟩; go_simp; with_reducible rfl) HS.out ?_
  simp only [Nat.reduceAdd, Nat.zero_add, Act.put, List.setIfInBounds_toArray, List.set_cons_succ, List.set_cons_zero]
  refine WT.take 5 (v := .slice ba n bc) (by simp only [List.getElem?_toArray, List.getElem?_cons_succ, List.getElem?_cons_zero]; rfl) (by kernel_rfl) (by exact fun _ _ _ h => h) (by rfl) (by rintro w ⟨C1, C2⟩; exact rn_load1 (by kernel_rfl) (by rfl) C2) HS.out ?_
  simp only [Nat.reduceAdd, Nat.zero_add, Act.put, List.setIfInBounds_toArray, List.set_cons_succ, List.set_cons_zero]
  refine WT.take 6 (v := _) (by simp only [List.getElem?_toArray, List.getElem?_cons_succ, List.getElem?_cons_zero]; rfl) (by kernel_rfl) (by exact fun _ _ _ h => h) (by rfl) (by rintro w ⟨C1, C2⟩; go_simp; with_reducible rfl) HS.out ?_
  simp only [Nat.reduceAdd, Nat.zero_add, Act.put, List.setIfInBounds_toArray, List.set_cons_succ, List.set_cons_zero]
  refine WT.take 7 (v := .slice (some ⟨gr, 0, none⟩) n cap) (by simp only [List.getElem?_toArray, List.getElem?_cons_succ, List.getElem?_cons_zero]; rfl) (by kernel_rfl) (by exact fun _ _ _ h => h) (by rfl) (by rintro w ⟨C1, C2⟩; exact by go_simp <;> exact fun h => absurd h (by omega)) HS.out ?_
  simp only [Nat.reduceAdd, Nat.zero_add, Act.put, List.setIfInBounds_toArray, List.set_cons_succ, List.set_cons_zero]
  have AP := Lib.hid (dapp' (w' := w4.drew) HDB.out s.name (.slice (some ⟨gr, 0, none⟩) n cap) s.b HN1.out HBY.out (K1.out.trans_nb K14.out).drew HCH.out)
  refine WT.call 8 (by simp only [List.getElem?_toArray, List.getElem?_cons_succ, List.getElem?_cons_zero]; rfl) (by kernel_rfl) (by rfl) (by go_simp; first | done | rfl | exact ⟨⟨rfl, rfl⟩, rfl⟩) AP.out ?_
  rintro _ w5 ⟨⟨er, D1', fc1', rfl, -, -⟩, D', fc', F', R', hd, hr, hsep, hob⟩
  have HD := Lib.hid hd
  have HR := Lib.hid (hr er rfl)
  have hgg : Hid (w.heap.size ≤ g) := GG.out
  have hgr : w.heap.size ≤ gr := Nat.le_trans K1.out.size HGR.out.1
  have HG5 := Lib.hid (hob g _ hgg.out (show w4.drew.heap[g]? = _ from K14.out.nb BG.out))
  have HGR5 := Lib.hid (hob gr _ hgr (show w4.drew.heap[gr]? = _ from HBLK.out))
  have HSEP := Lib.hid (hsep gr hgr (show gr < w4.drew.heap.size from HGR.out.2))
  refine ⟨_, rfl, ⟨(cell_of_block HG5.out).trans rfl, by rw [HN.out]; exact (cell_of_block HG5.out).trans rfl⟩, ?_⟩
  simp only [Nat.reduceAdd, Nat.zero_add, Act.put, List.setIfInBounds_toArray, List.set_cons_succ, List.set_cons_zero]
  refine WT.stop (by kernel_rfl) ?_
  refine WP.only 9 (v := _) (by simp only [List.getElem?_toArray, List.getElem?_cons_succ, List.getElem?_cons_zero]; rfl) (by kernel_rfl) (by rfl) (by go_simp; first | with_reducible rfl | exact ⟨rfl, rfl⟩) ?_
  simp only [Nat.reduceAdd, Nat.zero_add, Act.put, List.setIfInBounds_toArray, List.set_cons_succ, List.set_cons_zero]
  refine WP.done (by kernel_rfl) ?_
  clear hd hr hsep hob AP HS d3 d5 hgr
  go_wp2
  go_loopw [8] (fun i wr => ∃ (k : Nat) (cu : Array Value), k ≤ n + 1 ∧ i = .int .i64 k ∧ wr.heap[gr]? = some (.cells cu 5 (0, 0)) ∧ cu.size = cap ∧ DB W0 wr d D' fc' F' R') (fun i _ => n + 1 - (intOf i).toNat)
  case atStart => exact ⟨0, cur, Nat.zero_le _, rfl, HGR5.out, HCS.out, HD.out⟩
  case round =>
    obtain ⟨k, cu, hk, rfl, hb, hcu, hd⟩ := hrel
    have HB := Lib.hid hb
    have HD := Lib.hid hd
    clear hb hd
    by_cases hlt : k < n + 1
    · have i1 : (k : Int) < (n : Int) + 1 := by omega
      go_wp2_with (first | go_skip | (with_reducible refine stop_load (t := 72) ?_) | (with_reducible refine stop_load (t := 61) ?_) | (with_reducible refine stop_alloc ?_) | (with_reducible refine stop_store ?_) | (with_reducible refine stop_makeMap ?_) | (with_reducible refine stop_rangem ?_) | (with_reducible refine stop_next ?_) | (with_reducible refine stop_entry ?_) | (with_reducible refine stop_buildSlice ?_) | (with_reducible refine stop_app ?_) | (with_reducible refine stop_mapUpdate ?_) | (with_reducible refine stop_lookup ?_) | (with_reducible refine stop_delete ?_) | (with_reducible refine stop_box ?_))
      refine at_out (wpList_skipE rfl (re_store (v := .int .u8 9) (n := 1) (by kernel_rfl) (by rfl) (by rfl) HB.out (by rfl) (by omega) (by simp [Value.cells, Value.oneCell'])) ?_)
      intro w6 s6
      simp only [Nat.reduceAdd, Nat.zero_add, Act.put, List.setIfInBounds_toArray, List.set_cons_succ, List.set_cons_zero]
      have B6 := Lib.hid s6.blk
      have HSZ6 : Hid ((splice cu (Value.int IntKind.u8 9).cells k).size = cap) := by refine Lib.hid ?_; rw [splice_size (by show k + 1 ≤ cu.size; omega)]; exact hcu
      have HD6 : Hid (DB W0 w6 d D' fc' F' R') := ⟨HD.out.k.own (by have := HGR.out.1; have := K1.out.size; have := HDB.out.k.size; omega) s6.k, HD.out.at_.keeps s6.k (fun j hj e => HSEP.out.1 (e ▸ hj)) (fun j hj e => HSEP.out.2 (e ▸ hj)), HD.out.gF, HD.out.gR⟩
      clear s6
      go_wp2
      go_roundw
      case rel => exact ⟨k + 1, _, by omega, by go_num, B6.out, HSZ6.out, HD6.out⟩
      case measure => simp [intOf]; omega
    · go_wp2_with fail
      refine (num_at er wr).mono ?_; rintro _ _ ⟨rfl, rfl⟩
      go_wp2
      go_ret2
      exact ⟨er, d, D', fc', rfl, ⟨_, _, HD.out⟩, fun _ => rfl, .inr (.inl ⟨HK.out, HR.out⟩)⟩
theorem do_at {W0 w : World} {d : Nat} {D : Dk} {fc : Nat → Fl} (h : Db W0 w d D fc) (s : StepD) (cs : List Value) (hst : StepV W0 w s cs) (hc : D.changes < 1000000) (hsz : s.b.length ≤ 20000) (hls : D.lasting.length + D.steps.length ≤ 1000000) :
    Calls Try.prog 14 #[.pointer (some ⟨d, 0, none⟩), .agg cs.toArray] w (DoA W0 w.heap.size d D fc s) := by
  have hk : s.kind = 1 ∨ s.kind = 2 ∨ s.kind = 3 ∨ s.kind = 4 ∨ s.kind = 5 ∨ s.kind = 6 ∨ s.kind = 7 ∨ s.kind = 8 ∨ s.kind = 9 ∨ s.kind = 10 ∨ (s.kind < 1 ∨ 10 < s.kind) := by omega
  rcases hk with hk | hk | hk | hk | hk | hk | hk | hk | hk | hk | hk
  · exact do1 h s cs hst hc hsz hk
  · exact do2 h s cs hst hc hsz hk
  · exact do3 h s cs hst hc hsz hk
  · exact do4 h s cs hst hc hsz hk
  · exact do5 h s cs hst hc hsz hk
  · exact do6 h s cs hst hc hsz hk
  · exact do7 h s cs hst hc hsz hk
  · exact do8 h s cs hst hc hsz hk
  · exact do9 h s cs hst hc hsz hk
  · exact do10 h s cs hst hc hsz hls hk
  · exact do11 h s cs hst hc hsz hk
end Go.Proofs.Ytgpecnihjjnkeaa
