/- A disk that is not there: what each call answers. -/
import Derived.Test.YtgpecnihjjnkeaaFilesW
set_option linter.unusedVariables false
set_option linter.unusedSimpArgs false
namespace Go.Proofs.Ytgpecnihjjnkeaa
open Go.RowKit Go.Lk Go.Vfs
/-- No disk, or a zero one. -/
def NulD (w : World) (v : Value) : Prop := v = .pointer none ∨ ∃ (d : Nat) (cs : Array Value), v = .pointer (some ⟨d, 0, none⟩) ∧ w.heap[d]? = some (.cells cs 61 (0, 0)) ∧ cs[0]? = some (.map none)
theorem NulD.nb {w u : World} {v : Value} (h : NulD w v) (k : Keeps Nb w u) : NulD u v := h.imp id fun ⟨d, r, e, hb, h0⟩ => ⟨d, r, e, k.nb hb, h0⟩
theorem NulD.cell {w : World} {v : Value} (h : NulD w v) : v = .pointer none ∨ ∃ d, v = .pointer (some ⟨d, 0, none⟩) ∧ w.cell? ⟨d, 0, none⟩ = some (.map none) := h.imp id fun ⟨d, r, e, hb, h0⟩ => ⟨d, e, (cell_of_block hb).trans h0⟩
theorem there_nul {w : World} {v : Value} (h : NulD w v) : Calls Try.prog 31 #[v] w fun e w' => e = .returned (.bool false) ∧ w = w' := by
  rcases h.cell with rfl | ⟨d, rfl, hc⟩
  · exact there_nil w
  · exact there_zero d w hc
section
variable {w : World} {v : Value}
theorem fuse_nul (h : NulD w v) (n : Int) : Calls Try.prog 29 #[v, .int .i64 n] w fun e w' => (∃ r, e = .returned r) ∧ Keeps Nb w w' := by
  have TH := Lib.hid (fun (u : World) (k : Keeps Nb w u) => there_nul (h.nb k))
  have FN := Lib.hid (fun (u : World) (k : Keeps Nb w u) (s : ByteArray) => find_nil _ u s (h.nb k).cell)
  clear h
  go_enter Try.func29, Try.ntmps29
  go_wp2_with fail
  refine (TH.out w (Keeps.refl _ _)).mono ?_; rintro _ _ ⟨rfl, rfl⟩
  go_wp2
  go_end0
  exact ⟨⟨_, rfl⟩, Keeps.refl _ _⟩
theorem read_nul (h : NulD w v) (s : ByteArray) : Calls Try.prog 45 #[v, .string s] w fun e w' => e = .returned (.tuple #[.slice none 0 0, .int .i64 1]) ∧ Keeps Nb w w' := by
  have TH := Lib.hid (fun (u : World) (k : Keeps Nb w u) => there_nul (h.nb k))
  have FN := Lib.hid (fun (u : World) (k : Keeps Nb w u) (s : ByteArray) => find_nil _ u s (h.nb k).cell)
  clear h
  go_enter Try.func45, Try.ntmps45
  go_wp2_with fail
  refine (FN.out w (Keeps.refl _ _) s).mono ?_; rintro _ _ ⟨rfl, rfl⟩
  go_wp2
  go_ret2
  exact ⟨rfl, Keeps.refl _ _⟩
theorem lasts_nul (h : NulD w v) (s : ByteArray) : Calls Try.prog 25 #[v, .string s] w fun e w' => e = .returned (.tuple #[.int .i64 0, .int .i64 1]) ∧ Keeps Nb w w' := by
  have TH := Lib.hid (fun (u : World) (k : Keeps Nb w u) => there_nul (h.nb k))
  have FN := Lib.hid (fun (u : World) (k : Keeps Nb w u) (s : ByteArray) => find_nil _ u s (h.nb k).cell)
  clear h
  go_enter Try.func25, Try.ntmps25
  go_wp2_with fail
  refine (FN.out w (Keeps.refl _ _) s).mono ?_; rintro _ _ ⟨rfl, rfl⟩
  go_wp2
  go_ret2
  exact ⟨rfl, Keeps.refl _ _⟩
set_option maxHeartbeats 400000 in
theorem make_nul (h : NulD w v) (s : ByteArray) : Calls Try.prog 15 #[v, .string s] w fun e w' => e = .returned (.int .i64 1) ∧ Keeps Nb w w' := by
  obtain ⟨p, rfl⟩ : ∃ p, v = .pointer p := by rcases h with rfl | ⟨d, r, rfl, -⟩ <;> exact ⟨_, rfl⟩
  have TH := Lib.hid (fun (u : World) (k : Keeps Nb w u) => there_nul (h.nb k))
  have FN := Lib.hid (fun (u : World) (k : Keeps Nb w u) (s : ByteArray) => find_nil _ u s (h.nb k).cell)
  clear h
  go_enter Try.func15, Try.ntmps15
  go_wp2_with (first | go_skip | (with_reducible refine stop_load (t := 72) ?_) | (with_reducible refine stop_load (t := 61) ?_) | (with_reducible refine stop_alloc ?_) | (with_reducible refine stop_store ?_) | (with_reducible refine stop_makeMap ?_) | (with_reducible refine stop_rangem ?_) | (with_reducible refine stop_next ?_) | (with_reducible refine stop_entry ?_) | (with_reducible refine stop_buildSlice ?_) | (with_reducible refine stop_app ?_) | (with_reducible refine stop_mapUpdate ?_) | (with_reducible refine stop_lookup ?_) | (with_reducible refine stop_delete ?_) | (with_reducible refine stop_box ?_))
  refine at_out (vbox1 (v := .pointer p) (by rfl) (by rfl) ?_)
  intro g1 w1 n1
  simp only [Nat.reduceAdd, Nat.zero_add, Act.put, List.setIfInBounds_toArray, List.set_cons_succ, List.set_cons_zero]
  go_wp2_with (first | go_skip | (with_reducible refine stop_load (t := 72) ?_) | (with_reducible refine stop_load (t := 61) ?_) | (with_reducible refine stop_alloc ?_) | (with_reducible refine stop_store ?_) | (with_reducible refine stop_makeMap ?_) | (with_reducible refine stop_rangem ?_) | (with_reducible refine stop_next ?_) | (with_reducible refine stop_entry ?_) | (with_reducible refine stop_buildSlice ?_) | (with_reducible refine stop_app ?_) | (with_reducible refine stop_mapUpdate ?_) | (with_reducible refine stop_lookup ?_) | (with_reducible refine stop_delete ?_) | (with_reducible refine stop_box ?_))
  refine at_out (vbox1 (v := .string s) (by rfl) (by rfl) ?_)
  intro g2 w2 n2
  simp only [Nat.reduceAdd, Nat.zero_add, Act.put, List.setIfInBounds_toArray, List.set_cons_succ, List.set_cons_zero]
  have k2 := n1.k.trans_nb n2.k
  have c2 : w2.cell? ⟨g1, 0, none⟩ = some (.pointer p) := (cell_of_block (n2.k.nb n1.blk)).trans rfl
  have c3 : w2.cell? ⟨g2, 0, none⟩ = some (.string s) := (cell_of_block n2.blk).trans rfl
  clear n1 n2
  go_wp2_with fail
  refine (FN.out w2 k2 s).mono ?_; rintro _ _ ⟨rfl, rfl⟩
  go_wp2
  go_ret
  exact ⟨rfl, k2⟩
set_option maxHeartbeats 1000000 in
theorem app_nul (h : NulD w v) (s : ByteArray) (x : Option Addr) (n c : Nat) : Calls Try.prog 16 #[v, .string s, .slice x n c] w fun e w' => e = .returned (.int .i64 1) ∧ Keeps Nb w w' := by
  have TH := Lib.hid (fun (u : World) (k : Keeps Nb w u) => there_nul (h.nb k))
  have FN := Lib.hid (fun (u : World) (k : Keeps Nb w u) (s : ByteArray) => find_nil _ u s (h.nb k).cell)
  clear h
  go_enter Try.func16, Try.ntmps16
  go_wp2_with (first | go_skip | (with_reducible refine stop_load (t := 72) ?_) | (with_reducible refine stop_load (t := 61) ?_) | (with_reducible refine stop_alloc ?_) | (with_reducible refine stop_store ?_) | (with_reducible refine stop_makeMap ?_) | (with_reducible refine stop_rangem ?_) | (with_reducible refine stop_next ?_) | (with_reducible refine stop_entry ?_) | (with_reducible refine stop_buildSlice ?_) | (with_reducible refine stop_app ?_) | (with_reducible refine stop_mapUpdate ?_) | (with_reducible refine stop_lookup ?_) | (with_reducible refine stop_delete ?_) | (with_reducible refine stop_box ?_))
  refine at_out (vbox1 (v := .slice x n c) (by rfl) (by rfl) ?_)
  intro g1 w1 n1
  simp only [Nat.reduceAdd, Nat.zero_add, Act.put, List.setIfInBounds_toArray, List.set_cons_succ, List.set_cons_zero]
  have k1 := n1.k
  clear n1
  go_wp2_with fail
  refine (FN.out w1 k1 s).mono ?_; rintro _ _ ⟨rfl, rfl⟩
  go_wp2_with (first | go_skip | (with_reducible refine stop_load (t := 72) ?_) | (with_reducible refine stop_load (t := 61) ?_) | (with_reducible refine stop_alloc ?_) | (with_reducible refine stop_store ?_) | (with_reducible refine stop_makeMap ?_) | (with_reducible refine stop_rangem ?_) | (with_reducible refine stop_next ?_) | (with_reducible refine stop_entry ?_) | (with_reducible refine stop_buildSlice ?_) | (with_reducible refine stop_app ?_) | (with_reducible refine stop_mapUpdate ?_) | (with_reducible refine stop_lookup ?_) | (with_reducible refine stop_delete ?_) | (with_reducible refine stop_box ?_))
  refine at_out (valloc (z := .pointer none) (by kernel_rfl) ?_)
  intro g9 w9 n9
  simp only [Nat.reduceAdd, Nat.zero_add, Act.put, List.setIfInBounds_toArray, List.set_cons_succ, List.set_cons_zero]
  go_wp2_with (first | go_skip | (with_reducible refine stop_load (t := 72) ?_) | (with_reducible refine stop_load (t := 61) ?_) | (with_reducible refine stop_alloc ?_) | (with_reducible refine stop_store ?_) | (with_reducible refine stop_makeMap ?_) | (with_reducible refine stop_rangem ?_) | (with_reducible refine stop_next ?_) | (with_reducible refine stop_entry ?_) | (with_reducible refine stop_buildSlice ?_) | (with_reducible refine stop_app ?_) | (with_reducible refine stop_mapUpdate ?_) | (with_reducible refine stop_lookup ?_) | (with_reducible refine stop_delete ?_) | (with_reducible refine stop_box ?_))
  refine at_out (wpList_skipE rfl (re_store (v := .pointer none) (n := 1) (by kernel_rfl) (by rfl) (by rfl) n9.blk (by rfl) (by simp [Value.cells]) (by simp [Value.cells, Value.oneCell'])) ?_)
  intro w10 s10
  simp only [Nat.reduceAdd, Nat.zero_add, Act.put, List.setIfInBounds_toArray, List.set_cons_succ, List.set_cons_zero]
  have k10 := n9.k.own n9.ge s10.k
  clear n9 s10
  have k2 := k1.trans_nb k10
  go_wp2
  go_ret
  exact ⟨rfl, k2⟩
set_option maxHeartbeats 1000000 in
theorem sync_nul (h : NulD w v) (s : ByteArray) : Calls Try.prog 17 #[v, .string s] w fun e w' => e = .returned (.int .i64 1) ∧ Keeps Nb w w' := by
  have TH := Lib.hid (fun (u : World) (k : Keeps Nb w u) => there_nul (h.nb k))
  have FN := Lib.hid (fun (u : World) (k : Keeps Nb w u) (s : ByteArray) => find_nil _ u s (h.nb k).cell)
  clear h
  go_enter Try.func17, Try.ntmps17
  go_wp2_with fail
  refine (FN.out w (Keeps.refl _ _) s).mono ?_; rintro _ _ ⟨rfl, rfl⟩
  go_wp2_with (first | go_skip | (with_reducible refine stop_load (t := 72) ?_) | (with_reducible refine stop_load (t := 61) ?_) | (with_reducible refine stop_alloc ?_) | (with_reducible refine stop_store ?_) | (with_reducible refine stop_makeMap ?_) | (with_reducible refine stop_rangem ?_) | (with_reducible refine stop_next ?_) | (with_reducible refine stop_entry ?_) | (with_reducible refine stop_buildSlice ?_) | (with_reducible refine stop_app ?_) | (with_reducible refine stop_mapUpdate ?_) | (with_reducible refine stop_lookup ?_) | (with_reducible refine stop_delete ?_) | (with_reducible refine stop_box ?_))
  refine at_out (valloc (z := .pointer none) (by kernel_rfl) ?_)
  intro g9 w9 n9
  simp only [Nat.reduceAdd, Nat.zero_add, Act.put, List.setIfInBounds_toArray, List.set_cons_succ, List.set_cons_zero]
  go_wp2_with (first | go_skip | (with_reducible refine stop_load (t := 72) ?_) | (with_reducible refine stop_load (t := 61) ?_) | (with_reducible refine stop_alloc ?_) | (with_reducible refine stop_store ?_) | (with_reducible refine stop_makeMap ?_) | (with_reducible refine stop_rangem ?_) | (with_reducible refine stop_next ?_) | (with_reducible refine stop_entry ?_) | (with_reducible refine stop_buildSlice ?_) | (with_reducible refine stop_app ?_) | (with_reducible refine stop_mapUpdate ?_) | (with_reducible refine stop_lookup ?_) | (with_reducible refine stop_delete ?_) | (with_reducible refine stop_box ?_))
  refine at_out (wpList_skipE rfl (re_store (v := .pointer none) (n := 1) (by kernel_rfl) (by rfl) (by rfl) n9.blk (by rfl) (by simp [Value.cells]) (by simp [Value.cells, Value.oneCell'])) ?_)
  intro w10 s10
  simp only [Nat.reduceAdd, Nat.zero_add, Act.put, List.setIfInBounds_toArray, List.set_cons_succ, List.set_cons_zero]
  have k10 := n9.k.own n9.ge s10.k
  clear n9 s10
  go_wp2
  go_ret
  exact ⟨rfl, k10⟩
set_option maxHeartbeats 1000000 in
theorem cut_nul (h : NulD w v) (s : ByteArray) (n : Int) : Calls Try.prog 32 #[v, .string s, .int .i64 n] w fun e w' => e = .returned (.int .i64 1) ∧ Keeps Nb w w' := by
  have TH := Lib.hid (fun (u : World) (k : Keeps Nb w u) => there_nul (h.nb k))
  have FN := Lib.hid (fun (u : World) (k : Keeps Nb w u) (s : ByteArray) => find_nil _ u s (h.nb k).cell)
  clear h
  go_enter Try.func32, Try.ntmps32
  go_wp2_with (first | go_skip | (with_reducible refine stop_load (t := 72) ?_) | (with_reducible refine stop_load (t := 61) ?_) | (with_reducible refine stop_alloc ?_) | (with_reducible refine stop_store ?_) | (with_reducible refine stop_makeMap ?_) | (with_reducible refine stop_rangem ?_) | (with_reducible refine stop_next ?_) | (with_reducible refine stop_entry ?_) | (with_reducible refine stop_buildSlice ?_) | (with_reducible refine stop_app ?_) | (with_reducible refine stop_mapUpdate ?_) | (with_reducible refine stop_lookup ?_) | (with_reducible refine stop_delete ?_) | (with_reducible refine stop_box ?_))
  refine at_out (vbox1 (v := .int .i64 n) (by rfl) (by rfl) ?_)
  intro g1 w1 n1
  simp only [Nat.reduceAdd, Nat.zero_add, Act.put, List.setIfInBounds_toArray, List.set_cons_succ, List.set_cons_zero]
  have k1 := n1.k
  clear n1
  go_wp2_with fail
  refine (FN.out w1 k1 s).mono ?_; rintro _ _ ⟨rfl, rfl⟩
  go_wp2_with (first | go_skip | (with_reducible refine stop_load (t := 72) ?_) | (with_reducible refine stop_load (t := 61) ?_) | (with_reducible refine stop_alloc ?_) | (with_reducible refine stop_store ?_) | (with_reducible refine stop_makeMap ?_) | (with_reducible refine stop_rangem ?_) | (with_reducible refine stop_next ?_) | (with_reducible refine stop_entry ?_) | (with_reducible refine stop_buildSlice ?_) | (with_reducible refine stop_app ?_) | (with_reducible refine stop_mapUpdate ?_) | (with_reducible refine stop_lookup ?_) | (with_reducible refine stop_delete ?_) | (with_reducible refine stop_box ?_))
  refine at_out (valloc (z := .pointer none) (by kernel_rfl) ?_)
  intro g9 w9 n9
  simp only [Nat.reduceAdd, Nat.zero_add, Act.put, List.setIfInBounds_toArray, List.set_cons_succ, List.set_cons_zero]
  go_wp2_with (first | go_skip | (with_reducible refine stop_load (t := 72) ?_) | (with_reducible refine stop_load (t := 61) ?_) | (with_reducible refine stop_alloc ?_) | (with_reducible refine stop_store ?_) | (with_reducible refine stop_makeMap ?_) | (with_reducible refine stop_rangem ?_) | (with_reducible refine stop_next ?_) | (with_reducible refine stop_entry ?_) | (with_reducible refine stop_buildSlice ?_) | (with_reducible refine stop_app ?_) | (with_reducible refine stop_mapUpdate ?_) | (with_reducible refine stop_lookup ?_) | (with_reducible refine stop_delete ?_) | (with_reducible refine stop_box ?_))
  refine at_out (wpList_skipE rfl (re_store (v := .pointer none) (n := 1) (by kernel_rfl) (by rfl) (by rfl) n9.blk (by rfl) (by simp [Value.cells]) (by simp [Value.cells, Value.oneCell'])) ?_)
  intro w10 s10
  simp only [Nat.reduceAdd, Nat.zero_add, Act.put, List.setIfInBounds_toArray, List.set_cons_succ, List.set_cons_zero]
  have k10 := n9.k.own n9.ge s10.k
  clear n9 s10
  have k2 := k1.trans_nb k10
  go_wp2
  go_ret
  exact ⟨rfl, k2⟩
set_option maxHeartbeats 1000000 in
theorem ren_nul (h : NulD w v) (s t : ByteArray) : Calls Try.prog 20 #[v, .string s, .string t] w fun e w' => e = .returned (.int .i64 1) ∧ Keeps Nb w w' := by
  obtain ⟨p, rfl⟩ : ∃ p, v = .pointer p := by rcases h with rfl | ⟨d, r, rfl, -⟩ <;> exact ⟨_, rfl⟩
  have TH := Lib.hid (fun (u : World) (k : Keeps Nb w u) => there_nul (h.nb k))
  have FN := Lib.hid (fun (u : World) (k : Keeps Nb w u) (s : ByteArray) => find_nil _ u s (h.nb k).cell)
  clear h
  go_enter Try.func20, Try.ntmps20
  go_wp2_with (first | go_skip | (with_reducible refine stop_load (t := 72) ?_) | (with_reducible refine stop_load (t := 61) ?_) | (with_reducible refine stop_alloc ?_) | (with_reducible refine stop_store ?_) | (with_reducible refine stop_makeMap ?_) | (with_reducible refine stop_rangem ?_) | (with_reducible refine stop_next ?_) | (with_reducible refine stop_entry ?_) | (with_reducible refine stop_buildSlice ?_) | (with_reducible refine stop_app ?_) | (with_reducible refine stop_mapUpdate ?_) | (with_reducible refine stop_lookup ?_) | (with_reducible refine stop_delete ?_) | (with_reducible refine stop_box ?_))
  refine at_out (vbox1 (v := .pointer p) (by rfl) (by rfl) ?_)
  intro g1 w1 n1
  simp only [Nat.reduceAdd, Nat.zero_add, Act.put, List.setIfInBounds_toArray, List.set_cons_succ, List.set_cons_zero]
  go_wp2_with (first | go_skip | (with_reducible refine stop_load (t := 72) ?_) | (with_reducible refine stop_load (t := 61) ?_) | (with_reducible refine stop_alloc ?_) | (with_reducible refine stop_store ?_) | (with_reducible refine stop_makeMap ?_) | (with_reducible refine stop_rangem ?_) | (with_reducible refine stop_next ?_) | (with_reducible refine stop_entry ?_) | (with_reducible refine stop_buildSlice ?_) | (with_reducible refine stop_app ?_) | (with_reducible refine stop_mapUpdate ?_) | (with_reducible refine stop_lookup ?_) | (with_reducible refine stop_delete ?_) | (with_reducible refine stop_box ?_))
  refine at_out (vbox1 (v := .string s) (by rfl) (by rfl) ?_)
  intro g2 w2 n2
  simp only [Nat.reduceAdd, Nat.zero_add, Act.put, List.setIfInBounds_toArray, List.set_cons_succ, List.set_cons_zero]
  go_wp2_with (first | go_skip | (with_reducible refine stop_load (t := 72) ?_) | (with_reducible refine stop_load (t := 61) ?_) | (with_reducible refine stop_alloc ?_) | (with_reducible refine stop_store ?_) | (with_reducible refine stop_makeMap ?_) | (with_reducible refine stop_rangem ?_) | (with_reducible refine stop_next ?_) | (with_reducible refine stop_entry ?_) | (with_reducible refine stop_buildSlice ?_) | (with_reducible refine stop_app ?_) | (with_reducible refine stop_mapUpdate ?_) | (with_reducible refine stop_lookup ?_) | (with_reducible refine stop_delete ?_) | (with_reducible refine stop_box ?_))
  refine at_out (vbox1 (v := .string t) (by rfl) (by rfl) ?_)
  intro g3 w3 n3
  simp only [Nat.reduceAdd, Nat.zero_add, Act.put, List.setIfInBounds_toArray, List.set_cons_succ, List.set_cons_zero]
  have k2 := n1.k.trans_nb (n2.k.trans_nb n3.k)
  have c2 : w3.cell? ⟨g1, 0, none⟩ = some (.pointer p) := (cell_of_block (n3.k.nb (n2.k.nb n1.blk))).trans rfl
  have c3 : w3.cell? ⟨g2, 0, none⟩ = some (.string s) := (cell_of_block (n3.k.nb n2.blk)).trans rfl
  clear n1 n2 n3
  go_wp2_with fail
  refine (FN.out w3 k2 s).mono ?_; rintro _ _ ⟨rfl, rfl⟩
  go_wp2_with (first | go_skip | (with_reducible refine stop_load (t := 72) ?_) | (with_reducible refine stop_load (t := 61) ?_) | (with_reducible refine stop_alloc ?_) | (with_reducible refine stop_store ?_) | (with_reducible refine stop_makeMap ?_) | (with_reducible refine stop_rangem ?_) | (with_reducible refine stop_next ?_) | (with_reducible refine stop_entry ?_) | (with_reducible refine stop_buildSlice ?_) | (with_reducible refine stop_app ?_) | (with_reducible refine stop_mapUpdate ?_) | (with_reducible refine stop_lookup ?_) | (with_reducible refine stop_delete ?_) | (with_reducible refine stop_box ?_))
  refine at_out (valloc (z := .pointer none) (by kernel_rfl) ?_)
  intro g9 w9 n9
  simp only [Nat.reduceAdd, Nat.zero_add, Act.put, List.setIfInBounds_toArray, List.set_cons_succ, List.set_cons_zero]
  go_wp2_with (first | go_skip | (with_reducible refine stop_load (t := 72) ?_) | (with_reducible refine stop_load (t := 61) ?_) | (with_reducible refine stop_alloc ?_) | (with_reducible refine stop_store ?_) | (with_reducible refine stop_makeMap ?_) | (with_reducible refine stop_rangem ?_) | (with_reducible refine stop_next ?_) | (with_reducible refine stop_entry ?_) | (with_reducible refine stop_buildSlice ?_) | (with_reducible refine stop_app ?_) | (with_reducible refine stop_mapUpdate ?_) | (with_reducible refine stop_lookup ?_) | (with_reducible refine stop_delete ?_) | (with_reducible refine stop_box ?_))
  refine at_out (wpList_skipE rfl (re_store (v := .pointer none) (n := 1) (by kernel_rfl) (by rfl) (by rfl) n9.blk (by rfl) (by simp [Value.cells]) (by simp [Value.cells, Value.oneCell'])) ?_)
  intro w10 s10
  simp only [Nat.reduceAdd, Nat.zero_add, Act.put, List.setIfInBounds_toArray, List.set_cons_succ, List.set_cons_zero]
  have k10 := n9.k.own n9.ge s10.k
  clear n9 s10
  have k3 := k2.trans_nb k10
  go_wp2
  go_ret
  exact ⟨rfl, k3⟩
set_option maxHeartbeats 1000000 in
theorem rem_nul (h : NulD w v) (s : ByteArray) : Calls Try.prog 30 #[v, .string s] w fun e w' => e = .returned (.int .i64 1) ∧ Keeps Nb w w' := by
  obtain ⟨p, rfl⟩ : ∃ p, v = .pointer p := by rcases h with rfl | ⟨d, r, rfl, -⟩ <;> exact ⟨_, rfl⟩
  have TH := Lib.hid (fun (u : World) (k : Keeps Nb w u) => there_nul (h.nb k))
  have FN := Lib.hid (fun (u : World) (k : Keeps Nb w u) (s : ByteArray) => find_nil _ u s (h.nb k).cell)
  clear h
  go_enter Try.func30, Try.ntmps30
  go_wp2_with (first | go_skip | (with_reducible refine stop_load (t := 72) ?_) | (with_reducible refine stop_load (t := 61) ?_) | (with_reducible refine stop_alloc ?_) | (with_reducible refine stop_store ?_) | (with_reducible refine stop_makeMap ?_) | (with_reducible refine stop_rangem ?_) | (with_reducible refine stop_next ?_) | (with_reducible refine stop_entry ?_) | (with_reducible refine stop_buildSlice ?_) | (with_reducible refine stop_app ?_) | (with_reducible refine stop_mapUpdate ?_) | (with_reducible refine stop_lookup ?_) | (with_reducible refine stop_delete ?_) | (with_reducible refine stop_box ?_))
  refine at_out (vbox1 (v := .pointer p) (by rfl) (by rfl) ?_)
  intro g1 w1 n1
  simp only [Nat.reduceAdd, Nat.zero_add, Act.put, List.setIfInBounds_toArray, List.set_cons_succ, List.set_cons_zero]
  go_wp2_with (first | go_skip | (with_reducible refine stop_load (t := 72) ?_) | (with_reducible refine stop_load (t := 61) ?_) | (with_reducible refine stop_alloc ?_) | (with_reducible refine stop_store ?_) | (with_reducible refine stop_makeMap ?_) | (with_reducible refine stop_rangem ?_) | (with_reducible refine stop_next ?_) | (with_reducible refine stop_entry ?_) | (with_reducible refine stop_buildSlice ?_) | (with_reducible refine stop_app ?_) | (with_reducible refine stop_mapUpdate ?_) | (with_reducible refine stop_lookup ?_) | (with_reducible refine stop_delete ?_) | (with_reducible refine stop_box ?_))
  refine at_out (vbox1 (v := .string s) (by rfl) (by rfl) ?_)
  intro g2 w2 n2
  simp only [Nat.reduceAdd, Nat.zero_add, Act.put, List.setIfInBounds_toArray, List.set_cons_succ, List.set_cons_zero]
  have k2 := n1.k.trans_nb n2.k
  have c2 : w2.cell? ⟨g1, 0, none⟩ = some (.pointer p) := (cell_of_block (n2.k.nb n1.blk)).trans rfl
  have c3 : w2.cell? ⟨g2, 0, none⟩ = some (.string s) := (cell_of_block n2.blk).trans rfl
  clear n1 n2
  go_wp2_with fail
  refine (FN.out w2 k2 s).mono ?_; rintro _ _ ⟨rfl, rfl⟩
  go_wp2
  go_ret
  exact ⟨rfl, k2⟩
set_option maxHeartbeats 1000000 in
theorem sdir_nul (h : NulD w v) : Calls Try.prog 18 #[v] w fun e w' => e = .returned (.int .i64 1) ∧ Keeps Nb w w' := by
  obtain ⟨p, rfl⟩ : ∃ p, v = .pointer p := by rcases h with rfl | ⟨d, r, rfl, -⟩ <;> exact ⟨_, rfl⟩
  have TH := Lib.hid (fun (u : World) (k : Keeps Nb w u) => there_nul (h.nb k))
  have FN := Lib.hid (fun (u : World) (k : Keeps Nb w u) (s : ByteArray) => find_nil _ u s (h.nb k).cell)
  clear h
  go_enter Try.func18, Try.ntmps18
  go_wp2_with (first | go_skip | (with_reducible refine stop_load (t := 72) ?_) | (with_reducible refine stop_load (t := 61) ?_) | (with_reducible refine stop_alloc ?_) | (with_reducible refine stop_store ?_) | (with_reducible refine stop_makeMap ?_) | (with_reducible refine stop_rangem ?_) | (with_reducible refine stop_next ?_) | (with_reducible refine stop_entry ?_) | (with_reducible refine stop_buildSlice ?_) | (with_reducible refine stop_app ?_) | (with_reducible refine stop_mapUpdate ?_) | (with_reducible refine stop_lookup ?_) | (with_reducible refine stop_delete ?_) | (with_reducible refine stop_box ?_))
  refine at_out (vbox1 (v := .pointer p) (by rfl) (by rfl) ?_)
  intro g1 w1 n1
  simp only [Nat.reduceAdd, Nat.zero_add, Act.put, List.setIfInBounds_toArray, List.set_cons_succ, List.set_cons_zero]
  have k1 := n1.k
  have c2 : w1.cell? ⟨g1, 0, none⟩ = some (.pointer p) := (cell_of_block n1.blk).trans rfl
  clear n1
  go_wp2_with fail
  refine (TH.out w1 k1).mono ?_; rintro _ _ ⟨rfl, rfl⟩
  go_wp2
  go_ret
  exact ⟨rfl, k1⟩
set_option maxHeartbeats 1000000 in
theorem lay_nul (h : NulD w v) (n e : Int) : Calls Try.prog 11 #[v, .int .i64 n, .int .i64 e] w fun e w' => e = .returned (.int .i64 1) ∧ Keeps Nb w w' := by
  have TH := Lib.hid (fun (u : World) (k : Keeps Nb w u) => there_nul (h.nb k))
  have FN := Lib.hid (fun (u : World) (k : Keeps Nb w u) (s : ByteArray) => find_nil _ u s (h.nb k).cell)
  clear h
  go_enter Try.func11, Try.ntmps11
  go_wp2_with fail
  refine (TH.out w (Keeps.refl _ _)).mono ?_; rintro _ _ ⟨rfl, rfl⟩
  go_wp2
  go_ret
  exact ⟨rfl, Keeps.refl _ _⟩
set_option maxHeartbeats 1000000 in
theorem pending_nul (h : NulD w v)  : Calls Try.prog 22 #[v] w fun e w' => e = .returned (.int .i64 0) ∧ Keeps Nb w w' := by
  have TH := Lib.hid (fun (u : World) (k : Keeps Nb w u) => there_nul (h.nb k))
  have FN := Lib.hid (fun (u : World) (k : Keeps Nb w u) (s : ByteArray) => find_nil _ u s (h.nb k).cell)
  clear h
  go_enter Try.func22, Try.ntmps22
  go_wp2_with fail
  refine (TH.out w (Keeps.refl _ _)).mono ?_; rintro _ _ ⟨rfl, rfl⟩
  go_wp2
  go_ret
  exact ⟨rfl, Keeps.refl _ _⟩
set_option maxHeartbeats 1000000 in
theorem room_nul (h : NulD w v)  : Calls Try.prog 13 #[v] w fun e w' => e = .returned (.int .i64 0) ∧ Keeps Nb w w' := by
  have TH := Lib.hid (fun (u : World) (k : Keeps Nb w u) => there_nul (h.nb k))
  have FN := Lib.hid (fun (u : World) (k : Keeps Nb w u) (s : ByteArray) => find_nil _ u s (h.nb k).cell)
  clear h
  go_enter Try.func13, Try.ntmps13
  go_wp2_with fail
  refine (TH.out w (Keeps.refl _ _)).mono ?_; rintro _ _ ⟨rfl, rfl⟩
  go_wp2
  go_ret
  exact ⟨rfl, Keeps.refl _ _⟩
set_option maxHeartbeats 1000000 in
theorem dead_nul (h : NulD w v)  : Calls Try.prog 26 #[v] w fun e w' => e = .returned (.bool false) ∧ Keeps Nb w w' := by
  have TH := Lib.hid (fun (u : World) (k : Keeps Nb w u) => there_nul (h.nb k))
  have FN := Lib.hid (fun (u : World) (k : Keeps Nb w u) (s : ByteArray) => find_nil _ u s (h.nb k).cell)
  clear h
  go_enter Try.func26, Try.ntmps26
  go_wp2_with fail
  refine (TH.out w (Keeps.refl _ _)).mono ?_; rintro _ _ ⟨rfl, rfl⟩
  go_wp2
  go_ret
  exact ⟨rfl, Keeps.refl _ _⟩
set_option maxHeartbeats 1000000 in
theorem changes_nul (h : NulD w v)  : Calls Try.prog 12 #[v] w fun e w' => e = .returned (.int .i64 0) ∧ Keeps Nb w w' := by
  have TH := Lib.hid (fun (u : World) (k : Keeps Nb w u) => there_nul (h.nb k))
  have FN := Lib.hid (fun (u : World) (k : Keeps Nb w u) (s : ByteArray) => find_nil _ u s (h.nb k).cell)
  clear h
  go_enter Try.func12, Try.ntmps12
  go_wp2_with fail
  refine (TH.out w (Keeps.refl _ _)).mono ?_; rintro _ _ ⟨rfl, rfl⟩
  go_wp2
  go_ret
  exact ⟨rfl, Keeps.refl _ _⟩
set_option maxHeartbeats 1000000 in
theorem copy_nul (h : NulD w v)  : Calls Try.prog 46 #[v] w fun e w' => e = .returned (.pointer none) ∧ Keeps Nb w w' := by
  have TH := Lib.hid (fun (u : World) (k : Keeps Nb w u) => there_nul (h.nb k))
  have FN := Lib.hid (fun (u : World) (k : Keeps Nb w u) (s : ByteArray) => find_nil _ u s (h.nb k).cell)
  clear h
  go_enter Try.func46, Try.ntmps46
  go_wp2_with fail
  refine (TH.out w (Keeps.refl _ _)).mono ?_; rintro _ _ ⟨rfl, rfl⟩
  go_wp2
  go_ret
  exact ⟨rfl, Keeps.refl _ _⟩
set_option maxHeartbeats 1000000 in
theorem crash_nul (h : NulD w v) (x : Option Addr) (n c : Nat) : Calls Try.prog 23 #[v, .slice x n c] w fun e w' => e = .returned (.pointer none) ∧ Keeps Nb w w' := by
  have CP := Lib.hid (fun (u : World) (k : Keeps Nb w u) => copy_nul (h.nb k))
  clear h
  go_enter Try.func23, Try.ntmps23
  go_wp2_with (first | go_skip | (with_reducible refine stop_load (t := 72) ?_) | (with_reducible refine stop_load (t := 61) ?_) | (with_reducible refine stop_alloc ?_) | (with_reducible refine stop_store ?_) | (with_reducible refine stop_makeMap ?_) | (with_reducible refine stop_rangem ?_) | (with_reducible refine stop_next ?_) | (with_reducible refine stop_entry ?_) | (with_reducible refine stop_buildSlice ?_) | (with_reducible refine stop_app ?_) | (with_reducible refine stop_mapUpdate ?_) | (with_reducible refine stop_lookup ?_) | (with_reducible refine stop_delete ?_) | (with_reducible refine stop_box ?_))
  refine at_out (vbox1 (v := .slice x n c) (by rfl) (by rfl) ?_)
  intro g1 w1 n1
  simp only [Nat.reduceAdd, Nat.zero_add, Act.put, List.setIfInBounds_toArray, List.set_cons_succ, List.set_cons_zero]
  have k1 := n1.k
  clear n1
  go_wp2_with fail
  refine (CP.out w1 k1).mono ?_
  rintro _ w2 ⟨rfl, k2⟩
  have k3 := k1.trans_nb k2
  go_wp2
  go_ret
  exact ⟨rfl, k3⟩
set_option maxHeartbeats 1000000 in
theorem files_nul (h : NulD w v) : Calls Try.prog 24 #[v] w (FilesD w.heap.size [] w) := by
  have TH := Lib.hid (fun (u : World) (k : Keeps Nb w u) => there_nul (h.nb k))
  have FN := Lib.hid (fun (u : World) (k : Keeps Nb w u) (s : ByteArray) => find_nil _ u s (h.nb k).cell)
  clear h
  go_enter Try.func24, Try.ntmps24
  go_wp2_with (first | go_skip | (with_reducible refine stop_load (t := 72) ?_) | (with_reducible refine stop_load (t := 61) ?_) | (with_reducible refine stop_alloc ?_) | (with_reducible refine stop_store ?_) | (with_reducible refine stop_makeMap ?_) | (with_reducible refine stop_rangem ?_) | (with_reducible refine stop_next ?_) | (with_reducible refine stop_entry ?_) | (with_reducible refine stop_buildSlice ?_) | (with_reducible refine stop_app ?_) | (with_reducible refine stop_mapUpdate ?_) | (with_reducible refine stop_lookup ?_) | (with_reducible refine stop_delete ?_) | (with_reducible refine stop_box ?_))
  refine at_out (valloc (z := .slice none 0 0) (by kernel_rfl) ?_)
  intro a3 w1 n1
  simp only [Nat.reduceAdd, Nat.zero_add, Act.put, List.setIfInBounds_toArray, List.set_cons_succ, List.set_cons_zero]
  go_wp2_with (first | go_skip | (with_reducible refine stop_load (t := 72) ?_) | (with_reducible refine stop_load (t := 61) ?_) | (with_reducible refine stop_alloc ?_) | (with_reducible refine stop_store ?_) | (with_reducible refine stop_makeMap ?_) | (with_reducible refine stop_rangem ?_) | (with_reducible refine stop_next ?_) | (with_reducible refine stop_entry ?_) | (with_reducible refine stop_buildSlice ?_) | (with_reducible refine stop_app ?_) | (with_reducible refine stop_mapUpdate ?_) | (with_reducible refine stop_lookup ?_) | (with_reducible refine stop_delete ?_) | (with_reducible refine stop_box ?_))
  refine at_out (valloc (z := .slice none 0 0) (by kernel_rfl) ?_)
  intro a4 w2 n2
  simp only [Nat.reduceAdd, Nat.zero_add, Act.put, List.setIfInBounds_toArray, List.set_cons_succ, List.set_cons_zero]
  have k2 := n1.k.trans_nb n2.k
  have A3 := Lib.hid (n2.k.nb n1.blk)
  have A4 := Lib.hid n2.blk
  have G3 : Hid (w.heap.size ≤ a3) := n1.ge
  have G4 : Hid (w.heap.size ≤ a4) := by refine Lib.hid ?_; have := n2.ge; have := n1.k.size; omega
  clear n1 n2
  go_wp2_with fail
  refine (TH.out w2 k2).mono ?_; rintro _ _ ⟨rfl, rfl⟩
  go_wp2
  go_ret
  exact ⟨a3, a4, rfl, ⟨none, 0, none, 0, G3.out, G4.out, A3.out, A4.out, .inl rfl, .inl rfl, fun _ _ e => by (cases e), fun _ _ e => by (cases e), Nat.le_refl _, Nat.zero_le _, Nat.le_refl _, Nat.zero_le _⟩, k2⟩
attribute [local go_sem] Oper.semAt_some
set_option maxRecDepth 100000 in
set_option maxHeartbeats 4000000 in
theorem once_nul (h : NulD w v) (q : Nat) (cs : Array Value) (hq : w.heap[q]? = some (.cells cs 91 (0, 0))) (hcs : cs[1]? = some (.slice none 0 0)) : Calls Try.prog 52 #[v, .pointer (some ⟨q, 0, none⟩), .int .i64 0] w fun e w' => e = .returned (.bool true) ∧ Keeps Nb w w' := by
  have FL := Lib.hid (fun (u : World) (k : Keeps Nb w u) => files_nul (h.nb k))
  have HQ := Lib.hid hq
  have HC := Lib.hid hcs
  have qn : ∀ (w : World) (fn : Fn) (a b : Array Value), (binOp .eql 48 (.func fn a b) .nilFunc).run Try.prog w = .ok (.bool false) w := fun w fn a b => by first | rfl | kernel_rfl
  clear h hq hcs
  refine calls_marks Try.func52 rfl ?_
  simp only [Try.ntmps52, List.size_toArray, List.length_cons, List.length_nil, Nat.reduceAdd, Nat.reduceSub, Array.replicate_succ, Array.replicate_zero, List.push_toArray, List.append_toArray, List.nil_append, List.cons_append]
  go_wp2_with (first | go_skip | (with_reducible refine stop_load (t := 72) ?_) | (with_reducible refine stop_load (t := 61) ?_) | (with_reducible refine stop_alloc ?_) | (with_reducible refine stop_store ?_) | (with_reducible refine stop_makeMap ?_) | (with_reducible refine stop_rangem ?_) | (with_reducible refine stop_next ?_) | (with_reducible refine stop_entry ?_) | (with_reducible refine stop_buildSlice ?_) | (with_reducible refine stop_app ?_) | (with_reducible refine stop_mapUpdate ?_) | (with_reducible refine stop_lookup ?_) | (with_reducible refine stop_delete ?_) | (with_reducible refine stop_box ?_))
  refine at_out (vbox1 (v := .pointer (some ⟨q, 0, none⟩)) (by rfl) (by rfl) ?_)
  intro g4 w1 m1
  simp only [Nat.reduceAdd, Nat.zero_add, Act.put, List.setIfInBounds_toArray, List.set_cons_succ, List.set_cons_zero]
  go_wp2_with (first | go_skip | (with_reducible refine stop_load (t := 72) ?_) | (with_reducible refine stop_load (t := 61) ?_) | (with_reducible refine stop_alloc ?_) | (with_reducible refine stop_store ?_) | (with_reducible refine stop_makeMap ?_) | (with_reducible refine stop_rangem ?_) | (with_reducible refine stop_next ?_) | (with_reducible refine stop_entry ?_) | (with_reducible refine stop_buildSlice ?_) | (with_reducible refine stop_app ?_) | (with_reducible refine stop_mapUpdate ?_) | (with_reducible refine stop_lookup ?_) | (with_reducible refine stop_delete ?_) | (with_reducible refine stop_box ?_))
  refine at_out (vbox1 (v := .int .i64 0) (by rfl) (by rfl) ?_)
  intro g5 w2 m2
  simp only [Nat.reduceAdd, Nat.zero_add, Act.put, List.setIfInBounds_toArray, List.set_cons_succ, List.set_cons_zero]
  go_wp2_with (first | go_skip | (with_reducible refine stop_load (t := 72) ?_) | (with_reducible refine stop_load (t := 61) ?_) | (with_reducible refine stop_alloc ?_) | (with_reducible refine stop_store ?_) | (with_reducible refine stop_makeMap ?_) | (with_reducible refine stop_rangem ?_) | (with_reducible refine stop_next ?_) | (with_reducible refine stop_entry ?_) | (with_reducible refine stop_buildSlice ?_) | (with_reducible refine stop_app ?_) | (with_reducible refine stop_mapUpdate ?_) | (with_reducible refine stop_lookup ?_) | (with_reducible refine stop_delete ?_) | (with_reducible refine stop_box ?_))
  refine at_out (valloc (z := .bool false) (by kernel_rfl) ?_)
  intro gr w3 m3
  simp only [Nat.reduceAdd, Nat.zero_add, Act.put, List.setIfInBounds_toArray, List.set_cons_succ, List.set_cons_zero]
  have B4 := Lib.hid (m3.k.nb (m2.k.nb m1.blk))
  have BR := Lib.hid m3.blk
  have K3 := Lib.hid ((m1.k.trans_nb m2.k).trans_nb m3.k)
  have GR : Hid (w.heap.size ≤ gr) := by refine Lib.hid ?_; have := m3.ge; have := m2.k.size; have := m1.k.size; omega
  clear m1 m2 m3
  go_wp2_with (first | go_skip | (with_reducible refine stop_load (t := 72) ?_) | (with_reducible refine stop_load (t := 61) ?_) | (with_reducible refine stop_alloc ?_) | (with_reducible refine stop_store ?_) | (with_reducible refine stop_makeMap ?_) | (with_reducible refine stop_rangem ?_) | (with_reducible refine stop_next ?_) | (with_reducible refine stop_entry ?_) | (with_reducible refine stop_buildSlice ?_) | (with_reducible refine stop_app ?_) | (with_reducible refine stop_mapUpdate ?_) | (with_reducible refine stop_lookup ?_) | (with_reducible refine stop_delete ?_) | (with_reducible refine stop_box ?_))
  refine at_out (valloc (z := .int .i64 0) (by kernel_rfl) ?_)
  intro gn w4 m4
  simp only [Nat.reduceAdd, Nat.zero_add, Act.put, List.setIfInBounds_toArray, List.set_cons_succ, List.set_cons_zero]
  go_wp2_with (first | go_skip | (with_reducible refine stop_load (t := 72) ?_) | (with_reducible refine stop_load (t := 61) ?_) | (with_reducible refine stop_alloc ?_) | (with_reducible refine stop_store ?_) | (with_reducible refine stop_makeMap ?_) | (with_reducible refine stop_rangem ?_) | (with_reducible refine stop_next ?_) | (with_reducible refine stop_entry ?_) | (with_reducible refine stop_buildSlice ?_) | (with_reducible refine stop_app ?_) | (with_reducible refine stop_mapUpdate ?_) | (with_reducible refine stop_lookup ?_) | (with_reducible refine stop_delete ?_) | (with_reducible refine stop_box ?_))
  refine at_out (wpList_skipE rfl (re_store (v := .int .i64 0) (n := 1) (by kernel_rfl) (by rfl) (by rfl) m4.blk (by rfl) (by simp [Value.cells]) (by simp [Value.cells, Value.oneCell'])) ?_)
  intro w5 s5
  simp only [Nat.reduceAdd, Nat.zero_add, Act.put, List.setIfInBounds_toArray, List.set_cons_succ, List.set_cons_zero]
  have BN5 : Hid (w5.heap[gn]? = some (.cells #[.int .i64 0] 3 (0, 0))) := s5.blk
  have K35 : Hid (Keeps Nb w3 w5) := m4.k.own m4.ge s5.k
  clear m4 s5
  go_wp2_with fail
  refine (FL.out w5 (K3.out.trans_nb K35.out)).mono ?_
  rintro _ w6 ⟨a3, a4, rfl, hfa, k56⟩
  have HFA := Lib.hid hfa
  have K36 := Lib.hid (K35.out.trans_nb k56)
  have BN6 := Lib.hid (k56.nb BN5.out)
  clear hfa k56 K35
  go_wp2_with (with_reducible refine stop_range0 ?_)
  refine at_out ((wpIn_wide (n := 9)).1 ?_)
  refine wp_range (gf := 51) (lb := #[.pointer (some ⟨a3, 0, none⟩), .pointer (some ⟨a4, 0, none⟩)]) (by rfl) (enters_of Try.func51 (by kernel_rfl) rfl)
    (files_iter 8 (by omega) w5.heap.size a3 a4 [] (fun b => w6.heap.size ≤ b) w6 HFA.out (fun b h1 h2 e => by omega))
    (fun b hb => by unfold Book at hb; show w6.heap.size ≤ b; omega) (fun i args W h => by obtain ⟨p, -, rfl⟩ := h; rfl)
    (fun i W => Keeps (fun b => w6.heap.size ≤ b) w6 W) (fun _ _ => False)
    (fun i A B h k => h.trans k (fun j hj e => by unfold Book at e; show w6.heap.size ≤ j; omega)) (fun c A B h => h.elim) (Keeps.refl _ _) ?round ?done (fun _ _ h => h.elim)
  case round =>
    rintro l i args W rfl hW2 hkW hi hp
    simp at hi
  case done =>
    rintro W hkW hD
    have KW : Hid (Keeps Nb w3 W) := K36.out.trans hkW (fun j hj e => by have : w6.heap.size ≤ j := e; have := K36.out.size; omega)
    have BN : Hid (W.heap[gn]? = some (.cells #[.int .i64 0] 3 (0, 0))) := hkW.at BN6.out (fun e => by have : w6.heap.size ≤ gn := e; have := lt_of_block BN6.out; omega)
    have HD := Lib.hid hD
    clear hkW hD
    have KX := Lib.hid (K3.out.trans_nb KW.out)
    go_wp2
    have HSS : Hid ((fun u : World => u.cell? ⟨gn, 0, none⟩ = some (.int .i64 0) ∧ u.cell? ⟨g4, 0, none⟩ = some (.pointer (some ⟨q, 0, none⟩)) ∧ u.cell? ⟨q, 1, none⟩ = some (.slice none 0 0)) W.drew) := ⟨(cell_of_block BN.out).trans rfl, (cell_of_block (KW.out.nb B4.out)).trans rfl, (cell_of_block (KX.out.nb HQ.out)).trans HC.out⟩
    refine WT.region (fun u : World => u.cell? ⟨gn, 0, none⟩ = some (.int .i64 0) ∧ u.cell? ⟨g4, 0, none⟩ = some (.pointer (some ⟨q, 0, none⟩)) ∧ u.cell? ⟨q, 1, none⟩ = some (.slice none 0 0)) 7 8 [0, 1, 2, 3, 4, 5, 6, 7] (by kernel_rfl) rfl ?_
    have HS := HSS
    refine WT.take 0 (v := .int .i64 0) (by simp only [List.getElem?_toArray, List.getElem?_cons_succ, List.getElem?_cons_zero]; rfl) (by kernel_rfl) (by exact fun _ _ _ h => h) (by rfl) (by rintro w ⟨C1, C2, C3⟩; exact rn_load1 (by kernel_rfl) (by rfl) C1) HS.out ?_
    simp only [Nat.reduceAdd, Nat.zero_add, Act.put, List.setIfInBounds_toArray, List.set_cons_succ, List.set_cons_zero]
    refine WT.take 1 (v := .pointer (some ⟨q, 0, none⟩)) (by simp only [List.getElem?_toArray, List.getElem?_cons_succ, List.getElem?_cons_zero]; rfl) (by kernel_rfl) (by exact fun _ _ _ h => h) (by rfl) (by rintro w ⟨C1, C2, C3⟩; exact rn_load1 (by kernel_rfl) (by rfl) C2) HS.out ?_
    simp only [Nat.reduceAdd, Nat.zero_add, Act.put, List.setIfInBounds_toArray, List.set_cons_succ, List.set_cons_zero]
    refine WT.take 2 (v := _) (by simp only [List.getElem?_toArray, List.getElem?_cons_succ, List.getElem?_cons_zero]; rfl) (by kernel_rfl) (by exact fun _ _ _ h => h) (by rfl) (by rintro w ⟨C1, C2, C3⟩; exact by go_simp; with_reducible rfl) HS.out ?_
    simp only [Nat.reduceAdd, Nat.zero_add, Act.put, List.setIfInBounds_toArray, List.set_cons_succ, List.set_cons_zero]
    refine WT.take 3 (v := _) (by simp only [List.getElem?_toArray, List.getElem?_cons_succ, List.getElem?_cons_zero]; rfl) (by kernel_rfl) (by exact fun _ _ _ h => h) (by rfl) (by rintro w ⟨C1, C2, C3⟩; exact by go_simp; with_reducible rfl) HS.out ?_
    simp only [Nat.reduceAdd, Nat.zero_add, Act.put, List.setIfInBounds_toArray, List.set_cons_succ, List.set_cons_zero]
    refine WT.take 4 (v := .slice none 0 0) (by simp only [List.getElem?_toArray, List.getElem?_cons_succ, List.getElem?_cons_zero]; rfl) (by kernel_rfl) (by exact fun _ _ _ h => h) (by rfl) (by rintro w ⟨C1, C2, C3⟩; exact rn_load1 (by kernel_rfl) (by rfl) C3) HS.out ?_
    simp only [Nat.reduceAdd, Nat.zero_add, Act.put, List.setIfInBounds_toArray, List.set_cons_succ, List.set_cons_zero]
    refine WT.take 5 (v := .int .i64 0) (by simp only [List.getElem?_toArray, List.getElem?_cons_succ, List.getElem?_cons_zero]; rfl) (by kernel_rfl) (by exact fun _ _ _ h => h) (by rfl) (by rintro w ⟨C1, C2, C3⟩; exact by go_simp; first | done | rfl) HS.out ?_
    simp only [Nat.reduceAdd, Nat.zero_add, Act.put, List.setIfInBounds_toArray, List.set_cons_succ, List.set_cons_zero]
    refine WT.take 6 (v := .bool true) (by simp only [List.getElem?_toArray, List.getElem?_cons_succ, List.getElem?_cons_zero]; rfl) (by kernel_rfl) (by exact fun _ _ _ h => h) (by rfl) (by rintro w ⟨C1, C2, C3⟩; exact by go_simp; first | done | rfl) HS.out ?_
    simp only [Nat.reduceAdd, Nat.zero_add, Act.put, List.setIfInBounds_toArray, List.set_cons_succ, List.set_cons_zero]
    refine WT.stop (by kernel_rfl) ?_
    refine WP.onlySkipE 7 (by simp only [List.getElem?_toArray, List.getElem?_cons_succ, List.getElem?_cons_zero]; rfl) (by kernel_rfl) (by rfl) (re_store (v := .bool true) (n := 1) (by kernel_rfl) (by rfl) (by rfl) ((Keeps.refl Nb W).drew.nb (KW.out.nb BR.out)) (by rfl) (by simp [Value.cells]) (by simp [Value.cells, Value.oneCell'])) ?_
    intro wg sg
    simp only [Nat.reduceAdd, Nat.zero_add, Act.put, List.setIfInBounds_toArray, List.set_cons_succ, List.set_cons_zero]
    refine WP.done (by kernel_rfl) ?_
    have hgr : gr < w6.heap.size := lt_of_block (K36.out.nb BR.out)
    have E1 := Lib.hid (sg.k.at ((Keeps.refl Nb W).drew.nb HD.out) (fun e => by have : w6.heap.size = gr := e; omega))
    have ER : Hid (wg.heap[gr]? = some (.cells #[.bool true] 4 (0, 0))) := sg.blk
    have KF : Hid (Keeps Nb w wg) := (KX.out.trans_nb (Keeps.refl Nb W).drew).trans sg.k (fun j hj e => by have : j = gr := e; have := GR.out; omega)
    clear sg HS HSS
    go_wp2
    have kp := keeps_putObj wg w6.heap.size (.deferred none)
    have hc5 : (wg.putObj w6.heap.size (.deferred none)).cell? ⟨gr, 0, none⟩ = some (.bool true) := by rw [cell_of_block (kp.at ER.out (fun e => by have : gr = w6.heap.size := e; omega))]; rfl
    refine ⟨by simp, .inl ⟨_, _, rfl, run_takeDeferred E1.out, ?_⟩⟩
    refine ⟨.bool true, by simp [results, Try.f52, go_sem, hc5], rfl, ?_⟩
    have z1 : w.heap.size ≤ w6.heap.size := by have := K3.out.size; have := K36.out.size; omega
    exact KF.out.trans kp (fun j hj e => by have : j = w6.heap.size := e; omega)
set_option maxRecDepth 100000 in
set_option maxHeartbeats 4000000 in
theorem nothing_nul (h : NulD w v) : Calls Try.prog 28 #[v] w fun e w' => e = .returned (.bool true) ∧ Keeps Nb w w' := by
  have hb91 : ∀ W : World, (Instr.build 91 #[]).run Try.prog W = .ok (.agg #[.slice none 0 0, .slice none 0 0, .slice none 0 0, .slice none 0 0, .int .i64 0, .int .i64 0, .int .i64 0, .int .i64 0, .bool false, .int .i64 0]) W := fun _ => by kernel_rfl
  have HN := Lib.hid h
  have HK := Lib.hid (Keeps.refl Nb w)
  clear h
  go_enter Try.func28, Try.ntmps28
  go_wp2_with fail
  refine (fuse_nul HN.out 1).mono ?_
  rintro _ w1 ⟨⟨r1, rfl⟩, kk⟩
  replace HN := Lib.hid (HN.out.nb kk)
  replace HK := Lib.hid (HK.out.trans_nb kk)
  clear kk
  go_wp2_with fail
  refine (read_nul HN.out _).mono ?_
  rintro _ w2 ⟨rfl, kk⟩
  replace HN := Lib.hid (HN.out.nb kk)
  replace HK := Lib.hid (HK.out.trans_nb kk)
  clear kk
  go_wp2_with fail
  refine (lasts_nul HN.out _).mono ?_
  rintro _ w3 ⟨rfl, kk⟩
  replace HN := Lib.hid (HN.out.nb kk)
  replace HK := Lib.hid (HK.out.trans_nb kk)
  clear kk
  go_wp2_with fail
  refine (make_nul HN.out _).mono ?_
  rintro _ w4 ⟨rfl, kk⟩
  replace HN := Lib.hid (HN.out.nb kk)
  replace HK := Lib.hid (HK.out.trans_nb kk)
  clear kk
  go_wp2_with fail
  refine (num_at 1 w4).mono ?_; rintro _ _ ⟨rfl, rfl⟩
  go_wp2_with fail
  refine (app_nul HN.out _ none 0 0).mono ?_
  rintro _ w5 ⟨rfl, kk⟩
  replace HN := Lib.hid (HN.out.nb kk)
  replace HK := Lib.hid (HK.out.trans_nb kk)
  clear kk
  go_wp2_with fail
  refine (num_at 1 w5).mono ?_; rintro _ _ ⟨rfl, rfl⟩
  go_wp2_with fail
  refine (sync_nul HN.out _).mono ?_
  rintro _ w6 ⟨rfl, kk⟩
  replace HN := Lib.hid (HN.out.nb kk)
  replace HK := Lib.hid (HK.out.trans_nb kk)
  clear kk
  go_wp2_with fail
  refine (num_at 1 w6).mono ?_; rintro _ _ ⟨rfl, rfl⟩
  go_wp2_with fail
  refine (cut_nul HN.out _ _).mono ?_
  rintro _ w7 ⟨rfl, kk⟩
  replace HN := Lib.hid (HN.out.nb kk)
  replace HK := Lib.hid (HK.out.trans_nb kk)
  clear kk
  go_wp2_with fail
  refine (num_at 1 w7).mono ?_; rintro _ _ ⟨rfl, rfl⟩
  go_wp2_with fail
  refine (ren_nul HN.out _ _).mono ?_
  rintro _ w8 ⟨rfl, kk⟩
  replace HN := Lib.hid (HN.out.nb kk)
  replace HK := Lib.hid (HK.out.trans_nb kk)
  clear kk
  go_wp2_with fail
  refine (num_at 1 w8).mono ?_; rintro _ _ ⟨rfl, rfl⟩
  go_wp2_with fail
  refine (rem_nul HN.out _).mono ?_
  rintro _ w9 ⟨rfl, kk⟩
  replace HN := Lib.hid (HN.out.nb kk)
  replace HK := Lib.hid (HK.out.trans_nb kk)
  clear kk
  go_wp2_with fail
  refine (num_at 1 w9).mono ?_; rintro _ _ ⟨rfl, rfl⟩
  go_wp2_with fail
  refine (sdir_nul HN.out).mono ?_
  rintro _ w10 ⟨rfl, kk⟩
  replace HN := Lib.hid (HN.out.nb kk)
  replace HK := Lib.hid (HK.out.trans_nb kk)
  clear kk
  go_wp2_with fail
  refine (num_at 1 w10).mono ?_; rintro _ _ ⟨rfl, rfl⟩
  go_wp2_with fail
  refine (lay_nul HN.out _ _).mono ?_
  rintro _ w11 ⟨rfl, kk⟩
  replace HN := Lib.hid (HN.out.nb kk)
  replace HK := Lib.hid (HK.out.trans_nb kk)
  clear kk
  go_wp2_with fail
  refine (num_at 1 w11).mono ?_; rintro _ _ ⟨rfl, rfl⟩
  go_wp2_with fail
  refine (num_at 1 w11).mono ?_; rintro _ _ ⟨rfl, rfl⟩
  go_wp2_with fail
  refine (num_at 1 w11).mono ?_; rintro _ _ ⟨rfl, rfl⟩
  go_wp2_with fail
  refine (pending_nul HN.out).mono ?_
  rintro _ w12 ⟨rfl, kk⟩
  replace HN := Lib.hid (HN.out.nb kk)
  replace HK := Lib.hid (HK.out.trans_nb kk)
  clear kk
  go_wp2_with fail
  refine (room_nul HN.out).mono ?_
  rintro _ w13 ⟨rfl, kk⟩
  replace HN := Lib.hid (HN.out.nb kk)
  replace HK := Lib.hid (HK.out.trans_nb kk)
  clear kk
  go_wp2_with fail
  refine (dead_nul HN.out).mono ?_
  rintro _ w14 ⟨rfl, kk⟩
  replace HN := Lib.hid (HN.out.nb kk)
  replace HK := Lib.hid (HK.out.trans_nb kk)
  clear kk
  go_wp2_with fail
  refine (changes_nul HN.out).mono ?_
  rintro _ w15 ⟨rfl, kk⟩
  replace HN := Lib.hid (HN.out.nb kk)
  replace HK := Lib.hid (HK.out.trans_nb kk)
  clear kk
  go_wp2_with (first | go_skip | (with_reducible refine stop_load (t := 72) ?_) | (with_reducible refine stop_load (t := 61) ?_) | (with_reducible refine stop_alloc ?_) | (with_reducible refine stop_store ?_) | (with_reducible refine stop_makeMap ?_) | (with_reducible refine stop_rangem ?_) | (with_reducible refine stop_next ?_) | (with_reducible refine stop_entry ?_) | (with_reducible refine stop_buildSlice ?_) | (with_reducible refine stop_app ?_) | (with_reducible refine stop_mapUpdate ?_) | (with_reducible refine stop_lookup ?_) | (with_reducible refine stop_delete ?_) | (with_reducible refine stop_box ?_))
  refine at_out (wpList_valE rfl (re_box (t := 91) (v := .agg #[.slice none 0 0, .slice none 0 0, .slice none 0 0, .slice none 0 0, .int .i64 0, .int .i64 0, .int .i64 0, .int .i64 0, .bool false, .int .i64 0]) (by rfl)) ?_)
  rintro _ w16 ⟨q, rfl, n16⟩
  simp only [Nat.reduceAdd, Nat.zero_add, Act.put, List.setIfInBounds_toArray, List.set_cons_succ, List.set_cons_zero]
  have HQ := Lib.hid n16.blk
  replace HN := Lib.hid (HN.out.nb n16.k)
  replace HK := Lib.hid (HK.out.trans_nb n16.k)
  clear n16
  go_wp2_with fail
  refine (once_nul HN.out q _ HQ.out (by rfl)).mono ?_
  rintro _ w17 ⟨rfl, kk⟩
  replace HN := Lib.hid (HN.out.nb kk)
  replace HK := Lib.hid (HK.out.trans_nb kk)
  clear kk
  go_wp2_with (first | go_skip | (with_reducible refine stop_load (t := 72) ?_) | (with_reducible refine stop_load (t := 61) ?_) | (with_reducible refine stop_alloc ?_) | (with_reducible refine stop_store ?_) | (with_reducible refine stop_makeMap ?_) | (with_reducible refine stop_rangem ?_) | (with_reducible refine stop_next ?_) | (with_reducible refine stop_entry ?_) | (with_reducible refine stop_buildSlice ?_) | (with_reducible refine stop_app ?_) | (with_reducible refine stop_mapUpdate ?_) | (with_reducible refine stop_lookup ?_) | (with_reducible refine stop_delete ?_) | (with_reducible refine stop_box ?_))
  refine at_out (wpList_valE rfl (re_buildSlice el32 [.int .i64 1] rfl (by simp [List.range'_succ]; first | done | rfl) (by simp [Value.cells]) (by simp)) ?_)
  rintro _ w18 ⟨g18, rfl, n18⟩
  simp only [Nat.reduceAdd, Nat.zero_add, Act.put, List.setIfInBounds_toArray, List.set_cons_succ, List.set_cons_zero]
  replace HN := Lib.hid (HN.out.nb n18.k)
  replace HK := Lib.hid (HK.out.trans_nb n18.k)
  clear n18
  go_wp2_with fail
  refine (crash_nul HN.out _ _ _).mono ?_
  rintro _ w19 ⟨rfl, kk⟩
  replace HN := Lib.hid (HN.out.nb kk)
  replace HK := Lib.hid (HK.out.trans_nb kk)
  clear kk
  go_wp2_with fail
  refine (copy_nul HN.out).mono ?_
  rintro _ w20 ⟨rfl, kk⟩
  replace HN := Lib.hid (HN.out.nb kk)
  replace HK := Lib.hid (HK.out.trans_nb kk)
  clear kk
  go_wp2
  go_ret
  exact ⟨rfl, HK.out⟩
end
end Go.Proofs.Ytgpecnihjjnkeaa
