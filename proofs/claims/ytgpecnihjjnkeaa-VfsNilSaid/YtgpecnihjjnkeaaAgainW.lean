/- again, and the picks of a loss of power. -/
import Derived.Test.YtgpecnihjjnkeaaCopyW
set_option linter.unusedVariables false
set_option linter.unusedSimpArgs false
namespace Go.Vfs
open Go.Lk Go.RowKit
theorem mnB_size {s : ByteArray} (h : mnB s = true) : 1 ≤ s.size ∧ s.size ≤ 32 := by
  unfold mnB at h
  simp only [Bool.and_eq_true, decide_eq_true_eq] at h
  exact h.2
theorem mnB_max {s : ByteArray} (h : mnB s = true) : s.size ≤ maxLen := by have := mnB_size h; unfold maxLen; omega
/-- The i-th pick. -/
def pkn (zs : List Int) (i : Nat) : Nat := (zs.getD i 0).toNat
def ren1 (L : List (ByteArray × Nat)) (s t : ByteArray) : Option Nat → List (ByteArray × Nat)
  | none => L
  | some b => fput (fdel L s) t b
/-- A change is done to the directory that lasts, if it can be. -/
def againL (L : List (ByteArray × Nat)) (s : Stp) : List (ByteArray × Nat) :=
  if s.act = 0 then (if (flook L s.name).isSome then L else fput L s.name (s.f.getD 0))
  else if s.act = 1 then ren1 L s.name s.to (flook L s.name)
  else fdel L s.name
theorem sget_isSome (l : List (ByteArray × Nat)) (s : ByteArray) : (sget (vals l) s).isSome = (flook l s).isSome := by
  unfold sget flook vals
  induction l with
  | nil => rfl
  | cons p l ih =>
    rw [List.map_cons, List.find?_cons, List.find?_cons]
    by_cases h : p.1 = s
    · simp [h]
    · simp only [h, decide_false]; exact ih
end Go.Vfs
namespace Go.Proofs.Ytgpecnihjjnkeaa
open Go.RowKit Go.Lk Go.Vfs
set_option maxHeartbeats 4000000 in
set_option maxRecDepth 100000 in
theorem again_at (d m1 m2 : Nat) (sv : Value) (D : Dk) (s : Stp) (w : World) (h : w.heap[d]? = some (.cells (dcs m1 m2 sv D) 61 (0, 0))) (hm : SMap w m2 (vals D.lasting)) (hs : GoodS s) :
    Calls Try.prog 48 #[.pointer (some ⟨d, 0, none⟩), .agg (stp s).toArray] w fun e w' => (∃ v, e = .returned v) ∧ SMap w' m2 (vals (againL D.lasting s)) ∧ Keeps (· = m2) w w' := by
  have HM := Lib.hid hm
  have HN : Hid (s.name.size ≤ maxLen) := by rcases hs with ⟨-, h2, -⟩ | ⟨-, h2, -⟩ | ⟨-, h2, -⟩ <;> exact mnB_max h2
  have HD := Lib.hid h
  have hdm : ¬ d = m2 := by rintro rfl; obtain ⟨es, cl, q, -⟩ := hm; rw [h] at q; cases q
  clear h hm
  go_enter Try.func48, Try.ntmps48
  go_wp2_with (first | go_skip | (with_reducible refine stop_load (t := 72) ?_) | (with_reducible refine stop_load (t := 61) ?_) | (with_reducible refine stop_alloc ?_) | (with_reducible refine stop_store ?_) | (with_reducible refine stop_makeMap ?_) | (with_reducible refine stop_rangem ?_) | (with_reducible refine stop_next ?_) | (with_reducible refine stop_entry ?_) | (with_reducible refine stop_buildSlice ?_) | (with_reducible refine stop_app ?_) | (with_reducible refine stop_mapUpdate ?_) | (with_reducible refine stop_lookup ?_) | (with_reducible refine stop_delete ?_) | (with_reducible refine stop_box ?_))
  refine at_out (vbox (by rfl) ?_)
  intro g w1 n1
  simp only [Nat.reduceAdd, Nat.zero_add, Act.put, List.setIfInBounds_toArray, List.set_cons_succ, List.set_cons_zero]
  have D1 := n1.k.nb HD.out
  have c1 : w1.cell? ⟨d, 1, none⟩ = some (.map (some m2)) := (cell_of_block D1).trans rfl
  have e0 : w1.cell? ⟨g, 0, none⟩ = some (.int .i64 (s.act : Nat)) := (cell_of_block n1.blk).trans rfl
  have e1 : w1.cell? ⟨g, 1, none⟩ = some (.string s.name) := (cell_of_block n1.blk).trans rfl
  have e2 : w1.cell? ⟨g, 2, none⟩ = some (.string s.to) := (cell_of_block n1.blk).trans rfl
  have e3 : w1.cell? ⟨g, 3, none⟩ = some (pk s.f) := (cell_of_block n1.blk).trans (by rw [← ptr_pk]; rfl)
  have M1 := Lib.hid (HM.out.nb n1.k)
  have K1 := Lib.hid n1.k
  have B1 := Lib.hid n1.blk
  have hgm : Hid (¬ g = m2) := fun e => by obtain ⟨es, cl, q, -⟩ := M1.out; rw [← e, B1.out] at q; cases q
  clear n1 D1
  go_wp2_with (first | go_skip | (with_reducible refine stop_load (t := 72) ?_) | (with_reducible refine stop_load (t := 61) ?_) | (with_reducible refine stop_alloc ?_) | (with_reducible refine stop_store ?_) | (with_reducible refine stop_makeMap ?_) | (with_reducible refine stop_rangem ?_) | (with_reducible refine stop_next ?_) | (with_reducible refine stop_entry ?_) | (with_reducible refine stop_buildSlice ?_) | (with_reducible refine stop_app ?_) | (with_reducible refine stop_mapUpdate ?_) | (with_reducible refine stop_lookup ?_) | (with_reducible refine stop_delete ?_) | (with_reducible refine stop_box ?_))
  refine at_out (wpList_val rfl (rn_slook (n := s.name) M1.out smT (zero63 _) (by rfl) (by rfl) HN.out) ?_)
  simp only [if_true, sget_vals, sget_isSome]
  obtain ⟨r, hr⟩ : ∃ r, r = flook D.lasting s.name := ⟨_, rfl⟩
  have HR := Lib.hid hr
  rw [← hr]
  clear hr
  simp only [Nat.reduceAdd, Nat.zero_add, Act.put, List.setIfInBounds_toArray, List.set_cons_succ, List.set_cons_zero]
  rcases hs with ⟨h1, h2, b, h3⟩ | ⟨h1, h2, h4, h3⟩ | ⟨h1, h2, h3⟩
  · have HA : Hid (againL D.lasting s = if r.isSome then D.lasting else fput D.lasting s.name b) := by refine Lib.hid ?_; unfold againL; rw [if_pos h1, HR.out, h3]; rfl
    rw [h1] at e0
    rw [h3] at e3
    clear h1 h2 h3
    cases r with
    | none =>
      go_wp2_with (first | go_skip | (with_reducible refine stop_load (t := 72) ?_) | (with_reducible refine stop_load (t := 61) ?_) | (with_reducible refine stop_alloc ?_) | (with_reducible refine stop_store ?_) | (with_reducible refine stop_makeMap ?_) | (with_reducible refine stop_rangem ?_) | (with_reducible refine stop_next ?_) | (with_reducible refine stop_entry ?_) | (with_reducible refine stop_buildSlice ?_) | (with_reducible refine stop_app ?_) | (with_reducible refine stop_mapUpdate ?_) | (with_reducible refine stop_lookup ?_) | (with_reducible refine stop_delete ?_) | (with_reducible refine stop_box ?_))
      refine at_out (wpList_skipE rfl (re_sput (v := .pointer (some ⟨b, 0, none⟩)) M1.out smT (by rfl) (by rfl) (by rfl) HN.out) ?_)
      rintro w2 ⟨M2, k2⟩
      rw [sput_vals'] at M2
      have HM2 := Lib.hid M2
      have K2 := Lib.hid k2
      clear M2 k2
      simp only [Nat.reduceAdd, Nat.zero_add, Act.put, List.setIfInBounds_toArray, List.set_cons_succ, List.set_cons_zero]
      go_wp2
      go_end0
      exact ⟨⟨_, rfl⟩, by rw [HA.out]; exact HM2.out, (Keeps.of_nb K1.out).trans K2.out (fun _ _ e => e)⟩
    | some x =>
      go_wp2
      go_end0
      exact ⟨⟨_, rfl⟩, by rw [HA.out]; exact M1.out, Keeps.of_nb K1.out⟩
  · have HA : Hid (againL D.lasting s = ren1 D.lasting s.name s.to r) := by refine Lib.hid ?_; unfold againL; rw [if_neg (by omega), if_pos h1, HR.out]
    have HT := Lib.hid (mnB_max h4)
    rw [h1] at e0
    clear h1 h2 h3 h4
    cases r with
    | none =>
      go_wp2
      go_end0
      exact ⟨⟨_, rfl⟩, by rw [HA.out]; exact M1.out, Keeps.of_nb K1.out⟩
    | some x =>
      go_wp2_with (first | go_skip | (with_reducible refine stop_load (t := 72) ?_) | (with_reducible refine stop_load (t := 61) ?_) | (with_reducible refine stop_alloc ?_) | (with_reducible refine stop_store ?_) | (with_reducible refine stop_makeMap ?_) | (with_reducible refine stop_rangem ?_) | (with_reducible refine stop_next ?_) | (with_reducible refine stop_entry ?_) | (with_reducible refine stop_buildSlice ?_) | (with_reducible refine stop_app ?_) | (with_reducible refine stop_mapUpdate ?_) | (with_reducible refine stop_lookup ?_) | (with_reducible refine stop_delete ?_) | (with_reducible refine stop_box ?_))
      refine at_out (wpList_valE rfl (re_sdel (n := s.name) M1.out smT (by rfl) (by rfl) HN.out) ?_)
      rintro _ w2 ⟨M2, k2⟩
      rw [sdel_vals] at M2
      have HM2 := Lib.hid M2
      have K2 := Lib.hid k2
      have f2 : w2.cell? ⟨g, 2, none⟩ = some (.string s.to) := (cell_of_block (k2.at B1.out hgm.out)).trans rfl
      clear M2 k2
      simp only [Nat.reduceAdd, Nat.zero_add, Act.put, List.setIfInBounds_toArray, List.set_cons_succ, List.set_cons_zero]
      go_wp2_with (first | go_skip | (with_reducible refine stop_load (t := 72) ?_) | (with_reducible refine stop_load (t := 61) ?_) | (with_reducible refine stop_alloc ?_) | (with_reducible refine stop_store ?_) | (with_reducible refine stop_makeMap ?_) | (with_reducible refine stop_rangem ?_) | (with_reducible refine stop_next ?_) | (with_reducible refine stop_entry ?_) | (with_reducible refine stop_buildSlice ?_) | (with_reducible refine stop_app ?_) | (with_reducible refine stop_mapUpdate ?_) | (with_reducible refine stop_lookup ?_) | (with_reducible refine stop_delete ?_) | (with_reducible refine stop_box ?_))
      refine at_out (wpList_skipE rfl (re_sput (v := .pointer (some ⟨x, 0, none⟩)) HM2.out smT (by rfl) (by rfl) (by rfl) HT.out) ?_)
      rintro w3 ⟨M3, k3⟩
      rw [sput_vals'] at M3
      have HM3 := Lib.hid M3
      have K3 := Lib.hid k3
      clear M3 k3
      simp only [Nat.reduceAdd, Nat.zero_add, Act.put, List.setIfInBounds_toArray, List.set_cons_succ, List.set_cons_zero]
      go_wp2
      go_end0
      exact ⟨⟨_, rfl⟩, by rw [HA.out]; exact HM3.out, ((Keeps.of_nb K1.out).trans K2.out (fun _ _ e => e)).trans K3.out (fun _ _ e => e)⟩
  · have HA : Hid (againL D.lasting s = fdel D.lasting s.name) := by refine Lib.hid ?_; unfold againL; rw [if_neg (by omega), if_neg (by omega)]
    rw [h1] at e0
    clear h1 h2 h3
    have hb : ∀ x : Option Nat, ∃ y : Bool, y = x.isSome := fun x => ⟨_, rfl⟩
    go_wp2_with (first | go_skip | (with_reducible refine stop_load (t := 72) ?_) | (with_reducible refine stop_load (t := 61) ?_) | (with_reducible refine stop_alloc ?_) | (with_reducible refine stop_store ?_) | (with_reducible refine stop_makeMap ?_) | (with_reducible refine stop_rangem ?_) | (with_reducible refine stop_next ?_) | (with_reducible refine stop_entry ?_) | (with_reducible refine stop_buildSlice ?_) | (with_reducible refine stop_app ?_) | (with_reducible refine stop_mapUpdate ?_) | (with_reducible refine stop_lookup ?_) | (with_reducible refine stop_delete ?_) | (with_reducible refine stop_box ?_))
    refine at_out (wpList_valE rfl (re_sdel (n := s.name) M1.out smT (by rfl) (by rfl) HN.out) ?_)
    rintro _ w2 ⟨M2, k2⟩
    rw [sdel_vals] at M2
    have HM2 := Lib.hid M2
    have K2 := Lib.hid k2
    clear M2 k2
    simp only [Nat.reduceAdd, Nat.zero_add, Act.put, List.setIfInBounds_toArray, List.set_cons_succ, List.set_cons_zero]
    go_wp2
    go_end0
    exact ⟨⟨_, rfl⟩, by rw [HA.out]; exact HM2.out, (Keeps.of_nb K1.out).trans K2.out (fun _ _ e => e)⟩
set_option maxHeartbeats 1000000 in
/-- A pick. -/
theorem pick_at (ai ap i n c : Nat) (a : Option Addr) (zs : List Int) (w : World) (hi : w.heap[ai]? = some (.cells #[.int .i64 i] 3 (0, 0))) (hp : w.heap[ap]? = some (.cells #[.slice a n c] 32 (0, 0))) (hr : Reads .i64 w a zs) (hl : zs.length = n) (hz : ∀ z ∈ zs, -9223372036854775808 ≤ z ∧ z ≤ 9223372036854775807) (hn : n ≤ c ∧ c ≤ maxLen) (hi2 : i ≤ 100000000) :
    Calls Try.prog 47 #[.pointer (some ⟨ai, 0, none⟩), .pointer (some ⟨ap, 0, none⟩)] w fun e w' => e = .returned (.int .i64 (pkn zs i : Nat)) ∧ pkn zs i ≤ 9223372036854775807 ∧ w'.heap[ai]? = some (.cells #[.int .i64 (i + 1 : Nat)] 3 (0, 0)) ∧ Keeps (· = ai) w w' := by
  have HI := Lib.hid hi
  have c1 : w.cell? ⟨ai, 0, none⟩ = some (.int .i64 i) := cell_of_block hi
  have c2 : w.cell? ⟨ap, 0, none⟩ = some (.slice a n c) := cell_of_block hp
  obtain ⟨hn1, hn2⟩ := hn
  unfold maxLen at hn2
  by_cases hlt : i < n
  · have hil : i < zs.length := by omega
    obtain ⟨b, off, rfl, hc⟩ : ∃ b off, a = some ⟨b, off, none⟩ ∧ ∀ i, i < zs.length → w.cell? ⟨b, off + i, none⟩ = some (.int .i64 (nth zs i)) := by
      rcases hr with h | ⟨b, off, h1, h2⟩
      · subst h; simp at hil
      · exact ⟨b, off, h1, h2⟩
    have c3 := hc i hil
    have HP : Hid (pkn zs i = (nth zs i).toNat) := rfl
    have hz2 : -9223372036854775808 ≤ nth zs i ∧ nth zs i ≤ 9223372036854775807 := by rw [nth_eq hil]; exact hz _ (List.getElem_mem hil)
    generalize nth zs i = z at *
    clear hc hr hi hp hz hl hil
    obtain ⟨y, hy⟩ : ∃ y : Nat, (y : Int) = if 0 ≤ z then z else 0 := ⟨(if 0 ≤ z then z else 0).toNat, by split <;> omega⟩
    by_cases h0 : z < 0
    all_goals
      go_enter Try.func47, Try.ntmps47
      go_wp2_with (first | go_skip | (with_reducible refine stop_store ?_))
      refine at_out (wpList_skipE rfl (re_store (v := .int .i64 (i + 1 : Nat)) (n := 1) (by kernel_rfl) (by rfl) (by rfl) HI.out (by rfl) (by simp) (by simp [Value.cells, Value.oneCell'])) ?_)
      intro w2 s2
      have B2 := Lib.hid s2.blk
      have K2 := Lib.hid s2.k
      clear s2
      simp only [Nat.reduceAdd, Nat.zero_add, Act.put, List.setIfInBounds_toArray, List.set_cons_succ, List.set_cons_zero]
      go_wp2
      go_ret
    · exact ⟨by rw [HP.out, show z.toNat = 0 by omega]; rfl, by rw [HP.out]; omega, B2.out, K2.out⟩
    · exact ⟨by rw [HP.out, Int.toNat_of_nonneg (by omega)]; rfl, by rw [HP.out]; omega, B2.out, K2.out⟩
  · have HP : Hid (pkn zs i = 0) := by refine Lib.hid ?_; unfold pkn; rw [List.getD_eq_getElem?_getD, List.getElem?_eq_none (by omega)]; rfl
    clear hr hi hp hz
    go_enter Try.func47, Try.ntmps47
    go_wp2_with (first | go_skip | (with_reducible refine stop_store ?_))
    refine at_out (wpList_skipE rfl (re_store (v := .int .i64 (i + 1 : Nat)) (n := 1) (by kernel_rfl) (by rfl) (by rfl) HI.out (by rfl) (by simp) (by simp [Value.cells, Value.oneCell'])) ?_)
    intro w2 s2
    have B2 := Lib.hid s2.blk
    have K2 := Lib.hid s2.k
    clear s2
    simp only [Nat.reduceAdd, Nat.zero_add, Act.put, List.setIfInBounds_toArray, List.set_cons_succ, List.set_cons_zero]
    go_wp2
    go_ret
    exact ⟨by rw [HP.out]; rfl, by rw [HP.out]; omega, B2.out, K2.out⟩
end Go.Proofs.Ytgpecnihjjnkeaa
