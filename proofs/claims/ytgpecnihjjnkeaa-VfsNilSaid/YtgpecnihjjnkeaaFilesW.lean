/- Files: the names and the sizes, and the iterator over them. -/
import Derived.Test.YtgpecnihjjnkeaaKnownW
import Derived.OwnWalkIn
import Derived.TacticsInMore
import Derived.LoopNIn
import Derived.LoopIn
import Derived.Shelf.Abstract
set_option linter.unusedVariables false
set_option linter.unusedSimpArgs false
namespace Go.Vfs
open Go.Lk Go.RowKit
/-- A file's size. -/
def szOf (D : Dk) (fc : Nat → Fl) (s : ByteArray) : Nat := match flook D.files s with | some b => (fc b).b.length | none => 0
def szs (D : Dk) (fc : Nat → Fl) (s : ByteArray) : List Value := [.int .i64 (szOf D fc s : Nat)]
theorem szs_map (D : Dk) (fc : Nat → Fl) (l : List ByteArray) : l.flatMap (szs D fc) = l.map ((fun p : ByteArray × Nat => Value.int .i64 (p.2 : Nat)) ∘ fun s => (s, szOf D fc s)) := by
  induction l with
  | nil => rfl
  | cons x l ih => rw [List.flatMap_cons, ih]; rfl
theorem szOf_some {D : Dk} {fc : Nat → Fl} {s : ByteArray} {b : Nat} (h : flook D.files s = some b) : szOf D fc s = (fc b).b.length := by unfold szOf; rw [h]
/-- The two slices of an iterator over files. -/
def FilesAt (W : World) (lo a3 a4 : Nat) (ps : List (ByteArray × Nat)) : Prop :=
  ∃ va vc sa sc, lo ≤ a3 ∧ lo ≤ a4 ∧ W.heap[a3]? = some (.cells #[.slice va ps.length vc] 39 (0, 0)) ∧ W.heap[a4]? = some (.cells #[.slice sa ps.length sc] 32 (0, 0)) ∧
    Has W va (ps.map fun p => .string p.1) ∧ Has W sa (ps.map fun p => .int .i64 (p.2 : Nat)) ∧ (∀ b off, va = some ⟨b, off, none⟩ → lo ≤ b ∧ b < W.heap.size) ∧ (∀ b off, sa = some ⟨b, off, none⟩ → ps ≠ [] → lo ≤ b ∧ b < W.heap.size) ∧
    ps.length ≤ vc ∧ vc ≤ maxLen ∧ ps.length ≤ sc ∧ sc ≤ maxLen
theorem FilesAt.keeps {W W' : World} {lo a3 a4 : Nat} {ps : List (ByteArray × Nat)} {S : Nat → Prop} (h : FilesAt W lo a3 a4 ps) (hk : Keeps S W W') (hS : ∀ b, lo ≤ b → b < W.heap.size → ¬ S b) : FilesAt W' lo a3 a4 ps := by
  obtain ⟨va, vc, sa, sc, h1, h2, h3, h4, h5, h6, h7, h8, h9⟩ := h
  exact ⟨va, vc, sa, sc, h1, h2, hk.at h3 (hS _ h1 (lt_of_block h3)), hk.at h4 (hS _ h2 (lt_of_block h4)), h5.keeps hk (fun b off e _ => hS b (h7 b off e).1 (h7 b off e).2), h6.keeps hk (fun b off e hz => hS b (h8 b off e (fun e => hz (by rw [e]; rfl))).1 (h8 b off e (fun e => hz (by rw [e]; rfl))).2),
    fun b off e => ⟨(h7 b off e).1, Nat.lt_of_lt_of_le (h7 b off e).2 hk.size⟩, fun b off e hz => ⟨(h8 b off e hz).1, Nat.lt_of_lt_of_le (h8 b off e hz).2 hk.size⟩, h9⟩
end Go.Vfs
namespace Go.Proofs.Ytgpecnihjjnkeaa
open Go.RowKit Go.Lk Go.Vfs
/-- What Files answers. -/
def FilesD (lo : Nat) (ps : List (ByteArray × Nat)) (w : World) (e : Ending) (w' : World) : Prop :=
  ∃ a3 a4, e = .returned (.func (.func 51) #[] #[.pointer (some ⟨a3, 0, none⟩), .pointer (some ⟨a4, 0, none⟩)]) ∧ FilesAt w' lo a3 a4 ps ∧ Keeps Nb w w'
set_option maxHeartbeats 4000000 in
theorem files_at (d : Nat) (D : Dk) (F R : Nat → Prop) (fc : Nat → Fl) (w : World) (h : DiskAt w d F R D fc) :
    Calls Try.prog 24 #[.pointer (some ⟨d, 0, none⟩)] w fun e w' => ∃ ns : List ByteArray, ns.Perm (D.files.map Prod.fst) ∧ FilesD w.heap.size (ns.map fun s => (s, szOf D fc s)) w e w' := by
  have H := Lib.hid h
  clear h
  go_enter Try.func24, Try.ntmps24
  go_wp2_with (first | go_skip | (with_reducible refine stop_load (t := 72) ?_) | (with_reducible refine stop_load (t := 61) ?_) | (with_reducible refine stop_alloc ?_) | (with_reducible refine stop_store ?_) | (with_reducible refine stop_makeMap ?_) | (with_reducible refine stop_rangem ?_) | (with_reducible refine stop_next ?_) | (with_reducible refine stop_entry ?_) | (with_reducible refine stop_buildSlice ?_) | (with_reducible refine stop_app ?_) | (with_reducible refine stop_mapUpdate ?_) | (with_reducible refine stop_lookup ?_) | (with_reducible refine stop_delete ?_) | (with_reducible refine stop_box ?_))
  refine at_out (valloc (z := .slice none 0 0) (by kernel_rfl) ?_)
  intro a3 w1 n1
  simp only [Nat.reduceAdd, Nat.zero_add, Act.put, List.setIfInBounds_toArray, List.set_cons_succ, List.set_cons_zero]
  go_wp2_with (first | go_skip | (with_reducible refine stop_load (t := 72) ?_) | (with_reducible refine stop_load (t := 61) ?_) | (with_reducible refine stop_alloc ?_) | (with_reducible refine stop_store ?_) | (with_reducible refine stop_makeMap ?_) | (with_reducible refine stop_rangem ?_) | (with_reducible refine stop_next ?_) | (with_reducible refine stop_entry ?_) | (with_reducible refine stop_buildSlice ?_) | (with_reducible refine stop_app ?_) | (with_reducible refine stop_mapUpdate ?_) | (with_reducible refine stop_lookup ?_) | (with_reducible refine stop_delete ?_) | (with_reducible refine stop_box ?_))
  refine at_out (valloc (z := .slice none 0 0) (by kernel_rfl) ?_)
  intro a4 w2 n2
  simp only [Nat.reduceAdd, Nat.zero_add, Act.put, List.setIfInBounds_toArray, List.set_cons_succ, List.set_cons_zero]
  have A3 := Lib.hid (n2.k.nb n1.blk)
  have A4 := Lib.hid n2.blk
  have G3 : Hid (w.heap.size ≤ a3) := n1.ge
  have G4 : Hid (w1.heap.size ≤ a4) := n2.ge
  have K2 : Hid (Keeps Nb w w2) := n1.k.trans_nb n2.k
  have L1 : Hid (a3 < w1.heap.size) := n1.lt
  have Z1 : Hid (w.heap.size ≤ w1.heap.size) := n1.k.size
  clear n1 n2
  have HD := Lib.hid (H.out.nb K2.out)
  obtain ⟨⟨m1, m2, sv, h3, h4, h5, h6, h7, h8, h9⟩, g1, g2, g3, g3b, g4, g5, g6⟩ := HD.out
  have H3 := Lib.hid h3
  have H4 := Lib.hid h4
  have NU := Lib.hid g3
  have NM := Lib.hid g3b
  have C0 : w2.cell? ⟨d, 0, none⟩ = some (.map (some m1)) := (cell_of_block h3).trans rfl
  clear h3 h4 h5 h6 h7 h8 h9 g1 g2 g3 g3b g4 g5 g6
  have SA := Lib.hid (sorted_at m1 (vals D.files) w2 H4.out (by rw [vals_len]; exact NU.out.nf))
  go_wp2_with fail
  refine (there_at d m1 (.map (some m2)) sv [] w2 C0).mono ?_
  rintro _ _ ⟨rfl, rfl⟩
  go_wp2_with fail
  refine (keys_at m1 w2).mono ?_
  rintro _ _ ⟨rfl, rfl⟩
  go_wp2_with fail
  refine SA.out.mono ?_
  rintro _ w3 ⟨v, nms, rfl, hperm, hrow, k3⟩
  have HPERM := Lib.hid hperm
  obtain ⟨va, vc, rfl, hv1, hv2, hv3, hv4⟩ := owns_has hrow
  obtain ⟨nn, hnn⟩ : ∃ nn, nn = nms.length := ⟨_, rfl⟩
  have HNN := Lib.hid hnn
  rw [← hnn] at hv1 ⊢
  have hvm : nn ≤ vc ∧ vc ≤ 9223372036854775807 := by unfold maxLen at hv2; exact ⟨hv1, hv2⟩
  have hnx : nn ≤ 1000000 := by rw [hnn, hperm.length_eq, List.length_map, vals_len]; exact NU.out.nf
  have HV := Lib.hid hv3
  have HV4 : Hid (∀ b off, va = some ⟨b, off, none⟩ → w2.heap.size ≤ b ∧ b < w3.heap.size ∧ IsT w3 9 b) := fun b off e => ⟨(hv4 b off e).2.2.1, (hv4 b off e).2.1, (hv4 b off e).2.2.2⟩
  have K3 := Lib.hid k3
  have B3 := Lib.hid (k3.nb A3.out)
  have B4 := Lib.hid (k3.nb A4.out)
  clear hperm hrow hv1 hv2 hv3 hv4 hnn k3 C0 SA
  go_wp2_with (first | go_skip | (with_reducible refine stop_load (t := 72) ?_) | (with_reducible refine stop_load (t := 61) ?_) | (with_reducible refine stop_alloc ?_) | (with_reducible refine stop_store ?_) | (with_reducible refine stop_makeMap ?_) | (with_reducible refine stop_rangem ?_) | (with_reducible refine stop_next ?_) | (with_reducible refine stop_entry ?_) | (with_reducible refine stop_buildSlice ?_) | (with_reducible refine stop_app ?_) | (with_reducible refine stop_mapUpdate ?_) | (with_reducible refine stop_lookup ?_) | (with_reducible refine stop_delete ?_) | (with_reducible refine stop_box ?_))
  refine at_out (wpList_skipE rfl (re_store (v := .slice va nn vc) (n := 1) (by kernel_rfl) (by rfl) (by rfl) B3.out (by rfl) (by simp [Value.cells]) (by simp [Value.cells, Value.oneCell'])) ?_)
  intro w4 s4
  simp only [Nat.reduceAdd, Nat.zero_add, Act.put, List.setIfInBounds_toArray, List.set_cons_succ, List.set_cons_zero]
  have A3w : Hid (w4.heap[a3]? = some (.cells #[.slice va nn vc] 39 (0, 0))) := s4.blk
  have K34 : Hid (Keeps (· = a3) w3 w4) := s4.k
  have HNE : Hid (¬ a3 = a4) := fun e => by have := L1.out; have := G4.out; omega
  have A4w : Hid (w4.heap[a4]? = some (.cells #[.slice none 0 0] 32 (0, 0))) := s4.k.at B4.out (fun e => HNE.out e.symm)
  have K4 : Hid (Keeps Nb w w4) := (K2.out.trans_nb K3.out).trans s4.k (fun i hi e => by have : i = a3 := e; have := G3.out; omega)
  have HVw : Hid (Has w4 va (nms.map Value.string)) := HV.out.keeps s4.k (fun b off e _ e2 => (HV4.out b off e).2.2.ne ⟨_, _, B3.out⟩ (by decide) e2)
  have HVT : Hid (∀ b off, va = some ⟨b, off, none⟩ → w.heap.size ≤ b ∧ b < w4.heap.size ∧ IsT w4 9 b) := fun b off e => ⟨by have := (HV4.out b off e).1; have := K2.out.size; omega, Nat.lt_of_lt_of_le (HV4.out b off e).2.1 s4.k.size, (HV4.out b off e).2.2.keeps s4.k (fun e2 => (HV4.out b off e).2.2.ne ⟨_, _, B3.out⟩ (by decide) e2)⟩
  clear s4 B3 B4 A3 A4 HV HV4 K34
  have c3 : w4.cell? ⟨a3, 0, none⟩ = some (.slice va nn vc) := (cell_of_block A3w.out).trans rfl
  go_wp2
  clear c3
  go_loopw [17] (fun i wr => ∃ (k : Nat) (sv : Value), k ≤ nn ∧ i = .int .i64 k ∧ wr.heap[a4]? = some (.cells #[sv] 32 (0, 0)) ∧ RowS wr (fun x => w.heap.size ≤ x ∧ x < wr.heap.size) (fun _ => False) 3 1 sv k ((nms.take k).flatMap (szs D fc)) ∧ wr.heap[a3]? = some (.cells #[.slice va nn vc] 39 (0, 0)) ∧ Has wr va (nms.map Value.string) ∧ (∀ b off, va = some ⟨b, off, none⟩ → w.heap.size ≤ b ∧ b < wr.heap.size ∧ IsT wr 9 b) ∧ Keeps Nb w wr) (fun i _ => nn - (intOf i).toNat)
  case atStart => exact ⟨0, _, Nat.zero_le _, rfl, A4w.out, RowS.nil _ _ _ _ _, A3w.out, HVw.out, HVT.out, K4.out⟩
  case round =>
    obtain ⟨k, sv2, hk, rfl, hb4, hr, hb3, hvr, hvt, hkw⟩ := hrel
    have HB4 := Lib.hid hb4
    have HR := Lib.hid hr
    have HB3 := Lib.hid hb3
    have HVR := Lib.hid hvr
    have HVTR := Lib.hid hvt
    have HKW := Lib.hid hkw
    clear hb4 hr hb3 hvr hvt hkw
    by_cases hlt : k < nn
    · have i1 : (k : Int) < (nn : Int) := by omega
      obtain ⟨s, hs⟩ : ∃ s, nms[k]? = some s := ⟨_, List.getElem?_eq_getElem (by rw [← HNN.out]; exact hlt)⟩
      have HS0 := Lib.hid hs
      have hvr := HVR.out
      obtain ⟨b9, o9, rfl⟩ : ∃ b off, va = some ⟨b, off, none⟩ := by
        rcases hvr with h | ⟨b, off, h, -⟩
        · exfalso; have : nms = [] := List.map_eq_nil_iff.1 h; rw [this] at hs; cases hs
        · exact ⟨b, off, h⟩
      have c9 : wr.cell? ⟨b9, o9 + k, none⟩ = some (.string s) := by
        rcases hvr with h | ⟨b, off, h, hc⟩
        · exfalso; have : nms = [] := List.map_eq_nil_iff.1 h; rw [this] at hs; cases hs
        · cases h; exact hc k _ (by rw [List.getElem?_map, hs]; rfl)
      have hin : s ∈ D.files.map Prod.fst := by
        have h1 := HPERM.out.mem_iff.1 (List.mem_of_getElem? hs)
        simpa [vals, List.map_map] using h1
      obtain ⟨b, hfl⟩ := flook_in hin
      have HFL := Lib.hid hfl
      have hsm : Hid (s.size ≤ maxLen) := by
        obtain ⟨p, hp, rfl⟩ := List.mem_map.1 hin
        exact mnB_max (NM.out.files p hp)
      clear hs hin hfl
      have HDr := Lib.hid (H.out.nb HKW.out)
      obtain ⟨⟨p1, p2, pv, ph3, ph4, -⟩, -⟩ := HDr.out
      have PH3 := Lib.hid ph3
      have PH4 : Hid (SMap wr p1 (vals D.files)) := ph4
      have HG0 : Hid ((sget (vals D.files) s).getD (.pointer none) = .pointer (some ⟨b, 0, none⟩)) := by refine Lib.hid ?_; rw [sget_vals, HFL.out]; rfl
      clear ph3 ph4
      obtain ⟨⟨fv, z1, z2, z3, z4⟩, z5⟩ := HDr.out.file b (.inl ⟨_, flook_some HFL.out, rfl⟩)
      obtain ⟨fa, fcap, rfl, -⟩ := z2.rows
      obtain ⟨m, hm⟩ : ∃ m, m = (fc b).b.length := ⟨_, rfl⟩
      have HM := Lib.hid hm
      rw [← hm] at z1 z4
      have Z1' := Lib.hid z1
      clear z1 z2 z3 z5 hm
      go_wp2
      have HS : Hid ((fun u : World => u.cell? ⟨a4, 0, none⟩ = some sv2 ∧ u.cell? ⟨d, 0, none⟩ = some (.map (some p1)) ∧ SMap u p1 (vals D.files) ∧ u.cell? ⟨b, 0, none⟩ = some (.slice fa m fcap)) wr.drew) := ⟨(cell_of_block HB4.out).trans rfl, (cell_of_block PH3.out).trans rfl, PH4.out, (cell_of_block Z1'.out).trans rfl⟩
      refine WT.region (fun u : World => u.cell? ⟨a4, 0, none⟩ = some sv2 ∧ u.cell? ⟨d, 0, none⟩ = some (.map (some p1)) ∧ SMap u p1 (vals D.files) ∧ u.cell? ⟨b, 0, none⟩ = some (.slice fa m fcap)) 13 14 [0, 1, 2, 3, 4, 5, 6, 7, 8, 9, 10, 11, 12, 13] (by kernel_rfl) rfl ?_
      refine WT.take 0 (v := sv2) (by simp only [List.getElem?_toArray, List.getElem?_cons_succ, List.getElem?_cons_zero]; rfl) (by kernel_rfl) (by exact fun _ _ _ h => h) (by rfl) (by rintro w ⟨C1, C2, C3, C4⟩; exact rn_load1 (by kernel_rfl) (by rfl) C1) HS.out ?_
      simp only [Nat.reduceAdd, Nat.zero_add, Act.put, List.setIfInBounds_toArray, List.set_cons_succ, List.set_cons_zero]
      refine WT.take 1 (v := _) (by simp only [List.getElem?_toArray, List.getElem?_cons_succ, List.getElem?_cons_zero]; rfl) (by kernel_rfl) (by exact fun _ _ _ h => h) (by rfl) (by rintro w ⟨C1, C2, C3, C4⟩; exact by go_simp; with_reducible rfl) HS.out ?_
      simp only [Nat.reduceAdd, Nat.zero_add, Act.put, List.setIfInBounds_toArray, List.set_cons_succ, List.set_cons_zero]
      refine WT.take 2 (v := _) (by simp only [List.getElem?_toArray, List.getElem?_cons_succ, List.getElem?_cons_zero]; rfl) (by kernel_rfl) (by exact fun _ _ _ h => h) (by rfl) (by rintro w ⟨C1, C2, C3, C4⟩; exact by go_simp; with_reducible rfl) HS.out ?_
      simp only [Nat.reduceAdd, Nat.zero_add, Act.put, List.setIfInBounds_toArray, List.set_cons_succ, List.set_cons_zero]
      refine WT.take 3 (v := _) (by simp only [List.getElem?_toArray, List.getElem?_cons_succ, List.getElem?_cons_zero]; rfl) (by kernel_rfl) (by exact fun _ _ _ h => h) (by rfl) (by rintro w ⟨C1, C2, C3, C4⟩; exact by go_simp; with_reducible rfl) HS.out ?_
      simp only [Nat.reduceAdd, Nat.zero_add, Act.put, List.setIfInBounds_toArray, List.set_cons_succ, List.set_cons_zero]
      refine WT.take 4 (v := .map (some p1)) (by simp only [List.getElem?_toArray, List.getElem?_cons_succ, List.getElem?_cons_zero]; rfl) (by kernel_rfl) (by exact fun _ _ _ h => h) (by rfl) (by rintro w ⟨C1, C2, C3, C4⟩; exact rn_load1 (by kernel_rfl) (by rfl) C2) HS.out ?_
      simp only [Nat.reduceAdd, Nat.zero_add, Act.put, List.setIfInBounds_toArray, List.set_cons_succ, List.set_cons_zero]
      refine WT.take 5 (v := _) (by simp only [List.getElem?_toArray, List.getElem?_cons_succ, List.getElem?_cons_zero]; rfl) (by kernel_rfl) (by exact fun _ _ _ h => h) (by rfl) (by rintro w ⟨C1, C2, C3, C4⟩; exact by go_simp; with_reducible rfl) HS.out ?_
      simp only [Nat.reduceAdd, Nat.zero_add, Act.put, List.setIfInBounds_toArray, List.set_cons_succ, List.set_cons_zero]
      refine WT.take 6 (v := .pointer (some ⟨b, 0, none⟩)) (by simp only [List.getElem?_toArray, List.getElem?_cons_succ, List.getElem?_cons_zero]; rfl) (by kernel_rfl) (by exact fun _ _ _ h => h) (by rfl) (by rintro w ⟨C1, C2, C3, C4⟩; exact HG0.out ▸ rn_slook (c := false) (n := s) C3 smT (zero63 _) (by rfl) (by rfl) hsm.out) HS.out ?_
      simp only [Nat.reduceAdd, Nat.zero_add, Act.put, List.setIfInBounds_toArray, List.set_cons_succ, List.set_cons_zero]
      refine WT.take 7 (v := _) (by simp only [List.getElem?_toArray, List.getElem?_cons_succ, List.getElem?_cons_zero]; rfl) (by kernel_rfl) (by exact fun _ _ _ h => h) (by rfl) (by rintro w ⟨C1, C2, C3, C4⟩; exact by go_simp; with_reducible rfl) HS.out ?_
      simp only [Nat.reduceAdd, Nat.zero_add, Act.put, List.setIfInBounds_toArray, List.set_cons_succ, List.set_cons_zero]
      refine WT.take 8 (v := _) (by simp only [List.getElem?_toArray, List.getElem?_cons_succ, List.getElem?_cons_zero]; rfl) (by kernel_rfl) (by exact fun _ _ _ h => h) (by rfl) (by rintro w ⟨C1, C2, C3, C4⟩; exact by go_simp; with_reducible rfl) HS.out ?_
      simp only [Nat.reduceAdd, Nat.zero_add, Act.put, List.setIfInBounds_toArray, List.set_cons_succ, List.set_cons_zero]
      refine WT.take 9 (v := .slice fa m fcap) (by simp only [List.getElem?_toArray, List.getElem?_cons_succ, List.getElem?_cons_zero]; rfl) (by kernel_rfl) (by exact fun _ _ _ h => h) (by rfl) (by rintro w ⟨C1, C2, C3, C4⟩; exact rn_load1 (by kernel_rfl) (by rfl) C4) HS.out ?_
      simp only [Nat.reduceAdd, Nat.zero_add, Act.put, List.setIfInBounds_toArray, List.set_cons_succ, List.set_cons_zero]
      refine WT.take 10 (v := .int .i64 (m : Nat)) (by simp only [List.getElem?_toArray, List.getElem?_cons_succ, List.getElem?_cons_zero]; rfl) (by kernel_rfl) (by exact fun _ _ _ h => h) (by rfl) (by rintro w ⟨C1, C2, C3, C4⟩; exact by go_simp) HS.out ?_
      simp only [Nat.reduceAdd, Nat.zero_add, Act.put, List.setIfInBounds_toArray, List.set_cons_succ, List.set_cons_zero]
      refine WT.onlyE 11 (by simp only [List.getElem?_toArray, List.getElem?_cons_succ, List.getElem?_cons_zero]; rfl) (by kernel_rfl) (by rfl) (re_buildSlice1 (v := .int .i64 (m : Nat)) el32 (by rfl) (by rfl) (by omega)) ?_
      rintro _ w5 ⟨g, rfl, ng⟩
      have k5 : Keeps Nb wr w5 := (Keeps.refl Nb wr).drew.trans_nb ng.k
      have hb5 := k5.nb HB4.out
      have hd5 := k5.nb PH3.out
      have hm5 := PH4.out.nb k5
      have hz5 := k5.nb Z1'.out
      refine ⟨⟨(cell_of_block hb5).trans rfl, (cell_of_block hd5).trans rfl, hm5, (cell_of_block hz5).trans rfl⟩, ?_⟩
      simp only [Nat.reduceAdd, Nat.zero_add, Act.put, List.setIfInBounds_toArray, List.set_cons_succ, List.set_cons_zero]
      have hr5 : RowS w5 (fun x => w.heap.size ≤ x ∧ x < w5.heap.size) (fun _ => False) 3 1 sv2 k ((nms.take k).flatMap (szs D fc)) := (HR.out.keeps k5 (fun _ _ _ e => e)).mono (fun x hx => ⟨hx.1, Nat.lt_of_lt_of_le hx.2 k5.size⟩) (fun _ h => h)
      refine WT.onlyE 12 (by simp only [List.getElem?_toArray, List.getElem?_cons_succ, List.getElem?_cons_zero]; rfl) (by kernel_rfl) (by rfl) (re_push (news := szs D fc s) el32 hr5 (by rfl) (by rfl) (by have := has_block ng.blk; rw [szs, szOf_some HFL.out, ← HM.out]; exact this) (by rfl) (by simp [szs, Value.oneCell']) (by omega) (by unfold maxLen; omega) (by omega)) ?_
      rintro sv' w6 ⟨r6, S6, k56, hS6⟩
      have hb6 := k56.at hb5 (fun e => (hS6 _ e).2.ne ⟨_, _, hb5⟩ (by decide) rfl)
      have hd6 := k56.at hd5 (fun e => (hS6 _ e).2.ne ⟨_, _, hd5⟩ (by decide) rfl)
      have hm6 := hm5.keeps k56 (fun e => by obtain ⟨es, cl, q, -⟩ := hm5; exact (hS6 _ e).2.map q rfl)
      have hz6 := k56.at hz5 (fun e => (hS6 _ e).2.ne ⟨_, _, hz5⟩ (by decide) rfl)
      refine ⟨⟨(cell_of_block hb6).trans rfl, (cell_of_block hd6).trans rfl, hm6, (cell_of_block hz6).trans rfl⟩, ?_⟩
      simp only [Nat.reduceAdd, Nat.zero_add, Act.put, List.setIfInBounds_toArray, List.set_cons_succ, List.set_cons_zero]
      refine WT.stop (by kernel_rfl) ?_
      have o6 : sv'.cells = #[sv'] ∧ sv'.oneCell' = true := by obtain ⟨-, -, a, c, rfl, -⟩ := r6; exact ⟨rfl, rfl⟩
      refine WP.onlySkipE 13 (by simp only [List.getElem?_toArray, List.getElem?_cons_succ, List.getElem?_cons_zero]; rfl) (by kernel_rfl) (by rfl) (re_store (v := sv') (n := 1) (by kernel_rfl) (by rfl) (by rfl) hb6 (by rw [o6.1]; rfl) (by simp) (by rw [o6.1]; simpa using o6.2)) ?_
      intro w7 s7
      rw [o6.1] at s7
      simp only [Nat.reduceAdd, Nat.zero_add, Act.put, List.setIfInBounds_toArray, List.set_cons_succ, List.set_cons_zero]
      refine WP.done (by kernel_rfl) ?_
      have KW : Hid (Keeps Nb w w7) := ((HKW.out.trans_nb k5).trans k56 (fun i hi e => by have := (hS6 i e).1.1; omega)).trans s7.k (fun i hi e => by have : i = a4 := e; have := G4.out; have := Z1.out; omega)
      have R7 : Hid (RowS w7 (fun x => w.heap.size ≤ x ∧ x < w7.heap.size) (fun _ => False) 3 1 sv' (k + 1) ((nms.take (k + 1)).flatMap (szs D fc))) := by
        rw [take_snocA HS0.out, List.flatMap_append, List.flatMap_singleton]
        refine (r6.keeps s7.k (fun x _ ht e => ht.ne ⟨_, _, hb6⟩ (by decide) e)).mono (fun x hx => ?_) (fun _ h => h)
        have := KW.out.size; have := HKW.out.size; have := k5.size; have := k56.size; have := s7.k.size
        rcases hx with hx | hx <;> omega
      have HVT6 : Hid (∀ b off, some ⟨b9, o9, none⟩ = some (⟨b, off, none⟩ : Addr) → w.heap.size ≤ b ∧ b < w6.heap.size ∧ IsT w6 9 b) := fun b off e => by
        obtain ⟨q1, q2, q3⟩ := HVTR.out b off e
        have q4 : IsT w5 9 b := q3.keeps k5 (fun e => e)
        exact ⟨q1, by have := k5.size; have := k56.size; omega, q4.keeps k56 (fun e => (hS6 _ e).2.ne q4 (by decide) rfl)⟩
      have HV6 : Has w6 (some ⟨b9, o9, none⟩) (nms.map Value.string) := (hvr.keeps k5 (fun _ _ _ _ e => e)).keeps k56 (fun b off e _ e2 => by
        have q4 : IsT w5 9 b := (HVTR.out b off e).2.2.keeps k5 (fun e => e)
        exact (hS6 _ e2).2.ne q4 (by decide) rfl)
      have HVT7 : Hid (∀ b off, some ⟨b9, o9, none⟩ = some (⟨b, off, none⟩ : Addr) → w.heap.size ≤ b ∧ b < w7.heap.size ∧ IsT w7 9 b) := fun b off e => by
        obtain ⟨q1, q2, q3⟩ := HVT6.out b off e
        exact ⟨q1, by have := s7.k.size; omega, q3.keeps s7.k (fun e => q3.ne ⟨_, _, hb6⟩ (by decide) e)⟩
      have HV7 : Hid (Has w7 (some ⟨b9, o9, none⟩) (nms.map Value.string)) := HV6.keeps s7.k (fun b off e _ e2 => (HVT6.out b off e).2.2.ne ⟨_, _, hb6⟩ (by decide) e2)
      have B37 : Hid (w7.heap[a3]? = some (.cells #[.slice (some ⟨b9, o9, none⟩) nn vc] 39 (0, 0))) := by
        have q := k5.nb HB3.out
        exact s7.k.at (k56.at q (fun e => (hS6 _ e).2.ne ⟨_, _, q⟩ (by decide) rfl)) HNE.out
      have B7 : Hid (w7.heap[a4]? = some (.cells #[sv'] 32 (0, 0))) := s7.blk
      clear HS s7 HV6 r6 hr5 hb5 hb6 hd5 hd6 hm5 hm6 hz5 hz6 k5 k56
      go_wp2
      go_roundw
      case rel => exact ⟨k + 1, sv', by omega, by go_num, B7.out, R7.out, B37.out, HV7.out, HVT7.out, KW.out⟩
      case measure => simp [intOf]; omega
    · have hkl : k = nn := by omega
      subst hkl
      go_wp2
      go_ret
      obtain ⟨-, -, sa, sc, rfl, j1, j2, j3, j4, -⟩ := HR.out
      have hL : (nms.map fun s => (s, szOf D fc s)).length = k := by rw [List.length_map, HNN.out]
      refine ⟨nms, ?_, a3, a4, rfl, ⟨va, vc, sa, sc, G3.out, by have := G4.out; have := Z1.out; omega, ?_, ?_, ?_, ?_, fun b off e => ⟨(HVTR.out b off e).1, (HVTR.out b off e).2.1⟩, fun b off e hz => ?_, ?_, ?_, ?_, ?_⟩, HKW.out⟩
      · have := HPERM.out; rwa [show (vals D.files).map Prod.fst = D.files.map Prod.fst by simp [vals, List.map_map, Function.comp_def]] at this
      · rw [hL]; exact HB3.out
      · rw [hL]; exact HB4.out
      · rw [List.map_map]; exact HVR.out
      · have := j3; rw [HNN.out, List.take_length] at this
        rw [List.map_map]
        rw [← szs_map]; exact this
      · have := j4 b off e (by rw [HNN.out, List.take_length, szs_map]; intro e2; exact hz (by rw [List.map_eq_nil_iff] at e2; rw [e2]; rfl))
        exact this.1.elim id (fun h => h.elim)
      · rw [hL]; exact hvm.1
      · unfold maxLen; exact hvm.2
      · rw [hL]; exact j1
      · exact j2
attribute [local go_sem] Oper.semAt_some
/-- What a round is handed. -/
def Handed (ps : List (ByteArray × Nat)) (i : Nat) (args : Array Value) (W : World) : Prop := ∃ p, ps[i]? = some p ∧ args = #[.string p.1, .int .i64 (p.2 : Nat)]
set_option maxHeartbeats 2000000 in
theorem files_iter (n : Nat) (hn : 1 ≤ n) (lo a3 a4 : Nat) (ps : List (ByteArray × Nat)) (S : Nat → Prop) (w : World) (h : FilesAt w lo a3 a4 ps) (hS : ∀ b, lo ≤ b → b < w.heap.size → ¬ S b) :
    Iter Try.prog n 51 #[.pointer (some ⟨a3, 0, none⟩), .pointer (some ⟨a4, 0, none⟩)] ps.length (Handed ps) S w := by
  intro l J Jx W kW hW2 hJ hJx hY h0
  have HF := Lib.hid (h.keeps kW (fun _ _ _ e => e))
  have HFW := Lib.hid h
  have HKW := Lib.hid kW
  have HJ := Lib.hid hJ; have HJX := Lib.hid hJx; have HY := Lib.hid hY; have H0 := Lib.hid h0; have HS := Lib.hid hS
  clear h hJ hJx hY h0 hS
  obtain ⟨va, vc, sa, sc, h1, h2, h3, h4, h5, h6, h7, h8, h9, h10, h11, h12⟩ := HFW.out
  have A3 := Lib.hid h3
  have L3 := Lib.hid h1
  have c3 : W.cell? ⟨a3, 0, none⟩ = some (.slice va ps.length vc) := (cell_of_block (kW.nb h3)).trans rfl
  have hvm : ps.length ≤ vc ∧ vc ≤ 9223372036854775807 := by unfold maxLen at h10; exact ⟨h9, h10⟩
  clear h1 h2 h3 h4 h5 h6 h7 h8 h9 h10 h11 h12
  refine callsIn_of_wp Try.func51 rfl trivial ?_ rfl
  simp only [Try.ntmps51, List.size_toArray, List.length_cons, List.length_nil, Nat.reduceAdd, Nat.reduceSub, Array.replicate_succ, Array.replicate_zero, List.push_toArray, List.append_toArray, List.nil_append, List.cons_append]
  gi_wp2
  clear c3
  gi_loopw [8] (fun i wr => ∃ k : Nat, k ≤ ps.length ∧ i = .int .i64 k ∧ J k wr ∧ Keeps S W wr) (fun i _ => ps.length - (intOf i).toNat)
  case atStart => exact ⟨0, Nat.zero_le _, rfl, H0.out, Keeps.refl _ _⟩
  case round =>
    obtain ⟨k, hk, rfl, hj, kw⟩ := hrel
    by_cases hlt : k < ps.length
    · have i1 : (k : Int) < (ps.length : Int) := by omega
      have KWr : Hid (Keeps S w wr) := (Keeps.of_nb HKW.out).trans kw (fun i _ e => e)
      obtain ⟨va', vc', sa, sc, h1, h2, h3, h4, h5, h6, h7, h8, h9, h10, h11, h12⟩ := HFW.out.keeps KWr.out HS.out
      obtain ⟨rfl, rfl⟩ : va' = va ∧ vc' = vc := by
        have q := KWr.out.at A3.out (HS.out _ L3.out (lt_of_block A3.out))
        rw [h3] at q
        simpa using q
      obtain ⟨p, hp⟩ : ∃ p, ps[k]? = some p := ⟨_, List.getElem?_eq_getElem hlt⟩
      have HP := Lib.hid hp
      have hone : ∀ {a : Option Addr} {f : ByteArray × Nat → Value}, Has wr a (ps.map f) → ∃ b off, a = some ⟨b, off, none⟩ ∧ wr.cell? ⟨b, off + k, none⟩ = some (f p) := by
        intro a f hh
        rcases hh with h | ⟨b, off, h, hc⟩
        · exfalso; have : ps = [] := List.map_eq_nil_iff.1 h; rw [this] at hp; cases hp
        · exact ⟨b, off, h, hc k _ (by rw [List.getElem?_map, hp]; rfl)⟩
      obtain ⟨b1, o1, rfl, c1⟩ := hone h5
      obtain ⟨b2, o2, rfl, c2⟩ := hone h6
      have c4 : wr.cell? ⟨a4, 0, none⟩ = some (.slice (some ⟨b2, o2, none⟩) ps.length sc) := (cell_of_block h4).trans rfl
      have hsm : ps.length ≤ sc ∧ sc ≤ 9223372036854775807 := by unfold maxLen at h12; exact ⟨h11, h12⟩
      have HJJ := Lib.hid hj
      have KW := Lib.hid kw
      obtain ⟨fn, tmps, assign, body, hy, hR⟩ := HY.out k #[.string p.1, .int .i64 (p.2 : Nat)] wr hj hlt ⟨p, hp, rfl⟩
      have HR := Lib.hid hR
      clear h1 h2 h3 h4 h5 h6 h7 h8 h9 h10 h11 h12 hone hp hj kw hR
      gi_wp2
      refine HR.out.mono ?_
      rintro e W3 (⟨rfl, hJ3, hk3⟩ | ⟨rfl, hJx3⟩)
      · have KF : Hid (Keeps S W W3) := KW.out.trans hk3 (fun i _ e => e)
        have HF := Lib.hid hJ3
        clear hJ3 hk3
        gi_wp2
        go_roundw
        case rel => exact ⟨k + 1, by omega, by go_num, HF.out, KF.out⟩
        case measure => simp [intOf]; omega
      · have HF := Lib.hid hJx3
        clear hJx3
        gi_wp2
        refine bodyPost_ret (results_none rfl _ _ _) rfl ?_
        exact ⟨⟨_, rfl⟩, .inr HF.out⟩
    · have hkl : k = ps.length := by omega
      subst hkl
      have HJJ := Lib.hid hj
      clear hj
      gi_wp2
      go_end0
      exact ⟨⟨_, rfl⟩, .inl HJJ.out⟩
/-! The same, of a law's disk. -/
section
variable {W0 w w' : World} {d : Nat} {D : Dk} {fc : Nat → Fl}
theorem dlasts (h : Db W0 w d D fc) (s : ByteArray) (hs : s.size ≤ maxLen) : Calls Try.prog 25 #[.pointer (some ⟨d, 0, none⟩), .string s] w fun e w' => e = .returned (.tuple #[.int .i64 (lastsOf D fc s).1, .int .i64 (lastsOf D fc s).2]) ∧ Keeps Nb w w' := by
  obtain ⟨F, R, h⟩ := h
  exact lasts_at d s D F R fc w h.at_ hs
theorem ddead (h : Db W0 w d D fc) : Calls Try.prog 26 #[.pointer (some ⟨d, 0, none⟩)] w fun e w' => e = .returned (.bool D.dead) ∧ w = w' := by
  obtain ⟨F, R, h⟩ := h
  obtain ⟨m1, m2, sv, h1, -⟩ := h.at_.ex
  exact dead_at d m1 m2 sv D w h1
theorem dpending (h : Db W0 w d D fc) : Calls Try.prog 22 #[.pointer (some ⟨d, 0, none⟩)] w fun e w' => e = .returned (.int .i64 (D.steps.length : Nat)) ∧ w = w' := by
  obtain ⟨F, R, h⟩ := h
  obtain ⟨m1, m2, sv, h1, -, -, -, hr, -⟩ := h.at_.ex
  obtain ⟨-, -, a, c, rfl, -⟩ := hr
  exact pending_at d m1 m2 a _ c D w h1
theorem dfiles (h : Db W0 w d D fc) : Calls Try.prog 24 #[.pointer (some ⟨d, 0, none⟩)] w fun e w' => ∃ ns : List ByteArray, ns.Perm (D.files.map Prod.fst) ∧ FilesD w.heap.size (ns.map fun s => (s, szOf D fc s)) w e w' := by
  obtain ⟨F, R, h⟩ := h
  exact files_at d D F R fc w h.at_
theorem lasts_some {s : ByteArray} {b : Nat} (hs : mnB s = true) (h : flook D.files s = some b) : lastsOf D fc s = ((((fc b).lasts : Nat) : Int), 0) := by
  unfold lastsOf
  have : found D s = (some b, 0) := by unfold found; rw [if_pos hs, h]
  rw [this]
theorem rd_some {s : ByteArray} {b : Nat} (hs : mnB s = true) (h : flook D.files s = some b) : rdS D fc s = bstr (fc b).b := by
  have : readOf D fc s = ((fc b).b, 0) := by unfold readOf found; rw [if_pos hs, h]
  unfold rdS
  rw [this]; rfl
end
end Go.Proofs.Ytgpecnihjjnkeaa
