/- What is asked of a disk: Lasts, Pending, Dead. -/
import Derived.Test.YtgpecnihjjnkeaaRenW
set_option linter.unusedVariables false
set_option linter.unusedSimpArgs false
namespace Go.Proofs.Ytgpecnihjjnkeaa
open Go.RowKit Go.Lk Go.Vfs
/-- What Lasts tells. -/
def lastsOf (D : Dk) (fc : Nat → Fl) (s : ByteArray) : Int × Int := match (found D s).1 with | none => (0, (found D s).2) | some b => ((fc b).lasts, (found D s).2)
set_option maxHeartbeats 1000000 in
theorem lasts_at (d : Nat) (s : ByteArray) (D : Dk) (F R : Nat → Prop) (fc : Nat → Fl) (w : World) (h : DiskAt w d F R D fc) (hs : s.size ≤ maxLen) :
    Calls Try.prog 25 #[.pointer (some ⟨d, 0, none⟩), .string s] w fun e w' => e = .returned (.tuple #[.int .i64 (lastsOf D fc s).1, .int .i64 (lastsOf D fc s).2]) ∧ Keeps Nb w w' := by
  have H := Lib.hid h
  have HS := Lib.hid hs
  obtain ⟨⟨m1, m2, sv, h3, h4, h5, h6, h7, h8, h9⟩, g1, g2, g3, g3b, g4, g5, g6⟩ := h
  have FA := Lib.hid (find_at d m1 m2 sv D w h3 h4 s HS.out)
  clear hs g2 g3 g3b g4 h5 h6 h7 h3 h4 h8 h9 g1 g5 g6
  go_enter Try.func25, Try.ntmps25
  go_wp2_with fail
  refine FA.out.mono ?_
  rintro _ w1 ⟨rfl, k1⟩
  rcases found_cases D s with ⟨q1, q2⟩ | ⟨q1, q2, q3⟩ | ⟨b, q1, q2, q3⟩
  · have L : Hid (lastsOf D fc s = (0, 2)) := by unfold lastsOf; rw [q2]; rfl
    rw [q2]
    clear q2 FA
    go_wp2
    go_ret2
    exact ⟨by rw [L.out]; rfl, k1⟩
  · have L : Hid (lastsOf D fc s = (0, 6)) := by unfold lastsOf; rw [q3]; rfl
    rw [q3]
    clear q3 FA
    go_wp2
    go_ret2
    exact ⟨by rw [L.out]; rfl, k1⟩
  · have L : Hid (lastsOf D fc s = ((((fc b).lasts : Nat) : Int), 0)) := by unfold lastsOf; rw [q3]; rfl
    rw [q3]
    obtain ⟨⟨v, z1, -⟩, -⟩ := H.out.file b (ref_flook q2)
    have c1 : w1.cell? ⟨b, 1, none⟩ = some (.int .i64 ((fc b).lasts : Nat)) := (cell_of_block (k1.nb z1)).trans rfl
    clear q3 FA z1
    simp only [ptr]
    go_wp2
    go_ret2
    exact ⟨by rw [L.out]; rfl, k1⟩
theorem dead_at (d m1 m2 : Nat) (sv : Value) (D : Dk) (w : World) (h : w.heap[d]? = some (.cells (dcs m1 m2 sv D) 61 (0, 0))) : Calls Try.prog 26 #[.pointer (some ⟨d, 0, none⟩)] w fun e w' => e = .returned (.bool D.dead) ∧ w = w' := by
  obtain ⟨c0, -, -, -, -, -, -, c7, -⟩ := cells9 h
  have d0 := c0 ⟨w, Keeps.refl _ _⟩
  have d7 := c7 ⟨w, Keeps.refl _ _⟩
  have TH := Lib.hid (there_at d m1 (.map none) (.map none) [] w d0)
  clear h c0 c7
  go_enter Try.func26, Try.ntmps26
  go_wp2_with fail
  refine TH.out.mono ?_; rintro e w' ⟨rfl, rfl⟩
  go_wp2
  go_ret
  exact ⟨rfl, rfl⟩
theorem pending_at (d m1 m2 : Nat) (ad : Option Addr) (n c : Nat) (D : Dk) (w : World) (h : w.heap[d]? = some (.cells (dcs m1 m2 (.slice ad n c) D) 61 (0, 0))) : Calls Try.prog 22 #[.pointer (some ⟨d, 0, none⟩)] w fun e w' => e = .returned (.int .i64 n) ∧ w = w' := by
  obtain ⟨c0, -, c2, -⟩ := cells9 h
  have d0 := c0 ⟨w, Keeps.refl _ _⟩
  have d2 := c2 ⟨w, Keeps.refl _ _⟩
  have TH := Lib.hid (there_at d m1 (.map none) (.map none) [] w d0)
  clear h c0 c2
  go_enter Try.func22, Try.ntmps22
  go_wp2_with fail
  refine TH.out.mono ?_; rintro e w' ⟨rfl, rfl⟩
  go_wp2
  go_ret
  exact ⟨rfl, rfl⟩
/-- Fuse lays a fuse. -/
def fuseD (D : Dk) (n : Int) : Dk := { D with fuse := if n < -1 then -1 else n }
set_option maxHeartbeats 1000000 in
theorem fuse_at (d : Nat) (n : Int) (D : Dk) (F R : Nat → Prop) (fc : Nat → Fl) (w : World) (h : DiskAt w d F R D fc) (hn : -9223372036854775808 ≤ n ∧ n ≤ 9223372036854775807) :
    Calls Try.prog 29 #[.pointer (some ⟨d, 0, none⟩), .int .i64 n] w fun e w' => (∃ v, e = .returned v) ∧ DiskAt w' d F R (fuseD D n) fc ∧ Keeps (· = d) w w' := by
  have H := Lib.hid h
  obtain ⟨⟨m1, m2, sv, h3, -⟩, -⟩ := h
  obtain ⟨c0, -⟩ := cells9 h3
  have d0 := c0 ⟨w, Keeps.refl _ _⟩
  have H3 := Lib.hid h3
  have HN := Lib.hid hn
  have TH := Lib.hid (there_at d m1 (.map none) (.map none) [] w d0)
  have hf : Nums (fuseD D n) := by
    obtain ⟨z1, z2, z3, z4, z5, z6, z7, z8⟩ := H.out.nums
    refine ⟨z1, z2, ?_, z4, z5, z6, z7, z8⟩
    unfold fuseD; simp only; split <;> omega
  have HF := Lib.hid hf
  clear h3 c0 hn hf
  go_enter Try.func29, Try.ntmps29
  go_wp2_with fail
  refine TH.out.mono ?_; rintro e w' ⟨rfl, rfl⟩
  by_cases hle : n < -1
  · go_wp2_with (first | go_skip | (with_reducible refine stop_store (t := 3) ?_))
    refine at_out (wpList_skipE rfl (re_store (v := .int .i64 (fuseD D n).fuse) (n := 1) (by kernel_rfl) (by rfl) (by unfold fuseD; first | (simp [hle]; done) | (show _ = Value.int .i64 (if n < -1 then -1 else n); rw [if_neg (by omega)]; rfl) | (show _ = Value.int .i64 (if n < -1 then -1 else n); rw [if_pos (by omega)]; rfl)) H3.out (by rfl) (by simp [dcs, Value.cells]) (by simp [Value.cells, Value.oneCell'])) ?_)
    intro w1 s1
    simp only [Nat.reduceAdd, Nat.zero_add, Act.put, List.setIfInBounds_toArray, List.set_cons_succ, List.set_cons_zero]
    go_wp2
    go_end0
    exact ⟨⟨_, rfl⟩, H.out.renum H3.out s1.blk s1.k rfl rfl rfl HF.out, s1.k⟩
  · go_wp2_with (first | go_skip | (with_reducible refine stop_store (t := 3) ?_))
    refine at_out (wpList_skipE rfl (re_store (v := .int .i64 (fuseD D n).fuse) (n := 1) (by kernel_rfl) (by rfl) (by unfold fuseD; first | (simp [hle]; done) | (show _ = Value.int .i64 (if n < -1 then -1 else n); rw [if_neg (by omega)]; rfl) | (show _ = Value.int .i64 (if n < -1 then -1 else n); rw [if_pos (by omega)]; rfl)) H3.out (by rfl) (by simp [dcs, Value.cells]) (by simp [Value.cells, Value.oneCell'])) ?_)
    intro w1 s1
    simp only [Nat.reduceAdd, Nat.zero_add, Act.put, List.setIfInBounds_toArray, List.set_cons_succ, List.set_cons_zero]
    go_wp2
    go_end0
    exact ⟨⟨_, rfl⟩, H.out.renum H3.out s1.blk s1.k rfl rfl rfl HF.out, s1.k⟩
end Go.Proofs.Ytgpecnihjjnkeaa
