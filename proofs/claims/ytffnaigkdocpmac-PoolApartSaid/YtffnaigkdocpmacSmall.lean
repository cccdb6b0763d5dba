/- there, New, Weight, Voters, Len of a pool. -/
import Derived.Test.YtffnaigkdocpmacAt
import Derived.Test.YtffnaigkdocpmacMayV
set_option linter.unusedVariables false
namespace Go.Proofs.Ytffnaigkdocpmac
open Go.RowKit Go.Lk Go.Pool

theorem there_at (p : Nat) (va vl mw : Value) (mh : Nat) (w : World) (h : w.heap[p]? = some (.cells #[va, vl, .map (some mh), mw] 68 (0, 0))) :
    Calls Try.prog 25 #[.pointer (some ⟨p, 0, none⟩)] w fun e w' => e = .returned (.bool true) ∧ w = w' := by
  have hc : w.cell? ⟨p, 2, none⟩ = some (.map (some mh)) := by rw [cell_of_block h]; rfl
  clear h
  have q65 : ∀ (w : World) (r : Option Nat), (binOp .neq 65 (.map r) (.map none)).run Try.prog w = .ok (.bool (!r.isNone)) w := fun w r => run_neq_map_nil w _ _ _ r Try.underlying65
  go_enter Try.func25, Try.ntmps25
  go_wp2
  go_ret
  exact ⟨rfl, rfl⟩
theorem there_nil (w : World) : Calls Try.prog 25 #[.pointer none] w fun e w' => e = .returned (.bool false) ∧ w = w' := by
  have q65 : ∀ (w : World) (r : Option Nat), (binOp .neq 65 (.map r) (.map none)).run Try.prog w = .ok (.bool (!r.isNone)) w := fun w r => run_neq_map_nil w _ _ _ r Try.underlying65
  go_enter Try.func25, Try.ntmps25
  go_wp2
  go_ret
  exact ⟨rfl, rfl⟩
theorem there_zero (p : Nat) (va vl mw : Value) (w : World) (h : w.heap[p]? = some (.cells #[va, vl, .map none, mw] 68 (0, 0))) :
    Calls Try.prog 25 #[.pointer (some ⟨p, 0, none⟩)] w fun e w' => e = .returned (.bool false) ∧ w = w' := by
  have hc : w.cell? ⟨p, 2, none⟩ = some (.map none) := by rw [cell_of_block h]; rfl
  clear h
  have q65 : ∀ (w : World) (r : Option Nat), (binOp .neq 65 (.map r) (.map none)).run Try.prog w = .ok (.bool (!r.isNone)) w := fun w r => run_neq_map_nil w _ _ _ r Try.underlying65
  go_enter Try.func25, Try.ntmps25
  go_wp2
  go_ret
  exact ⟨rfl, rfl⟩

/-- The four fields of a pool, in whatever world keeps it. -/
theorem four {w0 : World} {p : Nat} {v0 v1 v2 v3 : Value} {T : TypeId} (h : w0.heap[p]? = some (.cells #[v0, v1, v2, v3] T (0, 0))) :
    (∀ u : Sub w0, u.wd.cell? ⟨p, 0, none⟩ = some v0) ∧ (∀ u : Sub w0, u.wd.cell? ⟨p, 1, none⟩ = some v1) ∧ (∀ u : Sub w0, u.wd.cell? ⟨p, 2, none⟩ = some v2) ∧ (∀ u : Sub w0, u.wd.cell? ⟨p, 3, none⟩ = some v3) :=
  ⟨fun u => by rw [cell_of_block (u.k.nb h)]; rfl, fun u => by rw [cell_of_block (u.k.nb h)]; rfl, fun u => by rw [cell_of_block (u.k.nb h)]; rfl, fun u => by rw [cell_of_block (u.k.nb h)]; rfl⟩

set_option maxHeartbeats 1000000 in
theorem weight_at (p : Nat) (F R : Nat → Prop) (cs : List Ct) (l : List Int) (w : World) (h : PoolAt w p F R cs) (hl : Fits LK l) :
    Calls Try.prog 11 #[.pointer (some ⟨p, 0, none⟩), kv LK l] w fun e w' => e = .returned (.int .u64 (wt cs l : Nat)) ∧ Keeps Nb w w' := by
  obtain ⟨⟨va, vl, mh, mw, hb, -, -, -, hm, -⟩, -⟩ := h
  have hlen := valsK_length hl.length
  rw [lk_len] at hlen
  have HB := Lib.hid hb; have HM := Lib.hid hm; clear hb hm
  have f72 : ∀ (w : World) (x y : Value), (Instr.field 72 (.agg #[x, y]) 0).run Try.prog w = .ok x w := fun _ _ _ => by kernel_rfl
  unfold kv
  go_enter Try.func11, Try.ntmps11
  go_wp2_with (first | go_skip | (with_reducible refine stop_load (t := 27) ?_) | (with_reducible refine stop_load (t := 28) ?_) | (with_reducible refine stop_load (t := 30) ?_) | (with_reducible refine stop_load (t := 33) ?_) | (with_reducible refine stop_load (t := 35) ?_) | (with_reducible refine stop_load (t := 40) ?_) | (with_reducible refine stop_load (t := 76) ?_) | (with_reducible refine stop_load (t := 77) ?_) | (with_reducible refine stop_box (t := 27) ?_) | (with_reducible refine stop_box (t := 28) ?_) | (with_reducible refine stop_box (t := 30) ?_) | (with_reducible refine stop_box (t := 33) ?_) | (with_reducible refine stop_box (t := 35) ?_) | (with_reducible refine stop_box (t := 40) ?_) | (with_reducible refine stop_box (t := 76) ?_) | (with_reducible refine stop_box (t := 77) ?_) | (with_reducible refine stop_alloc (t := 27) ?_) | (with_reducible refine stop_alloc (t := 28) ?_) | (with_reducible refine stop_alloc (t := 30) ?_) | (with_reducible refine stop_alloc (t := 33) ?_) | (with_reducible refine stop_alloc (t := 35) ?_) | (with_reducible refine stop_alloc (t := 40) ?_) | (with_reducible refine stop_alloc (t := 76) ?_) | (with_reducible refine stop_alloc (t := 77) ?_) | (with_reducible refine stop_alloc (t := 52) ?_) | (with_reducible refine stop_alloc (t := 68) ?_) | (with_reducible refine stop_alloc (t := 72) ?_) | (with_reducible refine stop_build (t := 27) ?_) | (with_reducible refine stop_build (t := 28) ?_) | (with_reducible refine stop_build (t := 30) ?_) | (with_reducible refine stop_build (t := 33) ?_) | (with_reducible refine stop_build (t := 35) ?_) | (with_reducible refine stop_build (t := 40) ?_) | (with_reducible refine stop_build (t := 76) ?_) | (with_reducible refine stop_build (t := 77) ?_) | (with_reducible refine stop_build (t := 52) ?_) | (with_reducible refine stop_build (t := 68) ?_) | (with_reducible refine stop_store (t := 27) ?_) | (with_reducible refine stop_store (t := 28) ?_) | (with_reducible refine stop_store (t := 30) ?_) | (with_reducible refine stop_store (t := 33) ?_) | (with_reducible refine stop_store (t := 35) ?_) | (with_reducible refine stop_store (t := 40) ?_) | (with_reducible refine stop_store (t := 76) ?_) | (with_reducible refine stop_store (t := 77) ?_) | (with_reducible refine stop_store (t := 22) ?_) | (with_reducible refine stop_store (t := 31) ?_) | (with_reducible refine stop_store (t := 47) ?_) | (with_reducible refine stop_store (t := 52) ?_) | (with_reducible refine stop_store (t := 68) ?_) | (with_reducible refine stop_store (t := 72) ?_) | (with_reducible refine stop_lookup ?_) | (with_reducible refine stop_buildSlice ?_) | (with_reducible refine stop_app ?_) | (with_reducible refine stop_mapEntry ?_) | (with_reducible refine stop_eql (t := 28) ?_) | (with_reducible refine stop_eql (t := 40) ?_) | (with_reducible refine stop_neq (t := 28) ?_) | (with_reducible refine stop_neq (t := 40) ?_))
  refine at_out (vbox rfl ?_); intro g1 w1 n1
  go_wp2_with fail
  refine (there_at p va vl _ mh _ (n1.k.nb HB.out)).mono ?_; rintro e w' ⟨rfl, rfl⟩
  obtain ⟨-, -, -, c3⟩ := four (n1.k.nb HB.out)
  have H1 : Hid (∀ u : Sub w1, Has u.wd (some ⟨g1, 0, none⟩) (valsK LK l)) := fun u => has_block (u.k.nb n1.blk)
  have K1 := n1.k
  clear n1
  go_wp2
  refine region_sub (by kernel_rfl) (by kernel_rfl) ?_
  repeat (first | go_big_quiet_skip | (with_reducible refine stopq (op := .load 27 _) ?_) | (with_reducible refine stopq (op := .load 28 _) ?_) | (with_reducible refine stopq (op := .load 30 _) ?_) | (with_reducible refine stopq (op := .load 33 _) ?_) | (with_reducible refine stopq (op := .load 35 _) ?_) | (with_reducible refine stopq (op := .load 40 _) ?_) | (with_reducible refine stopq (op := .load 76 _) ?_) | (with_reducible refine stopq (op := .load 77 _) ?_) | (with_reducible refine stopq (op := .build 27 _) ?_) | (with_reducible refine stopq (op := .build 28 _) ?_) | (with_reducible refine stopq (op := .build 30 _) ?_) | (with_reducible refine stopq (op := .build 33 _) ?_) | (with_reducible refine stopq (op := .build 35 _) ?_) | (with_reducible refine stopq (op := .build 40 _) ?_) | (with_reducible refine stopq (op := .build 76 _) ?_) | (with_reducible refine stopq (op := .build 77 _) ?_) | (with_reducible refine stopq (op := .lookup _ _ _ _) ?_) | (with_reducible refine stopq (op := .binOp .eql 28 _ _ _) ?_) | (with_reducible refine stopq (op := .binOp .eql 40 _ _ _) ?_) | (with_reducible refine stopq (op := .binOp .neq 28 _ _ _) ?_) | (with_reducible refine stopq (op := .binOp .neq 40 _ _ _) ?_) | go_big_quiet_step (fail))
  refine at_out (wpq_val rfl (by rintro _ ⟨u, rfl⟩; exact rn_loadH aggL rfl (H1.out u) hlen) ?_)
  simp only [Nat.reduceAdd, Nat.zero_add, Act.put, List.setIfInBounds_toArray, List.set_cons_succ, List.set_cons_zero]
  repeat (first | go_big_quiet_skip | (with_reducible refine stopq (op := .load 27 _) ?_) | (with_reducible refine stopq (op := .load 28 _) ?_) | (with_reducible refine stopq (op := .load 30 _) ?_) | (with_reducible refine stopq (op := .load 33 _) ?_) | (with_reducible refine stopq (op := .load 35 _) ?_) | (with_reducible refine stopq (op := .load 40 _) ?_) | (with_reducible refine stopq (op := .load 76 _) ?_) | (with_reducible refine stopq (op := .load 77 _) ?_) | (with_reducible refine stopq (op := .build 27 _) ?_) | (with_reducible refine stopq (op := .build 28 _) ?_) | (with_reducible refine stopq (op := .build 30 _) ?_) | (with_reducible refine stopq (op := .build 33 _) ?_) | (with_reducible refine stopq (op := .build 35 _) ?_) | (with_reducible refine stopq (op := .build 40 _) ?_) | (with_reducible refine stopq (op := .build 76 _) ?_) | (with_reducible refine stopq (op := .build 77 _) ?_) | (with_reducible refine stopq (op := .lookup _ _ _ _) ?_) | (with_reducible refine stopq (op := .binOp .eql 28 _ _ _) ?_) | (with_reducible refine stopq (op := .binOp .eql 40 _ _ _) ?_) | (with_reducible refine stopq (op := .binOp .neq 28 _ _ _) ?_) | (with_reducible refine stopq (op := .binOp .neq 40 _ _ _) ?_) | go_big_quiet_step (fail))
  refine at_out (wpq_val rfl (by rintro _ ⟨u, rfl⟩; exact rn_lookup (HM.out.keeps (K1.trans_nb u.k) (fun e => e)) keyL Try.underlying66 (zero72 _) rfl rfl hl) ?_)
  simp only [wF_get, Bool.false_eq_true, if_false]
  simp only [Nat.reduceAdd, Nat.zero_add, Act.put, List.setIfInBounds_toArray, List.set_cons_succ, List.set_cons_zero]
  repeat (first | go_big_quiet_skip | (with_reducible refine stopq (op := .load 27 _) ?_) | (with_reducible refine stopq (op := .load 28 _) ?_) | (with_reducible refine stopq (op := .load 30 _) ?_) | (with_reducible refine stopq (op := .load 33 _) ?_) | (with_reducible refine stopq (op := .load 35 _) ?_) | (with_reducible refine stopq (op := .load 40 _) ?_) | (with_reducible refine stopq (op := .load 76 _) ?_) | (with_reducible refine stopq (op := .load 77 _) ?_) | (with_reducible refine stopq (op := .build 27 _) ?_) | (with_reducible refine stopq (op := .build 28 _) ?_) | (with_reducible refine stopq (op := .build 30 _) ?_) | (with_reducible refine stopq (op := .build 33 _) ?_) | (with_reducible refine stopq (op := .build 35 _) ?_) | (with_reducible refine stopq (op := .build 40 _) ?_) | (with_reducible refine stopq (op := .build 76 _) ?_) | (with_reducible refine stopq (op := .build 77 _) ?_) | (with_reducible refine stopq (op := .lookup _ _ _ _) ?_) | (with_reducible refine stopq (op := .binOp .eql 28 _ _ _) ?_) | (with_reducible refine stopq (op := .binOp .eql 40 _ _ _) ?_) | (with_reducible refine stopq (op := .binOp .neq 28 _ _ _) ?_) | (with_reducible refine stopq (op := .binOp .neq 40 _ _ _) ?_) | go_big_quiet_step (fail))
  refine wpQuiet_nil ?_
  rintro w9 ⟨u9, hu9⟩
  have K9 : Keeps Nb w1 w9 := hu9 ▸ u9.k
  clear hu9
  go_wp2
  go_ret
  exact ⟨rfl, K1.trans_nb K9⟩
set_option maxHeartbeats 1000000 in
theorem voters_at (p : Nat) (F R : Nat → Prop) (cs : List Ct) (l : List Int) (w : World) (h : PoolAt w p F R cs) (hl : Fits LK l) :
    Calls Try.prog 14 #[.pointer (some ⟨p, 0, none⟩), kv LK l] w fun e w' => e = .returned (.int .i64 (vs cs l : Nat)) ∧ Keeps Nb w w' := by
  obtain ⟨⟨va, vl, mh, mw, hb, -, -, -, hm, -⟩, -⟩ := h
  have hlen := valsK_length hl.length
  rw [lk_len] at hlen
  have HB := Lib.hid hb; have HM := Lib.hid hm; clear hb hm
  have f72 : ∀ (w : World) (x y : Value), (Instr.field 72 (.agg #[x, y]) 1).run Try.prog w = .ok y w := fun _ _ _ => by kernel_rfl
  unfold kv
  go_enter Try.func14, Try.ntmps14
  go_wp2_with (first | go_skip | (with_reducible refine stop_load (t := 27) ?_) | (with_reducible refine stop_load (t := 28) ?_) | (with_reducible refine stop_load (t := 30) ?_) | (with_reducible refine stop_load (t := 33) ?_) | (with_reducible refine stop_load (t := 35) ?_) | (with_reducible refine stop_load (t := 40) ?_) | (with_reducible refine stop_load (t := 76) ?_) | (with_reducible refine stop_load (t := 77) ?_) | (with_reducible refine stop_box (t := 27) ?_) | (with_reducible refine stop_box (t := 28) ?_) | (with_reducible refine stop_box (t := 30) ?_) | (with_reducible refine stop_box (t := 33) ?_) | (with_reducible refine stop_box (t := 35) ?_) | (with_reducible refine stop_box (t := 40) ?_) | (with_reducible refine stop_box (t := 76) ?_) | (with_reducible refine stop_box (t := 77) ?_) | (with_reducible refine stop_alloc (t := 27) ?_) | (with_reducible refine stop_alloc (t := 28) ?_) | (with_reducible refine stop_alloc (t := 30) ?_) | (with_reducible refine stop_alloc (t := 33) ?_) | (with_reducible refine stop_alloc (t := 35) ?_) | (with_reducible refine stop_alloc (t := 40) ?_) | (with_reducible refine stop_alloc (t := 76) ?_) | (with_reducible refine stop_alloc (t := 77) ?_) | (with_reducible refine stop_alloc (t := 52) ?_) | (with_reducible refine stop_alloc (t := 68) ?_) | (with_reducible refine stop_alloc (t := 72) ?_) | (with_reducible refine stop_build (t := 27) ?_) | (with_reducible refine stop_build (t := 28) ?_) | (with_reducible refine stop_build (t := 30) ?_) | (with_reducible refine stop_build (t := 33) ?_) | (with_reducible refine stop_build (t := 35) ?_) | (with_reducible refine stop_build (t := 40) ?_) | (with_reducible refine stop_build (t := 76) ?_) | (with_reducible refine stop_build (t := 77) ?_) | (with_reducible refine stop_build (t := 52) ?_) | (with_reducible refine stop_build (t := 68) ?_) | (with_reducible refine stop_store (t := 27) ?_) | (with_reducible refine stop_store (t := 28) ?_) | (with_reducible refine stop_store (t := 30) ?_) | (with_reducible refine stop_store (t := 33) ?_) | (with_reducible refine stop_store (t := 35) ?_) | (with_reducible refine stop_store (t := 40) ?_) | (with_reducible refine stop_store (t := 76) ?_) | (with_reducible refine stop_store (t := 77) ?_) | (with_reducible refine stop_store (t := 22) ?_) | (with_reducible refine stop_store (t := 31) ?_) | (with_reducible refine stop_store (t := 47) ?_) | (with_reducible refine stop_store (t := 52) ?_) | (with_reducible refine stop_store (t := 68) ?_) | (with_reducible refine stop_store (t := 72) ?_) | (with_reducible refine stop_lookup ?_) | (with_reducible refine stop_buildSlice ?_) | (with_reducible refine stop_app ?_) | (with_reducible refine stop_mapEntry ?_) | (with_reducible refine stop_eql (t := 28) ?_) | (with_reducible refine stop_eql (t := 40) ?_) | (with_reducible refine stop_neq (t := 28) ?_) | (with_reducible refine stop_neq (t := 40) ?_))
  refine at_out (vbox rfl ?_); intro g1 w1 n1
  go_wp2_with fail
  refine (there_at p va vl _ mh _ (n1.k.nb HB.out)).mono ?_; rintro e w' ⟨rfl, rfl⟩
  obtain ⟨-, -, -, c3⟩ := four (n1.k.nb HB.out)
  have H1 : Hid (∀ u : Sub w1, Has u.wd (some ⟨g1, 0, none⟩) (valsK LK l)) := fun u => has_block (u.k.nb n1.blk)
  have K1 := n1.k
  clear n1
  go_wp2
  refine region_sub (by kernel_rfl) (by kernel_rfl) ?_
  repeat (first | go_big_quiet_skip | (with_reducible refine stopq (op := .load 27 _) ?_) | (with_reducible refine stopq (op := .load 28 _) ?_) | (with_reducible refine stopq (op := .load 30 _) ?_) | (with_reducible refine stopq (op := .load 33 _) ?_) | (with_reducible refine stopq (op := .load 35 _) ?_) | (with_reducible refine stopq (op := .load 40 _) ?_) | (with_reducible refine stopq (op := .load 76 _) ?_) | (with_reducible refine stopq (op := .load 77 _) ?_) | (with_reducible refine stopq (op := .build 27 _) ?_) | (with_reducible refine stopq (op := .build 28 _) ?_) | (with_reducible refine stopq (op := .build 30 _) ?_) | (with_reducible refine stopq (op := .build 33 _) ?_) | (with_reducible refine stopq (op := .build 35 _) ?_) | (with_reducible refine stopq (op := .build 40 _) ?_) | (with_reducible refine stopq (op := .build 76 _) ?_) | (with_reducible refine stopq (op := .build 77 _) ?_) | (with_reducible refine stopq (op := .lookup _ _ _ _) ?_) | (with_reducible refine stopq (op := .binOp .eql 28 _ _ _) ?_) | (with_reducible refine stopq (op := .binOp .eql 40 _ _ _) ?_) | (with_reducible refine stopq (op := .binOp .neq 28 _ _ _) ?_) | (with_reducible refine stopq (op := .binOp .neq 40 _ _ _) ?_) | go_big_quiet_step (fail))
  refine at_out (wpq_val rfl (by rintro _ ⟨u, rfl⟩; exact rn_loadH aggL rfl (H1.out u) hlen) ?_)
  simp only [Nat.reduceAdd, Nat.zero_add, Act.put, List.setIfInBounds_toArray, List.set_cons_succ, List.set_cons_zero]
  repeat (first | go_big_quiet_skip | (with_reducible refine stopq (op := .load 27 _) ?_) | (with_reducible refine stopq (op := .load 28 _) ?_) | (with_reducible refine stopq (op := .load 30 _) ?_) | (with_reducible refine stopq (op := .load 33 _) ?_) | (with_reducible refine stopq (op := .load 35 _) ?_) | (with_reducible refine stopq (op := .load 40 _) ?_) | (with_reducible refine stopq (op := .load 76 _) ?_) | (with_reducible refine stopq (op := .load 77 _) ?_) | (with_reducible refine stopq (op := .build 27 _) ?_) | (with_reducible refine stopq (op := .build 28 _) ?_) | (with_reducible refine stopq (op := .build 30 _) ?_) | (with_reducible refine stopq (op := .build 33 _) ?_) | (with_reducible refine stopq (op := .build 35 _) ?_) | (with_reducible refine stopq (op := .build 40 _) ?_) | (with_reducible refine stopq (op := .build 76 _) ?_) | (with_reducible refine stopq (op := .build 77 _) ?_) | (with_reducible refine stopq (op := .lookup _ _ _ _) ?_) | (with_reducible refine stopq (op := .binOp .eql 28 _ _ _) ?_) | (with_reducible refine stopq (op := .binOp .eql 40 _ _ _) ?_) | (with_reducible refine stopq (op := .binOp .neq 28 _ _ _) ?_) | (with_reducible refine stopq (op := .binOp .neq 40 _ _ _) ?_) | go_big_quiet_step (fail))
  refine at_out (wpq_val rfl (by rintro _ ⟨u, rfl⟩; exact rn_lookup (HM.out.keeps (K1.trans_nb u.k) (fun e => e)) keyL Try.underlying66 (zero72 _) rfl rfl hl) ?_)
  simp only [wF_get, Bool.false_eq_true, if_false]
  simp only [Nat.reduceAdd, Nat.zero_add, Act.put, List.setIfInBounds_toArray, List.set_cons_succ, List.set_cons_zero]
  repeat (first | go_big_quiet_skip | (with_reducible refine stopq (op := .load 27 _) ?_) | (with_reducible refine stopq (op := .load 28 _) ?_) | (with_reducible refine stopq (op := .load 30 _) ?_) | (with_reducible refine stopq (op := .load 33 _) ?_) | (with_reducible refine stopq (op := .load 35 _) ?_) | (with_reducible refine stopq (op := .load 40 _) ?_) | (with_reducible refine stopq (op := .load 76 _) ?_) | (with_reducible refine stopq (op := .load 77 _) ?_) | (with_reducible refine stopq (op := .build 27 _) ?_) | (with_reducible refine stopq (op := .build 28 _) ?_) | (with_reducible refine stopq (op := .build 30 _) ?_) | (with_reducible refine stopq (op := .build 33 _) ?_) | (with_reducible refine stopq (op := .build 35 _) ?_) | (with_reducible refine stopq (op := .build 40 _) ?_) | (with_reducible refine stopq (op := .build 76 _) ?_) | (with_reducible refine stopq (op := .build 77 _) ?_) | (with_reducible refine stopq (op := .lookup _ _ _ _) ?_) | (with_reducible refine stopq (op := .binOp .eql 28 _ _ _) ?_) | (with_reducible refine stopq (op := .binOp .eql 40 _ _ _) ?_) | (with_reducible refine stopq (op := .binOp .neq 28 _ _ _) ?_) | (with_reducible refine stopq (op := .binOp .neq 40 _ _ _) ?_) | go_big_quiet_step (fail))
  refine wpQuiet_nil ?_
  rintro w9 ⟨u9, hu9⟩
  have K9 : Keeps Nb w1 w9 := hu9 ▸ u9.k
  clear hu9
  go_wp2
  go_ret
  exact ⟨rfl, K1.trans_nb K9⟩
theorem weight_none (l : List Int) (v : Value) (w : World) (hv : v = .pointer none ∨ ∃ p va vl mw, v = .pointer (some ⟨p, 0, none⟩) ∧ w.heap[p]? = some (.cells #[va, vl, .map none, mw] 68 (0, 0))) :
    Calls Try.prog 11 #[v, kv LK l] w fun e w' => e = .returned (.int .u64 0) ∧ Keeps Nb w w' := by
  unfold kv
  rcases hv with rfl | ⟨p, va, vl, mw, rfl, hb⟩
  all_goals
    go_enter Try.func11, Try.ntmps11
    go_wp2_with (first | go_skip | (with_reducible refine stop_load (t := 27) ?_) | (with_reducible refine stop_load (t := 28) ?_) | (with_reducible refine stop_load (t := 30) ?_) | (with_reducible refine stop_load (t := 33) ?_) | (with_reducible refine stop_load (t := 35) ?_) | (with_reducible refine stop_load (t := 40) ?_) | (with_reducible refine stop_load (t := 76) ?_) | (with_reducible refine stop_load (t := 77) ?_) | (with_reducible refine stop_box (t := 27) ?_) | (with_reducible refine stop_box (t := 28) ?_) | (with_reducible refine stop_box (t := 30) ?_) | (with_reducible refine stop_box (t := 33) ?_) | (with_reducible refine stop_box (t := 35) ?_) | (with_reducible refine stop_box (t := 40) ?_) | (with_reducible refine stop_box (t := 76) ?_) | (with_reducible refine stop_box (t := 77) ?_) | (with_reducible refine stop_alloc (t := 27) ?_) | (with_reducible refine stop_alloc (t := 28) ?_) | (with_reducible refine stop_alloc (t := 30) ?_) | (with_reducible refine stop_alloc (t := 33) ?_) | (with_reducible refine stop_alloc (t := 35) ?_) | (with_reducible refine stop_alloc (t := 40) ?_) | (with_reducible refine stop_alloc (t := 76) ?_) | (with_reducible refine stop_alloc (t := 77) ?_) | (with_reducible refine stop_alloc (t := 52) ?_) | (with_reducible refine stop_alloc (t := 68) ?_) | (with_reducible refine stop_alloc (t := 72) ?_) | (with_reducible refine stop_build (t := 27) ?_) | (with_reducible refine stop_build (t := 28) ?_) | (with_reducible refine stop_build (t := 30) ?_) | (with_reducible refine stop_build (t := 33) ?_) | (with_reducible refine stop_build (t := 35) ?_) | (with_reducible refine stop_build (t := 40) ?_) | (with_reducible refine stop_build (t := 76) ?_) | (with_reducible refine stop_build (t := 77) ?_) | (with_reducible refine stop_build (t := 52) ?_) | (with_reducible refine stop_build (t := 68) ?_) | (with_reducible refine stop_store (t := 27) ?_) | (with_reducible refine stop_store (t := 28) ?_) | (with_reducible refine stop_store (t := 30) ?_) | (with_reducible refine stop_store (t := 33) ?_) | (with_reducible refine stop_store (t := 35) ?_) | (with_reducible refine stop_store (t := 40) ?_) | (with_reducible refine stop_store (t := 76) ?_) | (with_reducible refine stop_store (t := 77) ?_) | (with_reducible refine stop_store (t := 22) ?_) | (with_reducible refine stop_store (t := 31) ?_) | (with_reducible refine stop_store (t := 47) ?_) | (with_reducible refine stop_store (t := 52) ?_) | (with_reducible refine stop_store (t := 68) ?_) | (with_reducible refine stop_store (t := 72) ?_) | (with_reducible refine stop_lookup ?_) | (with_reducible refine stop_buildSlice ?_) | (with_reducible refine stop_app ?_) | (with_reducible refine stop_mapEntry ?_) | (with_reducible refine stop_eql (t := 28) ?_) | (with_reducible refine stop_eql (t := 40) ?_) | (with_reducible refine stop_neq (t := 28) ?_) | (with_reducible refine stop_neq (t := 40) ?_))
    refine at_out (vbox rfl ?_); intro g1 w1 n1
    go_wp2_with fail
    first | ((with_reducible refine (there_nil _).mono ?_); rintro e w' ⟨rfl, rfl⟩) | (refine (there_zero p va vl mw _ (n1.k.nb hb)).mono ?_; rintro e w' ⟨rfl, rfl⟩)
    go_wp2
    go_ret
    exact ⟨rfl, n1.k⟩
theorem voters_none (l : List Int) (v : Value) (w : World) (hv : v = .pointer none ∨ ∃ p va vl mw, v = .pointer (some ⟨p, 0, none⟩) ∧ w.heap[p]? = some (.cells #[va, vl, .map none, mw] 68 (0, 0))) :
    Calls Try.prog 14 #[v, kv LK l] w fun e w' => e = .returned (.int .i64 0) ∧ Keeps Nb w w' := by
  unfold kv
  rcases hv with rfl | ⟨p, va, vl, mw, rfl, hb⟩
  all_goals
    go_enter Try.func14, Try.ntmps14
    go_wp2_with (first | go_skip | (with_reducible refine stop_load (t := 27) ?_) | (with_reducible refine stop_load (t := 28) ?_) | (with_reducible refine stop_load (t := 30) ?_) | (with_reducible refine stop_load (t := 33) ?_) | (with_reducible refine stop_load (t := 35) ?_) | (with_reducible refine stop_load (t := 40) ?_) | (with_reducible refine stop_load (t := 76) ?_) | (with_reducible refine stop_load (t := 77) ?_) | (with_reducible refine stop_box (t := 27) ?_) | (with_reducible refine stop_box (t := 28) ?_) | (with_reducible refine stop_box (t := 30) ?_) | (with_reducible refine stop_box (t := 33) ?_) | (with_reducible refine stop_box (t := 35) ?_) | (with_reducible refine stop_box (t := 40) ?_) | (with_reducible refine stop_box (t := 76) ?_) | (with_reducible refine stop_box (t := 77) ?_) | (with_reducible refine stop_alloc (t := 27) ?_) | (with_reducible refine stop_alloc (t := 28) ?_) | (with_reducible refine stop_alloc (t := 30) ?_) | (with_reducible refine stop_alloc (t := 33) ?_) | (with_reducible refine stop_alloc (t := 35) ?_) | (with_reducible refine stop_alloc (t := 40) ?_) | (with_reducible refine stop_alloc (t := 76) ?_) | (with_reducible refine stop_alloc (t := 77) ?_) | (with_reducible refine stop_alloc (t := 52) ?_) | (with_reducible refine stop_alloc (t := 68) ?_) | (with_reducible refine stop_alloc (t := 72) ?_) | (with_reducible refine stop_build (t := 27) ?_) | (with_reducible refine stop_build (t := 28) ?_) | (with_reducible refine stop_build (t := 30) ?_) | (with_reducible refine stop_build (t := 33) ?_) | (with_reducible refine stop_build (t := 35) ?_) | (with_reducible refine stop_build (t := 40) ?_) | (with_reducible refine stop_build (t := 76) ?_) | (with_reducible refine stop_build (t := 77) ?_) | (with_reducible refine stop_build (t := 52) ?_) | (with_reducible refine stop_build (t := 68) ?_) | (with_reducible refine stop_store (t := 27) ?_) | (with_reducible refine stop_store (t := 28) ?_) | (with_reducible refine stop_store (t := 30) ?_) | (with_reducible refine stop_store (t := 33) ?_) | (with_reducible refine stop_store (t := 35) ?_) | (with_reducible refine stop_store (t := 40) ?_) | (with_reducible refine stop_store (t := 76) ?_) | (with_reducible refine stop_store (t := 77) ?_) | (with_reducible refine stop_store (t := 22) ?_) | (with_reducible refine stop_store (t := 31) ?_) | (with_reducible refine stop_store (t := 47) ?_) | (with_reducible refine stop_store (t := 52) ?_) | (with_reducible refine stop_store (t := 68) ?_) | (with_reducible refine stop_store (t := 72) ?_) | (with_reducible refine stop_lookup ?_) | (with_reducible refine stop_buildSlice ?_) | (with_reducible refine stop_app ?_) | (with_reducible refine stop_mapEntry ?_) | (with_reducible refine stop_eql (t := 28) ?_) | (with_reducible refine stop_eql (t := 40) ?_) | (with_reducible refine stop_neq (t := 28) ?_) | (with_reducible refine stop_neq (t := 40) ?_))
    refine at_out (vbox rfl ?_); intro g1 w1 n1
    go_wp2_with fail
    first | ((with_reducible refine (there_nil _).mono ?_); rintro e w' ⟨rfl, rfl⟩) | (refine (there_zero p va vl mw _ (n1.k.nb hb)).mono ?_; rintro e w' ⟨rfl, rfl⟩)
    go_wp2
    go_ret
    exact ⟨rfl, n1.k⟩
theorem len_at (p : Nat) (F R : Nat → Prop) (cs : List Ct) (w : World) (h : PoolAt w p F R cs) :
    Calls Try.prog 15 #[.pointer (some ⟨p, 0, none⟩)] w fun e w' => e = .returned (.int .i64 (cs.length : Nat)) ∧ w = w' := by
  obtain ⟨⟨va, vl, mh, mw, hb, ⟨xs, ⟨-, -, a, c, rfl, h1, h2, -⟩, -⟩, -⟩, -⟩ := h
  unfold maxLen at h2
  have hc : w.cell? ⟨p, 0, none⟩ = some (.slice a cs.length c) := by rw [cell_of_block hb]; rfl
  have HB := Lib.hid hb; clear hb
  go_enter Try.func15, Try.ntmps15
  go_wp2_with fail
  refine (there_at p _ vl _ mh _ HB.out).mono ?_; rintro e w' ⟨rfl, rfl⟩
  go_wp2
  go_ret
  exact ⟨rfl, rfl⟩
theorem len_none (v : Value) (w : World) (hv : v = .pointer none ∨ ∃ p va vl mw, v = .pointer (some ⟨p, 0, none⟩) ∧ w.heap[p]? = some (.cells #[va, vl, .map none, mw] 68 (0, 0))) :
    Calls Try.prog 15 #[v] w fun e w' => e = .returned (.int .i64 0) ∧ w = w' := by
  rcases hv with rfl | ⟨p, va, vl, mw, rfl, hb⟩
  all_goals
    go_enter Try.func15, Try.ntmps15
    go_wp2_with fail
    first | ((with_reducible refine (there_nil _).mono ?_); rintro e w' ⟨rfl, rfl⟩) | (refine (there_zero p va vl mw _ hb).mono ?_; rintro e w' ⟨rfl, rfl⟩)
    go_wp2
    go_ret
    exact ⟨rfl, rfl⟩

theorem st68 : StructT Try.prog 68 [(0, 1), (1, 1), (2, 1), (3, 1)] 4 := ⟨by kernel_rfl, by kernel_rfl⟩
/-- A new pool. -/
theorem poolAt_new {w w1 w2 w3 : World} {mh mw p : Nat} (n1 : NewAt w w1 mh (.map #[] 0)) (n2 : NewAt w1 w2 mw (.map #[] 0)) (n3 : NewAt w2 w3 p (.cells #[.slice none 0 0, .slice none 0 0, .map (some mh), .map (some mw)] 68)) :
    PoolAt w3 p (Up Nb w w3) Nb [] := by
  have k1 := n1.k.size; have k2 := n2.k.size; have k3 := n3.k.size
  have l1 := n1.lt; have l2 := n2.lt; have l3 := n3.lt
  have g1 := n1.ge; have g2 := n2.ge; have g3 := n3.ge
  refine ⟨⟨_, _, mh, mw, n3.blk, ⟨[], RowS.nil _ _ _ _ _, rfl⟩, RowS.nil _ _ _ _ _, ?_, ?_, by omega, .inr ⟨by omega, l3⟩, .inr ⟨by omega, by omega⟩, .inr ⟨by omega, by omega⟩⟩, Good.nil, by simp, fun _ _ e => e, fun k h => h.elim (fun e => e.elim) (fun e => e.2), fun _ e => e.elim⟩
  · have : MapAt MK w1 mh (fun _ => none) := ⟨#[], 0, n1.blk, MapKept.stamped_empty 0, by simp, by simp⟩
    exact (this.keeps n2.k (fun e => e)).keeps n3.k (fun e => e)
  · have : MapAt LK w2 mw (fun _ => none) := ⟨#[], 0, n2.blk, MapKept.stamped_empty 0, by simp, by simp⟩
    exact this.keeps n3.k (fun e => e)
def NewPool (w : World) (e : Ending) (w' : World) : Prop := ∃ p, e = .returned (.pointer (some ⟨p, 0, none⟩)) ∧ PoolAt w' p (Up Nb w w') Nb [] ∧ Keeps Nb w w'
theorem new_at (w : World) : Calls Try.prog 10 #[] w (NewPool w) := by
  have hb : ∀ (W : World) (x y : Option Nat), (Instr.build 68 #[(2, .map x), (3, .map y)]).run Try.prog W = .ok (.agg #[.slice none 0 0, .slice none 0 0, .map x, .map y]) W := fun _ _ _ => by kernel_rfl
  have hmm := @run_makeMap Try.prog
  go_enter Try.func10, Try.ntmps10
  go_wp2_with (with_reducible refine stop_box ?_)
  refine at_out (vbox rfl ?_); intro p w3 n3
  go_wp2
  go_ret
  exact ⟨_, rfl, poolAt_new (newAt_of rfl) (newAt_of (by simp)) n3, (((Keeps.refl _ _).alloc _).alloc _).trans_nb n3.k⟩
end Go.Proofs.Ytffnaigkdocpmac
