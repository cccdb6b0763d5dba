/- change: what stands in a change's way, and which of its three ways is taken. -/
import Derived.Test.YtgpecnihjjnkeaaBase
set_option linter.unusedVariables false
set_option linter.unusedSimpArgs false
namespace Go.Proofs.Ytgpecnihjjnkeaa
open Go.RowKit Go.Lk Go.Vfs

theorem cells9 {w : World} {d m1 m2 : Nat} {sv : Value} {D : Dk} (h : w.heap[d]? = some (.cells (dcs m1 m2 sv D) 61 (0, 0))) :
    (∀ u : Sub w, u.wd.cell? ⟨d, 0, none⟩ = some (.map (some m1))) ∧ (∀ u : Sub w, u.wd.cell? ⟨d, 1, none⟩ = some (.map (some m2))) ∧ (∀ u : Sub w, u.wd.cell? ⟨d, 2, none⟩ = some sv) ∧ (∀ u : Sub w, u.wd.cell? ⟨d, 3, none⟩ = some (.int .i64 D.cap)) ∧
    (∀ u : Sub w, u.wd.cell? ⟨d, 4, none⟩ = some (.int .i64 D.fuse)) ∧ (∀ u : Sub w, u.wd.cell? ⟨d, 5, none⟩ = some (.int .i64 D.fn)) ∧ (∀ u : Sub w, u.wd.cell? ⟨d, 6, none⟩ = some (.int .i64 D.fe)) ∧ (∀ u : Sub w, u.wd.cell? ⟨d, 7, none⟩ = some (.bool D.dead)) ∧ ∀ u : Sub w, u.wd.cell? ⟨d, 8, none⟩ = some (.int .i64 D.changes) := by
  have k : ∀ (u : Sub w) (i : Nat), u.wd.cell? ⟨d, i, none⟩ = (dcs m1 m2 sv D)[i]? := fun u i => cell_of_block (u.k.nb h)
  exact ⟨fun u => k u 0, fun u => k u 1, fun u => k u 2, fun u => k u 3, fun u => k u 4, fun u => k u 5, fun u => k u 6, fun u => k u 7, fun u => k u 8⟩
theorem change_dead (d m1 m2 : Nat) (sv : Value) (D : Dk) (w : World) (h : w.heap[d]? = some (.cells (dcs m1 m2 sv D) 61 (0, 0))) (hd : D.dead = true) (f1 f2 f3 : Value) :
    Calls Try.prog 34 #[.pointer (some ⟨d, 0, none⟩), f1, f2, f3] w fun e w' => e = .returned (.int .i64 8) ∧ w = w' := by
  have c7 : w.cell? ⟨d, 7, none⟩ = some (.bool true) := by rw [cell_of_block h, ← hd]; rfl
  clear h hd
  go_enter Try.func34, Try.ntmps34
  go_wp2
  go_ret
  exact ⟨rfl, rfl⟩
/-- What the three ways do. -/
def Ways (w : World) (d m1 m2 : Nat) (sv : Value) (D : Dk) (k : Nat) (fw fp ft : Nat) (cw cp ct : Array Value) (R : World → Prop) : Prop :=
  ∀ w1, w1.heap[d]? = some (.cells (dcs m1 m2 sv D) 61 (0, 0)) → Keeps (· = d) w w1 →
    (k = 0 → R w1) ∧ (k = 1 → Calls Try.prog fw cw w1 fun e w' => (∃ v, e = .returned v) ∧ R w') ∧ (k = 2 → Calls Try.prog fp cp w1 fun e w' => (∃ v, e = .returned v) ∧ R w') ∧ (k = 3 → Calls Try.prog ft ct w1 fun e w' => (∃ v, e = .returned v) ∧ R w')
set_option maxHeartbeats 4000000 in
theorem change_at (d m1 m2 : Nat) (sv : Value) (D : Dk) (w : World) (h : w.heap[d]? = some (.cells (dcs m1 m2 sv D) 61 (0, 0))) (hd : D.dead = false) (hch : 0 ≤ D.changes ∧ D.changes ≤ 1000000) (hfu : -1 ≤ D.fuse ∧ D.fuse ≤ 9223372036854775807) (hfn : -1 ≤ D.fn ∧ D.fn ≤ 9223372036854775807) (hfe : D.fe = 0 ∨ D.fe = 5 ∨ D.fe = 9)
    (fw fp ft : Nat) (cw cp ct : Array Value) (ew : ∀ args w, (callFunc fw args).run Try.prog w = .ok (.enter fw args) w) (ep : ∀ args w, (callFunc fp args).run Try.prog w = .ok (.enter fp args) w) (et : ∀ args w, (callFunc ft args).run Try.prog w = .ok (.enter ft args) w)
    (R : World → Prop) (hR : Ways w d m1 m2 sv (chg D).1 (chg D).2.1 fw fp ft cw cp ct R) :
    Calls Try.prog 34 #[.pointer (some ⟨d, 0, none⟩), .func (.func fw) #[] cw, .func (.func fp) #[] cp, .func (.func ft) #[] ct] w fun e w' => e = .returned (.int .i64 (chg D).2.2) ∧ R w' := by
  obtain ⟨files, lasting, steps, cap, fu, fn, fe, dead, ch⟩ := D
  simp only at hd hch hfu hfn hfe
  subst hd
  have c7 : w.cell? ⟨d, 7, none⟩ = some (.bool false) := by rw [cell_of_block h]; rfl
  have c8 : w.cell? ⟨d, 8, none⟩ = some (.int .i64 ch) := by rw [cell_of_block h]; rfl
  have HR := Lib.hid hR
  have H := Lib.hid h
  clear h hR
  have hb59 : ∀ W : World, (Instr.build 59 #[]).run Try.prog W = .ok (.agg #[.int .i64 0, .int .i64 0]) W := fun _ => by kernel_rfl
  have b0 := H.out
  clear H
  -- CASES
  rcases hfe with rfl | rfl | rfl
  · rcases Int.lt_trichotomy fu 0 with hu | rfl | hu
    · skip
      have hu2 : ¬ 0 < fu := by omega
      have hu3 : ¬ fu = 0 := by omega
      have hc : chg ⟨files, lasting, steps, cap, fu, fn, 0, false, ch⟩ = (⟨files, lasting, steps, cap, fu, fn, 0, false, ch + 1⟩, 1, 0) := by simp [chg, hu, hu2, hu3]
      rw [hc] at HR ⊢
      clear hc hu3
      go_enter Try.func34, Try.ntmps34
      go_wp2_with (first | go_skip | (with_reducible refine stop_store (t := 3) ?_) | (with_reducible refine stop_store (t := 4) ?_) | (with_reducible refine stop_store (t := 59) ?_))
      refine at_out (wpList_skipE rfl (re_store (v := .int .i64 (ch + 1)) (n := 1) (by kernel_rfl) (by rfl) (by rfl) b0 (by rfl) (by simp [dcs, Value.cells]) (by simp [Value.cells, Value.oneCell'])) ?_)
      intro w1 s1
      simp only [Nat.reduceAdd, Nat.zero_add, Act.put, List.setIfInBounds_toArray, List.set_cons_succ, List.set_cons_zero]
      have b1 : w1.heap[d]? = some (.cells (dcs m1 m2 sv ⟨files, lasting, steps, cap, fu, fn, 0, false, ch + 1⟩) 61 (0, 0)) := s1.blk
      have k1 : Keeps (· = d) w w1 := s1.k
      have c41 : w1.cell? ⟨d, 4, none⟩ = some (.int .i64 (fu)) := (cell_of_block b1).trans rfl
      have c51 : w1.cell? ⟨d, 5, none⟩ = some (.int .i64 (fn)) := (cell_of_block b1).trans rfl
      have c61 : w1.cell? ⟨d, 6, none⟩ = some (.int .i64 (0)) := (cell_of_block b1).trans rfl
      clear s1
      obtain ⟨r0, r1, r2, r3⟩ := HR.out w1 b1 k1
      have HF := Lib.hid (r1 rfl)
      clear r0 r1 r2 r3
      go_wp2_with fail
      refine HF.out.mono ?_; rintro _ w9 ⟨⟨v, rfl⟩, hr⟩
      have HR9 := Lib.hid hr
      clear hr
      go_wp2
      go_ret
      exact ⟨rfl, HR9.out⟩
    · skip
      skip
      have hc : chg ⟨files, lasting, steps, cap, 0, fn, 0, false, ch⟩ = (⟨files, lasting, steps, cap, 0, fn, 0, true, ch + 1⟩, 3, 8) := by simp [chg]
      rw [hc] at HR ⊢
      clear hc
      skip
      go_enter Try.func34, Try.ntmps34
      go_wp2_with (first | go_skip | (with_reducible refine stop_store (t := 3) ?_) | (with_reducible refine stop_store (t := 4) ?_) | (with_reducible refine stop_store (t := 59) ?_))
      refine at_out (wpList_skipE rfl (re_store (v := .int .i64 (ch + 1)) (n := 1) (by kernel_rfl) (by rfl) (by rfl) b0 (by rfl) (by simp [dcs, Value.cells]) (by simp [Value.cells, Value.oneCell'])) ?_)
      intro w1 s1
      simp only [Nat.reduceAdd, Nat.zero_add, Act.put, List.setIfInBounds_toArray, List.set_cons_succ, List.set_cons_zero]
      have b1 : w1.heap[d]? = some (.cells (dcs m1 m2 sv ⟨files, lasting, steps, cap, 0, fn, 0, false, ch + 1⟩) 61 (0, 0)) := s1.blk
      have k1 : Keeps (· = d) w w1 := s1.k
      have c41 : w1.cell? ⟨d, 4, none⟩ = some (.int .i64 (0)) := (cell_of_block b1).trans rfl
      have c51 : w1.cell? ⟨d, 5, none⟩ = some (.int .i64 (fn)) := (cell_of_block b1).trans rfl
      have c61 : w1.cell? ⟨d, 6, none⟩ = some (.int .i64 (0)) := (cell_of_block b1).trans rfl
      clear s1
      go_wp2_with (first | go_skip | (with_reducible refine stop_store (t := 3) ?_) | (with_reducible refine stop_store (t := 4) ?_) | (with_reducible refine stop_store (t := 59) ?_))
      refine at_out (wpList_skipE rfl (re_store (v := .bool true) (n := 1) (by kernel_rfl) (by rfl) (by rfl) b1 (by rfl) (by simp [dcs, Value.cells]) (by simp [Value.cells, Value.oneCell'])) ?_)
      intro w2 s2
      simp only [Nat.reduceAdd, Nat.zero_add, Act.put, List.setIfInBounds_toArray, List.set_cons_succ, List.set_cons_zero]
      have b2 : w2.heap[d]? = some (.cells (dcs m1 m2 sv ⟨files, lasting, steps, cap, 0, fn, 0, true, ch + 1⟩) 61 (0, 0)) := s2.blk
      have k2 : Keeps (· = d) w w2 := k1.trans s2.k (fun _ _ e => e)
      have c42 : w2.cell? ⟨d, 4, none⟩ = some (.int .i64 (0)) := (cell_of_block b2).trans rfl
      have c52 : w2.cell? ⟨d, 5, none⟩ = some (.int .i64 (fn)) := (cell_of_block b2).trans rfl
      have c62 : w2.cell? ⟨d, 6, none⟩ = some (.int .i64 (0)) := (cell_of_block b2).trans rfl
      clear s2 c41 c51 c61
      obtain ⟨r0, r1, r2, r3⟩ := HR.out w2 b2 k2
      have HF := Lib.hid (r3 rfl)
      clear r0 r1 r2 r3
      go_wp2_with fail
      refine HF.out.mono ?_; rintro _ w9 ⟨⟨v, rfl⟩, hr⟩
      have HR9 := Lib.hid hr
      clear hr
      go_wp2
      go_ret
      exact ⟨rfl, HR9.out⟩
    · skip
      skip
      have hu3 : ¬ fu = 0 := by omega
      have hc : chg ⟨files, lasting, steps, cap, fu, fn, 0, false, ch⟩ = (⟨files, lasting, steps, cap, fu - 1, fn, 0, false, ch + 1⟩, 1, 0) := by simp [chg, hu, hu3]
      rw [hc] at HR ⊢
      clear hc hu3
      go_enter Try.func34, Try.ntmps34
      go_wp2_with (first | go_skip | (with_reducible refine stop_store (t := 3) ?_) | (with_reducible refine stop_store (t := 4) ?_) | (with_reducible refine stop_store (t := 59) ?_))
      refine at_out (wpList_skipE rfl (re_store (v := .int .i64 (ch + 1)) (n := 1) (by kernel_rfl) (by rfl) (by rfl) b0 (by rfl) (by simp [dcs, Value.cells]) (by simp [Value.cells, Value.oneCell'])) ?_)
      intro w1 s1
      simp only [Nat.reduceAdd, Nat.zero_add, Act.put, List.setIfInBounds_toArray, List.set_cons_succ, List.set_cons_zero]
      have b1 : w1.heap[d]? = some (.cells (dcs m1 m2 sv ⟨files, lasting, steps, cap, fu, fn, 0, false, ch + 1⟩) 61 (0, 0)) := s1.blk
      have k1 : Keeps (· = d) w w1 := s1.k
      have c41 : w1.cell? ⟨d, 4, none⟩ = some (.int .i64 (fu)) := (cell_of_block b1).trans rfl
      have c51 : w1.cell? ⟨d, 5, none⟩ = some (.int .i64 (fn)) := (cell_of_block b1).trans rfl
      have c61 : w1.cell? ⟨d, 6, none⟩ = some (.int .i64 (0)) := (cell_of_block b1).trans rfl
      clear s1
      go_wp2_with (first | go_skip | (with_reducible refine stop_store (t := 3) ?_) | (with_reducible refine stop_store (t := 4) ?_) | (with_reducible refine stop_store (t := 59) ?_))
      refine at_out (wpList_skipE rfl (re_store (v := .int .i64 (fu - 1)) (n := 1) (by kernel_rfl) (by rfl) (by rfl) b1 (by rfl) (by simp [dcs, Value.cells]) (by simp [Value.cells, Value.oneCell'])) ?_)
      intro w2 s2
      simp only [Nat.reduceAdd, Nat.zero_add, Act.put, List.setIfInBounds_toArray, List.set_cons_succ, List.set_cons_zero]
      have b2 : w2.heap[d]? = some (.cells (dcs m1 m2 sv ⟨files, lasting, steps, cap, fu - 1, fn, 0, false, ch + 1⟩) 61 (0, 0)) := s2.blk
      have k2 : Keeps (· = d) w w2 := k1.trans s2.k (fun _ _ e => e)
      have c42 : w2.cell? ⟨d, 4, none⟩ = some (.int .i64 (fu - 1)) := (cell_of_block b2).trans rfl
      have c52 : w2.cell? ⟨d, 5, none⟩ = some (.int .i64 (fn)) := (cell_of_block b2).trans rfl
      have c62 : w2.cell? ⟨d, 6, none⟩ = some (.int .i64 (0)) := (cell_of_block b2).trans rfl
      clear s2 c41 c51 c61
      obtain ⟨r0, r1, r2, r3⟩ := HR.out w2 b2 k2
      have HF := Lib.hid (r1 rfl)
      clear r0 r1 r2 r3
      go_wp2_with fail
      refine HF.out.mono ?_; rintro _ w9 ⟨⟨v, rfl⟩, hr⟩
      have HR9 := Lib.hid hr
      clear hr
      go_wp2
      go_ret
      exact ⟨rfl, HR9.out⟩
  · rcases Int.lt_trichotomy fu 0 with hu | rfl | hu
    · by_cases hn : 0 < fn
      · skip
        have hu2 : ¬ 0 < fu := by omega
        have hu3 : ¬ fu = 0 := by omega
        have hc : chg ⟨files, lasting, steps, cap, fu, fn, 5, false, ch⟩ = (⟨files, lasting, steps, cap, fu, fn - 1, 5, false, ch + 1⟩, 1, 0) := by simp [chg, hu, hu2, hu3, hn]
        rw [hc] at HR ⊢
        clear hc hu3
        go_enter Try.func34, Try.ntmps34
        go_wp2_with (first | go_skip | (with_reducible refine stop_store (t := 3) ?_) | (with_reducible refine stop_store (t := 4) ?_) | (with_reducible refine stop_store (t := 59) ?_))
        refine at_out (wpList_skipE rfl (re_store (v := .int .i64 (ch + 1)) (n := 1) (by kernel_rfl) (by rfl) (by rfl) b0 (by rfl) (by simp [dcs, Value.cells]) (by simp [Value.cells, Value.oneCell'])) ?_)
        intro w1 s1
        simp only [Nat.reduceAdd, Nat.zero_add, Act.put, List.setIfInBounds_toArray, List.set_cons_succ, List.set_cons_zero]
        have b1 : w1.heap[d]? = some (.cells (dcs m1 m2 sv ⟨files, lasting, steps, cap, fu, fn, 5, false, ch + 1⟩) 61 (0, 0)) := s1.blk
        have k1 : Keeps (· = d) w w1 := s1.k
        have c41 : w1.cell? ⟨d, 4, none⟩ = some (.int .i64 (fu)) := (cell_of_block b1).trans rfl
        have c51 : w1.cell? ⟨d, 5, none⟩ = some (.int .i64 (fn)) := (cell_of_block b1).trans rfl
        have c61 : w1.cell? ⟨d, 6, none⟩ = some (.int .i64 (5)) := (cell_of_block b1).trans rfl
        clear s1
        go_wp2_with (first | go_skip | (with_reducible refine stop_store (t := 3) ?_) | (with_reducible refine stop_store (t := 4) ?_) | (with_reducible refine stop_store (t := 59) ?_))
        refine at_out (wpList_skipE rfl (re_store (v := .int .i64 (fn - 1)) (n := 1) (by kernel_rfl) (by rfl) (by rfl) b1 (by rfl) (by simp [dcs, Value.cells]) (by simp [Value.cells, Value.oneCell'])) ?_)
        intro w2 s2
        simp only [Nat.reduceAdd, Nat.zero_add, Act.put, List.setIfInBounds_toArray, List.set_cons_succ, List.set_cons_zero]
        have b2 : w2.heap[d]? = some (.cells (dcs m1 m2 sv ⟨files, lasting, steps, cap, fu, fn - 1, 5, false, ch + 1⟩) 61 (0, 0)) := s2.blk
        have k2 : Keeps (· = d) w w2 := k1.trans s2.k (fun _ _ e => e)
        have c42 : w2.cell? ⟨d, 4, none⟩ = some (.int .i64 (fu)) := (cell_of_block b2).trans rfl
        have c52 : w2.cell? ⟨d, 5, none⟩ = some (.int .i64 (fn - 1)) := (cell_of_block b2).trans rfl
        have c62 : w2.cell? ⟨d, 6, none⟩ = some (.int .i64 (5)) := (cell_of_block b2).trans rfl
        clear s2 c41 c51 c61
        obtain ⟨r0, r1, r2, r3⟩ := HR.out w2 b2 k2
        have HF := Lib.hid (r1 rfl)
        clear r0 r1 r2 r3
        go_wp2_with fail
        refine HF.out.mono ?_; rintro _ w9 ⟨⟨v, rfl⟩, hr⟩
        have HR9 := Lib.hid hr
        clear hr
        go_wp2
        go_ret
        exact ⟨rfl, HR9.out⟩
      · skip
        have hu2 : ¬ 0 < fu := by omega
        have hu3 : ¬ fu = 0 := by omega
        have hc : chg ⟨files, lasting, steps, cap, fu, fn, 5, false, ch⟩ = (⟨files, lasting, steps, cap, fu, 0, 0, false, ch + 1⟩, 0, 5) := by simp [chg, hu, hu2, hu3, hn]
        rw [hc] at HR ⊢
        clear hc hu3
        go_enter Try.func34, Try.ntmps34
        go_wp2_with (first | go_skip | (with_reducible refine stop_store (t := 3) ?_) | (with_reducible refine stop_store (t := 4) ?_) | (with_reducible refine stop_store (t := 59) ?_))
        refine at_out (wpList_skipE rfl (re_store (v := .int .i64 (ch + 1)) (n := 1) (by kernel_rfl) (by rfl) (by rfl) b0 (by rfl) (by simp [dcs, Value.cells]) (by simp [Value.cells, Value.oneCell'])) ?_)
        intro w1 s1
        simp only [Nat.reduceAdd, Nat.zero_add, Act.put, List.setIfInBounds_toArray, List.set_cons_succ, List.set_cons_zero]
        have b1 : w1.heap[d]? = some (.cells (dcs m1 m2 sv ⟨files, lasting, steps, cap, fu, fn, 5, false, ch + 1⟩) 61 (0, 0)) := s1.blk
        have k1 : Keeps (· = d) w w1 := s1.k
        have c41 : w1.cell? ⟨d, 4, none⟩ = some (.int .i64 (fu)) := (cell_of_block b1).trans rfl
        have c51 : w1.cell? ⟨d, 5, none⟩ = some (.int .i64 (fn)) := (cell_of_block b1).trans rfl
        have c61 : w1.cell? ⟨d, 6, none⟩ = some (.int .i64 (5)) := (cell_of_block b1).trans rfl
        clear s1
        go_wp2_with (first | go_skip | (with_reducible refine stop_store (t := 3) ?_) | (with_reducible refine stop_store (t := 4) ?_) | (with_reducible refine stop_store (t := 59) ?_))
        refine at_out (wpList_skipE rfl (re_store (v := .agg #[.int .i64 0, .int .i64 0]) (n := 2) (by kernel_rfl) (by rfl) (by rfl) b1 (by rfl) (by simp [dcs, Value.cells]) (by simp [Value.cells, Value.oneCell'])) ?_)
        intro w2 s2
        simp only [Nat.reduceAdd, Nat.zero_add, Act.put, List.setIfInBounds_toArray, List.set_cons_succ, List.set_cons_zero]
        have b2 : w2.heap[d]? = some (.cells (dcs m1 m2 sv ⟨files, lasting, steps, cap, fu, 0, 0, false, ch + 1⟩) 61 (0, 0)) := s2.blk
        have k2 : Keeps (· = d) w w2 := k1.trans s2.k (fun _ _ e => e)
        have c42 : w2.cell? ⟨d, 4, none⟩ = some (.int .i64 (fu)) := (cell_of_block b2).trans rfl
        have c52 : w2.cell? ⟨d, 5, none⟩ = some (.int .i64 (0)) := (cell_of_block b2).trans rfl
        have c62 : w2.cell? ⟨d, 6, none⟩ = some (.int .i64 (0)) := (cell_of_block b2).trans rfl
        clear s2 c41 c51 c61
        obtain ⟨r0, r1, r2, r3⟩ := HR.out w2 b2 k2
        have HF := Lib.hid (r0 rfl)
        clear r0 r1 r2 r3
        go_wp2
        go_ret
        exact ⟨rfl, HF.out⟩
    · by_cases hn : 0 < fn
      · skip
        skip
        have hc : chg ⟨files, lasting, steps, cap, 0, fn, 5, false, ch⟩ = (⟨files, lasting, steps, cap, 0, fn - 1, 5, true, ch + 1⟩, 3, 8) := by simp [chg, hn]
        rw [hc] at HR ⊢
        clear hc
        skip
        go_enter Try.func34, Try.ntmps34
        go_wp2_with (first | go_skip | (with_reducible refine stop_store (t := 3) ?_) | (with_reducible refine stop_store (t := 4) ?_) | (with_reducible refine stop_store (t := 59) ?_))
        refine at_out (wpList_skipE rfl (re_store (v := .int .i64 (ch + 1)) (n := 1) (by kernel_rfl) (by rfl) (by rfl) b0 (by rfl) (by simp [dcs, Value.cells]) (by simp [Value.cells, Value.oneCell'])) ?_)
        intro w1 s1
        simp only [Nat.reduceAdd, Nat.zero_add, Act.put, List.setIfInBounds_toArray, List.set_cons_succ, List.set_cons_zero]
        have b1 : w1.heap[d]? = some (.cells (dcs m1 m2 sv ⟨files, lasting, steps, cap, 0, fn, 5, false, ch + 1⟩) 61 (0, 0)) := s1.blk
        have k1 : Keeps (· = d) w w1 := s1.k
        have c41 : w1.cell? ⟨d, 4, none⟩ = some (.int .i64 (0)) := (cell_of_block b1).trans rfl
        have c51 : w1.cell? ⟨d, 5, none⟩ = some (.int .i64 (fn)) := (cell_of_block b1).trans rfl
        have c61 : w1.cell? ⟨d, 6, none⟩ = some (.int .i64 (5)) := (cell_of_block b1).trans rfl
        clear s1
        go_wp2_with (first | go_skip | (with_reducible refine stop_store (t := 3) ?_) | (with_reducible refine stop_store (t := 4) ?_) | (with_reducible refine stop_store (t := 59) ?_))
        refine at_out (wpList_skipE rfl (re_store (v := .int .i64 (fn - 1)) (n := 1) (by kernel_rfl) (by rfl) (by rfl) b1 (by rfl) (by simp [dcs, Value.cells]) (by simp [Value.cells, Value.oneCell'])) ?_)
        intro w2 s2
        simp only [Nat.reduceAdd, Nat.zero_add, Act.put, List.setIfInBounds_toArray, List.set_cons_succ, List.set_cons_zero]
        have b2 : w2.heap[d]? = some (.cells (dcs m1 m2 sv ⟨files, lasting, steps, cap, 0, fn - 1, 5, false, ch + 1⟩) 61 (0, 0)) := s2.blk
        have k2 : Keeps (· = d) w w2 := k1.trans s2.k (fun _ _ e => e)
        have c42 : w2.cell? ⟨d, 4, none⟩ = some (.int .i64 (0)) := (cell_of_block b2).trans rfl
        have c52 : w2.cell? ⟨d, 5, none⟩ = some (.int .i64 (fn - 1)) := (cell_of_block b2).trans rfl
        have c62 : w2.cell? ⟨d, 6, none⟩ = some (.int .i64 (5)) := (cell_of_block b2).trans rfl
        clear s2 c41 c51 c61
        go_wp2_with (first | go_skip | (with_reducible refine stop_store (t := 3) ?_) | (with_reducible refine stop_store (t := 4) ?_) | (with_reducible refine stop_store (t := 59) ?_))
        refine at_out (wpList_skipE rfl (re_store (v := .bool true) (n := 1) (by kernel_rfl) (by rfl) (by rfl) b2 (by rfl) (by simp [dcs, Value.cells]) (by simp [Value.cells, Value.oneCell'])) ?_)
        intro w3 s3
        simp only [Nat.reduceAdd, Nat.zero_add, Act.put, List.setIfInBounds_toArray, List.set_cons_succ, List.set_cons_zero]
        have b3 : w3.heap[d]? = some (.cells (dcs m1 m2 sv ⟨files, lasting, steps, cap, 0, fn - 1, 5, true, ch + 1⟩) 61 (0, 0)) := s3.blk
        have k3 : Keeps (· = d) w w3 := k2.trans s3.k (fun _ _ e => e)
        have c43 : w3.cell? ⟨d, 4, none⟩ = some (.int .i64 (0)) := (cell_of_block b3).trans rfl
        have c53 : w3.cell? ⟨d, 5, none⟩ = some (.int .i64 (fn - 1)) := (cell_of_block b3).trans rfl
        have c63 : w3.cell? ⟨d, 6, none⟩ = some (.int .i64 (5)) := (cell_of_block b3).trans rfl
        clear s3 c42 c52 c62
        obtain ⟨r0, r1, r2, r3⟩ := HR.out w3 b3 k3
        have HF := Lib.hid (r3 rfl)
        clear r0 r1 r2 r3
        go_wp2_with fail
        refine HF.out.mono ?_; rintro _ w9 ⟨⟨v, rfl⟩, hr⟩
        have HR9 := Lib.hid hr
        clear hr
        go_wp2
        go_ret
        exact ⟨rfl, HR9.out⟩
      · skip
        skip
        have hc : chg ⟨files, lasting, steps, cap, 0, fn, 5, false, ch⟩ = (⟨files, lasting, steps, cap, 0, 0, 0, false, ch + 1⟩, 0, 5) := by simp [chg, hn]
        rw [hc] at HR ⊢
        clear hc
        skip
        go_enter Try.func34, Try.ntmps34
        go_wp2_with (first | go_skip | (with_reducible refine stop_store (t := 3) ?_) | (with_reducible refine stop_store (t := 4) ?_) | (with_reducible refine stop_store (t := 59) ?_))
        refine at_out (wpList_skipE rfl (re_store (v := .int .i64 (ch + 1)) (n := 1) (by kernel_rfl) (by rfl) (by rfl) b0 (by rfl) (by simp [dcs, Value.cells]) (by simp [Value.cells, Value.oneCell'])) ?_)
        intro w1 s1
        simp only [Nat.reduceAdd, Nat.zero_add, Act.put, List.setIfInBounds_toArray, List.set_cons_succ, List.set_cons_zero]
        have b1 : w1.heap[d]? = some (.cells (dcs m1 m2 sv ⟨files, lasting, steps, cap, 0, fn, 5, false, ch + 1⟩) 61 (0, 0)) := s1.blk
        have k1 : Keeps (· = d) w w1 := s1.k
        have c41 : w1.cell? ⟨d, 4, none⟩ = some (.int .i64 (0)) := (cell_of_block b1).trans rfl
        have c51 : w1.cell? ⟨d, 5, none⟩ = some (.int .i64 (fn)) := (cell_of_block b1).trans rfl
        have c61 : w1.cell? ⟨d, 6, none⟩ = some (.int .i64 (5)) := (cell_of_block b1).trans rfl
        clear s1
        go_wp2_with (first | go_skip | (with_reducible refine stop_store (t := 3) ?_) | (with_reducible refine stop_store (t := 4) ?_) | (with_reducible refine stop_store (t := 59) ?_))
        refine at_out (wpList_skipE rfl (re_store (v := .agg #[.int .i64 0, .int .i64 0]) (n := 2) (by kernel_rfl) (by rfl) (by rfl) b1 (by rfl) (by simp [dcs, Value.cells]) (by simp [Value.cells, Value.oneCell'])) ?_)
        intro w2 s2
        simp only [Nat.reduceAdd, Nat.zero_add, Act.put, List.setIfInBounds_toArray, List.set_cons_succ, List.set_cons_zero]
        have b2 : w2.heap[d]? = some (.cells (dcs m1 m2 sv ⟨files, lasting, steps, cap, 0, 0, 0, false, ch + 1⟩) 61 (0, 0)) := s2.blk
        have k2 : Keeps (· = d) w w2 := k1.trans s2.k (fun _ _ e => e)
        have c42 : w2.cell? ⟨d, 4, none⟩ = some (.int .i64 (0)) := (cell_of_block b2).trans rfl
        have c52 : w2.cell? ⟨d, 5, none⟩ = some (.int .i64 (0)) := (cell_of_block b2).trans rfl
        have c62 : w2.cell? ⟨d, 6, none⟩ = some (.int .i64 (0)) := (cell_of_block b2).trans rfl
        clear s2 c41 c51 c61
        obtain ⟨r0, r1, r2, r3⟩ := HR.out w2 b2 k2
        have HF := Lib.hid (r0 rfl)
        clear r0 r1 r2 r3
        go_wp2
        go_ret
        exact ⟨rfl, HF.out⟩
    · by_cases hn : 0 < fn
      · skip
        skip
        have hu3 : ¬ fu = 0 := by omega
        have hc : chg ⟨files, lasting, steps, cap, fu, fn, 5, false, ch⟩ = (⟨files, lasting, steps, cap, fu - 1, fn - 1, 5, false, ch + 1⟩, 1, 0) := by simp [chg, hu, hu3, hn]
        rw [hc] at HR ⊢
        clear hc hu3
        go_enter Try.func34, Try.ntmps34
        go_wp2_with (first | go_skip | (with_reducible refine stop_store (t := 3) ?_) | (with_reducible refine stop_store (t := 4) ?_) | (with_reducible refine stop_store (t := 59) ?_))
        refine at_out (wpList_skipE rfl (re_store (v := .int .i64 (ch + 1)) (n := 1) (by kernel_rfl) (by rfl) (by rfl) b0 (by rfl) (by simp [dcs, Value.cells]) (by simp [Value.cells, Value.oneCell'])) ?_)
        intro w1 s1
        simp only [Nat.reduceAdd, Nat.zero_add, Act.put, List.setIfInBounds_toArray, List.set_cons_succ, List.set_cons_zero]
        have b1 : w1.heap[d]? = some (.cells (dcs m1 m2 sv ⟨files, lasting, steps, cap, fu, fn, 5, false, ch + 1⟩) 61 (0, 0)) := s1.blk
        have k1 : Keeps (· = d) w w1 := s1.k
        have c41 : w1.cell? ⟨d, 4, none⟩ = some (.int .i64 (fu)) := (cell_of_block b1).trans rfl
        have c51 : w1.cell? ⟨d, 5, none⟩ = some (.int .i64 (fn)) := (cell_of_block b1).trans rfl
        have c61 : w1.cell? ⟨d, 6, none⟩ = some (.int .i64 (5)) := (cell_of_block b1).trans rfl
        clear s1
        go_wp2_with (first | go_skip | (with_reducible refine stop_store (t := 3) ?_) | (with_reducible refine stop_store (t := 4) ?_) | (with_reducible refine stop_store (t := 59) ?_))
        refine at_out (wpList_skipE rfl (re_store (v := .int .i64 (fu - 1)) (n := 1) (by kernel_rfl) (by rfl) (by rfl) b1 (by rfl) (by simp [dcs, Value.cells]) (by simp [Value.cells, Value.oneCell'])) ?_)
        intro w2 s2
        simp only [Nat.reduceAdd, Nat.zero_add, Act.put, List.setIfInBounds_toArray, List.set_cons_succ, List.set_cons_zero]
        have b2 : w2.heap[d]? = some (.cells (dcs m1 m2 sv ⟨files, lasting, steps, cap, fu - 1, fn, 5, false, ch + 1⟩) 61 (0, 0)) := s2.blk
        have k2 : Keeps (· = d) w w2 := k1.trans s2.k (fun _ _ e => e)
        have c42 : w2.cell? ⟨d, 4, none⟩ = some (.int .i64 (fu - 1)) := (cell_of_block b2).trans rfl
        have c52 : w2.cell? ⟨d, 5, none⟩ = some (.int .i64 (fn)) := (cell_of_block b2).trans rfl
        have c62 : w2.cell? ⟨d, 6, none⟩ = some (.int .i64 (5)) := (cell_of_block b2).trans rfl
        clear s2 c41 c51 c61
        go_wp2_with (first | go_skip | (with_reducible refine stop_store (t := 3) ?_) | (with_reducible refine stop_store (t := 4) ?_) | (with_reducible refine stop_store (t := 59) ?_))
        refine at_out (wpList_skipE rfl (re_store (v := .int .i64 (fn - 1)) (n := 1) (by kernel_rfl) (by rfl) (by rfl) b2 (by rfl) (by simp [dcs, Value.cells]) (by simp [Value.cells, Value.oneCell'])) ?_)
        intro w3 s3
        simp only [Nat.reduceAdd, Nat.zero_add, Act.put, List.setIfInBounds_toArray, List.set_cons_succ, List.set_cons_zero]
        have b3 : w3.heap[d]? = some (.cells (dcs m1 m2 sv ⟨files, lasting, steps, cap, fu - 1, fn - 1, 5, false, ch + 1⟩) 61 (0, 0)) := s3.blk
        have k3 : Keeps (· = d) w w3 := k2.trans s3.k (fun _ _ e => e)
        have c43 : w3.cell? ⟨d, 4, none⟩ = some (.int .i64 (fu - 1)) := (cell_of_block b3).trans rfl
        have c53 : w3.cell? ⟨d, 5, none⟩ = some (.int .i64 (fn - 1)) := (cell_of_block b3).trans rfl
        have c63 : w3.cell? ⟨d, 6, none⟩ = some (.int .i64 (5)) := (cell_of_block b3).trans rfl
        clear s3 c42 c52 c62
        obtain ⟨r0, r1, r2, r3⟩ := HR.out w3 b3 k3
        have HF := Lib.hid (r1 rfl)
        clear r0 r1 r2 r3
        go_wp2_with fail
        refine HF.out.mono ?_; rintro _ w9 ⟨⟨v, rfl⟩, hr⟩
        have HR9 := Lib.hid hr
        clear hr
        go_wp2
        go_ret
        exact ⟨rfl, HR9.out⟩
      · skip
        skip
        have hu3 : ¬ fu = 0 := by omega
        have hc : chg ⟨files, lasting, steps, cap, fu, fn, 5, false, ch⟩ = (⟨files, lasting, steps, cap, fu - 1, 0, 0, false, ch + 1⟩, 0, 5) := by simp [chg, hu, hu3, hn]
        rw [hc] at HR ⊢
        clear hc hu3
        go_enter Try.func34, Try.ntmps34
        go_wp2_with (first | go_skip | (with_reducible refine stop_store (t := 3) ?_) | (with_reducible refine stop_store (t := 4) ?_) | (with_reducible refine stop_store (t := 59) ?_))
        refine at_out (wpList_skipE rfl (re_store (v := .int .i64 (ch + 1)) (n := 1) (by kernel_rfl) (by rfl) (by rfl) b0 (by rfl) (by simp [dcs, Value.cells]) (by simp [Value.cells, Value.oneCell'])) ?_)
        intro w1 s1
        simp only [Nat.reduceAdd, Nat.zero_add, Act.put, List.setIfInBounds_toArray, List.set_cons_succ, List.set_cons_zero]
        have b1 : w1.heap[d]? = some (.cells (dcs m1 m2 sv ⟨files, lasting, steps, cap, fu, fn, 5, false, ch + 1⟩) 61 (0, 0)) := s1.blk
        have k1 : Keeps (· = d) w w1 := s1.k
        have c41 : w1.cell? ⟨d, 4, none⟩ = some (.int .i64 (fu)) := (cell_of_block b1).trans rfl
        have c51 : w1.cell? ⟨d, 5, none⟩ = some (.int .i64 (fn)) := (cell_of_block b1).trans rfl
        have c61 : w1.cell? ⟨d, 6, none⟩ = some (.int .i64 (5)) := (cell_of_block b1).trans rfl
        clear s1
        go_wp2_with (first | go_skip | (with_reducible refine stop_store (t := 3) ?_) | (with_reducible refine stop_store (t := 4) ?_) | (with_reducible refine stop_store (t := 59) ?_))
        refine at_out (wpList_skipE rfl (re_store (v := .int .i64 (fu - 1)) (n := 1) (by kernel_rfl) (by rfl) (by rfl) b1 (by rfl) (by simp [dcs, Value.cells]) (by simp [Value.cells, Value.oneCell'])) ?_)
        intro w2 s2
        simp only [Nat.reduceAdd, Nat.zero_add, Act.put, List.setIfInBounds_toArray, List.set_cons_succ, List.set_cons_zero]
        have b2 : w2.heap[d]? = some (.cells (dcs m1 m2 sv ⟨files, lasting, steps, cap, fu - 1, fn, 5, false, ch + 1⟩) 61 (0, 0)) := s2.blk
        have k2 : Keeps (· = d) w w2 := k1.trans s2.k (fun _ _ e => e)
        have c42 : w2.cell? ⟨d, 4, none⟩ = some (.int .i64 (fu - 1)) := (cell_of_block b2).trans rfl
        have c52 : w2.cell? ⟨d, 5, none⟩ = some (.int .i64 (fn)) := (cell_of_block b2).trans rfl
        have c62 : w2.cell? ⟨d, 6, none⟩ = some (.int .i64 (5)) := (cell_of_block b2).trans rfl
        clear s2 c41 c51 c61
        go_wp2_with (first | go_skip | (with_reducible refine stop_store (t := 3) ?_) | (with_reducible refine stop_store (t := 4) ?_) | (with_reducible refine stop_store (t := 59) ?_))
        refine at_out (wpList_skipE rfl (re_store (v := .agg #[.int .i64 0, .int .i64 0]) (n := 2) (by kernel_rfl) (by rfl) (by rfl) b2 (by rfl) (by simp [dcs, Value.cells]) (by simp [Value.cells, Value.oneCell'])) ?_)
        intro w3 s3
        simp only [Nat.reduceAdd, Nat.zero_add, Act.put, List.setIfInBounds_toArray, List.set_cons_succ, List.set_cons_zero]
        have b3 : w3.heap[d]? = some (.cells (dcs m1 m2 sv ⟨files, lasting, steps, cap, fu - 1, 0, 0, false, ch + 1⟩) 61 (0, 0)) := s3.blk
        have k3 : Keeps (· = d) w w3 := k2.trans s3.k (fun _ _ e => e)
        have c43 : w3.cell? ⟨d, 4, none⟩ = some (.int .i64 (fu - 1)) := (cell_of_block b3).trans rfl
        have c53 : w3.cell? ⟨d, 5, none⟩ = some (.int .i64 (0)) := (cell_of_block b3).trans rfl
        have c63 : w3.cell? ⟨d, 6, none⟩ = some (.int .i64 (0)) := (cell_of_block b3).trans rfl
        clear s3 c42 c52 c62
        obtain ⟨r0, r1, r2, r3⟩ := HR.out w3 b3 k3
        have HF := Lib.hid (r0 rfl)
        clear r0 r1 r2 r3
        go_wp2
        go_ret
        exact ⟨rfl, HF.out⟩
  · rcases Int.lt_trichotomy fu 0 with hu | rfl | hu
    · by_cases hn : 0 < fn
      · skip
        have hu2 : ¬ 0 < fu := by omega
        have hu3 : ¬ fu = 0 := by omega
        have hc : chg ⟨files, lasting, steps, cap, fu, fn, 9, false, ch⟩ = (⟨files, lasting, steps, cap, fu, fn - 1, 9, false, ch + 1⟩, 1, 0) := by simp [chg, hu, hu2, hu3, hn]
        rw [hc] at HR ⊢
        clear hc hu3
        go_enter Try.func34, Try.ntmps34
        go_wp2_with (first | go_skip | (with_reducible refine stop_store (t := 3) ?_) | (with_reducible refine stop_store (t := 4) ?_) | (with_reducible refine stop_store (t := 59) ?_))
        refine at_out (wpList_skipE rfl (re_store (v := .int .i64 (ch + 1)) (n := 1) (by kernel_rfl) (by rfl) (by rfl) b0 (by rfl) (by simp [dcs, Value.cells]) (by simp [Value.cells, Value.oneCell'])) ?_)
        intro w1 s1
        simp only [Nat.reduceAdd, Nat.zero_add, Act.put, List.setIfInBounds_toArray, List.set_cons_succ, List.set_cons_zero]
        have b1 : w1.heap[d]? = some (.cells (dcs m1 m2 sv ⟨files, lasting, steps, cap, fu, fn, 9, false, ch + 1⟩) 61 (0, 0)) := s1.blk
        have k1 : Keeps (· = d) w w1 := s1.k
        have c41 : w1.cell? ⟨d, 4, none⟩ = some (.int .i64 (fu)) := (cell_of_block b1).trans rfl
        have c51 : w1.cell? ⟨d, 5, none⟩ = some (.int .i64 (fn)) := (cell_of_block b1).trans rfl
        have c61 : w1.cell? ⟨d, 6, none⟩ = some (.int .i64 (9)) := (cell_of_block b1).trans rfl
        clear s1
        go_wp2_with (first | go_skip | (with_reducible refine stop_store (t := 3) ?_) | (with_reducible refine stop_store (t := 4) ?_) | (with_reducible refine stop_store (t := 59) ?_))
        refine at_out (wpList_skipE rfl (re_store (v := .int .i64 (fn - 1)) (n := 1) (by kernel_rfl) (by rfl) (by rfl) b1 (by rfl) (by simp [dcs, Value.cells]) (by simp [Value.cells, Value.oneCell'])) ?_)
        intro w2 s2
        simp only [Nat.reduceAdd, Nat.zero_add, Act.put, List.setIfInBounds_toArray, List.set_cons_succ, List.set_cons_zero]
        have b2 : w2.heap[d]? = some (.cells (dcs m1 m2 sv ⟨files, lasting, steps, cap, fu, fn - 1, 9, false, ch + 1⟩) 61 (0, 0)) := s2.blk
        have k2 : Keeps (· = d) w w2 := k1.trans s2.k (fun _ _ e => e)
        have c42 : w2.cell? ⟨d, 4, none⟩ = some (.int .i64 (fu)) := (cell_of_block b2).trans rfl
        have c52 : w2.cell? ⟨d, 5, none⟩ = some (.int .i64 (fn - 1)) := (cell_of_block b2).trans rfl
        have c62 : w2.cell? ⟨d, 6, none⟩ = some (.int .i64 (9)) := (cell_of_block b2).trans rfl
        clear s2 c41 c51 c61
        obtain ⟨r0, r1, r2, r3⟩ := HR.out w2 b2 k2
        have HF := Lib.hid (r1 rfl)
        clear r0 r1 r2 r3
        go_wp2_with fail
        refine HF.out.mono ?_; rintro _ w9 ⟨⟨v, rfl⟩, hr⟩
        have HR9 := Lib.hid hr
        clear hr
        go_wp2
        go_ret
        exact ⟨rfl, HR9.out⟩
      · skip
        have hu2 : ¬ 0 < fu := by omega
        have hu3 : ¬ fu = 0 := by omega
        have hc : chg ⟨files, lasting, steps, cap, fu, fn, 9, false, ch⟩ = (⟨files, lasting, steps, cap, fu, 0, 0, false, ch + 1⟩, 2, 9) := by simp [chg, hu, hu2, hu3, hn]
        rw [hc] at HR ⊢
        clear hc hu3
        go_enter Try.func34, Try.ntmps34
        go_wp2_with (first | go_skip | (with_reducible refine stop_store (t := 3) ?_) | (with_reducible refine stop_store (t := 4) ?_) | (with_reducible refine stop_store (t := 59) ?_))
        refine at_out (wpList_skipE rfl (re_store (v := .int .i64 (ch + 1)) (n := 1) (by kernel_rfl) (by rfl) (by rfl) b0 (by rfl) (by simp [dcs, Value.cells]) (by simp [Value.cells, Value.oneCell'])) ?_)
        intro w1 s1
        simp only [Nat.reduceAdd, Nat.zero_add, Act.put, List.setIfInBounds_toArray, List.set_cons_succ, List.set_cons_zero]
        have b1 : w1.heap[d]? = some (.cells (dcs m1 m2 sv ⟨files, lasting, steps, cap, fu, fn, 9, false, ch + 1⟩) 61 (0, 0)) := s1.blk
        have k1 : Keeps (· = d) w w1 := s1.k
        have c41 : w1.cell? ⟨d, 4, none⟩ = some (.int .i64 (fu)) := (cell_of_block b1).trans rfl
        have c51 : w1.cell? ⟨d, 5, none⟩ = some (.int .i64 (fn)) := (cell_of_block b1).trans rfl
        have c61 : w1.cell? ⟨d, 6, none⟩ = some (.int .i64 (9)) := (cell_of_block b1).trans rfl
        clear s1
        go_wp2_with (first | go_skip | (with_reducible refine stop_store (t := 3) ?_) | (with_reducible refine stop_store (t := 4) ?_) | (with_reducible refine stop_store (t := 59) ?_))
        refine at_out (wpList_skipE rfl (re_store (v := .agg #[.int .i64 0, .int .i64 0]) (n := 2) (by kernel_rfl) (by rfl) (by rfl) b1 (by rfl) (by simp [dcs, Value.cells]) (by simp [Value.cells, Value.oneCell'])) ?_)
        intro w2 s2
        simp only [Nat.reduceAdd, Nat.zero_add, Act.put, List.setIfInBounds_toArray, List.set_cons_succ, List.set_cons_zero]
        have b2 : w2.heap[d]? = some (.cells (dcs m1 m2 sv ⟨files, lasting, steps, cap, fu, 0, 0, false, ch + 1⟩) 61 (0, 0)) := s2.blk
        have k2 : Keeps (· = d) w w2 := k1.trans s2.k (fun _ _ e => e)
        have c42 : w2.cell? ⟨d, 4, none⟩ = some (.int .i64 (fu)) := (cell_of_block b2).trans rfl
        have c52 : w2.cell? ⟨d, 5, none⟩ = some (.int .i64 (0)) := (cell_of_block b2).trans rfl
        have c62 : w2.cell? ⟨d, 6, none⟩ = some (.int .i64 (0)) := (cell_of_block b2).trans rfl
        clear s2 c41 c51 c61
        obtain ⟨r0, r1, r2, r3⟩ := HR.out w2 b2 k2
        have HF := Lib.hid (r2 rfl)
        clear r0 r1 r2 r3
        go_wp2_with fail
        refine HF.out.mono ?_; rintro _ w9 ⟨⟨v, rfl⟩, hr⟩
        have HR9 := Lib.hid hr
        clear hr
        go_wp2
        go_ret
        exact ⟨rfl, HR9.out⟩
    · by_cases hn : 0 < fn
      · skip
        skip
        have hc : chg ⟨files, lasting, steps, cap, 0, fn, 9, false, ch⟩ = (⟨files, lasting, steps, cap, 0, fn - 1, 9, true, ch + 1⟩, 3, 8) := by simp [chg, hn]
        rw [hc] at HR ⊢
        clear hc
        skip
        go_enter Try.func34, Try.ntmps34
        go_wp2_with (first | go_skip | (with_reducible refine stop_store (t := 3) ?_) | (with_reducible refine stop_store (t := 4) ?_) | (with_reducible refine stop_store (t := 59) ?_))
        refine at_out (wpList_skipE rfl (re_store (v := .int .i64 (ch + 1)) (n := 1) (by kernel_rfl) (by rfl) (by rfl) b0 (by rfl) (by simp [dcs, Value.cells]) (by simp [Value.cells, Value.oneCell'])) ?_)
        intro w1 s1
        simp only [Nat.reduceAdd, Nat.zero_add, Act.put, List.setIfInBounds_toArray, List.set_cons_succ, List.set_cons_zero]
        have b1 : w1.heap[d]? = some (.cells (dcs m1 m2 sv ⟨files, lasting, steps, cap, 0, fn, 9, false, ch + 1⟩) 61 (0, 0)) := s1.blk
        have k1 : Keeps (· = d) w w1 := s1.k
        have c41 : w1.cell? ⟨d, 4, none⟩ = some (.int .i64 (0)) := (cell_of_block b1).trans rfl
        have c51 : w1.cell? ⟨d, 5, none⟩ = some (.int .i64 (fn)) := (cell_of_block b1).trans rfl
        have c61 : w1.cell? ⟨d, 6, none⟩ = some (.int .i64 (9)) := (cell_of_block b1).trans rfl
        clear s1
        go_wp2_with (first | go_skip | (with_reducible refine stop_store (t := 3) ?_) | (with_reducible refine stop_store (t := 4) ?_) | (with_reducible refine stop_store (t := 59) ?_))
        refine at_out (wpList_skipE rfl (re_store (v := .int .i64 (fn - 1)) (n := 1) (by kernel_rfl) (by rfl) (by rfl) b1 (by rfl) (by simp [dcs, Value.cells]) (by simp [Value.cells, Value.oneCell'])) ?_)
        intro w2 s2
        simp only [Nat.reduceAdd, Nat.zero_add, Act.put, List.setIfInBounds_toArray, List.set_cons_succ, List.set_cons_zero]
        have b2 : w2.heap[d]? = some (.cells (dcs m1 m2 sv ⟨files, lasting, steps, cap, 0, fn - 1, 9, false, ch + 1⟩) 61 (0, 0)) := s2.blk
        have k2 : Keeps (· = d) w w2 := k1.trans s2.k (fun _ _ e => e)
        have c42 : w2.cell? ⟨d, 4, none⟩ = some (.int .i64 (0)) := (cell_of_block b2).trans rfl
        have c52 : w2.cell? ⟨d, 5, none⟩ = some (.int .i64 (fn - 1)) := (cell_of_block b2).trans rfl
        have c62 : w2.cell? ⟨d, 6, none⟩ = some (.int .i64 (9)) := (cell_of_block b2).trans rfl
        clear s2 c41 c51 c61
        go_wp2_with (first | go_skip | (with_reducible refine stop_store (t := 3) ?_) | (with_reducible refine stop_store (t := 4) ?_) | (with_reducible refine stop_store (t := 59) ?_))
        refine at_out (wpList_skipE rfl (re_store (v := .bool true) (n := 1) (by kernel_rfl) (by rfl) (by rfl) b2 (by rfl) (by simp [dcs, Value.cells]) (by simp [Value.cells, Value.oneCell'])) ?_)
        intro w3 s3
        simp only [Nat.reduceAdd, Nat.zero_add, Act.put, List.setIfInBounds_toArray, List.set_cons_succ, List.set_cons_zero]
        have b3 : w3.heap[d]? = some (.cells (dcs m1 m2 sv ⟨files, lasting, steps, cap, 0, fn - 1, 9, true, ch + 1⟩) 61 (0, 0)) := s3.blk
        have k3 : Keeps (· = d) w w3 := k2.trans s3.k (fun _ _ e => e)
        have c43 : w3.cell? ⟨d, 4, none⟩ = some (.int .i64 (0)) := (cell_of_block b3).trans rfl
        have c53 : w3.cell? ⟨d, 5, none⟩ = some (.int .i64 (fn - 1)) := (cell_of_block b3).trans rfl
        have c63 : w3.cell? ⟨d, 6, none⟩ = some (.int .i64 (9)) := (cell_of_block b3).trans rfl
        clear s3 c42 c52 c62
        obtain ⟨r0, r1, r2, r3⟩ := HR.out w3 b3 k3
        have HF := Lib.hid (r3 rfl)
        clear r0 r1 r2 r3
        go_wp2_with fail
        refine HF.out.mono ?_; rintro _ w9 ⟨⟨v, rfl⟩, hr⟩
        have HR9 := Lib.hid hr
        clear hr
        go_wp2
        go_ret
        exact ⟨rfl, HR9.out⟩
      · skip
        skip
        have hc : chg ⟨files, lasting, steps, cap, 0, fn, 9, false, ch⟩ = (⟨files, lasting, steps, cap, 0, 0, 0, false, ch + 1⟩, 2, 9) := by simp [chg, hn]
        rw [hc] at HR ⊢
        clear hc
        skip
        go_enter Try.func34, Try.ntmps34
        go_wp2_with (first | go_skip | (with_reducible refine stop_store (t := 3) ?_) | (with_reducible refine stop_store (t := 4) ?_) | (with_reducible refine stop_store (t := 59) ?_))
        refine at_out (wpList_skipE rfl (re_store (v := .int .i64 (ch + 1)) (n := 1) (by kernel_rfl) (by rfl) (by rfl) b0 (by rfl) (by simp [dcs, Value.cells]) (by simp [Value.cells, Value.oneCell'])) ?_)
        intro w1 s1
        simp only [Nat.reduceAdd, Nat.zero_add, Act.put, List.setIfInBounds_toArray, List.set_cons_succ, List.set_cons_zero]
        have b1 : w1.heap[d]? = some (.cells (dcs m1 m2 sv ⟨files, lasting, steps, cap, 0, fn, 9, false, ch + 1⟩) 61 (0, 0)) := s1.blk
        have k1 : Keeps (· = d) w w1 := s1.k
        have c41 : w1.cell? ⟨d, 4, none⟩ = some (.int .i64 (0)) := (cell_of_block b1).trans rfl
        have c51 : w1.cell? ⟨d, 5, none⟩ = some (.int .i64 (fn)) := (cell_of_block b1).trans rfl
        have c61 : w1.cell? ⟨d, 6, none⟩ = some (.int .i64 (9)) := (cell_of_block b1).trans rfl
        clear s1
        go_wp2_with (first | go_skip | (with_reducible refine stop_store (t := 3) ?_) | (with_reducible refine stop_store (t := 4) ?_) | (with_reducible refine stop_store (t := 59) ?_))
        refine at_out (wpList_skipE rfl (re_store (v := .agg #[.int .i64 0, .int .i64 0]) (n := 2) (by kernel_rfl) (by rfl) (by rfl) b1 (by rfl) (by simp [dcs, Value.cells]) (by simp [Value.cells, Value.oneCell'])) ?_)
        intro w2 s2
        simp only [Nat.reduceAdd, Nat.zero_add, Act.put, List.setIfInBounds_toArray, List.set_cons_succ, List.set_cons_zero]
        have b2 : w2.heap[d]? = some (.cells (dcs m1 m2 sv ⟨files, lasting, steps, cap, 0, 0, 0, false, ch + 1⟩) 61 (0, 0)) := s2.blk
        have k2 : Keeps (· = d) w w2 := k1.trans s2.k (fun _ _ e => e)
        have c42 : w2.cell? ⟨d, 4, none⟩ = some (.int .i64 (0)) := (cell_of_block b2).trans rfl
        have c52 : w2.cell? ⟨d, 5, none⟩ = some (.int .i64 (0)) := (cell_of_block b2).trans rfl
        have c62 : w2.cell? ⟨d, 6, none⟩ = some (.int .i64 (0)) := (cell_of_block b2).trans rfl
        clear s2 c41 c51 c61
        obtain ⟨r0, r1, r2, r3⟩ := HR.out w2 b2 k2
        have HF := Lib.hid (r2 rfl)
        clear r0 r1 r2 r3
        go_wp2_with fail
        refine HF.out.mono ?_; rintro _ w9 ⟨⟨v, rfl⟩, hr⟩
        have HR9 := Lib.hid hr
        clear hr
        go_wp2
        go_ret
        exact ⟨rfl, HR9.out⟩
    · by_cases hn : 0 < fn
      · skip
        skip
        have hu3 : ¬ fu = 0 := by omega
        have hc : chg ⟨files, lasting, steps, cap, fu, fn, 9, false, ch⟩ = (⟨files, lasting, steps, cap, fu - 1, fn - 1, 9, false, ch + 1⟩, 1, 0) := by simp [chg, hu, hu3, hn]
        rw [hc] at HR ⊢
        clear hc hu3
        go_enter Try.func34, Try.ntmps34
        go_wp2_with (first | go_skip | (with_reducible refine stop_store (t := 3) ?_) | (with_reducible refine stop_store (t := 4) ?_) | (with_reducible refine stop_store (t := 59) ?_))
        refine at_out (wpList_skipE rfl (re_store (v := .int .i64 (ch + 1)) (n := 1) (by kernel_rfl) (by rfl) (by rfl) b0 (by rfl) (by simp [dcs, Value.cells]) (by simp [Value.cells, Value.oneCell'])) ?_)
        intro w1 s1
        simp only [Nat.reduceAdd, Nat.zero_add, Act.put, List.setIfInBounds_toArray, List.set_cons_succ, List.set_cons_zero]
        have b1 : w1.heap[d]? = some (.cells (dcs m1 m2 sv ⟨files, lasting, steps, cap, fu, fn, 9, false, ch + 1⟩) 61 (0, 0)) := s1.blk
        have k1 : Keeps (· = d) w w1 := s1.k
        have c41 : w1.cell? ⟨d, 4, none⟩ = some (.int .i64 (fu)) := (cell_of_block b1).trans rfl
        have c51 : w1.cell? ⟨d, 5, none⟩ = some (.int .i64 (fn)) := (cell_of_block b1).trans rfl
        have c61 : w1.cell? ⟨d, 6, none⟩ = some (.int .i64 (9)) := (cell_of_block b1).trans rfl
        clear s1
        go_wp2_with (first | go_skip | (with_reducible refine stop_store (t := 3) ?_) | (with_reducible refine stop_store (t := 4) ?_) | (with_reducible refine stop_store (t := 59) ?_))
        refine at_out (wpList_skipE rfl (re_store (v := .int .i64 (fu - 1)) (n := 1) (by kernel_rfl) (by rfl) (by rfl) b1 (by rfl) (by simp [dcs, Value.cells]) (by simp [Value.cells, Value.oneCell'])) ?_)
        intro w2 s2
        simp only [Nat.reduceAdd, Nat.zero_add, Act.put, List.setIfInBounds_toArray, List.set_cons_succ, List.set_cons_zero]
        have b2 : w2.heap[d]? = some (.cells (dcs m1 m2 sv ⟨files, lasting, steps, cap, fu - 1, fn, 9, false, ch + 1⟩) 61 (0, 0)) := s2.blk
        have k2 : Keeps (· = d) w w2 := k1.trans s2.k (fun _ _ e => e)
        have c42 : w2.cell? ⟨d, 4, none⟩ = some (.int .i64 (fu - 1)) := (cell_of_block b2).trans rfl
        have c52 : w2.cell? ⟨d, 5, none⟩ = some (.int .i64 (fn)) := (cell_of_block b2).trans rfl
        have c62 : w2.cell? ⟨d, 6, none⟩ = some (.int .i64 (9)) := (cell_of_block b2).trans rfl
        clear s2 c41 c51 c61
        go_wp2_with (first | go_skip | (with_reducible refine stop_store (t := 3) ?_) | (with_reducible refine stop_store (t := 4) ?_) | (with_reducible refine stop_store (t := 59) ?_))
        refine at_out (wpList_skipE rfl (re_store (v := .int .i64 (fn - 1)) (n := 1) (by kernel_rfl) (by rfl) (by rfl) b2 (by rfl) (by simp [dcs, Value.cells]) (by simp [Value.cells, Value.oneCell'])) ?_)
        intro w3 s3
        simp only [Nat.reduceAdd, Nat.zero_add, Act.put, List.setIfInBounds_toArray, List.set_cons_succ, List.set_cons_zero]
        have b3 : w3.heap[d]? = some (.cells (dcs m1 m2 sv ⟨files, lasting, steps, cap, fu - 1, fn - 1, 9, false, ch + 1⟩) 61 (0, 0)) := s3.blk
        have k3 : Keeps (· = d) w w3 := k2.trans s3.k (fun _ _ e => e)
        have c43 : w3.cell? ⟨d, 4, none⟩ = some (.int .i64 (fu - 1)) := (cell_of_block b3).trans rfl
        have c53 : w3.cell? ⟨d, 5, none⟩ = some (.int .i64 (fn - 1)) := (cell_of_block b3).trans rfl
        have c63 : w3.cell? ⟨d, 6, none⟩ = some (.int .i64 (9)) := (cell_of_block b3).trans rfl
        clear s3 c42 c52 c62
        obtain ⟨r0, r1, r2, r3⟩ := HR.out w3 b3 k3
        have HF := Lib.hid (r1 rfl)
        clear r0 r1 r2 r3
        go_wp2_with fail
        refine HF.out.mono ?_; rintro _ w9 ⟨⟨v, rfl⟩, hr⟩
        have HR9 := Lib.hid hr
        clear hr
        go_wp2
        go_ret
        exact ⟨rfl, HR9.out⟩
      · skip
        skip
        have hu3 : ¬ fu = 0 := by omega
        have hc : chg ⟨files, lasting, steps, cap, fu, fn, 9, false, ch⟩ = (⟨files, lasting, steps, cap, fu - 1, 0, 0, false, ch + 1⟩, 2, 9) := by simp [chg, hu, hu3, hn]
        rw [hc] at HR ⊢
        clear hc hu3
        go_enter Try.func34, Try.ntmps34
        go_wp2_with (first | go_skip | (with_reducible refine stop_store (t := 3) ?_) | (with_reducible refine stop_store (t := 4) ?_) | (with_reducible refine stop_store (t := 59) ?_))
        refine at_out (wpList_skipE rfl (re_store (v := .int .i64 (ch + 1)) (n := 1) (by kernel_rfl) (by rfl) (by rfl) b0 (by rfl) (by simp [dcs, Value.cells]) (by simp [Value.cells, Value.oneCell'])) ?_)
        intro w1 s1
        simp only [Nat.reduceAdd, Nat.zero_add, Act.put, List.setIfInBounds_toArray, List.set_cons_succ, List.set_cons_zero]
        have b1 : w1.heap[d]? = some (.cells (dcs m1 m2 sv ⟨files, lasting, steps, cap, fu, fn, 9, false, ch + 1⟩) 61 (0, 0)) := s1.blk
        have k1 : Keeps (· = d) w w1 := s1.k
        have c41 : w1.cell? ⟨d, 4, none⟩ = some (.int .i64 (fu)) := (cell_of_block b1).trans rfl
        have c51 : w1.cell? ⟨d, 5, none⟩ = some (.int .i64 (fn)) := (cell_of_block b1).trans rfl
        have c61 : w1.cell? ⟨d, 6, none⟩ = some (.int .i64 (9)) := (cell_of_block b1).trans rfl
        clear s1
        go_wp2_with (first | go_skip | (with_reducible refine stop_store (t := 3) ?_) | (with_reducible refine stop_store (t := 4) ?_) | (with_reducible refine stop_store (t := 59) ?_))
        refine at_out (wpList_skipE rfl (re_store (v := .int .i64 (fu - 1)) (n := 1) (by kernel_rfl) (by rfl) (by rfl) b1 (by rfl) (by simp [dcs, Value.cells]) (by simp [Value.cells, Value.oneCell'])) ?_)
        intro w2 s2
        simp only [Nat.reduceAdd, Nat.zero_add, Act.put, List.setIfInBounds_toArray, List.set_cons_succ, List.set_cons_zero]
        have b2 : w2.heap[d]? = some (.cells (dcs m1 m2 sv ⟨files, lasting, steps, cap, fu - 1, fn, 9, false, ch + 1⟩) 61 (0, 0)) := s2.blk
        have k2 : Keeps (· = d) w w2 := k1.trans s2.k (fun _ _ e => e)
        have c42 : w2.cell? ⟨d, 4, none⟩ = some (.int .i64 (fu - 1)) := (cell_of_block b2).trans rfl
        have c52 : w2.cell? ⟨d, 5, none⟩ = some (.int .i64 (fn)) := (cell_of_block b2).trans rfl
        have c62 : w2.cell? ⟨d, 6, none⟩ = some (.int .i64 (9)) := (cell_of_block b2).trans rfl
        clear s2 c41 c51 c61
        go_wp2_with (first | go_skip | (with_reducible refine stop_store (t := 3) ?_) | (with_reducible refine stop_store (t := 4) ?_) | (with_reducible refine stop_store (t := 59) ?_))
        refine at_out (wpList_skipE rfl (re_store (v := .agg #[.int .i64 0, .int .i64 0]) (n := 2) (by kernel_rfl) (by rfl) (by rfl) b2 (by rfl) (by simp [dcs, Value.cells]) (by simp [Value.cells, Value.oneCell'])) ?_)
        intro w3 s3
        simp only [Nat.reduceAdd, Nat.zero_add, Act.put, List.setIfInBounds_toArray, List.set_cons_succ, List.set_cons_zero]
        have b3 : w3.heap[d]? = some (.cells (dcs m1 m2 sv ⟨files, lasting, steps, cap, fu - 1, 0, 0, false, ch + 1⟩) 61 (0, 0)) := s3.blk
        have k3 : Keeps (· = d) w w3 := k2.trans s3.k (fun _ _ e => e)
        have c43 : w3.cell? ⟨d, 4, none⟩ = some (.int .i64 (fu - 1)) := (cell_of_block b3).trans rfl
        have c53 : w3.cell? ⟨d, 5, none⟩ = some (.int .i64 (0)) := (cell_of_block b3).trans rfl
        have c63 : w3.cell? ⟨d, 6, none⟩ = some (.int .i64 (0)) := (cell_of_block b3).trans rfl
        clear s3 c42 c52 c62
        obtain ⟨r0, r1, r2, r3⟩ := HR.out w3 b3 k3
        have HF := Lib.hid (r2 rfl)
        clear r0 r1 r2 r3
        go_wp2_with fail
        refine HF.out.mono ?_; rintro _ w9 ⟨⟨v, rfl⟩, hr⟩
        have HR9 := Lib.hid hr
        clear hr
        go_wp2
        go_ret
        exact ⟨rfl, HR9.out⟩
end Go.Proofs.Ytgpecnihjjnkeaa
