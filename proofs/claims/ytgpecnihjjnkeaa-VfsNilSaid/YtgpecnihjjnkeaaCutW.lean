/- Cut: a file has its first bytes. -/
import Derived.Test.YtgpecnihjjnkeaaApp2W
set_option linter.unusedVariables false
set_option linter.unusedSimpArgs false
namespace Go.Vfs
open Go.Lk Go.RowKit
variable {w w' : World} {R R' S F F' : Nat → Prop} {d b : Nat} {x : Fl} {D : Dk} {fc : Nat → Fl}
theorem Bytes.take {a : Option Addr} {n c c' : Nat} {l : List Nat} (h : Bytes w R (.slice a n c) l) {k : Nat} (hk : k ≤ l.length) (h1 : k ≤ c') (h2 : c' ≤ maxLen) : Bytes w R (.slice a k c') (l.take k) := by
  obtain ⟨a', c2, e, q1, q2, q3, q4, q5⟩ := h
  cases e
  have hl : (l.take k).length = k := by rw [List.length_take]; omega
  exact ⟨a, c', by rw [hl], by rw [hl]; exact h1, h2, q3.take k, fun z hz => q4 z (List.mem_of_mem_take hz), fun b off e hne => q5 b off e (fun e2 => hne (by rw [e2, List.take_nil]))⟩
/-- What Cut comes to. -/
def CutR (D : Dk) (fc : Nat → Fl) (s : ByteArray) (n : Int) (e : Int) (D' : Dk) (fc' : Nat → Fl) : Prop :=
  (n < 0 ∧ e = 2 ∧ D' = D ∧ fc' = fc) ∨ (0 ≤ n ∧ mnB s = false ∧ e = 2 ∧ D' = D ∧ fc' = fc) ∨ (0 ≤ n ∧ mnB s = true ∧ flook D.files s = none ∧ e = 6 ∧ D' = D ∧ fc' = fc) ∨
  ∃ b, 0 ≤ n ∧ mnB s = true ∧ flook D.files s = some b ∧ ((((fc b).b.length : Int) < n ∧ e = 2 ∧ D' = D ∧ fc' = fc) ∨ (n ≤ ((fc b).b.length : Int) ∧ D.dead = true ∧ e = 8 ∧ D' = D ∧ fc' = fc) ∨
    (n ≤ ((fc b).b.length : Int) ∧ D.dead = false ∧ e = (chg D).2.2 ∧ D' = (chg D).1 ∧ fc' = if (chg D).2.1 = 1 then setf fc b ⟨(fc b).b.take n.toNat, min n.toNat (fc b).lasts⟩ else fc))
end Go.Vfs
namespace Go.Proofs.Ytgpecnihjjnkeaa
open Go.RowKit Go.Lk Go.Vfs
set_option maxHeartbeats 4000000 in
set_option maxRecDepth 100000 in
theorem cut1_at (d b a1 a2 n : Nat) (D : Dk) (F R : Nat → Prop) (fc : Nat → Fl) (w : World) (h : DiskAt w d F R D fc) (hb : Ref D b) (h1 : w.heap[a1]? = some (.cells #[.pointer (some ⟨b, 0, none⟩)] 63 (0, 0)))
    (h2 : w.heap[a2]? = some (.cells #[.int .i64 n] 3 (0, 0))) (hx1 : ¬ F a1) (hx2 : ¬ F a2) (hn : n ≤ (fc b).b.length) :
    Calls Try.prog 54 #[.pointer (some ⟨a1, 0, none⟩), .pointer (some ⟨a2, 0, none⟩)] w fun e w' => (∃ v, e = .returned v) ∧ Now w w' d F R D (setf fc b ⟨(fc b).b.take n, min n (fc b).lasts⟩) := by
  have H := Lib.hid h
  have HB := Lib.hid hb
  obtain ⟨⟨v, q1, q2, q3, q4⟩, q5⟩ := h.file b hb
  have Q2 := Lib.hid q2
  obtain ⟨va, vc, rfl, q6, q7, q8⟩ := q2.rows
  have HN := Lib.hid hn
  have HQ3 := Lib.hid q3
  obtain ⟨m, hm⟩ : ∃ m, m = (fc b).b.length := ⟨_, rfl⟩
  obtain ⟨j, hj⟩ : ∃ j, j = (fc b).lasts := ⟨_, rfl⟩
  have HM := Lib.hid hm
  have HJ := Lib.hid hj
  rw [← hm] at q1 q6 q3 q4 hn
  rw [← hj] at q1 q3
  have hab1 : ¬ a1 = b := fun e => hx1 (e ▸ q5)
  have hab2 : ¬ a2 = b := fun e => hx2 (e ▸ q5)
  have H1 := Lib.hid h1
  have H2 := Lib.hid h2
  have H4 := Lib.hid q1
  have hmx : vc ≤ 9223372036854775807 := by unfold maxLen at q7; exact q7
  have Q7 := Lib.hid q7
  have c1 : w.cell? ⟨a1, 0, none⟩ = some (.pointer (some ⟨b, 0, none⟩)) := cell_of_block h1
  have c2 : w.cell? ⟨a2, 0, none⟩ = some (.int .i64 n) := cell_of_block h2
  have c3 : w.cell? ⟨b, 1, none⟩ = some (.int .i64 j) := (cell_of_block q1).trans rfl
  clear h hb h1 h2 hm hj q1 q2 q5 q8 hx1 hx2
  go_enter Try.func54, Try.ntmps54
  have HS : Hid ((fun u : World => u.cell? ⟨a1, 0, none⟩ = some (.pointer (some ⟨b, 0, none⟩)) ∧ u.cell? ⟨a2, 0, none⟩ = some (.int .i64 n) ∧ u.cell? ⟨b, 1, none⟩ = some (.int .i64 j)) w.drew) := ⟨c1, c2, c3⟩
  refine WT.region (fun u : World => u.cell? ⟨a1, 0, none⟩ = some (.pointer (some ⟨b, 0, none⟩)) ∧ u.cell? ⟨a2, 0, none⟩ = some (.int .i64 n) ∧ u.cell? ⟨b, 1, none⟩ = some (.int .i64 j)) 18 21 [0, 1, 2, 3, 4, 6, 7, 9, 10, 11, 12, 13, 14, 5, 8, 15, 16, 17, 18, 19, 20] (by kernel_rfl) rfl ?_
  refine WT.take 0 (v := .pointer (some ⟨b, 0, none⟩)) (by simp only [List.getElem?_toArray, List.getElem?_cons_succ, List.getElem?_cons_zero]; rfl) (by kernel_rfl) (by exact fun _ _ _ h => h) (by rfl) (by rintro w ⟨C1, C2⟩; exact rn_load1 (by kernel_rfl) (by rfl) C1) HS.out ?_
  simp only [Nat.reduceAdd, Nat.zero_add, Act.put, List.setIfInBounds_toArray, List.set_cons_succ, List.set_cons_zero]
  refine WT.take 1 (v := .pointer (some ⟨b, 0, none⟩)) (by simp only [List.getElem?_toArray, List.getElem?_cons_succ, List.getElem?_cons_zero]; rfl) (by kernel_rfl) (by exact fun _ _ _ h => h) (by rfl) (by rintro w ⟨C1, C2⟩; exact rn_load1 (by kernel_rfl) (by rfl) C1) HS.out ?_
  simp only [Nat.reduceAdd, Nat.zero_add, Act.put, List.setIfInBounds_toArray, List.set_cons_succ, List.set_cons_zero]
  refine WT.take 2 (v := .pointer (some ⟨b, 0, none⟩)) (by simp only [List.getElem?_toArray, List.getElem?_cons_succ, List.getElem?_cons_zero]; rfl) (by kernel_rfl) (by exact fun _ _ _ h => h) (by rfl) (by rintro w ⟨C1, C2⟩; exact rn_load1 (by kernel_rfl) (by rfl) C1) HS.out ?_
  simp only [Nat.reduceAdd, Nat.zero_add, Act.put, List.setIfInBounds_toArray, List.set_cons_succ, List.set_cons_zero]
  refine WT.take 3 (v := _) (by simp only [List.getElem?_toArray, List.getElem?_cons_succ, List.getElem?_cons_zero]; rfl) (by kernel_rfl) (by exact fun _ _ _ h => h) (by rfl) (by rintro w ⟨C1, C2⟩; go_simp; with_reducible rfl) HS.out ?_
  simp only [Nat.reduceAdd, Nat.zero_add, Act.put, List.setIfInBounds_toArray, List.set_cons_succ, List.set_cons_zero]
  refine WT.take 4 (v := _) (by simp only [List.getElem?_toArray, List.getElem?_cons_succ, List.getElem?_cons_zero]; rfl) (by kernel_rfl) (by exact fun _ _ _ h => h) (by rfl) (by rintro w ⟨C1, C2⟩; go_simp; with_reducible rfl) HS.out ?_
  simp only [Nat.reduceAdd, Nat.zero_add, Act.put, List.setIfInBounds_toArray, List.set_cons_succ, List.set_cons_zero]
  refine WT.take 6 (v := .int .i64 n) (by simp only [List.getElem?_toArray, List.getElem?_cons_succ, List.getElem?_cons_zero]; rfl) (by kernel_rfl) (by exact fun _ _ _ h => h) (by rfl) (by rintro w ⟨C1, C2, C3⟩; exact rn_load1 (by kernel_rfl) (by rfl) C2) HS.out ?_
  simp only [Nat.reduceAdd, Nat.zero_add, Act.put, List.setIfInBounds_toArray, List.set_cons_succ, List.set_cons_zero]
  refine WT.take 7 (v := .int .i64 n) (by simp only [List.getElem?_toArray, List.getElem?_cons_succ, List.getElem?_cons_zero]; rfl) (by kernel_rfl) (by exact fun _ _ _ h => h) (by rfl) (by rintro w ⟨C1, C2, C3⟩; exact rn_load1 (by kernel_rfl) (by rfl) C2) HS.out ?_
  simp only [Nat.reduceAdd, Nat.zero_add, Act.put, List.setIfInBounds_toArray, List.set_cons_succ, List.set_cons_zero]
  refine WT.take 9 (v := .int .i64 n) (by simp only [List.getElem?_toArray, List.getElem?_cons_succ, List.getElem?_cons_zero]; rfl) (by kernel_rfl) (by exact fun _ _ _ h => h) (by rfl) (by rintro w ⟨C1, C2, C3⟩; exact rn_load1 (by kernel_rfl) (by rfl) C2) HS.out ?_
  simp only [Nat.reduceAdd, Nat.zero_add, Act.put, List.setIfInBounds_toArray, List.set_cons_succ, List.set_cons_zero]
  refine WT.take 10 (v := .pointer (some ⟨b, 0, none⟩)) (by simp only [List.getElem?_toArray, List.getElem?_cons_succ, List.getElem?_cons_zero]; rfl) (by kernel_rfl) (by exact fun _ _ _ h => h) (by rfl) (by rintro w ⟨C1, C2⟩; exact rn_load1 (by kernel_rfl) (by rfl) C1) HS.out ?_
  simp only [Nat.reduceAdd, Nat.zero_add, Act.put, List.setIfInBounds_toArray, List.set_cons_succ, List.set_cons_zero]
  refine WT.take 11 (v := _) (by simp only [List.getElem?_toArray, List.getElem?_cons_succ, List.getElem?_cons_zero]; rfl) (by kernel_rfl) (by exact fun _ _ _ h => h) (by rfl) (by rintro w ⟨C1, C2⟩; go_simp; with_reducible rfl) HS.out ?_
  simp only [Nat.reduceAdd, Nat.zero_add, Act.put, List.setIfInBounds_toArray, List.set_cons_succ, List.set_cons_zero]
  refine WT.take 12 (v := _) (by simp only [List.getElem?_toArray, List.getElem?_cons_succ, List.getElem?_cons_zero]; rfl) (by kernel_rfl) (by exact fun _ _ _ h => h) (by rfl) (by rintro w ⟨C1, C2⟩; go_simp; with_reducible rfl) HS.out ?_
  simp only [Nat.reduceAdd, Nat.zero_add, Act.put, List.setIfInBounds_toArray, List.set_cons_succ, List.set_cons_zero]
  refine WT.take 13 (v := .int .i64 j) (by simp only [List.getElem?_toArray, List.getElem?_cons_succ, List.getElem?_cons_zero]; rfl) (by kernel_rfl) (by exact fun _ _ _ h => h) (by rfl) (by rintro w ⟨C1, C2, C3⟩; exact rn_load1 (by kernel_rfl) (by rfl) C3) HS.out ?_
  simp only [Nat.reduceAdd, Nat.zero_add, Act.put, List.setIfInBounds_toArray, List.set_cons_succ, List.set_cons_zero]
  refine WT.take 14 (v := .int .i64 (min n j : Nat)) (by simp only [List.getElem?_toArray, List.getElem?_cons_succ, List.getElem?_cons_zero]; rfl) (by kernel_rfl) (by exact fun _ _ _ h => h) (by rfl) (by rintro w ⟨C1, C2, C3⟩; exact by go_simp; split <;> omega) HS.out ?_
  simp only [Nat.reduceAdd, Nat.zero_add, Act.put, List.setIfInBounds_toArray, List.set_cons_succ, List.set_cons_zero]
  refine WT.only 5 (v := .slice va m vc) (by simp only [List.getElem?_toArray, List.getElem?_cons_succ, List.getElem?_cons_zero]; rfl) (by kernel_rfl) (by rfl) (rn_load1 (w := w.drew) (by kernel_rfl) (by rfl) ((cell_of_block (w := w.drew) H4.out).trans rfl)) HS.out ?_
  simp only [Nat.reduceAdd, Nat.zero_add, Act.put, List.setIfInBounds_toArray, List.set_cons_succ, List.set_cons_zero]
  refine WT.only 8 (v := .slice va n n) (by simp only [List.getElem?_toArray, List.getElem?_cons_succ, List.getElem?_cons_zero]; rfl) (by kernel_rfl) (by rfl) (by go_simp; (try constructor) <;> intros <;> omega) HS.out ?_
  simp only [Nat.reduceAdd, Nat.zero_add, Act.put, List.setIfInBounds_toArray, List.set_cons_succ, List.set_cons_zero]
  refine WT.only 15 (v := _) (by simp only [List.getElem?_toArray, List.getElem?_cons_succ, List.getElem?_cons_zero]; rfl) (by kernel_rfl) (by rfl) (by go_simp; first | with_reducible rfl | exact ⟨rfl, rfl⟩) HS.out ?_
  simp only [Nat.reduceAdd, Nat.zero_add, Act.put, List.setIfInBounds_toArray, List.set_cons_succ, List.set_cons_zero]
  refine WT.only 16 (v := _) (by simp only [List.getElem?_toArray, List.getElem?_cons_succ, List.getElem?_cons_zero]; rfl) (by kernel_rfl) (by rfl) (by go_simp; first | with_reducible rfl | exact ⟨rfl, rfl⟩) HS.out ?_
  simp only [Nat.reduceAdd, Nat.zero_add, Act.put, List.setIfInBounds_toArray, List.set_cons_succ, List.set_cons_zero]
  refine WT.onlySkipE 17 (by simp only [List.getElem?_toArray, List.getElem?_cons_succ, List.getElem?_cons_zero]; rfl) (by kernel_rfl) (by rfl) (re_store (w := w.drew) (v := .slice va n n) (n := 1) (by kernel_rfl) (by rfl) (by rfl) H4.out (by rfl) (by simp) (by simp [Value.cells, Value.oneCell'])) ?_
  intro w2 s2
  have k2 : Keeps (· = b) w w2 := (Keeps.refl (· = b) w).drew.trans s2.k (fun _ _ e => e)
  have B2 : w2.heap[b]? = some (.cells #[.slice va n n, .int .i64 j] 65 (0, 0)) := s2.blk
  have HS2 : Hid ((fun u : World => u.cell? ⟨a1, 0, none⟩ = some (.pointer (some ⟨b, 0, none⟩)) ∧ u.cell? ⟨a2, 0, none⟩ = some (.int .i64 n) ∧ u.cell? ⟨b, 1, none⟩ = some (.int .i64 j)) w2) := ⟨cell_of_block (k2.at H1.out hab1), cell_of_block (k2.at H2.out hab2), (cell_of_block B2).trans rfl⟩
  refine ⟨HS2.out, ?_⟩
  simp only [Nat.reduceAdd, Nat.zero_add, Act.put, List.setIfInBounds_toArray, List.set_cons_succ, List.set_cons_zero]
  refine WT.stop (by kernel_rfl) ?_
  refine WP.only 18 (v := _) (by simp only [List.getElem?_toArray, List.getElem?_cons_succ, List.getElem?_cons_zero]; rfl) (by kernel_rfl) (by rfl) (by go_simp; first | with_reducible rfl | exact ⟨rfl, rfl⟩) ?_
  simp only [Nat.reduceAdd, Nat.zero_add, Act.put, List.setIfInBounds_toArray, List.set_cons_succ, List.set_cons_zero]
  refine WP.only 19 (v := _) (by simp only [List.getElem?_toArray, List.getElem?_cons_succ, List.getElem?_cons_zero]; rfl) (by kernel_rfl) (by rfl) (by go_simp; first | with_reducible rfl | exact ⟨rfl, rfl⟩) ?_
  simp only [Nat.reduceAdd, Nat.zero_add, Act.put, List.setIfInBounds_toArray, List.set_cons_succ, List.set_cons_zero]
  refine WP.onlySkipE 20 (by simp only [List.getElem?_toArray, List.getElem?_cons_succ, List.getElem?_cons_zero]; rfl) (by kernel_rfl) (by rfl) (re_store (v := .int .i64 (min n j : Nat)) (n := 1) (by kernel_rfl) (by rfl) (by rfl) B2 (by rfl) (by simp) (by simp [Value.cells, Value.oneCell'])) ?_
  intro w5 s5
  simp only [Nat.reduceAdd, Nat.zero_add, Act.put, List.setIfInBounds_toArray, List.set_cons_succ, List.set_cons_zero]
  refine WP.done (by kernel_rfl) ?_
  go_wp2
  go_end0
  have kb : Keeps (· = b) w w5 := k2.trans s5.k (fun _ _ e => e)
  have k5 : Keeps F w w5 := kb.mono (fun i _ e => e ▸ (H.out.file b HB.out).2)
  have B5 : w5.heap[b]? = some (.cells #[.slice va n n, .int .i64 (min n (fc b).lasts : Nat)] 65 (0, 0)) := by rw [← HJ.out]; exact s5.blk
  have hl : ((fc b).b.take n).length = n := by rw [List.length_take]; have := HN.out; omega
  refine ⟨⟨_, rfl⟩, Now.of (F := F) (R := R) ?_ k5⟩
  refine H.out.set HB.out kb ⟨_, B5, ?_, ?_, ?_⟩ (fun _ h => h) (fun _ h => .inl h)
  · exact (Q2.out.keeps kb (fun k hr e => H.out.apart k (e ▸ (H.out.file b HB.out).2) hr)).take HN.out (Nat.le_refl _) (Nat.le_trans hn (Nat.le_trans q6 Q7.out))
  · simp only; rw [hl]; omega
  · simp only; rw [hl]; omega
set_option maxHeartbeats 4000000 in
set_option maxRecDepth 100000 in
theorem cut_at (d : Nat) (s : ByteArray) (n : Int) (D : Dk) (F R : Nat → Prop) (fc : Nat → Fl) (w : World) (h : DiskAt w d F R D fc) (hs : s.size ≤ maxLen) (hc : D.changes < 1000000) (hn : -9223372036854775808 ≤ n ∧ n ≤ 9223372036854775807) :
    Calls Try.prog 32 #[.pointer (some ⟨d, 0, none⟩), .string s, .int .i64 n] w fun e w' => ∃ (er : Int) (D' : Dk) (fc' : Nat → Fl), e = .returned (.int .i64 er) ∧ Now w w' d F R D' fc' ∧ CutR D fc s n er D' fc' := by
  have H := Lib.hid h
  have HS := Lib.hid hs
  have HC := Lib.hid hc
  have HN := Lib.hid hn
  obtain ⟨⟨m1, m2, sv, h3, h4, h5, h6, h7, h8, h9⟩, g1, g2, g3, g3b, g4, g5, g6⟩ := h
  have H3 := Lib.hid h3
  have H4 := Lib.hid h4
  have G5 := Lib.hid g5
  clear hs hc g2 g3 g3b g4 h4 h5 h6 h7 h3 h8 h9 g1 g6 g5 hn
  go_enter Try.func32, Try.ntmps32
  go_wp2_with (first | go_skip | (with_reducible refine stop_box (t := 3) ?_))
  refine at_out (vbox1 (v := .int .i64 n) (by rfl) (by rfl) ?_)
  intro a2 w1 n1
  simp only [Nat.reduceAdd, Nat.zero_add, Act.put, List.setIfInBounds_toArray, List.set_cons_succ, List.set_cons_zero]
  have B2 := Lib.hid n1.blk
  have K1 := Lib.hid n1.k
  have XF2 : Hid (¬ F a2) := fun e => by have := G5.out _ e; have := n1.ge; omega
  have FA := Lib.hid (find_at d m1 m2 sv D w1 (n1.k.nb H3.out) (H4.out.nb n1.k) s HS.out)
  clear n1
  go_wp2_with fail
  refine FA.out.mono ?_
  rintro _ w2 ⟨rfl, k2⟩
  obtain ⟨r, er, hr⟩ : ∃ r er, found D s = (r, er) := ⟨_, _, rfl⟩
  have HR := Lib.hid hr
  rw [hr]
  clear hr FA
  simp only
  go_wp2_with (first | go_skip | (with_reducible refine stop_alloc (t := 63) ?_))
  refine at_out (valloc (z := .pointer none) zero63i ?_)
  intro a1 w3 n3
  simp only [Nat.reduceAdd, Nat.zero_add, Act.put, List.setIfInBounds_toArray, List.set_cons_succ, List.set_cons_zero]
  have c3 := n3.blk
  go_wp2_with (first | go_skip | (with_reducible refine stop_store (t := 63) ?_))
  refine at_out (wpList_skipE rfl (re_store (v := ptr r) (n := 1) (by kernel_rfl) (by rfl) (by rfl) c3 (by cases r <;> rfl) (by simp [Value.cells]) (by cases r <;> simp [ptr, Value.cells, Value.oneCell'])) ?_)
  intro w4 s4
  simp only [Nat.reduceAdd, Nat.zero_add, Act.put, List.setIfInBounds_toArray, List.set_cons_succ, List.set_cons_zero]
  have k14 : Keeps Nb w1 w4 := (k2.trans_nb n3.k).own (Nat.le_trans k2.size n3.ge) s4.k
  have K4 := Lib.hid (K1.out.trans_nb k14)
  have XF1 : Hid (¬ F a1) := fun e => by have := G5.out _ e; have := n3.ge; have := k2.size; have := K1.out.size; omega
  have B1 : Hid (w4.heap[a1]? = some (.cells #[ptr r] 63 (0, 0))) := by
    have := s4.blk; cases r <;> exact this
  have B24 := Lib.hid (k14.nb B2.out)
  have c24 : w4.cell? ⟨a2, 0, none⟩ = some (.int .i64 n) := cell_of_block B24.out
  clear n3 c3 s4 k14 k2 B2
  have her : er = 2 ∨ er = 6 ∨ er = 0 := by
    rcases found_cases D s with ⟨q1, q2⟩ | ⟨q1, q2, q3⟩ | ⟨b, q1, q2, q3⟩
    · have := q2.symm.trans HR.out; simp at this; omega
    · have := q3.symm.trans HR.out; simp at this; omega
    · have := q3.symm.trans HR.out; simp at this; omega
  have her1 : ¬ er = 1 := by omega
  by_cases hneg : n < 0
  · go_wp2
    go_ret
    exact ⟨_, _, _, rfl, Now.same H.out K4.out, .inl ⟨hneg, rfl, rfl, rfl⟩⟩
  have h0 : 0 ≤ n := by omega
  have H0 := Lib.hid h0
  clear her
  rcases found_cases D s with ⟨q1, q2⟩ | ⟨q1, q2, q3⟩ | ⟨b, q1, q2, q3⟩
  · obtain ⟨rfl, rfl⟩ : none = r ∧ (2 : Int) = er := by have := q2.symm.trans HR.out; simpa using this
    clear q2
    go_wp2
    go_ret
    exact ⟨_, rfl, _, _, Now.same H.out K4.out, .inr (.inl ⟨H0.out, q1, rfl, rfl, rfl⟩)⟩
  · obtain ⟨rfl, rfl⟩ : none = r ∧ (6 : Int) = er := by have := q3.symm.trans HR.out; simpa using this
    clear q3
    go_wp2
    go_ret
    exact ⟨_, rfl, _, _, Now.same H.out K4.out, .inr (.inr (.inl ⟨H0.out, q1, q2, rfl, rfl, rfl⟩))⟩
  · obtain ⟨rfl, rfl⟩ : some b = r ∧ (0 : Int) = er := by have := q3.symm.trans HR.out; simpa using this
    have Q1 := Lib.hid q1
    have Q2 := Lib.hid q2
    clear q1 q2 q3 her1
    obtain ⟨⟨v, z1, z2, z3, z4⟩, z5⟩ := H.out.file b (ref_flook Q2.out)
    obtain ⟨va, vc, rfl, -⟩ := z2
    obtain ⟨m, hm⟩ : ∃ m, m = (fc b).b.length := ⟨_, rfl⟩
    have HM := Lib.hid hm
    rw [← hm] at z1 z4
    have C1 : ∀ u : Sub w4, u.wd.cell? ⟨a1, 0, none⟩ = some (.pointer (some ⟨b, 0, none⟩)) := fun u => cell_of_block (u.k.nb B1.out)
    have C2 : ∀ u : Sub w4, u.wd.cell? ⟨a2, 0, none⟩ = some (.int .i64 n) := fun u => cell_of_block (u.k.nb B24.out)
    have C3 : ∀ u : Sub w4, u.wd.cell? ⟨b, 0, none⟩ = some (.slice va m vc) := fun u => (cell_of_block (u.k.nb (K4.out.nb z1))).trans rfl
    have Z5 := Lib.hid z5
    clear z1 z3 hm z5
    go_wp2
    refine region_sub (by kernel_rfl) (by kernel_rfl) ?_
    repeat (go_big_quiet_step (fail))
    refine wpQuiet_nil ?_
    rintro w5 ⟨u5, hu5⟩
    have K45 : Hid (Keeps Nb w4 w5) := hu5 ▸ u5.k
    clear hu5 C1 C2 C3 c24
    by_cases hle : (m : Int) < n
    · go_wp2
      go_ret
      exact ⟨_, _, _, rfl, Now.same H.out (K4.out.trans_nb K45.out), .inr (.inr (.inr ⟨b, H0.out, Q1.out, Q2.out, .inl ⟨by rw [← HM.out]; exact hle, rfl, rfl, rfl⟩⟩))⟩
    · have HLE : Hid (n ≤ ((fc b).b.length : Int)) := by rw [← HM.out]; show n ≤ (m : Int); omega
      have K5 := Lib.hid (K4.out.trans_nb K45.out)
      have B25 := Lib.hid (K45.out.nb B24.out)
      have B15 := Lib.hid (K45.out.nb B1.out)
      have H5 := Lib.hid (H.out.nb K5.out)
      have H35 := Lib.hid (K5.out.nb H3.out)
      cases hdd : D.dead
      · have HW : Hid (Ways w5 d m1 m2 sv (chg D).1 (chg D).2.1 54 36 36 #[.pointer (some ⟨a1, 0, none⟩), .pointer (some ⟨a2, 0, none⟩)] #[] #[] fun w' => Now w5 w' d F R (chg D).1 (if (chg D).2.1 = 1 then setf fc b ⟨(fc b).b.take n.toNat, min n.toNat (fc b).lasts⟩ else fc)) := by
          intro w9 hb9 hk9
          have D9 := H5.out.chg H35.out hb9 hk9 HC.out
          have kw9 : Keeps F w5 w9 := hk9.mono (fun i _ e => e ▸ H.out.fd)
          have hd : ∀ x, ¬ F x → ¬ x = d := fun x hx e => hx (e ▸ H.out.fd)
          have hn := chg_same D
          have hrf : Ref (chg D).1 b := ref_flook (by rw [hn.1]; exact Q2.out)
          have hno : (chg D).2.1 ≠ 1 → Now w5 w9 d F R (chg D).1 (if (chg D).2.1 = 1 then setf fc b ⟨(fc b).b.take n.toNat, min n.toNat (fc b).lasts⟩ else fc) := fun e => by rw [if_neg e]; exact Now.of D9 kw9
          refine ⟨fun e => hno (by omega), fun e => ?_, fun e => ways_nothing (hno (by omega)), fun e => ways_nothing (hno (by omega))⟩
          rw [if_pos e]
          have hN2 := HLE.out
          have hB : w9.heap[a2]? = some (.cells #[.int .i64 (n.toNat : Nat)] 3 (0, 0)) := by rw [Int.toNat_of_nonneg H0.out]; exact hk9.at B25.out (hd _ XF2.out)
          exact (cut1_at d b a1 a2 n.toNat (chg D).1 F R fc w9 D9 hrf (hk9.at B15.out (hd _ XF1.out)) hB XF1.out XF2.out (by omega)).mono (fun e w' h => ⟨h.1, h.2.from kw9⟩)
        have hnu := H.out.nums
        have CA := Lib.hid (change_at d m1 m2 sv D w5 H35.out hdd ⟨hnu.ch.1, hnu.ch.2⟩ hnu.fu hnu.fn hnu.fe 54 36 36 _ _ _ (fun _ _ => rfl) (fun _ _ => rfl) (fun _ _ => rfl) _ HW.out)
        have HD := Lib.hid hdd
        clear HW hdd hnu
        go_wp2_with fail
        refine CA.out.mono ?_
        rintro _ w9 ⟨rfl, hN⟩
        go_wp2
        go_ret
        exact ⟨_, _, _, rfl, hN.from ((Keeps.refl F w).trans_nb K5.out), .inr (.inr (.inr ⟨b, H0.out, Q1.out, Q2.out, .inr (.inr ⟨HLE.out, HD.out, rfl, rfl, rfl⟩)⟩))⟩
      · have CA := Lib.hid (change_dead d m1 m2 sv D w5 H35.out hdd (.func (.func 54) #[] #[.pointer (some ⟨a1, 0, none⟩), .pointer (some ⟨a2, 0, none⟩)]) (.func (.func 36) #[] #[]) (.func (.func 36) #[] #[]))
        have HD := Lib.hid hdd
        clear hdd
        go_wp2_with fail
        refine CA.out.mono ?_
        rintro _ w9 ⟨rfl, rfl⟩
        go_wp2
        go_ret
        exact ⟨_, _, _, rfl, Now.same H.out K5.out, .inr (.inr (.inr ⟨b, H0.out, Q1.out, Q2.out, .inr (.inl ⟨HLE.out, HD.out, rfl, rfl, rfl⟩)⟩))⟩
end Go.Proofs.Ytgpecnihjjnkeaa
