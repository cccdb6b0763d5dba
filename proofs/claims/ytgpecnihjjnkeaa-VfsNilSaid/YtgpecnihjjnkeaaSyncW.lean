/- Sync: a file's bytes last. -/
import Derived.Test.YtgpecnihjjnkeaaMakeW
set_option linter.unusedVariables false
set_option linter.unusedSimpArgs false
namespace Go.Vfs
open Go.Lk Go.RowKit
variable {w w' : World} {R R' S F F' : Nat → Prop} {d b : Nat} {x : Fl} {D : Dk} {fc : Nat → Fl}
def setf (fc : Nat → Fl) (b : Nat) (x : Fl) : Nat → Fl := fun k => if k = b then x else fc k
/-- One file is written. -/
theorem DiskAt.set (h : DiskAt w d F R D fc) (hb : Ref D b) (hk : Keeps (· = b) w w') (hx : FileAt w' R' b x) (h1 : ∀ k, R k → R' k) (h2 : ∀ k, R' k → R k ∨ (w.heap.size ≤ k ∧ k < w'.heap.size)) : DiskAt w' d F R' D (setf fc b x) := by
  have hbd := h.ne_file hb
  obtain ⟨⟨m1, m2, sv, h3, h4, h5, h6, h7, h8, h9⟩, g1, g2, g3, g3b, g4, g5, g6⟩ := h
  have hT := (g2 b hb).1.isT
  have hbF := (g2 b hb).2
  have n1 : ¬ m1 = b := by rintro rfl; obtain ⟨es, cl, q, -⟩ := h4; exact hT.map q rfl
  have n2 : ¬ m2 = b := by rintro rfl; obtain ⟨es, cl, q, -⟩ := h5; exact hT.map q rfl
  refine ⟨⟨m1, m2, sv, hk.at h3 (fun e => hbd e.symm), h4.keeps hk n1, h5.keeps hk n2, h6, (h7.keeps hk (fun k _ ht e => by subst e; exact ht.ne hT (by decide) rfl)).mono (fun _ h => h) h1, h8, h9⟩, g1, ?_, g3, g3b, ?_, fun k hk' => Nat.lt_of_lt_of_le (g5 k hk') hk.size, ?_⟩
  · intro c hc
    unfold setf
    by_cases e : c = b
    · subst e
      simp only [if_true]
      exact ⟨hx, hbF⟩
    · simp only [e, if_false]
      exact ⟨((g2 c hc).1.keeps hk e (fun k hr e2 => g4 k (e2 ▸ hbF) hr)).mono h1, (g2 c hc).2⟩
  · intro k hf hr
    rcases h2 k hr with h | h
    · exact g4 k hf h
    · have := g5 k hf; omega
  · intro k hr
    rcases h2 k hr with h | h
    · exact Nat.lt_of_lt_of_le (g6 k h) hk.size
    · exact h.2
/-- What Sync comes to. -/
def SyncR (D : Dk) (fc : Nat → Fl) (s : ByteArray) (e : Int) (D' : Dk) (fc' : Nat → Fl) : Prop :=
  (mnB s = false ∧ e = 2 ∧ D' = D ∧ fc' = fc) ∨ (mnB s = true ∧ flook D.files s = none ∧ e = 6 ∧ D' = D ∧ fc' = fc) ∨
  ∃ b, mnB s = true ∧ flook D.files s = some b ∧ ((D.dead = true ∧ e = 8 ∧ D' = D ∧ fc' = fc) ∨ (D.dead = false ∧ e = (chg D).2.2 ∧ D' = (chg D).1 ∧ fc' = if (chg D).2.1 = 1 then setf fc b ⟨(fc b).b, (fc b).b.length⟩ else fc))
theorem ref_flook {s : ByteArray} (h : flook D.files s = some b) : Ref D b := .inl ⟨_, flook_some h, rfl⟩
end Go.Vfs
namespace Go.Proofs.Ytgpecnihjjnkeaa
open Go.RowKit Go.Lk Go.Vfs
set_option maxHeartbeats 4000000 in
set_option maxRecDepth 100000 in
theorem sync1_at (d b a1 : Nat) (D : Dk) (F R : Nat → Prop) (fc : Nat → Fl) (w : World) (h : DiskAt w d F R D fc) (hb : Ref D b) (h1 : w.heap[a1]? = some (.cells #[.pointer (some ⟨b, 0, none⟩)] 63 (0, 0))) :
    Calls Try.prog 40 #[.pointer (some ⟨a1, 0, none⟩)] w fun e w' => (∃ v, e = .returned v) ∧ Now w w' d F R D (setf fc b ⟨(fc b).b, (fc b).b.length⟩) := by
  have H := Lib.hid h
  have HB := Lib.hid hb
  obtain ⟨⟨v, q1, q2, q3, q4⟩, q5⟩ := h.file b hb
  have Q2 := Lib.hid q2
  obtain ⟨ad, c, rfl, q6, q7, q8⟩ := q2
  obtain ⟨n, hn⟩ : ∃ n, n = (fc b).b.length := ⟨_, rfl⟩
  have HN := Lib.hid hn
  rw [← hn] at q1
  have c1 : w.cell? ⟨a1, 0, none⟩ = some (.pointer (some ⟨b, 0, none⟩)) := cell_of_block h1
  have c2 : w.cell? ⟨b, 0, none⟩ = some (.slice ad n c) := (cell_of_block q1).trans rfl
  have Q1 := Lib.hid q1
  have Q4 := Lib.hid q4
  clear h hb h1 q1 q3 q4 q5 q6 q7 q8 hn
  go_enter Try.func40, Try.ntmps40
  have HS : Hid ((fun u : World => u.cell? ⟨a1, 0, none⟩ = some (.pointer (some ⟨b, 0, none⟩)) ∧ u.cell? ⟨b, 0, none⟩ = some (.slice ad n c)) w.drew) := ⟨c1, c2⟩
  refine WT.region (fun u : World => u.cell? ⟨a1, 0, none⟩ = some (.pointer (some ⟨b, 0, none⟩)) ∧ u.cell? ⟨b, 0, none⟩ = some (.slice ad n c)) 6 9 [0, 1, 2, 3, 4, 5, 6, 7, 8] (by kernel_rfl) rfl ?_
  refine WT.take 0 (v := .pointer (some ⟨b, 0, none⟩)) (by simp only [List.getElem?_toArray, List.getElem?_cons_succ, List.getElem?_cons_zero]; rfl) (by kernel_rfl) (by exact fun _ _ _ h => h) (by rfl) (by rintro w ⟨C1, C2⟩; exact rn_load1 (by kernel_rfl) (by rfl) C1) HS.out ?_
  simp only [Nat.reduceAdd, Nat.zero_add, Act.put, List.setIfInBounds_toArray, List.set_cons_succ, List.set_cons_zero]
  refine WT.take 1 (v := .pointer (some ⟨b, 0, none⟩)) (by simp only [List.getElem?_toArray, List.getElem?_cons_succ, List.getElem?_cons_zero]; rfl) (by kernel_rfl) (by exact fun _ _ _ h => h) (by rfl) (by rintro w ⟨C1, C2⟩; exact rn_load1 (by kernel_rfl) (by rfl) C1) HS.out ?_
  simp only [Nat.reduceAdd, Nat.zero_add, Act.put, List.setIfInBounds_toArray, List.set_cons_succ, List.set_cons_zero]
  refine WT.take 2 (v := _) (by simp only [List.getElem?_toArray, List.getElem?_cons_succ, List.getElem?_cons_zero]; rfl) (by kernel_rfl) (by exact fun _ _ _ h => h) (by rfl) (by rintro w ⟨C1, C2⟩; go_simp; with_reducible rfl) HS.out ?_
  simp only [Nat.reduceAdd, Nat.zero_add, Act.put, List.setIfInBounds_toArray, List.set_cons_succ, List.set_cons_zero]
  refine WT.take 3 (v := _) (by simp only [List.getElem?_toArray, List.getElem?_cons_succ, List.getElem?_cons_zero]; rfl) (by kernel_rfl) (by exact fun _ _ _ h => h) (by rfl) (by rintro w ⟨C1, C2⟩; go_simp; with_reducible rfl) HS.out ?_
  simp only [Nat.reduceAdd, Nat.zero_add, Act.put, List.setIfInBounds_toArray, List.set_cons_succ, List.set_cons_zero]
  refine WT.take 4 (v := .slice ad n c) (by simp only [List.getElem?_toArray, List.getElem?_cons_succ, List.getElem?_cons_zero]; rfl) (by kernel_rfl) (by exact fun _ _ _ h => h) (by rfl) (by rintro w ⟨C1, C2⟩; exact rn_load1 (by kernel_rfl) (by rfl) C2) HS.out ?_
  simp only [Nat.reduceAdd, Nat.zero_add, Act.put, List.setIfInBounds_toArray, List.set_cons_succ, List.set_cons_zero]
  refine WT.take 5 (v := _) (by simp only [List.getElem?_toArray, List.getElem?_cons_succ, List.getElem?_cons_zero]; rfl) (by kernel_rfl) (by exact fun _ _ _ h => h) (by rfl) (by rintro w ⟨C1, C2⟩; go_simp; with_reducible rfl) HS.out ?_
  simp only [Nat.reduceAdd, Nat.zero_add, Act.put, List.setIfInBounds_toArray, List.set_cons_succ, List.set_cons_zero]
  refine WT.stop (by kernel_rfl) ?_
  refine WP.only 6 (v := _) (by simp only [List.getElem?_toArray, List.getElem?_cons_succ, List.getElem?_cons_zero]; rfl) (by kernel_rfl) (by rfl) (by go_simp; first | with_reducible rfl | exact ⟨rfl, rfl⟩) ?_
  simp only [Nat.reduceAdd, Nat.zero_add, Act.put, List.setIfInBounds_toArray, List.set_cons_succ, List.set_cons_zero]
  refine WP.only 7 (v := _) (by simp only [List.getElem?_toArray, List.getElem?_cons_succ, List.getElem?_cons_zero]; rfl) (by kernel_rfl) (by rfl) (by go_simp; first | with_reducible rfl | exact ⟨rfl, rfl⟩) ?_
  simp only [Nat.reduceAdd, Nat.zero_add, Act.put, List.setIfInBounds_toArray, List.set_cons_succ, List.set_cons_zero]
  refine WP.onlySkipE 8 (by simp only [List.getElem?_toArray, List.getElem?_cons_succ, List.getElem?_cons_zero]; rfl) (by kernel_rfl) (by rfl) (re_store (v := .int .i64 n) (n := 1) (by kernel_rfl) (by rfl) (by rfl) Q1.out (by rfl) (by simp) (by simp [Value.cells, Value.oneCell'])) ?_
  intro w5 s5
  simp only [Nat.reduceAdd, Nat.zero_add, Act.put, List.setIfInBounds_toArray, List.set_cons_succ, List.set_cons_zero]
  refine WP.done (by kernel_rfl) ?_
  go_wp2
  go_end0
  have k5 : Keeps F w w5 := (Keeps.refl F w).drew.trans s5.k (fun i _ e => e ▸ (H.out.file b HB.out).2)
  have kb : Keeps (· = b) w w5 := (Keeps.refl (· = b) w).drew.trans s5.k (fun _ _ e => e)
  refine ⟨⟨_, rfl⟩, Now.of (F := F) (R := R) ?_ k5⟩
  have hsz := kb.size
  have hblk : w5.heap[b]? = some (.cells #[.slice ad n c, .int .i64 ((fc b).b.length : Nat)] 65 (0, 0)) := by rw [← HN.out]; exact s5.blk
  refine H.out.set HB.out kb ⟨_, hblk, ?_, Nat.le_refl _, Q4.out⟩ (fun _ h => h) (fun _ h => .inl h)
  have hz := Q2.out.keeps kb (fun k hr e => H.out.apart k (e ▸ (H.out.file b HB.out).2) hr)
  simpa [HN.out] using hz
theorem zero63i : (Try.prog.info? 63).map (·.zero) = some (some (.pointer none)) := by kernel_rfl
set_option maxHeartbeats 4000000 in
set_option maxRecDepth 100000 in
theorem sync_at (d : Nat) (s : ByteArray) (D : Dk) (F R : Nat → Prop) (fc : Nat → Fl) (w : World) (h : DiskAt w d F R D fc) (hs : s.size ≤ maxLen) (hc : D.changes < 1000000) :
    Calls Try.prog 17 #[.pointer (some ⟨d, 0, none⟩), .string s] w fun e w' => ∃ (er : Int) (D' : Dk) (fc' : Nat → Fl), e = .returned (.int .i64 er) ∧ Now w w' d F R D' fc' ∧ SyncR D fc s er D' fc' := by
  have H := Lib.hid h
  have HS := Lib.hid hs
  have HC := Lib.hid hc
  obtain ⟨⟨m1, m2, sv, h3, h4, h5, h6, h7, h8, h9⟩, g1, g2, g3, g3b, g4, g5, g6⟩ := h
  have FA := Lib.hid (find_at d m1 m2 sv D w h3 h4 s HS.out)
  have H3 := Lib.hid h3
  clear hs hc g2 g3 g3b g4 h4 h5 h6 h7 h3 h8 h9 g1 g6
  have G5 := Lib.hid g5
  clear g5
  go_enter Try.func17, Try.ntmps17
  go_wp2_with fail
  refine FA.out.mono ?_
  rintro _ w1 ⟨rfl, k1⟩
  obtain ⟨r, er, hr⟩ : ∃ r er, found D s = (r, er) := ⟨_, _, rfl⟩
  have HR := Lib.hid hr
  rw [hr]
  clear hr FA
  simp only
  go_wp2_with (first | go_skip | (with_reducible refine stop_alloc (t := 63) ?_))
  refine at_out (valloc (z := .pointer none) zero63i ?_)
  intro a1 w2 n2
  simp only [Nat.reduceAdd, Nat.zero_add, Act.put, List.setIfInBounds_toArray, List.set_cons_succ, List.set_cons_zero]
  have c2 := n2.blk
  go_wp2_with (first | go_skip | (with_reducible refine stop_store (t := 63) ?_))
  refine at_out (wpList_skipE rfl (re_store (v := ptr r) (n := 1) (by kernel_rfl) (by rfl) (by rfl) c2 (by cases r <;> rfl) (by simp [Value.cells]) (by cases r <;> simp [ptr, Value.cells, Value.oneCell'])) ?_)
  intro w3 s3
  simp only [Nat.reduceAdd, Nat.zero_add, Act.put, List.setIfInBounds_toArray, List.set_cons_succ, List.set_cons_zero]
  have k12 := n2.k
  have k3 : Keeps Nb w w3 := by
    have h12 : Keeps Nb w w2 := k1.trans_nb k12
    exact h12.own (Nat.le_trans k1.size n2.ge) s3.k
  have x1 : ¬ F a1 := fun e => by have := G5.out _ e; have := n2.ge; have := k1.size; omega
  have b3 : w3.heap[a1]? = some (.cells #[ptr r] 63 (0, 0)) := by
    have := s3.blk; cases r <;> exact this
  have B3 := Lib.hid b3
  have X1 := Lib.hid x1
  clear n2 c2 s3 k12 b3 x1
  rcases found_cases D s with ⟨q1, q2⟩ | ⟨q1, q2, q3⟩ | ⟨b, q1, q2, q3⟩
  · obtain ⟨rfl, rfl⟩ : none = r ∧ (2 : Int) = er := by have := q2.symm.trans HR.out; simpa using this
    clear q2
    go_wp2
    go_ret
    exact ⟨_, _, _, rfl, Now.same H.out k3, .inl ⟨q1, rfl, rfl, rfl⟩⟩
  · obtain ⟨rfl, rfl⟩ : none = r ∧ (6 : Int) = er := by have := q3.symm.trans HR.out; simpa using this
    clear q3
    go_wp2
    go_ret
    exact ⟨_, _, _, rfl, Now.same H.out k3, .inr (.inl ⟨q1, q2, rfl, rfl, rfl⟩)⟩
  · obtain ⟨rfl, rfl⟩ : some b = r ∧ (0 : Int) = er := by have := q3.symm.trans HR.out; simpa using this
    have Q1 := Lib.hid q1
    have Q2 := Lib.hid q2
    clear q1 q2 q3
    cases hdd : D.dead
    · have HW : Hid (Ways w3 d m1 m2 sv (chg D).1 (chg D).2.1 40 36 36 #[.pointer (some ⟨a1, 0, none⟩)] #[] #[] fun w' => Now w w' d F R (chg D).1 (if (chg D).2.1 = 1 then setf fc b ⟨(fc b).b, (fc b).b.length⟩ else fc)) := by
        intro w4 hb4 hk4
        have D4 := (H.out.nb k3).chg (k3.nb H3.out) hb4 hk4 HC.out
        have kw4 : Keeps F w w4 := ((Keeps.refl F w).trans_nb k3).trans hk4 (fun i _ e => e ▸ H.out.fd)
        have nd1 : ¬ a1 = d := fun e => X1.out (e ▸ H.out.fd)
        have hn := chg_same D
        have hno : (chg D).2.1 ≠ 1 → Now w w4 d F R (chg D).1 (if (chg D).2.1 = 1 then setf fc b ⟨(fc b).b, (fc b).b.length⟩ else fc) := fun e => by rw [if_neg e]; exact Now.of D4 kw4
        refine ⟨fun e => hno (by omega), fun e => ?_, fun e => ?_, fun e => ?_⟩
        · refine (sync1_at d b a1 (chg D).1 F R fc w4 D4 (ref_flook (by rw [hn.1]; exact Q2.out)) (hk4.at B3.out nd1)).mono ?_
          rintro e5 w5 ⟨hv, hN⟩
          rw [if_pos e]
          exact ⟨hv, hN.from kw4⟩
        · exact ways_nothing (hno (by omega))
        · exact ways_nothing (hno (by omega))
      have hnu := H.out.nums
      have CA := Lib.hid (change_at d m1 m2 sv D w3 (k3.nb H3.out) hdd ⟨hnu.ch.1, hnu.ch.2⟩ hnu.fu hnu.fn hnu.fe 40 36 36 #[.pointer (some ⟨a1, 0, none⟩)] #[] #[] (fun _ _ => rfl) (fun _ _ => rfl) (fun _ _ => rfl) _ HW.out)
      have HD := Lib.hid hdd
      clear HW hdd hnu
      go_wp2_with fail
      refine CA.out.mono ?_
      rintro _ w9 ⟨rfl, hN⟩
      go_wp2
      go_ret
      exact ⟨_, _, _, rfl, hN, .inr (.inr ⟨b, Q1.out, Q2.out, .inr ⟨HD.out, rfl, rfl, rfl⟩⟩)⟩
    · have CA := Lib.hid (change_dead d m1 m2 sv D w3 (k3.nb H3.out) hdd (.func (.func 40) #[] #[.pointer (some ⟨a1, 0, none⟩)]) (.func (.func 36) #[] #[]) (.func (.func 36) #[] #[]))
      have HD := Lib.hid hdd
      clear hdd
      go_wp2_with fail
      refine CA.out.mono ?_
      rintro _ w9 ⟨rfl, rfl⟩
      go_wp2
      go_ret
      exact ⟨_, _, _, rfl, Now.same H.out k3, .inr (.inr ⟨b, Q1.out, Q2.out, .inl ⟨HD.out, rfl, rfl, rfl⟩⟩)⟩
end Go.Proofs.Ytgpecnihjjnkeaa
