/- Append, whole. -/
import Derived.Test.YtgpecnihjjnkeaaAppW
set_option linter.unusedVariables false
set_option linter.unusedSimpArgs false
namespace Go.Lk
instance (w0 : World) : Nonempty (Sub w0) := ⟨⟨w0, Keeps.refl _ _⟩⟩
end Go.Lk
namespace Go.Proofs.Ytgpecnihjjnkeaa
open Go.RowKit Go.Lk Go.Vfs
theorem mem_tot {l : List (ByteArray × Nat)} {s : ByteArray} {b : Nat} (h : (s, b) ∈ l) (fc : Nat → Fl) : (fc b).b.length ≤ tot l fc := by
  induction l with
  | nil => cases h
  | cons p l ih =>
    unfold tot at ih ⊢
    rw [List.map_cons, List.sum_cons]
    rcases List.mem_cons.1 h with rfl | h
    · exact Nat.le_add_right _ _
    · have := ih h; omega
/-- The closure that makes the ways of an Append. -/
theorem app1_at (n : Int) (a1 a2 : Nat) (w : World) : Calls Try.prog 37 #[.int .i64 n, .pointer (some ⟨a1, 0, none⟩), .pointer (some ⟨a2, 0, none⟩)] w fun e w' => ∃ a3, e = .returned (.func (.func 38) #[] #[.pointer (some ⟨a1, 0, none⟩), .pointer (some ⟨a2, 0, none⟩), .pointer (some ⟨a3, 0, none⟩)]) ∧ NewAt w w' a3 (.cells #[.int .i64 n] 3 (0, 0)) := by
  go_enter Try.func37, Try.ntmps37
  go_wp2_with (first | go_skip | (with_reducible refine stop_box (t := 3) ?_))
  refine at_out (vbox1 (v := .int .i64 n) (by rfl) (by rfl) ?_)
  intro a3 w1 n1
  simp only [Nat.reduceAdd, Nat.zero_add, Act.put, List.setIfInBounds_toArray, List.set_cons_succ, List.set_cons_zero]
  go_wp2
  go_ret
  exact ⟨a3, rfl, n1⟩
set_option maxHeartbeats 4000000 in
set_option maxRecDepth 100000 in
theorem app_at (d : Nat) (s : ByteArray) (v2 : Value) (bs : List Nat) (D : Dk) (F R Rb : Nat → Prop) (fc : Nat → Fl) (w : World) (h : DiskAt w d F R D fc) (hs : s.size ≤ maxLen) (hv : Bytes w Rb v2 bs) (hRF : ∀ k, Rb k → ¬ F k) (hc : D.changes < 1000000) :
    Calls Try.prog 16 #[.pointer (some ⟨d, 0, none⟩), .string s, v2] w fun e w' => ∃ (er : Int) (D' : Dk) (fc' : Nat → Fl), e = .returned (.int .i64 er) ∧ Now w w' d F R D' fc' ∧ AppR D fc s bs er D' fc' := by
  have H := Lib.hid h
  have HS := Lib.hid hs
  have HC := Lib.hid hc
  have HV := Lib.hid hv
  have HRF := Lib.hid hRF
  obtain ⟨⟨m1, m2, sv, h3, h4, h5, h6, h7, h8, h9⟩, g1, g2, g3, g3b, g4, g5, g6⟩ := h
  obtain ⟨ba, bc, rfl, b6, b7, b8⟩ := hv.rows
  obtain ⟨k, hk⟩ : ∃ k, k = bs.length := ⟨_, rfl⟩
  have HK := Lib.hid hk
  rw [← hk] at b6
  have H3 := Lib.hid h3
  have H4 := Lib.hid h4
  have G5 := Lib.hid g5
  rw [← hk]
  have hkm : k ≤ 9223372036854775807 := by unfold maxLen at b7; omega
  clear hs hc hv hRF g2 g3 g3b g4 h4 h5 h6 h7 h3 h8 h9 g1 g6 g5 b8 hk
  go_enter Try.func16, Try.ntmps16
  go_wp2_with (first | go_skip | (with_reducible refine stop_box (t := 31) ?_))
  refine at_out (vbox1 (v := .slice ba k bc) (by rfl) (by rfl) ?_)
  intro a2 w1 n1
  simp only [Nat.reduceAdd, Nat.zero_add, Act.put, List.setIfInBounds_toArray, List.set_cons_succ, List.set_cons_zero]
  have B2 := Lib.hid n1.blk
  have K1 := Lib.hid n1.k
  have XF2 : Hid (¬ F a2) := fun e => by have := G5.out _ e; have := n1.ge; omega
  have FA := Lib.hid (find_at d m1 m2 sv D w1 (n1.k.nb H3.out) (H4.out.nb n1.k) s HS.out)
  clear n1
  go_wp2_with fail
  refine FA.out.mono ?_
  rintro _ w2 ⟨rfl, k2⟩
  obtain ⟨r, er, hr⟩ : ∃ r er, found D s = (r, er) := ⟨_, _, rfl⟩
  have HR := Lib.hid hr
  rw [hr]
  clear hr FA
  simp only
  go_wp2_with (first | go_skip | (with_reducible refine stop_alloc (t := 63) ?_))
  refine at_out (valloc (z := .pointer none) zero63i ?_)
  intro a1 w3 n3
  simp only [Nat.reduceAdd, Nat.zero_add, Act.put, List.setIfInBounds_toArray, List.set_cons_succ, List.set_cons_zero]
  have c3 := n3.blk
  go_wp2_with (first | go_skip | (with_reducible refine stop_store (t := 63) ?_))
  refine at_out (wpList_skipE rfl (re_store (v := ptr r) (n := 1) (by kernel_rfl) (by rfl) (by rfl) c3 (by cases r <;> rfl) (by simp [Value.cells]) (by cases r <;> simp [ptr, Value.cells, Value.oneCell'])) ?_)
  intro w4 s4
  simp only [Nat.reduceAdd, Nat.zero_add, Act.put, List.setIfInBounds_toArray, List.set_cons_succ, List.set_cons_zero]
  have k14 : Keeps Nb w1 w4 := (k2.trans_nb n3.k).own (Nat.le_trans k2.size n3.ge) s4.k
  have K4 := Lib.hid (K1.out.trans_nb k14)
  have XF1 : Hid (¬ F a1) := fun e => by have := G5.out _ e; have := n3.ge; have := k2.size; have := K1.out.size; omega
  have B1 : Hid (w4.heap[a1]? = some (.cells #[ptr r] 63 (0, 0))) := by
    have := s4.blk; cases r <;> exact this
  have B24 := Lib.hid (k14.nb B2.out)
  have c24 : w4.cell? ⟨a2, 0, none⟩ = some (.slice ba k bc) := cell_of_block B24.out
  clear n3 c3 s4 k14 k2 B2
  rcases found_cases D s with ⟨q1, q2⟩ | ⟨q1, q2, q3⟩ | ⟨b, q1, q2, q3⟩
  · obtain ⟨rfl, rfl⟩ : none = r ∧ (2 : Int) = er := by have := q2.symm.trans HR.out; simpa using this
    clear q2
    go_wp2
    go_ret
    exact ⟨_, _, _, rfl, Now.same H.out K4.out, .inl ⟨q1, rfl, rfl, rfl⟩⟩
  · obtain ⟨rfl, rfl⟩ : none = r ∧ (6 : Int) = er := by have := q3.symm.trans HR.out; simpa using this
    clear q3
    go_wp2
    go_ret
    exact ⟨_, _, _, rfl, Now.same H.out K4.out, .inr (.inl ⟨q1, q2, rfl, rfl, rfl⟩)⟩
  · obtain ⟨rfl, rfl⟩ : some b = r ∧ (0 : Int) = er := by have := q3.symm.trans HR.out; simpa using this
    have Q1 := Lib.hid q1
    have Q2 := Lib.hid q2
    clear q1 q2 q3
    go_wp2
    have C2 : ∀ u : Sub w4, u.wd.cell? ⟨a2, 0, none⟩ = some (.slice ba k bc) := fun u => cell_of_block (u.k.nb B24.out)
    have RA : Hid (∀ u : Sub w4, Calls Try.prog 13 #[.pointer (some ⟨d, 0, none⟩)] u.wd fun e w' => e = .returned (.int .i64 (D.cap - (tot D.files fc : Nat))) ∧ Keeps Nb u.wd w') := fun u => room_at d D F R fc u.wd (H.out.nb (K4.out.trans_nb u.k))
    refine region_sub (by kernel_rfl) (by kernel_rfl) ?_
    obtain ⟨rm, hrm⟩ : ∃ rm, rm = D.cap - ((tot D.files fc : Nat) : Int) := ⟨_, rfl⟩
    have HRM := Lib.hid hrm
    rw [← hrm] at RA
    clear hrm
    repeat (go_big_quiet_step ((go_at_call 13; with_reducible exact quiet_sub (RA.out _))))
    refine wpQuiet_nil ?_
    rintro w5 ⟨u5, hu5⟩
    have K45 : Hid (Keeps Nb w4 w5) := hu5 ▸ u5.k
    clear hu5 RA C2 c24
    have c25 : w5.cell? ⟨a2, 0, none⟩ = some (.slice ba k bc) := cell_of_block (K45.out.nb B24.out)
    by_cases hle : rm < k
    · go_wp2
      go_ret
      exact ⟨_, _, _, rfl, Now.same H.out (K4.out.trans_nb K45.out), .inr (.inr ⟨b, Q1.out, Q2.out, .inl ⟨by rw [← HRM.out, ← HK.out]; exact hle, rfl, rfl, rfl⟩⟩)⟩
    · go_wp2
      have K5 := Lib.hid (K4.out.trans_nb K45.out)
      have B25 := Lib.hid (K45.out.nb B24.out)
      have B15 := Lib.hid (K45.out.nb B1.out)
      have HLE : Hid ((bs.length : Int) ≤ D.cap - (tot D.files fc : Nat)) := by rw [← HRM.out, ← HK.out]; show (k : Int) ≤ rm; omega
      clear hle HRM K45 B24 B1 K4
      have HS5 : Hid ((fun u : World => u.cell? ⟨a2, 0, none⟩ = some (.slice ba k bc) ∧ True) w5.drew) := ⟨c25, trivial⟩
      refine WT.region (fun u : World => u.cell? ⟨a2, 0, none⟩ = some (.slice ba k bc) ∧ True) 15 16 [0, 1, 2, 3, 5, 6, 7, 8, 10, 11, 12, 4, 9, 13, 14, 15] (by kernel_rfl) rfl ?_
      have HS := HS5
      refine WT.take 0 (v := _) (by simp only [List.getElem?_toArray, List.getElem?_cons_succ, List.getElem?_cons_zero]; rfl) (by kernel_rfl) (by exact fun _ _ _ h => h) (by rfl) (by rintro w ⟨C1, C2⟩; go_simp; with_reducible rfl) HS.out ?_
      simp only [Nat.reduceAdd, Nat.zero_add, Act.put, List.setIfInBounds_toArray, List.set_cons_succ, List.set_cons_zero]
      refine WT.take 1 (v := _) (by simp only [List.getElem?_toArray, List.getElem?_cons_succ, List.getElem?_cons_zero]; rfl) (by kernel_rfl) (by exact fun _ _ _ h => h) (by rfl) (by rintro w ⟨C1, C2⟩; go_simp; with_reducible rfl) HS.out ?_
      simp only [Nat.reduceAdd, Nat.zero_add, Act.put, List.setIfInBounds_toArray, List.set_cons_succ, List.set_cons_zero]
      refine WT.take 2 (v := .slice ba k bc) (by simp only [List.getElem?_toArray, List.getElem?_cons_succ, List.getElem?_cons_zero]; rfl) (by kernel_rfl) (by exact fun _ _ _ h => h) (by rfl) (by rintro w ⟨C1, C2⟩; exact rn_load1 (by kernel_rfl) (by rfl) C1) HS.out ?_
      simp only [Nat.reduceAdd, Nat.zero_add, Act.put, List.setIfInBounds_toArray, List.set_cons_succ, List.set_cons_zero]
      refine WT.take 3 (v := _) (by simp only [List.getElem?_toArray, List.getElem?_cons_succ, List.getElem?_cons_zero]; rfl) (by kernel_rfl) (by exact fun _ _ _ h => h) (by rfl) (by rintro w ⟨C1, C2⟩; go_simp; with_reducible rfl) HS.out ?_
      simp only [Nat.reduceAdd, Nat.zero_add, Act.put, List.setIfInBounds_toArray, List.set_cons_succ, List.set_cons_zero]
      refine WT.take 5 (v := _) (by simp only [List.getElem?_toArray, List.getElem?_cons_succ, List.getElem?_cons_zero]; rfl) (by kernel_rfl) (by exact fun _ _ _ h => h) (by rfl) (by rintro w ⟨C1, C2⟩; go_simp; with_reducible rfl) HS.out ?_
      simp only [Nat.reduceAdd, Nat.zero_add, Act.put, List.setIfInBounds_toArray, List.set_cons_succ, List.set_cons_zero]
      refine WT.take 6 (v := .slice ba k bc) (by simp only [List.getElem?_toArray, List.getElem?_cons_succ, List.getElem?_cons_zero]; rfl) (by kernel_rfl) (by exact fun _ _ _ h => h) (by rfl) (by rintro w ⟨C1, C2⟩; exact rn_load1 (by kernel_rfl) (by rfl) C1) HS.out ?_
      simp only [Nat.reduceAdd, Nat.zero_add, Act.put, List.setIfInBounds_toArray, List.set_cons_succ, List.set_cons_zero]
      refine WT.take 7 (v := _) (by simp only [List.getElem?_toArray, List.getElem?_cons_succ, List.getElem?_cons_zero]; rfl) (by kernel_rfl) (by exact fun _ _ _ h => h) (by rfl) (by rintro w ⟨C1, C2⟩; go_simp; with_reducible rfl) HS.out ?_
      simp only [Nat.reduceAdd, Nat.zero_add, Act.put, List.setIfInBounds_toArray, List.set_cons_succ, List.set_cons_zero]
      refine WT.take 8 (v := _) (by simp only [List.getElem?_toArray, List.getElem?_cons_succ, List.getElem?_cons_zero]; rfl) (by kernel_rfl) (by exact fun _ _ _ h => h) (by rfl) (by rintro w ⟨C1, C2⟩; go_simp; with_reducible rfl) HS.out ?_
      simp only [Nat.reduceAdd, Nat.zero_add, Act.put, List.setIfInBounds_toArray, List.set_cons_succ, List.set_cons_zero]
      refine WT.take 10 (v := _) (by simp only [List.getElem?_toArray, List.getElem?_cons_succ, List.getElem?_cons_zero]; rfl) (by kernel_rfl) (by exact fun _ _ _ h => h) (by rfl) (by rintro w ⟨C1, C2⟩; go_simp; with_reducible rfl) HS.out ?_
      simp only [Nat.reduceAdd, Nat.zero_add, Act.put, List.setIfInBounds_toArray, List.set_cons_succ, List.set_cons_zero]
      refine WT.take 11 (v := .slice ba k bc) (by simp only [List.getElem?_toArray, List.getElem?_cons_succ, List.getElem?_cons_zero]; rfl) (by kernel_rfl) (by exact fun _ _ _ h => h) (by rfl) (by rintro w ⟨C1, C2⟩; exact rn_load1 (by kernel_rfl) (by rfl) C1) HS.out ?_
      simp only [Nat.reduceAdd, Nat.zero_add, Act.put, List.setIfInBounds_toArray, List.set_cons_succ, List.set_cons_zero]
      refine WT.take 12 (v := _) (by simp only [List.getElem?_toArray, List.getElem?_cons_succ, List.getElem?_cons_zero]; rfl) (by kernel_rfl) (by exact fun _ _ _ h => h) (by rfl) (by rintro w ⟨C1, C2⟩; go_simp; with_reducible rfl) HS.out ?_
      simp only [Nat.reduceAdd, Nat.zero_add, Act.put, List.setIfInBounds_toArray, List.set_cons_succ, List.set_cons_zero]
      refine WT.call 4 (by simp only [List.getElem?_toArray, List.getElem?_cons_succ, List.getElem?_cons_zero]; rfl) (by kernel_rfl) (by rfl) (by go_simp; first | done | rfl | exact ⟨⟨rfl, rfl⟩, rfl⟩) (app1_at (k : Int) a1 a2 w5.drew) ?_
      rintro _ w6 ⟨x1, rfl, n6⟩
      have K56 : Hid (Keeps Nb w5 w6) := (Keeps.refl Nb w5).drew.trans_nb n6.k
      refine ⟨_, rfl, ⟨cell_of_block (K56.out.nb B25.out), trivial⟩, ?_⟩
      simp only [Nat.reduceAdd, Nat.zero_add, Act.put, List.setIfInBounds_toArray, List.set_cons_succ, List.set_cons_zero]
      refine WT.call 9 (by simp only [List.getElem?_toArray, List.getElem?_cons_succ, List.getElem?_cons_zero]; rfl) (by kernel_rfl) (by rfl) (by go_simp; exact IntWalk.i64_in _ (by omega)) (app1_at ((k : Int) / 2) a1 a2 w6) ?_
      rintro _ w7 ⟨x2, rfl, n7⟩
      have K57 := Lib.hid (K56.out.trans_nb n7.k)
      refine ⟨_, rfl, ⟨cell_of_block (K57.out.nb B25.out), trivial⟩, ?_⟩
      simp only [Nat.reduceAdd, Nat.zero_add, Act.put, List.setIfInBounds_toArray, List.set_cons_succ, List.set_cons_zero]
      refine WT.call 13 (by simp only [List.getElem?_toArray, List.getElem?_cons_succ, List.getElem?_cons_zero]; rfl) (by kernel_rfl) (by rfl) (by go_simp; first | done | rfl | exact ⟨⟨rfl, rfl⟩, rfl⟩) (app1_at (k : Int) a1 a2 w7) ?_
      rintro _ w8 ⟨x3, rfl, n8⟩
      have K58 := Lib.hid (K57.out.trans_nb n8.k)
      refine ⟨_, rfl, ⟨cell_of_block (K58.out.nb B25.out), trivial⟩, ?_⟩
      simp only [Nat.reduceAdd, Nat.zero_add, Act.put, List.setIfInBounds_toArray, List.set_cons_succ, List.set_cons_zero]
      have X1 := Lib.hid (n8.k.nb (n7.k.nb n6.blk))
      have X2 := Lib.hid (n8.k.nb n7.blk)
      have X3 := Lib.hid n8.blk
      have XN : Hid (¬ F x1 ∧ ¬ F x2 ∧ ¬ F x3) := by
        have e0 := K5.out.size; have e1 := n6.ge; have e2 := n7.ge; have e3 := n8.ge; have e4 := K56.out.size; have e5 := n7.k.size
        have e1' : w5.heap.size ≤ x1 := e1
        exact ⟨fun e => by have := G5.out _ e; omega, fun e => by have := G5.out _ e; omega, fun e => by have := G5.out _ e; omega⟩
      have B28 := Lib.hid (K58.out.nb B25.out)
      have B18 := Lib.hid (K58.out.nb B15.out)
      have K8 := Lib.hid (K5.out.trans_nb K58.out)
      clear K56 K57 K58 n6 n7 n8 B25 B15 K5 HS HS5 c25
      have H8 := Lib.hid (H.out.nb K8.out)
      have H38 := Lib.hid (K8.out.nb H3.out)
      cases hdd : D.dead
      · have HW : Hid (Ways w8 d m1 m2 sv (chg D).1 (chg D).2.1 38 38 38 #[.pointer (some ⟨a1, 0, none⟩), .pointer (some ⟨a2, 0, none⟩), .pointer (some ⟨x1, 0, none⟩)] #[.pointer (some ⟨a1, 0, none⟩), .pointer (some ⟨a2, 0, none⟩), .pointer (some ⟨x2, 0, none⟩)] #[.pointer (some ⟨a1, 0, none⟩), .pointer (some ⟨a2, 0, none⟩), .pointer (some ⟨x3, 0, none⟩)] fun w' => Now w8 w' d F R (chg D).1 (if (chg D).2.1 = 0 then fc else setf fc b ⟨(fc b).b ++ bs.take (if (chg D).2.1 = 2 then bs.length / 2 else bs.length), (fc b).lasts⟩)) := by
          intro w9 hb9 hk9
          have D9 := H8.out.chg H38.out hb9 hk9 HC.out
          have kw9 : Keeps F w8 w9 := hk9.mono (fun i _ e => e ▸ H.out.fd)
          have hd : ∀ x, ¬ F x → ¬ x = d := fun x hx e => hx (e ▸ H.out.fd)
          have hn := chg_same D
          have hmem := flook_some Q2.out
          have hrf : Ref (chg D).1 b := ref_flook (by rw [hn.1]; exact Q2.out)
          have htot : (fc b).b.length ≤ tot D.files fc := mem_tot hmem fc
          have hcap := H.out.nums.cap
          have hle := HLE.out
          have BB : Bytes w9 Rb (.slice ba k bc) bs := by rw [HK.out]; exact (HV.out.keeps K8.out (fun _ _ e => e)).keeps hk9 (fun i hi e => HRF.out i hi (e ▸ H.out.fd))
          have go : ∀ (x n : Nat), w8.heap[x]? = some (.cells #[.int .i64 (n : Nat)] 3 (0, 0)) → ¬ F x → n ≤ bs.length → Calls Try.prog 38 #[.pointer (some ⟨a1, 0, none⟩), .pointer (some ⟨a2, 0, none⟩), .pointer (some ⟨x, 0, none⟩)] w9 fun e w' => (∃ v, e = .returned v) ∧ Now w8 w' d F R (chg D).1 (setf fc b ⟨(fc b).b ++ bs.take n, (fc b).lasts⟩) := fun x n hx hxF hnl =>
            (app2_at d b a1 a2 x n _ bs (chg D).1 F R Rb fc w9 D9 hrf (hk9.at B18.out (hd _ XF1.out)) (hk9.at B28.out (hd _ XF2.out)) (hk9.at hx (hd _ hxF)) BB hnl (by omega)).mono (fun e w' h => ⟨h.1, h.2.from kw9⟩)
          refine ⟨fun e => ?_, fun e => ?_, fun e => ?_, fun e => ?_⟩
          · rw [if_pos e]; exact Now.of D9 kw9
          · rw [if_neg (by omega), if_neg (by omega)]
            refine go x1 bs.length ?_ XN.out.1 (Nat.le_refl _)
            rw [← HK.out]; exact X1.out
          · rw [if_neg (by omega), if_pos e]
            refine go x2 (bs.length / 2) ?_ XN.out.2.1 (by omega)
            rw [← HK.out]; exact X2.out
          · rw [if_neg (by omega), if_neg (by omega)]
            refine go x3 bs.length ?_ XN.out.2.2 (Nat.le_refl _)
            rw [← HK.out]; exact X3.out
        have hnu := H.out.nums
        have CA := Lib.hid (change_at d m1 m2 sv D w8 H38.out hdd ⟨hnu.ch.1, hnu.ch.2⟩ hnu.fu hnu.fn hnu.fe 38 38 38 _ _ _ (fun _ _ => rfl) (fun _ _ => rfl) (fun _ _ => rfl) _ HW.out)
        have HD := Lib.hid hdd
        clear HW hdd hnu
        refine WT.call 14 (by simp only [List.getElem?_toArray, List.getElem?_cons_succ, List.getElem?_cons_zero]; rfl) (by kernel_rfl) (by rfl) (by go_simp; first | done | rfl | exact ⟨⟨rfl, rfl⟩, rfl⟩) CA.out ?_
        rintro _ w9 ⟨rfl, hN⟩
        have c29 : w9.cell? ⟨a2, 0, none⟩ = some (.slice ba k bc) := by obtain ⟨F', R', -, -, -, hk9⟩ := hN; exact cell_of_block (hk9.at B28.out XF2.out)
        refine ⟨_, rfl, ⟨c29, trivial⟩, ?_⟩
        simp only [Nat.reduceAdd, Nat.zero_add, Act.put, List.setIfInBounds_toArray, List.set_cons_succ, List.set_cons_zero]
        refine WT.stop (by kernel_rfl) ?_
        refine WP.only 15 (v := _) (by simp only [List.getElem?_toArray, List.getElem?_cons_succ, List.getElem?_cons_zero]; rfl) (by kernel_rfl) (by rfl) (by go_simp; first | with_reducible rfl | exact ⟨rfl, rfl⟩) ?_
        simp only [Nat.reduceAdd, Nat.zero_add, Act.put, List.setIfInBounds_toArray, List.set_cons_succ, List.set_cons_zero]
        refine WP.done (by kernel_rfl) ?_
        go_wp2
        go_ret
        exact ⟨_, _, _, rfl, hN.from ((Keeps.refl F w).trans_nb K8.out), .inr (.inr ⟨b, Q1.out, Q2.out, .inr (.inr ⟨HLE.out, HD.out, rfl, rfl, rfl⟩)⟩)⟩
      · have CA := Lib.hid (change_dead d m1 m2 sv D w8 H38.out hdd (.func (.func 38) #[] #[.pointer (some ⟨a1, 0, none⟩), .pointer (some ⟨a2, 0, none⟩), .pointer (some ⟨x1, 0, none⟩)]) (.func (.func 38) #[] #[.pointer (some ⟨a1, 0, none⟩), .pointer (some ⟨a2, 0, none⟩), .pointer (some ⟨x2, 0, none⟩)]) (.func (.func 38) #[] #[.pointer (some ⟨a1, 0, none⟩), .pointer (some ⟨a2, 0, none⟩), .pointer (some ⟨x3, 0, none⟩)]))
        have HD := Lib.hid hdd
        clear hdd
        refine WT.call 14 (by simp only [List.getElem?_toArray, List.getElem?_cons_succ, List.getElem?_cons_zero]; rfl) (by kernel_rfl) (by rfl) (by go_simp; first | done | rfl | exact ⟨⟨rfl, rfl⟩, rfl⟩) CA.out ?_
        rintro _ w9 ⟨rfl, rfl⟩
        refine ⟨_, rfl, ⟨cell_of_block B28.out, trivial⟩, ?_⟩
        simp only [Nat.reduceAdd, Nat.zero_add, Act.put, List.setIfInBounds_toArray, List.set_cons_succ, List.set_cons_zero]
        refine WT.stop (by kernel_rfl) ?_
        refine WP.only 15 (v := _) (by simp only [List.getElem?_toArray, List.getElem?_cons_succ, List.getElem?_cons_zero]; rfl) (by kernel_rfl) (by rfl) (by go_simp; first | with_reducible rfl | exact ⟨rfl, rfl⟩) ?_
        simp only [Nat.reduceAdd, Nat.zero_add, Act.put, List.setIfInBounds_toArray, List.set_cons_succ, List.set_cons_zero]
        refine WP.done (by kernel_rfl) ?_
        go_wp2
        go_ret
        exact ⟨_, _, _, rfl, Now.same H.out K8.out, .inr (.inr ⟨b, Q1.out, Q2.out, .inr (.inl ⟨HLE.out, HD.out, rfl, rfl, rfl⟩)⟩)⟩
end Go.Proofs.Ytgpecnihjjnkeaa
