/- The walk of PoolApart. -/
import Derived.Test.YtffnaigkdocpmacApartL
import Derived.Test.YtffnaigkdocpmacPlaysL
set_option linter.unusedVariables false
set_option linter.unusedSimpArgs false
namespace Go.Proofs.Ytffnaigkdocpmac
open Go.RowKit Go.Lk Go.Pool Go.Shelf

/-- The copy, and the reference's. -/
def Both (w3 : World) (F R Q : Nat → Prop) (A : List Ct) (p2 q2 : Nat) (w5 : World) : Prop :=
  ∃ F2, DuoAt w5 p2 q2 F2 (fun k => F k ∨ R k) Q A A ∧ (∀ k, F2 k → w3.heap.size ≤ k) ∧ w3.heap.size ≤ q2 ∧ Keeps Nb w3 w5
theorem both_of {w3 w5 : World} {p q p2 q2 : Nat} {F R Q F2 : Nat → Prop} {A : List Ct} {ar : Option Addr} {cr : Nat} (hD : DuoAt w3 p q F R Q A A) (hr : ListAt w3 Q ar A.length cr A) (hk : Keeps Nb w3 w5)
    (hP : PoolAt w5 p2 F2 (fun k => F k ∨ R k) A) (hF : ∀ k, F2 k → w3.heap.size ≤ k) (hq : w5.heap[q2]? = some (.cells #[.slice ar A.length cr] 52 (0, 0))) (hq2 : w3.heap.size ≤ q2) (hn : ¬ F2 q2) : Both w3 F R Q A p2 q2 w5 := by
  refine ⟨F2, ⟨hP, ⟨⟨ar, cr, hq, hr.keeps hk (fun _ _ e => e)⟩, hD.ref.good, hD.ref.len, fun h => ?_⟩, hn, fun h => ?_, fun k h1 h2 => ?_, fun k h => Nat.lt_of_lt_of_le (hD.lq k h) hk.size⟩, hF, hq2, hk⟩
  · have := hD.lq q2 h; omega
  · rcases h with h | h
    · have := hD.pool.ltF q2 h; omega
    · have := hD.pool.ltR q2 h; omega
  · have := hF k h1; have := hD.lq k h2; omega

namespace poolApart
set_option maxRecDepth 100000 in
set_option maxHeartbeats 16000000 in
theorem walk {H : Type} {enc : TypeId × Value → H} {base : Nat} (w : World) {v0 : Value} {d0 : DataW H} {p0 : List MemPlace} (kv0 : Value.okWide Try.prog w .any base 22 v0) (k0 : DataW.Trod enc Try.prog w 0 (fun _ => true) true 22 v0 d0 p0)
    {v1 : Value} {d1 : DataW H} {p1 : List MemPlace} (kv1 : Value.okWide Try.prog w .any base 22 v1) (k1 : DataW.Trod enc Try.prog w 0 (fun _ => true) true 22 v1 d1 p1) :
    Calls Try.prog 6 #[v0, v1] w fun e w' => e = .returned (.bool true) ∧ Below w.heap.size w w' := by
  obtain ⟨a, cp, cs, rfl, hl, hok⟩ := list_of kv0 k0
  obtain ⟨am, cm, ms, rfl, hlm, hokm⟩ := list_of kv1 k1
  clear kv0 k0 kv1 k1
  have hc1 := hl.2.1
  have hm1 := hl.2.2.1
  have hc2 := hlm.2.1
  have hm2 := hlm.2.2.1
  unfold maxLen at hm1 hm2
  have hb52 : ∀ W : World, (Instr.build 52 #[]).run Try.prog W = .ok (.agg #[.slice none 0 0]) W := fun _ => by kernel_rfl
  have KN := Lib.hid known_at
  have FW := Lib.hid (few_at (Was w) a cp cs w hl hok)
  have FM := Lib.hid (few_at (Was w) am cm ms w hlm hokm)
  have HL := Lib.hid hl; have HOK := Lib.hid hok; have HLM := Lib.hid hlm; have HOKM := Lib.hid hokm
  clear hl hok hlm hokm
  refine calls_marks Try.func6 rfl ?_
  simp only [Try.ntmps6, List.size_toArray, List.length_cons, List.length_nil, Nat.reduceAdd, Nat.reduceSub, Array.replicate_succ, Array.replicate_zero, List.push_toArray, List.append_toArray, List.nil_append, List.cons_append]
  by_cases hfew : fewB cs = true
  case neg =>
    have hf : fewB cs = false := by simpa using hfew
    rw [hf] at FW
    clear hfew
    go_wp2_with fail
    refine FW.out.mono ?_; rintro e w' ⟨rfl, rfl⟩
    go_wp2_with fail
    refine (KN.out _).mono ?_; rintro e w9 ⟨rfl, k9⟩
    go_wp2
    refine ⟨_, results_tmp rfl _ _ _, rfl, ((Keeps.refl Nb w).trans_nb k9).below⟩
  rw [hfew] at FW
  have h60 : cs.length ≤ 60 := by unfold fewB at hfew; simp at hfew; exact hfew.2
  have HSIG := Lib.hid (few_sig hfew)
  clear hfew
  by_cases hfew : fewB ms = true
  case neg =>
    have hf : fewB ms = false := by simpa using hfew
    rw [hf] at FM
    clear hfew
    go_wp2_with fail
    refine FW.out.mono ?_; rintro e w' ⟨rfl, rfl⟩
    go_wp2_with fail
    refine FM.out.mono ?_; rintro e w' ⟨rfl, rfl⟩
    go_wp2_with fail
    refine (KN.out _).mono ?_; rintro e w9 ⟨rfl, k9⟩
    go_wp2
    refine ⟨_, results_tmp rfl _ _ _, rfl, ((Keeps.refl Nb w).trans_nb k9).below⟩
  rw [hfew] at FM
  have h61 : ms.length ≤ 60 := by unfold fewB at hfew; simp at hfew; exact hfew.2
  have HSIGM := Lib.hid (few_sig hfew)
  clear hfew
  go_wp2_with fail
  refine FW.out.mono ?_; rintro e w' ⟨rfl, rfl⟩
  go_wp2_with fail
  refine FM.out.mono ?_; rintro e w' ⟨rfl, rfl⟩
  go_wp2_with fail
  refine (new_at _).mono ?_
  rintro _ w1 ⟨p, rfl, hp1, kk1⟩
  go_wp2_with (first | go_skip | (with_reducible refine stop_box (t := 52) ?_))
  refine at_out (vbox rfl ?_); intro q w2 n2
  simp only [Nat.reduceAdd, Nat.zero_add, Act.put, List.setIfInBounds_toArray, List.set_cons_succ, List.set_cons_zero]
  have hD := duo_new hp1 n2 kk1
  have hk2 := kk1.trans_nb n2.k
  have y1 := kk1.size; have y2 := n2.ge
  have DO := Lib.hid (do_at p q (Up Nb w w1) Nb Nb (Was w) [] cs a cp w2 hD (HL.out.keeps hk2 (fun _ _ e => e)) HOK.out (fun k hk h => by
    unfold Was at hk
    rcases h with (h | h) | h
    · exact h
    · omega
    · omega) (by simp; omega))
  have HK2 := Lib.hid hk2
  clear hp1 kk1 n2 hD hk2 FW FM
  go_wp2_with fail
  refine DO.out.mono ?_
  rintro _ w3 ⟨rfl, hD⟩
  have K3 := Lib.hid (HK2.out.trans hD.k (fun i hi h => by
    rcases h with (h | h) | h
    · exact h
    · omega
    · omega))
  obtain ⟨F, R, Q, hDA, -⟩ := hD
  have hAl : (all [] cs).length ≤ 60 := by have := all_len cs []; simp at this; omega
  have hsg : ∀ c ∈ all [] cs, c.sig.length ≤ 5000 := fun c hc => by
    rcases all_sub hc with h | h
    · cases h
    · exact HSIG.out c h
  generalize all [] cs = A at *
  have HSG := Lib.hid hsg
  have HDA := Lib.hid hDA
  clear DO HK2 y1 y2 hsg HSIG
  -- the copy
  obtain ⟨⟨ar, cr, hbq, hla⟩, -⟩ := hDA.ref
  have HBQ := Lib.hid hbq; have HLA := Lib.hid hla
  have CP := Lib.hid (fun (u : World) (k : Keeps Nb w3 u) => copy_at p F R A u (HDA.out.pool.nb k))
  have CQ : ∀ u : Sub w3, u.wd.cell? ⟨q, 0, none⟩ = some (.slice ar A.length cr) := fun u => by rw [cell_of_block (u.k.nb HBQ.out)]; rfl
  have hb52' : ∀ (W : World) (x : Option Addr) (n c : Nat), (Instr.build 52 #[(0, .slice x n c)]).run Try.prog W = .ok (.agg #[.slice x n c]) W := fun _ _ _ _ => by kernel_rfl
  have hcA := hla.2.1
  have hmA := hla.2.2.1
  unfold maxLen at hmA
  clear hbq hla hDA
  have HS : Hid (∃ u : Sub w3, w3.drew = u.wd) := ⟨⟨w3.drew, (Keeps.refl Nb w3).drew⟩, rfl⟩
  go_wp2
  apply via (Φ := Both w3 F R Q A)
  case main =>
    intro key
    refine WT.region (fun u : World => ∃ v : Sub w3, u = v.wd) 10 10 [0, 2, 3, 4, 5, 6, 1, 8, 7, 9] (by kernel_rfl) rfl ?_
    refine WT.take 0 (v := _) (by simp only [List.getElem?_toArray, List.getElem?_cons_succ, List.getElem?_cons_zero]; rfl) (by kernel_rfl) (by exact fun _ _ _ h => h) (by rfl) (by rintro w ⟨u, rfl⟩; go_simp; with_reducible rfl) HS.out ?_
    simp only [Nat.reduceAdd, Nat.zero_add, Act.put, List.setIfInBounds_toArray, List.set_cons_succ, List.set_cons_zero]
    refine WT.take 2 (v := _) (by simp only [List.getElem?_toArray, List.getElem?_cons_succ, List.getElem?_cons_zero]; rfl) (by kernel_rfl) (by exact fun _ _ _ h => h) (by rfl) (by rintro w ⟨u, rfl⟩; go_simp; with_reducible rfl) HS.out ?_
    simp only [Nat.reduceAdd, Nat.zero_add, Act.put, List.setIfInBounds_toArray, List.set_cons_succ, List.set_cons_zero]
    refine WT.take 3 (v := _) (by simp only [List.getElem?_toArray, List.getElem?_cons_succ, List.getElem?_cons_zero]; rfl) (by kernel_rfl) (by exact fun _ _ _ h => h) (by rfl) (by rintro w ⟨u, rfl⟩; go_simp; with_reducible rfl) HS.out ?_
    simp only [Nat.reduceAdd, Nat.zero_add, Act.put, List.setIfInBounds_toArray, List.set_cons_succ, List.set_cons_zero]
    refine WT.take 4 (v := _) (by simp only [List.getElem?_toArray, List.getElem?_cons_succ, List.getElem?_cons_zero]; rfl) (by kernel_rfl) (by exact fun _ _ _ h => h) (by rfl) (by rintro w ⟨u, rfl⟩; go_simp; with_reducible rfl) HS.out ?_
    simp only [Nat.reduceAdd, Nat.zero_add, Act.put, List.setIfInBounds_toArray, List.set_cons_succ, List.set_cons_zero]
    refine WT.take 5 (v := _) (by simp only [List.getElem?_toArray, List.getElem?_cons_succ, List.getElem?_cons_zero]; rfl) (by kernel_rfl) (by exact fun _ _ _ h => h) (by rfl) (by rintro w ⟨u, rfl⟩; go_simp; with_reducible rfl) HS.out ?_
    simp only [Nat.reduceAdd, Nat.zero_add, Act.put, List.setIfInBounds_toArray, List.set_cons_succ, List.set_cons_zero]
    refine WT.take 6 (v := .agg #[.slice ar A.length cr]) (by simp only [List.getElem?_toArray, List.getElem?_cons_succ, List.getElem?_cons_zero]; rfl) (by kernel_rfl) (by exact fun _ _ _ h => h) (by rfl) (by rintro W ⟨u, rfl⟩; exact rn_b1 (by rfl) (hb52' _ _ _ _)) HS.out ?_
    simp only [Nat.reduceAdd, Nat.zero_add, Act.put, List.setIfInBounds_toArray, List.set_cons_succ, List.set_cons_zero]
    refine WT.forkC 1 7 [0, 2, 3, 4, 5, 6, 7, 1, 8, 9] (by simp only [List.getElem?_toArray, List.getElem?_cons_succ, List.getElem?_cons_zero]; rfl) (by simp only [List.getElem?_toArray, List.getElem?_cons_succ, List.getElem?_cons_zero]; rfl) (by kernel_rfl) (by rfl) (by rfl) (by go_simp; first | done | rfl | exact ⟨⟨rfl, rfl⟩, rfl⟩) (CP.out _ (Keeps.refl Nb w3).drew) (re_box (by rfl)) ?_ ?_
    · rintro _ w4 ⟨p2, F2, rfl, hP, hF, k4'⟩
      have k4 := (Keeps.refl Nb w3).drew.trans_nb k4'
      have HS : Hid (∃ u : Sub w3, w4 = u.wd) := ⟨⟨w4, k4⟩, rfl⟩
      refine ⟨_, rfl, HS.out, ?_⟩
      simp only [Nat.reduceAdd, Nat.zero_add, Act.put, List.setIfInBounds_toArray, List.set_cons_succ, List.set_cons_zero]
      refine WT.take 8 (v := _) (by simp only [List.getElem?_toArray, List.getElem?_cons_succ, List.getElem?_cons_zero]; rfl) (by kernel_rfl) (by exact fun _ _ _ h => h) (by rfl) (by rintro w ⟨u, rfl⟩; go_simp; with_reducible rfl) HS.out ?_
      simp only [Nat.reduceAdd, Nat.zero_add, Act.put, List.setIfInBounds_toArray, List.set_cons_succ, List.set_cons_zero]
      refine WT.onlyE 7 (by simp only [List.getElem?_toArray, List.getElem?_cons_succ, List.getElem?_cons_zero]; rfl) (by kernel_rfl) (by rfl) (re_box (by rfl)) ?_
      rintro _ w5 ⟨q2, rfl, n5⟩
      replace HS : Hid (∃ u : Sub w3, w5 = u.wd) := ⟨⟨w5, k4.trans_nb n5.k⟩, rfl⟩
      refine ⟨HS.out, ?_⟩
      simp only [Nat.reduceAdd, Nat.zero_add, Act.put, List.setIfInBounds_toArray, List.set_cons_succ, List.set_cons_zero]
      refine WT.take 9 (v := _) (by simp only [List.getElem?_toArray, List.getElem?_cons_succ, List.getElem?_cons_zero]; rfl) (by kernel_rfl) (by exact fun _ _ _ h => h) (by rfl) (by rintro w ⟨u, rfl⟩; go_simp; with_reducible rfl) HS.out ?_
      simp only [Nat.reduceAdd, Nat.zero_add, Act.put, List.setIfInBounds_toArray, List.set_cons_succ, List.set_cons_zero]
      refine WT.stop (by kernel_rfl) (WP.done (by kernel_rfl) ?_)
      have hF' : ∀ k, F2 k → w3.heap.size ≤ k := hF
      have k4z := k4.size
      have hg := n5.ge
      exact key p2 q2 w5 (both_of HDA.out HLA.out (k4.trans_nb n5.k) (hP.nb n5.k) hF' n5.blk (by omega) (fun h => by have := hP.ltF q2 h; omega))
    · rintro _ w4 ⟨q2, rfl, n5⟩
      have k4 := (Keeps.refl Nb w3).drew.trans_nb n5.k
      have HS : Hid (∃ u : Sub w3, w4 = u.wd) := ⟨⟨w4, k4⟩, rfl⟩
      refine ⟨HS.out, ?_⟩
      simp only [Nat.reduceAdd, Nat.zero_add, Act.put, List.setIfInBounds_toArray, List.set_cons_succ, List.set_cons_zero]
      refine WT.call 1 (by simp only [List.getElem?_toArray, List.getElem?_cons_succ, List.getElem?_cons_zero]; rfl) (by kernel_rfl) (by rfl) (by go_simp; first | done | rfl | exact ⟨⟨rfl, rfl⟩, rfl⟩) (CP.out _ k4) ?_
      rintro _ w5 ⟨p2, F2, rfl, hP, hF, k5⟩
      replace HS : Hid (∃ u : Sub w3, w5 = u.wd) := ⟨⟨w5, k4.trans_nb k5⟩, rfl⟩
      refine ⟨_, rfl, HS.out, ?_⟩
      simp only [Nat.reduceAdd, Nat.zero_add, Act.put, List.setIfInBounds_toArray, List.set_cons_succ, List.set_cons_zero]
      refine WT.take 8 (v := _) (by simp only [List.getElem?_toArray, List.getElem?_cons_succ, List.getElem?_cons_zero]; rfl) (by kernel_rfl) (by exact fun _ _ _ h => h) (by rfl) (by rintro w ⟨u, rfl⟩; go_simp; with_reducible rfl) HS.out ?_
      simp only [Nat.reduceAdd, Nat.zero_add, Act.put, List.setIfInBounds_toArray, List.set_cons_succ, List.set_cons_zero]
      refine WT.take 9 (v := _) (by simp only [List.getElem?_toArray, List.getElem?_cons_succ, List.getElem?_cons_zero]; rfl) (by kernel_rfl) (by exact fun _ _ _ h => h) (by rfl) (by rintro w ⟨u, rfl⟩; go_simp; with_reducible rfl) HS.out ?_
      simp only [Nat.reduceAdd, Nat.zero_add, Act.put, List.setIfInBounds_toArray, List.set_cons_succ, List.set_cons_zero]
      refine WT.stop (by kernel_rfl) (WP.done (by kernel_rfl) ?_)
      have hg : w3.heap.size ≤ q2 := n5.ge
      have hl := n5.lt
      have k4z := k4.size
      exact key p2 q2 w5 (both_of HDA.out HLA.out (k4.trans_nb k5) hP (fun k h => by have := hF k h; omega) (k5.nb n5.blk) hg (fun h => by have := hF q2 h; omega))
  case key =>
    rintro p2 q2 w5 ⟨F2, hD2, hF2, hq2, k5⟩
    have K5 := Lib.hid (K3.out.trans_nb k5)
    have z35 := k5.size
    have zw3 := K3.out.size
    have DO2 := Lib.hid (do_at p2 q2 F2 (fun k => F k ∨ R k) Q (Was w) A ms am cm w5 hD2 (HLM.out.keeps K5.out (fun _ _ e => e)) HOKM.out (fun k hk h => by
      unfold Was at hk
      rcases h with h | h
      · have := hF2 k h; omega
      · omega) (by omega))
    have P5 := Lib.hid (HDA.out.pool.nb k5); have R5 := Lib.hid (HDA.out.ref.nb k5)
    clear hD2 CP CQ HS k5
    go_wp2_with fail
    refine DO2.out.mono ?_
    rintro _ w6 ⟨rfl, hD6⟩
    have k56 := hD6.k
    have P6 := Lib.hid (P5.out.keeps k56 (fun k hk h => by
      have := HDA.out.pool.ltF k hk
      rcases h with h | h
      · have := hF2 k h; omega
      · omega) (fun k hk h => by
      have := HDA.out.pool.ltR k hk
      rcases h with h | h
      · have := hF2 k h; omega
      · omega))
    have R6 := Lib.hid (R5.out.keeps k56 (fun h => by
      have := HDA.out.ref.lt
      rcases h with h | h
      · have := hF2 q h; omega
      · omega) (fun k hk h => by
      have := HDA.out.lq k hk
      rcases h with h | h
      · have := hF2 k h; omega
      · omega))
    have K6 := Lib.hid (K5.out.trans k56 (fun j hj h => by
      rcases h with h | h
      · have := hF2 j h; omega
      · omega) : Keeps Nb w w6)
    obtain ⟨F6, R6', Q6, ⟨hp6, hr6, -⟩, -⟩ := hD6
    have hA2l : (all A ms).length ≤ 120 := by have := all_len ms A; omega
    have hsg2 : ∀ c ∈ all A ms, c.sig.length ≤ 1000000 := fun c hc => by
      rcases all_sub hc with h | h
      · have := HSG.out c h; omega
      · have := HSIGM.out c h; omega
    generalize all A ms = A2 at *
    have P62 := Lib.hid hp6; have R62 := Lib.hid hr6; have HSG2 := Lib.hid hsg2; have HG2 := Lib.hid hp6.good
    have L1 := Lib.hid (fun (u : World) (k : Keeps Nb w6 u) => looks_at p q F R Q A u (P6.out.nb k) (R6.out.nb k) (fun c hc => by have := HSG.out c hc; omega))
    have L2 := Lib.hid (fun (u : World) (k : Keeps Nb w6 u) => looks_at p2 q2 F6 R6' Q6 A2 u (P62.out.nb k) (R62.out.nb k) HSG2.out)
    clear hp6 hr6 hsg2 k56 P5 R5 DO2 K5 HDA HLA HBQ hF2 HSIGM
    go_wp2_with fail
    refine (L1.out _ (Keeps.refl _ _)).mono ?_; rintro e w7 ⟨rfl, k7⟩
    go_wp2_with fail
    refine (L2.out _ k7).mono ?_; rintro e w8 ⟨rfl, k8'⟩
    have K8 := Lib.hid (k7.trans_nb k8')
    clear k7 k8'
    go_wp2_with fail
    refine (all_at p2 F6 R6' A2 _ (P62.out.nb K8.out) HSG2.out).mono ?_
    rintro _ w9 ⟨g, v, rfl, hge, hgb, hf, k9⟩
    have qn : ∀ (w : World) (fn : Fn) (a b : Array Value), (binOp .eql 61 (.func fn a b) .nilFunc).run Try.prog w = .ok (.bool false) w := fun w fn a b => by first | rfl | kernel_rfl
    obtain ⟨a9, c9, hv9, hla9⟩ := hf.list
    subst hv9
    have HGB := Lib.hid hgb; have HLA9 := Lib.hid hla9; have K9 := Lib.hid (K8.out.trans_nb k9)
    have glt := lt_of_block hgb
    clear hf hgb hla9 k9
    go_wp2_with (with_reducible refine stop_range0 ?_)
    refine at_out ((wpIn_wide (n := 9)).1 ?_)
    refine wp_range (gf := 41) (lb := #[.pointer (some ⟨g, 0, none⟩)]) (by rfl) (enters_of Try.func41 (by kernel_rfl) rfl)
      (all2_iter 8 (by omega) g (.slice a9 A2.length c9) A2 _ (fun b => w9.heap.size ≤ b) w9 a9 c9 HGB.out HLA9.out HG2.out.ok HSG2.out (fun b hb hs => by omega))
      (fun b hb => by unfold Book at hb; show w9.heap.size ≤ b; omega) (fun i args W h => by obtain ⟨c, s, -, rfl, -⟩ := h; rfl)
      (fun i W => Keeps (fun b => w9.heap.size ≤ b) w9 W) (fun _ _ => False)
      (fun i A B h k => h.trans k (fun j hj e => by unfold Book at e; show w9.heap.size ≤ j; omega)) (fun c A B h => h.elim) (Keeps.refl _ _) ?rnd1 ?dn1 (fun _ _ h => h.elim)
    case rnd1 =>
      rintro l i args W rfl hW2 hkW hi ⟨c, s, hci, rfl, hown, hsig⟩
      simp only [List.zip_toArray, List.zip_cons_cons, List.zip_nil_right, List.foldl_toArray, List.foldl_cons, List.foldl_nil, List.setIfInBounds_toArray, List.set_cons_succ, List.set_cons_zero]
      obtain ⟨z, hz0, hz1⟩ := zero35t
      have okc := HG2.out.ok c (List.mem_of_getElem? hci)
      have lw1 := sc_len okc s
      have one1 := Lib.hid (sc_one c s hsig.one)
      have HKW := Lib.hid hkW
      obtain ⟨sa, scap, hs, hsl, hsm, -, -⟩ := owns_has hown
      have HOW := Lib.hid hown
      have hBY : Byte W (fun k => w9.heap.size + 2 ≤ k) c.sig.length s := by
        refine ⟨sa, scap, hs, hsl, hsm, fun h0 => ?_⟩
        rcases hown.2 with ⟨hv, h2⟩ | ⟨g2, cap, cur, hv, hg2, hh, hn2, hc2, hcs, htk⟩
        · omega
        · rw [hs] at hv
          cases hv
          refine ⟨g2, 0, cur, c.sig[0], rfl, hg2, hh, ?_⟩
          have := congrArg (fun l => l[0]?) htk
          simpa [List.getElem?_take, h0] using this
      have HBY := Lib.hid hBY
      clear hBY hown hsig hkW hci
      generalize c.sig.length = n at *
      repeat (first | (with_reducible refine stop_region ?_) | (with_reducible refine stop_range ?_) | gi_step)
      refine at_out (regionIn_list (by kernel_rfl) (by rintro ⟨_, _, h⟩; exact h) ?_)
      go_wp2_with (first | go_skip | (with_reducible refine stop_load (t := 27) ?_) | (with_reducible refine stop_load (t := 28) ?_) | (with_reducible refine stop_load (t := 30) ?_) | (with_reducible refine stop_load (t := 33) ?_) | (with_reducible refine stop_load (t := 35) ?_) | (with_reducible refine stop_load (t := 40) ?_) | (with_reducible refine stop_load (t := 76) ?_) | (with_reducible refine stop_load (t := 77) ?_) | (with_reducible refine stop_box (t := 27) ?_) | (with_reducible refine stop_box (t := 28) ?_) | (with_reducible refine stop_box (t := 30) ?_) | (with_reducible refine stop_box (t := 33) ?_) | (with_reducible refine stop_box (t := 35) ?_) | (with_reducible refine stop_box (t := 40) ?_) | (with_reducible refine stop_box (t := 76) ?_) | (with_reducible refine stop_box (t := 77) ?_) | (with_reducible refine stop_alloc (t := 27) ?_) | (with_reducible refine stop_alloc (t := 28) ?_) | (with_reducible refine stop_alloc (t := 30) ?_) | (with_reducible refine stop_alloc (t := 33) ?_) | (with_reducible refine stop_alloc (t := 35) ?_) | (with_reducible refine stop_alloc (t := 40) ?_) | (with_reducible refine stop_alloc (t := 76) ?_) | (with_reducible refine stop_alloc (t := 77) ?_) | (with_reducible refine stop_alloc (t := 52) ?_) | (with_reducible refine stop_alloc (t := 68) ?_) | (with_reducible refine stop_alloc (t := 72) ?_) | (with_reducible refine stop_build (t := 27) ?_) | (with_reducible refine stop_build (t := 28) ?_) | (with_reducible refine stop_build (t := 30) ?_) | (with_reducible refine stop_build (t := 33) ?_) | (with_reducible refine stop_build (t := 35) ?_) | (with_reducible refine stop_build (t := 40) ?_) | (with_reducible refine stop_build (t := 76) ?_) | (with_reducible refine stop_build (t := 77) ?_) | (with_reducible refine stop_build (t := 52) ?_) | (with_reducible refine stop_build (t := 68) ?_) | (with_reducible refine stop_store (t := 27) ?_) | (with_reducible refine stop_store (t := 28) ?_) | (with_reducible refine stop_store (t := 30) ?_) | (with_reducible refine stop_store (t := 33) ?_) | (with_reducible refine stop_store (t := 35) ?_) | (with_reducible refine stop_store (t := 40) ?_) | (with_reducible refine stop_store (t := 76) ?_) | (with_reducible refine stop_store (t := 77) ?_) | (with_reducible refine stop_store (t := 22) ?_) | (with_reducible refine stop_store (t := 31) ?_) | (with_reducible refine stop_store (t := 47) ?_) | (with_reducible refine stop_store (t := 52) ?_) | (with_reducible refine stop_store (t := 68) ?_) | (with_reducible refine stop_store (t := 72) ?_) | (with_reducible refine stop_lookup ?_) | (with_reducible refine stop_buildSlice ?_) | (with_reducible refine stop_app ?_) | (with_reducible refine stop_mapEntry ?_) | (with_reducible refine stop_eql (t := 28) ?_) | (with_reducible refine stop_eql (t := 40) ?_) | (with_reducible refine stop_neq (t := 28) ?_) | (with_reducible refine stop_neq (t := 40) ?_))
      refine at_out (valloc hz0 ?_); intro g5 W1 n5
      simp only [Nat.reduceAdd, Nat.zero_add, Act.put, List.setIfInBounds_toArray, List.set_cons_succ, List.set_cons_zero]
      go_wp2_with (first | go_skip | (with_reducible refine stop_load (t := 27) ?_) | (with_reducible refine stop_load (t := 28) ?_) | (with_reducible refine stop_load (t := 30) ?_) | (with_reducible refine stop_load (t := 33) ?_) | (with_reducible refine stop_load (t := 35) ?_) | (with_reducible refine stop_load (t := 40) ?_) | (with_reducible refine stop_load (t := 76) ?_) | (with_reducible refine stop_load (t := 77) ?_) | (with_reducible refine stop_box (t := 27) ?_) | (with_reducible refine stop_box (t := 28) ?_) | (with_reducible refine stop_box (t := 30) ?_) | (with_reducible refine stop_box (t := 33) ?_) | (with_reducible refine stop_box (t := 35) ?_) | (with_reducible refine stop_box (t := 40) ?_) | (with_reducible refine stop_box (t := 76) ?_) | (with_reducible refine stop_box (t := 77) ?_) | (with_reducible refine stop_alloc (t := 27) ?_) | (with_reducible refine stop_alloc (t := 28) ?_) | (with_reducible refine stop_alloc (t := 30) ?_) | (with_reducible refine stop_alloc (t := 33) ?_) | (with_reducible refine stop_alloc (t := 35) ?_) | (with_reducible refine stop_alloc (t := 40) ?_) | (with_reducible refine stop_alloc (t := 76) ?_) | (with_reducible refine stop_alloc (t := 77) ?_) | (with_reducible refine stop_alloc (t := 52) ?_) | (with_reducible refine stop_alloc (t := 68) ?_) | (with_reducible refine stop_alloc (t := 72) ?_) | (with_reducible refine stop_build (t := 27) ?_) | (with_reducible refine stop_build (t := 28) ?_) | (with_reducible refine stop_build (t := 30) ?_) | (with_reducible refine stop_build (t := 33) ?_) | (with_reducible refine stop_build (t := 35) ?_) | (with_reducible refine stop_build (t := 40) ?_) | (with_reducible refine stop_build (t := 76) ?_) | (with_reducible refine stop_build (t := 77) ?_) | (with_reducible refine stop_build (t := 52) ?_) | (with_reducible refine stop_build (t := 68) ?_) | (with_reducible refine stop_store (t := 27) ?_) | (with_reducible refine stop_store (t := 28) ?_) | (with_reducible refine stop_store (t := 30) ?_) | (with_reducible refine stop_store (t := 33) ?_) | (with_reducible refine stop_store (t := 35) ?_) | (with_reducible refine stop_store (t := 40) ?_) | (with_reducible refine stop_store (t := 76) ?_) | (with_reducible refine stop_store (t := 77) ?_) | (with_reducible refine stop_store (t := 22) ?_) | (with_reducible refine stop_store (t := 31) ?_) | (with_reducible refine stop_store (t := 47) ?_) | (with_reducible refine stop_store (t := 52) ?_) | (with_reducible refine stop_store (t := 68) ?_) | (with_reducible refine stop_store (t := 72) ?_) | (with_reducible refine stop_lookup ?_) | (with_reducible refine stop_buildSlice ?_) | (with_reducible refine stop_app ?_) | (with_reducible refine stop_mapEntry ?_) | (with_reducible refine stop_eql (t := 28) ?_) | (with_reducible refine stop_eql (t := 40) ?_) | (with_reducible refine stop_neq (t := 28) ?_) | (with_reducible refine stop_neq (t := 40) ?_))
      refine at_out (wpList_skipE rfl (re_store (v := .agg (sc c s).toArray) (n := 101) aggS.size (by rfl) (by rfl) n5.blk (by simpa [Value.cells] using lw1) (by simp [hz1]) (by simpa [Value.cells] using one1.out)) ?_)
      intro W2 s5
      simp only [Nat.reduceAdd, Nat.zero_add, Act.put, List.setIfInBounds_toArray, List.set_cons_succ, List.set_cons_zero]
      rw [splice_all (by rw [hz1]; simpa [Value.cells] using lw1)] at s5
      have q5 : Keeps Nb W W2 := n5.k.own (k := g5) n5.ge s5.k
      have g5W := n5.ge
      have hb5 := s5.blk
      clear n5 s5
      go_wp2
      refine ⟨q5, fun W3 k3 => ?_⟩
      have kWW3 : Keeps (· = w9.heap.size + 1) W W3 := q5.of_nb.trans k3 (fun _ _ e => e)
      have b5 := k3.at hb5 (fun e => by omega)
      have c67 : W3.cell? ⟨g5, 67, none⟩ = some s := by
        have := (sc_has okc (b := g5) (off := 0) (s := s) (by simpa [Value.cells] using has_block b5)).2.2.2
        simpa using this
      obtain ⟨a', c', hs', hn', hm', hbyte⟩ := HBY.out.keeps kWW3 (fun b hb e => by omega)
      have KW3 := Lib.hid (HKW.out.trans kWW3 (fun _ _ e => by show w9.heap.size ≤ _; omega) : Keeps (fun b => w9.heap.size ≤ b) w9 W3)
      have zW3 := kWW3.size
      subst hs'
      unfold maxLen at hm'
      clear q5 k3 hb5 b5 kWW3 hs okc HOW HBY
      by_cases h0 : 0 < n
      · obtain ⟨b, off, cur, z5, e5, hbR, hbb, hbc⟩ := hbyte h0
        subst e5
        have i0 : (0 : Int) < (n : Int) := by omega
        have i0b : ¬ n = 0 := by omega
        have hoff := (Array.getElem?_eq_some_iff.1 hbc).1
        have cb : W3.cell? ⟨b, off, none⟩ = some (.int .u8 z5) := by rw [cell_of_block hbb]; exact hbc
        have HBB := Lib.hid hbb
        clear hbb hbc hbyte
        repeat (first | (with_reducible refine stop_region ?_) | (with_reducible refine stop_range ?_) | gi_step)
        refine at_out (regionIn_list (by kernel_rfl) (by rintro ⟨_, _, h⟩; exact h) ?_)
        go_wp2
        repeat (first | (with_reducible refine stop_region ?_) | (with_reducible refine stop_range ?_) | gi_step)
        refine at_out (regionIn_list (by kernel_rfl) (by rintro ⟨_, _, h⟩; exact h) ?_)
        go_wp2_with (first | go_skip | (with_reducible refine stop_store (t := 5) ?_))
        refine at_out (wpList_skipE rfl (re_store (v := .int .u8 _) (n := 1) (by kernel_rfl) (by rfl) (by rfl) HBB.out (by rfl) (by show off + 1 ≤ cur.size; omega) (by simp [Value.cells, Value.oneCell'])) ?_)
        intro W4 s4
        have kf : Keeps (fun b => w9.heap.size ≤ b ∧ ¬ Book w9 b) W3 W4 := s4.k.mono (fun j hj e => by subst e; unfold Book; omega)
        have kf2 : Keeps (fun b => w9.heap.size ≤ b) w9 W4 := KW3.out.trans kf (fun j hj e => e.1)
        simp only [Nat.reduceAdd, Nat.zero_add, Act.put, List.setIfInBounds_toArray, List.set_cons_succ, List.set_cons_zero]
        refine wpList_nil ?_
        exact ⟨kf, kf2⟩
      · have h00 : n = 0 := by omega
        subst h00
        clear hbyte
        repeat (first | (with_reducible refine stop_region ?_) | (with_reducible refine stop_range ?_) | gi_step)
        refine at_out (regionIn_list (by kernel_rfl) (by rintro ⟨_, _, h⟩; exact h) ?_)
        go_wp2
        repeat (first | (with_reducible refine stop_region ?_) | (with_reducible refine stop_range ?_) | gi_step)
        exact ⟨Keeps.refl _ _, KW3.out⟩
    case' dn1 => rintro W hkW hD
    have KW := Lib.hid (K9.out.trans hkW (fun j hj e => by have : w9.heap.size ≤ j := e; have := K9.out.size; omega) : Keeps Nb w6 W)
    have HD := Lib.hid hD
    have LA := Lib.hid (links_at p2 F6 R6' A2 W (P62.out.nb KW.out))
    have HF := Lib.hid (lks_fits HG2.out.ok)
    have hN := lks_len A2
    have z69 := K9.out.size
    have z06 := K6.out.size
    clear hkW hD K9 HGB HLA9 glt hge
    go_wp2_with fail
    refine LA.out.mono ?_; rintro e w10 ⟨v3, rfl, o3, k10⟩
    obtain ⟨a3, c3, rfl, hl3, hl4, hh3, -⟩ := owns_has o3
    unfold maxLen at hl4
    obtain ⟨b3, off3, hb3, hl5⟩ := links_get hh3 HF.out
    have hrow : lks A2 ≠ [] → W.heap.size ≤ b3 ∧ ∃ cur, w10.heap[b3]? = some (.cells cur 40 (0, 0)) ∧ off3 + (lks A2).length * 66 ≤ cur.size := fun h0 => by
      have h1 := hb3 h0
      rcases o3.2 with ⟨hv, -⟩ | ⟨g2, cap, cur, hv, hg2, hh, hn2, hc2, hcs, htk⟩
      · rw [h1] at hv; simp at hv
      · cases hv; cases h1
        exact ⟨hg2, cur, hh, by rw [hcs, Nat.zero_add]; exact Nat.mul_le_mul_right 66 hn2⟩
    have HB3 := Lib.hid hb3; have HL5 := Lib.hid hl5; have HRW := Lib.hid hrow; have K10 := Lib.hid k10
    clear LA o3 k10 hh3 hb3 hl5 hrow
    generalize hLL : lks A2 = L at *
    clear hLL
    go_wp2_with fail
    go_loopw [13] (fun i wr => ∃ k : Nat, k ≤ L.length ∧ i = .int .i64 k ∧ (∀ j l, k ≤ j → L[j]? = some l → Has wr (some ⟨b3, off3 + j * 66, none⟩) (valsK LK l)) ∧ (L ≠ [] → ∃ cur, wr.heap[b3]? = some (.cells cur 40 (0, 0)) ∧ off3 + L.length * 66 ≤ cur.size) ∧ Keeps Nb W wr) (fun i _ => L.length - (intOf i).toNat)
    case atStart => exact ⟨0, Nat.zero_le _, rfl, fun j l _ h => HL5.out j l h, fun h => (HRW.out h).2, K10.out⟩
    case round =>
      obtain ⟨k, hk, rfl, hlk, hrw, kw⟩ := hrel
      by_cases hlt : k < L.length
      · have i1 : (k : Int) < (L.length : Int) := by omega
        have hne : L ≠ [] := by rintro rfl; simp at hlt
        have ha3 := HB3.out hne
        subst ha3
        have hb3W := (HRW.out hne).1
        have hx := hlk k L[k] (Nat.le_refl _) (List.getElem?_eq_getElem hlt)
        have fx := HF.out _ (List.getElem_mem hlt)
        have HLK := Lib.hid hlk; have HRO := Lib.hid (hrw hne); have KWR := Lib.hid kw; have HX := Lib.hid hx; have FX := Lib.hid fx
        clear hlk hrw kw hx fx
        generalize L[k] = x at *
        have lx : (valsK LK x).length = 66 := by rw [valsK_length FX.out.length]; rfl
        have FA := Lib.hid (for_at p2 F6 R6' A2 x wr (P62.out.nb (KW.out.trans_nb KWR.out)) HSG2.out FX.out)
        have hDs : ∀ c ∈ A2.filter (fun c => decide (c.link = x)), c.Ok := fun c hc => HG2.out.ok c (List.mem_filter.1 hc).1
        have hDl : (A2.filter fun c => decide (c.link = x)).length ≤ 120 := Nat.le_trans (List.length_filter_le _ _) hA2l
        have HDS := Lib.hid hDs
        clear hDs
        generalize (A2.filter fun c => decide (c.link = x)) = D at *
        obtain ⟨wo, hwo⟩ : ∃ wo : World, wo = wr := ⟨_, rfl⟩
        subst hwo
        go_wp2_with (first | go_skip | (with_reducible refine stop_load (t := 27) ?_) | (with_reducible refine stop_load (t := 28) ?_) | (with_reducible refine stop_load (t := 30) ?_) | (with_reducible refine stop_load (t := 33) ?_) | (with_reducible refine stop_load (t := 35) ?_) | (with_reducible refine stop_load (t := 40) ?_) | (with_reducible refine stop_load (t := 76) ?_) | (with_reducible refine stop_load (t := 77) ?_) | (with_reducible refine stop_box (t := 27) ?_) | (with_reducible refine stop_box (t := 28) ?_) | (with_reducible refine stop_box (t := 30) ?_) | (with_reducible refine stop_box (t := 33) ?_) | (with_reducible refine stop_box (t := 35) ?_) | (with_reducible refine stop_box (t := 40) ?_) | (with_reducible refine stop_box (t := 76) ?_) | (with_reducible refine stop_box (t := 77) ?_) | (with_reducible refine stop_alloc (t := 27) ?_) | (with_reducible refine stop_alloc (t := 28) ?_) | (with_reducible refine stop_alloc (t := 30) ?_) | (with_reducible refine stop_alloc (t := 33) ?_) | (with_reducible refine stop_alloc (t := 35) ?_) | (with_reducible refine stop_alloc (t := 40) ?_) | (with_reducible refine stop_alloc (t := 76) ?_) | (with_reducible refine stop_alloc (t := 77) ?_) | (with_reducible refine stop_alloc (t := 52) ?_) | (with_reducible refine stop_alloc (t := 68) ?_) | (with_reducible refine stop_alloc (t := 72) ?_) | (with_reducible refine stop_build (t := 27) ?_) | (with_reducible refine stop_build (t := 28) ?_) | (with_reducible refine stop_build (t := 30) ?_) | (with_reducible refine stop_build (t := 33) ?_) | (with_reducible refine stop_build (t := 35) ?_) | (with_reducible refine stop_build (t := 40) ?_) | (with_reducible refine stop_build (t := 76) ?_) | (with_reducible refine stop_build (t := 77) ?_) | (with_reducible refine stop_build (t := 52) ?_) | (with_reducible refine stop_build (t := 68) ?_) | (with_reducible refine stop_store (t := 27) ?_) | (with_reducible refine stop_store (t := 28) ?_) | (with_reducible refine stop_store (t := 30) ?_) | (with_reducible refine stop_store (t := 33) ?_) | (with_reducible refine stop_store (t := 35) ?_) | (with_reducible refine stop_store (t := 40) ?_) | (with_reducible refine stop_store (t := 76) ?_) | (with_reducible refine stop_store (t := 77) ?_) | (with_reducible refine stop_store (t := 22) ?_) | (with_reducible refine stop_store (t := 31) ?_) | (with_reducible refine stop_store (t := 47) ?_) | (with_reducible refine stop_store (t := 52) ?_) | (with_reducible refine stop_store (t := 68) ?_) | (with_reducible refine stop_store (t := 72) ?_) | (with_reducible refine stop_lookup ?_) | (with_reducible refine stop_buildSlice ?_) | (with_reducible refine stop_app ?_) | (with_reducible refine stop_mapEntry ?_) | (with_reducible refine stop_eql (t := 28) ?_) | (with_reducible refine stop_eql (t := 40) ?_) | (with_reducible refine stop_neq (t := 28) ?_) | (with_reducible refine stop_neq (t := 40) ?_))
        refine at_out (wpList_val (v := kv LK x) rfl (rn_loadH aggL (by rfl) HX.out lx) ?_)
        simp only [Nat.reduceAdd, Nat.zero_add, Act.put, List.setIfInBounds_toArray, List.set_cons_succ, List.set_cons_zero]
        go_wp2_with fail
        refine FA.out.mono ?_; rintro _ w11 ⟨v8, rfl, hf8, k11⟩
        obtain ⟨a8, c8, b8, o8, R8, rfl, hl8, hm8, hR8, hb8, hv8⟩ := fresh_get hf8 HDS.out
        unfold maxLen at hm8
        have HB8 := Lib.hid hb8; have HV8 := Lib.hid hv8; have HR8 := Lib.hid hR8; have K11 := Lib.hid k11
        clear hf8 hb8 hv8 hR8 k11 FA
        go_wp2_with fail
        go_loopw [15] (fun i wr => ∃ j : Nat, j ≤ D.length ∧ i = .int .i64 j ∧ (∀ m c, D[m]? = some c → ∃ s, Byte wr R8 c.sig.length s ∧ wr.cell? ⟨b8, o8 + m * 101 + 67, none⟩ = some s) ∧ Keeps R8 w11 wr) (fun i _ => D.length - (intOf i).toNat)
        case atStart => exact ⟨0, Nat.zero_le _, rfl, HV8.out, Keeps.refl _ _⟩
        case round =>
          obtain ⟨j, hj, rfl, hbs, kj⟩ := hrel
          by_cases hjl : j < D.length
          · have i2 : (j : Int) < (D.length : Int) := by omega
            have hne2 : D ≠ [] := by rintro rfl; simp at hjl
            obtain ⟨e8, hnR⟩ := HB8.out hne2
            subst e8
            obtain ⟨s, hby, c67⟩ := hbs j D[j] (List.getElem?_eq_getElem hjl)
            have HBS := Lib.hid hbs; have KJ := Lib.hid kj
            clear hbs kj
            generalize D[j].sig.length = n at *
            obtain ⟨a', c', hs', hn', hm', hbyte⟩ := hby
            subst hs'
            unfold maxLen at hm'
            by_cases h0 : 0 < n
            · obtain ⟨b, off, cur, z5, e5, hbR, hbb, hbc⟩ := hbyte h0
              subst e5
              have i0 : (0 : Int) < (n : Int) := by omega
              have i0b : ¬ n = 0 := by omega
              have hoff := (Array.getElem?_eq_some_iff.1 hbc).1
              have cb : wr.cell? ⟨b, off, none⟩ = some (.int .u8 z5) := by rw [cell_of_block hbb]; exact hbc
              have HBB := Lib.hid hbb
              have HOF := Lib.hid hoff
              clear hbb hbc hbyte
              go_wp2_with (first | go_skip | (with_reducible refine stop_store (t := 5) ?_))
              refine at_out (wpList_skipE rfl (re_store (v := .int .u8 _) (n := 1) (by kernel_rfl) (by rfl) (by rfl) HBB.out (by rfl) (by show off + 1 ≤ cur.size; have := HOF.out; omega) (by simp [Value.cells, Value.oneCell'])) ?_)
              intro W4 s4
              simp only [Nat.reduceAdd, Nat.zero_add, Act.put, List.setIfInBounds_toArray, List.set_cons_succ, List.set_cons_zero]
              have hnew : ∀ m c, D[m]? = some c → ∃ s, Byte W4 R8 c.sig.length s ∧ W4.cell? ⟨b8, o8 + m * 101 + 67, none⟩ = some s := fun m c hm => by
                obtain ⟨s, h1, h2⟩ := HBS.out m c hm
                exact ⟨s, h1.set HBB.out HOF.out s4, (s4.k.cell (p := ⟨b8, o8 + m * 101 + 67, none⟩) (lt_of_cell h2) (fun e => hnR (by have : b8 = b := e; rw [this]; exact hbR))).trans h2⟩
              have knew : Keeps R8 w11 W4 := KJ.out.trans s4.k (fun i _ e => by have : i = b := e; rw [this]; exact hbR)
              have HNEW := Lib.hid hnew; have KNEW := Lib.hid knew
              clear hnew knew s4 cb c67
              go_wp2
              go_roundw
              case rel => exact ⟨j + 1, by omega, by go_num, HNEW.out, KNEW.out⟩
              case measure => simp [intOf]; omega
            · have h00 : n = 0 := by omega
              subst h00
              clear hbyte
              go_wp2
              go_roundw
              case rel => exact ⟨j + 1, by omega, by go_num, HBS.out, KJ.out⟩
              case measure => simp [intOf]; omega
          · have hjl2 : j = D.length := by omega
            subst hjl2
            have KJ := Lib.hid kj
            clear hbs hjl hj kj
            obtain ⟨cur, hcur, hcs⟩ := HRO.out
            have hRb3 : ¬ R8 b3 := fun h => by have := HR8.out b3 h; have := lt_of_block hcur; omega
            have hcur' := KJ.out.at (K11.out.nb hcur) hRb3
            have hx' := (HX.out.nb K11.out).keeps KJ.out (fun b o e _ h => by cases e; exact hRb3 h)
            obtain ⟨e0, he0⟩ := link_head FX.out
            have c26 : wr.cell? ⟨b3, off3 + k * 66, none⟩ = some (.int .u64 e0) := by
              rcases hx' with h | ⟨b', o', e, hc⟩
              · rw [h] at lx; simp at lx
              · cases e; simpa using hc 0 _ he0
            have HCU := Lib.hid hcur'
            have zwo := KWR.out.size
            clear hcur' hx' hcur he0
            go_wp2_with (first | go_skip | (with_reducible refine stop_store (t := 26) ?_))
            refine at_out (wpList_skipE rfl (re_store (v := .int .u64 _) (n := 1) (by kernel_rfl) (by rfl) (by rfl) HCU.out (by rfl) (by omega) (by simp [Value.cells, Value.oneCell'])) ?_)
            intro W4 s4
            simp only [Nat.reduceAdd, Nat.zero_add, Act.put, List.setIfInBounds_toArray, List.set_cons_succ, List.set_cons_zero]
            have hi3 : off3 + k * 66 < cur.size := by omega
            have hnew : ∀ j l, k + 1 ≤ j → L[j]? = some l → Has W4 (some ⟨b3, off3 + j * 66, none⟩) (valsK LK l) := fun j l hj hl =>
              has_set (((HLK.out j l (by omega) hl).nb K11.out).keeps KJ.out (fun b o e _ h => by cases e; exact hRb3 h)) HCU.out hi3 s4 (.inl (by omega))
            have hrw2 : L ≠ [] → ∃ cur, W4.heap[b3]? = some (.cells cur 40 (0, 0)) ∧ off3 + L.length * 66 ≤ cur.size := fun _ => ⟨_, s4.blk, by rw [splice_size (by show _ + 1 ≤ _; omega)]; exact hcs⟩
            have kfin : Keeps Nb W W4 := ((KWR.out.trans_nb K11.out).trans KJ.out (fun i hi e => by have := HR8.out i e; omega)).trans s4.k (fun i hi e => by have : i = b3 := e; omega)
            have HNEW := Lib.hid hnew; have HRW2 := Lib.hid hrw2; have KFIN := Lib.hid kfin
            clear hnew hrw2 kfin s4 c26
            go_wp2
            go_roundw
            case rel => exact ⟨k + 1, by omega, by go_num, HNEW.out, HRW2.out, KFIN.out⟩
            case measure => simp [intOf]; omega
      · have hkl : k = L.length := by omega
        subst hkl
        have KK := Lib.hid (KW.out.trans_nb kw)
        have HD2 := Lib.hid (kw.nb HD.out)
        clear hlk hrw hlt hk kw
        go_wp2_with fail
        refine (L1.out _ KK.out).mono ?_; rintro e wa ⟨rfl, ka⟩
        have KA := KK.out.trans_nb ka
        go_wp2_with fail
        refine (L2.out _ KA).mono ?_; rintro e wb ⟨rfl, kb⟩
        go_wp2_with fail
        refine (KN.out _).mono ?_; rintro e wc ⟨rfl, kc⟩
        have KC := KA.trans_nb (kb.trans_nb kc)
        have hDc := kc.nb (kb.nb (ka.nb HD2.out))
        have HDC := Lib.hid hDc; have HKC := Lib.hid (K6.out.trans_nb KC)
        clear KA KC ka kb kc hDc
        go_wp2
        refine ⟨by simp, .inl ⟨_, _, rfl, run_takeDeferred HDC.out, ?_⟩⟩
        have zz := K8.out.size
        exact ⟨_, results_tmp rfl _ _ _, rfl, (HKC.out.trans (keeps_putObj wc w9.heap.size (.deferred none)) (fun j hj e => by have : j = w9.heap.size := e; omega)).below⟩
end poolApart
end Go.Proofs.Ytffnaigkdocpmac
