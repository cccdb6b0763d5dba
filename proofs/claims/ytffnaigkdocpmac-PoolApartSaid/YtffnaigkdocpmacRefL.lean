/- Links of the reference's pool: as those of the pool. -/
import Derived.Test.YtffnaigkdocpmacSameV
set_option linter.unusedVariables false
set_option linter.unusedSimpArgs false
namespace Go.Proofs.Ytffnaigkdocpmac
open Go.RowKit Go.Lk Go.Pool

theorem zero40t : ∃ z : Value, (Try.prog.info? 40).map (·.zero) = some (some z) ∧ z.cells.size = 66 := ⟨zL, zero40, zL_size⟩
theorem lks_take {cs : List Ct} {k : Nat} (h : k < cs.length) : lks (cs.take (k + 1)) = addL (lks (cs.take k)) cs[k].link := by
  rw [List.take_succ_eq_append_getElem h, lks_snoc]
theorem mem_take_succ {L : List (List Int)} {j : Nat} (h : j < L.length) (x : List Int) : decide (x ∈ L.take (j + 1)) = (decide (x ∈ L.take j) || decide (L[j] = x)) := by
  rw [List.take_succ_eq_append_getElem h, Bool.eq_iff_iff]
  simp only [List.mem_append, List.mem_singleton, decide_eq_true_eq, Bool.or_eq_true]
  constructor
  · rintro (h | h)
    · exact .inl h
    · exact .inr h.symm
  · rintro (h | h)
    · exact .inl h
    · exact .inr h.symm

set_option maxRecDepth 100000 in
set_option maxHeartbeats 2000000 in
theorem refLinks_at (q : Nat) (R : Nat → Prop) (cs : List Ct) (w : World) (h : RefAt w q R cs) :
    Calls Try.prog 30 #[.pointer (some ⟨q, 0, none⟩)] w (Linked w cs) := by
  obtain ⟨⟨a, cp, hb, hla⟩, hg, hlen, -⟩ := h
  have hc1 := hla.2.1
  have hc2 := hla.2.2.1
  unfold maxLen at hc2
  obtain ⟨b, off, ha, hv⟩ := votes_at hla hg.ok
  have HB := Lib.hid hb; have HA := Lib.hid ha; have HV := Lib.hid hv; have HG := Lib.hid hg
  clear hb ha hv hg hla
  obtain ⟨z, E47⟩ := el47
  obtain ⟨zl, hz0, hz1⟩ := zero40t
  go_enter Try.func30, Try.ntmps30
  go_wp2
  go_loopw [3, 4] (fun v i wr => ∃ k : Nat, k ≤ cs.length ∧ i = .int .i64 k ∧ wr.ownsRow w.heap.size 40 66 v (lks (cs.take k)).length ((lks (cs.take k)).flatMap (valsK LK)) ∧ Keeps Nb w wr) (fun _ i _ => cs.length - (intOf i).toNat)
  case atStart => exact ⟨0, Nat.zero_le _, rfl, World.ownsRow_nil _ _ _ _, Keeps.refl _ _⟩
  case round =>
    obtain ⟨k, hk, rfl, ho, kw⟩ := hrel
    have c0 : wr.cell? ⟨q, 0, none⟩ = some (.slice a cs.length cp) := by rw [cell_of_block (kw.nb HB.out)]; rfl
    obtain ⟨a3, c3, rfl, hl3, hl4, hh3, hb3⟩ := owns_has ho
    have hl4' := hl4
    unfold maxLen at hl4
    by_cases hlt : k < cs.length
    · have i1 : (k : Int) < (cs.length : Int) := by omega
      have hne : cs ≠ [] := by rintro rfl; simp at hlt
      have ha := HA.out hne
      subst ha
      obtain ⟨s1, hv1⟩ := HV.out k cs[k] (List.getElem?_eq_getElem hlt)
      have ok1 := HG.out.ok cs[k] (List.getElem_mem hlt)
      have HT := Lib.hid (lks_take hlt)
      have hN := lks_len (cs.take k)
      rw [List.length_take] at hN
      have HF := Lib.hid (lks_fits (cs := cs.take k) (fun c hc => HG.out.ok c (List.mem_of_mem_take hc)))
      generalize lks (cs.take k) = L at *
      generalize cs[k] = c at *
      have lv1 := vc_len ok1 s1
      have lL := lk_c ok1
      have oneL := Lib.hid (valsK_one LK c.link)
      have FL := Lib.hid ok1.link
      have CL := Lib.hid (fun w' => refLinkOf_at c s1 w' ok1)
      have VV := Lib.hid (hv1.nb kw)
      have HO := Lib.hid ho
      obtain ⟨b4, o4, ha4, hg4⟩ := links_get hh3 HF.out
      have HA4 := Lib.hid ha4; have HG4 := Lib.hid hg4; have HB3 := Lib.hid hb3; have KW := Lib.hid kw
      clear hv1 ok1 ho hh3 ha4 hg4 hb3
      obtain ⟨wo, rfl⟩ : ∃ wo : World, wo = wr := ⟨_, rfl⟩
      go_wp2_with (first | go_skip | (with_reducible refine stop_load (t := 27) ?_) | (with_reducible refine stop_load (t := 28) ?_) | (with_reducible refine stop_load (t := 30) ?_) | (with_reducible refine stop_load (t := 33) ?_) | (with_reducible refine stop_load (t := 35) ?_) | (with_reducible refine stop_load (t := 40) ?_) | (with_reducible refine stop_load (t := 76) ?_) | (with_reducible refine stop_load (t := 77) ?_) | (with_reducible refine stop_box (t := 27) ?_) | (with_reducible refine stop_box (t := 28) ?_) | (with_reducible refine stop_box (t := 30) ?_) | (with_reducible refine stop_box (t := 33) ?_) | (with_reducible refine stop_box (t := 35) ?_) | (with_reducible refine stop_box (t := 40) ?_) | (with_reducible refine stop_box (t := 76) ?_) | (with_reducible refine stop_box (t := 77) ?_) | (with_reducible refine stop_alloc (t := 27) ?_) | (with_reducible refine stop_alloc (t := 28) ?_) | (with_reducible refine stop_alloc (t := 30) ?_) | (with_reducible refine stop_alloc (t := 33) ?_) | (with_reducible refine stop_alloc (t := 35) ?_) | (with_reducible refine stop_alloc (t := 40) ?_) | (with_reducible refine stop_alloc (t := 76) ?_) | (with_reducible refine stop_alloc (t := 77) ?_) | (with_reducible refine stop_alloc (t := 52) ?_) | (with_reducible refine stop_alloc (t := 68) ?_) | (with_reducible refine stop_alloc (t := 72) ?_) | (with_reducible refine stop_build (t := 27) ?_) | (with_reducible refine stop_build (t := 28) ?_) | (with_reducible refine stop_build (t := 30) ?_) | (with_reducible refine stop_build (t := 33) ?_) | (with_reducible refine stop_build (t := 35) ?_) | (with_reducible refine stop_build (t := 40) ?_) | (with_reducible refine stop_build (t := 76) ?_) | (with_reducible refine stop_build (t := 77) ?_) | (with_reducible refine stop_build (t := 52) ?_) | (with_reducible refine stop_build (t := 68) ?_) | (with_reducible refine stop_store (t := 27) ?_) | (with_reducible refine stop_store (t := 28) ?_) | (with_reducible refine stop_store (t := 30) ?_) | (with_reducible refine stop_store (t := 33) ?_) | (with_reducible refine stop_store (t := 35) ?_) | (with_reducible refine stop_store (t := 40) ?_) | (with_reducible refine stop_store (t := 76) ?_) | (with_reducible refine stop_store (t := 77) ?_) | (with_reducible refine stop_store (t := 22) ?_) | (with_reducible refine stop_store (t := 31) ?_) | (with_reducible refine stop_store (t := 47) ?_) | (with_reducible refine stop_store (t := 52) ?_) | (with_reducible refine stop_store (t := 68) ?_) | (with_reducible refine stop_store (t := 72) ?_) | (with_reducible refine stop_lookup ?_) | (with_reducible refine stop_buildSlice ?_) | (with_reducible refine stop_app ?_) | (with_reducible refine stop_mapEntry ?_) | (with_reducible refine stop_eql (t := 28) ?_) | (with_reducible refine stop_eql (t := 40) ?_) | (with_reducible refine stop_neq (t := 28) ?_) | (with_reducible refine stop_neq (t := 40) ?_))
      refine at_out (wpList_val (v := .agg (vc c s1).toArray) rfl (rn_loadH aggV (by rfl) VV.out.vote lv1) ?_)
      simp only [Nat.reduceAdd, Nat.zero_add, Act.put, List.setIfInBounds_toArray, List.set_cons_succ, List.set_cons_zero]
      go_wp2_with fail
      refine (CL.out _).mono ?_; rintro e w3 ⟨rfl, q3⟩
      go_wp2_with (first | go_skip | (with_reducible refine stop_load (t := 27) ?_) | (with_reducible refine stop_load (t := 28) ?_) | (with_reducible refine stop_load (t := 30) ?_) | (with_reducible refine stop_load (t := 33) ?_) | (with_reducible refine stop_load (t := 35) ?_) | (with_reducible refine stop_load (t := 40) ?_) | (with_reducible refine stop_load (t := 76) ?_) | (with_reducible refine stop_load (t := 77) ?_) | (with_reducible refine stop_box (t := 27) ?_) | (with_reducible refine stop_box (t := 28) ?_) | (with_reducible refine stop_box (t := 30) ?_) | (with_reducible refine stop_box (t := 33) ?_) | (with_reducible refine stop_box (t := 35) ?_) | (with_reducible refine stop_box (t := 40) ?_) | (with_reducible refine stop_box (t := 76) ?_) | (with_reducible refine stop_box (t := 77) ?_) | (with_reducible refine stop_alloc (t := 27) ?_) | (with_reducible refine stop_alloc (t := 28) ?_) | (with_reducible refine stop_alloc (t := 30) ?_) | (with_reducible refine stop_alloc (t := 33) ?_) | (with_reducible refine stop_alloc (t := 35) ?_) | (with_reducible refine stop_alloc (t := 40) ?_) | (with_reducible refine stop_alloc (t := 76) ?_) | (with_reducible refine stop_alloc (t := 77) ?_) | (with_reducible refine stop_alloc (t := 52) ?_) | (with_reducible refine stop_alloc (t := 68) ?_) | (with_reducible refine stop_alloc (t := 72) ?_) | (with_reducible refine stop_build (t := 27) ?_) | (with_reducible refine stop_build (t := 28) ?_) | (with_reducible refine stop_build (t := 30) ?_) | (with_reducible refine stop_build (t := 33) ?_) | (with_reducible refine stop_build (t := 35) ?_) | (with_reducible refine stop_build (t := 40) ?_) | (with_reducible refine stop_build (t := 76) ?_) | (with_reducible refine stop_build (t := 77) ?_) | (with_reducible refine stop_build (t := 52) ?_) | (with_reducible refine stop_build (t := 68) ?_) | (with_reducible refine stop_store (t := 27) ?_) | (with_reducible refine stop_store (t := 28) ?_) | (with_reducible refine stop_store (t := 30) ?_) | (with_reducible refine stop_store (t := 33) ?_) | (with_reducible refine stop_store (t := 35) ?_) | (with_reducible refine stop_store (t := 40) ?_) | (with_reducible refine stop_store (t := 76) ?_) | (with_reducible refine stop_store (t := 77) ?_) | (with_reducible refine stop_store (t := 22) ?_) | (with_reducible refine stop_store (t := 31) ?_) | (with_reducible refine stop_store (t := 47) ?_) | (with_reducible refine stop_store (t := 52) ?_) | (with_reducible refine stop_store (t := 68) ?_) | (with_reducible refine stop_store (t := 72) ?_) | (with_reducible refine stop_lookup ?_) | (with_reducible refine stop_buildSlice ?_) | (with_reducible refine stop_app ?_) | (with_reducible refine stop_mapEntry ?_) | (with_reducible refine stop_eql (t := 28) ?_) | (with_reducible refine stop_eql (t := 40) ?_) | (with_reducible refine stop_neq (t := 28) ?_) | (with_reducible refine stop_neq (t := 40) ?_))
      refine at_out (valloc hz0 ?_); intro g w4 n4
      simp only [Nat.reduceAdd, Nat.zero_add, Act.put, List.setIfInBounds_toArray, List.set_cons_succ, List.set_cons_zero]
      go_wp2_with (first | go_skip | (with_reducible refine stop_load (t := 27) ?_) | (with_reducible refine stop_load (t := 28) ?_) | (with_reducible refine stop_load (t := 30) ?_) | (with_reducible refine stop_load (t := 33) ?_) | (with_reducible refine stop_load (t := 35) ?_) | (with_reducible refine stop_load (t := 40) ?_) | (with_reducible refine stop_load (t := 76) ?_) | (with_reducible refine stop_load (t := 77) ?_) | (with_reducible refine stop_box (t := 27) ?_) | (with_reducible refine stop_box (t := 28) ?_) | (with_reducible refine stop_box (t := 30) ?_) | (with_reducible refine stop_box (t := 33) ?_) | (with_reducible refine stop_box (t := 35) ?_) | (with_reducible refine stop_box (t := 40) ?_) | (with_reducible refine stop_box (t := 76) ?_) | (with_reducible refine stop_box (t := 77) ?_) | (with_reducible refine stop_alloc (t := 27) ?_) | (with_reducible refine stop_alloc (t := 28) ?_) | (with_reducible refine stop_alloc (t := 30) ?_) | (with_reducible refine stop_alloc (t := 33) ?_) | (with_reducible refine stop_alloc (t := 35) ?_) | (with_reducible refine stop_alloc (t := 40) ?_) | (with_reducible refine stop_alloc (t := 76) ?_) | (with_reducible refine stop_alloc (t := 77) ?_) | (with_reducible refine stop_alloc (t := 52) ?_) | (with_reducible refine stop_alloc (t := 68) ?_) | (with_reducible refine stop_alloc (t := 72) ?_) | (with_reducible refine stop_build (t := 27) ?_) | (with_reducible refine stop_build (t := 28) ?_) | (with_reducible refine stop_build (t := 30) ?_) | (with_reducible refine stop_build (t := 33) ?_) | (with_reducible refine stop_build (t := 35) ?_) | (with_reducible refine stop_build (t := 40) ?_) | (with_reducible refine stop_build (t := 76) ?_) | (with_reducible refine stop_build (t := 77) ?_) | (with_reducible refine stop_build (t := 52) ?_) | (with_reducible refine stop_build (t := 68) ?_) | (with_reducible refine stop_store (t := 27) ?_) | (with_reducible refine stop_store (t := 28) ?_) | (with_reducible refine stop_store (t := 30) ?_) | (with_reducible refine stop_store (t := 33) ?_) | (with_reducible refine stop_store (t := 35) ?_) | (with_reducible refine stop_store (t := 40) ?_) | (with_reducible refine stop_store (t := 76) ?_) | (with_reducible refine stop_store (t := 77) ?_) | (with_reducible refine stop_store (t := 22) ?_) | (with_reducible refine stop_store (t := 31) ?_) | (with_reducible refine stop_store (t := 47) ?_) | (with_reducible refine stop_store (t := 52) ?_) | (with_reducible refine stop_store (t := 68) ?_) | (with_reducible refine stop_store (t := 72) ?_) | (with_reducible refine stop_lookup ?_) | (with_reducible refine stop_buildSlice ?_) | (with_reducible refine stop_app ?_) | (with_reducible refine stop_mapEntry ?_) | (with_reducible refine stop_eql (t := 28) ?_) | (with_reducible refine stop_eql (t := 40) ?_) | (with_reducible refine stop_neq (t := 28) ?_) | (with_reducible refine stop_neq (t := 40) ?_))
      refine at_out (wpList_skipE rfl (re_store (v := kv LK c.link) (n := 66) aggL.size (by rfl) (by rfl) n4.blk (by simpa [kv, Value.cells] using lL) (by simp [hz1]) (by simpa [kv, Value.cells] using oneL.out)) ?_)
      intro w5 s5
      simp only [Nat.reduceAdd, Nat.zero_add, Act.put, List.setIfInBounds_toArray, List.set_cons_succ, List.set_cons_zero]
      rw [splice_all (by rw [hz1]; simpa [kv, Value.cells] using lL)] at s5
      have q5 : Keeps Nb wo w5 := (q3.trans_nb n4.k).own (k := g) (Nat.le_trans q3.size n4.ge) s5.k
      have HX : Hid (∀ u : Sub w5, Has u.wd (some ⟨g, 0, none⟩) (valsK LK c.link)) := fun u => by
        have := has_block (u.k.nb s5.blk)
        rwa [show (kv LK c.link).cells.toList = valsK LK c.link by simp [kv, Value.cells]] at this
      have Q5 := Lib.hid q5
      clear q3 n4 s5 q5
      go_wp2
      go_loopw [6, 7] (fun f j wr => ∃ m : Nat, m ≤ L.length ∧ j = .int .i64 m ∧ f = .bool (decide (c.link ∈ L.take m)) ∧ Keeps Nb w5 wr) (fun _ j _ => L.length - (intOf j).toNat)
      case atStart => exact ⟨0, Nat.zero_le _, rfl, rfl, Keeps.refl _ _⟩
      case round =>
        obtain ⟨m, hm, rfl, rfl, km⟩ := hrel
        by_cases hml : m < L.length
        · have i2 : (m : Int) < (L.length : Int) := by omega
          have hne4 : L ≠ [] := by rintro rfl; simp at hml
          have ha4 := HA4.out hne4
          subst ha4
          have HS := Lib.hid (mem_take_succ hml c.link)
          have hlm := HG4.out m L[m] (List.getElem?_eq_getElem hml)
          have fl := HF.out _ (List.getElem_mem hml)
          generalize L[m] = y at *
          have ly : (valsK LK y).length = 66 := by rw [valsK_length fl.length]; rfl
          have HY := Lib.hid (fun u : Sub wr => ((hlm.nb Q5.out).nb km).nb u.k)
          have HX2 := Lib.hid (fun u : Sub wr => HX.out ⟨u.wd, km.trans_nb u.k⟩)
          have FY := Lib.hid fl
          clear hlm fl
          cases hin : decide (c.link ∈ L.take m)
          · rw [hin, Bool.false_or] at HS
            go_wp2_with fail
            refine region_sub (by kernel_rfl) (by kernel_rfl) ?_
            repeat (first | go_big_quiet_skip | (with_reducible refine stopq (op := .load 27 _) ?_) | (with_reducible refine stopq (op := .load 28 _) ?_) | (with_reducible refine stopq (op := .load 30 _) ?_) | (with_reducible refine stopq (op := .load 33 _) ?_) | (with_reducible refine stopq (op := .load 35 _) ?_) | (with_reducible refine stopq (op := .load 40 _) ?_) | (with_reducible refine stopq (op := .load 76 _) ?_) | (with_reducible refine stopq (op := .load 77 _) ?_) | (with_reducible refine stopq (op := .build 27 _) ?_) | (with_reducible refine stopq (op := .build 28 _) ?_) | (with_reducible refine stopq (op := .build 30 _) ?_) | (with_reducible refine stopq (op := .build 33 _) ?_) | (with_reducible refine stopq (op := .build 35 _) ?_) | (with_reducible refine stopq (op := .build 40 _) ?_) | (with_reducible refine stopq (op := .build 76 _) ?_) | (with_reducible refine stopq (op := .build 77 _) ?_) | (with_reducible refine stopq (op := .lookup _ _ _ _) ?_) | (with_reducible refine stopq (op := .binOp .eql 28 _ _ _) ?_) | (with_reducible refine stopq (op := .binOp .eql 40 _ _ _) ?_) | (with_reducible refine stopq (op := .binOp .neq 28 _ _ _) ?_) | (with_reducible refine stopq (op := .binOp .neq 40 _ _ _) ?_) | go_big_quiet_step (fail))
            refine at_out (wpq_val (v := kv LK y) rfl (by rintro _ ⟨u, rfl⟩; exact rn_loadH aggL (by rfl) (HY.out u) ly) ?_)
            simp only [Nat.reduceAdd, Nat.zero_add, Act.put, List.setIfInBounds_toArray, List.set_cons_succ, List.set_cons_zero]
            repeat (first | go_big_quiet_skip | (with_reducible refine stopq (op := .load 27 _) ?_) | (with_reducible refine stopq (op := .load 28 _) ?_) | (with_reducible refine stopq (op := .load 30 _) ?_) | (with_reducible refine stopq (op := .load 33 _) ?_) | (with_reducible refine stopq (op := .load 35 _) ?_) | (with_reducible refine stopq (op := .load 40 _) ?_) | (with_reducible refine stopq (op := .load 76 _) ?_) | (with_reducible refine stopq (op := .load 77 _) ?_) | (with_reducible refine stopq (op := .build 27 _) ?_) | (with_reducible refine stopq (op := .build 28 _) ?_) | (with_reducible refine stopq (op := .build 30 _) ?_) | (with_reducible refine stopq (op := .build 33 _) ?_) | (with_reducible refine stopq (op := .build 35 _) ?_) | (with_reducible refine stopq (op := .build 40 _) ?_) | (with_reducible refine stopq (op := .build 76 _) ?_) | (with_reducible refine stopq (op := .build 77 _) ?_) | (with_reducible refine stopq (op := .lookup _ _ _ _) ?_) | (with_reducible refine stopq (op := .binOp .eql 28 _ _ _) ?_) | (with_reducible refine stopq (op := .binOp .eql 40 _ _ _) ?_) | (with_reducible refine stopq (op := .binOp .neq 28 _ _ _) ?_) | (with_reducible refine stopq (op := .binOp .neq 40 _ _ _) ?_) | go_big_quiet_step (fail))
            refine at_out (wpq_val (v := kv LK c.link) rfl (by rintro _ ⟨u, rfl⟩; exact rn_loadH aggL (by rfl) (HX2.out u) lL) ?_)
            simp only [Nat.reduceAdd, Nat.zero_add, Act.put, List.setIfInBounds_toArray, List.set_cons_succ, List.set_cons_zero]
            repeat (first | go_big_quiet_skip | (with_reducible refine stopq (op := .load 27 _) ?_) | (with_reducible refine stopq (op := .load 28 _) ?_) | (with_reducible refine stopq (op := .load 30 _) ?_) | (with_reducible refine stopq (op := .load 33 _) ?_) | (with_reducible refine stopq (op := .load 35 _) ?_) | (with_reducible refine stopq (op := .load 40 _) ?_) | (with_reducible refine stopq (op := .load 76 _) ?_) | (with_reducible refine stopq (op := .load 77 _) ?_) | (with_reducible refine stopq (op := .build 27 _) ?_) | (with_reducible refine stopq (op := .build 28 _) ?_) | (with_reducible refine stopq (op := .build 30 _) ?_) | (with_reducible refine stopq (op := .build 33 _) ?_) | (with_reducible refine stopq (op := .build 35 _) ?_) | (with_reducible refine stopq (op := .build 40 _) ?_) | (with_reducible refine stopq (op := .build 76 _) ?_) | (with_reducible refine stopq (op := .build 77 _) ?_) | (with_reducible refine stopq (op := .lookup _ _ _ _) ?_) | (with_reducible refine stopq (op := .binOp .eql 28 _ _ _) ?_) | (with_reducible refine stopq (op := .binOp .eql 40 _ _ _) ?_) | (with_reducible refine stopq (op := .binOp .neq 28 _ _ _) ?_) | (with_reducible refine stopq (op := .binOp .neq 40 _ _ _) ?_) | go_big_quiet_step (fail))
            refine at_out (wpq_val (v := .bool (decide (y = c.link))) rfl (by rintro _ ⟨u, rfl⟩; exact rn_eqlK kkL (by rfl) (by rfl) FY.out FL.out) ?_)
            simp only [Nat.reduceAdd, Nat.zero_add, Act.put, List.setIfInBounds_toArray, List.set_cons_succ, List.set_cons_zero]
            repeat (first | go_big_quiet_skip | (with_reducible refine stopq (op := .load 27 _) ?_) | (with_reducible refine stopq (op := .load 28 _) ?_) | (with_reducible refine stopq (op := .load 30 _) ?_) | (with_reducible refine stopq (op := .load 33 _) ?_) | (with_reducible refine stopq (op := .load 35 _) ?_) | (with_reducible refine stopq (op := .load 40 _) ?_) | (with_reducible refine stopq (op := .load 76 _) ?_) | (with_reducible refine stopq (op := .load 77 _) ?_) | (with_reducible refine stopq (op := .build 27 _) ?_) | (with_reducible refine stopq (op := .build 28 _) ?_) | (with_reducible refine stopq (op := .build 30 _) ?_) | (with_reducible refine stopq (op := .build 33 _) ?_) | (with_reducible refine stopq (op := .build 35 _) ?_) | (with_reducible refine stopq (op := .build 40 _) ?_) | (with_reducible refine stopq (op := .build 76 _) ?_) | (with_reducible refine stopq (op := .build 77 _) ?_) | (with_reducible refine stopq (op := .lookup _ _ _ _) ?_) | (with_reducible refine stopq (op := .binOp .eql 28 _ _ _) ?_) | (with_reducible refine stopq (op := .binOp .eql 40 _ _ _) ?_) | (with_reducible refine stopq (op := .binOp .neq 28 _ _ _) ?_) | (with_reducible refine stopq (op := .binOp .neq 40 _ _ _) ?_) | go_big_quiet_step (fail))
            refine wpQuiet_nil ?_
            rintro w8 ⟨u8, hu8⟩
            have K8 : Keeps Nb wr w8 := hu8 ▸ u8.k
            clear hu8 u8
            go_wp2
            go_roundw
            case rel => exact ⟨m + 1, by omega, by go_num, by rw [HS.out], km.trans_nb K8⟩
            case measure => simp [intOf]; omega
          · rw [hin, Bool.true_or] at HS
            go_wp2_with fail
            refine region_sub (by kernel_rfl) (by kernel_rfl) ?_
            repeat (first | go_big_quiet_skip | (with_reducible refine stopq (op := .load 27 _) ?_) | (with_reducible refine stopq (op := .load 28 _) ?_) | (with_reducible refine stopq (op := .load 30 _) ?_) | (with_reducible refine stopq (op := .load 33 _) ?_) | (with_reducible refine stopq (op := .load 35 _) ?_) | (with_reducible refine stopq (op := .load 40 _) ?_) | (with_reducible refine stopq (op := .load 76 _) ?_) | (with_reducible refine stopq (op := .load 77 _) ?_) | (with_reducible refine stopq (op := .build 27 _) ?_) | (with_reducible refine stopq (op := .build 28 _) ?_) | (with_reducible refine stopq (op := .build 30 _) ?_) | (with_reducible refine stopq (op := .build 33 _) ?_) | (with_reducible refine stopq (op := .build 35 _) ?_) | (with_reducible refine stopq (op := .build 40 _) ?_) | (with_reducible refine stopq (op := .build 76 _) ?_) | (with_reducible refine stopq (op := .build 77 _) ?_) | (with_reducible refine stopq (op := .lookup _ _ _ _) ?_) | (with_reducible refine stopq (op := .binOp .eql 28 _ _ _) ?_) | (with_reducible refine stopq (op := .binOp .eql 40 _ _ _) ?_) | (with_reducible refine stopq (op := .binOp .neq 28 _ _ _) ?_) | (with_reducible refine stopq (op := .binOp .neq 40 _ _ _) ?_) | go_big_quiet_step (fail))
            refine wpQuiet_nil ?_
            rintro w8 ⟨u8, hu8⟩
            have K8 : Keeps Nb wr w8 := hu8 ▸ u8.k
            clear hu8 u8
            go_wp2
            go_roundw
            case rel => exact ⟨m + 1, by omega, by go_num, by rw [HS.out], km.trans_nb K8⟩
            case measure => simp [intOf]; omega
        · have hml2 : m = L.length := by omega
          subst hml2
          rw [List.take_of_length_le (Nat.le_refl _)]
          have KM := Lib.hid (Q5.out.trans_nb km)
          clear hml
          by_cases hin : c.link ∈ L
          · have HA2 := Lib.hid (show addL L c.link = L by unfold addL; rw [if_pos hin])
            have hd : decide (c.link ∈ L) = true := by simpa using hin
            rw [hd]
            clear hd hin
            go_wp2
            go_roundw
            case rel => exact ⟨k + 1, by omega, by go_num, by rw [HT.out, HA2.out]; exact owns_keeps HO.out KM.out (fun _ _ e => e), KW.out.trans_nb KM.out⟩
            case measure => simp [intOf]; omega
          · have HA2 := Lib.hid (show addL L c.link = L ++ [c.link] by unfold addL; rw [if_neg hin])
            have hd : decide (c.link ∈ L) = false := by simpa using hin
            rw [hd]
            clear hd hin
            go_wp2_with (first | go_skip | (with_reducible refine stop_load (t := 27) ?_) | (with_reducible refine stop_load (t := 28) ?_) | (with_reducible refine stop_load (t := 30) ?_) | (with_reducible refine stop_load (t := 33) ?_) | (with_reducible refine stop_load (t := 35) ?_) | (with_reducible refine stop_load (t := 40) ?_) | (with_reducible refine stop_load (t := 76) ?_) | (with_reducible refine stop_load (t := 77) ?_) | (with_reducible refine stop_box (t := 27) ?_) | (with_reducible refine stop_box (t := 28) ?_) | (with_reducible refine stop_box (t := 30) ?_) | (with_reducible refine stop_box (t := 33) ?_) | (with_reducible refine stop_box (t := 35) ?_) | (with_reducible refine stop_box (t := 40) ?_) | (with_reducible refine stop_box (t := 76) ?_) | (with_reducible refine stop_box (t := 77) ?_) | (with_reducible refine stop_alloc (t := 27) ?_) | (with_reducible refine stop_alloc (t := 28) ?_) | (with_reducible refine stop_alloc (t := 30) ?_) | (with_reducible refine stop_alloc (t := 33) ?_) | (with_reducible refine stop_alloc (t := 35) ?_) | (with_reducible refine stop_alloc (t := 40) ?_) | (with_reducible refine stop_alloc (t := 76) ?_) | (with_reducible refine stop_alloc (t := 77) ?_) | (with_reducible refine stop_alloc (t := 52) ?_) | (with_reducible refine stop_alloc (t := 68) ?_) | (with_reducible refine stop_alloc (t := 72) ?_) | (with_reducible refine stop_build (t := 27) ?_) | (with_reducible refine stop_build (t := 28) ?_) | (with_reducible refine stop_build (t := 30) ?_) | (with_reducible refine stop_build (t := 33) ?_) | (with_reducible refine stop_build (t := 35) ?_) | (with_reducible refine stop_build (t := 40) ?_) | (with_reducible refine stop_build (t := 76) ?_) | (with_reducible refine stop_build (t := 77) ?_) | (with_reducible refine stop_build (t := 52) ?_) | (with_reducible refine stop_build (t := 68) ?_) | (with_reducible refine stop_store (t := 27) ?_) | (with_reducible refine stop_store (t := 28) ?_) | (with_reducible refine stop_store (t := 30) ?_) | (with_reducible refine stop_store (t := 33) ?_) | (with_reducible refine stop_store (t := 35) ?_) | (with_reducible refine stop_store (t := 40) ?_) | (with_reducible refine stop_store (t := 76) ?_) | (with_reducible refine stop_store (t := 77) ?_) | (with_reducible refine stop_store (t := 22) ?_) | (with_reducible refine stop_store (t := 31) ?_) | (with_reducible refine stop_store (t := 47) ?_) | (with_reducible refine stop_store (t := 52) ?_) | (with_reducible refine stop_store (t := 68) ?_) | (with_reducible refine stop_store (t := 72) ?_) | (with_reducible refine stop_lookup ?_) | (with_reducible refine stop_buildSlice ?_) | (with_reducible refine stop_app ?_) | (with_reducible refine stop_mapEntry ?_) | (with_reducible refine stop_eql (t := 28) ?_) | (with_reducible refine stop_eql (t := 40) ?_) | (with_reducible refine stop_neq (t := 28) ?_) | (with_reducible refine stop_neq (t := 40) ?_))
            refine at_out (wpList_val (v := kv LK c.link) rfl (rn_loadH aggL (by rfl) (HX.out ⟨wr, km⟩) lL) ?_)
            simp only [Nat.reduceAdd, Nat.zero_add, Act.put, List.setIfInBounds_toArray, List.set_cons_succ, List.set_cons_zero]
            go_wp2_with (first | go_skip | (with_reducible refine stop_load (t := 27) ?_) | (with_reducible refine stop_load (t := 28) ?_) | (with_reducible refine stop_load (t := 30) ?_) | (with_reducible refine stop_load (t := 33) ?_) | (with_reducible refine stop_load (t := 35) ?_) | (with_reducible refine stop_load (t := 40) ?_) | (with_reducible refine stop_load (t := 76) ?_) | (with_reducible refine stop_load (t := 77) ?_) | (with_reducible refine stop_box (t := 27) ?_) | (with_reducible refine stop_box (t := 28) ?_) | (with_reducible refine stop_box (t := 30) ?_) | (with_reducible refine stop_box (t := 33) ?_) | (with_reducible refine stop_box (t := 35) ?_) | (with_reducible refine stop_box (t := 40) ?_) | (with_reducible refine stop_box (t := 76) ?_) | (with_reducible refine stop_box (t := 77) ?_) | (with_reducible refine stop_alloc (t := 27) ?_) | (with_reducible refine stop_alloc (t := 28) ?_) | (with_reducible refine stop_alloc (t := 30) ?_) | (with_reducible refine stop_alloc (t := 33) ?_) | (with_reducible refine stop_alloc (t := 35) ?_) | (with_reducible refine stop_alloc (t := 40) ?_) | (with_reducible refine stop_alloc (t := 76) ?_) | (with_reducible refine stop_alloc (t := 77) ?_) | (with_reducible refine stop_alloc (t := 52) ?_) | (with_reducible refine stop_alloc (t := 68) ?_) | (with_reducible refine stop_alloc (t := 72) ?_) | (with_reducible refine stop_build (t := 27) ?_) | (with_reducible refine stop_build (t := 28) ?_) | (with_reducible refine stop_build (t := 30) ?_) | (with_reducible refine stop_build (t := 33) ?_) | (with_reducible refine stop_build (t := 35) ?_) | (with_reducible refine stop_build (t := 40) ?_) | (with_reducible refine stop_build (t := 76) ?_) | (with_reducible refine stop_build (t := 77) ?_) | (with_reducible refine stop_build (t := 52) ?_) | (with_reducible refine stop_build (t := 68) ?_) | (with_reducible refine stop_store (t := 27) ?_) | (with_reducible refine stop_store (t := 28) ?_) | (with_reducible refine stop_store (t := 30) ?_) | (with_reducible refine stop_store (t := 33) ?_) | (with_reducible refine stop_store (t := 35) ?_) | (with_reducible refine stop_store (t := 40) ?_) | (with_reducible refine stop_store (t := 76) ?_) | (with_reducible refine stop_store (t := 77) ?_) | (with_reducible refine stop_store (t := 22) ?_) | (with_reducible refine stop_store (t := 31) ?_) | (with_reducible refine stop_store (t := 47) ?_) | (with_reducible refine stop_store (t := 52) ?_) | (with_reducible refine stop_store (t := 68) ?_) | (with_reducible refine stop_store (t := 72) ?_) | (with_reducible refine stop_lookup ?_) | (with_reducible refine stop_buildSlice ?_) | (with_reducible refine stop_app ?_) | (with_reducible refine stop_mapEntry ?_) | (with_reducible refine stop_eql (t := 28) ?_) | (with_reducible refine stop_eql (t := 40) ?_) | (with_reducible refine stop_neq (t := 28) ?_) | (with_reducible refine stop_neq (t := 40) ?_))
            refine at_out (wpList_valE rfl (re_buildSlice1 (v := kv LK c.link) E47 (by rfl) (by simpa [kv, Value.cells] using lL) (by omega)) ?_)
            rintro _ we ⟨g6, rfl, ne⟩
            simp only [Nat.reduceAdd, Nat.zero_add, Act.put, List.setIfInBounds_toArray, List.set_cons_succ, List.set_cons_zero]
            go_wp2_with (first | go_skip | (with_reducible refine stop_load (t := 27) ?_) | (with_reducible refine stop_load (t := 28) ?_) | (with_reducible refine stop_load (t := 30) ?_) | (with_reducible refine stop_load (t := 33) ?_) | (with_reducible refine stop_load (t := 35) ?_) | (with_reducible refine stop_load (t := 40) ?_) | (with_reducible refine stop_load (t := 76) ?_) | (with_reducible refine stop_load (t := 77) ?_) | (with_reducible refine stop_box (t := 27) ?_) | (with_reducible refine stop_box (t := 28) ?_) | (with_reducible refine stop_box (t := 30) ?_) | (with_reducible refine stop_box (t := 33) ?_) | (with_reducible refine stop_box (t := 35) ?_) | (with_reducible refine stop_box (t := 40) ?_) | (with_reducible refine stop_box (t := 76) ?_) | (with_reducible refine stop_box (t := 77) ?_) | (with_reducible refine stop_alloc (t := 27) ?_) | (with_reducible refine stop_alloc (t := 28) ?_) | (with_reducible refine stop_alloc (t := 30) ?_) | (with_reducible refine stop_alloc (t := 33) ?_) | (with_reducible refine stop_alloc (t := 35) ?_) | (with_reducible refine stop_alloc (t := 40) ?_) | (with_reducible refine stop_alloc (t := 76) ?_) | (with_reducible refine stop_alloc (t := 77) ?_) | (with_reducible refine stop_alloc (t := 52) ?_) | (with_reducible refine stop_alloc (t := 68) ?_) | (with_reducible refine stop_alloc (t := 72) ?_) | (with_reducible refine stop_build (t := 27) ?_) | (with_reducible refine stop_build (t := 28) ?_) | (with_reducible refine stop_build (t := 30) ?_) | (with_reducible refine stop_build (t := 33) ?_) | (with_reducible refine stop_build (t := 35) ?_) | (with_reducible refine stop_build (t := 40) ?_) | (with_reducible refine stop_build (t := 76) ?_) | (with_reducible refine stop_build (t := 77) ?_) | (with_reducible refine stop_build (t := 52) ?_) | (with_reducible refine stop_build (t := 68) ?_) | (with_reducible refine stop_store (t := 27) ?_) | (with_reducible refine stop_store (t := 28) ?_) | (with_reducible refine stop_store (t := 30) ?_) | (with_reducible refine stop_store (t := 33) ?_) | (with_reducible refine stop_store (t := 35) ?_) | (with_reducible refine stop_store (t := 40) ?_) | (with_reducible refine stop_store (t := 76) ?_) | (with_reducible refine stop_store (t := 77) ?_) | (with_reducible refine stop_store (t := 22) ?_) | (with_reducible refine stop_store (t := 31) ?_) | (with_reducible refine stop_store (t := 47) ?_) | (with_reducible refine stop_store (t := 52) ?_) | (with_reducible refine stop_store (t := 68) ?_) | (with_reducible refine stop_store (t := 72) ?_) | (with_reducible refine stop_lookup ?_) | (with_reducible refine stop_buildSlice ?_) | (with_reducible refine stop_app ?_) | (with_reducible refine stop_mapEntry ?_) | (with_reducible refine stop_eql (t := 28) ?_) | (with_reducible refine stop_eql (t := 40) ?_) | (with_reducible refine stop_neq (t := 28) ?_) | (with_reducible refine stop_neq (t := 40) ?_))
            refine at_out (wpList_valE rfl (re_appO (wx := w) (news := valsK LK c.link) (m := 1) E47 ((KW.out.trans_nb KM.out).trans_nb ne.k) (owns_keeps (owns_keeps HO.out KM.out (fun _ _ e => e)) ne.k (fun _ _ e => e)) (by rfl) (by rfl) (by have := has_block ne.blk; rwa [show (kv LK c.link).cells.toList = valsK LK c.link by simp [kv, Value.cells]] at this) (by omega) oneL.out (by unfold maxLen; omega) (by omega)) ?_)
            rintro v9 wf ⟨hof, kf⟩
            obtain ⟨a9, c9, rfl, -⟩ := owns_has hof
            simp only [Nat.reduceAdd, Nat.zero_add, Act.put, List.setIfInBounds_toArray, List.set_cons_succ, List.set_cons_zero]
            have HOF := Lib.hid hof; clear hof
            go_wp2
            go_roundw
            case rel => exact ⟨k + 1, by omega, by go_num, by rw [HT.out, HA2.out, List.length_append, List.flatMap_append]; simpa using HOF.out, kf⟩
            case measure => simp [intOf]; omega
    · have hkl : k = cs.length := by omega
      subst hkl
      rw [List.take_length] at ho hl3 ⊢
      have HO := Lib.hid ho
      clear ho hh3 hb3
      go_wp2
      go_ret
      exact ⟨_, rfl, HO.out, kw⟩
end Go.Proofs.Ytffnaigkdocpmac
