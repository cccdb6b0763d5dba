/- The walk of PoolPlays. -/
import Derived.Test.YtffnaigkdocpmacPlaysL
set_option linter.unusedVariables false
set_option linter.unusedSimpArgs false
namespace Go.Proofs.Ytffnaigkdocpmac
open Go.RowKit Go.Lk Go.Pool

theorem owns_new {w w' : World} {g e size m : Nat} {cs : Array Value} (h : NewAt w w' g (.cells cs e)) (hm : m ≤ maxLen) (hs : cs.size = m * size) : w'.ownsRow w.heap.size e size (.slice (some ⟨g, 0, none⟩) m m) m cs.toList :=
  ⟨by simpa using hs, .inr ⟨g, m, cs, rfl, h.ge, h.blk, Nat.le_refl _, hm, hs, by rw [← hs, ← Array.length_toList, List.take_length]⟩⟩
namespace poolPlays
set_option maxRecDepth 100000 in
set_option maxHeartbeats 8000000 in
theorem walk {H : Type} {enc : TypeId × Value → H} {base : Nat} (w : World) {v0 : Value} {d0 : DataW H} {p0 : List MemPlace} (kv0 : Value.okWide Try.prog w .any base 22 v0) (k0 : DataW.Trod enc Try.prog w 0 (fun _ => true) true 22 v0 d0 p0)
    {v1 : Value} {d1 : DataW H} {p1 : List MemPlace} (kv1 : Value.okWide Try.prog w .any base 28 v1) (k1 : DataW.Trod enc Try.prog w 0 (fun _ => true) true 28 v1 d1 p1) :
    Calls Try.prog 5 #[v0, v1] w fun e w' => e = .returned (.bool true) ∧ Below w.heap.size w w' := by
  obtain ⟨a, cp, cs, rfl, hl, hok⟩ := list_of kv0 k0
  obtain ⟨key, fkey, rfl⟩ := hash_of kv1 k1
  clear kv0 k0 kv1 k1
  have hc1 := hl.2.1
  have hm1 := hl.2.2.1
  unfold maxLen at hm1
  have lkey : (valsK HK key).length = 32 := by rw [valsK_length fkey.length]; rfl
  have HFK := Lib.hid fkey; clear fkey
  have hb52 : ∀ W : World, (Instr.build 52 #[]).run Try.prog W = .ok (.agg #[.slice none 0 0]) W := fun _ => by kernel_rfl
  have KN := Lib.hid known_at
  have HL := Lib.hid hl; have HOK := Lib.hid hok
  clear hl hok
  unfold kv
  go_enter Try.func5, Try.ntmps5
  go_wp2_with (first | go_skip | (with_reducible refine stop_load (t := 27) ?_) | (with_reducible refine stop_load (t := 28) ?_) | (with_reducible refine stop_load (t := 30) ?_) | (with_reducible refine stop_load (t := 33) ?_) | (with_reducible refine stop_load (t := 35) ?_) | (with_reducible refine stop_load (t := 40) ?_) | (with_reducible refine stop_load (t := 76) ?_) | (with_reducible refine stop_load (t := 77) ?_) | (with_reducible refine stop_box (t := 27) ?_) | (with_reducible refine stop_box (t := 28) ?_) | (with_reducible refine stop_box (t := 30) ?_) | (with_reducible refine stop_box (t := 33) ?_) | (with_reducible refine stop_box (t := 35) ?_) | (with_reducible refine stop_box (t := 40) ?_) | (with_reducible refine stop_box (t := 76) ?_) | (with_reducible refine stop_box (t := 77) ?_) | (with_reducible refine stop_alloc (t := 27) ?_) | (with_reducible refine stop_alloc (t := 28) ?_) | (with_reducible refine stop_alloc (t := 30) ?_) | (with_reducible refine stop_alloc (t := 33) ?_) | (with_reducible refine stop_alloc (t := 35) ?_) | (with_reducible refine stop_alloc (t := 40) ?_) | (with_reducible refine stop_alloc (t := 76) ?_) | (with_reducible refine stop_alloc (t := 77) ?_) | (with_reducible refine stop_alloc (t := 52) ?_) | (with_reducible refine stop_alloc (t := 68) ?_) | (with_reducible refine stop_alloc (t := 72) ?_) | (with_reducible refine stop_build (t := 27) ?_) | (with_reducible refine stop_build (t := 28) ?_) | (with_reducible refine stop_build (t := 30) ?_) | (with_reducible refine stop_build (t := 33) ?_) | (with_reducible refine stop_build (t := 35) ?_) | (with_reducible refine stop_build (t := 40) ?_) | (with_reducible refine stop_build (t := 76) ?_) | (with_reducible refine stop_build (t := 77) ?_) | (with_reducible refine stop_build (t := 52) ?_) | (with_reducible refine stop_build (t := 68) ?_) | (with_reducible refine stop_store (t := 27) ?_) | (with_reducible refine stop_store (t := 28) ?_) | (with_reducible refine stop_store (t := 30) ?_) | (with_reducible refine stop_store (t := 33) ?_) | (with_reducible refine stop_store (t := 35) ?_) | (with_reducible refine stop_store (t := 40) ?_) | (with_reducible refine stop_store (t := 76) ?_) | (with_reducible refine stop_store (t := 77) ?_) | (with_reducible refine stop_store (t := 22) ?_) | (with_reducible refine stop_store (t := 31) ?_) | (with_reducible refine stop_store (t := 47) ?_) | (with_reducible refine stop_store (t := 52) ?_) | (with_reducible refine stop_store (t := 68) ?_) | (with_reducible refine stop_store (t := 72) ?_) | (with_reducible refine stop_lookup ?_) | (with_reducible refine stop_buildSlice ?_) | (with_reducible refine stop_app ?_) | (with_reducible refine stop_mapEntry ?_) | (with_reducible refine stop_eql (t := 28) ?_) | (with_reducible refine stop_eql (t := 40) ?_) | (with_reducible refine stop_neq (t := 28) ?_) | (with_reducible refine stop_neq (t := 40) ?_))
  refine at_out (vbox rfl ?_); intro g3 w0 n0
  simp only [Nat.reduceAdd, Nat.zero_add, Act.put, List.setIfInBounds_toArray, List.set_cons_succ, List.set_cons_zero]
  have kb := n0.k
  have HB3 := Lib.hid (newAt_has n0)
  have FW := Lib.hid (few_at (Was w) a cp cs w0 (HL.out.keeps kb (fun _ _ e => e)) HOK.out)
  have HKB := Lib.hid kb
  clear n0 kb
  by_cases hfew : fewB cs = true
  case neg =>
    have hf : fewB cs = false := by simpa using hfew
    rw [hf] at FW
    clear hfew
    go_wp2_with fail
    refine FW.out.mono ?_; rintro e w' ⟨rfl, rfl⟩
    go_wp2_with fail
    refine (KN.out _).mono ?_; rintro e w9 ⟨rfl, k9⟩
    go_wp2; go_ret; exact ⟨rfl, (HKB.out.trans_nb k9).below⟩
  rw [hfew] at FW
  have h60 : cs.length ≤ 60 := by unfold fewB at hfew; simp at hfew; exact hfew.2
  have HSIG := Lib.hid (few_sig hfew)
  clear hfew
  go_wp2_with fail
  refine FW.out.mono ?_; rintro e w' ⟨rfl, rfl⟩
  go_wp2_with fail
  refine (new_at _).mono ?_
  rintro _ w1 ⟨p, rfl, hp1, kk1⟩
  go_wp2_with (first | go_skip | (with_reducible refine stop_box (t := 52) ?_))
  refine at_out (vbox rfl ?_); intro q w2 n2
  simp only [Nat.reduceAdd, Nat.zero_add, Act.put, List.setIfInBounds_toArray, List.set_cons_succ, List.set_cons_zero]
  have hD := duo_new hp1 n2 kk1
  have hk2 := HKB.out.trans_nb (kk1.trans_nb n2.k)
  have y1 := kk1.size; have y2 := n2.ge; have y0 := HKB.out.size
  have DO := Lib.hid (do_at p q (Up Nb w0 w1) Nb Nb (Was w) [] cs a cp w2 hD (HL.out.keeps hk2 (fun _ _ e => e)) HOK.out (fun k hk h => by
    unfold Was at hk
    rcases h with (h | h) | h
    · exact h
    · omega
    · omega) (by simp; omega))
  have HK2 := Lib.hid hk2
  have B32 := Lib.hid ((HB3.out.nb kk1).nb n2.k)
  have g3lt : g3 < w0.heap.size := by rcases HB3.out with h | ⟨b, o, e, h⟩; (rw [h] at lkey; simp at lkey); cases e; exact lt_of_cell (h 0 _ (List.getElem?_eq_getElem (by omega)))
  clear hp1 kk1 n2 hD hk2 HB3 FW
  go_wp2_with fail
  refine DO.out.mono ?_
  rintro _ w3 ⟨rfl, hD⟩
  have K3 := Lib.hid (HK2.out.trans hD.k (fun i hi h => by
    rcases h with (h | h) | h
    · exact h
    · omega
    · omega))
  have B33 := Lib.hid (B32.out.keeps hD.k (fun b o e _ h => by
    cases e
    rcases h with (h | h) | h
    · exact h
    · omega
    · omega))
  obtain ⟨F, R, Q, ⟨hp, hr, -⟩, -⟩ := hD
  have hAl : (all [] cs).length ≤ 60 := by have := all_len cs []; simp at this; omega
  have hsg : ∀ c ∈ all [] cs, c.sig.length ≤ 1000000 := fun c hc => by
    rcases all_sub hc with h | h
    · cases h
    · have := HSIG.out c h; omega
  generalize all [] cs = A at *
  have LA := Lib.hid (looks_at p q F R Q A w3 hp hr hsg)
  have HSG := Lib.hid hsg
  have HP3 := Lib.hid hp; have HR3 := Lib.hid hr
  clear DO HK2 y1 y2 y0 B32 HKB hp hr hsg HSIG
  go_wp2_with fail
  refine LA.out.mono ?_; rintro e w4 ⟨rfl, k4⟩
  have HP := Lib.hid (HP3.out.nb k4); have HR := Lib.hid (HR3.out.nb k4)
  have K4 := Lib.hid (K3.out.trans_nb k4)
  have B34 := Lib.hid (B33.out.nb k4)
  obtain ⟨⟨ar, cr, hbq, hla⟩, hg, -⟩ := HR.out
  have hc3 := hla.2.1
  have hm3 := hla.2.2.1
  unfold maxLen at hm3
  obtain ⟨b, off, hab, hv⟩ := votes_at' hla hg.ok
  have HBQ := Lib.hid hbq; have HAB := Lib.hid hab; have HV := Lib.hid hv; have HG := Lib.hid hg; have HLA := Lib.hid hla
  clear hbq hab hv hg hla LA HP3 HR3 K3 B33 k4
  obtain ⟨z55, E55⟩ := el55
  go_wp2_with (first | go_skip | (with_reducible refine stop_load (t := 27) ?_) | (with_reducible refine stop_load (t := 28) ?_) | (with_reducible refine stop_load (t := 30) ?_) | (with_reducible refine stop_load (t := 33) ?_) | (with_reducible refine stop_load (t := 35) ?_) | (with_reducible refine stop_load (t := 40) ?_) | (with_reducible refine stop_load (t := 76) ?_) | (with_reducible refine stop_load (t := 77) ?_) | (with_reducible refine stop_box (t := 27) ?_) | (with_reducible refine stop_box (t := 28) ?_) | (with_reducible refine stop_box (t := 30) ?_) | (with_reducible refine stop_box (t := 33) ?_) | (with_reducible refine stop_box (t := 35) ?_) | (with_reducible refine stop_box (t := 40) ?_) | (with_reducible refine stop_box (t := 76) ?_) | (with_reducible refine stop_box (t := 77) ?_) | (with_reducible refine stop_alloc (t := 27) ?_) | (with_reducible refine stop_alloc (t := 28) ?_) | (with_reducible refine stop_alloc (t := 30) ?_) | (with_reducible refine stop_alloc (t := 33) ?_) | (with_reducible refine stop_alloc (t := 35) ?_) | (with_reducible refine stop_alloc (t := 40) ?_) | (with_reducible refine stop_alloc (t := 76) ?_) | (with_reducible refine stop_alloc (t := 77) ?_) | (with_reducible refine stop_alloc (t := 52) ?_) | (with_reducible refine stop_alloc (t := 68) ?_) | (with_reducible refine stop_alloc (t := 72) ?_) | (with_reducible refine stop_build (t := 27) ?_) | (with_reducible refine stop_build (t := 28) ?_) | (with_reducible refine stop_build (t := 30) ?_) | (with_reducible refine stop_build (t := 33) ?_) | (with_reducible refine stop_build (t := 35) ?_) | (with_reducible refine stop_build (t := 40) ?_) | (with_reducible refine stop_build (t := 76) ?_) | (with_reducible refine stop_build (t := 77) ?_) | (with_reducible refine stop_build (t := 52) ?_) | (with_reducible refine stop_build (t := 68) ?_) | (with_reducible refine stop_store (t := 27) ?_) | (with_reducible refine stop_store (t := 28) ?_) | (with_reducible refine stop_store (t := 30) ?_) | (with_reducible refine stop_store (t := 33) ?_) | (with_reducible refine stop_store (t := 35) ?_) | (with_reducible refine stop_store (t := 40) ?_) | (with_reducible refine stop_store (t := 76) ?_) | (with_reducible refine stop_store (t := 77) ?_) | (with_reducible refine stop_store (t := 22) ?_) | (with_reducible refine stop_store (t := 31) ?_) | (with_reducible refine stop_store (t := 47) ?_) | (with_reducible refine stop_store (t := 52) ?_) | (with_reducible refine stop_store (t := 68) ?_) | (with_reducible refine stop_store (t := 72) ?_) | (with_reducible refine stop_lookup ?_) | (with_reducible refine stop_buildSlice ?_) | (with_reducible refine stop_app ?_) | (with_reducible refine stop_mapEntry ?_) | (with_reducible refine stop_eql (t := 28) ?_) | (with_reducible refine stop_eql (t := 40) ?_) | (with_reducible refine stop_neq (t := 28) ?_) | (with_reducible refine stop_neq (t := 40) ?_))
  refine at_out (wpList_val (v := kv HK key) rfl (rn_loadH aggH (by rfl) B34.out lkey) ?_)
  simp only [Nat.reduceAdd, Nat.zero_add, Act.put, List.setIfInBounds_toArray, List.set_cons_succ, List.set_cons_zero]
  go_wp2_with (first | go_skip | (with_reducible refine stop_buildSlice ?_))
  refine at_out (wpList_valE rfl (re_buildSlice1 (v := kv HK key) E55 (by rfl) (by simpa [kv, Value.cells] using lkey) (by omega)) ?_)
  rintro _ w5 ⟨g6, rfl, n5⟩
  simp only [Nat.reduceAdd, Nat.zero_add, Act.put, List.setIfInBounds_toArray, List.set_cons_succ, List.set_cons_zero]
  have ho5 := owns_new (m := 1) (size := 32) n5 (by unfold maxLen; omega) (by simpa [kv, Value.cells] using lkey)
  rw [show (kv HK key).cells.toList = valsK HK key by simp [kv, Value.cells]] at ho5
  have HO5 := Lib.hid ho5; have K5 := Lib.hid n5.k
  clear n5 ho5
  obtain ⟨ba, offa, hba, hva⟩ := votes_at (HL.out.keeps K4.out (fun _ _ e => e)) HOK.out
  have HBA := Lib.hid hba; have HVA := Lib.hid hva
  clear hba hva
  have HKF := Lib.hid (show ∀ k ∈ key :: cs.map (·.key), Fits HK k by
    intro k hk
    rcases List.mem_cons.1 hk with rfl | hk
    · exact HFK.out
    · obtain ⟨c, hc, rfl⟩ := List.mem_map.1 hk; exact (HOK.out c hc).key)
  go_wp2
  go_loopw [7, 8] (fun v i wr => ∃ k : Nat, k ≤ cs.length ∧ i = .int .i64 k ∧ wr.ownsRow w4.heap.size 28 32 v (k + 1) ((key :: (cs.take k).map (·.key)).flatMap (valsK HK)) ∧ Keeps Nb w4 wr) (fun _ i _ => cs.length - (intOf i).toNat)
  case atStart => exact ⟨0, Nat.zero_le _, rfl, by simpa using HO5.out, K5.out⟩
  case round =>
    obtain ⟨k, hk, rfl, ho, kw⟩ := hrel
    obtain ⟨a3, c3, rfl, hl3, hl4, hh3, -⟩ := owns_has ho
    have hl4' := hl4
    unfold maxLen at hl4
    by_cases hlt : k < cs.length
    · have i1 : (k : Int) < (cs.length : Int) := by omega
      have hne : cs ≠ [] := by rintro rfl; simp at hlt
      have ha := HBA.out hne
      subst ha
      obtain ⟨s1, hv1⟩ := HVA.out k cs[k] (List.getElem?_eq_getElem hlt)
      have ok1 := HOK.out _ (List.getElem_mem hlt)
      have HT := Lib.hid (show ((cs.take (k + 1)).map (·.key)) = (cs.take k).map (·.key) ++ [cs[k].key] by rw [List.take_succ_eq_append_getElem hlt, List.map_append]; rfl)
      generalize (cs.take k).map (·.key) = M at *
      generalize cs[k] = c at *
      have lk1 : (valsK HK c.key).length = 32 := by rw [valsK_length ok1.key.length]; rfl
      have onek := Lib.hid (valsK_one HK c.key)
      have HKY := Lib.hid (hv1.key.nb kw)
      have HO := Lib.hid ho; have KW := Lib.hid kw
      clear hv1 ok1 ho hh3 kw
      go_wp2_with (first | go_skip | (with_reducible refine stop_load (t := 27) ?_) | (with_reducible refine stop_load (t := 28) ?_) | (with_reducible refine stop_load (t := 30) ?_) | (with_reducible refine stop_load (t := 33) ?_) | (with_reducible refine stop_load (t := 35) ?_) | (with_reducible refine stop_load (t := 40) ?_) | (with_reducible refine stop_load (t := 76) ?_) | (with_reducible refine stop_load (t := 77) ?_) | (with_reducible refine stop_box (t := 27) ?_) | (with_reducible refine stop_box (t := 28) ?_) | (with_reducible refine stop_box (t := 30) ?_) | (with_reducible refine stop_box (t := 33) ?_) | (with_reducible refine stop_box (t := 35) ?_) | (with_reducible refine stop_box (t := 40) ?_) | (with_reducible refine stop_box (t := 76) ?_) | (with_reducible refine stop_box (t := 77) ?_) | (with_reducible refine stop_alloc (t := 27) ?_) | (with_reducible refine stop_alloc (t := 28) ?_) | (with_reducible refine stop_alloc (t := 30) ?_) | (with_reducible refine stop_alloc (t := 33) ?_) | (with_reducible refine stop_alloc (t := 35) ?_) | (with_reducible refine stop_alloc (t := 40) ?_) | (with_reducible refine stop_alloc (t := 76) ?_) | (with_reducible refine stop_alloc (t := 77) ?_) | (with_reducible refine stop_alloc (t := 52) ?_) | (with_reducible refine stop_alloc (t := 68) ?_) | (with_reducible refine stop_alloc (t := 72) ?_) | (with_reducible refine stop_build (t := 27) ?_) | (with_reducible refine stop_build (t := 28) ?_) | (with_reducible refine stop_build (t := 30) ?_) | (with_reducible refine stop_build (t := 33) ?_) | (with_reducible refine stop_build (t := 35) ?_) | (with_reducible refine stop_build (t := 40) ?_) | (with_reducible refine stop_build (t := 76) ?_) | (with_reducible refine stop_build (t := 77) ?_) | (with_reducible refine stop_build (t := 52) ?_) | (with_reducible refine stop_build (t := 68) ?_) | (with_reducible refine stop_store (t := 27) ?_) | (with_reducible refine stop_store (t := 28) ?_) | (with_reducible refine stop_store (t := 30) ?_) | (with_reducible refine stop_store (t := 33) ?_) | (with_reducible refine stop_store (t := 35) ?_) | (with_reducible refine stop_store (t := 40) ?_) | (with_reducible refine stop_store (t := 76) ?_) | (with_reducible refine stop_store (t := 77) ?_) | (with_reducible refine stop_store (t := 22) ?_) | (with_reducible refine stop_store (t := 31) ?_) | (with_reducible refine stop_store (t := 47) ?_) | (with_reducible refine stop_store (t := 52) ?_) | (with_reducible refine stop_store (t := 68) ?_) | (with_reducible refine stop_store (t := 72) ?_) | (with_reducible refine stop_lookup ?_) | (with_reducible refine stop_buildSlice ?_) | (with_reducible refine stop_app ?_) | (with_reducible refine stop_mapEntry ?_) | (with_reducible refine stop_eql (t := 28) ?_) | (with_reducible refine stop_eql (t := 40) ?_) | (with_reducible refine stop_neq (t := 28) ?_) | (with_reducible refine stop_neq (t := 40) ?_))
      refine at_out (wpList_val (v := kv HK c.key) rfl (rn_loadH aggH (by rfl) HKY.out lk1) ?_)
      simp only [Nat.reduceAdd, Nat.zero_add, Act.put, List.setIfInBounds_toArray, List.set_cons_succ, List.set_cons_zero]
      go_wp2_with (first | go_skip | (with_reducible refine stop_buildSlice ?_))
      refine at_out (wpList_valE rfl (re_buildSlice1 (v := kv HK c.key) E55 (by rfl) (by simpa [kv, Value.cells] using lk1) (by omega)) ?_)
      rintro _ we ⟨g7, rfl, ne⟩
      simp only [Nat.reduceAdd, Nat.zero_add, Act.put, List.setIfInBounds_toArray, List.set_cons_succ, List.set_cons_zero]
      go_wp2_with (first | go_skip | (with_reducible refine stop_load (t := 27) ?_) | (with_reducible refine stop_load (t := 28) ?_) | (with_reducible refine stop_load (t := 30) ?_) | (with_reducible refine stop_load (t := 33) ?_) | (with_reducible refine stop_load (t := 35) ?_) | (with_reducible refine stop_load (t := 40) ?_) | (with_reducible refine stop_load (t := 76) ?_) | (with_reducible refine stop_load (t := 77) ?_) | (with_reducible refine stop_box (t := 27) ?_) | (with_reducible refine stop_box (t := 28) ?_) | (with_reducible refine stop_box (t := 30) ?_) | (with_reducible refine stop_box (t := 33) ?_) | (with_reducible refine stop_box (t := 35) ?_) | (with_reducible refine stop_box (t := 40) ?_) | (with_reducible refine stop_box (t := 76) ?_) | (with_reducible refine stop_box (t := 77) ?_) | (with_reducible refine stop_alloc (t := 27) ?_) | (with_reducible refine stop_alloc (t := 28) ?_) | (with_reducible refine stop_alloc (t := 30) ?_) | (with_reducible refine stop_alloc (t := 33) ?_) | (with_reducible refine stop_alloc (t := 35) ?_) | (with_reducible refine stop_alloc (t := 40) ?_) | (with_reducible refine stop_alloc (t := 76) ?_) | (with_reducible refine stop_alloc (t := 77) ?_) | (with_reducible refine stop_alloc (t := 52) ?_) | (with_reducible refine stop_alloc (t := 68) ?_) | (with_reducible refine stop_alloc (t := 72) ?_) | (with_reducible refine stop_build (t := 27) ?_) | (with_reducible refine stop_build (t := 28) ?_) | (with_reducible refine stop_build (t := 30) ?_) | (with_reducible refine stop_build (t := 33) ?_) | (with_reducible refine stop_build (t := 35) ?_) | (with_reducible refine stop_build (t := 40) ?_) | (with_reducible refine stop_build (t := 76) ?_) | (with_reducible refine stop_build (t := 77) ?_) | (with_reducible refine stop_build (t := 52) ?_) | (with_reducible refine stop_build (t := 68) ?_) | (with_reducible refine stop_store (t := 27) ?_) | (with_reducible refine stop_store (t := 28) ?_) | (with_reducible refine stop_store (t := 30) ?_) | (with_reducible refine stop_store (t := 33) ?_) | (with_reducible refine stop_store (t := 35) ?_) | (with_reducible refine stop_store (t := 40) ?_) | (with_reducible refine stop_store (t := 76) ?_) | (with_reducible refine stop_store (t := 77) ?_) | (with_reducible refine stop_store (t := 22) ?_) | (with_reducible refine stop_store (t := 31) ?_) | (with_reducible refine stop_store (t := 47) ?_) | (with_reducible refine stop_store (t := 52) ?_) | (with_reducible refine stop_store (t := 68) ?_) | (with_reducible refine stop_store (t := 72) ?_) | (with_reducible refine stop_lookup ?_) | (with_reducible refine stop_buildSlice ?_) | (with_reducible refine stop_app ?_) | (with_reducible refine stop_mapEntry ?_) | (with_reducible refine stop_eql (t := 28) ?_) | (with_reducible refine stop_eql (t := 40) ?_) | (with_reducible refine stop_neq (t := 28) ?_) | (with_reducible refine stop_neq (t := 40) ?_))
      refine at_out (wpList_valE rfl (re_appO (wx := w4) (news := valsK HK c.key) (m := 1) E55 (KW.out.trans_nb ne.k) (owns_keeps HO.out ne.k (fun _ _ e => e)) (by rfl) (by rfl) (by have := has_block ne.blk; rwa [show (kv HK c.key).cells.toList = valsK HK c.key by simp [kv, Value.cells]] at this) (by omega) onek.out (by unfold maxLen; omega) (by omega)) ?_)
      rintro v9 wf ⟨hof, kf⟩
      obtain ⟨a9, c9, rfl, -⟩ := owns_has hof
      simp only [Nat.reduceAdd, Nat.zero_add, Act.put, List.setIfInBounds_toArray, List.set_cons_succ, List.set_cons_zero]
      have HOF := Lib.hid hof; clear hof
      go_wp2
      go_roundw
      case rel => exact ⟨k + 1, by omega, by go_num, by rw [HT.out]; simpa using HOF.out, kf⟩
      case measure => simp [intOf]; omega
    · have hkl : k = cs.length := by omega
      subst hkl
      rw [List.take_length] at ho hh3
      clear hlt hk HO5 HBA HVA
      have hML : (key :: cs.map (·.key)).length = cs.length + 1 := by simp
      obtain ⟨bk, offk, hbk, hvk⟩ := row_get (n := 32) rfl (by omega) hh3 HKF.out
      have hkn := hbk (by simp)
      subst hkn
      have HVK := Lib.hid hvk; have KW := Lib.hid kw
      generalize key :: cs.map (·.key) = M at *
      clear ho hh3 hbk hvk kw
      rw [← hML] at hl3 ⊢
      have hm60 : M.length ≤ 61 := by omega
      have HML := Lib.hid hML
      clear hML
      go_wp2
      go_loopw [9] (fun i w2 => ∃ k : Nat, k ≤ M.length ∧ i = .int .i64 k ∧ Keeps Nb wr w2) (fun i _ => M.length - (intOf i).toNat)
      case atStart => exact ⟨0, Nat.zero_le _, rfl, Keeps.refl _ _⟩
      case round =>
        obtain ⟨k, hk, rfl, kw⟩ := hrel
        have KW2 := Lib.hid (KW.out.trans_nb kw)
        have HVK2 := Lib.hid (fun j l h => (HVK.out j l h).nb kw)
        have KWO := Lib.hid kw
        clear kw
        by_cases hlt : k < M.length
        · have i1 : (k : Int) < (M.length : Int) := by omega
          have hlk := HVK2.out k M[k] (List.getElem?_eq_getElem hlt)
          have fx := HKF.out _ (List.getElem_mem hlt)
          generalize M[k] = x at *
          have lx : (valsK HK x).length = 32 := by rw [valsK_length fx.length]; rfl
          have HX := Lib.hid (fun (u : World) (h : Keeps Nb wr u) => hlk.nb h)
          have FX := Lib.hid fx
          clear hlk fx HVK2
          obtain ⟨z56, E56⟩ := el56
          obtain ⟨wo, hwo⟩ : ∃ wo : World, wo = wr := ⟨_, rfl⟩
          subst hwo
          go_wp2_with fail
          go_loopw [10, 11] (fun v j wr => ∃ m : Nat, m ≤ A.length ∧ j = .int .i64 m ∧ (∃ xs, wr.ownsRow wo.heap.size 33 68 v ((A.take m).filter fun c => decide (c.key = x)).length xs ∧ Vts wr Q ((A.take m).filter fun c => decide (c.key = x)) xs) ∧ Keeps Nb wo wr) (fun _ j _ => A.length - (intOf j).toNat)
          case atStart => exact ⟨0, Nat.zero_le _, rfl, ⟨[], World.ownsRow_nil _ _ _ _, rfl⟩, Keeps.refl _ _⟩
          case round =>
            obtain ⟨m, hm, rfl, ⟨xs, hx1, hx2⟩, kq⟩ := hrel
            have KQ := Lib.hid (KW2.out.trans_nb kq)
            have cq : ∀ u : Sub wr, u.wd.cell? ⟨q, 0, none⟩ = some (.slice ar A.length cr) := fun u => by rw [cell_of_block (u.k.nb (KQ.out.nb HBQ.out))]; rfl
            have dq := cq ⟨wr, Keeps.refl _ _⟩
            have hfl : ((A.take m).filter fun c => decide (c.key = x)).length ≤ m := by have := List.length_filter_le (fun c => decide (c.key = x)) (A.take m); rw [List.length_take] at this; omega
            by_cases hml : m < A.length
            · have i2 : (m : Int) < (A.length : Int) := by omega
              have hne2 : A ≠ [] := by rintro rfl; simp at hml
              have har := (HAB.out hne2).1
              subst har
              obtain ⟨s1, hv1⟩ := HV.out m A[m] (List.getElem?_eq_getElem hml)
              have ok1 := HG.out.ok _ (List.getElem_mem hml)
              have HT := Lib.hid (filter_take hml (fun c => decide (c.key = x)))
              generalize ((A.take m).filter fun c => decide (c.key = x)) = D at *
              generalize A[m] = c at *
              have lv1 := vc_len ok1 s1
              have lk1 : (valsK HK c.key).length = 32 := by rw [valsK_length ok1.key.length]; rfl
              have onev := Lib.hid (vc_one c s1 hv1.sig.one)
              have VV := Lib.hid (fun (u : World) (h : Keeps Nb wr u) => hv1.nb (KQ.out.trans_nb h))
              have FC := Lib.hid ok1.key
              have HXX := Lib.hid (fun (u : World) (h : Keeps Nb wr u) => HX.out u (kq.trans_nb h))
              have HX1 := Lib.hid hx1; have HX2 := Lib.hid hx2; have HKQ := Lib.hid kq
              obtain ⟨a3, c3', rfl, hl3', hl4', -, -⟩ := owns_has hx1
              unfold maxLen at hl4'
              clear hv1 ok1 kq hx1 hx2
              generalize hd : decide (c.key = x) = d
              have HD := Lib.hid hd
              clear hd
              go_wp2_with fail
              refine region_sub (by kernel_rfl) (by kernel_rfl) ?_
              repeat (first | go_big_quiet_skip | (with_reducible refine stopq (op := .load 27 _) ?_) | (with_reducible refine stopq (op := .load 28 _) ?_) | (with_reducible refine stopq (op := .load 30 _) ?_) | (with_reducible refine stopq (op := .load 33 _) ?_) | (with_reducible refine stopq (op := .load 35 _) ?_) | (with_reducible refine stopq (op := .load 40 _) ?_) | (with_reducible refine stopq (op := .load 76 _) ?_) | (with_reducible refine stopq (op := .load 77 _) ?_) | (with_reducible refine stopq (op := .build 27 _) ?_) | (with_reducible refine stopq (op := .build 28 _) ?_) | (with_reducible refine stopq (op := .build 30 _) ?_) | (with_reducible refine stopq (op := .build 33 _) ?_) | (with_reducible refine stopq (op := .build 35 _) ?_) | (with_reducible refine stopq (op := .build 40 _) ?_) | (with_reducible refine stopq (op := .build 76 _) ?_) | (with_reducible refine stopq (op := .build 77 _) ?_) | (with_reducible refine stopq (op := .lookup _ _ _ _) ?_) | (with_reducible refine stopq (op := .binOp .eql 28 _ _ _) ?_) | (with_reducible refine stopq (op := .binOp .eql 40 _ _ _) ?_) | (with_reducible refine stopq (op := .binOp .neq 28 _ _ _) ?_) | (with_reducible refine stopq (op := .binOp .neq 40 _ _ _) ?_) | go_big_quiet_step (fail))
              refine at_out (wpq_val (v := kv HK c.key) rfl (by rintro _ ⟨u, rfl⟩; exact rn_loadH aggH (by rfl) (VV.out _ u.k).key lk1) ?_)
              simp only [Nat.reduceAdd, Nat.zero_add, Act.put, List.setIfInBounds_toArray, List.set_cons_succ, List.set_cons_zero]
              repeat (first | go_big_quiet_skip | (with_reducible refine stopq (op := .load 27 _) ?_) | (with_reducible refine stopq (op := .load 28 _) ?_) | (with_reducible refine stopq (op := .load 30 _) ?_) | (with_reducible refine stopq (op := .load 33 _) ?_) | (with_reducible refine stopq (op := .load 35 _) ?_) | (with_reducible refine stopq (op := .load 40 _) ?_) | (with_reducible refine stopq (op := .load 76 _) ?_) | (with_reducible refine stopq (op := .load 77 _) ?_) | (with_reducible refine stopq (op := .build 27 _) ?_) | (with_reducible refine stopq (op := .build 28 _) ?_) | (with_reducible refine stopq (op := .build 30 _) ?_) | (with_reducible refine stopq (op := .build 33 _) ?_) | (with_reducible refine stopq (op := .build 35 _) ?_) | (with_reducible refine stopq (op := .build 40 _) ?_) | (with_reducible refine stopq (op := .build 76 _) ?_) | (with_reducible refine stopq (op := .build 77 _) ?_) | (with_reducible refine stopq (op := .lookup _ _ _ _) ?_) | (with_reducible refine stopq (op := .binOp .eql 28 _ _ _) ?_) | (with_reducible refine stopq (op := .binOp .eql 40 _ _ _) ?_) | (with_reducible refine stopq (op := .binOp .neq 28 _ _ _) ?_) | (with_reducible refine stopq (op := .binOp .neq 40 _ _ _) ?_) | go_big_quiet_step (fail))
              refine at_out (wpq_val (v := kv HK x) rfl (by rintro _ ⟨u, rfl⟩; exact rn_loadH aggH (by rfl) (HXX.out _ u.k) lx) ?_)
              simp only [Nat.reduceAdd, Nat.zero_add, Act.put, List.setIfInBounds_toArray, List.set_cons_succ, List.set_cons_zero]
              repeat (first | go_big_quiet_skip | (with_reducible refine stopq (op := .load 27 _) ?_) | (with_reducible refine stopq (op := .load 28 _) ?_) | (with_reducible refine stopq (op := .load 30 _) ?_) | (with_reducible refine stopq (op := .load 33 _) ?_) | (with_reducible refine stopq (op := .load 35 _) ?_) | (with_reducible refine stopq (op := .load 40 _) ?_) | (with_reducible refine stopq (op := .load 76 _) ?_) | (with_reducible refine stopq (op := .load 77 _) ?_) | (with_reducible refine stopq (op := .build 27 _) ?_) | (with_reducible refine stopq (op := .build 28 _) ?_) | (with_reducible refine stopq (op := .build 30 _) ?_) | (with_reducible refine stopq (op := .build 33 _) ?_) | (with_reducible refine stopq (op := .build 35 _) ?_) | (with_reducible refine stopq (op := .build 40 _) ?_) | (with_reducible refine stopq (op := .build 76 _) ?_) | (with_reducible refine stopq (op := .build 77 _) ?_) | (with_reducible refine stopq (op := .lookup _ _ _ _) ?_) | (with_reducible refine stopq (op := .binOp .eql 28 _ _ _) ?_) | (with_reducible refine stopq (op := .binOp .eql 40 _ _ _) ?_) | (with_reducible refine stopq (op := .binOp .neq 28 _ _ _) ?_) | (with_reducible refine stopq (op := .binOp .neq 40 _ _ _) ?_) | go_big_quiet_step (fail))
              refine at_out (wpq_val (v := .bool d) rfl (by rintro _ ⟨u, rfl⟩; exact (rn_eqlK kkH (by rfl) (by rfl) FC.out FX.out).trans (by rw [HD.out])) ?_)
              simp only [Nat.reduceAdd, Nat.zero_add, Act.put, List.setIfInBounds_toArray, List.set_cons_succ, List.set_cons_zero]
              repeat (first | go_big_quiet_skip | (with_reducible refine stopq (op := .load 27 _) ?_) | (with_reducible refine stopq (op := .load 28 _) ?_) | (with_reducible refine stopq (op := .load 30 _) ?_) | (with_reducible refine stopq (op := .load 33 _) ?_) | (with_reducible refine stopq (op := .load 35 _) ?_) | (with_reducible refine stopq (op := .load 40 _) ?_) | (with_reducible refine stopq (op := .load 76 _) ?_) | (with_reducible refine stopq (op := .load 77 _) ?_) | (with_reducible refine stopq (op := .build 27 _) ?_) | (with_reducible refine stopq (op := .build 28 _) ?_) | (with_reducible refine stopq (op := .build 30 _) ?_) | (with_reducible refine stopq (op := .build 33 _) ?_) | (with_reducible refine stopq (op := .build 35 _) ?_) | (with_reducible refine stopq (op := .build 40 _) ?_) | (with_reducible refine stopq (op := .build 76 _) ?_) | (with_reducible refine stopq (op := .build 77 _) ?_) | (with_reducible refine stopq (op := .lookup _ _ _ _) ?_) | (with_reducible refine stopq (op := .binOp .eql 28 _ _ _) ?_) | (with_reducible refine stopq (op := .binOp .eql 40 _ _ _) ?_) | (with_reducible refine stopq (op := .binOp .neq 28 _ _ _) ?_) | (with_reducible refine stopq (op := .binOp .neq 40 _ _ _) ?_) | go_big_quiet_step (fail))
              refine wpQuiet_nil ?_
              rintro w7 ⟨u7, hu7⟩
              have K7 : Keeps Nb wr w7 := hu7 ▸ u7.k
              clear hu7 u7
              have dq' := cq ⟨w7, K7⟩
              clear cq dq
              cases d
              · have HT2 := Lib.hid (HT.out.trans (by rw [HD.out]; rfl) : (A.take (m + 1)).filter (fun c => decide (c.key = x)) = D)
                go_wp2
                go_roundw
                case rel => exact ⟨m + 1, by omega, by go_num, ⟨xs, by rw [HT2.out]; exact owns_keeps HX1.out K7 (fun _ _ e => e), by rw [HT2.out]; exact HX2.out.keeps K7 (fun _ _ e => e)⟩, HKQ.out.trans_nb K7⟩
                case measure => simp [intOf]; omega
              · have HT2 := Lib.hid (HT.out.trans (by rw [HD.out]; rfl) : (A.take (m + 1)).filter (fun c => decide (c.key = x)) = D ++ [c])
                go_wp2_with (first | go_skip | (with_reducible refine stop_load (t := 27) ?_) | (with_reducible refine stop_load (t := 28) ?_) | (with_reducible refine stop_load (t := 30) ?_) | (with_reducible refine stop_load (t := 33) ?_) | (with_reducible refine stop_load (t := 35) ?_) | (with_reducible refine stop_load (t := 40) ?_) | (with_reducible refine stop_load (t := 76) ?_) | (with_reducible refine stop_load (t := 77) ?_) | (with_reducible refine stop_box (t := 27) ?_) | (with_reducible refine stop_box (t := 28) ?_) | (with_reducible refine stop_box (t := 30) ?_) | (with_reducible refine stop_box (t := 33) ?_) | (with_reducible refine stop_box (t := 35) ?_) | (with_reducible refine stop_box (t := 40) ?_) | (with_reducible refine stop_box (t := 76) ?_) | (with_reducible refine stop_box (t := 77) ?_) | (with_reducible refine stop_alloc (t := 27) ?_) | (with_reducible refine stop_alloc (t := 28) ?_) | (with_reducible refine stop_alloc (t := 30) ?_) | (with_reducible refine stop_alloc (t := 33) ?_) | (with_reducible refine stop_alloc (t := 35) ?_) | (with_reducible refine stop_alloc (t := 40) ?_) | (with_reducible refine stop_alloc (t := 76) ?_) | (with_reducible refine stop_alloc (t := 77) ?_) | (with_reducible refine stop_alloc (t := 52) ?_) | (with_reducible refine stop_alloc (t := 68) ?_) | (with_reducible refine stop_alloc (t := 72) ?_) | (with_reducible refine stop_build (t := 27) ?_) | (with_reducible refine stop_build (t := 28) ?_) | (with_reducible refine stop_build (t := 30) ?_) | (with_reducible refine stop_build (t := 33) ?_) | (with_reducible refine stop_build (t := 35) ?_) | (with_reducible refine stop_build (t := 40) ?_) | (with_reducible refine stop_build (t := 76) ?_) | (with_reducible refine stop_build (t := 77) ?_) | (with_reducible refine stop_build (t := 52) ?_) | (with_reducible refine stop_build (t := 68) ?_) | (with_reducible refine stop_store (t := 27) ?_) | (with_reducible refine stop_store (t := 28) ?_) | (with_reducible refine stop_store (t := 30) ?_) | (with_reducible refine stop_store (t := 33) ?_) | (with_reducible refine stop_store (t := 35) ?_) | (with_reducible refine stop_store (t := 40) ?_) | (with_reducible refine stop_store (t := 76) ?_) | (with_reducible refine stop_store (t := 77) ?_) | (with_reducible refine stop_store (t := 22) ?_) | (with_reducible refine stop_store (t := 31) ?_) | (with_reducible refine stop_store (t := 47) ?_) | (with_reducible refine stop_store (t := 52) ?_) | (with_reducible refine stop_store (t := 68) ?_) | (with_reducible refine stop_store (t := 72) ?_) | (with_reducible refine stop_lookup ?_) | (with_reducible refine stop_buildSlice ?_) | (with_reducible refine stop_app ?_) | (with_reducible refine stop_mapEntry ?_) | (with_reducible refine stop_eql (t := 28) ?_) | (with_reducible refine stop_eql (t := 40) ?_) | (with_reducible refine stop_neq (t := 28) ?_) | (with_reducible refine stop_neq (t := 40) ?_))
                refine at_out (wpList_val (v := .agg (vc c s1).toArray) rfl (rn_loadH aggV (by rfl) (VV.out _ K7).vote lv1) ?_)
                simp only [Nat.reduceAdd, Nat.zero_add, Act.put, List.setIfInBounds_toArray, List.set_cons_succ, List.set_cons_zero]
                go_wp2_with (first | go_skip | (with_reducible refine stop_buildSlice ?_))
                refine at_out (wpList_valE rfl (re_buildSlice1 (v := .agg (vc c s1).toArray) E56 (by rfl) (by simpa [Value.cells] using lv1) (by omega)) ?_)
                rintro _ we ⟨g8, rfl, ne⟩
                simp only [Nat.reduceAdd, Nat.zero_add, Act.put, List.setIfInBounds_toArray, List.set_cons_succ, List.set_cons_zero]
                have kre := K7.trans_nb ne.k
                have QE := Lib.hid (HKQ.out.trans_nb kre)
                have hx1 := owns_keeps HX1.out kre (fun _ _ e => e)
                have HXE := Lib.hid (HX2.out.keeps kre (fun _ _ e => e))
                have hqlt := Lib.hid (fun k (hk : Q k) => (HLA.out.2.2.2.1 k hk : k < w4.heap.size))
                have hz4 := KW2.out.size
                have hob : ∀ b, (Value.slice a3 D.length c3').ownBlock = some b → wo.heap.size ≤ b := by
                  intro b hb
                  rcases hx1.2 with ⟨hv, _⟩ | ⟨g9, _, _, hv, hg9, hh9, _⟩
                  · rw [hv] at hb; cases hb
                  · rw [hv] at hb; cases hb; exact hg9
                have HOB := Lib.hid hob
                have SGE := Lib.hid (VV.out _ kre).sig
                have zwo := KW.out.size
                clear hob
                go_wp2_with (first | go_skip | (with_reducible refine stop_load (t := 27) ?_) | (with_reducible refine stop_load (t := 28) ?_) | (with_reducible refine stop_load (t := 30) ?_) | (with_reducible refine stop_load (t := 33) ?_) | (with_reducible refine stop_load (t := 35) ?_) | (with_reducible refine stop_load (t := 40) ?_) | (with_reducible refine stop_load (t := 76) ?_) | (with_reducible refine stop_load (t := 77) ?_) | (with_reducible refine stop_box (t := 27) ?_) | (with_reducible refine stop_box (t := 28) ?_) | (with_reducible refine stop_box (t := 30) ?_) | (with_reducible refine stop_box (t := 33) ?_) | (with_reducible refine stop_box (t := 35) ?_) | (with_reducible refine stop_box (t := 40) ?_) | (with_reducible refine stop_box (t := 76) ?_) | (with_reducible refine stop_box (t := 77) ?_) | (with_reducible refine stop_alloc (t := 27) ?_) | (with_reducible refine stop_alloc (t := 28) ?_) | (with_reducible refine stop_alloc (t := 30) ?_) | (with_reducible refine stop_alloc (t := 33) ?_) | (with_reducible refine stop_alloc (t := 35) ?_) | (with_reducible refine stop_alloc (t := 40) ?_) | (with_reducible refine stop_alloc (t := 76) ?_) | (with_reducible refine stop_alloc (t := 77) ?_) | (with_reducible refine stop_alloc (t := 52) ?_) | (with_reducible refine stop_alloc (t := 68) ?_) | (with_reducible refine stop_alloc (t := 72) ?_) | (with_reducible refine stop_build (t := 27) ?_) | (with_reducible refine stop_build (t := 28) ?_) | (with_reducible refine stop_build (t := 30) ?_) | (with_reducible refine stop_build (t := 33) ?_) | (with_reducible refine stop_build (t := 35) ?_) | (with_reducible refine stop_build (t := 40) ?_) | (with_reducible refine stop_build (t := 76) ?_) | (with_reducible refine stop_build (t := 77) ?_) | (with_reducible refine stop_build (t := 52) ?_) | (with_reducible refine stop_build (t := 68) ?_) | (with_reducible refine stop_store (t := 27) ?_) | (with_reducible refine stop_store (t := 28) ?_) | (with_reducible refine stop_store (t := 30) ?_) | (with_reducible refine stop_store (t := 33) ?_) | (with_reducible refine stop_store (t := 35) ?_) | (with_reducible refine stop_store (t := 40) ?_) | (with_reducible refine stop_store (t := 76) ?_) | (with_reducible refine stop_store (t := 77) ?_) | (with_reducible refine stop_store (t := 22) ?_) | (with_reducible refine stop_store (t := 31) ?_) | (with_reducible refine stop_store (t := 47) ?_) | (with_reducible refine stop_store (t := 52) ?_) | (with_reducible refine stop_store (t := 68) ?_) | (with_reducible refine stop_store (t := 72) ?_) | (with_reducible refine stop_lookup ?_) | (with_reducible refine stop_buildSlice ?_) | (with_reducible refine stop_app ?_) | (with_reducible refine stop_mapEntry ?_) | (with_reducible refine stop_eql (t := 28) ?_) | (with_reducible refine stop_eql (t := 40) ?_) | (with_reducible refine stop_neq (t := 28) ?_) | (with_reducible refine stop_neq (t := 40) ?_))
                refine at_out (wpList_valE rfl (re_appB (base := wo.heap.size) (news := vc c s1) (m := 1) E56 QE.out.size hx1 (by rfl) (by rfl) (by simpa [Value.cells] using has_block ne.blk) (by omega) onev.out (by unfold maxLen; omega) (by omega)) ?_)
                rintro v9 wf ⟨hof, kf, hov⟩
                have hvt := (HXE.out.keeps kf (fun k hk e => by have := HOB.out k e; have := hqlt.out k hk; omega)).snoc (SGE.out.keeps kf (fun k hk e => by have := HOB.out k e; have := hqlt.out k hk; omega))
                have KF : Keeps Nb wo wf := QE.out.trans kf (fun i hi e => by have := HOB.out i e; omega)
                obtain ⟨a9, c9, rfl, -⟩ := owns_has hof
                have HOF := Lib.hid hof; have HVT := Lib.hid hvt
                clear hof kf hov hx1 hvt ne kre
                simp only [Nat.reduceAdd, Nat.zero_add, Act.put, List.setIfInBounds_toArray, List.set_cons_succ, List.set_cons_zero]
                go_wp2
                go_roundw
                case rel => exact ⟨m + 1, by omega, by go_num, ⟨_, by rw [HT2.out, List.length_append]; exact HOF.out, by rw [HT2.out]; exact HVT.out⟩, KF⟩
                case measure => simp [intOf]; omega
            · have hml2 : m = A.length := by omega
              subst hml2
              rw [List.take_length] at hx1 hx2 hfl
              have hDs : ∀ c ∈ A.filter (fun c => decide (c.key = x)), c.Ok := fun c hc => HG.out.ok c (List.mem_filter.1 hc).1
              have OF := Lib.hid (fun (u : World) (h : Keeps Nb wr u) => of_at p F R A x u (HP.out.nb (KQ.out.trans_nb h)) HSG.out FX.out)
              have HXX := Lib.hid (HX.out wr kq)
              clear cq E56 hml
              generalize (A.filter fun c => decide (c.key = x)) = D at *
              obtain ⟨a3, c3', b3, o3, rfl, hl3', hl4', hb3, hv3⟩ := vts_get hx1 hx2 hDs
              unfold maxLen at hl4'
              have HB3 := Lib.hid hb3; have HV3 := Lib.hid hv3; have HDS := Lib.hid hDs; have HKQ := Lib.hid kq
              clear hx1 hx2 hb3 hv3 hDs kq
              go_wp2_with (first | go_skip | (with_reducible refine stop_load (t := 27) ?_) | (with_reducible refine stop_load (t := 28) ?_) | (with_reducible refine stop_load (t := 30) ?_) | (with_reducible refine stop_load (t := 33) ?_) | (with_reducible refine stop_load (t := 35) ?_) | (with_reducible refine stop_load (t := 40) ?_) | (with_reducible refine stop_load (t := 76) ?_) | (with_reducible refine stop_load (t := 77) ?_) | (with_reducible refine stop_box (t := 27) ?_) | (with_reducible refine stop_box (t := 28) ?_) | (with_reducible refine stop_box (t := 30) ?_) | (with_reducible refine stop_box (t := 33) ?_) | (with_reducible refine stop_box (t := 35) ?_) | (with_reducible refine stop_box (t := 40) ?_) | (with_reducible refine stop_box (t := 76) ?_) | (with_reducible refine stop_box (t := 77) ?_) | (with_reducible refine stop_alloc (t := 27) ?_) | (with_reducible refine stop_alloc (t := 28) ?_) | (with_reducible refine stop_alloc (t := 30) ?_) | (with_reducible refine stop_alloc (t := 33) ?_) | (with_reducible refine stop_alloc (t := 35) ?_) | (with_reducible refine stop_alloc (t := 40) ?_) | (with_reducible refine stop_alloc (t := 76) ?_) | (with_reducible refine stop_alloc (t := 77) ?_) | (with_reducible refine stop_alloc (t := 52) ?_) | (with_reducible refine stop_alloc (t := 68) ?_) | (with_reducible refine stop_alloc (t := 72) ?_) | (with_reducible refine stop_build (t := 27) ?_) | (with_reducible refine stop_build (t := 28) ?_) | (with_reducible refine stop_build (t := 30) ?_) | (with_reducible refine stop_build (t := 33) ?_) | (with_reducible refine stop_build (t := 35) ?_) | (with_reducible refine stop_build (t := 40) ?_) | (with_reducible refine stop_build (t := 76) ?_) | (with_reducible refine stop_build (t := 77) ?_) | (with_reducible refine stop_build (t := 52) ?_) | (with_reducible refine stop_build (t := 68) ?_) | (with_reducible refine stop_store (t := 27) ?_) | (with_reducible refine stop_store (t := 28) ?_) | (with_reducible refine stop_store (t := 30) ?_) | (with_reducible refine stop_store (t := 33) ?_) | (with_reducible refine stop_store (t := 35) ?_) | (with_reducible refine stop_store (t := 40) ?_) | (with_reducible refine stop_store (t := 76) ?_) | (with_reducible refine stop_store (t := 77) ?_) | (with_reducible refine stop_store (t := 22) ?_) | (with_reducible refine stop_store (t := 31) ?_) | (with_reducible refine stop_store (t := 47) ?_) | (with_reducible refine stop_store (t := 52) ?_) | (with_reducible refine stop_store (t := 68) ?_) | (with_reducible refine stop_store (t := 72) ?_) | (with_reducible refine stop_lookup ?_) | (with_reducible refine stop_buildSlice ?_) | (with_reducible refine stop_app ?_) | (with_reducible refine stop_mapEntry ?_) | (with_reducible refine stop_eql (t := 28) ?_) | (with_reducible refine stop_eql (t := 40) ?_) | (with_reducible refine stop_neq (t := 28) ?_) | (with_reducible refine stop_neq (t := 40) ?_))
              refine at_out (wpList_val (v := kv HK x) rfl (rn_loadH aggH (by rfl) HXX.out lx) ?_)
              simp only [Nat.reduceAdd, Nat.zero_add, Act.put, List.setIfInBounds_toArray, List.set_cons_succ, List.set_cons_zero]
              go_wp2_with fail
              refine (OF.out _ (Keeps.refl _ _)).mono ?_; rintro _ w8 ⟨v8, rfl, ⟨xs8, R8, ho8, ht8, hr8⟩, k8⟩
              obtain ⟨a8, c8, b8, o8, rfl, hl8, hm8, hb8, hv8⟩ := vts_get ho8 ht8 HDS.out
              unfold maxLen at hm8
              have HB8 := Lib.hid hb8; have HV8 := Lib.hid hv8; have K8 := Lib.hid k8
              have t1 : (((D.length : Nat) : Int) != ((D.length : Nat) : Int)) = false := by simp
              clear ho8 ht8 hr8 hb8 hv8 k8 OF dq
              go_wp2
              clear t1
              obtain ⟨wp, hwp⟩ : ∃ wp : World, wp = wr := ⟨_, rfl⟩
              subst hwp
              go_loopw [13] (fun i wr => ∃ j : Nat, j ≤ D.length ∧ i = .int .i64 j ∧ Keeps Nb w8 wr) (fun i _ => D.length - (intOf i).toNat)
              case atStart => exact ⟨0, Nat.zero_le _, rfl, Keeps.refl _ _⟩
              case round =>
                obtain ⟨j, hj, rfl, k9⟩ := hrel
                have K9 := Lib.hid k9
                clear k9
                by_cases hjl : j < D.length
                · have i2 : (j : Int) < (D.length : Int) := by omega
                  have hne2 : D ≠ [] := by rintro rfl; simp at hjl
                  have e3 := (HB3.out hne2).1
                  have e8 := (HB8.out hne2).1
                  subst e3 e8
                  obtain ⟨s3, sg3, h3⟩ := HV3.out j D[j] (List.getElem?_eq_getElem hjl)
                  obtain ⟨s8, sg8, h8⟩ := HV8.out j D[j] (List.getElem?_eq_getElem hjl)
                  have okd := HDS.out _ (List.getElem_mem hjl)
                  generalize D[j] = c at *
                  have l3 := vc_len okd s3
                  have l8 := vc_len okd s8
                  have H3 := Lib.hid (fun u : Sub wr => h3.nb (K8.out.trans_nb (K9.out.trans_nb u.k)))
                  have H8 := Lib.hid (fun u : Sub wr => h8.nb (K9.out.trans_nb u.k))
                  have SV := Lib.hid (fun u : Sub wr => sameVote_at c s8 s3 _ _ u.wd okd (sg8.keeps (K9.out.trans_nb u.k) (fun _ _ e => e)) (sg3.keeps (K8.out.trans_nb (K9.out.trans_nb u.k)) (fun _ _ e => e)))
                  clear h3 h8 sg3 sg8 okd
                  go_wp2_with fail
                  refine region_sub (by kernel_rfl) (by kernel_rfl) ?_
                  repeat (first | go_big_quiet_skip | (with_reducible refine stopq (op := .load 27 _) ?_) | (with_reducible refine stopq (op := .load 28 _) ?_) | (with_reducible refine stopq (op := .load 30 _) ?_) | (with_reducible refine stopq (op := .load 33 _) ?_) | (with_reducible refine stopq (op := .load 35 _) ?_) | (with_reducible refine stopq (op := .load 40 _) ?_) | (with_reducible refine stopq (op := .load 76 _) ?_) | (with_reducible refine stopq (op := .load 77 _) ?_) | (with_reducible refine stopq (op := .build 27 _) ?_) | (with_reducible refine stopq (op := .build 28 _) ?_) | (with_reducible refine stopq (op := .build 30 _) ?_) | (with_reducible refine stopq (op := .build 33 _) ?_) | (with_reducible refine stopq (op := .build 35 _) ?_) | (with_reducible refine stopq (op := .build 40 _) ?_) | (with_reducible refine stopq (op := .build 76 _) ?_) | (with_reducible refine stopq (op := .build 77 _) ?_) | (with_reducible refine stopq (op := .lookup _ _ _ _) ?_) | (with_reducible refine stopq (op := .binOp .eql 28 _ _ _) ?_) | (with_reducible refine stopq (op := .binOp .eql 40 _ _ _) ?_) | (with_reducible refine stopq (op := .binOp .neq 28 _ _ _) ?_) | (with_reducible refine stopq (op := .binOp .neq 40 _ _ _) ?_) | go_big_quiet_step (fail))
                  refine at_out (wpq_val (v := .agg (vc c s8).toArray) rfl (by rintro _ ⟨u, rfl⟩; exact rn_loadH aggV (by rfl) (H8.out u) l8) ?_)
                  simp only [Nat.reduceAdd, Nat.zero_add, Act.put, List.setIfInBounds_toArray, List.set_cons_succ, List.set_cons_zero]
                  repeat (first | go_big_quiet_skip | (with_reducible refine stopq (op := .load 27 _) ?_) | (with_reducible refine stopq (op := .load 28 _) ?_) | (with_reducible refine stopq (op := .load 30 _) ?_) | (with_reducible refine stopq (op := .load 33 _) ?_) | (with_reducible refine stopq (op := .load 35 _) ?_) | (with_reducible refine stopq (op := .load 40 _) ?_) | (with_reducible refine stopq (op := .load 76 _) ?_) | (with_reducible refine stopq (op := .load 77 _) ?_) | (with_reducible refine stopq (op := .build 27 _) ?_) | (with_reducible refine stopq (op := .build 28 _) ?_) | (with_reducible refine stopq (op := .build 30 _) ?_) | (with_reducible refine stopq (op := .build 33 _) ?_) | (with_reducible refine stopq (op := .build 35 _) ?_) | (with_reducible refine stopq (op := .build 40 _) ?_) | (with_reducible refine stopq (op := .build 76 _) ?_) | (with_reducible refine stopq (op := .build 77 _) ?_) | (with_reducible refine stopq (op := .lookup _ _ _ _) ?_) | (with_reducible refine stopq (op := .binOp .eql 28 _ _ _) ?_) | (with_reducible refine stopq (op := .binOp .eql 40 _ _ _) ?_) | (with_reducible refine stopq (op := .binOp .neq 28 _ _ _) ?_) | (with_reducible refine stopq (op := .binOp .neq 40 _ _ _) ?_) | go_big_quiet_step (fail))
                  refine at_out (wpq_val (v := .agg (vc c s3).toArray) rfl (by rintro _ ⟨u, rfl⟩; exact rn_loadH aggV (by rfl) (H3.out u) l3) ?_)
                  simp only [Nat.reduceAdd, Nat.zero_add, Act.put, List.setIfInBounds_toArray, List.set_cons_succ, List.set_cons_zero]
                  go_big_quiet_step ((go_at_call 20; with_reducible exact quiet_sub (SV.out _)))
                  repeat (first | go_big_quiet_skip | (with_reducible refine stopq (op := .load 27 _) ?_) | (with_reducible refine stopq (op := .load 28 _) ?_) | (with_reducible refine stopq (op := .load 30 _) ?_) | (with_reducible refine stopq (op := .load 33 _) ?_) | (with_reducible refine stopq (op := .load 35 _) ?_) | (with_reducible refine stopq (op := .load 40 _) ?_) | (with_reducible refine stopq (op := .load 76 _) ?_) | (with_reducible refine stopq (op := .load 77 _) ?_) | (with_reducible refine stopq (op := .build 27 _) ?_) | (with_reducible refine stopq (op := .build 28 _) ?_) | (with_reducible refine stopq (op := .build 30 _) ?_) | (with_reducible refine stopq (op := .build 33 _) ?_) | (with_reducible refine stopq (op := .build 35 _) ?_) | (with_reducible refine stopq (op := .build 40 _) ?_) | (with_reducible refine stopq (op := .build 76 _) ?_) | (with_reducible refine stopq (op := .build 77 _) ?_) | (with_reducible refine stopq (op := .lookup _ _ _ _) ?_) | (with_reducible refine stopq (op := .binOp .eql 28 _ _ _) ?_) | (with_reducible refine stopq (op := .binOp .eql 40 _ _ _) ?_) | (with_reducible refine stopq (op := .binOp .neq 28 _ _ _) ?_) | (with_reducible refine stopq (op := .binOp .neq 40 _ _ _) ?_) | go_big_quiet_step (fail))
                  refine wpQuiet_nil ?_
                  rintro w10 ⟨u10, hu10⟩
                  have K10 : Keeps Nb w8 w10 := K9.out.trans_nb (hu10 ▸ u10.k)
                  clear hu10 u10
                  go_wp2
                  go_roundw
                  case rel => exact ⟨j + 1, by omega, by go_num, K10⟩
                  case measure => simp [intOf]; omega
                · have hjl2 : j = D.length := by omega
                  subst hjl2
                  have KF := Lib.hid (K8.out.trans_nb K9.out)
                  clear hjl hj
                  go_wp2
                  go_roundw
                  case rel => exact ⟨k + 1, by omega, by go_num, KWO.out.trans_nb (HKQ.out.trans_nb KF.out)⟩
                  case measure => simp [intOf]; omega
        · have hkl : k = M.length := by omega
          subst hkl
          have KK := Lib.hid (K4.out.trans_nb KW2.out)
          clear HVK2 hlt hk
          go_wp2_with fail
          refine (KN.out _).mono ?_; rintro e w9 ⟨rfl, k9⟩
          go_wp2; go_ret; exact ⟨rfl, (KK.out.trans_nb k9).below⟩
end poolPlays
end Go.Proofs.Ytffnaigkdocpmac
