/- The walk of PoolSum. -/
import Derived.Test.YtffnaigkdocpmacSumL
set_option linter.unusedVariables false
set_option linter.unusedSimpArgs false
namespace Go.Proofs.Ytffnaigkdocpmac
open Go.RowKit Go.Lk Go.Pool

/-- A pool and a reference's pool, both new. -/
theorem duo_new {w w1 w2 : World} {p q : Nat} (h : PoolAt w1 p (Up Nb w w1) Nb []) (n : NewAt w1 w2 q (.cells #[.slice none 0 0] 52)) (k : Keeps Nb w w1) : DuoAt w2 p q (Up Nb w w1) Nb Nb [] [] := by
  refine ⟨h.nb n.k, ⟨⟨none, 0, n.blk, rfl, Nat.le_refl _, Nat.zero_le _, fun _ h => h.elim, [], .inl rfl, rfl, fun _ _ _ h => absurd rfl h⟩, Good.nil, Nat.zero_le _, fun h => h⟩, fun h => ?_, fun h => h, fun _ _ h => h, fun _ h => h.elim⟩
  have := n.ge
  rcases h with h | h
  · exact h
  · omega

namespace poolSum
set_option maxRecDepth 100000 in
set_option maxHeartbeats 2000000 in
theorem walk {H : Type} {enc : TypeId × Value → H} {base : Nat} (w : World) {v0 : Value} {d0 : DataW H} {p0 : List MemPlace} (kv0 : Value.okWide Try.prog w .any base 22 v0) (k0 : DataW.Trod enc Try.prog w 0 (fun _ => true) true 22 v0 d0 p0) :
    Calls Try.prog 4 #[v0] w fun e w' => e = .returned (.bool true) ∧ Below w.heap.size w w' := by
  obtain ⟨a, cp, cs, rfl, hl, hok⟩ := list_of kv0 k0
  clear kv0 k0
  have hc1 := hl.2.1
  have hm1 := hl.2.2.1
  unfold maxLen at hm1
  have FW := Lib.hid (few_at (Was w) a cp cs w hl hok)
  have KN := Lib.hid known_at
  have HL := Lib.hid hl; have HOK := Lib.hid hok
  clear hl hok
  by_cases hfew : fewB cs = true
  case neg =>
    have hf : fewB cs = false := by simpa using hfew
    rw [hf] at FW
    clear hfew
    go_enter Try.func4, Try.ntmps4
    go_wp2_with fail
    refine FW.out.mono ?_; rintro e w' ⟨rfl, rfl⟩
    go_wp2_with fail
    refine (KN.out _).mono ?_; rintro e w9 ⟨rfl, k9⟩
    go_wp2; go_ret; exact ⟨rfl, ((Keeps.refl Nb w).trans_nb k9).below⟩
  rw [hfew] at FW
  have h60 : cs.length ≤ 60 := by unfold fewB at hfew; simp at hfew; exact hfew.2
  clear hfew
  have hb52 : ∀ W : World, (Instr.build 52 #[]).run Try.prog W = .ok (.agg #[.slice none 0 0]) W := fun _ => by kernel_rfl
  go_enter Try.func4, Try.ntmps4
  go_wp2_with fail
  refine FW.out.mono ?_; rintro e w' ⟨rfl, rfl⟩
  go_wp2_with fail
  refine (new_at _).mono ?_
  rintro _ w1 ⟨p, rfl, hp1, kk1⟩
  go_wp2_with (first | go_skip | (with_reducible refine stop_box (t := 52) ?_))
  refine at_out (vbox rfl ?_); intro q w2 n2
  simp only [Nat.reduceAdd, Nat.zero_add, Act.put, List.setIfInBounds_toArray, List.set_cons_succ, List.set_cons_zero]
  have hD := duo_new hp1 n2 kk1
  have hk2 := kk1.trans_nb n2.k
  have y1 := kk1.size; have y2 := n2.ge
  have DO := Lib.hid (do_at p q (Up Nb w w1) Nb Nb (Was w) [] cs a cp w2 hD (HL.out.keeps hk2 (fun _ _ e => e)) HOK.out (fun k hk h => by
    unfold Was at hk
    rcases h with (h | h) | h
    · exact h
    · omega
    · omega) (by simp; omega))
  have HK2 := Lib.hid hk2
  clear hp1 kk1 n2 hD hk2
  go_wp2_with fail
  refine DO.out.mono ?_
  rintro _ w3 ⟨rfl, hD⟩
  have K3 := Lib.hid (HK2.out.trans hD.k (fun i hi h => by
    rcases h with (h | h) | h
    · exact h
    · omega
    · omega))
  obtain ⟨F, R, Q, ⟨hp, hr, -⟩, -⟩ := hD
  have hAl : (all [] cs).length ≤ 60 := by have := all_len cs []; simp at this; omega
  generalize all [] cs = A at *
  clear DO HK2 y1 y2
  obtain ⟨⟨ar, cr, hbq, hla⟩, hg, -⟩ := hr
  have hc3 := hla.2.1
  have hm3 := hla.2.2.1
  unfold maxLen at hm3
  obtain ⟨b, off, ha, hv⟩ := votes_at hla hg.ok
  have cq : w3.cell? ⟨q, 0, none⟩ = some (.slice ar A.length cr) := by rw [cell_of_block hbq]; rfl
  have HA := Lib.hid ha; have HV := Lib.hid hv; have HG := Lib.hid hg; have HP := Lib.hid hp
  have hs0 := skA_le (cs := A) (fun c hc => (hg.lo c hc).2)
  clear hla hbq ha hv hg hp
  go_wp2_with fail
  go_loop [5, 8] (fun s i => ∃ k : Nat, k ≤ A.length ∧ i = .int .i64 k ∧ s = .int .u64 (skA (A.take k) : Nat)) (fun _ i => A.length - (intOf i).toNat)
  case atStart => exact ⟨0, Nat.zero_le _, rfl, rfl⟩
  case round =>
    obtain ⟨k, hk, rfl, rfl⟩ := hrel
    by_cases hlt : k < A.length
    · have i1 : (k : Int) < (A.length : Int) := by omega
      have hne : A ≠ [] := by rintro rfl; simp at hlt
      have ha := HA.out hne
      subst ha
      obtain ⟨s1, hv1⟩ := HV.out k A[k] (List.getElem?_eq_getElem hlt)
      have cst := hv1.stake
      have HT := Lib.hid (sum_take_succ A (·.stake) hlt)
      have hb1 := sum_map_take A (·.stake) k
      have hst := (HG.out.ok _ (List.getElem_mem hlt)).stake
      have hlo := (HG.out.lo _ (List.getElem_mem hlt)).2
      unfold skA at *
      clear hv1
      generalize A[k] = c at *
      generalize ((A.take k).map (·.stake)).sum = n0 at *
      go_wp2
      go_round
      case rel => exact ⟨k + 1, by omega, by go_num, by rw [HT.out]; go_num⟩
      case measure => simp [intOf]; omega
    · have hkl : k = A.length := by omega
      subst hkl
      rw [List.take_of_length_le (Nat.le_refl _)]
      have LA := Lib.hid (links_at p F R A _ HP.out)
      clear HV HA
      go_wp2_with fail
      refine LA.out.mono ?_; rintro e w4 ⟨v3, rfl, o3, q3⟩
      obtain ⟨a3, c3, rfl, hl3, hl4, hh3, -⟩ := owns_has o3
      unfold maxLen at hl4
      obtain ⟨b3, off3, hb3, hl5⟩ := links_get hh3 (lks_fits HG.out.ok)
      have hN := lks_len A
      have HB3 := Lib.hid hb3; have HL5 := Lib.hid hl5
      have HF := Lib.hid (lks_fits HG.out.ok)
      have SW := Lib.hid (sum_wt A); have SV := Lib.hid (sum_vs A)
      have P4 := Lib.hid (HP.out.nb q3)
      have K4 := Lib.hid (K3.out.trans_nb q3)
      clear cq LA o3 q3 hh3 hb3 hl5 HP K3
      generalize hLL : lks A = L at *
      clear hLL
      go_wp2_with fail
      go_loopw [6, 7, 10] (fun s v i wr => ∃ k : Nat, k ≤ L.length ∧ i = .int .i64 k ∧ s = .int .u64 (((L.take k).map (wt A)).sum : Nat) ∧ v = .int .i64 (((L.take k).map (vs A)).sum : Nat) ∧ Keeps Nb w4 wr) (fun _ _ i _ => L.length - (intOf i).toNat)
      case atStart => exact ⟨0, Nat.zero_le _, rfl, rfl, rfl, Keeps.refl _ _⟩
      case round =>
        obtain ⟨k, hk, rfl, rfl, rfl, hkw⟩ := hrel
        by_cases hlt : k < L.length
        · have i1 : (k : Int) < (L.length : Int) := by omega
          have hne : L ≠ [] := by rintro rfl; simp at hlt
          have ha := HB3.out hne
          subst ha
          have hlk := HL5.out k L[k] (List.getElem?_eq_getElem hlt)
          have fl := HF.out _ (List.getElem_mem hlt)
          have HT := Lib.hid (sum_take_succ L (wt A) hlt); have HT2 := Lib.hid (sum_take_succ L (vs A) hlt)
          have hb1 := sum_map_take L (wt A) k; have hb2 := sum_map_take L (vs A) k
          have hb5 := sum_map_take L (wt A) (k + 1); have hb6 := sum_map_take L (vs A) (k + 1)
          rw [HT.out] at hb5; rw [HT2.out] at hb6
          rw [SW.out] at hb1 hb5
          rw [SV.out] at hb2 hb6
          generalize ((L.take k).map (wt A)).sum = n0 at *
          generalize ((L.take k).map (vs A)).sum = n1 at *
          generalize L[k] = x at *
          have lx : (valsK LK x).length = 66 := by rw [valsK_length fl.length]; rfl
          have WA := Lib.hid (fun (u : World) (h : Keeps Nb w4 u) => weight_at p F R A x u (P4.out.nb h) fl)
          have VA := Lib.hid (fun (u : World) (h : Keeps Nb w4 u) => voters_at p F R A x u (P4.out.nb h) fl)
          have HX := Lib.hid hlk
          generalize wt A x = m0 at *
          generalize vs A x = m1 at *
          clear hlk fl
          go_wp2_with (first | go_skip | (with_reducible refine stop_load (t := 27) ?_) | (with_reducible refine stop_load (t := 28) ?_) | (with_reducible refine stop_load (t := 30) ?_) | (with_reducible refine stop_load (t := 33) ?_) | (with_reducible refine stop_load (t := 35) ?_) | (with_reducible refine stop_load (t := 40) ?_) | (with_reducible refine stop_load (t := 76) ?_) | (with_reducible refine stop_load (t := 77) ?_) | (with_reducible refine stop_box (t := 27) ?_) | (with_reducible refine stop_box (t := 28) ?_) | (with_reducible refine stop_box (t := 30) ?_) | (with_reducible refine stop_box (t := 33) ?_) | (with_reducible refine stop_box (t := 35) ?_) | (with_reducible refine stop_box (t := 40) ?_) | (with_reducible refine stop_box (t := 76) ?_) | (with_reducible refine stop_box (t := 77) ?_) | (with_reducible refine stop_alloc (t := 27) ?_) | (with_reducible refine stop_alloc (t := 28) ?_) | (with_reducible refine stop_alloc (t := 30) ?_) | (with_reducible refine stop_alloc (t := 33) ?_) | (with_reducible refine stop_alloc (t := 35) ?_) | (with_reducible refine stop_alloc (t := 40) ?_) | (with_reducible refine stop_alloc (t := 76) ?_) | (with_reducible refine stop_alloc (t := 77) ?_) | (with_reducible refine stop_alloc (t := 52) ?_) | (with_reducible refine stop_alloc (t := 68) ?_) | (with_reducible refine stop_alloc (t := 72) ?_) | (with_reducible refine stop_build (t := 27) ?_) | (with_reducible refine stop_build (t := 28) ?_) | (with_reducible refine stop_build (t := 30) ?_) | (with_reducible refine stop_build (t := 33) ?_) | (with_reducible refine stop_build (t := 35) ?_) | (with_reducible refine stop_build (t := 40) ?_) | (with_reducible refine stop_build (t := 76) ?_) | (with_reducible refine stop_build (t := 77) ?_) | (with_reducible refine stop_build (t := 52) ?_) | (with_reducible refine stop_build (t := 68) ?_) | (with_reducible refine stop_store (t := 27) ?_) | (with_reducible refine stop_store (t := 28) ?_) | (with_reducible refine stop_store (t := 30) ?_) | (with_reducible refine stop_store (t := 33) ?_) | (with_reducible refine stop_store (t := 35) ?_) | (with_reducible refine stop_store (t := 40) ?_) | (with_reducible refine stop_store (t := 76) ?_) | (with_reducible refine stop_store (t := 77) ?_) | (with_reducible refine stop_store (t := 22) ?_) | (with_reducible refine stop_store (t := 31) ?_) | (with_reducible refine stop_store (t := 47) ?_) | (with_reducible refine stop_store (t := 52) ?_) | (with_reducible refine stop_store (t := 68) ?_) | (with_reducible refine stop_store (t := 72) ?_) | (with_reducible refine stop_lookup ?_) | (with_reducible refine stop_buildSlice ?_) | (with_reducible refine stop_app ?_) | (with_reducible refine stop_mapEntry ?_) | (with_reducible refine stop_eql (t := 28) ?_) | (with_reducible refine stop_eql (t := 40) ?_) | (with_reducible refine stop_neq (t := 28) ?_) | (with_reducible refine stop_neq (t := 40) ?_))
          refine at_out (wpList_val (v := kv LK x) rfl (rn_loadH aggL (by rfl) (HX.out.nb hkw) lx) ?_)
          simp only [Nat.reduceAdd, Nat.zero_add, Act.put, List.setIfInBounds_toArray, List.set_cons_succ, List.set_cons_zero]
          go_wp2_with fail
          refine (WA.out _ hkw).mono ?_; rintro e w5 ⟨rfl, k5⟩
          have hk5 := hkw.trans_nb k5
          go_wp2_with (first | go_skip | (with_reducible refine stop_load (t := 27) ?_) | (with_reducible refine stop_load (t := 28) ?_) | (with_reducible refine stop_load (t := 30) ?_) | (with_reducible refine stop_load (t := 33) ?_) | (with_reducible refine stop_load (t := 35) ?_) | (with_reducible refine stop_load (t := 40) ?_) | (with_reducible refine stop_load (t := 76) ?_) | (with_reducible refine stop_load (t := 77) ?_) | (with_reducible refine stop_box (t := 27) ?_) | (with_reducible refine stop_box (t := 28) ?_) | (with_reducible refine stop_box (t := 30) ?_) | (with_reducible refine stop_box (t := 33) ?_) | (with_reducible refine stop_box (t := 35) ?_) | (with_reducible refine stop_box (t := 40) ?_) | (with_reducible refine stop_box (t := 76) ?_) | (with_reducible refine stop_box (t := 77) ?_) | (with_reducible refine stop_alloc (t := 27) ?_) | (with_reducible refine stop_alloc (t := 28) ?_) | (with_reducible refine stop_alloc (t := 30) ?_) | (with_reducible refine stop_alloc (t := 33) ?_) | (with_reducible refine stop_alloc (t := 35) ?_) | (with_reducible refine stop_alloc (t := 40) ?_) | (with_reducible refine stop_alloc (t := 76) ?_) | (with_reducible refine stop_alloc (t := 77) ?_) | (with_reducible refine stop_alloc (t := 52) ?_) | (with_reducible refine stop_alloc (t := 68) ?_) | (with_reducible refine stop_alloc (t := 72) ?_) | (with_reducible refine stop_build (t := 27) ?_) | (with_reducible refine stop_build (t := 28) ?_) | (with_reducible refine stop_build (t := 30) ?_) | (with_reducible refine stop_build (t := 33) ?_) | (with_reducible refine stop_build (t := 35) ?_) | (with_reducible refine stop_build (t := 40) ?_) | (with_reducible refine stop_build (t := 76) ?_) | (with_reducible refine stop_build (t := 77) ?_) | (with_reducible refine stop_build (t := 52) ?_) | (with_reducible refine stop_build (t := 68) ?_) | (with_reducible refine stop_store (t := 27) ?_) | (with_reducible refine stop_store (t := 28) ?_) | (with_reducible refine stop_store (t := 30) ?_) | (with_reducible refine stop_store (t := 33) ?_) | (with_reducible refine stop_store (t := 35) ?_) | (with_reducible refine stop_store (t := 40) ?_) | (with_reducible refine stop_store (t := 76) ?_) | (with_reducible refine stop_store (t := 77) ?_) | (with_reducible refine stop_store (t := 22) ?_) | (with_reducible refine stop_store (t := 31) ?_) | (with_reducible refine stop_store (t := 47) ?_) | (with_reducible refine stop_store (t := 52) ?_) | (with_reducible refine stop_store (t := 68) ?_) | (with_reducible refine stop_store (t := 72) ?_) | (with_reducible refine stop_lookup ?_) | (with_reducible refine stop_buildSlice ?_) | (with_reducible refine stop_app ?_) | (with_reducible refine stop_mapEntry ?_) | (with_reducible refine stop_eql (t := 28) ?_) | (with_reducible refine stop_eql (t := 40) ?_) | (with_reducible refine stop_neq (t := 28) ?_) | (with_reducible refine stop_neq (t := 40) ?_))
          refine at_out (wpList_val (v := kv LK x) rfl (rn_loadH aggL (by rfl) (HX.out.nb hk5) lx) ?_)
          simp only [Nat.reduceAdd, Nat.zero_add, Act.put, List.setIfInBounds_toArray, List.set_cons_succ, List.set_cons_zero]
          go_wp2_with fail
          refine (VA.out _ hk5).mono ?_; rintro e w6 ⟨rfl, k6⟩
          have hk6 := hk5.trans_nb k6
          go_wp2
          go_roundw
          case rel => exact ⟨k + 1, by omega, by go_num, by rw [HT.out]; go_num, by rw [HT2.out]; go_num, hk6⟩
          case measure => simp [intOf]; omega
        · have hkl : k = L.length := by omega
          subst hkl
          rw [List.take_of_length_le (Nat.le_refl _), SW.out, SV.out]
          have CL := Lib.hid (len_at p F R A _ (P4.out.nb hkw))
          have KK := Lib.hid (K4.out.trans_nb hkw)
          have t1 : (((skA A : Nat) : Int) == ((skA A : Nat) : Int)) = true := by simp
          have t2 : (((A.length : Nat) : Int) == ((A.length : Nat) : Int)) = true := by simp
          generalize skA A = n0 at *
          clear hkw
          go_wp2_with fail
          refine CL.out.mono ?_; rintro e w6 ⟨rfl, rfl⟩
          go_wp2_with fail
          refine (KN.out _).mono ?_; rintro e w9 ⟨rfl, k9⟩
          go_wp2; go_ret; exact ⟨rfl, (KK.out.trans_nb k9).below⟩
end poolSum
end Go.Proofs.Ytffnaigkdocpmac
