/- Add to a reference's pool. -/
import Derived.Test.YtffnaigkdocpmacRefC
import Derived.Test.YtffnaigkdocpmacOrd2
set_option linter.unusedVariables false
set_option linter.unusedSimpArgs false
namespace Go.Proofs.Ytffnaigkdocpmac
open Go.RowKit Go.Lk Go.Pool

theorem votes_one {w : World} {R : Nat → Prop} : ∀ {cs : List Ct} {xs : List Value}, Votes w R cs xs → ∀ u ∈ xs, u.oneCell' = true
  | [], _, h => by subst h; simp
  | c :: cs, _, ⟨s, rest, h1, h2, h3⟩ => fun u hu => by
    rw [h1] at hu
    rcases List.mem_append.1 hu with hu | hu
    · exact sc_one c s h2.one u hu
    · exact votes_one h3 u hu
def RGrew (w : World) (q : Nat) (R R' : Nat → Prop) (cs : List Ct) (w' : World) : Prop := ∃ R2, RefAt w' q R2 cs ∧ ∀ k, R2 k → (R k ∨ R' k) ∨ w.heap.size ≤ k
set_option maxRecDepth 100000 in
set_option maxHeartbeats 1000000 in
theorem refAdd_no (q : Nat) (R R' : Nat → Prop) (cs : List Ct) (c : Ct) (s : Value) (w : World) (h : RefAt w q R cs) (hc : c.Ok) (hs : SigAt w R' c s) (h0 : chk cs c ≠ 0) :
    Calls Try.prog 29 #[.pointer (some ⟨q, 0, none⟩), .agg (vc c s).toArray, kv HK c.key, .int .u64 (c.stake : Nat)] w fun e w' => e = .returned (.tuple #[.int .u64 0, .int .i64 (chk cs c : Nat)]) ∧ Keeps Nb w w' := by
  have HCK := Lib.hid (fun (w' : World) (hk : Keeps Nb w w') => refCheck_at q R R' cs c s w' (h.nb hk) hc (hs.keeps hk (fun _ _ e => e)))
  have hst := hc.stake
  have lV := vc_len hc s
  have lK : (valsK HK c.key).length = 32 := by rw [valsK_length hc.key.length]; rfl
  have t0 : ((chk cs c : Int) != 0) = true := by rw [bne_iff_ne]; omega
  have H0 := Lib.hid h0; clear h0
  generalize chk cs c = rs at *
  clear h hs hc
  unfold kv
  go_enter Try.func29, Try.ntmps29
  go_wp2_with (first | go_skip | (with_reducible refine stop_load (t := 27) ?_) | (with_reducible refine stop_load (t := 28) ?_) | (with_reducible refine stop_load (t := 30) ?_) | (with_reducible refine stop_load (t := 33) ?_) | (with_reducible refine stop_load (t := 35) ?_) | (with_reducible refine stop_load (t := 40) ?_) | (with_reducible refine stop_load (t := 76) ?_) | (with_reducible refine stop_load (t := 77) ?_) | (with_reducible refine stop_box (t := 27) ?_) | (with_reducible refine stop_box (t := 28) ?_) | (with_reducible refine stop_box (t := 30) ?_) | (with_reducible refine stop_box (t := 33) ?_) | (with_reducible refine stop_box (t := 35) ?_) | (with_reducible refine stop_box (t := 40) ?_) | (with_reducible refine stop_box (t := 76) ?_) | (with_reducible refine stop_box (t := 77) ?_) | (with_reducible refine stop_alloc (t := 27) ?_) | (with_reducible refine stop_alloc (t := 28) ?_) | (with_reducible refine stop_alloc (t := 30) ?_) | (with_reducible refine stop_alloc (t := 33) ?_) | (with_reducible refine stop_alloc (t := 35) ?_) | (with_reducible refine stop_alloc (t := 40) ?_) | (with_reducible refine stop_alloc (t := 76) ?_) | (with_reducible refine stop_alloc (t := 77) ?_) | (with_reducible refine stop_alloc (t := 52) ?_) | (with_reducible refine stop_alloc (t := 68) ?_) | (with_reducible refine stop_alloc (t := 72) ?_) | (with_reducible refine stop_build (t := 27) ?_) | (with_reducible refine stop_build (t := 28) ?_) | (with_reducible refine stop_build (t := 30) ?_) | (with_reducible refine stop_build (t := 33) ?_) | (with_reducible refine stop_build (t := 35) ?_) | (with_reducible refine stop_build (t := 40) ?_) | (with_reducible refine stop_build (t := 76) ?_) | (with_reducible refine stop_build (t := 77) ?_) | (with_reducible refine stop_build (t := 52) ?_) | (with_reducible refine stop_build (t := 68) ?_) | (with_reducible refine stop_store (t := 27) ?_) | (with_reducible refine stop_store (t := 28) ?_) | (with_reducible refine stop_store (t := 30) ?_) | (with_reducible refine stop_store (t := 33) ?_) | (with_reducible refine stop_store (t := 35) ?_) | (with_reducible refine stop_store (t := 40) ?_) | (with_reducible refine stop_store (t := 76) ?_) | (with_reducible refine stop_store (t := 77) ?_) | (with_reducible refine stop_store (t := 22) ?_) | (with_reducible refine stop_store (t := 31) ?_) | (with_reducible refine stop_store (t := 47) ?_) | (with_reducible refine stop_store (t := 52) ?_) | (with_reducible refine stop_store (t := 68) ?_) | (with_reducible refine stop_store (t := 72) ?_) | (with_reducible refine stop_lookup ?_) | (with_reducible refine stop_buildSlice ?_) | (with_reducible refine stop_app ?_) | (with_reducible refine stop_mapEntry ?_) | (with_reducible refine stop_eql (t := 28) ?_) | (with_reducible refine stop_eql (t := 40) ?_) | (with_reducible refine stop_neq (t := 28) ?_) | (with_reducible refine stop_neq (t := 40) ?_))
  refine at_out (vbox rfl ?_); intro g1 w1 n1
  simp only [Nat.reduceAdd, Nat.zero_add, Act.put, List.setIfInBounds_toArray, List.set_cons_succ, List.set_cons_zero]
  go_wp2_with (first | go_skip | (with_reducible refine stop_load (t := 27) ?_) | (with_reducible refine stop_load (t := 28) ?_) | (with_reducible refine stop_load (t := 30) ?_) | (with_reducible refine stop_load (t := 33) ?_) | (with_reducible refine stop_load (t := 35) ?_) | (with_reducible refine stop_load (t := 40) ?_) | (with_reducible refine stop_load (t := 76) ?_) | (with_reducible refine stop_load (t := 77) ?_) | (with_reducible refine stop_box (t := 27) ?_) | (with_reducible refine stop_box (t := 28) ?_) | (with_reducible refine stop_box (t := 30) ?_) | (with_reducible refine stop_box (t := 33) ?_) | (with_reducible refine stop_box (t := 35) ?_) | (with_reducible refine stop_box (t := 40) ?_) | (with_reducible refine stop_box (t := 76) ?_) | (with_reducible refine stop_box (t := 77) ?_) | (with_reducible refine stop_alloc (t := 27) ?_) | (with_reducible refine stop_alloc (t := 28) ?_) | (with_reducible refine stop_alloc (t := 30) ?_) | (with_reducible refine stop_alloc (t := 33) ?_) | (with_reducible refine stop_alloc (t := 35) ?_) | (with_reducible refine stop_alloc (t := 40) ?_) | (with_reducible refine stop_alloc (t := 76) ?_) | (with_reducible refine stop_alloc (t := 77) ?_) | (with_reducible refine stop_alloc (t := 52) ?_) | (with_reducible refine stop_alloc (t := 68) ?_) | (with_reducible refine stop_alloc (t := 72) ?_) | (with_reducible refine stop_build (t := 27) ?_) | (with_reducible refine stop_build (t := 28) ?_) | (with_reducible refine stop_build (t := 30) ?_) | (with_reducible refine stop_build (t := 33) ?_) | (with_reducible refine stop_build (t := 35) ?_) | (with_reducible refine stop_build (t := 40) ?_) | (with_reducible refine stop_build (t := 76) ?_) | (with_reducible refine stop_build (t := 77) ?_) | (with_reducible refine stop_build (t := 52) ?_) | (with_reducible refine stop_build (t := 68) ?_) | (with_reducible refine stop_store (t := 27) ?_) | (with_reducible refine stop_store (t := 28) ?_) | (with_reducible refine stop_store (t := 30) ?_) | (with_reducible refine stop_store (t := 33) ?_) | (with_reducible refine stop_store (t := 35) ?_) | (with_reducible refine stop_store (t := 40) ?_) | (with_reducible refine stop_store (t := 76) ?_) | (with_reducible refine stop_store (t := 77) ?_) | (with_reducible refine stop_store (t := 22) ?_) | (with_reducible refine stop_store (t := 31) ?_) | (with_reducible refine stop_store (t := 47) ?_) | (with_reducible refine stop_store (t := 52) ?_) | (with_reducible refine stop_store (t := 68) ?_) | (with_reducible refine stop_store (t := 72) ?_) | (with_reducible refine stop_lookup ?_) | (with_reducible refine stop_buildSlice ?_) | (with_reducible refine stop_app ?_) | (with_reducible refine stop_mapEntry ?_) | (with_reducible refine stop_eql (t := 28) ?_) | (with_reducible refine stop_eql (t := 40) ?_) | (with_reducible refine stop_neq (t := 28) ?_) | (with_reducible refine stop_neq (t := 40) ?_))
  refine at_out (vbox rfl ?_); intro g2 w2 n2
  simp only [Nat.reduceAdd, Nat.zero_add, Act.put, List.setIfInBounds_toArray, List.set_cons_succ, List.set_cons_zero]
  have H1 : Hid (∀ u : Sub w2, Has u.wd (some ⟨g1, 0, none⟩) (vc c s)) := fun u => has_block ((n2.k.trans_nb u.k).nb n1.blk)
  have H2 : Hid (∀ u : Sub w2, Has u.wd (some ⟨g2, 0, none⟩) (valsK HK c.key)) := fun u => has_block (u.k.nb n2.blk)
  have K2 := Lib.hid (n1.k.trans_nb n2.k)
  have hg1 : w.heap.size ≤ g1 := n1.ge
  clear n1 n2
  go_wp2_with (first | go_skip | (with_reducible refine stop_load (t := 27) ?_) | (with_reducible refine stop_load (t := 28) ?_) | (with_reducible refine stop_load (t := 30) ?_) | (with_reducible refine stop_load (t := 33) ?_) | (with_reducible refine stop_load (t := 35) ?_) | (with_reducible refine stop_load (t := 40) ?_) | (with_reducible refine stop_load (t := 76) ?_) | (with_reducible refine stop_load (t := 77) ?_) | (with_reducible refine stop_box (t := 27) ?_) | (with_reducible refine stop_box (t := 28) ?_) | (with_reducible refine stop_box (t := 30) ?_) | (with_reducible refine stop_box (t := 33) ?_) | (with_reducible refine stop_box (t := 35) ?_) | (with_reducible refine stop_box (t := 40) ?_) | (with_reducible refine stop_box (t := 76) ?_) | (with_reducible refine stop_box (t := 77) ?_) | (with_reducible refine stop_alloc (t := 27) ?_) | (with_reducible refine stop_alloc (t := 28) ?_) | (with_reducible refine stop_alloc (t := 30) ?_) | (with_reducible refine stop_alloc (t := 33) ?_) | (with_reducible refine stop_alloc (t := 35) ?_) | (with_reducible refine stop_alloc (t := 40) ?_) | (with_reducible refine stop_alloc (t := 76) ?_) | (with_reducible refine stop_alloc (t := 77) ?_) | (with_reducible refine stop_alloc (t := 52) ?_) | (with_reducible refine stop_alloc (t := 68) ?_) | (with_reducible refine stop_alloc (t := 72) ?_) | (with_reducible refine stop_build (t := 27) ?_) | (with_reducible refine stop_build (t := 28) ?_) | (with_reducible refine stop_build (t := 30) ?_) | (with_reducible refine stop_build (t := 33) ?_) | (with_reducible refine stop_build (t := 35) ?_) | (with_reducible refine stop_build (t := 40) ?_) | (with_reducible refine stop_build (t := 76) ?_) | (with_reducible refine stop_build (t := 77) ?_) | (with_reducible refine stop_build (t := 52) ?_) | (with_reducible refine stop_build (t := 68) ?_) | (with_reducible refine stop_store (t := 27) ?_) | (with_reducible refine stop_store (t := 28) ?_) | (with_reducible refine stop_store (t := 30) ?_) | (with_reducible refine stop_store (t := 33) ?_) | (with_reducible refine stop_store (t := 35) ?_) | (with_reducible refine stop_store (t := 40) ?_) | (with_reducible refine stop_store (t := 76) ?_) | (with_reducible refine stop_store (t := 77) ?_) | (with_reducible refine stop_store (t := 22) ?_) | (with_reducible refine stop_store (t := 31) ?_) | (with_reducible refine stop_store (t := 47) ?_) | (with_reducible refine stop_store (t := 52) ?_) | (with_reducible refine stop_store (t := 68) ?_) | (with_reducible refine stop_store (t := 72) ?_) | (with_reducible refine stop_lookup ?_) | (with_reducible refine stop_buildSlice ?_) | (with_reducible refine stop_app ?_) | (with_reducible refine stop_mapEntry ?_) | (with_reducible refine stop_eql (t := 28) ?_) | (with_reducible refine stop_eql (t := 40) ?_) | (with_reducible refine stop_neq (t := 28) ?_) | (with_reducible refine stop_neq (t := 40) ?_))
  refine at_out (wpList_val (v := .agg (vc c s).toArray) rfl (rn_loadH aggV (by rfl) (H1.out ⟨w2, Keeps.refl _ _⟩) lV) ?_)
  simp only [Nat.reduceAdd, Nat.zero_add, Act.put, List.setIfInBounds_toArray, List.set_cons_succ, List.set_cons_zero]
  go_wp2_with (first | go_skip | (with_reducible refine stop_load (t := 27) ?_) | (with_reducible refine stop_load (t := 28) ?_) | (with_reducible refine stop_load (t := 30) ?_) | (with_reducible refine stop_load (t := 33) ?_) | (with_reducible refine stop_load (t := 35) ?_) | (with_reducible refine stop_load (t := 40) ?_) | (with_reducible refine stop_load (t := 76) ?_) | (with_reducible refine stop_load (t := 77) ?_) | (with_reducible refine stop_box (t := 27) ?_) | (with_reducible refine stop_box (t := 28) ?_) | (with_reducible refine stop_box (t := 30) ?_) | (with_reducible refine stop_box (t := 33) ?_) | (with_reducible refine stop_box (t := 35) ?_) | (with_reducible refine stop_box (t := 40) ?_) | (with_reducible refine stop_box (t := 76) ?_) | (with_reducible refine stop_box (t := 77) ?_) | (with_reducible refine stop_alloc (t := 27) ?_) | (with_reducible refine stop_alloc (t := 28) ?_) | (with_reducible refine stop_alloc (t := 30) ?_) | (with_reducible refine stop_alloc (t := 33) ?_) | (with_reducible refine stop_alloc (t := 35) ?_) | (with_reducible refine stop_alloc (t := 40) ?_) | (with_reducible refine stop_alloc (t := 76) ?_) | (with_reducible refine stop_alloc (t := 77) ?_) | (with_reducible refine stop_alloc (t := 52) ?_) | (with_reducible refine stop_alloc (t := 68) ?_) | (with_reducible refine stop_alloc (t := 72) ?_) | (with_reducible refine stop_build (t := 27) ?_) | (with_reducible refine stop_build (t := 28) ?_) | (with_reducible refine stop_build (t := 30) ?_) | (with_reducible refine stop_build (t := 33) ?_) | (with_reducible refine stop_build (t := 35) ?_) | (with_reducible refine stop_build (t := 40) ?_) | (with_reducible refine stop_build (t := 76) ?_) | (with_reducible refine stop_build (t := 77) ?_) | (with_reducible refine stop_build (t := 52) ?_) | (with_reducible refine stop_build (t := 68) ?_) | (with_reducible refine stop_store (t := 27) ?_) | (with_reducible refine stop_store (t := 28) ?_) | (with_reducible refine stop_store (t := 30) ?_) | (with_reducible refine stop_store (t := 33) ?_) | (with_reducible refine stop_store (t := 35) ?_) | (with_reducible refine stop_store (t := 40) ?_) | (with_reducible refine stop_store (t := 76) ?_) | (with_reducible refine stop_store (t := 77) ?_) | (with_reducible refine stop_store (t := 22) ?_) | (with_reducible refine stop_store (t := 31) ?_) | (with_reducible refine stop_store (t := 47) ?_) | (with_reducible refine stop_store (t := 52) ?_) | (with_reducible refine stop_store (t := 68) ?_) | (with_reducible refine stop_store (t := 72) ?_) | (with_reducible refine stop_lookup ?_) | (with_reducible refine stop_buildSlice ?_) | (with_reducible refine stop_app ?_) | (with_reducible refine stop_mapEntry ?_) | (with_reducible refine stop_eql (t := 28) ?_) | (with_reducible refine stop_eql (t := 40) ?_) | (with_reducible refine stop_neq (t := 28) ?_) | (with_reducible refine stop_neq (t := 40) ?_))
  refine at_out (wpList_val (v := .agg (valsK HK c.key).toArray) rfl (rn_loadH aggH (by rfl) (H2.out ⟨w2, Keeps.refl _ _⟩) lK) ?_)
  simp only [Nat.reduceAdd, Nat.zero_add, Act.put, List.setIfInBounds_toArray, List.set_cons_succ, List.set_cons_zero]
  go_wp2_with fail
  refine (HCK.out _ K2.out).mono ?_; rintro e w3 ⟨rfl, k3⟩
  go_wp2
  go_ret2
  exact ⟨rfl, K2.out.trans_nb k3⟩

set_option maxRecDepth 100000 in
set_option maxHeartbeats 2000000 in
theorem refAdd_yes (q : Nat) (R R' : Nat → Prop) (cs : List Ct) (c : Ct) (s : Value) (w : World) (h : RefAt w q R cs) (hc : c.Ok) (hs : SigAt w R' c s) (hn : cs.length < 1000) (hq : ¬ R' q) (hlt : ∀ k, R' k → k < w.heap.size) (h0 : chk cs c = 0) :
    Calls Try.prog 29 #[.pointer (some ⟨q, 0, none⟩), .agg (vc c s).toArray, kv HK c.key, .int .u64 (c.stake : Nat)] w fun e w' => e = .returned (.tuple #[.int .u64 (wt (cs ++ [c]) c.link : Nat), .int .i64 0]) ∧ RGrew w q R R' (cs ++ [c]) w' ∧ Keeps (· = q) w w' := by
  have HCK := Lib.hid (fun (w' : World) (hk : Keeps Nb w w') => refCheck_at q R R' cs c s w' (h.nb hk) hc (hs.keeps hk (fun _ _ e => e)))
  rw [h0] at HCK
  have hgood := h.good.addTo (c := c) hc
  unfold addTo at hgood
  rw [if_pos h0] at hgood
  have HGOOD := Lib.hid hgood
  have hql := h.lt
  have hst := hc.stake
  have lV := vc_len hc s
  have lS := sc_len hc s
  have lK : (valsK HK c.key).length = 32 := by rw [valsK_length hc.key.length]; rfl
  have oneS := Lib.hid (sc_one c s hs.one)
  obtain ⟨⟨a, cp, hb, hla⟩, hg, hlen, hap⟩ := h
  have hc1 := hla.2.1
  have hc2 := hla.2.2.1
  unfold maxLen at hc2
  obtain ⟨-, -, -, hR, xs, hxs, hvo, hRb⟩ := hla
  have hlx := hvo.len hg.ok
  have onex := Lib.hid (show ∀ u ∈ xs, u.oneCell' = true from votes_one hvo)
  have HB := Lib.hid hb; have HC := Lib.hid hc; have HXS := Lib.hid hxs; have HVO := Lib.hid hvo; have HS := Lib.hid hs
  have HR := Lib.hid hR; have HLT := Lib.hid hlt
  clear hb hc hg hgood hxs hvo hs h0 hR hRb hlt
  obtain ⟨z22, E22⟩ := el22
  unfold kv
  go_enter Try.func29, Try.ntmps29
  go_wp2_with (first | go_skip | (with_reducible refine stop_load (t := 27) ?_) | (with_reducible refine stop_load (t := 28) ?_) | (with_reducible refine stop_load (t := 30) ?_) | (with_reducible refine stop_load (t := 33) ?_) | (with_reducible refine stop_load (t := 35) ?_) | (with_reducible refine stop_load (t := 40) ?_) | (with_reducible refine stop_load (t := 76) ?_) | (with_reducible refine stop_load (t := 77) ?_) | (with_reducible refine stop_box (t := 27) ?_) | (with_reducible refine stop_box (t := 28) ?_) | (with_reducible refine stop_box (t := 30) ?_) | (with_reducible refine stop_box (t := 33) ?_) | (with_reducible refine stop_box (t := 35) ?_) | (with_reducible refine stop_box (t := 40) ?_) | (with_reducible refine stop_box (t := 76) ?_) | (with_reducible refine stop_box (t := 77) ?_) | (with_reducible refine stop_alloc (t := 27) ?_) | (with_reducible refine stop_alloc (t := 28) ?_) | (with_reducible refine stop_alloc (t := 30) ?_) | (with_reducible refine stop_alloc (t := 33) ?_) | (with_reducible refine stop_alloc (t := 35) ?_) | (with_reducible refine stop_alloc (t := 40) ?_) | (with_reducible refine stop_alloc (t := 76) ?_) | (with_reducible refine stop_alloc (t := 77) ?_) | (with_reducible refine stop_alloc (t := 52) ?_) | (with_reducible refine stop_alloc (t := 68) ?_) | (with_reducible refine stop_alloc (t := 72) ?_) | (with_reducible refine stop_build (t := 27) ?_) | (with_reducible refine stop_build (t := 28) ?_) | (with_reducible refine stop_build (t := 30) ?_) | (with_reducible refine stop_build (t := 33) ?_) | (with_reducible refine stop_build (t := 35) ?_) | (with_reducible refine stop_build (t := 40) ?_) | (with_reducible refine stop_build (t := 76) ?_) | (with_reducible refine stop_build (t := 77) ?_) | (with_reducible refine stop_build (t := 52) ?_) | (with_reducible refine stop_build (t := 68) ?_) | (with_reducible refine stop_store (t := 27) ?_) | (with_reducible refine stop_store (t := 28) ?_) | (with_reducible refine stop_store (t := 30) ?_) | (with_reducible refine stop_store (t := 33) ?_) | (with_reducible refine stop_store (t := 35) ?_) | (with_reducible refine stop_store (t := 40) ?_) | (with_reducible refine stop_store (t := 76) ?_) | (with_reducible refine stop_store (t := 77) ?_) | (with_reducible refine stop_store (t := 22) ?_) | (with_reducible refine stop_store (t := 31) ?_) | (with_reducible refine stop_store (t := 47) ?_) | (with_reducible refine stop_store (t := 52) ?_) | (with_reducible refine stop_store (t := 68) ?_) | (with_reducible refine stop_store (t := 72) ?_) | (with_reducible refine stop_lookup ?_) | (with_reducible refine stop_buildSlice ?_) | (with_reducible refine stop_app ?_) | (with_reducible refine stop_mapEntry ?_) | (with_reducible refine stop_eql (t := 28) ?_) | (with_reducible refine stop_eql (t := 40) ?_) | (with_reducible refine stop_neq (t := 28) ?_) | (with_reducible refine stop_neq (t := 40) ?_))
  refine at_out (vbox rfl ?_); intro g1 w1 n1
  simp only [Nat.reduceAdd, Nat.zero_add, Act.put, List.setIfInBounds_toArray, List.set_cons_succ, List.set_cons_zero]
  go_wp2_with (first | go_skip | (with_reducible refine stop_load (t := 27) ?_) | (with_reducible refine stop_load (t := 28) ?_) | (with_reducible refine stop_load (t := 30) ?_) | (with_reducible refine stop_load (t := 33) ?_) | (with_reducible refine stop_load (t := 35) ?_) | (with_reducible refine stop_load (t := 40) ?_) | (with_reducible refine stop_load (t := 76) ?_) | (with_reducible refine stop_load (t := 77) ?_) | (with_reducible refine stop_box (t := 27) ?_) | (with_reducible refine stop_box (t := 28) ?_) | (with_reducible refine stop_box (t := 30) ?_) | (with_reducible refine stop_box (t := 33) ?_) | (with_reducible refine stop_box (t := 35) ?_) | (with_reducible refine stop_box (t := 40) ?_) | (with_reducible refine stop_box (t := 76) ?_) | (with_reducible refine stop_box (t := 77) ?_) | (with_reducible refine stop_alloc (t := 27) ?_) | (with_reducible refine stop_alloc (t := 28) ?_) | (with_reducible refine stop_alloc (t := 30) ?_) | (with_reducible refine stop_alloc (t := 33) ?_) | (with_reducible refine stop_alloc (t := 35) ?_) | (with_reducible refine stop_alloc (t := 40) ?_) | (with_reducible refine stop_alloc (t := 76) ?_) | (with_reducible refine stop_alloc (t := 77) ?_) | (with_reducible refine stop_alloc (t := 52) ?_) | (with_reducible refine stop_alloc (t := 68) ?_) | (with_reducible refine stop_alloc (t := 72) ?_) | (with_reducible refine stop_build (t := 27) ?_) | (with_reducible refine stop_build (t := 28) ?_) | (with_reducible refine stop_build (t := 30) ?_) | (with_reducible refine stop_build (t := 33) ?_) | (with_reducible refine stop_build (t := 35) ?_) | (with_reducible refine stop_build (t := 40) ?_) | (with_reducible refine stop_build (t := 76) ?_) | (with_reducible refine stop_build (t := 77) ?_) | (with_reducible refine stop_build (t := 52) ?_) | (with_reducible refine stop_build (t := 68) ?_) | (with_reducible refine stop_store (t := 27) ?_) | (with_reducible refine stop_store (t := 28) ?_) | (with_reducible refine stop_store (t := 30) ?_) | (with_reducible refine stop_store (t := 33) ?_) | (with_reducible refine stop_store (t := 35) ?_) | (with_reducible refine stop_store (t := 40) ?_) | (with_reducible refine stop_store (t := 76) ?_) | (with_reducible refine stop_store (t := 77) ?_) | (with_reducible refine stop_store (t := 22) ?_) | (with_reducible refine stop_store (t := 31) ?_) | (with_reducible refine stop_store (t := 47) ?_) | (with_reducible refine stop_store (t := 52) ?_) | (with_reducible refine stop_store (t := 68) ?_) | (with_reducible refine stop_store (t := 72) ?_) | (with_reducible refine stop_lookup ?_) | (with_reducible refine stop_buildSlice ?_) | (with_reducible refine stop_app ?_) | (with_reducible refine stop_mapEntry ?_) | (with_reducible refine stop_eql (t := 28) ?_) | (with_reducible refine stop_eql (t := 40) ?_) | (with_reducible refine stop_neq (t := 28) ?_) | (with_reducible refine stop_neq (t := 40) ?_))
  refine at_out (vbox rfl ?_); intro g2 w2 n2
  simp only [Nat.reduceAdd, Nat.zero_add, Act.put, List.setIfInBounds_toArray, List.set_cons_succ, List.set_cons_zero]
  have H1 : Hid (∀ u : Sub w2, Has u.wd (some ⟨g1, 0, none⟩) (vc c s)) := fun u => has_block ((n2.k.trans_nb u.k).nb n1.blk)
  have H2 : Hid (∀ u : Sub w2, Has u.wd (some ⟨g2, 0, none⟩) (valsK HK c.key)) := fun u => has_block (u.k.nb n2.blk)
  have K2 := Lib.hid (n1.k.trans_nb n2.k)
  have hg1 : w.heap.size ≤ g1 := n1.ge
  clear n1 n2
  go_wp2_with (first | go_skip | (with_reducible refine stop_load (t := 27) ?_) | (with_reducible refine stop_load (t := 28) ?_) | (with_reducible refine stop_load (t := 30) ?_) | (with_reducible refine stop_load (t := 33) ?_) | (with_reducible refine stop_load (t := 35) ?_) | (with_reducible refine stop_load (t := 40) ?_) | (with_reducible refine stop_load (t := 76) ?_) | (with_reducible refine stop_load (t := 77) ?_) | (with_reducible refine stop_box (t := 27) ?_) | (with_reducible refine stop_box (t := 28) ?_) | (with_reducible refine stop_box (t := 30) ?_) | (with_reducible refine stop_box (t := 33) ?_) | (with_reducible refine stop_box (t := 35) ?_) | (with_reducible refine stop_box (t := 40) ?_) | (with_reducible refine stop_box (t := 76) ?_) | (with_reducible refine stop_box (t := 77) ?_) | (with_reducible refine stop_alloc (t := 27) ?_) | (with_reducible refine stop_alloc (t := 28) ?_) | (with_reducible refine stop_alloc (t := 30) ?_) | (with_reducible refine stop_alloc (t := 33) ?_) | (with_reducible refine stop_alloc (t := 35) ?_) | (with_reducible refine stop_alloc (t := 40) ?_) | (with_reducible refine stop_alloc (t := 76) ?_) | (with_reducible refine stop_alloc (t := 77) ?_) | (with_reducible refine stop_alloc (t := 52) ?_) | (with_reducible refine stop_alloc (t := 68) ?_) | (with_reducible refine stop_alloc (t := 72) ?_) | (with_reducible refine stop_build (t := 27) ?_) | (with_reducible refine stop_build (t := 28) ?_) | (with_reducible refine stop_build (t := 30) ?_) | (with_reducible refine stop_build (t := 33) ?_) | (with_reducible refine stop_build (t := 35) ?_) | (with_reducible refine stop_build (t := 40) ?_) | (with_reducible refine stop_build (t := 76) ?_) | (with_reducible refine stop_build (t := 77) ?_) | (with_reducible refine stop_build (t := 52) ?_) | (with_reducible refine stop_build (t := 68) ?_) | (with_reducible refine stop_store (t := 27) ?_) | (with_reducible refine stop_store (t := 28) ?_) | (with_reducible refine stop_store (t := 30) ?_) | (with_reducible refine stop_store (t := 33) ?_) | (with_reducible refine stop_store (t := 35) ?_) | (with_reducible refine stop_store (t := 40) ?_) | (with_reducible refine stop_store (t := 76) ?_) | (with_reducible refine stop_store (t := 77) ?_) | (with_reducible refine stop_store (t := 22) ?_) | (with_reducible refine stop_store (t := 31) ?_) | (with_reducible refine stop_store (t := 47) ?_) | (with_reducible refine stop_store (t := 52) ?_) | (with_reducible refine stop_store (t := 68) ?_) | (with_reducible refine stop_store (t := 72) ?_) | (with_reducible refine stop_lookup ?_) | (with_reducible refine stop_buildSlice ?_) | (with_reducible refine stop_app ?_) | (with_reducible refine stop_mapEntry ?_) | (with_reducible refine stop_eql (t := 28) ?_) | (with_reducible refine stop_eql (t := 40) ?_) | (with_reducible refine stop_neq (t := 28) ?_) | (with_reducible refine stop_neq (t := 40) ?_))
  refine at_out (wpList_val (v := .agg (vc c s).toArray) rfl (rn_loadH aggV (by rfl) (H1.out ⟨w2, Keeps.refl _ _⟩) lV) ?_)
  simp only [Nat.reduceAdd, Nat.zero_add, Act.put, List.setIfInBounds_toArray, List.set_cons_succ, List.set_cons_zero]
  go_wp2_with (first | go_skip | (with_reducible refine stop_load (t := 27) ?_) | (with_reducible refine stop_load (t := 28) ?_) | (with_reducible refine stop_load (t := 30) ?_) | (with_reducible refine stop_load (t := 33) ?_) | (with_reducible refine stop_load (t := 35) ?_) | (with_reducible refine stop_load (t := 40) ?_) | (with_reducible refine stop_load (t := 76) ?_) | (with_reducible refine stop_load (t := 77) ?_) | (with_reducible refine stop_box (t := 27) ?_) | (with_reducible refine stop_box (t := 28) ?_) | (with_reducible refine stop_box (t := 30) ?_) | (with_reducible refine stop_box (t := 33) ?_) | (with_reducible refine stop_box (t := 35) ?_) | (with_reducible refine stop_box (t := 40) ?_) | (with_reducible refine stop_box (t := 76) ?_) | (with_reducible refine stop_box (t := 77) ?_) | (with_reducible refine stop_alloc (t := 27) ?_) | (with_reducible refine stop_alloc (t := 28) ?_) | (with_reducible refine stop_alloc (t := 30) ?_) | (with_reducible refine stop_alloc (t := 33) ?_) | (with_reducible refine stop_alloc (t := 35) ?_) | (with_reducible refine stop_alloc (t := 40) ?_) | (with_reducible refine stop_alloc (t := 76) ?_) | (with_reducible refine stop_alloc (t := 77) ?_) | (with_reducible refine stop_alloc (t := 52) ?_) | (with_reducible refine stop_alloc (t := 68) ?_) | (with_reducible refine stop_alloc (t := 72) ?_) | (with_reducible refine stop_build (t := 27) ?_) | (with_reducible refine stop_build (t := 28) ?_) | (with_reducible refine stop_build (t := 30) ?_) | (with_reducible refine stop_build (t := 33) ?_) | (with_reducible refine stop_build (t := 35) ?_) | (with_reducible refine stop_build (t := 40) ?_) | (with_reducible refine stop_build (t := 76) ?_) | (with_reducible refine stop_build (t := 77) ?_) | (with_reducible refine stop_build (t := 52) ?_) | (with_reducible refine stop_build (t := 68) ?_) | (with_reducible refine stop_store (t := 27) ?_) | (with_reducible refine stop_store (t := 28) ?_) | (with_reducible refine stop_store (t := 30) ?_) | (with_reducible refine stop_store (t := 33) ?_) | (with_reducible refine stop_store (t := 35) ?_) | (with_reducible refine stop_store (t := 40) ?_) | (with_reducible refine stop_store (t := 76) ?_) | (with_reducible refine stop_store (t := 77) ?_) | (with_reducible refine stop_store (t := 22) ?_) | (with_reducible refine stop_store (t := 31) ?_) | (with_reducible refine stop_store (t := 47) ?_) | (with_reducible refine stop_store (t := 52) ?_) | (with_reducible refine stop_store (t := 68) ?_) | (with_reducible refine stop_store (t := 72) ?_) | (with_reducible refine stop_lookup ?_) | (with_reducible refine stop_buildSlice ?_) | (with_reducible refine stop_app ?_) | (with_reducible refine stop_mapEntry ?_) | (with_reducible refine stop_eql (t := 28) ?_) | (with_reducible refine stop_eql (t := 40) ?_) | (with_reducible refine stop_neq (t := 28) ?_) | (with_reducible refine stop_neq (t := 40) ?_))
  refine at_out (wpList_val (v := .agg (valsK HK c.key).toArray) rfl (rn_loadH aggH (by rfl) (H2.out ⟨w2, Keeps.refl _ _⟩) lK) ?_)
  simp only [Nat.reduceAdd, Nat.zero_add, Act.put, List.setIfInBounds_toArray, List.set_cons_succ, List.set_cons_zero]
  go_wp2_with fail
  refine (HCK.out _ K2.out).mono ?_; rintro e w3 ⟨rfl, k3⟩
  have K3 := Lib.hid (K2.out.trans_nb k3)
  have H1' : Hid (∀ u : Sub w3, Has u.wd (some ⟨g1, 0, none⟩) (vc c s)) := fun u => H1.out ⟨u.wd, k3.trans_nb u.k⟩
  have H2' : Hid (∀ u : Sub w3, Has u.wd (some ⟨g2, 0, none⟩) (valsK HK c.key)) := fun u => H2.out ⟨u.wd, k3.trans_nb u.k⟩
  clear H1 H2 K2 k3 HCK
  go_wp2
  have HS0 : Hid (Keeps Nb w3 w3.drew) := (Keeps.refl Nb w3).drew
  have kd := HS0.out.size
  obtain ⟨wx, hwx⟩ : ∃ wx, wx = w3.drew := ⟨_, rfl⟩
  refine WT.region (fun u => Keeps Nb w3 u) 12 15 [0, 1, 2, 3, 4, 6, 7, 8, 9, 5, 10, 11, 12, 13, 14] (by kernel_rfl) rfl ?_
  refine WT.take 0 (v := _) (by simp only [List.getElem?_toArray, List.getElem?_cons_succ, List.getElem?_cons_zero]; rfl) (by kernel_rfl) (by exact fun _ _ _ h => h) (by rfl) (by intro w C1; go_simp; with_reducible rfl) HS0.out ?_
  simp only [Nat.reduceAdd, Nat.zero_add, Act.put, List.setIfInBounds_toArray, List.set_cons_succ, List.set_cons_zero]
  refine WT.take 1 (v := _) (by simp only [List.getElem?_toArray, List.getElem?_cons_succ, List.getElem?_cons_zero]; rfl) (by kernel_rfl) (by exact fun _ _ _ h => h) (by rfl) (by intro w C1; go_simp; with_reducible rfl) HS0.out ?_
  simp only [Nat.reduceAdd, Nat.zero_add, Act.put, List.setIfInBounds_toArray, List.set_cons_succ, List.set_cons_zero]
  refine WT.take 2 (v := _) (by simp only [List.getElem?_toArray, List.getElem?_cons_succ, List.getElem?_cons_zero]; rfl) (by kernel_rfl) (by exact fun _ _ _ h => h) (by rfl) (by intro w C1; go_simp; with_reducible rfl) HS0.out ?_
  simp only [Nat.reduceAdd, Nat.zero_add, Act.put, List.setIfInBounds_toArray, List.set_cons_succ, List.set_cons_zero]
  refine WT.take 3 (v := _) (by simp only [List.getElem?_toArray, List.getElem?_cons_succ, List.getElem?_cons_zero]; rfl) (by kernel_rfl) (by exact fun _ _ _ h => h) (by rfl) (by intro w C1; go_simp; with_reducible rfl) HS0.out ?_
  simp only [Nat.reduceAdd, Nat.zero_add, Act.put, List.setIfInBounds_toArray, List.set_cons_succ, List.set_cons_zero]
  refine WT.take 4 (v := .slice a cs.length cp) (by simp only [List.getElem?_toArray, List.getElem?_cons_succ, List.getElem?_cons_zero]; rfl) (by kernel_rfl) (by exact fun _ _ _ h => h) (by rfl) (by intro u C1; exact rn_load1 (by kernel_rfl) (by rfl) (by rw [cell_of_block ((K3.out.trans_nb C1).nb HB.out)]; rfl)) HS0.out ?_
  simp only [Nat.reduceAdd, Nat.zero_add, Act.put, List.setIfInBounds_toArray, List.set_cons_succ, List.set_cons_zero]
  refine WT.take 6 (v := .agg (vc c s).toArray) (by simp only [List.getElem?_toArray, List.getElem?_cons_succ, List.getElem?_cons_zero]; rfl) (by kernel_rfl) (by exact fun _ _ _ h => h) (by rfl) (by intro u C1; exact rn_loadH aggV (by rfl) (H1'.out ⟨u, C1⟩) lV) HS0.out ?_
  simp only [Nat.reduceAdd, Nat.zero_add, Act.put, List.setIfInBounds_toArray, List.set_cons_succ, List.set_cons_zero]
  refine WT.take 7 (v := .agg (valsK HK c.key).toArray) (by simp only [List.getElem?_toArray, List.getElem?_cons_succ, List.getElem?_cons_zero]; rfl) (by kernel_rfl) (by exact fun _ _ _ h => h) (by rfl) (by intro u C1; exact rn_loadH aggH (by rfl) (H2'.out ⟨u, C1⟩) lK) HS0.out ?_
  simp only [Nat.reduceAdd, Nat.zero_add, Act.put, List.setIfInBounds_toArray, List.set_cons_succ, List.set_cons_zero]
  refine WT.take 8 (v := _) (by simp only [List.getElem?_toArray, List.getElem?_cons_succ, List.getElem?_cons_zero]; rfl) (by kernel_rfl) (by exact fun _ _ _ h => h) (by rfl) (by intro w C1; go_simp; with_reducible rfl) HS0.out ?_
  simp only [Nat.reduceAdd, Nat.zero_add, Act.put, List.setIfInBounds_toArray, List.set_cons_succ, List.set_cons_zero]
  refine WT.take 9 (v := .agg (sc c s).toArray) (by simp only [List.getElem?_toArray, List.getElem?_cons_succ, List.getElem?_cons_zero]; rfl) (by kernel_rfl) (by exact fun _ _ _ h => h) (by rfl) (by intro u C1; exact rn_build3 (u := .agg (vc c s).toArray) (v := .agg (valsK HK c.key).toArray) (q := .int .u64 (c.stake : Nat)) stS rfl rfl rfl (by simp [Value.cells]) (by simp [Value.cells]) (by simp [Value.cells]) lV lK rfl rfl rfl) HS0.out ?_
  simp only [Nat.reduceAdd, Nat.zero_add, Act.put, List.setIfInBounds_toArray, List.set_cons_succ, List.set_cons_zero]
  refine WT.forkE 5 10 [0, 1, 2, 3, 4, 6, 7, 8, 9, 10, 5, 11, 12, 13, 14] (by simp only [List.getElem?_toArray, List.getElem?_cons_succ, List.getElem?_cons_zero]; rfl) (by simp only [List.getElem?_toArray, List.getElem?_cons_succ, List.getElem?_cons_zero]; rfl) (by kernel_rfl) (by rfl) (by rfl) (re_appO (wx := w3.drew) (v := .slice none 0 0) (n := 0) (xs := []) (news := xs) E22 (Keeps.refl Nb _) (World.ownsRow_nil _ _ _ _) (by rfl) (by rfl) (HXS.out.nb (K3.out.trans_nb HS0.out)) hlx onex.out (by unfold maxLen; omega) (by omega)) (re_buildSlice1 (v := .agg (sc c s).toArray) E22 (by rfl) (by simp [Value.cells, lS]) (by omega)) ?_ ?_
  · rintro v24 wd ⟨hod, kdd⟩
    refine ⟨HS0.out.trans_nb kdd, ?_⟩
    simp only [Nat.reduceAdd, Nat.zero_add, Act.put, List.setIfInBounds_toArray, List.set_cons_succ, List.set_cons_zero]
    refine WT.onlyE 10 (by simp only [List.getElem?_toArray, List.getElem?_cons_succ, List.getElem?_cons_zero]; rfl) (by kernel_rfl) (by rfl) (re_buildSlice1 (v := .agg (sc c s).toArray) E22 (by rfl) (by simp [Value.cells, lS]) (by omega)) ?_
    rintro _ we ⟨g6, rfl, ne⟩
    have ke := kdd.trans_nb ne.k
    refine ⟨HS0.out.trans_nb ke, ?_⟩
    simp only [Nat.reduceAdd, Nat.zero_add, Act.put, List.setIfInBounds_toArray, List.set_cons_succ, List.set_cons_zero]
    have hoe := owns_keeps hod ne.k (fun _ _ e => e)
    have hge := ne.blk
    clear hod kdd ne
    refine WT.onlyE 11 (by simp only [List.getElem?_toArray, List.getElem?_cons_succ, List.getElem?_cons_zero]; rfl) (by kernel_rfl) (by rfl) (re_appO (news := sc c s) E22 ke hoe (by rfl) (by rfl) (has_block hge) (by simp [lS]) oneS.out (by unfold maxLen; omega) (by omega)) ?_
    rintro v30 wf ⟨hof, kf⟩
    refine ⟨HS0.out.trans_nb kf, ?_⟩
    simp only [Nat.reduceAdd, Nat.zero_add, Act.put, List.setIfInBounds_toArray, List.set_cons_succ, List.set_cons_zero]
    rw [Nat.zero_add, List.nil_append] at hof
    obtain ⟨a', c', rfl, hc3, hc4, hhf, hbf⟩ := owns_has hof
    refine WT.stop (by kernel_rfl) ?_
    refine WP.only 12 (v := _) (by simp only [List.getElem?_toArray, List.getElem?_cons_succ, List.getElem?_cons_zero]; rfl) (by kernel_rfl) (by rfl) (by go_simp; first | with_reducible rfl | exact ⟨rfl, rfl⟩) ?_
    simp only [Nat.reduceAdd, Nat.zero_add, Act.put, List.setIfInBounds_toArray, List.set_cons_succ, List.set_cons_zero]
    refine WP.only 13 (v := _) (by simp only [List.getElem?_toArray, List.getElem?_cons_succ, List.getElem?_cons_zero]; rfl) (by kernel_rfl) (by rfl) (by go_simp; first | with_reducible rfl | exact ⟨rfl, rfl⟩) ?_
    simp only [Nat.reduceAdd, Nat.zero_add, Act.put, List.setIfInBounds_toArray, List.set_cons_succ, List.set_cons_zero]
    have Kf := Lib.hid (K3.out.trans_nb (HS0.out.trans_nb kf))
    refine WP.onlySkipE 14 (by simp only [List.getElem?_toArray, List.getElem?_cons_succ, List.getElem?_cons_zero]; rfl) (by kernel_rfl) (by rfl) (re_store (v := .slice a' (cs.length + 1) c') (n := 1) (by kernel_rfl) (by rfl) (by rfl) (Kf.out.nb HB.out) (by rfl) (by simp) (by simp [Value.cells, Value.oneCell'])) ?_
    intro wg sg
    rw [show splice #[.slice a cs.length cp] (Value.slice a' (cs.length + 1) c').cells 0 = #[.slice a' (cs.length + 1) c'] from rfl] at sg
    simp only [Nat.reduceAdd, Nat.zero_add, Act.put, List.setIfInBounds_toArray, List.set_cons_succ, List.set_cons_zero]
    refine WP.done (by kernel_rfl) ?_
    have kz := Kf.out.size
    have kz3 := K3.out.size
    have kg := sg.k
    have kgz := kg.size
    have KQ : Keeps (· = q) w wg := Kf.out.of_nb.trans kg (fun i _ e => e)
    have hap' : ∀ k, R k ∨ R' k → ¬ k = q := fun k hk e => by subst e; exact hk.elim hap hq
    have hRef : RefAt wg q (fun k => (R k ∨ R' k) ∨ (w3.heap.size ≤ k ∧ k < wg.heap.size)) (cs ++ [c]) := by
      refine ⟨⟨a', c', by rw [List.length_append]; exact sg.blk, by rw [List.length_append], by rw [List.length_append]; exact hc3, hc4, fun k hk => ?_, xs ++ sc c s, ?_, ?_, fun b o e _ => ?_⟩, HGOOD.out, by rw [List.length_append, List.length_singleton]; omega, fun hk => ?_⟩
      · rcases hk with (hk | hk) | hk
        · have := HR.out k hk; omega
        · have := HLT.out k hk; omega
        · exact hk.2
      · exact hhf.keeps kg (fun b o e _ h => by have := (hbf b o e).2.2.1; omega)
      · exact ((((HVO.out.keeps Kf.out (fun _ _ e => e)).keeps kg (fun k hr e => hap' k (.inl hr) e)).mono (fun k h => .inl (.inl h))).snoc (((HS.out.keeps Kf.out (fun _ _ e => e)).keeps kg (fun k hr e => hap' k (.inr hr) e)).mono (fun k h => .inl (.inr h))))
      · have := hbf b o e; exact .inr ⟨by omega, by omega⟩
      · rcases hk with hk | hk
        · exact hap' q hk rfl
        · omega
    have hvg : Has wg (some ⟨g1, 0, none⟩) (vc c s) := (H1'.out ⟨wf, HS0.out.trans_nb kf⟩).keeps kg (fun b o e _ h => by cases e; omega)
    have RW := Lib.hid (fun (w' : World) (hk : Keeps Nb wg w') => refWeight_at q _ (cs ++ [c]) c.link w' (hRef.nb hk) HC.out.link)
    have HREF := Lib.hid hRef; have HKQ := Lib.hid KQ
    have CL := Lib.hid (fun w' => refLinkOf_at c s w' HC.out)
    clear hRef KQ kg sg Kf hof hbf hhf kf ke hoe hge hap'
    go_wp2_with (first | go_skip | (with_reducible refine stop_load (t := 27) ?_) | (with_reducible refine stop_load (t := 28) ?_) | (with_reducible refine stop_load (t := 30) ?_) | (with_reducible refine stop_load (t := 33) ?_) | (with_reducible refine stop_load (t := 35) ?_) | (with_reducible refine stop_load (t := 40) ?_) | (with_reducible refine stop_load (t := 76) ?_) | (with_reducible refine stop_load (t := 77) ?_) | (with_reducible refine stop_box (t := 27) ?_) | (with_reducible refine stop_box (t := 28) ?_) | (with_reducible refine stop_box (t := 30) ?_) | (with_reducible refine stop_box (t := 33) ?_) | (with_reducible refine stop_box (t := 35) ?_) | (with_reducible refine stop_box (t := 40) ?_) | (with_reducible refine stop_box (t := 76) ?_) | (with_reducible refine stop_box (t := 77) ?_) | (with_reducible refine stop_alloc (t := 27) ?_) | (with_reducible refine stop_alloc (t := 28) ?_) | (with_reducible refine stop_alloc (t := 30) ?_) | (with_reducible refine stop_alloc (t := 33) ?_) | (with_reducible refine stop_alloc (t := 35) ?_) | (with_reducible refine stop_alloc (t := 40) ?_) | (with_reducible refine stop_alloc (t := 76) ?_) | (with_reducible refine stop_alloc (t := 77) ?_) | (with_reducible refine stop_alloc (t := 52) ?_) | (with_reducible refine stop_alloc (t := 68) ?_) | (with_reducible refine stop_alloc (t := 72) ?_) | (with_reducible refine stop_build (t := 27) ?_) | (with_reducible refine stop_build (t := 28) ?_) | (with_reducible refine stop_build (t := 30) ?_) | (with_reducible refine stop_build (t := 33) ?_) | (with_reducible refine stop_build (t := 35) ?_) | (with_reducible refine stop_build (t := 40) ?_) | (with_reducible refine stop_build (t := 76) ?_) | (with_reducible refine stop_build (t := 77) ?_) | (with_reducible refine stop_build (t := 52) ?_) | (with_reducible refine stop_build (t := 68) ?_) | (with_reducible refine stop_store (t := 27) ?_) | (with_reducible refine stop_store (t := 28) ?_) | (with_reducible refine stop_store (t := 30) ?_) | (with_reducible refine stop_store (t := 33) ?_) | (with_reducible refine stop_store (t := 35) ?_) | (with_reducible refine stop_store (t := 40) ?_) | (with_reducible refine stop_store (t := 76) ?_) | (with_reducible refine stop_store (t := 77) ?_) | (with_reducible refine stop_store (t := 22) ?_) | (with_reducible refine stop_store (t := 31) ?_) | (with_reducible refine stop_store (t := 47) ?_) | (with_reducible refine stop_store (t := 52) ?_) | (with_reducible refine stop_store (t := 68) ?_) | (with_reducible refine stop_store (t := 72) ?_) | (with_reducible refine stop_lookup ?_) | (with_reducible refine stop_buildSlice ?_) | (with_reducible refine stop_app ?_) | (with_reducible refine stop_mapEntry ?_) | (with_reducible refine stop_eql (t := 28) ?_) | (with_reducible refine stop_eql (t := 40) ?_) | (with_reducible refine stop_neq (t := 28) ?_) | (with_reducible refine stop_neq (t := 40) ?_))
    refine at_out (wpList_val (v := .agg (vc c s).toArray) rfl (rn_loadH aggV (by rfl) hvg lV) ?_)
    simp only [Nat.reduceAdd, Nat.zero_add, Act.put, List.setIfInBounds_toArray, List.set_cons_succ, List.set_cons_zero]
    go_wp2_with fail
    refine (CL.out _).mono ?_; rintro e w8 ⟨rfl, k8⟩
    go_wp2_with fail
    refine (RW.out _ k8).mono ?_; rintro e w9 ⟨rfl, k9⟩
    go_wp2
    go_ret2
    exact ⟨rfl, ⟨_, HREF.out.nb (k8.trans_nb k9), fun k hk => hk.imp id (fun h => by omega)⟩, HKQ.out.trans_nb (k8.trans_nb k9)⟩
  · rintro _ wd ⟨g6, rfl, nd⟩
    refine ⟨HS0.out.trans_nb nd.k, ?_⟩
    simp only [Nat.reduceAdd, Nat.zero_add, Act.put, List.setIfInBounds_toArray, List.set_cons_succ, List.set_cons_zero]
    refine WT.onlyE 5 (by simp only [List.getElem?_toArray, List.getElem?_cons_succ, List.getElem?_cons_zero]; rfl) (by kernel_rfl) (by rfl) (re_appO (wx := wd) (v := .slice none 0 0) (n := 0) (xs := []) (news := xs) E22 (Keeps.refl Nb wd) (World.ownsRow_nil _ _ _ _) (by rfl) (by rfl) (HXS.out.nb (K3.out.trans_nb (HS0.out.trans_nb nd.k))) hlx onex.out (by unfold maxLen; omega) (by omega)) ?_
    rintro v24 we ⟨hoe', ke'⟩
    have ke := nd.k.trans_nb ke'
    refine ⟨HS0.out.trans_nb ke, ?_⟩
    simp only [Nat.reduceAdd, Nat.zero_add, Act.put, List.setIfInBounds_toArray, List.set_cons_succ, List.set_cons_zero]
    have hoe := owns_mono hoe' nd.k.size
    have hge := ke'.nb nd.blk
    clear nd hoe' ke'
    refine WT.onlyE 11 (by simp only [List.getElem?_toArray, List.getElem?_cons_succ, List.getElem?_cons_zero]; rfl) (by kernel_rfl) (by rfl) (re_appO (news := sc c s) E22 ke hoe (by rfl) (by rfl) (has_block hge) (by simp [lS]) oneS.out (by unfold maxLen; omega) (by omega)) ?_
    rintro v30 wf ⟨hof, kf⟩
    refine ⟨HS0.out.trans_nb kf, ?_⟩
    simp only [Nat.reduceAdd, Nat.zero_add, Act.put, List.setIfInBounds_toArray, List.set_cons_succ, List.set_cons_zero]
    rw [Nat.zero_add, List.nil_append] at hof
    obtain ⟨a', c', rfl, hc3, hc4, hhf, hbf⟩ := owns_has hof
    refine WT.stop (by kernel_rfl) ?_
    refine WP.only 12 (v := _) (by simp only [List.getElem?_toArray, List.getElem?_cons_succ, List.getElem?_cons_zero]; rfl) (by kernel_rfl) (by rfl) (by go_simp; first | with_reducible rfl | exact ⟨rfl, rfl⟩) ?_
    simp only [Nat.reduceAdd, Nat.zero_add, Act.put, List.setIfInBounds_toArray, List.set_cons_succ, List.set_cons_zero]
    refine WP.only 13 (v := _) (by simp only [List.getElem?_toArray, List.getElem?_cons_succ, List.getElem?_cons_zero]; rfl) (by kernel_rfl) (by rfl) (by go_simp; first | with_reducible rfl | exact ⟨rfl, rfl⟩) ?_
    simp only [Nat.reduceAdd, Nat.zero_add, Act.put, List.setIfInBounds_toArray, List.set_cons_succ, List.set_cons_zero]
    have Kf := Lib.hid (K3.out.trans_nb (HS0.out.trans_nb kf))
    refine WP.onlySkipE 14 (by simp only [List.getElem?_toArray, List.getElem?_cons_succ, List.getElem?_cons_zero]; rfl) (by kernel_rfl) (by rfl) (re_store (v := .slice a' (cs.length + 1) c') (n := 1) (by kernel_rfl) (by rfl) (by rfl) (Kf.out.nb HB.out) (by rfl) (by simp) (by simp [Value.cells, Value.oneCell'])) ?_
    intro wg sg
    rw [show splice #[.slice a cs.length cp] (Value.slice a' (cs.length + 1) c').cells 0 = #[.slice a' (cs.length + 1) c'] from rfl] at sg
    simp only [Nat.reduceAdd, Nat.zero_add, Act.put, List.setIfInBounds_toArray, List.set_cons_succ, List.set_cons_zero]
    refine WP.done (by kernel_rfl) ?_
    have kz := Kf.out.size
    have kz3 := K3.out.size
    have kg := sg.k
    have kgz := kg.size
    have KQ : Keeps (· = q) w wg := Kf.out.of_nb.trans kg (fun i _ e => e)
    have hap' : ∀ k, R k ∨ R' k → ¬ k = q := fun k hk e => by subst e; exact hk.elim hap hq
    have hRef : RefAt wg q (fun k => (R k ∨ R' k) ∨ (w3.heap.size ≤ k ∧ k < wg.heap.size)) (cs ++ [c]) := by
      refine ⟨⟨a', c', by rw [List.length_append]; exact sg.blk, by rw [List.length_append], by rw [List.length_append]; exact hc3, hc4, fun k hk => ?_, xs ++ sc c s, ?_, ?_, fun b o e _ => ?_⟩, HGOOD.out, by rw [List.length_append, List.length_singleton]; omega, fun hk => ?_⟩
      · rcases hk with (hk | hk) | hk
        · have := HR.out k hk; omega
        · have := HLT.out k hk; omega
        · exact hk.2
      · exact hhf.keeps kg (fun b o e _ h => by have := (hbf b o e).2.2.1; omega)
      · exact ((((HVO.out.keeps Kf.out (fun _ _ e => e)).keeps kg (fun k hr e => hap' k (.inl hr) e)).mono (fun k h => .inl (.inl h))).snoc (((HS.out.keeps Kf.out (fun _ _ e => e)).keeps kg (fun k hr e => hap' k (.inr hr) e)).mono (fun k h => .inl (.inr h))))
      · have := hbf b o e; exact .inr ⟨by omega, by omega⟩
      · rcases hk with hk | hk
        · exact hap' q hk rfl
        · omega
    have hvg : Has wg (some ⟨g1, 0, none⟩) (vc c s) := (H1'.out ⟨wf, HS0.out.trans_nb kf⟩).keeps kg (fun b o e _ h => by cases e; omega)
    have RW := Lib.hid (fun (w' : World) (hk : Keeps Nb wg w') => refWeight_at q _ (cs ++ [c]) c.link w' (hRef.nb hk) HC.out.link)
    have HREF := Lib.hid hRef; have HKQ := Lib.hid KQ
    have CL := Lib.hid (fun w' => refLinkOf_at c s w' HC.out)
    clear hRef KQ kg sg Kf hof hbf hhf kf ke hoe hge hap'
    go_wp2_with (first | go_skip | (with_reducible refine stop_load (t := 27) ?_) | (with_reducible refine stop_load (t := 28) ?_) | (with_reducible refine stop_load (t := 30) ?_) | (with_reducible refine stop_load (t := 33) ?_) | (with_reducible refine stop_load (t := 35) ?_) | (with_reducible refine stop_load (t := 40) ?_) | (with_reducible refine stop_load (t := 76) ?_) | (with_reducible refine stop_load (t := 77) ?_) | (with_reducible refine stop_box (t := 27) ?_) | (with_reducible refine stop_box (t := 28) ?_) | (with_reducible refine stop_box (t := 30) ?_) | (with_reducible refine stop_box (t := 33) ?_) | (with_reducible refine stop_box (t := 35) ?_) | (with_reducible refine stop_box (t := 40) ?_) | (with_reducible refine stop_box (t := 76) ?_) | (with_reducible refine stop_box (t := 77) ?_) | (with_reducible refine stop_alloc (t := 27) ?_) | (with_reducible refine stop_alloc (t := 28) ?_) | (with_reducible refine stop_alloc (t := 30) ?_) | (with_reducible refine stop_alloc (t := 33) ?_) | (with_reducible refine stop_alloc (t := 35) ?_) | (with_reducible refine stop_alloc (t := 40) ?_) | (with_reducible refine stop_alloc (t := 76) ?_) | (with_reducible refine stop_alloc (t := 77) ?_) | (with_reducible refine stop_alloc (t := 52) ?_) | (with_reducible refine stop_alloc (t := 68) ?_) | (with_reducible refine stop_alloc (t := 72) ?_) | (with_reducible refine stop_build (t := 27) ?_) | (with_reducible refine stop_build (t := 28) ?_) | (with_reducible refine stop_build (t := 30) ?_) | (with_reducible refine stop_build (t := 33) ?_) | (with_reducible refine stop_build (t := 35) ?_) | (with_reducible refine stop_build (t := 40) ?_) | (with_reducible refine stop_build (t := 76) ?_) | (with_reducible refine stop_build (t := 77) ?_) | (with_reducible refine stop_build (t := 52) ?_) | (with_reducible refine stop_build (t := 68) ?_) | (with_reducible refine stop_store (t := 27) ?_) | (with_reducible refine stop_store (t := 28) ?_) | (with_reducible refine stop_store (t := 30) ?_) | (with_reducible refine stop_store (t := 33) ?_) | (with_reducible refine stop_store (t := 35) ?_) | (with_reducible refine stop_store (t := 40) ?_) | (with_reducible refine stop_store (t := 76) ?_) | (with_reducible refine stop_store (t := 77) ?_) | (with_reducible refine stop_store (t := 22) ?_) | (with_reducible refine stop_store (t := 31) ?_) | (with_reducible refine stop_store (t := 47) ?_) | (with_reducible refine stop_store (t := 52) ?_) | (with_reducible refine stop_store (t := 68) ?_) | (with_reducible refine stop_store (t := 72) ?_) | (with_reducible refine stop_lookup ?_) | (with_reducible refine stop_buildSlice ?_) | (with_reducible refine stop_app ?_) | (with_reducible refine stop_mapEntry ?_) | (with_reducible refine stop_eql (t := 28) ?_) | (with_reducible refine stop_eql (t := 40) ?_) | (with_reducible refine stop_neq (t := 28) ?_) | (with_reducible refine stop_neq (t := 40) ?_))
    refine at_out (wpList_val (v := .agg (vc c s).toArray) rfl (rn_loadH aggV (by rfl) hvg lV) ?_)
    simp only [Nat.reduceAdd, Nat.zero_add, Act.put, List.setIfInBounds_toArray, List.set_cons_succ, List.set_cons_zero]
    go_wp2_with fail
    refine (CL.out _).mono ?_; rintro e w8 ⟨rfl, k8⟩
    go_wp2_with fail
    refine (RW.out _ k8).mono ?_; rintro e w9 ⟨rfl, k9⟩
    go_wp2
    go_ret2
    exact ⟨rfl, ⟨_, HREF.out.nb (k8.trans_nb k9), fun k hk => hk.imp id (fun h => by omega)⟩, HKQ.out.trans_nb (k8.trans_nb k9)⟩
end Go.Proofs.Ytffnaigkdocpmac
