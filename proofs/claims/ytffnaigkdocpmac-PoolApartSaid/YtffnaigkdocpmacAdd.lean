/- Add to a pool. -/
import Derived.Test.YtffnaigkdocpmacCheck
import Derived.Test.YtffnaigkdocpmacOrd
set_option linter.unusedVariables false
set_option linter.unusedSimpArgs false
namespace Go.Proofs.Ytffnaigkdocpmac
open Go.RowKit Go.Lk Go.Pool

theorem zero72' : (Try.prog.info? 72).map (·.zero) = some (some (.agg #[.int .u64 0, .int .i64 0])) := by kernel_rfl
theorem size72 : (Try.prog.info? 72).map (·.size) = some 2 := by kernel_rfl
/-- What lies there while a vote is added. -/
structure AddSt (w wi : World) (p g1 g2 g3 : Nat) (va vl : Value) (mh mw : Nat) (A1 A2 A3 : Array Value) (F Fa Fl R : Nat → Prop) (cs : List Ct) (ls : List (List Int)) (f1 f2 : List Int → Option Value) : Prop where
  bp : wi.heap[p]? = some (.cells #[va, vl, .map (some mh), .map (some mw)] 68 (0, 0))
  b1 : wi.heap[g1]? = some (.cells A1 33 (0, 0))
  b2 : wi.heap[g2]? = some (.cells A2 28 (0, 0))
  b3 : wi.heap[g3]? = some (.cells A3 40 (0, 0))
  vr : VRow wi Fa R va cs
  lr : RowS wi Fl R 40 66 vl ls.length (ls.flatMap (valsK LK))
  m1 : MapAt MK wi mh f1
  m2 : MapAt LK wi mw f2
  k : Keeps F w wi
variable {w wi wj : World} {p g1 g2 g3 : Nat} {va vl : Value} {mh mw : Nat} {A1 A2 A3 : Array Value} {F Fa Fl R S : Nat → Prop} {cs : List Ct} {ls : List (List Int)} {f1 f2 : List Int → Option Value}
theorem AddSt.nb (h : AddSt w wi p g1 g2 g3 va vl mh mw A1 A2 A3 F Fa Fl R cs ls f1 f2) (hk : Keeps Nb wi wj) : AddSt w wj p g1 g2 g3 va vl mh mw A1 A2 A3 F Fa Fl R cs ls f1 f2 := by
  obtain ⟨a, b, c, d, e, f, g, i, j⟩ := h
  have n : ∀ {k : Nat}, ¬ Nb k := fun e => e
  exact ⟨hk.nb a, hk.nb b, hk.nb c, hk.nb d, e.keeps hk (fun _ _ _ => n) (fun _ _ => n), f.keeps hk (fun _ _ _ => n), g.keeps hk n, i.keeps hk n, j.trans_nb hk⟩

theorem MapAt.notT {ks : List IntKind} {b : Nat} {f : List Int → Option Value} {e : TypeId} (h : MapAt ks w b f) (h' : IsT w e b) : False := by
  obtain ⟨es, cl, h1, -⟩ := h
  exact h'.map h1 rfl
theorem MapAt.ne {ks : List IntKind} {b k : Nat} {f : List Int → Option Value} {cur : Array Value} {e : TypeId} {fr : Nat × Nat} (h : MapAt ks w b f) (h' : w.heap[k]? = some (.cells cur e fr)) : ¬ b = k := by
  rintro rfl; exact MapAt.notT h ⟨_, _, h'⟩
/-- A block of the call's own turns. -/
theorem AddSt.one (st : AddSt w wi p g1 g2 g3 va vl mh mw A1 A2 A3 F Fa Fl R cs ls f1 f2) {g : Nat} (hk : Keeps (· = g) wi wj) (hg : w.heap.size ≤ g) (hp : ¬ p = g) (h1 : ¬ g1 = g) (h2 : ¬ g2 = g) (h3 : ¬ g3 = g) (hFa : ∀ k, Fa k → ¬ k = g) (hFl : ∀ k, Fl k → ¬ k = g) (hR : ∀ k, R k → ¬ k = g)
    (hh : ¬ mh = g) (hw : ¬ mw = g) : AddSt w wj p g1 g2 g3 va vl mh mw A1 A2 A3 F Fa Fl R cs ls f1 f2 :=
  ⟨hk.at st.bp hp, hk.at st.b1 h1, hk.at st.b2 h2, hk.at st.b3 h3, st.vr.keeps hk (fun k h _ => h.elim (hFa k) (hR k)) hR, st.lr.keeps hk (fun k h _ => h.elim (hFl k) (hR k)), st.m1.keeps hk hh, st.m2.keeps hk hw, st.k.own hg hk⟩
theorem splice_vote {c : Ct} (hc : c.Ok) (s v : Value) : splice (vc c s).toArray #[v] 67 = (vc c v).toArray := by
  have l1 : (valsK PK c.src).length = 33 := by rw [valsK_length hc.src.length]; rfl
  have l2 : (valsK PK c.tgt).length = 33 := by rw [valsK_length hc.tgt.length]; rfl
  have e : ∀ x : Value, vc c x = (.int .i64 c.who :: (valsK PK c.src ++ valsK PK c.tgt)) ++ [x] := fun x => by simp [vc]
  have hl : (Value.int .i64 c.who :: (valsK PK c.src ++ valsK PK c.tgt)).length = 67 := by simp [l1, l2]
  unfold splice
  rw [e s, e v]
  generalize (Value.int .i64 c.who :: (valsK PK c.src ++ valsK PK c.tgt)) = Z at *
  simp [← hl]
theorem owns_readsU {base m : Nat} {a : Option Addr} {cp n : Nat} {l : List Nat} (h : w.ownsRow base 5 1 (.slice a n cp) m (l.map fun x => .int .u8 (x : Nat))) : ReadsN .u8 w a l := by
  obtain ⟨a', c', e, -, -, hh, -⟩ := owns_has h
  cases e
  rcases hh with h0 | ⟨b, off, ha, hc⟩
  · exact .inl (by simpa using h0)
  · refine .inr ⟨b, off, ha, fun i hi => hc i _ ?_⟩
    rw [List.getElem?_map, List.getElem?_eq_getElem hi, ntn_eq hi]; rfl
/-- A push onto a row of elements of type e. -/
theorem AddSt.row (st : AddSt w wi p g1 g2 g3 va vl mh mw A1 A2 A3 F Fa Fl R cs ls f1 f2) (hk : Keeps S wi wj) {e : TypeId} (hS : ∀ k, S k → F k ∧ IsT wi e k) (he : e ≠ 68) (hlt : ∀ k, F k → k < w.heap.size) (hap : ∀ k, F k → ¬ R k)
    (z1 : w.heap.size ≤ g1) (z2 : w.heap.size ≤ g2) (z3 : w.heap.size ≤ g3) :
    wj.heap[p]? = some (.cells #[va, vl, .map (some mh), .map (some mw)] 68 (0, 0)) ∧ wj.heap[g1]? = some (.cells A1 33 (0, 0)) ∧ wj.heap[g2]? = some (.cells A2 28 (0, 0)) ∧ wj.heap[g3]? = some (.cells A3 40 (0, 0)) ∧ MapAt MK wj mh f1 ∧ MapAt LK wj mw f2 ∧ Keeps F w wj ∧
      (e ≠ 35 → VRow wj Fa R va cs) ∧ (e ≠ 40 → RowS wj Fl R 40 66 vl ls.length (ls.flatMap (valsK LK))) := by
  have far : ∀ g, w.heap.size ≤ g → ¬ S g := fun g hg h => by have := hlt _ (hS _ h).1; omega
  exact ⟨hk.at st.bp (fun h => (hS _ h).2.ne ⟨_, _, st.bp⟩ he rfl), hk.at st.b1 (far _ z1), hk.at st.b2 (far _ z2), hk.at st.b3 (far _ z3), st.m1.keeps hk (fun h => MapAt.notT st.m1 (hS _ h).2), st.m2.keeps hk (fun h => MapAt.notT st.m2 (hS _ h).2),
    st.k.trans hk (fun i _ h => (hS i h).1), fun h35 => st.vr.keeps hk (fun k _ ht h => (hS k h).2.ne ht h35 rfl) (fun k hr h => hap k (hS k h).1 hr), fun h40 => st.lr.keeps hk (fun k _ ht h => (hS k h).2.ne ht h40 rfl)⟩
theorem agg72 : AggT Try.prog 72 2 := ⟨by kernel_rfl, by kernel_rfl⟩
def AddS (p g2 g3 g4 mh mw : Nat) (A2 A3 A4 : Array Value) (u : World) : Prop := (u.cell? ⟨p, 2, none⟩ = some (.map (some mh)) ∧ u.cell? ⟨p, 3, none⟩ = some (.map (some mw))) ∧ u.heap[g2]? = some (.cells A2 28 (0, 0)) ∧ u.heap[g3]? = some (.cells A3 40 (0, 0)) ∧ u.heap[g4]? = some (.cells A4 72 (0, 0))
theorem AddS.keep {g4 b : Nat} {A4 : Array Value} (h : AddS p g2 g3 g4 mh mw A2 A3 A4 wi) (hk : Keeps (· = b) wi wj) (hn : ¬ p = b ∧ ¬ g2 = b ∧ ¬ g3 = b ∧ ¬ g4 = b) : AddS p g2 g3 g4 mh mw A2 A3 A4 wj := by
  obtain ⟨⟨h1, h2⟩, h3, h4, h5⟩ := h
  exact ⟨⟨(hk.cell (p := ⟨p, 2, none⟩) (lt_of_cell h1) hn.1).trans h1, (hk.cell (p := ⟨p, 3, none⟩) (lt_of_cell h2) hn.1).trans h2⟩, hk.at h3 hn.2.1, hk.at h4 hn.2.2.1, hk.at h5 hn.2.2.2⟩
set_option maxRecDepth 100000 in
set_option maxHeartbeats 2000000 in
theorem add_yes (p : Nat) (F R R' : Nat → Prop) (cs : List Ct) (c : Ct) (s : Value) (w : World) (h : PoolAt w p F R cs) (hc : c.Ok) (hs : SigAt w R' c s) (h0 : chk cs c = 0) (h500 : cs.length < 1000) (hap' : ∀ k, R' k → ¬ F k) :
    Calls Try.prog 13 #[.pointer (some ⟨p, 0, none⟩), .agg (vc c s).toArray, kv HK c.key, .int .u64 (c.stake : Nat)] w fun e w' => e = .returned (.tuple #[.int .u64 (wt (cs ++ [c]) c.link : Nat), .int .i64 0]) ∧
      (∃ F' R', PoolAt w' p F' R' (cs ++ [c]) ∧ (∀ k, F' k → F k ∨ w.heap.size ≤ k) ∧ (∀ k, R' k → R k ∨ w.heap.size ≤ k)) ∧ Keeps F w w' := by
  have HCK := Lib.hid (fun (w' : World) (hk : Keeps Nb w w') => check_at p F R R' cs c s w' (h.nb hk) hc (hs.keeps hk (fun _ _ e => e)))
  rw [h0] at HCK
  obtain ⟨⟨va, vl, mh, mw, hb, hv, hl, hm1, hm2, hne, hFp, hFh, hFw⟩, hgood, hlen, hap, hltF, hltR⟩ := h
  have hst := hc.stake
  have hwt := wt_le (cs := cs) (B := 4294967296) (fun x hx => (hgood.lo x hx).2) c.link
  have hvs := vs_le cs c.link
  have hs2 := (chk_stake h0).2.2.1
  have hsg : c.sig.length ≤ 4096 := by have := (chk_stake h0).1; simp [may, sgB] at this; omega
  have HSig := Lib.hid hs
  have lV := vc_len hc s
  have lK : (valsK HK c.key).length = 32 := by rw [valsK_length hc.key.length]; rfl
  have lL : (valsK LK c.link).length = 66 := by rw [valsK_length hc.link.length]; rfl
  have oneL := Lib.hid (valsK_one LK c.link)
  have CL := Lib.hid (fun w' => linkOf_at c s w' hc)
  obtain ⟨z, hz0, hz1⟩ : ∃ z : Value, (Try.prog.info? 40).map (·.zero) = some (some z) ∧ z.cells.size = 66 := ⟨zL, zero40, zL_size⟩
  have HWG := Lib.hid (wF_get cs c.link)
  have HWI := Lib.hid (wF_is cs c.link)
  have KK := Lib.hid (show kv HK c.key = .agg (valsK HK c.key).toArray from rfl)
  have KL := Lib.hid (show kv LK c.link = .agg (valsK LK c.link).toArray from rfl)
  rw [KK.out] at HCK ⊢
  rw [KL.out] at CL
  generalize hVV : (vc c s) = VV at *
  have HVV := Lib.hid hVV; clear hVV
  have H0 := Lib.hid h0; clear h0 hs
  go_enter Try.func13, Try.ntmps13
  go_wp2_with (first | go_skip | (with_reducible refine stop_load (t := 27) ?_) | (with_reducible refine stop_load (t := 28) ?_) | (with_reducible refine stop_load (t := 30) ?_) | (with_reducible refine stop_load (t := 33) ?_) | (with_reducible refine stop_load (t := 35) ?_) | (with_reducible refine stop_load (t := 40) ?_) | (with_reducible refine stop_load (t := 76) ?_) | (with_reducible refine stop_load (t := 77) ?_) | (with_reducible refine stop_box (t := 27) ?_) | (with_reducible refine stop_box (t := 28) ?_) | (with_reducible refine stop_box (t := 30) ?_) | (with_reducible refine stop_box (t := 33) ?_) | (with_reducible refine stop_box (t := 35) ?_) | (with_reducible refine stop_box (t := 40) ?_) | (with_reducible refine stop_box (t := 76) ?_) | (with_reducible refine stop_box (t := 77) ?_) | (with_reducible refine stop_alloc (t := 27) ?_) | (with_reducible refine stop_alloc (t := 28) ?_) | (with_reducible refine stop_alloc (t := 30) ?_) | (with_reducible refine stop_alloc (t := 33) ?_) | (with_reducible refine stop_alloc (t := 35) ?_) | (with_reducible refine stop_alloc (t := 40) ?_) | (with_reducible refine stop_alloc (t := 76) ?_) | (with_reducible refine stop_alloc (t := 77) ?_) | (with_reducible refine stop_alloc (t := 52) ?_) | (with_reducible refine stop_alloc (t := 68) ?_) | (with_reducible refine stop_alloc (t := 72) ?_) | (with_reducible refine stop_build (t := 27) ?_) | (with_reducible refine stop_build (t := 28) ?_) | (with_reducible refine stop_build (t := 30) ?_) | (with_reducible refine stop_build (t := 33) ?_) | (with_reducible refine stop_build (t := 35) ?_) | (with_reducible refine stop_build (t := 40) ?_) | (with_reducible refine stop_build (t := 76) ?_) | (with_reducible refine stop_build (t := 77) ?_) | (with_reducible refine stop_build (t := 52) ?_) | (with_reducible refine stop_build (t := 68) ?_) | (with_reducible refine stop_store (t := 27) ?_) | (with_reducible refine stop_store (t := 28) ?_) | (with_reducible refine stop_store (t := 30) ?_) | (with_reducible refine stop_store (t := 33) ?_) | (with_reducible refine stop_store (t := 35) ?_) | (with_reducible refine stop_store (t := 40) ?_) | (with_reducible refine stop_store (t := 76) ?_) | (with_reducible refine stop_store (t := 77) ?_) | (with_reducible refine stop_store (t := 22) ?_) | (with_reducible refine stop_store (t := 31) ?_) | (with_reducible refine stop_store (t := 47) ?_) | (with_reducible refine stop_store (t := 52) ?_) | (with_reducible refine stop_store (t := 68) ?_) | (with_reducible refine stop_store (t := 72) ?_) | (with_reducible refine stop_lookup ?_) | (with_reducible refine stop_buildSlice ?_) | (with_reducible refine stop_app ?_) | (with_reducible refine stop_mapEntry ?_) | (with_reducible refine stop_eql (t := 28) ?_) | (with_reducible refine stop_eql (t := 40) ?_) | (with_reducible refine stop_neq (t := 28) ?_) | (with_reducible refine stop_neq (t := 40) ?_))
  refine at_out (vbox rfl ?_); intro g1 w1 n1
  go_wp2_with (first | go_skip | (with_reducible refine stop_load (t := 27) ?_) | (with_reducible refine stop_load (t := 28) ?_) | (with_reducible refine stop_load (t := 30) ?_) | (with_reducible refine stop_load (t := 33) ?_) | (with_reducible refine stop_load (t := 35) ?_) | (with_reducible refine stop_load (t := 40) ?_) | (with_reducible refine stop_load (t := 76) ?_) | (with_reducible refine stop_load (t := 77) ?_) | (with_reducible refine stop_box (t := 27) ?_) | (with_reducible refine stop_box (t := 28) ?_) | (with_reducible refine stop_box (t := 30) ?_) | (with_reducible refine stop_box (t := 33) ?_) | (with_reducible refine stop_box (t := 35) ?_) | (with_reducible refine stop_box (t := 40) ?_) | (with_reducible refine stop_box (t := 76) ?_) | (with_reducible refine stop_box (t := 77) ?_) | (with_reducible refine stop_alloc (t := 27) ?_) | (with_reducible refine stop_alloc (t := 28) ?_) | (with_reducible refine stop_alloc (t := 30) ?_) | (with_reducible refine stop_alloc (t := 33) ?_) | (with_reducible refine stop_alloc (t := 35) ?_) | (with_reducible refine stop_alloc (t := 40) ?_) | (with_reducible refine stop_alloc (t := 76) ?_) | (with_reducible refine stop_alloc (t := 77) ?_) | (with_reducible refine stop_alloc (t := 52) ?_) | (with_reducible refine stop_alloc (t := 68) ?_) | (with_reducible refine stop_alloc (t := 72) ?_) | (with_reducible refine stop_build (t := 27) ?_) | (with_reducible refine stop_build (t := 28) ?_) | (with_reducible refine stop_build (t := 30) ?_) | (with_reducible refine stop_build (t := 33) ?_) | (with_reducible refine stop_build (t := 35) ?_) | (with_reducible refine stop_build (t := 40) ?_) | (with_reducible refine stop_build (t := 76) ?_) | (with_reducible refine stop_build (t := 77) ?_) | (with_reducible refine stop_build (t := 52) ?_) | (with_reducible refine stop_build (t := 68) ?_) | (with_reducible refine stop_store (t := 27) ?_) | (with_reducible refine stop_store (t := 28) ?_) | (with_reducible refine stop_store (t := 30) ?_) | (with_reducible refine stop_store (t := 33) ?_) | (with_reducible refine stop_store (t := 35) ?_) | (with_reducible refine stop_store (t := 40) ?_) | (with_reducible refine stop_store (t := 76) ?_) | (with_reducible refine stop_store (t := 77) ?_) | (with_reducible refine stop_store (t := 22) ?_) | (with_reducible refine stop_store (t := 31) ?_) | (with_reducible refine stop_store (t := 47) ?_) | (with_reducible refine stop_store (t := 52) ?_) | (with_reducible refine stop_store (t := 68) ?_) | (with_reducible refine stop_store (t := 72) ?_) | (with_reducible refine stop_lookup ?_) | (with_reducible refine stop_buildSlice ?_) | (with_reducible refine stop_app ?_) | (with_reducible refine stop_mapEntry ?_) | (with_reducible refine stop_eql (t := 28) ?_) | (with_reducible refine stop_eql (t := 40) ?_) | (with_reducible refine stop_neq (t := 28) ?_) | (with_reducible refine stop_neq (t := 40) ?_))
  refine at_out (vbox rfl ?_); intro g2 w2 n2
  go_wp2_with (first | go_skip | (with_reducible refine stop_load (t := 27) ?_) | (with_reducible refine stop_load (t := 28) ?_) | (with_reducible refine stop_load (t := 30) ?_) | (with_reducible refine stop_load (t := 33) ?_) | (with_reducible refine stop_load (t := 35) ?_) | (with_reducible refine stop_load (t := 40) ?_) | (with_reducible refine stop_load (t := 76) ?_) | (with_reducible refine stop_load (t := 77) ?_) | (with_reducible refine stop_box (t := 27) ?_) | (with_reducible refine stop_box (t := 28) ?_) | (with_reducible refine stop_box (t := 30) ?_) | (with_reducible refine stop_box (t := 33) ?_) | (with_reducible refine stop_box (t := 35) ?_) | (with_reducible refine stop_box (t := 40) ?_) | (with_reducible refine stop_box (t := 76) ?_) | (with_reducible refine stop_box (t := 77) ?_) | (with_reducible refine stop_alloc (t := 27) ?_) | (with_reducible refine stop_alloc (t := 28) ?_) | (with_reducible refine stop_alloc (t := 30) ?_) | (with_reducible refine stop_alloc (t := 33) ?_) | (with_reducible refine stop_alloc (t := 35) ?_) | (with_reducible refine stop_alloc (t := 40) ?_) | (with_reducible refine stop_alloc (t := 76) ?_) | (with_reducible refine stop_alloc (t := 77) ?_) | (with_reducible refine stop_alloc (t := 52) ?_) | (with_reducible refine stop_alloc (t := 68) ?_) | (with_reducible refine stop_alloc (t := 72) ?_) | (with_reducible refine stop_build (t := 27) ?_) | (with_reducible refine stop_build (t := 28) ?_) | (with_reducible refine stop_build (t := 30) ?_) | (with_reducible refine stop_build (t := 33) ?_) | (with_reducible refine stop_build (t := 35) ?_) | (with_reducible refine stop_build (t := 40) ?_) | (with_reducible refine stop_build (t := 76) ?_) | (with_reducible refine stop_build (t := 77) ?_) | (with_reducible refine stop_build (t := 52) ?_) | (with_reducible refine stop_build (t := 68) ?_) | (with_reducible refine stop_store (t := 27) ?_) | (with_reducible refine stop_store (t := 28) ?_) | (with_reducible refine stop_store (t := 30) ?_) | (with_reducible refine stop_store (t := 33) ?_) | (with_reducible refine stop_store (t := 35) ?_) | (with_reducible refine stop_store (t := 40) ?_) | (with_reducible refine stop_store (t := 76) ?_) | (with_reducible refine stop_store (t := 77) ?_) | (with_reducible refine stop_store (t := 22) ?_) | (with_reducible refine stop_store (t := 31) ?_) | (with_reducible refine stop_store (t := 47) ?_) | (with_reducible refine stop_store (t := 52) ?_) | (with_reducible refine stop_store (t := 68) ?_) | (with_reducible refine stop_store (t := 72) ?_) | (with_reducible refine stop_lookup ?_) | (with_reducible refine stop_buildSlice ?_) | (with_reducible refine stop_app ?_) | (with_reducible refine stop_mapEntry ?_) | (with_reducible refine stop_eql (t := 28) ?_) | (with_reducible refine stop_eql (t := 40) ?_) | (with_reducible refine stop_neq (t := 28) ?_) | (with_reducible refine stop_neq (t := 40) ?_))
  refine at_out (wpList_val rfl (rn_loadH aggV rfl (has_block (n2.k.nb n1.blk)) lV) ?_)
  simp only [Nat.reduceAdd, Nat.zero_add, Act.put, List.setIfInBounds_toArray, List.set_cons_succ, List.set_cons_zero]
  go_wp2_with (first | go_skip | (with_reducible refine stop_load (t := 27) ?_) | (with_reducible refine stop_load (t := 28) ?_) | (with_reducible refine stop_load (t := 30) ?_) | (with_reducible refine stop_load (t := 33) ?_) | (with_reducible refine stop_load (t := 35) ?_) | (with_reducible refine stop_load (t := 40) ?_) | (with_reducible refine stop_load (t := 76) ?_) | (with_reducible refine stop_load (t := 77) ?_) | (with_reducible refine stop_box (t := 27) ?_) | (with_reducible refine stop_box (t := 28) ?_) | (with_reducible refine stop_box (t := 30) ?_) | (with_reducible refine stop_box (t := 33) ?_) | (with_reducible refine stop_box (t := 35) ?_) | (with_reducible refine stop_box (t := 40) ?_) | (with_reducible refine stop_box (t := 76) ?_) | (with_reducible refine stop_box (t := 77) ?_) | (with_reducible refine stop_alloc (t := 27) ?_) | (with_reducible refine stop_alloc (t := 28) ?_) | (with_reducible refine stop_alloc (t := 30) ?_) | (with_reducible refine stop_alloc (t := 33) ?_) | (with_reducible refine stop_alloc (t := 35) ?_) | (with_reducible refine stop_alloc (t := 40) ?_) | (with_reducible refine stop_alloc (t := 76) ?_) | (with_reducible refine stop_alloc (t := 77) ?_) | (with_reducible refine stop_alloc (t := 52) ?_) | (with_reducible refine stop_alloc (t := 68) ?_) | (with_reducible refine stop_alloc (t := 72) ?_) | (with_reducible refine stop_build (t := 27) ?_) | (with_reducible refine stop_build (t := 28) ?_) | (with_reducible refine stop_build (t := 30) ?_) | (with_reducible refine stop_build (t := 33) ?_) | (with_reducible refine stop_build (t := 35) ?_) | (with_reducible refine stop_build (t := 40) ?_) | (with_reducible refine stop_build (t := 76) ?_) | (with_reducible refine stop_build (t := 77) ?_) | (with_reducible refine stop_build (t := 52) ?_) | (with_reducible refine stop_build (t := 68) ?_) | (with_reducible refine stop_store (t := 27) ?_) | (with_reducible refine stop_store (t := 28) ?_) | (with_reducible refine stop_store (t := 30) ?_) | (with_reducible refine stop_store (t := 33) ?_) | (with_reducible refine stop_store (t := 35) ?_) | (with_reducible refine stop_store (t := 40) ?_) | (with_reducible refine stop_store (t := 76) ?_) | (with_reducible refine stop_store (t := 77) ?_) | (with_reducible refine stop_store (t := 22) ?_) | (with_reducible refine stop_store (t := 31) ?_) | (with_reducible refine stop_store (t := 47) ?_) | (with_reducible refine stop_store (t := 52) ?_) | (with_reducible refine stop_store (t := 68) ?_) | (with_reducible refine stop_store (t := 72) ?_) | (with_reducible refine stop_lookup ?_) | (with_reducible refine stop_buildSlice ?_) | (with_reducible refine stop_app ?_) | (with_reducible refine stop_mapEntry ?_) | (with_reducible refine stop_eql (t := 28) ?_) | (with_reducible refine stop_eql (t := 40) ?_) | (with_reducible refine stop_neq (t := 28) ?_) | (with_reducible refine stop_neq (t := 40) ?_))
  refine at_out (wpList_val rfl (rn_loadH aggH rfl (has_block n2.blk) lK) ?_)
  simp only [Nat.reduceAdd, Nat.zero_add, Act.put, List.setIfInBounds_toArray, List.set_cons_succ, List.set_cons_zero]
  go_wp2_with fail
  refine (HCK.out _ (n1.k.trans_nb n2.k)).mono ?_; rintro e w3 ⟨rfl, k3⟩
  go_wp2_with (first | go_skip | (with_reducible refine stop_load (t := 27) ?_) | (with_reducible refine stop_load (t := 28) ?_) | (with_reducible refine stop_load (t := 30) ?_) | (with_reducible refine stop_load (t := 33) ?_) | (with_reducible refine stop_load (t := 35) ?_) | (with_reducible refine stop_load (t := 40) ?_) | (with_reducible refine stop_load (t := 76) ?_) | (with_reducible refine stop_load (t := 77) ?_) | (with_reducible refine stop_box (t := 27) ?_) | (with_reducible refine stop_box (t := 28) ?_) | (with_reducible refine stop_box (t := 30) ?_) | (with_reducible refine stop_box (t := 33) ?_) | (with_reducible refine stop_box (t := 35) ?_) | (with_reducible refine stop_box (t := 40) ?_) | (with_reducible refine stop_box (t := 76) ?_) | (with_reducible refine stop_box (t := 77) ?_) | (with_reducible refine stop_alloc (t := 27) ?_) | (with_reducible refine stop_alloc (t := 28) ?_) | (with_reducible refine stop_alloc (t := 30) ?_) | (with_reducible refine stop_alloc (t := 33) ?_) | (with_reducible refine stop_alloc (t := 35) ?_) | (with_reducible refine stop_alloc (t := 40) ?_) | (with_reducible refine stop_alloc (t := 76) ?_) | (with_reducible refine stop_alloc (t := 77) ?_) | (with_reducible refine stop_alloc (t := 52) ?_) | (with_reducible refine stop_alloc (t := 68) ?_) | (with_reducible refine stop_alloc (t := 72) ?_) | (with_reducible refine stop_build (t := 27) ?_) | (with_reducible refine stop_build (t := 28) ?_) | (with_reducible refine stop_build (t := 30) ?_) | (with_reducible refine stop_build (t := 33) ?_) | (with_reducible refine stop_build (t := 35) ?_) | (with_reducible refine stop_build (t := 40) ?_) | (with_reducible refine stop_build (t := 76) ?_) | (with_reducible refine stop_build (t := 77) ?_) | (with_reducible refine stop_build (t := 52) ?_) | (with_reducible refine stop_build (t := 68) ?_) | (with_reducible refine stop_store (t := 27) ?_) | (with_reducible refine stop_store (t := 28) ?_) | (with_reducible refine stop_store (t := 30) ?_) | (with_reducible refine stop_store (t := 33) ?_) | (with_reducible refine stop_store (t := 35) ?_) | (with_reducible refine stop_store (t := 40) ?_) | (with_reducible refine stop_store (t := 76) ?_) | (with_reducible refine stop_store (t := 77) ?_) | (with_reducible refine stop_store (t := 22) ?_) | (with_reducible refine stop_store (t := 31) ?_) | (with_reducible refine stop_store (t := 47) ?_) | (with_reducible refine stop_store (t := 52) ?_) | (with_reducible refine stop_store (t := 68) ?_) | (with_reducible refine stop_store (t := 72) ?_) | (with_reducible refine stop_lookup ?_) | (with_reducible refine stop_buildSlice ?_) | (with_reducible refine stop_app ?_) | (with_reducible refine stop_mapEntry ?_) | (with_reducible refine stop_eql (t := 28) ?_) | (with_reducible refine stop_eql (t := 40) ?_) | (with_reducible refine stop_neq (t := 28) ?_) | (with_reducible refine stop_neq (t := 40) ?_))
  refine at_out (wpList_val rfl (rn_loadH aggV rfl (has_block ((n2.k.trans_nb k3).nb n1.blk)) lV) ?_)
  simp only [Nat.reduceAdd, Nat.zero_add, Act.put, List.setIfInBounds_toArray, List.set_cons_succ, List.set_cons_zero]
  go_wp2_with fail
  refine (CL.out _).mono ?_; rintro e w4 ⟨rfl, k4⟩
  go_wp2_with (first | go_skip | (with_reducible refine stop_load (t := 27) ?_) | (with_reducible refine stop_load (t := 28) ?_) | (with_reducible refine stop_load (t := 30) ?_) | (with_reducible refine stop_load (t := 33) ?_) | (with_reducible refine stop_load (t := 35) ?_) | (with_reducible refine stop_load (t := 40) ?_) | (with_reducible refine stop_load (t := 76) ?_) | (with_reducible refine stop_load (t := 77) ?_) | (with_reducible refine stop_box (t := 27) ?_) | (with_reducible refine stop_box (t := 28) ?_) | (with_reducible refine stop_box (t := 30) ?_) | (with_reducible refine stop_box (t := 33) ?_) | (with_reducible refine stop_box (t := 35) ?_) | (with_reducible refine stop_box (t := 40) ?_) | (with_reducible refine stop_box (t := 76) ?_) | (with_reducible refine stop_box (t := 77) ?_) | (with_reducible refine stop_alloc (t := 27) ?_) | (with_reducible refine stop_alloc (t := 28) ?_) | (with_reducible refine stop_alloc (t := 30) ?_) | (with_reducible refine stop_alloc (t := 33) ?_) | (with_reducible refine stop_alloc (t := 35) ?_) | (with_reducible refine stop_alloc (t := 40) ?_) | (with_reducible refine stop_alloc (t := 76) ?_) | (with_reducible refine stop_alloc (t := 77) ?_) | (with_reducible refine stop_alloc (t := 52) ?_) | (with_reducible refine stop_alloc (t := 68) ?_) | (with_reducible refine stop_alloc (t := 72) ?_) | (with_reducible refine stop_build (t := 27) ?_) | (with_reducible refine stop_build (t := 28) ?_) | (with_reducible refine stop_build (t := 30) ?_) | (with_reducible refine stop_build (t := 33) ?_) | (with_reducible refine stop_build (t := 35) ?_) | (with_reducible refine stop_build (t := 40) ?_) | (with_reducible refine stop_build (t := 76) ?_) | (with_reducible refine stop_build (t := 77) ?_) | (with_reducible refine stop_build (t := 52) ?_) | (with_reducible refine stop_build (t := 68) ?_) | (with_reducible refine stop_store (t := 27) ?_) | (with_reducible refine stop_store (t := 28) ?_) | (with_reducible refine stop_store (t := 30) ?_) | (with_reducible refine stop_store (t := 33) ?_) | (with_reducible refine stop_store (t := 35) ?_) | (with_reducible refine stop_store (t := 40) ?_) | (with_reducible refine stop_store (t := 76) ?_) | (with_reducible refine stop_store (t := 77) ?_) | (with_reducible refine stop_store (t := 22) ?_) | (with_reducible refine stop_store (t := 31) ?_) | (with_reducible refine stop_store (t := 47) ?_) | (with_reducible refine stop_store (t := 52) ?_) | (with_reducible refine stop_store (t := 68) ?_) | (with_reducible refine stop_store (t := 72) ?_) | (with_reducible refine stop_lookup ?_) | (with_reducible refine stop_buildSlice ?_) | (with_reducible refine stop_app ?_) | (with_reducible refine stop_mapEntry ?_) | (with_reducible refine stop_eql (t := 28) ?_) | (with_reducible refine stop_eql (t := 40) ?_) | (with_reducible refine stop_neq (t := 28) ?_) | (with_reducible refine stop_neq (t := 40) ?_))
  refine at_out (valloc hz0 ?_); intro g3 w5 n5
  simp only [Nat.reduceAdd, Nat.zero_add, Act.put, List.setIfInBounds_toArray, List.set_cons_succ, List.set_cons_zero]
  go_wp2_with (first | go_skip | (with_reducible refine stop_load (t := 27) ?_) | (with_reducible refine stop_load (t := 28) ?_) | (with_reducible refine stop_load (t := 30) ?_) | (with_reducible refine stop_load (t := 33) ?_) | (with_reducible refine stop_load (t := 35) ?_) | (with_reducible refine stop_load (t := 40) ?_) | (with_reducible refine stop_load (t := 76) ?_) | (with_reducible refine stop_load (t := 77) ?_) | (with_reducible refine stop_box (t := 27) ?_) | (with_reducible refine stop_box (t := 28) ?_) | (with_reducible refine stop_box (t := 30) ?_) | (with_reducible refine stop_box (t := 33) ?_) | (with_reducible refine stop_box (t := 35) ?_) | (with_reducible refine stop_box (t := 40) ?_) | (with_reducible refine stop_box (t := 76) ?_) | (with_reducible refine stop_box (t := 77) ?_) | (with_reducible refine stop_alloc (t := 27) ?_) | (with_reducible refine stop_alloc (t := 28) ?_) | (with_reducible refine stop_alloc (t := 30) ?_) | (with_reducible refine stop_alloc (t := 33) ?_) | (with_reducible refine stop_alloc (t := 35) ?_) | (with_reducible refine stop_alloc (t := 40) ?_) | (with_reducible refine stop_alloc (t := 76) ?_) | (with_reducible refine stop_alloc (t := 77) ?_) | (with_reducible refine stop_alloc (t := 52) ?_) | (with_reducible refine stop_alloc (t := 68) ?_) | (with_reducible refine stop_alloc (t := 72) ?_) | (with_reducible refine stop_build (t := 27) ?_) | (with_reducible refine stop_build (t := 28) ?_) | (with_reducible refine stop_build (t := 30) ?_) | (with_reducible refine stop_build (t := 33) ?_) | (with_reducible refine stop_build (t := 35) ?_) | (with_reducible refine stop_build (t := 40) ?_) | (with_reducible refine stop_build (t := 76) ?_) | (with_reducible refine stop_build (t := 77) ?_) | (with_reducible refine stop_build (t := 52) ?_) | (with_reducible refine stop_build (t := 68) ?_) | (with_reducible refine stop_store (t := 27) ?_) | (with_reducible refine stop_store (t := 28) ?_) | (with_reducible refine stop_store (t := 30) ?_) | (with_reducible refine stop_store (t := 33) ?_) | (with_reducible refine stop_store (t := 35) ?_) | (with_reducible refine stop_store (t := 40) ?_) | (with_reducible refine stop_store (t := 76) ?_) | (with_reducible refine stop_store (t := 77) ?_) | (with_reducible refine stop_store (t := 22) ?_) | (with_reducible refine stop_store (t := 31) ?_) | (with_reducible refine stop_store (t := 47) ?_) | (with_reducible refine stop_store (t := 52) ?_) | (with_reducible refine stop_store (t := 68) ?_) | (with_reducible refine stop_store (t := 72) ?_) | (with_reducible refine stop_lookup ?_) | (with_reducible refine stop_buildSlice ?_) | (with_reducible refine stop_app ?_) | (with_reducible refine stop_mapEntry ?_) | (with_reducible refine stop_eql (t := 28) ?_) | (with_reducible refine stop_eql (t := 40) ?_) | (with_reducible refine stop_neq (t := 28) ?_) | (with_reducible refine stop_neq (t := 40) ?_))
  refine at_out (vstoreAll aggL rfl rfl n5.blk (by simp [lL]) hz1 oneL.out ?_); intro w6 s6
  simp only [Nat.reduceAdd, Nat.zero_add, Act.put, List.setIfInBounds_toArray, List.set_cons_succ, List.set_cons_zero]
  have K6 : Keeps Nb w w6 := (((n1.k.trans_nb n2.k).trans_nb (k3.trans_nb k4)).trans_nb n5.k).own (k := g3) (Nat.le_trans ((n1.k.trans_nb n2.k).trans_nb (k3.trans_nb k4)).size n5.ge) s6.k
  have e13 : ¬ g1 = g3 := by have := n1.lt; have := (n2.k.trans_nb (k3.trans_nb k4)).size; have := n5.ge; omega
  have e23 : ¬ g2 = g3 := by have := n2.lt; have := (k3.trans_nb k4).size; have := n5.ge; omega
  have e12 : ¬ g1 = g2 := by have := n1.lt; have := n2.ge; omega
  have z1 : w.heap.size ≤ g1 := n1.ge
  have z2 : w.heap.size ≤ g2 := Nat.le_trans n1.k.size n2.ge
  have z3 : w.heap.size ≤ g3 := Nat.le_trans ((n1.k.trans_nb n2.k).trans_nb (k3.trans_nb k4)).size n5.ge
  have n : ∀ {k : Nat}, ¬ Nb k := fun e => e
  have st6 : AddSt w w6 p g1 g2 g3 va vl mh mw VV.toArray (valsK HK c.key).toArray (valsK LK c.link).toArray F F F R cs (lks cs) (hasF cs) (wF cs) :=
    ⟨K6.nb hb, s6.k.at (((n2.k.trans_nb (k3.trans_nb k4)).trans_nb n5.k).nb n1.blk) e13, s6.k.at (((k3.trans_nb k4).trans_nb n5.k).nb n2.blk) e23, s6.blk, hv.keeps K6 (fun _ _ _ => n) (fun _ _ => n),
      hl.keeps K6 (fun _ _ _ => n), hm1.keeps K6 n, hm2.keeps K6 n, K6.of_nb⟩
  clear n1 n2 n5 k3 k4 s6 hb hv hl hm1 hm2 HCK CL
  go_wp2
  have hp3 : w6.cell? ⟨p, 3, none⟩ = some (.map (some mw)) := by rw [cell_of_block st6.bp]; rfl
  have HS : Hid ((fun u : World => u.cell? ⟨p, 3, none⟩ = some (.map (some mw)) ∧ Keeps Nb w6 u) w6.drew) := ⟨hp3, (Keeps.refl Nb w6).drew⟩
  refine WT.region (fun u : World => u.cell? ⟨p, 3, none⟩ = some (.map (some mw)) ∧ Keeps Nb w6 u) 12 12 [0, 1, 2, 3, 4, 5, 6, 7, 8, 9, 10, 11] (by kernel_rfl) rfl ?_
  refine WT.take 0 (v := _) (by simp only [List.getElem?_toArray, List.getElem?_cons_succ, List.getElem?_cons_zero]; rfl) (by kernel_rfl) (by exact fun _ _ _ h => h) (by rfl) (by rintro w ⟨C1, C2⟩; go_simp; with_reducible rfl) HS.out ?_
  simp only [Nat.reduceAdd, Nat.zero_add, Act.put, List.setIfInBounds_toArray, List.set_cons_succ, List.set_cons_zero]
  refine WT.take 1 (v := _) (by simp only [List.getElem?_toArray, List.getElem?_cons_succ, List.getElem?_cons_zero]; rfl) (by kernel_rfl) (by exact fun _ _ _ h => h) (by rfl) (by rintro w ⟨C1, C2⟩; go_simp; with_reducible rfl) HS.out ?_
  simp only [Nat.reduceAdd, Nat.zero_add, Act.put, List.setIfInBounds_toArray, List.set_cons_succ, List.set_cons_zero]
  refine WT.take 2 (v := _) (by simp only [List.getElem?_toArray, List.getElem?_cons_succ, List.getElem?_cons_zero]; rfl) (by kernel_rfl) (by exact fun _ _ _ h => h) (by rfl) (by rintro w ⟨C1, C2⟩; go_simp; with_reducible rfl) HS.out ?_
  simp only [Nat.reduceAdd, Nat.zero_add, Act.put, List.setIfInBounds_toArray, List.set_cons_succ, List.set_cons_zero]
  refine WT.take 3 (v := _) (by simp only [List.getElem?_toArray, List.getElem?_cons_succ, List.getElem?_cons_zero]; rfl) (by kernel_rfl) (by exact fun _ _ _ h => h) (by rfl) (by rintro w ⟨C1, C2⟩; go_simp; with_reducible rfl) HS.out ?_
  simp only [Nat.reduceAdd, Nat.zero_add, Act.put, List.setIfInBounds_toArray, List.set_cons_succ, List.set_cons_zero]
  refine WT.take 4 (v := kv LK c.link) (by simp only [List.getElem?_toArray, List.getElem?_cons_succ, List.getElem?_cons_zero]; rfl) (by kernel_rfl) (by exact fun _ _ _ h => h) (by rfl) (by rintro w ⟨C1, C2⟩; exact rn_loadH aggL rfl (has_block (C2.nb st6.b3)) lL) HS.out ?_
  simp only [Nat.reduceAdd, Nat.zero_add, Act.put, List.setIfInBounds_toArray, List.set_cons_succ, List.set_cons_zero]
  refine WT.take 5 (v := .tuple #[.agg #[.int .u64 (wt cs c.link : Nat), .int .i64 (vs cs c.link : Nat)], .bool (decide (c.link ∈ lks cs))]) (by simp only [List.getElem?_toArray, List.getElem?_cons_succ, List.getElem?_cons_zero]; rfl) (by kernel_rfl) (by exact fun _ _ _ h => h) (by rfl) (by
    rintro w ⟨C1, C2⟩
    exact (rn_lookup (c := true) (st6.m2.keeps C2 n) keyL Try.underlying66 (zero72 _) rfl rfl hc.link).trans (by rw [if_pos rfl, HWG.out, HWI.out])) HS.out ?_
  simp only [Nat.reduceAdd, Nat.zero_add, Act.put, List.setIfInBounds_toArray, List.set_cons_succ, List.set_cons_zero]
  refine WT.take 6 (v := _) (by simp only [List.getElem?_toArray, List.getElem?_cons_succ, List.getElem?_cons_zero]; rfl) (by kernel_rfl) (by exact fun _ _ _ h => h) (by rfl) (by rintro w ⟨C1, C2⟩; go_simp; with_reducible rfl) HS.out ?_
  simp only [Nat.reduceAdd, Nat.zero_add, Act.put, List.setIfInBounds_toArray, List.set_cons_succ, List.set_cons_zero]
  refine WT.take 7 (v := _) (by simp only [List.getElem?_toArray, List.getElem?_cons_succ, List.getElem?_cons_zero]; rfl) (by kernel_rfl) (by exact fun _ _ _ h => h) (by rfl) (by rintro w ⟨C1, C2⟩; go_simp; with_reducible rfl) HS.out ?_
  simp only [Nat.reduceAdd, Nat.zero_add, Act.put, List.setIfInBounds_toArray, List.set_cons_succ, List.set_cons_zero]
  refine WT.take 8 (v := _) (by simp only [List.getElem?_toArray, List.getElem?_cons_succ, List.getElem?_cons_zero]; rfl) (by kernel_rfl) (by exact fun _ _ _ h => h) (by rfl) (by rintro w ⟨C1, C2⟩; go_simp; with_reducible rfl) HS.out ?_
  simp only [Nat.reduceAdd, Nat.zero_add, Act.put, List.setIfInBounds_toArray, List.set_cons_succ, List.set_cons_zero]
  refine WT.onlyE 9 (by simp only [List.getElem?_toArray, List.getElem?_cons_succ, List.getElem?_cons_zero]; rfl) (by kernel_rfl) (by rfl) (re_alloc zero72') ?_
  rintro _ w7 ⟨g4, rfl, n7⟩
  have K7 : Keeps Nb w6 w7 := (Keeps.refl Nb w6).drew.trans_nb n7.k
  have st7 := st6.nb K7
  have hp3' : w7.cell? ⟨p, 3, none⟩ = some (.map (some mw)) := by rw [cell_of_block st7.bp]; rfl
  have HS2 : Hid ((fun u : World => u.cell? ⟨p, 3, none⟩ = some (.map (some mw)) ∧ Keeps Nb w6 u) w7) := ⟨hp3', K7⟩
  refine ⟨HS2.out, ?_⟩
  simp only [Nat.reduceAdd, Nat.zero_add, Act.put, List.setIfInBounds_toArray, List.set_cons_succ, List.set_cons_zero]
  have n7b : w7.heap[g4]? = some (.cells #[.int .u64 0, .int .i64 0] 72 (0, 0)) := n7.blk
  refine WT.onlySkipE 10 (by simp only [List.getElem?_toArray, List.getElem?_cons_succ, List.getElem?_cons_zero]; rfl) (by kernel_rfl) (by rfl) (re_store (v := .agg #[.int .u64 (wt cs c.link : Nat), .int .i64 (vs cs c.link : Nat)]) (n := 2) size72 (by rfl) (by rfl) n7b (by rfl) (by simp) (by simp [Value.cells, Value.oneCell'])) ?_
  intro w8 s8
  have z4 : w.heap.size ≤ g4 := Nat.le_trans K6.size n7.ge
  have e46 : w6.heap.size ≤ g4 := n7.ge
  have K8 : Keeps Nb w6 w8 := K7.own (k := g4) e46 s8.k
  have st8 := st6.nb K8
  have hp8 : w8.cell? ⟨p, 3, none⟩ = some (.map (some mw)) := by rw [cell_of_block st8.bp]; rfl
  have HS3 : Hid ((fun u : World => u.cell? ⟨p, 3, none⟩ = some (.map (some mw)) ∧ Keeps Nb w6 u) w8) := ⟨hp8, K8⟩
  refine ⟨HS3.out, ?_⟩
  simp only [Nat.reduceAdd, Nat.zero_add, Act.put, List.setIfInBounds_toArray, List.set_cons_succ, List.set_cons_zero]
  refine WT.take 11 (v := .bool (decide (c.link ∈ lks cs))) (by simp only [List.getElem?_toArray, List.getElem?_cons_succ, List.getElem?_cons_zero]; rfl) (by kernel_rfl) (by exact fun _ _ _ h => h) (by rfl) (by rintro w ⟨C1, C2⟩; go_simp) HS3.out ?_
  simp only [Nat.reduceAdd, Nat.zero_add, Act.put, List.setIfInBounds_toArray, List.set_cons_succ, List.set_cons_zero]
  refine WT.stop (by kernel_rfl) (WP.done (by kernel_rfl) ?_)
  have s8b : w8.heap[g4]? = some (.cells #[.int .u64 (wt cs c.link : Nat), .int .i64 (vs cs c.link : Nat)] 72 (0, 0)) := s8.blk
  have e14 : g1 < w6.heap.size := lt_of_block st6.b1
  have e24 : g2 < w6.heap.size := lt_of_block st6.b2
  have e34 : g3 < w6.heap.size := lt_of_block st6.b3
  have e48 : g4 < w8.heap.size := lt_of_block s8b
  have K68 := K8.size
  clear HS HS2 HS3 n7 n7b s8 K7 st7 st6 hp3 hp3' hp8
  have hn : ∀ k, F k → k < w.heap.size := hltF
  have eL : (lks cs).flatMap (valsK LK) ++ valsK LK c.link = (lks cs ++ [c.link]).flatMap (valsK LK) := by simp
  have wp68 : IsT w8 68 p := ⟨_, _, st8.bp⟩
  cases hin : decide (c.link ∈ lks cs)
  · have hnin : ¬ c.link ∈ lks cs := by simpa using hin
    have eLks : lks (cs ++ [c]) = lks cs ++ [c.link] := by rw [lks_snoc, addL, if_neg hnin]
    go_wp2
    have hp1 : w8.cell? ⟨p, 1, none⟩ = some vl := by rw [cell_of_block st8.bp]; rfl
    have hl3 : ((lks cs).length + 1) * 80 ≤ 140737488355328 := by have := lks_len cs; omega
    have HS : Hid ((fun u : World => u.cell? ⟨p, 1, none⟩ = some vl ∧ u.heap[g3]? = some (.cells (valsK LK c.link).toArray 40 (0, 0))) w8.drew) := ⟨hp1, st8.b3⟩
    refine WT.region (fun u : World => u.cell? ⟨p, 1, none⟩ = some vl ∧ u.heap[g3]? = some (.cells (valsK LK c.link).toArray 40 (0, 0))) 8 11 [0, 1, 2, 3, 4, 5, 6, 7, 8, 9, 10] (by kernel_rfl) rfl ?_
    refine WT.take 0 (v := _) (by simp only [List.getElem?_toArray, List.getElem?_cons_succ, List.getElem?_cons_zero]; rfl) (by kernel_rfl) (by exact fun _ _ _ h => h) (by rfl) (by rintro w ⟨C1, C2⟩; go_simp; with_reducible rfl) HS.out ?_
    simp only [Nat.reduceAdd, Nat.zero_add, Act.put, List.setIfInBounds_toArray, List.set_cons_succ, List.set_cons_zero]
    refine WT.take 1 (v := _) (by simp only [List.getElem?_toArray, List.getElem?_cons_succ, List.getElem?_cons_zero]; rfl) (by kernel_rfl) (by exact fun _ _ _ h => h) (by rfl) (by rintro w ⟨C1, C2⟩; go_simp; with_reducible rfl) HS.out ?_
    simp only [Nat.reduceAdd, Nat.zero_add, Act.put, List.setIfInBounds_toArray, List.set_cons_succ, List.set_cons_zero]
    refine WT.take 2 (v := _) (by simp only [List.getElem?_toArray, List.getElem?_cons_succ, List.getElem?_cons_zero]; rfl) (by kernel_rfl) (by exact fun _ _ _ h => h) (by rfl) (by rintro w ⟨C1, C2⟩; go_simp; with_reducible rfl) HS.out ?_
    simp only [Nat.reduceAdd, Nat.zero_add, Act.put, List.setIfInBounds_toArray, List.set_cons_succ, List.set_cons_zero]
    refine WT.take 3 (v := _) (by simp only [List.getElem?_toArray, List.getElem?_cons_succ, List.getElem?_cons_zero]; rfl) (by kernel_rfl) (by exact fun _ _ _ h => h) (by rfl) (by rintro w ⟨C1, C2⟩; go_simp; with_reducible rfl) HS.out ?_
    simp only [Nat.reduceAdd, Nat.zero_add, Act.put, List.setIfInBounds_toArray, List.set_cons_succ, List.set_cons_zero]
    refine WT.take 4 (v := vl) (by simp only [List.getElem?_toArray, List.getElem?_cons_succ, List.getElem?_cons_zero]; rfl) (by kernel_rfl) (by exact fun _ _ _ h => h) (by rfl) (by rintro w ⟨C1, C2⟩; exact rn_load1 (by kernel_rfl) (by rfl) C1) HS.out ?_
    simp only [Nat.reduceAdd, Nat.zero_add, Act.put, List.setIfInBounds_toArray, List.set_cons_succ, List.set_cons_zero]
    refine WT.take 5 (v := kv LK c.link) (by simp only [List.getElem?_toArray, List.getElem?_cons_succ, List.getElem?_cons_zero]; rfl) (by kernel_rfl) (by exact fun _ _ _ h => h) (by rfl) (by rintro w ⟨C1, C2⟩; exact rn_loadH aggL rfl (has_block C2) lL) HS.out ?_
    simp only [Nat.reduceAdd, Nat.zero_add, Act.put, List.setIfInBounds_toArray, List.set_cons_succ, List.set_cons_zero]
    obtain ⟨z47, E47⟩ := el47
    refine WT.onlyE 6 (by simp only [List.getElem?_toArray, List.getElem?_cons_succ, List.getElem?_cons_zero]; rfl) (by kernel_rfl) (by rfl) (re_buildSlice1 (v := kv LK c.link) E47 (by rfl) (by simp [kv, Value.cells, lL]) (by omega)) ?_
    rintro _ w9 ⟨g5, rfl, n9⟩
    rw [show (kv LK c.link).cells = (valsK LK c.link).toArray from rfl] at n9
    have K9 : Keeps Nb w8 w9 := (Keeps.refl Nb w8).drew.trans_nb n9.k
    have st9 := st8.nb K9
    have HS2 : Hid ((fun u : World => u.cell? ⟨p, 1, none⟩ = some vl ∧ u.heap[g3]? = some (.cells (valsK LK c.link).toArray 40 (0, 0))) w9) := ⟨by show w9.cell? _ = _; rw [cell_of_block st9.bp]; rfl, st9.b3⟩
    refine ⟨HS2.out, ?_⟩
    simp only [Nat.reduceAdd, Nat.zero_add, Act.put, List.setIfInBounds_toArray, List.set_cons_succ, List.set_cons_zero]
    refine WT.onlyE 7 (by simp only [List.getElem?_toArray, List.getElem?_cons_succ, List.getElem?_cons_zero]; rfl) (by kernel_rfl) (by rfl) (re_push E47 st9.lr (by rfl) (by rfl) (has_block n9.blk) (by simp [lL]) oneL.out (by omega) (by have := lks_len cs; unfold maxLen; omega) hl3) ?_
    rintro vl' w10 ⟨r10, S, k10, hS⟩
    rw [eL, ← eLks] at r10
    obtain ⟨bp, b1, b2, b3, m1, m2, kk, vr, -⟩ := st9.row k10 hS (by decide) hltF hap z1 z2 z3
    have b4 := k10.at ((K9.nb s8b)) (fun h => by have := hltF _ (hS _ h).1; omega)
    have HS3 : Hid ((fun u : World => u.cell? ⟨p, 1, none⟩ = some vl ∧ u.heap[g3]? = some (.cells (valsK LK c.link).toArray 40 (0, 0))) w10) := ⟨by show w10.cell? _ = _; rw [cell_of_block bp]; rfl, b3⟩
    refine ⟨HS3.out, ?_⟩
    simp only [Nat.reduceAdd, Nat.zero_add, Act.put, List.setIfInBounds_toArray, List.set_cons_succ, List.set_cons_zero]
    refine WT.stop (by kernel_rfl) ?_
    refine WP.only 8 (v := _) (by simp only [List.getElem?_toArray, List.getElem?_cons_succ, List.getElem?_cons_zero]; rfl) (by kernel_rfl) (by rfl) (by go_simp; first | with_reducible rfl | exact ⟨rfl, rfl⟩) ?_
    simp only [Nat.reduceAdd, Nat.zero_add, Act.put, List.setIfInBounds_toArray, List.set_cons_succ, List.set_cons_zero]
    refine WP.only 9 (v := _) (by simp only [List.getElem?_toArray, List.getElem?_cons_succ, List.getElem?_cons_zero]; rfl) (by kernel_rfl) (by rfl) (by go_simp; first | with_reducible rfl | exact ⟨rfl, rfl⟩) ?_
    simp only [Nat.reduceAdd, Nat.zero_add, Act.put, List.setIfInBounds_toArray, List.set_cons_succ, List.set_cons_zero]
    have ov : vl'.cells = #[vl'] ∧ vl'.oneCell' = true := by obtain ⟨-, -, a, cc, rfl, -⟩ := r10; exact ⟨rfl, rfl⟩
    refine WP.onlySkipE 10 (by simp only [List.getElem?_toArray, List.getElem?_cons_succ, List.getElem?_cons_zero]; rfl) (by kernel_rfl) (by rfl) (re_store (v := vl') (n := 1) (by kernel_rfl) (by rfl) (by rfl) bp (by rw [ov.1]; rfl) (by simp) (by rw [ov.1]; simpa using ov.2)) ?_
    intro w11 s11
    rw [ov.1, show splice #[va, vl, .map (some mh), .map (some mw)] #[vl'] 1 = #[va, vl', .map (some mh), .map (some mw)] from rfl] at s11
    simp only [Nat.reduceAdd, Nat.zero_add, Act.put, List.setIfInBounds_toArray, List.set_cons_succ, List.set_cons_zero]
    refine WP.done (by kernel_rfl) ?_
    have hpe : ∀ k, k ≠ p → ¬ (k = p) := fun _ h => h
    have hg1p : ¬ g1 = p := by have := hltF p hFp; omega
    have hg2p : ¬ g2 = p := by have := hltF p hFp; omega
    have hg3p : ¬ g3 = p := by have := hltF p hFp; omega
    have hg4p : ¬ g4 = p := by have := hltF p hFp; omega
    have hmhp : ¬ mh = p := MapAt.ne m1 bp
    have hmwp : ¬ mw = p := MapAt.ne m2 bp
    have st : AddSt w w11 p g1 g2 g3 va vl' mh mw VV.toArray (valsK HK c.key).toArray (valsK LK c.link).toArray F F (Up F w9 w10) R cs (lks (cs ++ [c])) (hasF cs) (wF cs) :=
      ⟨s11.blk, s11.k.at b1 hg1p, s11.k.at b2 hg2p, s11.k.at b3 hg3p, (vr (by decide)).keeps s11.k (fun k _ ht e => ht.ne ⟨_, _, bp⟩ (by decide) e) (fun k hr e => hap _ hFp (e ▸ hr)),
        by rw [eLks] at r10 ⊢; rw [List.length_append]; exact r10.keeps s11.k (fun k _ ht e => ht.ne ⟨_, _, bp⟩ (by decide) e), m1.keeps s11.k hmhp, m2.keeps s11.k hmwp, kk.trans s11.k (fun i _ e => e ▸ hFp)⟩
    have st4 := s11.k.at b4 hg4p
    have hFl : ∀ k, Up F w9 w10 k → F k ∨ (w8.heap.size ≤ k ∧ k < w11.heap.size) := fun k h => h.imp id fun ⟨x, y⟩ => ⟨by have := K9.size; omega, by have := s11.k.size; omega⟩
    have k8a : w8.heap.size ≤ w11.heap.size := by have := K9.size; have := k10.size; have := s11.k.size; omega
    clear HS HS2 HS3 n9 K9 st9 r10 k10 hS bp b1 b2 b3 b4 m1 m2 kk vr s11 hp1 st8 s8b K8 HWI
    generalize Up F w9 w10 = Fl at *
    have hc0 : w11.cell? ⟨g4, 0, none⟩ = some (.int .u64 (wt cs c.link : Nat)) := by rw [cell_of_block st4]; rfl
    have hc1 : w11.cell? ⟨g4, 1, none⟩ = some (.int .i64 (vs cs c.link : Nat)) := by rw [cell_of_block st4]; rfl
    have b72 : ∀ (W : World) (x y : Int), (Instr.build 72 #[(0, .int .u64 x), (1, .int .i64 y)]).run Try.prog W = .ok (.agg #[.int .u64 x, .int .i64 y]) W := fun _ _ _ => by kernel_rfl
    go_wp2_with (first | go_skip | (with_reducible refine stop_load (t := 27) ?_) | (with_reducible refine stop_load (t := 28) ?_) | (with_reducible refine stop_load (t := 30) ?_) | (with_reducible refine stop_load (t := 33) ?_) | (with_reducible refine stop_load (t := 35) ?_) | (with_reducible refine stop_load (t := 40) ?_) | (with_reducible refine stop_load (t := 76) ?_) | (with_reducible refine stop_load (t := 77) ?_) | (with_reducible refine stop_box (t := 27) ?_) | (with_reducible refine stop_box (t := 28) ?_) | (with_reducible refine stop_box (t := 30) ?_) | (with_reducible refine stop_box (t := 33) ?_) | (with_reducible refine stop_box (t := 35) ?_) | (with_reducible refine stop_box (t := 40) ?_) | (with_reducible refine stop_box (t := 76) ?_) | (with_reducible refine stop_box (t := 77) ?_) | (with_reducible refine stop_alloc (t := 27) ?_) | (with_reducible refine stop_alloc (t := 28) ?_) | (with_reducible refine stop_alloc (t := 30) ?_) | (with_reducible refine stop_alloc (t := 33) ?_) | (with_reducible refine stop_alloc (t := 35) ?_) | (with_reducible refine stop_alloc (t := 40) ?_) | (with_reducible refine stop_alloc (t := 76) ?_) | (with_reducible refine stop_alloc (t := 77) ?_) | (with_reducible refine stop_alloc (t := 52) ?_) | (with_reducible refine stop_alloc (t := 68) ?_) | (with_reducible refine stop_alloc (t := 72) ?_) | (with_reducible refine stop_build (t := 27) ?_) | (with_reducible refine stop_build (t := 28) ?_) | (with_reducible refine stop_build (t := 30) ?_) | (with_reducible refine stop_build (t := 33) ?_) | (with_reducible refine stop_build (t := 35) ?_) | (with_reducible refine stop_build (t := 40) ?_) | (with_reducible refine stop_build (t := 76) ?_) | (with_reducible refine stop_build (t := 77) ?_) | (with_reducible refine stop_build (t := 52) ?_) | (with_reducible refine stop_build (t := 68) ?_) | (with_reducible refine stop_store (t := 27) ?_) | (with_reducible refine stop_store (t := 28) ?_) | (with_reducible refine stop_store (t := 30) ?_) | (with_reducible refine stop_store (t := 33) ?_) | (with_reducible refine stop_store (t := 35) ?_) | (with_reducible refine stop_store (t := 40) ?_) | (with_reducible refine stop_store (t := 76) ?_) | (with_reducible refine stop_store (t := 77) ?_) | (with_reducible refine stop_store (t := 22) ?_) | (with_reducible refine stop_store (t := 31) ?_) | (with_reducible refine stop_store (t := 47) ?_) | (with_reducible refine stop_store (t := 52) ?_) | (with_reducible refine stop_store (t := 68) ?_) | (with_reducible refine stop_store (t := 72) ?_) | (with_reducible refine stop_lookup ?_) | (with_reducible refine stop_buildSlice ?_) | (with_reducible refine stop_app ?_) | (with_reducible refine stop_mapEntry ?_) | (with_reducible refine stop_eql (t := 28) ?_) | (with_reducible refine stop_eql (t := 40) ?_) | (with_reducible refine stop_neq (t := 28) ?_) | (with_reducible refine stop_neq (t := 40) ?_))
    refine at_out (wpList_skipE rfl (re_store (v := .agg #[.int .u64 ((wt cs c.link : Nat) + (c.stake : Nat) : Int), .int .i64 ((vs cs c.link : Nat) + 1 : Int)]) (n := 2) size72 (by rfl) (by rfl) st4 (by rfl) (by simp) (by simp [Value.cells, Value.oneCell'])) ?_)
    intro wb sb
    have hw' : ((wt (cs ++ [c]) c.link : Nat) : Int) = (wt cs c.link : Nat) + (c.stake : Nat) := by rw [wt_snoc, if_pos rfl]; exact Int.natCast_add _ _
    have hv' : ((vs (cs ++ [c]) c.link : Nat) : Int) = (vs cs c.link : Nat) + 1 := by rw [vs_snoc, if_pos rfl]; exact Int.natCast_add _ _
    have b4 : wb.heap[g4]? = some (.cells #[.int .u64 ((wt (cs ++ [c]) c.link : Nat) : Int), .int .i64 ((vs (cs ++ [c]) c.link : Nat) : Int)] 72 (0, 0)) := by rw [hw', hv']; exact sb.blk
    have stb := st.one sb.k z4 (by have := hltF p hFp; omega) (by omega) (by omega) (by omega) (fun k h => by have := hltF k h; omega) (fun k h => by rcases hFl k h with h | h; (have := hltF k h; omega); omega) (fun k h => by have := hltR k h; omega) (MapAt.ne st.m1 st4) (MapAt.ne st.m2 st4)
    have kab : w11.heap.size ≤ wb.heap.size := sb.k.size
    have HW' := Lib.hid hw'; have HV' := Lib.hid hv'
    clear hc0 hc1 b72 sb st4 st hw' hv'
    simp only [Nat.reduceAdd, Nat.zero_add, Act.put, List.setIfInBounds_toArray, List.set_cons_succ, List.set_cons_zero]
    obtain ⟨sa, scap, hsE, q1, q2, q3, q4, q5⟩ := HSig.out.keeps stb.k hap'
    obtain ⟨-, -, -, c67⟩ := vote_reads (w0 := wb) (g := g1) (T := 33) hc (HVV.out ▸ stb.b1)
    have h67 : wb.cell? ⟨g1, 67, none⟩ = some (.slice sa c.sig.length scap) := hsE ▸ c67 ⟨wb, Keeps.refl _ _⟩
    have CC := Lib.hid (cloneB_at sa c.sig.length scap (c.sig.map fun x => .int .u8 (x : Nat)) wb ⟨q3.has, by simp, one_nats⟩ ⟨q1, q2⟩ (by omega))
    have HC67 := Lib.hid c67
    clear c67 q3 q2
    go_wp2_with fail
    refine CC.out.mono ?_
    rintro _ wc ⟨vs', rfl, hown, kc⟩
    have stc := stb.nb kc
    have z7 : g1 < w8.heap.size := by have := K68; omega
    have z8 : g2 < w8.heap.size := by have := K68; omega
    have z9 : g3 < w8.heap.size := by have := K68; omega
    have hw8 : w.heap.size ≤ w8.heap.size := by omega
    have hab := kc.size
    obtain ⟨va5, vc5, hv5, j1, j2, j3, j4⟩ := owns_has hown
    have o5 : vs'.cells = #[vs'] ∧ vs'.oneCell' = true := by rw [hv5]; exact ⟨rfl, rfl⟩
    have HV5 := Lib.hid hv5; clear hv5
    go_wp2_with (first | go_skip | (with_reducible refine stop_load (t := 27) ?_) | (with_reducible refine stop_load (t := 28) ?_) | (with_reducible refine stop_load (t := 30) ?_) | (with_reducible refine stop_load (t := 33) ?_) | (with_reducible refine stop_load (t := 35) ?_) | (with_reducible refine stop_load (t := 40) ?_) | (with_reducible refine stop_load (t := 76) ?_) | (with_reducible refine stop_load (t := 77) ?_) | (with_reducible refine stop_box (t := 27) ?_) | (with_reducible refine stop_box (t := 28) ?_) | (with_reducible refine stop_box (t := 30) ?_) | (with_reducible refine stop_box (t := 33) ?_) | (with_reducible refine stop_box (t := 35) ?_) | (with_reducible refine stop_box (t := 40) ?_) | (with_reducible refine stop_box (t := 76) ?_) | (with_reducible refine stop_box (t := 77) ?_) | (with_reducible refine stop_alloc (t := 27) ?_) | (with_reducible refine stop_alloc (t := 28) ?_) | (with_reducible refine stop_alloc (t := 30) ?_) | (with_reducible refine stop_alloc (t := 33) ?_) | (with_reducible refine stop_alloc (t := 35) ?_) | (with_reducible refine stop_alloc (t := 40) ?_) | (with_reducible refine stop_alloc (t := 76) ?_) | (with_reducible refine stop_alloc (t := 77) ?_) | (with_reducible refine stop_alloc (t := 52) ?_) | (with_reducible refine stop_alloc (t := 68) ?_) | (with_reducible refine stop_alloc (t := 72) ?_) | (with_reducible refine stop_build (t := 27) ?_) | (with_reducible refine stop_build (t := 28) ?_) | (with_reducible refine stop_build (t := 30) ?_) | (with_reducible refine stop_build (t := 33) ?_) | (with_reducible refine stop_build (t := 35) ?_) | (with_reducible refine stop_build (t := 40) ?_) | (with_reducible refine stop_build (t := 76) ?_) | (with_reducible refine stop_build (t := 77) ?_) | (with_reducible refine stop_build (t := 52) ?_) | (with_reducible refine stop_build (t := 68) ?_) | (with_reducible refine stop_store (t := 27) ?_) | (with_reducible refine stop_store (t := 28) ?_) | (with_reducible refine stop_store (t := 30) ?_) | (with_reducible refine stop_store (t := 33) ?_) | (with_reducible refine stop_store (t := 35) ?_) | (with_reducible refine stop_store (t := 40) ?_) | (with_reducible refine stop_store (t := 76) ?_) | (with_reducible refine stop_store (t := 77) ?_) | (with_reducible refine stop_store (t := 22) ?_) | (with_reducible refine stop_store (t := 31) ?_) | (with_reducible refine stop_store (t := 47) ?_) | (with_reducible refine stop_store (t := 52) ?_) | (with_reducible refine stop_store (t := 68) ?_) | (with_reducible refine stop_store (t := 72) ?_) | (with_reducible refine stop_lookup ?_) | (with_reducible refine stop_buildSlice ?_) | (with_reducible refine stop_app ?_) | (with_reducible refine stop_mapEntry ?_) | (with_reducible refine stop_eql (t := 28) ?_) | (with_reducible refine stop_eql (t := 40) ?_) | (with_reducible refine stop_neq (t := 28) ?_) | (with_reducible refine stop_neq (t := 40) ?_))
    refine at_out (wpList_skipE rfl (re_store (v := vs') (n := 1) (by kernel_rfl) (by rfl) (by rfl) stc.b1 (by rw [o5.1]; rfl) (by simp [lV]) (by rw [o5.1]; simpa using o5.2)) ?_)
    intro wd sd
    rw [o5.1, ← HVV.out, splice_vote hc] at sd
    have hsz := sd.k.size
    have bg1 := hltF p hFp
    -- the signature's new bytes
    have sg : SigAt wd (Up R wb wc) c vs' := by
      refine ⟨va5, vc5, HV5.out, j1, j2, ?_, q4, fun b off e _ => .inr ⟨(j4 b off e).2.2.1, (j4 b off e).2.1⟩⟩
      have h5 : ReadsN .u8 wc va5 c.sig := owns_readsU (HV5.out ▸ hown)
      exact h5.keeps sd.k (fun b off e _ e2 => by have := (j4 b off e).2.2.1; omega)
    have std : AddSt w wd p g1 g2 g3 va vl' mh mw (vc c vs').toArray (valsK HK c.key).toArray (valsK LK c.link).toArray F F Fl R cs (lks (cs ++ [c])) (hasF cs) (wF cs) :=
      ⟨sd.k.at stc.bp (by omega), sd.blk, sd.k.at stc.b2 (by omega), sd.k.at stc.b3 (by omega), stc.vr.keeps sd.k (fun k h _ e => by rcases h with h | h; (have := hltF k h; omega); (have := hltR k h; omega)) (fun k h e => by have := hltR k h; omega),
        stc.lr.keeps sd.k (fun k _ ht e => ht.ne ⟨_, _, stc.b1⟩ (by decide) e), stc.m1.keeps sd.k (MapAt.ne stc.m1 stc.b1), stc.m2.keeps sd.k (MapAt.ne stc.m2 stc.b1), stc.k.own z1 sd.k⟩
    have d4 := sd.k.at (kc.nb b4) (show ¬ g4 = g1 by omega)
    clear CC HC67 h67 hown kc stc stb b4 sd
    simp only [Nat.reduceAdd, Nat.zero_add, Act.put, List.setIfInBounds_toArray, List.set_cons_succ, List.set_cons_zero]
    go_wp2
    -- the vote is pushed
    have lV2 := vc_len hc vs'
    have lS2 := sc_len hc vs'
    have oneS := Lib.hid (sc_one c vs' o5.2)
    obtain ⟨z22, E22⟩ := el22
    obtain ⟨xs, hrow, hvotes⟩ := std.vr
    have hxs : (cs.length + 1) * 152 ≤ 140737488355328 := by omega
    have hcp : wd.cell? ⟨p, 0, none⟩ = some va := by rw [cell_of_block std.bp]; rfl
    have HS : Hid ((fun u : World => u.cell? ⟨p, 0, none⟩ = some va ∧ u.heap[g1]? = some (.cells (vc c vs').toArray 33 (0, 0)) ∧ u.heap[g2]? = some (.cells (valsK HK c.key).toArray 28 (0, 0))) wd.drew) := ⟨hcp, std.b1, std.b2⟩
    refine WT.region (fun u : World => u.cell? ⟨p, 0, none⟩ = some va ∧ u.heap[g1]? = some (.cells (vc c vs').toArray 33 (0, 0)) ∧ u.heap[g2]? = some (.cells (valsK HK c.key).toArray 28 (0, 0))) 11 14 [0, 1, 2, 3, 4, 5, 6, 7, 8, 9, 10, 11, 12, 13] (by kernel_rfl) rfl ?_
    refine WT.take 0 (v := _) (by simp only [List.getElem?_toArray, List.getElem?_cons_succ, List.getElem?_cons_zero]; rfl) (by kernel_rfl) (by exact fun _ _ _ h => h) (by rfl) (by rintro w ⟨C1, C2⟩; go_simp; with_reducible rfl) HS.out ?_
    simp only [Nat.reduceAdd, Nat.zero_add, Act.put, List.setIfInBounds_toArray, List.set_cons_succ, List.set_cons_zero]
    refine WT.take 1 (v := _) (by simp only [List.getElem?_toArray, List.getElem?_cons_succ, List.getElem?_cons_zero]; rfl) (by kernel_rfl) (by exact fun _ _ _ h => h) (by rfl) (by rintro w ⟨C1, C2⟩; go_simp; with_reducible rfl) HS.out ?_
    simp only [Nat.reduceAdd, Nat.zero_add, Act.put, List.setIfInBounds_toArray, List.set_cons_succ, List.set_cons_zero]
    refine WT.take 2 (v := _) (by simp only [List.getElem?_toArray, List.getElem?_cons_succ, List.getElem?_cons_zero]; rfl) (by kernel_rfl) (by exact fun _ _ _ h => h) (by rfl) (by rintro w ⟨C1, C2⟩; go_simp; with_reducible rfl) HS.out ?_
    simp only [Nat.reduceAdd, Nat.zero_add, Act.put, List.setIfInBounds_toArray, List.set_cons_succ, List.set_cons_zero]
    refine WT.take 3 (v := _) (by simp only [List.getElem?_toArray, List.getElem?_cons_succ, List.getElem?_cons_zero]; rfl) (by kernel_rfl) (by exact fun _ _ _ h => h) (by rfl) (by rintro w ⟨C1, C2⟩; go_simp; with_reducible rfl) HS.out ?_
    simp only [Nat.reduceAdd, Nat.zero_add, Act.put, List.setIfInBounds_toArray, List.set_cons_succ, List.set_cons_zero]
    refine WT.take 4 (v := va) (by simp only [List.getElem?_toArray, List.getElem?_cons_succ, List.getElem?_cons_zero]; rfl) (by kernel_rfl) (by exact fun _ _ _ h => h) (by rfl) (by rintro w ⟨C1, C2⟩; exact rn_load1 (by kernel_rfl) (by rfl) C1) HS.out ?_
    simp only [Nat.reduceAdd, Nat.zero_add, Act.put, List.setIfInBounds_toArray, List.set_cons_succ, List.set_cons_zero]
    refine WT.take 5 (v := .agg (vc c vs').toArray) (by simp only [List.getElem?_toArray, List.getElem?_cons_succ, List.getElem?_cons_zero]; rfl) (by kernel_rfl) (by exact fun _ _ _ h => h) (by rfl) (by rintro w ⟨C1, C2⟩; exact rn_loadH aggV rfl (has_block C2.1) lV2) HS.out ?_
    simp only [Nat.reduceAdd, Nat.zero_add, Act.put, List.setIfInBounds_toArray, List.set_cons_succ, List.set_cons_zero]
    refine WT.take 6 (v := .agg (valsK HK c.key).toArray) (by simp only [List.getElem?_toArray, List.getElem?_cons_succ, List.getElem?_cons_zero]; rfl) (by kernel_rfl) (by exact fun _ _ _ h => h) (by rfl) (by rintro w ⟨C1, C2⟩; exact rn_loadH aggH rfl (has_block C2.2) lK) HS.out ?_
    simp only [Nat.reduceAdd, Nat.zero_add, Act.put, List.setIfInBounds_toArray, List.set_cons_succ, List.set_cons_zero]
    refine WT.take 7 (v := _) (by simp only [List.getElem?_toArray, List.getElem?_cons_succ, List.getElem?_cons_zero]; rfl) (by kernel_rfl) (by exact fun _ _ _ h => h) (by rfl) (by rintro w ⟨C1, C2⟩; go_simp; with_reducible rfl) HS.out ?_
    simp only [Nat.reduceAdd, Nat.zero_add, Act.put, List.setIfInBounds_toArray, List.set_cons_succ, List.set_cons_zero]
    refine WT.take 8 (v := .agg (sc c vs').toArray) (by simp only [List.getElem?_toArray, List.getElem?_cons_succ, List.getElem?_cons_zero]; rfl) (by kernel_rfl) (by exact fun _ _ _ h => h) (by rfl) (by rintro w ⟨C1, C2⟩; exact rn_build3 (u := .agg (vc c vs').toArray) (v := .agg (valsK HK c.key).toArray) (q := .int .u64 (c.stake : Nat)) stS rfl rfl rfl (by simp [Value.cells]) (by simp [Value.cells]) (by simp [Value.cells]) lV2 lK rfl rfl rfl) HS.out ?_
    simp only [Nat.reduceAdd, Nat.zero_add, Act.put, List.setIfInBounds_toArray, List.set_cons_succ, List.set_cons_zero]
    refine WT.onlyE 9 (by simp only [List.getElem?_toArray, List.getElem?_cons_succ, List.getElem?_cons_zero]; rfl) (by kernel_rfl) (by rfl) (re_buildSlice1 (v := .agg (sc c vs').toArray) E22 (by rfl) (by simp [Value.cells, lS2]) (by omega)) ?_
    rintro _ we ⟨g6, rfl, ne⟩
    have Ke : Keeps Nb wd we := (Keeps.refl Nb wd).drew.trans_nb ne.k
    have ste := std.nb Ke
    have HS2 : Hid ((fun u : World => u.cell? ⟨p, 0, none⟩ = some va ∧ u.heap[g1]? = some (.cells (vc c vs').toArray 33 (0, 0)) ∧ u.heap[g2]? = some (.cells (valsK HK c.key).toArray 28 (0, 0))) we) := ⟨by show we.cell? _ = _; rw [cell_of_block ste.bp]; rfl, ste.b1, ste.b2⟩
    refine ⟨HS2.out, ?_⟩
    simp only [Nat.reduceAdd, Nat.zero_add, Act.put, List.setIfInBounds_toArray, List.set_cons_succ, List.set_cons_zero]
    refine WT.onlyE 10 (by simp only [List.getElem?_toArray, List.getElem?_cons_succ, List.getElem?_cons_zero]; rfl) (by kernel_rfl) (by rfl) (re_push (news := sc c vs') E22 (hrow.keeps Ke (fun _ _ _ => n)) (by rfl) (by rfl) (has_block ne.blk) (by simp [lS2]) oneS.out (by omega) (by unfold maxLen; omega) hxs) ?_
    rintro va' wf ⟨rf, Sf, kf, hSf⟩
    obtain ⟨fp, fb1, fb2, fb3, fm1, fm2, fk, -, flr⟩ := ste.row kf hSf (by decide) hltF hap z1 z2 z3
    have f4 := kf.at (Ke.nb d4) (fun h => by have := hltF _ (hSf _ h).1; omega)
    have HS3 : Hid ((fun u : World => u.cell? ⟨p, 0, none⟩ = some va ∧ u.heap[g1]? = some (.cells (vc c vs').toArray 33 (0, 0)) ∧ u.heap[g2]? = some (.cells (valsK HK c.key).toArray 28 (0, 0))) wf) := ⟨by show wf.cell? _ = _; rw [cell_of_block fp]; rfl, fb1, fb2⟩
    refine ⟨HS3.out, ?_⟩
    simp only [Nat.reduceAdd, Nat.zero_add, Act.put, List.setIfInBounds_toArray, List.set_cons_succ, List.set_cons_zero]
    have kde := Ke.size
    have kef := kf.size
    have fv : VRow wf (Up F we wf) (Up R wb wc) va' (cs ++ [c]) := by
      refine ⟨xs ++ sc c vs', ?_, (((hvotes.keeps Ke (fun _ _ => n)).keeps kf (fun k hr h => hap k (hSf k h).1 hr)).mono (fun k h => .inl h)).snoc ((sg.keeps Ke (fun _ _ => n)).keeps kf (fun k hr h => ?_))⟩
      · rw [List.length_append]; exact rf.mono (fun _ h => h) (fun k h => .inl h)
      · have h2 := (hSf k h).1
        rcases hr with hr | hr
        · exact hap k h2 hr
        · have := hltF k h2; omega
    have ov' : va'.cells = #[va'] ∧ va'.oneCell' = true := by obtain ⟨-, -, a, cc, rfl, -⟩ := rf; exact ⟨rfl, rfl⟩
    clear rf hvotes hrow sg std ste HS HS2 hcp d4 ne Ke
    refine WT.stop (by kernel_rfl) ?_
    refine WP.only 11 (v := _) (by simp only [List.getElem?_toArray, List.getElem?_cons_succ, List.getElem?_cons_zero]; rfl) (by kernel_rfl) (by rfl) (by go_simp; first | with_reducible rfl | exact ⟨rfl, rfl⟩) ?_
    simp only [Nat.reduceAdd, Nat.zero_add, Act.put, List.setIfInBounds_toArray, List.set_cons_succ, List.set_cons_zero]
    refine WP.only 12 (v := _) (by simp only [List.getElem?_toArray, List.getElem?_cons_succ, List.getElem?_cons_zero]; rfl) (by kernel_rfl) (by rfl) (by go_simp; first | with_reducible rfl | exact ⟨rfl, rfl⟩) ?_
    simp only [Nat.reduceAdd, Nat.zero_add, Act.put, List.setIfInBounds_toArray, List.set_cons_succ, List.set_cons_zero]
    refine WP.onlySkipE 13 (by simp only [List.getElem?_toArray, List.getElem?_cons_succ, List.getElem?_cons_zero]; rfl) (by kernel_rfl) (by rfl) (re_store (v := va') (n := 1) (by kernel_rfl) (by rfl) (by rfl) fp (by rw [ov'.1]; rfl) (by simp) (by rw [ov'.1]; simpa using ov'.2)) ?_
    intro wg sg'
    rw [ov'.1, show splice #[va, vl', .map (some mh), .map (some mw)] #[va'] 0 = #[va', vl', .map (some mh), .map (some mw)] from rfl] at sg'
    simp only [Nat.reduceAdd, Nat.zero_add, Act.put, List.setIfInBounds_toArray, List.set_cons_succ, List.set_cons_zero]
    refine WP.done (by kernel_rfl) ?_
    have kg := sg'.k
    have kfg := kg.size
    have gb2 := kg.at fb2 (show ¬ g2 = p by omega)
    have gb3 := kg.at fb3 (show ¬ g3 = p by omega)
    have gb4 := kg.at f4 (show ¬ g4 = p by omega)
    have gv := fv.keeps kg (fun k _ ht e => ht.ne ⟨_, _, fp⟩ (by decide) e) (fun k hr e => by subst e; rcases hr with hr | hr; exact hap _ hFp hr; omega)
    have gl := (flr (by decide)).keeps kg (fun k _ ht e => ht.ne ⟨_, _, fp⟩ (by decide) e)
    have gm1 := fm1.keeps kg (MapAt.ne fm1 fp)
    have gm2 := fm2.keeps kg (MapAt.ne fm2 fp)
    have gk : Keeps F w wg := fk.trans kg (fun i _ e => e ▸ hFp)
    have gp := sg'.blk
    clear fb1 fb2 fb3 f4 fv flr fm1 fm2 fk kf HS3 sg' kg fp
    go_wp2
    -- the maps
    have hmk : Fits MK (c.key ++ c.link) := hc.key.append hc.link
    have HKV := Lib.hid (show kv MK (c.key ++ c.link) = .agg (valsK HK c.key ++ valsK LK c.link).toArray by rw [kv, show MK = HK ++ LK from rfl, valsK_append hc.key.length])
    have b75 : ∀ (W : World), (Instr.build 75 #[(0, .bool true)]).run Try.prog W = .ok (.agg #[.bool true]) W := fun _ => by kernel_rfl
    have S0 : AddS p g2 g3 g4 mh mw (valsK HK c.key).toArray (valsK LK c.link).toArray #[.int .u64 ((wt (cs ++ [c]) c.link : Nat) : Int), .int .i64 ((vs (cs ++ [c]) c.link : Nat) : Int)] wg.drew :=
      ⟨⟨by show wg.cell? _ = _; rw [cell_of_block gp]; rfl, by show wg.cell? _ = _; rw [cell_of_block gp]; rfl⟩, gb2, gb3, gb4⟩
    have HS := Lib.hid S0; clear S0
    refine WT.region (AddS p g2 g3 g4 mh mw (valsK HK c.key).toArray (valsK LK c.link).toArray #[.int .u64 ((wt (cs ++ [c]) c.link : Nat) : Int), .int .i64 ((vs (cs ++ [c]) c.link : Nat) : Int)]) 20 20 [0, 1, 2, 3, 4, 5, 6, 7, 8, 9, 10, 11, 12, 13, 14, 15, 16, 17, 18, 19] (by kernel_rfl) rfl ?_
    refine WT.take 0 (v := _) (by simp only [List.getElem?_toArray, List.getElem?_cons_succ, List.getElem?_cons_zero]; rfl) (by kernel_rfl) (by exact fun _ _ _ h => h) (by rfl) (by rintro w ⟨C1, C2⟩; go_simp; with_reducible rfl) HS.out ?_
    simp only [Nat.reduceAdd, Nat.zero_add, Act.put, List.setIfInBounds_toArray, List.set_cons_succ, List.set_cons_zero]
    refine WT.take 1 (v := _) (by simp only [List.getElem?_toArray, List.getElem?_cons_succ, List.getElem?_cons_zero]; rfl) (by kernel_rfl) (by exact fun _ _ _ h => h) (by rfl) (by rintro w ⟨C1, C2⟩; go_simp; with_reducible rfl) HS.out ?_
    simp only [Nat.reduceAdd, Nat.zero_add, Act.put, List.setIfInBounds_toArray, List.set_cons_succ, List.set_cons_zero]
    refine WT.take 2 (v := _) (by simp only [List.getElem?_toArray, List.getElem?_cons_succ, List.getElem?_cons_zero]; rfl) (by kernel_rfl) (by exact fun _ _ _ h => h) (by rfl) (by rintro w ⟨C1, C2⟩; go_simp; with_reducible rfl) HS.out ?_
    simp only [Nat.reduceAdd, Nat.zero_add, Act.put, List.setIfInBounds_toArray, List.set_cons_succ, List.set_cons_zero]
    refine WT.take 3 (v := _) (by simp only [List.getElem?_toArray, List.getElem?_cons_succ, List.getElem?_cons_zero]; rfl) (by kernel_rfl) (by exact fun _ _ _ h => h) (by rfl) (by rintro w ⟨C1, C2⟩; go_simp; with_reducible rfl) HS.out ?_
    simp only [Nat.reduceAdd, Nat.zero_add, Act.put, List.setIfInBounds_toArray, List.set_cons_succ, List.set_cons_zero]
    refine WT.take 4 (v := .agg (valsK HK c.key).toArray) (by simp only [List.getElem?_toArray, List.getElem?_cons_succ, List.getElem?_cons_zero]; rfl) (by kernel_rfl) (by exact fun _ _ _ h => h) (by rfl) (by rintro w ⟨C1, C2, C3, C4⟩; exact rn_loadH aggH rfl (has_block C2) lK) HS.out ?_
    simp only [Nat.reduceAdd, Nat.zero_add, Act.put, List.setIfInBounds_toArray, List.set_cons_succ, List.set_cons_zero]
    refine WT.take 5 (v := kv LK c.link) (by simp only [List.getElem?_toArray, List.getElem?_cons_succ, List.getElem?_cons_zero]; rfl) (by kernel_rfl) (by exact fun _ _ _ h => h) (by rfl) (by rintro w ⟨C1, C2, C3, C4⟩; exact rn_loadH aggL rfl (has_block C3) lL) HS.out ?_
    simp only [Nat.reduceAdd, Nat.zero_add, Act.put, List.setIfInBounds_toArray, List.set_cons_succ, List.set_cons_zero]
    refine WT.take 6 (v := kv MK (c.key ++ c.link)) (by simp only [List.getElem?_toArray, List.getElem?_cons_succ, List.getElem?_cons_zero]; rfl) (by kernel_rfl) (by exact fun _ _ _ h => h) (by rfl) (by rintro w ⟨C1, C2, C3, C4⟩; rw [HKV.out]; exact rn_build2 (u := .agg (valsK HK c.key).toArray) (v := kv LK c.link) stM rfl rfl (by simp [Value.cells]) (by simp [Value.cells, kv]) lK lL rfl) HS.out ?_
    simp only [Nat.reduceAdd, Nat.zero_add, Act.put, List.setIfInBounds_toArray, List.set_cons_succ, List.set_cons_zero]
    refine WT.take 7 (v := _) (by simp only [List.getElem?_toArray, List.getElem?_cons_succ, List.getElem?_cons_zero]; rfl) (by kernel_rfl) (by exact fun _ _ _ h => h) (by rfl) (by rintro w ⟨C1, C2⟩; go_simp; with_reducible rfl) HS.out ?_
    simp only [Nat.reduceAdd, Nat.zero_add, Act.put, List.setIfInBounds_toArray, List.set_cons_succ, List.set_cons_zero]
    refine WT.take 8 (v := _) (by simp only [List.getElem?_toArray, List.getElem?_cons_succ, List.getElem?_cons_zero]; rfl) (by kernel_rfl) (by exact fun _ _ _ h => h) (by rfl) (by rintro w ⟨C1, C2⟩; go_simp; with_reducible rfl) HS.out ?_
    simp only [Nat.reduceAdd, Nat.zero_add, Act.put, List.setIfInBounds_toArray, List.set_cons_succ, List.set_cons_zero]
    refine WT.take 9 (v := _) (by simp only [List.getElem?_toArray, List.getElem?_cons_succ, List.getElem?_cons_zero]; rfl) (by kernel_rfl) (by exact fun _ _ _ h => h) (by rfl) (by rintro w ⟨C1, C2⟩; go_simp; with_reducible rfl) HS.out ?_
    simp only [Nat.reduceAdd, Nat.zero_add, Act.put, List.setIfInBounds_toArray, List.set_cons_succ, List.set_cons_zero]
    refine WT.take 10 (v := _) (by simp only [List.getElem?_toArray, List.getElem?_cons_succ, List.getElem?_cons_zero]; rfl) (by kernel_rfl) (by exact fun _ _ _ h => h) (by rfl) (by rintro w ⟨C1, C2⟩; go_simp; with_reducible rfl) HS.out ?_
    simp only [Nat.reduceAdd, Nat.zero_add, Act.put, List.setIfInBounds_toArray, List.set_cons_succ, List.set_cons_zero]
    refine WT.take 11 (v := kv LK c.link) (by simp only [List.getElem?_toArray, List.getElem?_cons_succ, List.getElem?_cons_zero]; rfl) (by kernel_rfl) (by exact fun _ _ _ h => h) (by rfl) (by rintro w ⟨C1, C2, C3, C4⟩; exact rn_loadH aggL rfl (has_block C3) lL) HS.out ?_
    simp only [Nat.reduceAdd, Nat.zero_add, Act.put, List.setIfInBounds_toArray, List.set_cons_succ, List.set_cons_zero]
    refine WT.take 12 (v := _) (by simp only [List.getElem?_toArray, List.getElem?_cons_succ, List.getElem?_cons_zero]; rfl) (by kernel_rfl) (by exact fun _ _ _ h => h) (by rfl) (by rintro w ⟨C1, C2⟩; go_simp; with_reducible rfl) HS.out ?_
    simp only [Nat.reduceAdd, Nat.zero_add, Act.put, List.setIfInBounds_toArray, List.set_cons_succ, List.set_cons_zero]
    refine WT.take 13 (v := .agg #[.int .u64 ((wt (cs ++ [c]) c.link : Nat) : Int), .int .i64 ((vs (cs ++ [c]) c.link : Nat) : Int)]) (by simp only [List.getElem?_toArray, List.getElem?_cons_succ, List.getElem?_cons_zero]; rfl) (by kernel_rfl) (by exact fun _ _ _ h => h) (by rfl) (by rintro w ⟨C1, C2, C3, C4⟩; exact rn_loadH agg72 rfl (has_block C4) rfl) HS.out ?_
    simp only [Nat.reduceAdd, Nat.zero_add, Act.put, List.setIfInBounds_toArray, List.set_cons_succ, List.set_cons_zero]
    have nm : ∀ {b : Nat}, (b = mh ∨ b = mw) → ¬ p = b ∧ ¬ g2 = b ∧ ¬ g3 = b ∧ ¬ g4 = b := by
      intro b hb
      have hbF : F b := by rcases hb with rfl | rfl; exact hFh; exact hFw
      have := hltF b hbF
      refine ⟨?_, by omega, by omega, by omega⟩
      rcases hb with rfl | rfl
      · exact fun e => MapAt.ne gm1 gp e.symm
      · exact fun e => MapAt.ne gm2 gp e.symm
    have gm1d := gm1.keeps (Keeps.refl Nb wg).drew n
    have gm2d := gm2.keeps (Keeps.refl Nb wg).drew n
    refine WT.onlyE 14 (by simp only [List.getElem?_toArray, List.getElem?_cons_succ, List.getElem?_cons_zero]; rfl) (by kernel_rfl) (by rfl) (re_mapEntry gm1d keyM Try.underlying65 (zero75 _) (by rfl) (by rfl) hmk) ?_
    rintro _ wh ⟨x14, m14, rfl, mid1, kh⟩
    replace HS := Lib.hid (AddS.keep HS.out kh (nm (.inl rfl)))
    refine ⟨HS.out, ?_⟩
    simp only [Nat.reduceAdd, Nat.zero_add, Act.put, List.setIfInBounds_toArray, List.set_cons_succ, List.set_cons_zero]
    refine WT.take 15 (v := _) (by simp only [List.getElem?_toArray, List.getElem?_cons_succ, List.getElem?_cons_zero]; rfl) (by kernel_rfl) (by exact fun _ _ _ h => h) (by rfl) (by rintro w ⟨C1, C2⟩; go_simp; with_reducible rfl) HS.out ?_
    simp only [Nat.reduceAdd, Nat.zero_add, Act.put, List.setIfInBounds_toArray, List.set_cons_succ, List.set_cons_zero]
    refine WT.onlySkipE 16 (by simp only [List.getElem?_toArray, List.getElem?_cons_succ, List.getElem?_cons_zero]; rfl) (by kernel_rfl) (by rfl) (rn_entryStore (v := .agg #[.bool true]) mid1 (by rfl) (by rfl) (by rfl) hmk) ?_
    rintro wi ⟨ma1, ki⟩
    replace HS := Lib.hid (AddS.keep HS.out ki (nm (.inl rfl)))
    refine ⟨HS.out, ?_⟩
    simp only [Nat.reduceAdd, Nat.zero_add, Act.put, List.setIfInBounds_toArray, List.set_cons_succ, List.set_cons_zero]
    have mw2 : MapAt LK wi mw (wF cs) := (gm2d.keeps kh (fun e => hne e.symm)).keeps ki (fun e => hne e.symm)
    refine WT.onlyE 17 (by simp only [List.getElem?_toArray, List.getElem?_cons_succ, List.getElem?_cons_zero]; rfl) (by kernel_rfl) (by rfl) (re_mapEntry mw2 keyL Try.underlying66 (zero72 _) (by rfl) (by rfl) hc.link) ?_
    rintro _ wj ⟨x17, m17, rfl, mid2, kj⟩
    replace HS := Lib.hid (AddS.keep HS.out kj (nm (.inr rfl)))
    refine ⟨HS.out, ?_⟩
    simp only [Nat.reduceAdd, Nat.zero_add, Act.put, List.setIfInBounds_toArray, List.set_cons_succ, List.set_cons_zero]
    refine WT.take 18 (v := _) (by simp only [List.getElem?_toArray, List.getElem?_cons_succ, List.getElem?_cons_zero]; rfl) (by kernel_rfl) (by exact fun _ _ _ h => h) (by rfl) (by rintro w ⟨C1, C2⟩; go_simp; with_reducible rfl) HS.out ?_
    simp only [Nat.reduceAdd, Nat.zero_add, Act.put, List.setIfInBounds_toArray, List.set_cons_succ, List.set_cons_zero]
    refine WT.onlySkipE 19 (by simp only [List.getElem?_toArray, List.getElem?_cons_succ, List.getElem?_cons_zero]; rfl) (by kernel_rfl) (by rfl) (rn_entryStore (v := .agg #[.int .u64 ((wt (cs ++ [c]) c.link : Nat) : Int), .int .i64 ((vs (cs ++ [c]) c.link : Nat) : Int)]) mid2 (by rfl) (by rfl) (by rfl) hc.link) ?_
    rintro wk ⟨ma2, kk2⟩
    replace HS := Lib.hid (AddS.keep HS.out kk2 (nm (.inr rfl)))
    refine ⟨HS.out, ?_⟩
    simp only [Nat.reduceAdd, Nat.zero_add, Act.put, List.setIfInBounds_toArray, List.set_cons_succ, List.set_cons_zero]
    refine WT.stop (by kernel_rfl) (WP.done (by kernel_rfl) ?_)
    rw [← hasF_snoc] at ma1
    rw [← wF_snoc] at ma2
    have kM : Keeps (fun b => b = mh ∨ b = mw) wg wk := (((((Keeps.refl (fun b => b = mh ∨ b = mw) wg).drew.trans kh (fun i _ e => .inl e)).trans ki (fun i _ e => .inl e)).trans kj (fun i _ e => .inr e)).trans kk2 (fun i _ e => .inr e))
    have hMm : ∀ b, (b = mh ∨ b = mw) → ∀ e, IsT wg e b → False := by
      rintro b (rfl | rfl) e ht
      · exact MapAt.notT gm1 ht
      · exact MapAt.notT gm2 ht
    have hc9 : wk.cell? ⟨g4, 0, none⟩ = some (.int .u64 ((wt (cs ++ [c]) c.link : Nat) : Int)) := by rw [cell_of_block HS.out.2.2.2]; rfl
    have ksz := kM.size
    have hpool : PoolAt wk p (fun k => Fl k ∨ Up F we wf k) (Up R wb wc) (cs ++ [c]) := by
      have hFf : ∀ k, F k → Up F we wf k := fun k h => .inl h
      refine ⟨⟨va', vl', mh, mw, kM.at gp (fun h => (nm h).1 rfl), ?_, ?_, (ma1.keeps kj hne).keeps kk2 hne, ma2, hne, .inr (hFf _ hFp), .inr (hFf _ hFh), .inr (hFf _ hFw)⟩, ?_, ?_, ?_, ?_, ?_⟩
      · exact (gv.keeps kM (fun k _ ht h => hMm k h _ ht) (fun k hr h => by
          have hbF : F k := by rcases h with rfl | rfl; exact hFh; exact hFw
          rcases hr with hr | hr
          · exact hap k hbF hr
          · have := hltF k hbF; omega)).mono (fun k h => .inr h) (fun k h => h)
      · exact (gl.keeps kM (fun k _ ht h => hMm k h _ ht)).mono (fun k h => .inl h) (fun k h => .inl h)
      · have := hgood.addTo (c := c) hc
        unfold addTo at this
        rwa [if_pos H0.out] at this
      · rw [List.length_append, List.length_singleton]; omega
      · rintro k hk hr
        have hlo : F k ∨ w8.heap.size ≤ k := by
          rcases hk with hk | hk | hk
          · exact (hFl k hk).imp id (·.1)
          · exact .inl hk
          · exact .inr (by omega)
        rcases hr with hr | hr
        · have := hltR k hr
          rcases hlo with h | h
          · exact hap k h hr
          · omega
        · rcases hk with hk | hk | hk
          · rcases hFl k hk with h | h
            · have := hltF k h; omega
            · omega
          · have := hltF k hk; omega
          · omega
      · rintro k (hk | hk | hk)
        · rcases hFl k hk with h | h
          · have := hltF k h; omega
          · omega
        · have := hltF k hk; omega
        · omega
      · rintro k (hk | hk)
        · have := hltR k hk; omega
        · omega
    have hkeep : Keeps F w wk := gk.trans kM (fun i _ h => by rcases h with rfl | rfl; exact hFh; exact hFw)
    have hup : ∀ k, (fun k => Fl k ∨ Up F we wf k) k → F k ∨ w.heap.size ≤ k := by
      rintro k (hk | hk | hk)
      · rcases hFl k hk with h | h
        · exact .inl h
        · exact .inr (by omega)
      · exact .inl hk
      · exact .inr (by omega)
    have hupR : ∀ k, Up R wb wc k → R k ∨ w.heap.size ≤ k := by
      rintro k (hk | hk)
      · exact .inl hk
      · exact .inr (by omega)
    have HP := Lib.hid hpool; have HU := Lib.hid hup; have HUR := Lib.hid hupR
    clear hpool hup hupR HS kM ma1 ma2 mid1 mid2 mw2
    go_wp2
    go_ret2
    exact ⟨rfl, ⟨_, _, HP.out, HU.out, HUR.out⟩, hkeep⟩
  · have eLks : lks (cs ++ [c]) = lks cs := by rw [lks_snoc, addL, if_pos (by simpa using hin)]
    have st : AddSt w w8 p g1 g2 g3 va vl mh mw VV.toArray (valsK HK c.key).toArray (valsK LK c.link).toArray F F F R cs (lks (cs ++ [c])) (hasF cs) (wF cs) := by rw [eLks]; exact st8
    have st4 := s8b
    have hFl : ∀ k, F k → F k ∨ (w8.heap.size ≤ k ∧ k < w8.heap.size) := fun k h => .inl h
    have k8a : w8.heap.size ≤ w8.heap.size := Nat.le_refl _
    clear st8 s8b K8 HWI
    obtain ⟨Fl, hFl', st'⟩ : ∃ Fl : Nat → Prop, (∀ k, Fl k → F k ∨ (w8.heap.size ≤ k ∧ k < w8.heap.size)) ∧ AddSt w w8 p g1 g2 g3 va vl mh mw VV.toArray (valsK HK c.key).toArray (valsK LK c.link).toArray F F Fl R cs (lks (cs ++ [c])) (hasF cs) (wF cs) := ⟨F, hFl, st⟩
    clear hFl st
    have hFl := hFl'; have st := st'; clear hFl' st'
    have hc0 : w8.cell? ⟨g4, 0, none⟩ = some (.int .u64 (wt cs c.link : Nat)) := by rw [cell_of_block st4]; rfl
    have hc1 : w8.cell? ⟨g4, 1, none⟩ = some (.int .i64 (vs cs c.link : Nat)) := by rw [cell_of_block st4]; rfl
    have b72 : ∀ (W : World) (x y : Int), (Instr.build 72 #[(0, .int .u64 x), (1, .int .i64 y)]).run Try.prog W = .ok (.agg #[.int .u64 x, .int .i64 y]) W := fun _ _ _ => by kernel_rfl
    go_wp2_with (first | go_skip | (with_reducible refine stop_load (t := 27) ?_) | (with_reducible refine stop_load (t := 28) ?_) | (with_reducible refine stop_load (t := 30) ?_) | (with_reducible refine stop_load (t := 33) ?_) | (with_reducible refine stop_load (t := 35) ?_) | (with_reducible refine stop_load (t := 40) ?_) | (with_reducible refine stop_load (t := 76) ?_) | (with_reducible refine stop_load (t := 77) ?_) | (with_reducible refine stop_box (t := 27) ?_) | (with_reducible refine stop_box (t := 28) ?_) | (with_reducible refine stop_box (t := 30) ?_) | (with_reducible refine stop_box (t := 33) ?_) | (with_reducible refine stop_box (t := 35) ?_) | (with_reducible refine stop_box (t := 40) ?_) | (with_reducible refine stop_box (t := 76) ?_) | (with_reducible refine stop_box (t := 77) ?_) | (with_reducible refine stop_alloc (t := 27) ?_) | (with_reducible refine stop_alloc (t := 28) ?_) | (with_reducible refine stop_alloc (t := 30) ?_) | (with_reducible refine stop_alloc (t := 33) ?_) | (with_reducible refine stop_alloc (t := 35) ?_) | (with_reducible refine stop_alloc (t := 40) ?_) | (with_reducible refine stop_alloc (t := 76) ?_) | (with_reducible refine stop_alloc (t := 77) ?_) | (with_reducible refine stop_alloc (t := 52) ?_) | (with_reducible refine stop_alloc (t := 68) ?_) | (with_reducible refine stop_alloc (t := 72) ?_) | (with_reducible refine stop_build (t := 27) ?_) | (with_reducible refine stop_build (t := 28) ?_) | (with_reducible refine stop_build (t := 30) ?_) | (with_reducible refine stop_build (t := 33) ?_) | (with_reducible refine stop_build (t := 35) ?_) | (with_reducible refine stop_build (t := 40) ?_) | (with_reducible refine stop_build (t := 76) ?_) | (with_reducible refine stop_build (t := 77) ?_) | (with_reducible refine stop_build (t := 52) ?_) | (with_reducible refine stop_build (t := 68) ?_) | (with_reducible refine stop_store (t := 27) ?_) | (with_reducible refine stop_store (t := 28) ?_) | (with_reducible refine stop_store (t := 30) ?_) | (with_reducible refine stop_store (t := 33) ?_) | (with_reducible refine stop_store (t := 35) ?_) | (with_reducible refine stop_store (t := 40) ?_) | (with_reducible refine stop_store (t := 76) ?_) | (with_reducible refine stop_store (t := 77) ?_) | (with_reducible refine stop_store (t := 22) ?_) | (with_reducible refine stop_store (t := 31) ?_) | (with_reducible refine stop_store (t := 47) ?_) | (with_reducible refine stop_store (t := 52) ?_) | (with_reducible refine stop_store (t := 68) ?_) | (with_reducible refine stop_store (t := 72) ?_) | (with_reducible refine stop_lookup ?_) | (with_reducible refine stop_buildSlice ?_) | (with_reducible refine stop_app ?_) | (with_reducible refine stop_mapEntry ?_) | (with_reducible refine stop_eql (t := 28) ?_) | (with_reducible refine stop_eql (t := 40) ?_) | (with_reducible refine stop_neq (t := 28) ?_) | (with_reducible refine stop_neq (t := 40) ?_))
    refine at_out (wpList_skipE rfl (re_store (v := .agg #[.int .u64 ((wt cs c.link : Nat) + (c.stake : Nat) : Int), .int .i64 ((vs cs c.link : Nat) + 1 : Int)]) (n := 2) size72 (by rfl) (by rfl) st4 (by rfl) (by simp) (by simp [Value.cells, Value.oneCell'])) ?_)
    intro wb sb
    have hw' : ((wt (cs ++ [c]) c.link : Nat) : Int) = (wt cs c.link : Nat) + (c.stake : Nat) := by rw [wt_snoc, if_pos rfl]; exact Int.natCast_add _ _
    have hv' : ((vs (cs ++ [c]) c.link : Nat) : Int) = (vs cs c.link : Nat) + 1 := by rw [vs_snoc, if_pos rfl]; exact Int.natCast_add _ _
    have b4 : wb.heap[g4]? = some (.cells #[.int .u64 ((wt (cs ++ [c]) c.link : Nat) : Int), .int .i64 ((vs (cs ++ [c]) c.link : Nat) : Int)] 72 (0, 0)) := by rw [hw', hv']; exact sb.blk
    have stb := st.one sb.k z4 (by have := hltF p hFp; omega) (by omega) (by omega) (by omega) (fun k h => by have := hltF k h; omega) (fun k h => by rcases hFl k h with h | h; (have := hltF k h; omega); omega) (fun k h => by have := hltR k h; omega) (MapAt.ne st.m1 st4) (MapAt.ne st.m2 st4)
    have kab : w8.heap.size ≤ wb.heap.size := sb.k.size
    have HW' := Lib.hid hw'; have HV' := Lib.hid hv'
    clear hc0 hc1 b72 sb st4 st hw' hv'
    simp only [Nat.reduceAdd, Nat.zero_add, Act.put, List.setIfInBounds_toArray, List.set_cons_succ, List.set_cons_zero]
    obtain ⟨sa, scap, hsE, q1, q2, q3, q4, q5⟩ := HSig.out.keeps stb.k hap'
    obtain ⟨-, -, -, c67⟩ := vote_reads (w0 := wb) (g := g1) (T := 33) hc (HVV.out ▸ stb.b1)
    have h67 : wb.cell? ⟨g1, 67, none⟩ = some (.slice sa c.sig.length scap) := hsE ▸ c67 ⟨wb, Keeps.refl _ _⟩
    have CC := Lib.hid (cloneB_at sa c.sig.length scap (c.sig.map fun x => .int .u8 (x : Nat)) wb ⟨q3.has, by simp, one_nats⟩ ⟨q1, q2⟩ (by omega))
    have HC67 := Lib.hid c67
    clear c67 q3 q2
    go_wp2_with fail
    refine CC.out.mono ?_
    rintro _ wc ⟨vs', rfl, hown, kc⟩
    have stc := stb.nb kc
    have z7 : g1 < w8.heap.size := by have := K68; omega
    have z8 : g2 < w8.heap.size := by have := K68; omega
    have z9 : g3 < w8.heap.size := by have := K68; omega
    have hw8 : w.heap.size ≤ w8.heap.size := by omega
    have hab := kc.size
    obtain ⟨va5, vc5, hv5, j1, j2, j3, j4⟩ := owns_has hown
    have o5 : vs'.cells = #[vs'] ∧ vs'.oneCell' = true := by rw [hv5]; exact ⟨rfl, rfl⟩
    have HV5 := Lib.hid hv5; clear hv5
    go_wp2_with (first | go_skip | (with_reducible refine stop_load (t := 27) ?_) | (with_reducible refine stop_load (t := 28) ?_) | (with_reducible refine stop_load (t := 30) ?_) | (with_reducible refine stop_load (t := 33) ?_) | (with_reducible refine stop_load (t := 35) ?_) | (with_reducible refine stop_load (t := 40) ?_) | (with_reducible refine stop_load (t := 76) ?_) | (with_reducible refine stop_load (t := 77) ?_) | (with_reducible refine stop_box (t := 27) ?_) | (with_reducible refine stop_box (t := 28) ?_) | (with_reducible refine stop_box (t := 30) ?_) | (with_reducible refine stop_box (t := 33) ?_) | (with_reducible refine stop_box (t := 35) ?_) | (with_reducible refine stop_box (t := 40) ?_) | (with_reducible refine stop_box (t := 76) ?_) | (with_reducible refine stop_box (t := 77) ?_) | (with_reducible refine stop_alloc (t := 27) ?_) | (with_reducible refine stop_alloc (t := 28) ?_) | (with_reducible refine stop_alloc (t := 30) ?_) | (with_reducible refine stop_alloc (t := 33) ?_) | (with_reducible refine stop_alloc (t := 35) ?_) | (with_reducible refine stop_alloc (t := 40) ?_) | (with_reducible refine stop_alloc (t := 76) ?_) | (with_reducible refine stop_alloc (t := 77) ?_) | (with_reducible refine stop_alloc (t := 52) ?_) | (with_reducible refine stop_alloc (t := 68) ?_) | (with_reducible refine stop_alloc (t := 72) ?_) | (with_reducible refine stop_build (t := 27) ?_) | (with_reducible refine stop_build (t := 28) ?_) | (with_reducible refine stop_build (t := 30) ?_) | (with_reducible refine stop_build (t := 33) ?_) | (with_reducible refine stop_build (t := 35) ?_) | (with_reducible refine stop_build (t := 40) ?_) | (with_reducible refine stop_build (t := 76) ?_) | (with_reducible refine stop_build (t := 77) ?_) | (with_reducible refine stop_build (t := 52) ?_) | (with_reducible refine stop_build (t := 68) ?_) | (with_reducible refine stop_store (t := 27) ?_) | (with_reducible refine stop_store (t := 28) ?_) | (with_reducible refine stop_store (t := 30) ?_) | (with_reducible refine stop_store (t := 33) ?_) | (with_reducible refine stop_store (t := 35) ?_) | (with_reducible refine stop_store (t := 40) ?_) | (with_reducible refine stop_store (t := 76) ?_) | (with_reducible refine stop_store (t := 77) ?_) | (with_reducible refine stop_store (t := 22) ?_) | (with_reducible refine stop_store (t := 31) ?_) | (with_reducible refine stop_store (t := 47) ?_) | (with_reducible refine stop_store (t := 52) ?_) | (with_reducible refine stop_store (t := 68) ?_) | (with_reducible refine stop_store (t := 72) ?_) | (with_reducible refine stop_lookup ?_) | (with_reducible refine stop_buildSlice ?_) | (with_reducible refine stop_app ?_) | (with_reducible refine stop_mapEntry ?_) | (with_reducible refine stop_eql (t := 28) ?_) | (with_reducible refine stop_eql (t := 40) ?_) | (with_reducible refine stop_neq (t := 28) ?_) | (with_reducible refine stop_neq (t := 40) ?_))
    refine at_out (wpList_skipE rfl (re_store (v := vs') (n := 1) (by kernel_rfl) (by rfl) (by rfl) stc.b1 (by rw [o5.1]; rfl) (by simp [lV]) (by rw [o5.1]; simpa using o5.2)) ?_)
    intro wd sd
    rw [o5.1, ← HVV.out, splice_vote hc] at sd
    have hsz := sd.k.size
    have bg1 := hltF p hFp
    -- the signature's new bytes
    have sg : SigAt wd (Up R wb wc) c vs' := by
      refine ⟨va5, vc5, HV5.out, j1, j2, ?_, q4, fun b off e _ => .inr ⟨(j4 b off e).2.2.1, (j4 b off e).2.1⟩⟩
      have h5 : ReadsN .u8 wc va5 c.sig := owns_readsU (HV5.out ▸ hown)
      exact h5.keeps sd.k (fun b off e _ e2 => by have := (j4 b off e).2.2.1; omega)
    have std : AddSt w wd p g1 g2 g3 va vl mh mw (vc c vs').toArray (valsK HK c.key).toArray (valsK LK c.link).toArray F F Fl R cs (lks (cs ++ [c])) (hasF cs) (wF cs) :=
      ⟨sd.k.at stc.bp (by omega), sd.blk, sd.k.at stc.b2 (by omega), sd.k.at stc.b3 (by omega), stc.vr.keeps sd.k (fun k h _ e => by rcases h with h | h; (have := hltF k h; omega); (have := hltR k h; omega)) (fun k h e => by have := hltR k h; omega),
        stc.lr.keeps sd.k (fun k _ ht e => ht.ne ⟨_, _, stc.b1⟩ (by decide) e), stc.m1.keeps sd.k (MapAt.ne stc.m1 stc.b1), stc.m2.keeps sd.k (MapAt.ne stc.m2 stc.b1), stc.k.own z1 sd.k⟩
    have d4 := sd.k.at (kc.nb b4) (show ¬ g4 = g1 by omega)
    clear CC HC67 h67 hown kc stc stb b4 sd
    simp only [Nat.reduceAdd, Nat.zero_add, Act.put, List.setIfInBounds_toArray, List.set_cons_succ, List.set_cons_zero]
    go_wp2
    -- the vote is pushed
    have lV2 := vc_len hc vs'
    have lS2 := sc_len hc vs'
    have oneS := Lib.hid (sc_one c vs' o5.2)
    obtain ⟨z22, E22⟩ := el22
    obtain ⟨xs, hrow, hvotes⟩ := std.vr
    have hxs : (cs.length + 1) * 152 ≤ 140737488355328 := by omega
    have hcp : wd.cell? ⟨p, 0, none⟩ = some va := by rw [cell_of_block std.bp]; rfl
    have HS : Hid ((fun u : World => u.cell? ⟨p, 0, none⟩ = some va ∧ u.heap[g1]? = some (.cells (vc c vs').toArray 33 (0, 0)) ∧ u.heap[g2]? = some (.cells (valsK HK c.key).toArray 28 (0, 0))) wd.drew) := ⟨hcp, std.b1, std.b2⟩
    refine WT.region (fun u : World => u.cell? ⟨p, 0, none⟩ = some va ∧ u.heap[g1]? = some (.cells (vc c vs').toArray 33 (0, 0)) ∧ u.heap[g2]? = some (.cells (valsK HK c.key).toArray 28 (0, 0))) 11 14 [0, 1, 2, 3, 4, 5, 6, 7, 8, 9, 10, 11, 12, 13] (by kernel_rfl) rfl ?_
    refine WT.take 0 (v := _) (by simp only [List.getElem?_toArray, List.getElem?_cons_succ, List.getElem?_cons_zero]; rfl) (by kernel_rfl) (by exact fun _ _ _ h => h) (by rfl) (by rintro w ⟨C1, C2⟩; go_simp; with_reducible rfl) HS.out ?_
    simp only [Nat.reduceAdd, Nat.zero_add, Act.put, List.setIfInBounds_toArray, List.set_cons_succ, List.set_cons_zero]
    refine WT.take 1 (v := _) (by simp only [List.getElem?_toArray, List.getElem?_cons_succ, List.getElem?_cons_zero]; rfl) (by kernel_rfl) (by exact fun _ _ _ h => h) (by rfl) (by rintro w ⟨C1, C2⟩; go_simp; with_reducible rfl) HS.out ?_
    simp only [Nat.reduceAdd, Nat.zero_add, Act.put, List.setIfInBounds_toArray, List.set_cons_succ, List.set_cons_zero]
    refine WT.take 2 (v := _) (by simp only [List.getElem?_toArray, List.getElem?_cons_succ, List.getElem?_cons_zero]; rfl) (by kernel_rfl) (by exact fun _ _ _ h => h) (by rfl) (by rintro w ⟨C1, C2⟩; go_simp; with_reducible rfl) HS.out ?_
    simp only [Nat.reduceAdd, Nat.zero_add, Act.put, List.setIfInBounds_toArray, List.set_cons_succ, List.set_cons_zero]
    refine WT.take 3 (v := _) (by simp only [List.getElem?_toArray, List.getElem?_cons_succ, List.getElem?_cons_zero]; rfl) (by kernel_rfl) (by exact fun _ _ _ h => h) (by rfl) (by rintro w ⟨C1, C2⟩; go_simp; with_reducible rfl) HS.out ?_
    simp only [Nat.reduceAdd, Nat.zero_add, Act.put, List.setIfInBounds_toArray, List.set_cons_succ, List.set_cons_zero]
    refine WT.take 4 (v := va) (by simp only [List.getElem?_toArray, List.getElem?_cons_succ, List.getElem?_cons_zero]; rfl) (by kernel_rfl) (by exact fun _ _ _ h => h) (by rfl) (by rintro w ⟨C1, C2⟩; exact rn_load1 (by kernel_rfl) (by rfl) C1) HS.out ?_
    simp only [Nat.reduceAdd, Nat.zero_add, Act.put, List.setIfInBounds_toArray, List.set_cons_succ, List.set_cons_zero]
    refine WT.take 5 (v := .agg (vc c vs').toArray) (by simp only [List.getElem?_toArray, List.getElem?_cons_succ, List.getElem?_cons_zero]; rfl) (by kernel_rfl) (by exact fun _ _ _ h => h) (by rfl) (by rintro w ⟨C1, C2⟩; exact rn_loadH aggV rfl (has_block C2.1) lV2) HS.out ?_
    simp only [Nat.reduceAdd, Nat.zero_add, Act.put, List.setIfInBounds_toArray, List.set_cons_succ, List.set_cons_zero]
    refine WT.take 6 (v := .agg (valsK HK c.key).toArray) (by simp only [List.getElem?_toArray, List.getElem?_cons_succ, List.getElem?_cons_zero]; rfl) (by kernel_rfl) (by exact fun _ _ _ h => h) (by rfl) (by rintro w ⟨C1, C2⟩; exact rn_loadH aggH rfl (has_block C2.2) lK) HS.out ?_
    simp only [Nat.reduceAdd, Nat.zero_add, Act.put, List.setIfInBounds_toArray, List.set_cons_succ, List.set_cons_zero]
    refine WT.take 7 (v := _) (by simp only [List.getElem?_toArray, List.getElem?_cons_succ, List.getElem?_cons_zero]; rfl) (by kernel_rfl) (by exact fun _ _ _ h => h) (by rfl) (by rintro w ⟨C1, C2⟩; go_simp; with_reducible rfl) HS.out ?_
    simp only [Nat.reduceAdd, Nat.zero_add, Act.put, List.setIfInBounds_toArray, List.set_cons_succ, List.set_cons_zero]
    refine WT.take 8 (v := .agg (sc c vs').toArray) (by simp only [List.getElem?_toArray, List.getElem?_cons_succ, List.getElem?_cons_zero]; rfl) (by kernel_rfl) (by exact fun _ _ _ h => h) (by rfl) (by rintro w ⟨C1, C2⟩; exact rn_build3 (u := .agg (vc c vs').toArray) (v := .agg (valsK HK c.key).toArray) (q := .int .u64 (c.stake : Nat)) stS rfl rfl rfl (by simp [Value.cells]) (by simp [Value.cells]) (by simp [Value.cells]) lV2 lK rfl rfl rfl) HS.out ?_
    simp only [Nat.reduceAdd, Nat.zero_add, Act.put, List.setIfInBounds_toArray, List.set_cons_succ, List.set_cons_zero]
    refine WT.onlyE 9 (by simp only [List.getElem?_toArray, List.getElem?_cons_succ, List.getElem?_cons_zero]; rfl) (by kernel_rfl) (by rfl) (re_buildSlice1 (v := .agg (sc c vs').toArray) E22 (by rfl) (by simp [Value.cells, lS2]) (by omega)) ?_
    rintro _ we ⟨g6, rfl, ne⟩
    have Ke : Keeps Nb wd we := (Keeps.refl Nb wd).drew.trans_nb ne.k
    have ste := std.nb Ke
    have HS2 : Hid ((fun u : World => u.cell? ⟨p, 0, none⟩ = some va ∧ u.heap[g1]? = some (.cells (vc c vs').toArray 33 (0, 0)) ∧ u.heap[g2]? = some (.cells (valsK HK c.key).toArray 28 (0, 0))) we) := ⟨by show we.cell? _ = _; rw [cell_of_block ste.bp]; rfl, ste.b1, ste.b2⟩
    refine ⟨HS2.out, ?_⟩
    simp only [Nat.reduceAdd, Nat.zero_add, Act.put, List.setIfInBounds_toArray, List.set_cons_succ, List.set_cons_zero]
    refine WT.onlyE 10 (by simp only [List.getElem?_toArray, List.getElem?_cons_succ, List.getElem?_cons_zero]; rfl) (by kernel_rfl) (by rfl) (re_push (news := sc c vs') E22 (hrow.keeps Ke (fun _ _ _ => n)) (by rfl) (by rfl) (has_block ne.blk) (by simp [lS2]) oneS.out (by omega) (by unfold maxLen; omega) hxs) ?_
    rintro va' wf ⟨rf, Sf, kf, hSf⟩
    obtain ⟨fp, fb1, fb2, fb3, fm1, fm2, fk, -, flr⟩ := ste.row kf hSf (by decide) hltF hap z1 z2 z3
    have f4 := kf.at (Ke.nb d4) (fun h => by have := hltF _ (hSf _ h).1; omega)
    have HS3 : Hid ((fun u : World => u.cell? ⟨p, 0, none⟩ = some va ∧ u.heap[g1]? = some (.cells (vc c vs').toArray 33 (0, 0)) ∧ u.heap[g2]? = some (.cells (valsK HK c.key).toArray 28 (0, 0))) wf) := ⟨by show wf.cell? _ = _; rw [cell_of_block fp]; rfl, fb1, fb2⟩
    refine ⟨HS3.out, ?_⟩
    simp only [Nat.reduceAdd, Nat.zero_add, Act.put, List.setIfInBounds_toArray, List.set_cons_succ, List.set_cons_zero]
    have kde := Ke.size
    have kef := kf.size
    have fv : VRow wf (Up F we wf) (Up R wb wc) va' (cs ++ [c]) := by
      refine ⟨xs ++ sc c vs', ?_, (((hvotes.keeps Ke (fun _ _ => n)).keeps kf (fun k hr h => hap k (hSf k h).1 hr)).mono (fun k h => .inl h)).snoc ((sg.keeps Ke (fun _ _ => n)).keeps kf (fun k hr h => ?_))⟩
      · rw [List.length_append]; exact rf.mono (fun _ h => h) (fun k h => .inl h)
      · have h2 := (hSf k h).1
        rcases hr with hr | hr
        · exact hap k h2 hr
        · have := hltF k h2; omega
    have ov' : va'.cells = #[va'] ∧ va'.oneCell' = true := by obtain ⟨-, -, a, cc, rfl, -⟩ := rf; exact ⟨rfl, rfl⟩
    clear rf hvotes hrow sg std ste HS HS2 hcp d4 ne Ke
    refine WT.stop (by kernel_rfl) ?_
    refine WP.only 11 (v := _) (by simp only [List.getElem?_toArray, List.getElem?_cons_succ, List.getElem?_cons_zero]; rfl) (by kernel_rfl) (by rfl) (by go_simp; first | with_reducible rfl | exact ⟨rfl, rfl⟩) ?_
    simp only [Nat.reduceAdd, Nat.zero_add, Act.put, List.setIfInBounds_toArray, List.set_cons_succ, List.set_cons_zero]
    refine WP.only 12 (v := _) (by simp only [List.getElem?_toArray, List.getElem?_cons_succ, List.getElem?_cons_zero]; rfl) (by kernel_rfl) (by rfl) (by go_simp; first | with_reducible rfl | exact ⟨rfl, rfl⟩) ?_
    simp only [Nat.reduceAdd, Nat.zero_add, Act.put, List.setIfInBounds_toArray, List.set_cons_succ, List.set_cons_zero]
    refine WP.onlySkipE 13 (by simp only [List.getElem?_toArray, List.getElem?_cons_succ, List.getElem?_cons_zero]; rfl) (by kernel_rfl) (by rfl) (re_store (v := va') (n := 1) (by kernel_rfl) (by rfl) (by rfl) fp (by rw [ov'.1]; rfl) (by simp) (by rw [ov'.1]; simpa using ov'.2)) ?_
    intro wg sg'
    rw [ov'.1, show splice #[va, vl, .map (some mh), .map (some mw)] #[va'] 0 = #[va', vl, .map (some mh), .map (some mw)] from rfl] at sg'
    simp only [Nat.reduceAdd, Nat.zero_add, Act.put, List.setIfInBounds_toArray, List.set_cons_succ, List.set_cons_zero]
    refine WP.done (by kernel_rfl) ?_
    have kg := sg'.k
    have kfg := kg.size
    have gb2 := kg.at fb2 (show ¬ g2 = p by omega)
    have gb3 := kg.at fb3 (show ¬ g3 = p by omega)
    have gb4 := kg.at f4 (show ¬ g4 = p by omega)
    have gv := fv.keeps kg (fun k _ ht e => ht.ne ⟨_, _, fp⟩ (by decide) e) (fun k hr e => by subst e; rcases hr with hr | hr; exact hap _ hFp hr; omega)
    have gl := (flr (by decide)).keeps kg (fun k _ ht e => ht.ne ⟨_, _, fp⟩ (by decide) e)
    have gm1 := fm1.keeps kg (MapAt.ne fm1 fp)
    have gm2 := fm2.keeps kg (MapAt.ne fm2 fp)
    have gk : Keeps F w wg := fk.trans kg (fun i _ e => e ▸ hFp)
    have gp := sg'.blk
    clear fb1 fb2 fb3 f4 fv flr fm1 fm2 fk kf HS3 sg' kg fp
    go_wp2
    -- the maps
    have hmk : Fits MK (c.key ++ c.link) := hc.key.append hc.link
    have HKV := Lib.hid (show kv MK (c.key ++ c.link) = .agg (valsK HK c.key ++ valsK LK c.link).toArray by rw [kv, show MK = HK ++ LK from rfl, valsK_append hc.key.length])
    have b75 : ∀ (W : World), (Instr.build 75 #[(0, .bool true)]).run Try.prog W = .ok (.agg #[.bool true]) W := fun _ => by kernel_rfl
    have S0 : AddS p g2 g3 g4 mh mw (valsK HK c.key).toArray (valsK LK c.link).toArray #[.int .u64 ((wt (cs ++ [c]) c.link : Nat) : Int), .int .i64 ((vs (cs ++ [c]) c.link : Nat) : Int)] wg.drew :=
      ⟨⟨by show wg.cell? _ = _; rw [cell_of_block gp]; rfl, by show wg.cell? _ = _; rw [cell_of_block gp]; rfl⟩, gb2, gb3, gb4⟩
    have HS := Lib.hid S0; clear S0
    refine WT.region (AddS p g2 g3 g4 mh mw (valsK HK c.key).toArray (valsK LK c.link).toArray #[.int .u64 ((wt (cs ++ [c]) c.link : Nat) : Int), .int .i64 ((vs (cs ++ [c]) c.link : Nat) : Int)]) 20 20 [0, 1, 2, 3, 4, 5, 6, 7, 8, 9, 10, 11, 12, 13, 14, 15, 16, 17, 18, 19] (by kernel_rfl) rfl ?_
    refine WT.take 0 (v := _) (by simp only [List.getElem?_toArray, List.getElem?_cons_succ, List.getElem?_cons_zero]; rfl) (by kernel_rfl) (by exact fun _ _ _ h => h) (by rfl) (by rintro w ⟨C1, C2⟩; go_simp; with_reducible rfl) HS.out ?_
    simp only [Nat.reduceAdd, Nat.zero_add, Act.put, List.setIfInBounds_toArray, List.set_cons_succ, List.set_cons_zero]
    refine WT.take 1 (v := _) (by simp only [List.getElem?_toArray, List.getElem?_cons_succ, List.getElem?_cons_zero]; rfl) (by kernel_rfl) (by exact fun _ _ _ h => h) (by rfl) (by rintro w ⟨C1, C2⟩; go_simp; with_reducible rfl) HS.out ?_
    simp only [Nat.reduceAdd, Nat.zero_add, Act.put, List.setIfInBounds_toArray, List.set_cons_succ, List.set_cons_zero]
    refine WT.take 2 (v := _) (by simp only [List.getElem?_toArray, List.getElem?_cons_succ, List.getElem?_cons_zero]; rfl) (by kernel_rfl) (by exact fun _ _ _ h => h) (by rfl) (by rintro w ⟨C1, C2⟩; go_simp; with_reducible rfl) HS.out ?_
    simp only [Nat.reduceAdd, Nat.zero_add, Act.put, List.setIfInBounds_toArray, List.set_cons_succ, List.set_cons_zero]
    refine WT.take 3 (v := _) (by simp only [List.getElem?_toArray, List.getElem?_cons_succ, List.getElem?_cons_zero]; rfl) (by kernel_rfl) (by exact fun _ _ _ h => h) (by rfl) (by rintro w ⟨C1, C2⟩; go_simp; with_reducible rfl) HS.out ?_
    simp only [Nat.reduceAdd, Nat.zero_add, Act.put, List.setIfInBounds_toArray, List.set_cons_succ, List.set_cons_zero]
    refine WT.take 4 (v := .agg (valsK HK c.key).toArray) (by simp only [List.getElem?_toArray, List.getElem?_cons_succ, List.getElem?_cons_zero]; rfl) (by kernel_rfl) (by exact fun _ _ _ h => h) (by rfl) (by rintro w ⟨C1, C2, C3, C4⟩; exact rn_loadH aggH rfl (has_block C2) lK) HS.out ?_
    simp only [Nat.reduceAdd, Nat.zero_add, Act.put, List.setIfInBounds_toArray, List.set_cons_succ, List.set_cons_zero]
    refine WT.take 5 (v := kv LK c.link) (by simp only [List.getElem?_toArray, List.getElem?_cons_succ, List.getElem?_cons_zero]; rfl) (by kernel_rfl) (by exact fun _ _ _ h => h) (by rfl) (by rintro w ⟨C1, C2, C3, C4⟩; exact rn_loadH aggL rfl (has_block C3) lL) HS.out ?_
    simp only [Nat.reduceAdd, Nat.zero_add, Act.put, List.setIfInBounds_toArray, List.set_cons_succ, List.set_cons_zero]
    refine WT.take 6 (v := kv MK (c.key ++ c.link)) (by simp only [List.getElem?_toArray, List.getElem?_cons_succ, List.getElem?_cons_zero]; rfl) (by kernel_rfl) (by exact fun _ _ _ h => h) (by rfl) (by rintro w ⟨C1, C2, C3, C4⟩; rw [HKV.out]; exact rn_build2 (u := .agg (valsK HK c.key).toArray) (v := kv LK c.link) stM rfl rfl (by simp [Value.cells]) (by simp [Value.cells, kv]) lK lL rfl) HS.out ?_
    simp only [Nat.reduceAdd, Nat.zero_add, Act.put, List.setIfInBounds_toArray, List.set_cons_succ, List.set_cons_zero]
    refine WT.take 7 (v := _) (by simp only [List.getElem?_toArray, List.getElem?_cons_succ, List.getElem?_cons_zero]; rfl) (by kernel_rfl) (by exact fun _ _ _ h => h) (by rfl) (by rintro w ⟨C1, C2⟩; go_simp; with_reducible rfl) HS.out ?_
    simp only [Nat.reduceAdd, Nat.zero_add, Act.put, List.setIfInBounds_toArray, List.set_cons_succ, List.set_cons_zero]
    refine WT.take 8 (v := _) (by simp only [List.getElem?_toArray, List.getElem?_cons_succ, List.getElem?_cons_zero]; rfl) (by kernel_rfl) (by exact fun _ _ _ h => h) (by rfl) (by rintro w ⟨C1, C2⟩; go_simp; with_reducible rfl) HS.out ?_
    simp only [Nat.reduceAdd, Nat.zero_add, Act.put, List.setIfInBounds_toArray, List.set_cons_succ, List.set_cons_zero]
    refine WT.take 9 (v := _) (by simp only [List.getElem?_toArray, List.getElem?_cons_succ, List.getElem?_cons_zero]; rfl) (by kernel_rfl) (by exact fun _ _ _ h => h) (by rfl) (by rintro w ⟨C1, C2⟩; go_simp; with_reducible rfl) HS.out ?_
    simp only [Nat.reduceAdd, Nat.zero_add, Act.put, List.setIfInBounds_toArray, List.set_cons_succ, List.set_cons_zero]
    refine WT.take 10 (v := _) (by simp only [List.getElem?_toArray, List.getElem?_cons_succ, List.getElem?_cons_zero]; rfl) (by kernel_rfl) (by exact fun _ _ _ h => h) (by rfl) (by rintro w ⟨C1, C2⟩; go_simp; with_reducible rfl) HS.out ?_
    simp only [Nat.reduceAdd, Nat.zero_add, Act.put, List.setIfInBounds_toArray, List.set_cons_succ, List.set_cons_zero]
    refine WT.take 11 (v := kv LK c.link) (by simp only [List.getElem?_toArray, List.getElem?_cons_succ, List.getElem?_cons_zero]; rfl) (by kernel_rfl) (by exact fun _ _ _ h => h) (by rfl) (by rintro w ⟨C1, C2, C3, C4⟩; exact rn_loadH aggL rfl (has_block C3) lL) HS.out ?_
    simp only [Nat.reduceAdd, Nat.zero_add, Act.put, List.setIfInBounds_toArray, List.set_cons_succ, List.set_cons_zero]
    refine WT.take 12 (v := _) (by simp only [List.getElem?_toArray, List.getElem?_cons_succ, List.getElem?_cons_zero]; rfl) (by kernel_rfl) (by exact fun _ _ _ h => h) (by rfl) (by rintro w ⟨C1, C2⟩; go_simp; with_reducible rfl) HS.out ?_
    simp only [Nat.reduceAdd, Nat.zero_add, Act.put, List.setIfInBounds_toArray, List.set_cons_succ, List.set_cons_zero]
    refine WT.take 13 (v := .agg #[.int .u64 ((wt (cs ++ [c]) c.link : Nat) : Int), .int .i64 ((vs (cs ++ [c]) c.link : Nat) : Int)]) (by simp only [List.getElem?_toArray, List.getElem?_cons_succ, List.getElem?_cons_zero]; rfl) (by kernel_rfl) (by exact fun _ _ _ h => h) (by rfl) (by rintro w ⟨C1, C2, C3, C4⟩; exact rn_loadH agg72 rfl (has_block C4) rfl) HS.out ?_
    simp only [Nat.reduceAdd, Nat.zero_add, Act.put, List.setIfInBounds_toArray, List.set_cons_succ, List.set_cons_zero]
    have nm : ∀ {b : Nat}, (b = mh ∨ b = mw) → ¬ p = b ∧ ¬ g2 = b ∧ ¬ g3 = b ∧ ¬ g4 = b := by
      intro b hb
      have hbF : F b := by rcases hb with rfl | rfl; exact hFh; exact hFw
      have := hltF b hbF
      refine ⟨?_, by omega, by omega, by omega⟩
      rcases hb with rfl | rfl
      · exact fun e => MapAt.ne gm1 gp e.symm
      · exact fun e => MapAt.ne gm2 gp e.symm
    have gm1d := gm1.keeps (Keeps.refl Nb wg).drew n
    have gm2d := gm2.keeps (Keeps.refl Nb wg).drew n
    refine WT.onlyE 14 (by simp only [List.getElem?_toArray, List.getElem?_cons_succ, List.getElem?_cons_zero]; rfl) (by kernel_rfl) (by rfl) (re_mapEntry gm1d keyM Try.underlying65 (zero75 _) (by rfl) (by rfl) hmk) ?_
    rintro _ wh ⟨x14, m14, rfl, mid1, kh⟩
    replace HS := Lib.hid (AddS.keep HS.out kh (nm (.inl rfl)))
    refine ⟨HS.out, ?_⟩
    simp only [Nat.reduceAdd, Nat.zero_add, Act.put, List.setIfInBounds_toArray, List.set_cons_succ, List.set_cons_zero]
    refine WT.take 15 (v := _) (by simp only [List.getElem?_toArray, List.getElem?_cons_succ, List.getElem?_cons_zero]; rfl) (by kernel_rfl) (by exact fun _ _ _ h => h) (by rfl) (by rintro w ⟨C1, C2⟩; go_simp; with_reducible rfl) HS.out ?_
    simp only [Nat.reduceAdd, Nat.zero_add, Act.put, List.setIfInBounds_toArray, List.set_cons_succ, List.set_cons_zero]
    refine WT.onlySkipE 16 (by simp only [List.getElem?_toArray, List.getElem?_cons_succ, List.getElem?_cons_zero]; rfl) (by kernel_rfl) (by rfl) (rn_entryStore (v := .agg #[.bool true]) mid1 (by rfl) (by rfl) (by rfl) hmk) ?_
    rintro wi ⟨ma1, ki⟩
    replace HS := Lib.hid (AddS.keep HS.out ki (nm (.inl rfl)))
    refine ⟨HS.out, ?_⟩
    simp only [Nat.reduceAdd, Nat.zero_add, Act.put, List.setIfInBounds_toArray, List.set_cons_succ, List.set_cons_zero]
    have mw2 : MapAt LK wi mw (wF cs) := (gm2d.keeps kh (fun e => hne e.symm)).keeps ki (fun e => hne e.symm)
    refine WT.onlyE 17 (by simp only [List.getElem?_toArray, List.getElem?_cons_succ, List.getElem?_cons_zero]; rfl) (by kernel_rfl) (by rfl) (re_mapEntry mw2 keyL Try.underlying66 (zero72 _) (by rfl) (by rfl) hc.link) ?_
    rintro _ wj ⟨x17, m17, rfl, mid2, kj⟩
    replace HS := Lib.hid (AddS.keep HS.out kj (nm (.inr rfl)))
    refine ⟨HS.out, ?_⟩
    simp only [Nat.reduceAdd, Nat.zero_add, Act.put, List.setIfInBounds_toArray, List.set_cons_succ, List.set_cons_zero]
    refine WT.take 18 (v := _) (by simp only [List.getElem?_toArray, List.getElem?_cons_succ, List.getElem?_cons_zero]; rfl) (by kernel_rfl) (by exact fun _ _ _ h => h) (by rfl) (by rintro w ⟨C1, C2⟩; go_simp; with_reducible rfl) HS.out ?_
    simp only [Nat.reduceAdd, Nat.zero_add, Act.put, List.setIfInBounds_toArray, List.set_cons_succ, List.set_cons_zero]
    refine WT.onlySkipE 19 (by simp only [List.getElem?_toArray, List.getElem?_cons_succ, List.getElem?_cons_zero]; rfl) (by kernel_rfl) (by rfl) (rn_entryStore (v := .agg #[.int .u64 ((wt (cs ++ [c]) c.link : Nat) : Int), .int .i64 ((vs (cs ++ [c]) c.link : Nat) : Int)]) mid2 (by rfl) (by rfl) (by rfl) hc.link) ?_
    rintro wk ⟨ma2, kk2⟩
    replace HS := Lib.hid (AddS.keep HS.out kk2 (nm (.inr rfl)))
    refine ⟨HS.out, ?_⟩
    simp only [Nat.reduceAdd, Nat.zero_add, Act.put, List.setIfInBounds_toArray, List.set_cons_succ, List.set_cons_zero]
    refine WT.stop (by kernel_rfl) (WP.done (by kernel_rfl) ?_)
    rw [← hasF_snoc] at ma1
    rw [← wF_snoc] at ma2
    have kM : Keeps (fun b => b = mh ∨ b = mw) wg wk := (((((Keeps.refl (fun b => b = mh ∨ b = mw) wg).drew.trans kh (fun i _ e => .inl e)).trans ki (fun i _ e => .inl e)).trans kj (fun i _ e => .inr e)).trans kk2 (fun i _ e => .inr e))
    have hMm : ∀ b, (b = mh ∨ b = mw) → ∀ e, IsT wg e b → False := by
      rintro b (rfl | rfl) e ht
      · exact MapAt.notT gm1 ht
      · exact MapAt.notT gm2 ht
    have hc9 : wk.cell? ⟨g4, 0, none⟩ = some (.int .u64 ((wt (cs ++ [c]) c.link : Nat) : Int)) := by rw [cell_of_block HS.out.2.2.2]; rfl
    have ksz := kM.size
    have hpool : PoolAt wk p (fun k => Fl k ∨ Up F we wf k) (Up R wb wc) (cs ++ [c]) := by
      have hFf : ∀ k, F k → Up F we wf k := fun k h => .inl h
      refine ⟨⟨va', vl, mh, mw, kM.at gp (fun h => (nm h).1 rfl), ?_, ?_, (ma1.keeps kj hne).keeps kk2 hne, ma2, hne, .inr (hFf _ hFp), .inr (hFf _ hFh), .inr (hFf _ hFw)⟩, ?_, ?_, ?_, ?_, ?_⟩
      · exact (gv.keeps kM (fun k _ ht h => hMm k h _ ht) (fun k hr h => by
          have hbF : F k := by rcases h with rfl | rfl; exact hFh; exact hFw
          rcases hr with hr | hr
          · exact hap k hbF hr
          · have := hltF k hbF; omega)).mono (fun k h => .inr h) (fun k h => h)
      · exact (gl.keeps kM (fun k _ ht h => hMm k h _ ht)).mono (fun k h => .inl h) (fun k h => .inl h)
      · have := hgood.addTo (c := c) hc
        unfold addTo at this
        rwa [if_pos H0.out] at this
      · rw [List.length_append, List.length_singleton]; omega
      · rintro k hk hr
        have hlo : F k ∨ w8.heap.size ≤ k := by
          rcases hk with hk | hk | hk
          · exact (hFl k hk).imp id (·.1)
          · exact .inl hk
          · exact .inr (by omega)
        rcases hr with hr | hr
        · have := hltR k hr
          rcases hlo with h | h
          · exact hap k h hr
          · omega
        · rcases hk with hk | hk | hk
          · rcases hFl k hk with h | h
            · have := hltF k h; omega
            · omega
          · have := hltF k hk; omega
          · omega
      · rintro k (hk | hk | hk)
        · rcases hFl k hk with h | h
          · have := hltF k h; omega
          · omega
        · have := hltF k hk; omega
        · omega
      · rintro k (hk | hk)
        · have := hltR k hk; omega
        · omega
    have hkeep : Keeps F w wk := gk.trans kM (fun i _ h => by rcases h with rfl | rfl; exact hFh; exact hFw)
    have hup : ∀ k, (fun k => Fl k ∨ Up F we wf k) k → F k ∨ w.heap.size ≤ k := by
      rintro k (hk | hk | hk)
      · rcases hFl k hk with h | h
        · exact .inl h
        · exact .inr (by omega)
      · exact .inl hk
      · exact .inr (by omega)
    have hupR : ∀ k, Up R wb wc k → R k ∨ w.heap.size ≤ k := by
      rintro k (hk | hk)
      · exact .inl hk
      · exact .inr (by omega)
    have HP := Lib.hid hpool; have HU := Lib.hid hup; have HUR := Lib.hid hupR
    clear hpool hup hupR HS kM ma1 ma2 mid1 mid2 mw2
    go_wp2
    go_ret2
    exact ⟨rfl, ⟨_, _, HP.out, HU.out, HUR.out⟩, hkeep⟩
end Go.Proofs.Ytffnaigkdocpmac
