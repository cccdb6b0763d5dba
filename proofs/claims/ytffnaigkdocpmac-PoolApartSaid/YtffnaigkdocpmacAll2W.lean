/- The closure of All: an iterator over a row of votes; each round is handed a vote with bytes of its own. -/
import Derived.Test.YtffnaigkdocpmacOfW
import Derived.Test.YtffnaigkdocpmacRng
import Derived.OwnWalkIn
import Derived.TacticsInMore
import Derived.LoopNIn
import Derived.LoopIn
import Derived.Shelf.Abstract
set_option linter.unusedVariables false
set_option linter.unusedSimpArgs false
namespace Go.Proofs.Ytffnaigkdocpmac
open Go.RowKit Go.Lk Go.Pool

/-- What a round is handed. -/
def Handed (w : World) (cs : List Ct) (i : Nat) (args : Array Value) (W : World) : Prop :=
  ∃ c s, cs[i]? = some c ∧ args = #[.int .i64 (i : Nat), .agg (sc c s).toArray] ∧ W.ownsRow (w.heap.size + 2) 5 1 s c.sig.length (c.sig.map fun x => .int .u8 (x : Nat)) ∧ SigAt W (fun k => w.heap.size + 2 ≤ k ∧ k < W.heap.size) c s
attribute [local go_sem] Oper.semAt_some
set_option maxRecDepth 100000 in
set_option maxHeartbeats 2000000 in
theorem all2_iter (n : Nat) (hn : 1 ≤ n) (g : Nat) (v : Value) (cs : List Ct) (Rr S : Nat → Prop) (w : World) (a0 : Option Addr) (cp : Nat) (hg : w.heap[g]? = some (.cells #[.slice a0 cs.length cp] 22 (0, 0))) (hla : ListAt w Rr a0 cs.length cp cs)
    (hok : ∀ c ∈ cs, c.Ok) (hsg : ∀ c ∈ cs, c.sig.length ≤ 1000000) (hS : ∀ b, b < w.heap.size → S b → b ≠ g ∧ ¬ Rr b) :
    Iter Try.prog n 41 #[.pointer (some ⟨g, 0, none⟩)] cs.length (Handed w cs) S w := by
  intro l J Jx W kW hW2 hJ hJx hY h0
  have hgl := lt_of_block hg
  have hgW := kW.nb hg
  have hlW := hla.keeps kW (fun _ _ e => e)
  have hc1 := hlW.2.1
  have hm1 := hlW.2.2.1
  unfold maxLen at hm1
  have c0 : W.cell? ⟨g, 0, none⟩ = some (.slice a0 cs.length cp) := by rw [cell_of_block hgW]; rfl
  have HLA := Lib.hid hlW; have HOK := Lib.hid hok; have HSG := Lib.hid hsg; have HS := Lib.hid hS; have HJ := Lib.hid hJ; have HJX := Lib.hid hJx; have HY := Lib.hid hY; have H0 := Lib.hid h0
  have HL2 := Lib.hid hla
  clear hgW hlW hla hok hsg hS hJ hJx hY h0 hg
  obtain ⟨z, hz0, hz1⟩ := zero35t
  refine callsIn_of_wp Try.func41 rfl trivial ?_ rfl
  simp only [Try.ntmps41, List.size_toArray, List.length_cons, List.length_nil, Nat.reduceAdd, Nat.reduceSub, Array.replicate_succ, Array.replicate_zero, List.push_toArray, List.append_toArray, List.nil_append, List.cons_append]
  gi_wp2
  gi_loopw [7] (fun i wr => ∃ k : Nat, k ≤ cs.length ∧ i = .int .i64 k ∧ J k wr ∧ Keeps S W wr) (fun i _ => cs.length - (intOf i).toNat)
  case atStart => exact ⟨0, Nat.zero_le _, rfl, H0.out, Keeps.refl _ _⟩
  case round =>
    obtain ⟨k, hk, rfl, hj, kw⟩ := hrel
    by_cases hlt : k < cs.length
    · have i1 : (k : Int) < (cs.length : Int) := by omega
      have hlr := HLA.out.keeps kw (fun b hb e => (HS.out b (HL2.out.2.2.2.1 b hb) e).2 hb)
      obtain ⟨b, off, ha, hv⟩ := votes_at hlr HOK.out
      have hne : cs ≠ [] := by rintro rfl; simp at hlt
      have ha := ha hne
      subst ha
      obtain ⟨s1, hv1⟩ := hv k cs[k] (List.getElem?_eq_getElem hlt)
      have hin := List.getElem_mem hlt
      have ok1 := HOK.out _ hin
      have hsl := HSG.out _ hin
      have HC := Lib.hid (List.getElem?_eq_getElem hlt : cs[k]? = some cs[k])
      generalize cs[k] = c at *
      have lw1 := sc_len ok1 s1
      have one1 := Lib.hid (sc_one c s1 hv1.sig.one)
      have VV := Lib.hid (fun (u : World) (h : Keeps Nb wr u) => hv1.nb h)
      have OK1 := Lib.hid ok1; have KW := Lib.hid kw; have HJJ := Lib.hid hj
      clear hv1 ok1 hv hlr hin hj kw
      repeat (first | (with_reducible refine stop_region ?_) | (with_reducible refine stop_range ?_) | gi_step)
      refine at_out (wpIn_wide.2 ?_)
      go_wp2_with (first | go_skip | (with_reducible refine stop_load (t := 27) ?_) | (with_reducible refine stop_load (t := 28) ?_) | (with_reducible refine stop_load (t := 30) ?_) | (with_reducible refine stop_load (t := 33) ?_) | (with_reducible refine stop_load (t := 35) ?_) | (with_reducible refine stop_load (t := 40) ?_) | (with_reducible refine stop_load (t := 76) ?_) | (with_reducible refine stop_load (t := 77) ?_) | (with_reducible refine stop_box (t := 27) ?_) | (with_reducible refine stop_box (t := 28) ?_) | (with_reducible refine stop_box (t := 30) ?_) | (with_reducible refine stop_box (t := 33) ?_) | (with_reducible refine stop_box (t := 35) ?_) | (with_reducible refine stop_box (t := 40) ?_) | (with_reducible refine stop_box (t := 76) ?_) | (with_reducible refine stop_box (t := 77) ?_) | (with_reducible refine stop_alloc (t := 27) ?_) | (with_reducible refine stop_alloc (t := 28) ?_) | (with_reducible refine stop_alloc (t := 30) ?_) | (with_reducible refine stop_alloc (t := 33) ?_) | (with_reducible refine stop_alloc (t := 35) ?_) | (with_reducible refine stop_alloc (t := 40) ?_) | (with_reducible refine stop_alloc (t := 76) ?_) | (with_reducible refine stop_alloc (t := 77) ?_) | (with_reducible refine stop_alloc (t := 52) ?_) | (with_reducible refine stop_alloc (t := 68) ?_) | (with_reducible refine stop_alloc (t := 72) ?_) | (with_reducible refine stop_build (t := 27) ?_) | (with_reducible refine stop_build (t := 28) ?_) | (with_reducible refine stop_build (t := 30) ?_) | (with_reducible refine stop_build (t := 33) ?_) | (with_reducible refine stop_build (t := 35) ?_) | (with_reducible refine stop_build (t := 40) ?_) | (with_reducible refine stop_build (t := 76) ?_) | (with_reducible refine stop_build (t := 77) ?_) | (with_reducible refine stop_build (t := 52) ?_) | (with_reducible refine stop_build (t := 68) ?_) | (with_reducible refine stop_store (t := 27) ?_) | (with_reducible refine stop_store (t := 28) ?_) | (with_reducible refine stop_store (t := 30) ?_) | (with_reducible refine stop_store (t := 33) ?_) | (with_reducible refine stop_store (t := 35) ?_) | (with_reducible refine stop_store (t := 40) ?_) | (with_reducible refine stop_store (t := 76) ?_) | (with_reducible refine stop_store (t := 77) ?_) | (with_reducible refine stop_store (t := 22) ?_) | (with_reducible refine stop_store (t := 31) ?_) | (with_reducible refine stop_store (t := 47) ?_) | (with_reducible refine stop_store (t := 52) ?_) | (with_reducible refine stop_store (t := 68) ?_) | (with_reducible refine stop_store (t := 72) ?_) | (with_reducible refine stop_lookup ?_) | (with_reducible refine stop_buildSlice ?_) | (with_reducible refine stop_app ?_) | (with_reducible refine stop_mapEntry ?_) | (with_reducible refine stop_eql (t := 28) ?_) | (with_reducible refine stop_eql (t := 40) ?_) | (with_reducible refine stop_neq (t := 28) ?_) | (with_reducible refine stop_neq (t := 40) ?_))
      repeat (first | (with_reducible refine stop_region ?_) | (with_reducible refine stop_range ?_) | gi_step)
      refine at_out (wpIn_wide.2 ?_)
      go_wp2_with (first | go_skip | (with_reducible refine stop_load (t := 27) ?_) | (with_reducible refine stop_load (t := 28) ?_) | (with_reducible refine stop_load (t := 30) ?_) | (with_reducible refine stop_load (t := 33) ?_) | (with_reducible refine stop_load (t := 35) ?_) | (with_reducible refine stop_load (t := 40) ?_) | (with_reducible refine stop_load (t := 76) ?_) | (with_reducible refine stop_load (t := 77) ?_) | (with_reducible refine stop_box (t := 27) ?_) | (with_reducible refine stop_box (t := 28) ?_) | (with_reducible refine stop_box (t := 30) ?_) | (with_reducible refine stop_box (t := 33) ?_) | (with_reducible refine stop_box (t := 35) ?_) | (with_reducible refine stop_box (t := 40) ?_) | (with_reducible refine stop_box (t := 76) ?_) | (with_reducible refine stop_box (t := 77) ?_) | (with_reducible refine stop_alloc (t := 27) ?_) | (with_reducible refine stop_alloc (t := 28) ?_) | (with_reducible refine stop_alloc (t := 30) ?_) | (with_reducible refine stop_alloc (t := 33) ?_) | (with_reducible refine stop_alloc (t := 35) ?_) | (with_reducible refine stop_alloc (t := 40) ?_) | (with_reducible refine stop_alloc (t := 76) ?_) | (with_reducible refine stop_alloc (t := 77) ?_) | (with_reducible refine stop_alloc (t := 52) ?_) | (with_reducible refine stop_alloc (t := 68) ?_) | (with_reducible refine stop_alloc (t := 72) ?_) | (with_reducible refine stop_build (t := 27) ?_) | (with_reducible refine stop_build (t := 28) ?_) | (with_reducible refine stop_build (t := 30) ?_) | (with_reducible refine stop_build (t := 33) ?_) | (with_reducible refine stop_build (t := 35) ?_) | (with_reducible refine stop_build (t := 40) ?_) | (with_reducible refine stop_build (t := 76) ?_) | (with_reducible refine stop_build (t := 77) ?_) | (with_reducible refine stop_build (t := 52) ?_) | (with_reducible refine stop_build (t := 68) ?_) | (with_reducible refine stop_store (t := 27) ?_) | (with_reducible refine stop_store (t := 28) ?_) | (with_reducible refine stop_store (t := 30) ?_) | (with_reducible refine stop_store (t := 33) ?_) | (with_reducible refine stop_store (t := 35) ?_) | (with_reducible refine stop_store (t := 40) ?_) | (with_reducible refine stop_store (t := 76) ?_) | (with_reducible refine stop_store (t := 77) ?_) | (with_reducible refine stop_store (t := 22) ?_) | (with_reducible refine stop_store (t := 31) ?_) | (with_reducible refine stop_store (t := 47) ?_) | (with_reducible refine stop_store (t := 52) ?_) | (with_reducible refine stop_store (t := 68) ?_) | (with_reducible refine stop_store (t := 72) ?_) | (with_reducible refine stop_lookup ?_) | (with_reducible refine stop_buildSlice ?_) | (with_reducible refine stop_app ?_) | (with_reducible refine stop_mapEntry ?_) | (with_reducible refine stop_eql (t := 28) ?_) | (with_reducible refine stop_eql (t := 40) ?_) | (with_reducible refine stop_neq (t := 28) ?_) | (with_reducible refine stop_neq (t := 40) ?_))
      refine at_out (wpList_val (v := .agg (sc c s1).toArray) rfl (rn_loadH aggS (by rfl) (VV.out _ (Keeps.refl _ _)).whole lw1) ?_)
      simp only [Nat.reduceAdd, Nat.zero_add, Act.put, List.setIfInBounds_toArray, List.set_cons_succ, List.set_cons_zero]
      go_wp2_with (first | go_skip | (with_reducible refine stop_load (t := 27) ?_) | (with_reducible refine stop_load (t := 28) ?_) | (with_reducible refine stop_load (t := 30) ?_) | (with_reducible refine stop_load (t := 33) ?_) | (with_reducible refine stop_load (t := 35) ?_) | (with_reducible refine stop_load (t := 40) ?_) | (with_reducible refine stop_load (t := 76) ?_) | (with_reducible refine stop_load (t := 77) ?_) | (with_reducible refine stop_box (t := 27) ?_) | (with_reducible refine stop_box (t := 28) ?_) | (with_reducible refine stop_box (t := 30) ?_) | (with_reducible refine stop_box (t := 33) ?_) | (with_reducible refine stop_box (t := 35) ?_) | (with_reducible refine stop_box (t := 40) ?_) | (with_reducible refine stop_box (t := 76) ?_) | (with_reducible refine stop_box (t := 77) ?_) | (with_reducible refine stop_alloc (t := 27) ?_) | (with_reducible refine stop_alloc (t := 28) ?_) | (with_reducible refine stop_alloc (t := 30) ?_) | (with_reducible refine stop_alloc (t := 33) ?_) | (with_reducible refine stop_alloc (t := 35) ?_) | (with_reducible refine stop_alloc (t := 40) ?_) | (with_reducible refine stop_alloc (t := 76) ?_) | (with_reducible refine stop_alloc (t := 77) ?_) | (with_reducible refine stop_alloc (t := 52) ?_) | (with_reducible refine stop_alloc (t := 68) ?_) | (with_reducible refine stop_alloc (t := 72) ?_) | (with_reducible refine stop_build (t := 27) ?_) | (with_reducible refine stop_build (t := 28) ?_) | (with_reducible refine stop_build (t := 30) ?_) | (with_reducible refine stop_build (t := 33) ?_) | (with_reducible refine stop_build (t := 35) ?_) | (with_reducible refine stop_build (t := 40) ?_) | (with_reducible refine stop_build (t := 76) ?_) | (with_reducible refine stop_build (t := 77) ?_) | (with_reducible refine stop_build (t := 52) ?_) | (with_reducible refine stop_build (t := 68) ?_) | (with_reducible refine stop_store (t := 27) ?_) | (with_reducible refine stop_store (t := 28) ?_) | (with_reducible refine stop_store (t := 30) ?_) | (with_reducible refine stop_store (t := 33) ?_) | (with_reducible refine stop_store (t := 35) ?_) | (with_reducible refine stop_store (t := 40) ?_) | (with_reducible refine stop_store (t := 76) ?_) | (with_reducible refine stop_store (t := 77) ?_) | (with_reducible refine stop_store (t := 22) ?_) | (with_reducible refine stop_store (t := 31) ?_) | (with_reducible refine stop_store (t := 47) ?_) | (with_reducible refine stop_store (t := 52) ?_) | (with_reducible refine stop_store (t := 68) ?_) | (with_reducible refine stop_store (t := 72) ?_) | (with_reducible refine stop_lookup ?_) | (with_reducible refine stop_buildSlice ?_) | (with_reducible refine stop_app ?_) | (with_reducible refine stop_mapEntry ?_) | (with_reducible refine stop_eql (t := 28) ?_) | (with_reducible refine stop_eql (t := 40) ?_) | (with_reducible refine stop_neq (t := 28) ?_) | (with_reducible refine stop_neq (t := 40) ?_))
      refine at_out (valloc hz0 ?_); intro g4 w3 n3
      simp only [Nat.reduceAdd, Nat.zero_add, Act.put, List.setIfInBounds_toArray, List.set_cons_succ, List.set_cons_zero]
      go_wp2_with (first | go_skip | (with_reducible refine stop_load (t := 27) ?_) | (with_reducible refine stop_load (t := 28) ?_) | (with_reducible refine stop_load (t := 30) ?_) | (with_reducible refine stop_load (t := 33) ?_) | (with_reducible refine stop_load (t := 35) ?_) | (with_reducible refine stop_load (t := 40) ?_) | (with_reducible refine stop_load (t := 76) ?_) | (with_reducible refine stop_load (t := 77) ?_) | (with_reducible refine stop_box (t := 27) ?_) | (with_reducible refine stop_box (t := 28) ?_) | (with_reducible refine stop_box (t := 30) ?_) | (with_reducible refine stop_box (t := 33) ?_) | (with_reducible refine stop_box (t := 35) ?_) | (with_reducible refine stop_box (t := 40) ?_) | (with_reducible refine stop_box (t := 76) ?_) | (with_reducible refine stop_box (t := 77) ?_) | (with_reducible refine stop_alloc (t := 27) ?_) | (with_reducible refine stop_alloc (t := 28) ?_) | (with_reducible refine stop_alloc (t := 30) ?_) | (with_reducible refine stop_alloc (t := 33) ?_) | (with_reducible refine stop_alloc (t := 35) ?_) | (with_reducible refine stop_alloc (t := 40) ?_) | (with_reducible refine stop_alloc (t := 76) ?_) | (with_reducible refine stop_alloc (t := 77) ?_) | (with_reducible refine stop_alloc (t := 52) ?_) | (with_reducible refine stop_alloc (t := 68) ?_) | (with_reducible refine stop_alloc (t := 72) ?_) | (with_reducible refine stop_build (t := 27) ?_) | (with_reducible refine stop_build (t := 28) ?_) | (with_reducible refine stop_build (t := 30) ?_) | (with_reducible refine stop_build (t := 33) ?_) | (with_reducible refine stop_build (t := 35) ?_) | (with_reducible refine stop_build (t := 40) ?_) | (with_reducible refine stop_build (t := 76) ?_) | (with_reducible refine stop_build (t := 77) ?_) | (with_reducible refine stop_build (t := 52) ?_) | (with_reducible refine stop_build (t := 68) ?_) | (with_reducible refine stop_store (t := 27) ?_) | (with_reducible refine stop_store (t := 28) ?_) | (with_reducible refine stop_store (t := 30) ?_) | (with_reducible refine stop_store (t := 33) ?_) | (with_reducible refine stop_store (t := 35) ?_) | (with_reducible refine stop_store (t := 40) ?_) | (with_reducible refine stop_store (t := 76) ?_) | (with_reducible refine stop_store (t := 77) ?_) | (with_reducible refine stop_store (t := 22) ?_) | (with_reducible refine stop_store (t := 31) ?_) | (with_reducible refine stop_store (t := 47) ?_) | (with_reducible refine stop_store (t := 52) ?_) | (with_reducible refine stop_store (t := 68) ?_) | (with_reducible refine stop_store (t := 72) ?_) | (with_reducible refine stop_lookup ?_) | (with_reducible refine stop_buildSlice ?_) | (with_reducible refine stop_app ?_) | (with_reducible refine stop_mapEntry ?_) | (with_reducible refine stop_eql (t := 28) ?_) | (with_reducible refine stop_eql (t := 40) ?_) | (with_reducible refine stop_neq (t := 28) ?_) | (with_reducible refine stop_neq (t := 40) ?_))
      refine at_out (wpList_skipE rfl (re_store (v := .agg (sc c s1).toArray) (n := 101) aggS.size (by rfl) (by rfl) n3.blk (by simpa [Value.cells] using lw1) (by simp [hz1]) (by simpa [Value.cells] using one1.out)) ?_)
      intro w4 s4
      simp only [Nat.reduceAdd, Nat.zero_add, Act.put, List.setIfInBounds_toArray, List.set_cons_succ, List.set_cons_zero]
      rw [splice_all (by rw [hz1]; simpa [Value.cells] using lw1)] at s4
      have q4 : Keeps Nb wr w4 := n3.k.own (k := g4) n3.ge s4.k
      have hg4 : wr.heap.size ≤ g4 := n3.ge
      have hgb := s4.blk
      have KWz := KW.out.size
      clear n3 s4
      go_wp2
      repeat (first | (with_reducible refine stop_region ?_) | (with_reducible refine stop_range ?_) | gi_step)
      refine at_out (wpIn_wide.2 ?_)
      have hsg := (VV.out _ q4).sig
      obtain ⟨sa, scap, rfl, r1, r2, r3, r4, r5⟩ := hsg
      have h67 : w4.cell? ⟨g4, 67, none⟩ = some (.slice sa c.sig.length scap) := by
        have := (sc_has OK1.out (b := g4) (off := 0) (s := .slice sa c.sig.length scap) (by simpa [Value.cells] using has_block hgb)).2.2.2
        simpa using this
      have CB := Lib.hid (cloneB_at sa c.sig.length scap (c.sig.map fun x => .int .u8 (x : Nat)) w4 ⟨r3.has, by simp, one_nats⟩ ⟨r1, r2⟩ hsl)
      have R4 := Lib.hid r4
      clear r3 r4 r5 r2
      go_wp2_with fail
      refine CB.out.mono ?_
      rintro _ w6 ⟨vs', rfl, hown, k6⟩
      have hgb6 := k6.nb hgb
      obtain ⟨va5, vc5, hv5, j1, j2, j3, j4⟩ := owns_has hown
      have o5 : vs'.cells = #[vs'] ∧ vs'.oneCell' = true := by rw [hv5]; exact ⟨rfl, rfl⟩
      have HV5 := Lib.hid hv5; clear hv5
      go_wp2_with (first | go_skip | (with_reducible refine stop_load (t := 27) ?_) | (with_reducible refine stop_load (t := 28) ?_) | (with_reducible refine stop_load (t := 30) ?_) | (with_reducible refine stop_load (t := 33) ?_) | (with_reducible refine stop_load (t := 35) ?_) | (with_reducible refine stop_load (t := 40) ?_) | (with_reducible refine stop_load (t := 76) ?_) | (with_reducible refine stop_load (t := 77) ?_) | (with_reducible refine stop_box (t := 27) ?_) | (with_reducible refine stop_box (t := 28) ?_) | (with_reducible refine stop_box (t := 30) ?_) | (with_reducible refine stop_box (t := 33) ?_) | (with_reducible refine stop_box (t := 35) ?_) | (with_reducible refine stop_box (t := 40) ?_) | (with_reducible refine stop_box (t := 76) ?_) | (with_reducible refine stop_box (t := 77) ?_) | (with_reducible refine stop_alloc (t := 27) ?_) | (with_reducible refine stop_alloc (t := 28) ?_) | (with_reducible refine stop_alloc (t := 30) ?_) | (with_reducible refine stop_alloc (t := 33) ?_) | (with_reducible refine stop_alloc (t := 35) ?_) | (with_reducible refine stop_alloc (t := 40) ?_) | (with_reducible refine stop_alloc (t := 76) ?_) | (with_reducible refine stop_alloc (t := 77) ?_) | (with_reducible refine stop_alloc (t := 52) ?_) | (with_reducible refine stop_alloc (t := 68) ?_) | (with_reducible refine stop_alloc (t := 72) ?_) | (with_reducible refine stop_build (t := 27) ?_) | (with_reducible refine stop_build (t := 28) ?_) | (with_reducible refine stop_build (t := 30) ?_) | (with_reducible refine stop_build (t := 33) ?_) | (with_reducible refine stop_build (t := 35) ?_) | (with_reducible refine stop_build (t := 40) ?_) | (with_reducible refine stop_build (t := 76) ?_) | (with_reducible refine stop_build (t := 77) ?_) | (with_reducible refine stop_build (t := 52) ?_) | (with_reducible refine stop_build (t := 68) ?_) | (with_reducible refine stop_store (t := 27) ?_) | (with_reducible refine stop_store (t := 28) ?_) | (with_reducible refine stop_store (t := 30) ?_) | (with_reducible refine stop_store (t := 33) ?_) | (with_reducible refine stop_store (t := 35) ?_) | (with_reducible refine stop_store (t := 40) ?_) | (with_reducible refine stop_store (t := 76) ?_) | (with_reducible refine stop_store (t := 77) ?_) | (with_reducible refine stop_store (t := 22) ?_) | (with_reducible refine stop_store (t := 31) ?_) | (with_reducible refine stop_store (t := 47) ?_) | (with_reducible refine stop_store (t := 52) ?_) | (with_reducible refine stop_store (t := 68) ?_) | (with_reducible refine stop_store (t := 72) ?_) | (with_reducible refine stop_lookup ?_) | (with_reducible refine stop_buildSlice ?_) | (with_reducible refine stop_app ?_) | (with_reducible refine stop_mapEntry ?_) | (with_reducible refine stop_eql (t := 28) ?_) | (with_reducible refine stop_eql (t := 40) ?_) | (with_reducible refine stop_neq (t := 28) ?_) | (with_reducible refine stop_neq (t := 40) ?_))
      refine at_out (wpList_skipE rfl (re_store (v := vs') (n := 1) (by kernel_rfl) (by rfl) (by rfl) hgb6 (by rw [o5.1]; rfl) (by simp [Value.cells, lw1]) (by rw [o5.1]; simpa using o5.2)) ?_)
      intro w7 s7
      rw [o5.1, show (Value.agg (sc c (.slice sa c.sig.length scap)).toArray).cells = (sc c (.slice sa c.sig.length scap)).toArray by simp [Value.cells], splice_sc OK1.out] at s7
      simp only [Nat.reduceAdd, Nat.zero_add, Act.put, List.setIfInBounds_toArray, List.set_cons_succ, List.set_cons_zero]
      have k4z := q4.size
      have k6z := k6.size
      have q7 : Keeps Nb wr w7 := (q4.trans_nb k6).own (k := g4) hg4 s7.k
      have g4lt := lt_of_block hgb
      have hown7 : w7.ownsRow (w.heap.size + 2) 5 1 vs' c.sig.length (c.sig.map fun x => .int .u8 (x : Nat)) := owns_mono (owns_keeps hown s7.k (fun b e e2 => by subst e2; omega)) (by omega)
      have sg : SigAt w7 (fun k => w.heap.size + 2 ≤ k ∧ k < w7.heap.size) c vs' := by
        refine ⟨va5, vc5, HV5.out, j1, j2, ?_, R4.out, fun b off e _ => ?_⟩
        · have h5 : ReadsN .u8 w6 va5 c.sig := owns_readsU (HV5.out ▸ hown)
          exact h5.keeps s7.k (fun b off e _ e2 => by have := (j4 b off e).2.2.1; omega)
        · have := j4 b off e; have := s7.k.size; omega
      obtain ⟨fn, tmps, assign, body, hy, hR⟩ := HY.out k #[.int .i64 (k : Nat), .agg (sc c vs').toArray] w7 (HJ.out _ _ _ HJJ.out q7) hlt ⟨c, vs', HC.out, rfl, hown7, sg⟩
      have ls' := sc_len OK1.out vs'
      have hb7 := has_block s7.blk
      have HR := Lib.hid hR
      clear CB hown j3 j4 s7 hgb6 k6 h67 hown7 sg hR
      go_wp2
      repeat (first | (with_reducible refine stop_region ?_) | (with_reducible refine stop_range ?_) | gi_step)
      refine at_out ?_
      gi_wp2_with (with_reducible refine stopi_load (t := 35) ?_)
      refine at_out (wide_val (l := none) (v := .agg (sc c vs').toArray) (by intro _ h; cases h) rfl (rn_loadH aggS (by rfl) hb7 ls') ?_)
      simp only [Nat.reduceAdd, Nat.zero_add, Act.put, List.setIfInBounds_toArray, List.set_cons_succ, List.set_cons_zero]
      gi_wp2
      refine HR.out.mono ?_
      rintro e W3 (⟨rfl, hJ3, hk3⟩ | ⟨rfl, hJx3⟩)
      · have KF : Keeps S W W3 := (KW.out.trans_nb q7).trans hk3 (fun i _ e => e)
        have HF := Lib.hid hJ3
        clear hJ3 hk3
        gi_wp2
        go_roundw
        case rel => exact ⟨k + 1, by omega, by go_num, HF.out, KF⟩
        case measure => simp [intOf]; omega
      · have HF := Lib.hid hJx3
        clear hJx3
        gi_wp2
        refine bodyPost_ret (results_none rfl _ _ _) rfl ?_
        exact ⟨⟨_, rfl⟩, .inr HF.out⟩
    · have hkl : k = cs.length := by omega
      subst hkl
      have HJJ := Lib.hid hj
      clear hj
      gi_wp2
      go_end0
      exact ⟨⟨_, rfl⟩, .inl HJJ.out⟩
end Go.Proofs.Ytffnaigkdocpmac
