/- few; the votes of a list, one by one; Links. -/
import Derived.Test.YtffnaigkdocpmacAdd2
set_option linter.unusedVariables false
set_option linter.unusedSimpArgs false
namespace Go.Pool
open Go.Lk Go.RowKit
variable {w w' : World} {R : Nat → Prop}
/-- The i-th vote of a list: where its cells lie. -/
theorem ListAt.vote {a : Option Addr} {n cp : Nat} {cs : List Ct} (h : ListAt w R a n cp cs) (hok : ∀ c ∈ cs, c.Ok) {i : Nat} {c : Ct} (hi : cs[i]? = some c) :
    ∃ b off s, a = some ⟨b, off, none⟩ ∧ SigAt w R c s ∧ Has w (some ⟨b, off + i * 101, none⟩) (sc c s) := by
  obtain ⟨h1, h2, h3, h0, xs, h4, h5, h6⟩ := h
  obtain ⟨s, A, B, hx, hA, hs⟩ := h5.get hok hi
  rcases h4 with h4 | ⟨b, off, ha, h4⟩
  · have := congrArg List.length hx
    have hl := sc_len (hok c (List.mem_of_getElem? hi)) s
    rw [h4] at this
    simp [hl] at this
    omega
  · refine ⟨b, off, s, ha, hs, .inr ⟨b, _, rfl, fun j v hj => ?_⟩⟩
    have hjl := (List.getElem?_eq_some_iff.1 hj).1
    rw [Nat.add_assoc]
    refine h4 _ v ?_
    rw [hx, List.getElem?_append_right (by omega), hA, Nat.add_sub_cancel_left, List.getElem?_append_left hjl]
    exact hj
theorem sc_has {b off : Nat} {c : Ct} {s : Value} (hc : c.Ok) (h : Has w (some ⟨b, off, none⟩) (sc c s)) :
    Has w (some ⟨b, off, none⟩) (vc c s) ∧ Has w (some ⟨b, off + 68, none⟩) (valsK HK c.key) ∧ w.cell? ⟨b, off + 100, none⟩ = some (.int .u64 (c.stake : Nat)) ∧ w.cell? ⟨b, off + 67, none⟩ = some s := by
  have lK : (valsK HK c.key).length = 32 := by rw [valsK_length hc.key.length]; rfl
  have lV := vc_len hc s
  have l1 : (valsK PK c.src).length = 33 := by rw [valsK_length hc.src.length]; rfl
  have l2 : (valsK PK c.tgt).length = 33 := by rw [valsK_length hc.tgt.length]; rfl
  unfold sc at h
  refine ⟨h.left, (h.right lV).left, ((h.right lV).right lK).one, ?_⟩
  have hv := h.left
  unfold vc at hv
  have := (((hv.tail).right l1).right l2).one
  simpa using this
def fewB (cs : List Ct) : Bool := cs.all (fun c => decide (c.sig.length ≤ 5000)) && decide (cs.length ≤ 60)
end Go.Pool
namespace Go.Proofs.Ytffnaigkdocpmac
open Go.RowKit Go.Lk Go.Pool

set_option maxHeartbeats 1000000 in
theorem few_at (R : Nat → Prop) (a : Option Addr) (cp : Nat) (cs : List Ct) (w : World) (h : ListAt w R a cs.length cp cs) (hok : ∀ c ∈ cs, c.Ok) :
    Calls Try.prog 8 #[.slice a cs.length cp] w fun e w' => e = .returned (.bool (fewB cs)) ∧ w = w' := by
  have hcp := h.2.1
  have hcm := h.2.2.1
  unfold maxLen at hcm
  have HG := Lib.hid (fun (i : Nat) (c : Ct) => h.vote hok (i := i) (c := c))
  have HO := Lib.hid hok
  clear h hok
  go_enter Try.func8, Try.ntmps8
  go_wp2
  go_loop [3] (fun i => ∃ k : Nat, k ≤ cs.length ∧ i = .int .i64 k ∧ (cs.take k).all (fun c => decide (c.sig.length ≤ 5000)) = true) (fun i => cs.length - (intOf i).toNat)
  case atStart => exact ⟨0, Nat.zero_le _, rfl, by simp⟩
  case round =>
    obtain ⟨k, hk, rfl, hall⟩ := hrel
    have HA := Lib.hid hall; clear hall
    by_cases hlt : k < cs.length
    · obtain ⟨b, off, s, ha, hs, hh⟩ := HG.out _ _ (List.getElem?_eq_getElem hlt)
      subst ha
      obtain ⟨-, -, -, h67⟩ := sc_has (HO.out _ (List.getElem_mem hlt)) hh
      obtain ⟨sa, scp, rfl, hc1, hc2, -, -, -⟩ := hs
      have hall := HA.out
      unfold maxLen at hc2
      have HT := Lib.hid (show (cs.take (k + 1)).all (fun c => decide (c.sig.length ≤ 5000)) = decide (cs[k].sig.length ≤ 5000) by
        rw [List.take_succ_eq_append_getElem hlt, List.all_append, hall]; simp)
      have HF := Lib.hid (fun h : ¬ cs[k].sig.length ≤ 5000 => (by
        unfold fewB
        have : cs.all (fun c => decide (c.sig.length ≤ 5000)) = false := by
          rw [List.all_eq_false]; exact ⟨cs[k], List.getElem_mem hlt, by simpa using h⟩
        rw [this]; rfl : fewB cs = false))
      clear hh hall
      generalize cs[k].sig.length = m at *
      go_wp2
      · go_ret
        refine ⟨ret_bool ?_, rfl⟩
        rw [HF.out (by omega)]
      · go_round
        case rel => exact ⟨k + 1, by omega, by go_num, by rw [HT.out]; simp; omega⟩
        case measure => simp [intOf]; omega
    · have hkl : k = cs.length := by omega
      subst hkl
      have hall := HA.out
      rw [List.take_of_length_le (Nat.le_refl _)] at hall
      have HF := Lib.hid (show fewB cs = decide (cs.length ≤ 60) by unfold fewB; rw [hall]; rfl)
      clear hall
      go_wp2
      go_ret
      refine ⟨ret_bool ?_, rfl⟩
      rw [HF.out, decide_eq_decide]
      omega

def Linked (w : World) (cs : List Ct) (en : Ending) (w' : World) : Prop := ∃ v, en = .returned v ∧ w'.ownsRow w.heap.size 40 66 v (lks cs).length ((lks cs).flatMap (valsK LK)) ∧ Keeps Nb w w'
theorem links_at (p : Nat) (F R : Nat → Prop) (cs : List Ct) (w : World) (h : PoolAt w p F R cs) :
    Calls Try.prog 16 #[.pointer (some ⟨p, 0, none⟩)] w (Linked w cs) := by
  have hll := lks_len cs
  have hlen := h.len
  obtain ⟨⟨va, vl, mh, mw, hb, -, ⟨l1, l2, a, c, rfl, h1, h2, h3, -, -⟩, -⟩, -⟩ := h
  have CC := Lib.hid (cloneL_at a (lks cs).length c ((lks cs).flatMap (valsK LK)) w ⟨h3, l1, l2⟩ ⟨h1, h2⟩ (by omega))
  have hc : w.cell? ⟨p, 1, none⟩ = some (.slice a (lks cs).length c) := by rw [cell_of_block hb]; rfl
  have HB := Lib.hid hb; clear hb h3 l1 l2
  go_enter Try.func16, Try.ntmps16
  go_wp2_with fail
  refine (there_at p va _ _ mh _ HB.out).mono ?_; rintro e w' ⟨rfl, rfl⟩
  go_wp2_with fail
  refine CC.out.mono ?_
  rintro _ w1 ⟨v, rfl, ho, k⟩
  go_wp2
  go_ret
  exact ⟨v, rfl, ho, k⟩
end Go.Proofs.Ytffnaigkdocpmac
