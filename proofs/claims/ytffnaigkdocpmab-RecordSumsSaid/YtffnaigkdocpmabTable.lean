/- The walk of crc.table: what each byte does to an empty register. -/
import Derived.Test.YtffnaigkdocpmabRows
import Derived.Test.YtffnaigkdocpmabRow
import Derived.Test.YtffnaigkdocpmabMath
set_option linter.unusedVariables false
namespace Go.Proofs.Ytffnaigkdocpmab
open Go.RowKit Go.Lk Go.Crc

def Z38 : Array Value := Array.replicate 256 (.int .u32 0)
theorem zero38 : (Try.prog.info? 38).map (·.zero) = some (some (.agg Z38)) := by kernel_rfl
theorem agg38 : AggT Try.prog 38 256 := ⟨by kernel_rfl, by kernel_rfl⟩
/-- An array of 256 numbers. -/
def Tab (f : Nat → Nat) (k : Nat) (cs : Array Value) : Prop := cs.size = 256 ∧ (∀ v ∈ cs.toList, v.oneCell' = true) ∧ ∀ i, i < k → cs[i]? = some (.int .u32 (f i : Nat))
theorem Tab.set {f : Nat → Nat} {k : Nat} {cs : Array Value} (h : Tab f k cs) (hk : k < 256) : Tab f (k + 1) (cs.setIfInBounds k (.int .u32 (f k : Nat))) := by
  obtain ⟨h1, h2, h3⟩ := h
  refine ⟨by simpa using h1, fun v hv => ?_, fun i hi => ?_⟩
  · rw [Array.toList_setIfInBounds] at hv
    rcases List.mem_or_eq_of_mem_set hv with h | rfl
    · exact h2 v h
    · rfl
  · rw [Array.getElem?_setIfInBounds]
    split
    · rename_i e; subst e; rw [if_pos (by omega)]
    · exact h3 i (by omega)
theorem Tab.zero (f : Nat → Nat) : Tab f 0 Z38 := ⟨by rw [Z38, Array.size_replicate], fun v hv => by rw [Z38, Array.toList_replicate] at hv; rw [List.eq_of_mem_replicate hv]; rfl, fun i hi => by omega⟩

theorem xor32 {a b : Nat} (ha : a < 2 ^ 32) (hb : b < 2 ^ 32) : bits .xor .u32 (a : Int) (b : Int) = ((a ^^^ b : Nat) : Int) := u32_xor_nat a b ha hb
theorem and1 {r : Nat} (hr : r < 2 ^ 32) : bits .and .u32 (r : Int) 1 = ((r % 2 : Nat) : Int) := by
  rw [show (1 : Int) = ((1 : Nat) : Int) from rfl, u32_and_nat r 1 hr (by decide), Nat.and_one_is_mod]
/-- A step, as the walk spells it. -/
theorem stp_bits {r : Nat} (hr : r < 2 ^ 32) :
    bits .xor .u32 ((r : Int) / 2) (bits .and .u32 2197175160 (-bits .and .u32 (r : Int) 1 % 4294967296)) = ((stp r : Nat) : Int) := by
  rw [and1 hr, show ((r : Int) / 2) = ((r / 2 : Nat) : Int) by omega]
  rcases Nat.mod_two_eq_zero_or_one r with h | h
  · rw [h, show (-((0 : Nat) : Int) % 4294967296) = ((0 : Nat) : Int) by decide, show (2197175160 : Int) = ((2197175160 : Nat) : Int) from rfl, u32_and_nat _ _ (by decide) (by decide), Nat.and_zero, xor32 (by omega) (by decide), Nat.xor_zero]
    unfold stp; rw [if_neg (by omega), Nat.xor_zero]
  · rw [h, show (-((1 : Nat) : Int) % 4294967296) = ((4294967295 : Nat) : Int) by decide, show (2197175160 : Int) = ((2197175160 : Nat) : Int) from rfl, u32_and_nat _ _ (by decide) (by decide), show 2197175160 &&& 4294967295 = 2197175160 by decide, xor32 (by omega) (by decide)]
    unfold stp; rw [if_pos h]; rfl

/-- A table comes back. -/
def IsTab (w : World) (e : Ending) (w' : World) : Prop := ∃ cs, Tab (stps 8) 256 cs ∧ e = .returned (.agg cs) ∧ Keeps Nb w w'

set_option maxHeartbeats 1000000 in
set_option maxRecDepth 100000 in
theorem table_at (w : World) : Calls Try.prog 20 #[] w (IsTab w) := by
  go_enter Try.func20, Try.ntmps20
  go_wp2_with (refine wp_alloc zero38 ?_)
  go_loopw [4] (fun i wr => ∃ (k : Nat) (cs : Array Value), k ≤ 256 ∧ i = .int .i64 k ∧ wr.heap[w.heap.size]? = some (.cells cs 38 (0, 0)) ∧ Tab (stps 8) k cs ∧ Keeps Nb w wr) (fun i _ => 256 - (intOf i).toNat)
  case atStart => exact ⟨0, Z38, by omega, rfl, block_alloc _ _, Tab.zero _, (Keeps.refl _ _).alloc _⟩
  case round =>
    obtain ⟨k, cs, hk, rfl, hb, ht, K⟩ := hrel
    by_cases hlt : k < 256
    · obtain ⟨v0, hc⟩ : ∃ v, wr.cell? ⟨w.heap.size, k, none⟩ = some v := ⟨_, by rw [cell_of_block hb, Array.getElem?_eq_getElem (by rw [ht.1]; exact hlt)]⟩
      have hf : wr.frozen? ⟨w.heap.size, k, none⟩ = false := free_of_block hb
      have HT := Lib.hid ht; have HB := Lib.hid hb; clear ht hb
      go_wp2
      go_loop [2, 9] (fun r i => ∃ j : Nat, j ≤ 8 ∧ i = .int .i64 j ∧ r = .int .u32 (stps j k : Nat)) (fun _ i => 8 - (intOf i).toNat)
      case atStart => exact ⟨0, by omega, rfl, rfl⟩
      case round =>
        obtain ⟨j, hj, rfl, rfl⟩ := hrel
        have hr := stps_lt j (show k < 2 ^ 32 by omega)
        have HS := Lib.hid (stps_succ j k)
        by_cases hlj : j < 8
        · generalize stps j k = r at *
          go_wp2
          go_round
          case rel => exact ⟨j + 1, by omega, by go_num, by rw [HS.out, stp_bits hr]⟩
          case measure => simp [intOf]; omega
        · obtain rfl : j = 8 := by omega
          go_wp2
          go_roundw
          case rel => exact ⟨k + 1, _, by omega, by go_num, block_setCell HB.out _, HT.out.set hlt, K.setCell (p := ⟨w.heap.size, k, none⟩) (fun h => absurd h (Nat.lt_irrefl _)) _⟩
          case measure => simp [intOf]; omega
    · obtain rfl : k = 256 := by omega
      go_wp2_with (first | (refine wp_loadAll agg38 rfl hb ht.1 ?_) | (refine wp_storeAll (ds := cs) agg38.size rfl rfl hb ht.1 ht.1 ht.2.1 ?_))
      refine bodyPost_ret (results_all agg38 rfl _ rfl (setRow_heap wr w.heap.size cs cs 38 (0, 0) hb) ht.1) rfl ⟨cs, ht, rfl, K.setRow (fun h => absurd h (Nat.lt_irrefl _)) _⟩
end Go.Proofs.Ytffnaigkdocpmab
