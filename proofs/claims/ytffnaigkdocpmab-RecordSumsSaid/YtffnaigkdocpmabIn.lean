/- The walks of crc.in, high, out. -/
import Derived.Test.YtffnaigkdocpmabTable
set_option linter.unusedVariables false
namespace Go.Proofs.Ytffnaigkdocpmab
open Go.RowKit Go.Lk Go.Crc

theorem xor8 {a b : Nat} (ha : a < 256) (hb : b < 256) : bits .xor .u8 (a : Int) (b : Int) = ((a ^^^ b : Nat) : Int) := u8_xor_nat a b ha hb

set_option maxHeartbeats 1000000 in
set_option maxRecDepth 100000 in
theorem in_at (r n cap : Nat) (a : Option Addr) (l : List Nat) (w : World) (hr : r < 2 ^ 32) (hn : n = l.length) (hl : ReadsN .u8 w a l) (hb : Bytes l) (hm : l.length ≤ 1000000) :
    Calls Try.prog 16 #[.int .u32 r, .slice a n cap] w fun e w' => e = .returned (.int .u32 (inns r l : Nat)) ∧ Keeps Nb w w' := by
  subst hn
  go_enter Try.func16, Try.ntmps16
  go_wp2_with fail
  refine (table_at _).mono ?_
  rintro e w1 ⟨cs, ht, rfl, K⟩
  have hb1 := block_alloc w1 (.cells Z38 38)
  go_wp2_with (first | (refine wp_alloc zero38 ?_) | (refine wp_storeAll (ds := cs) (g := w1.heap.size) agg38.size rfl rfl hb1 ht.1 (Tab.zero (stps 8)).1 ht.2.1 ?_))
  have hb2 := setRow_heap (w1.alloc (.cells Z38 38)) w1.heap.size Z38 cs 38 (0, 0) hb1
  have K2 := (K.alloc (.cells Z38 38)).setRow (g := w1.heap.size) (fun h => absurd h (by have := K.size; omega)) cs
  generalize (w1.alloc (.cells Z38 38)).setRow w1.heap.size cs = w2 at *
  generalize w1.heap.size = g at *
  replace hl := hl.nb K2
  clear hb1 K
  go_loop [0, 11] (fun x i => ∃ k : Nat, k ≤ l.length ∧ i = .int .i64 k ∧ x = .int .u32 (inns r (l.take k) : Nat)) (fun _ i => l.length - (intOf i).toNat)
  case atStart => exact ⟨0, by omega, rfl, rfl⟩
  case round =>
    obtain ⟨k, hk, rfl, rfl⟩ := hrel
    by_cases hlt : k < l.length
    · have hr' := inns_lt hr (hb.take k)
      rcases hl with rfl | ⟨b, off, rfl, hc⟩
      · simp at hlt
      have hck := hc k hlt
      have hx : ntn l k < 256 := hb _ (ntn_mem hlt)
      have HS : Hid (inns r (l.take (k + 1)) = inn (inns r (l.take k)) (ntn l k)) := by show _ = _; rw [takeN_snoc hlt, inns_append]; rfl
      clear hc
      generalize inns r (l.take k) = x at *
      generalize ntn l k = c at *
      have hj : x % 256 ^^^ c < 2 ^ 8 := Nat.xor_lt_two_pow (by omega) (by omega)
      have e1 : bits .xor .u8 ((x : Int) % 256) (c : Int) = ((x % 256 ^^^ c : Nat) : Int) := by rw [← xor8 (by omega) hx]; congr 1
      have hcell : w2.cell? ⟨g, x % 256 ^^^ c, none⟩ = some (.int .u32 (stps 8 (x % 256 ^^^ c) : Nat)) := by rw [cell_of_block hb2]; exact ht.2.2 _ hj
      have HI := Lib.hid (inn_tab (r := x) (x := c))
      have hs := stps_lt 8 (show x % 256 ^^^ c < 2 ^ 32 by omega)
      have HT := Lib.hid ht; have HB := Lib.hid hb2; clear ht hb2
      generalize x % 256 ^^^ c = j at *
      go_wp2
      go_round
      case rel =>
        refine ⟨k + 1, by omega, by go_num, val_int ?_⟩
        rw [HS.out, HI.out, ← xor32 hs (by omega)]; congr 1
      case measure => simp [intOf]; omega
    · go_wp2
      go_ret
      exact ⟨ret_int (by rw [List.take_of_length_le (by omega)]), K2⟩

def Z40 : Array Value := Array.replicate 256 (.int .u8 0)
theorem zero40 : (Try.prog.info? 40).map (·.zero) = some (some (.agg Z40)) := by kernel_rfl
theorem agg40 : AggT Try.prog 40 256 := ⟨by kernel_rfl, by kernel_rfl⟩
/-- The bytes by the highest bytes of their steps. -/
def Hig (k : Nat) (cs : Array Value) : Prop := cs.size = 256 ∧ (∀ v ∈ cs.toList, v.oneCell' = true) ∧ ∀ i, i < k → cs[hib i]? = some (.int .u8 (i : Nat))
theorem Hig.set {k : Nat} {cs : Array Value} (h : Hig k cs) (hk : k < 256) : Hig (k + 1) (cs.setIfInBounds (hib k) (.int .u8 (k : Nat))) := by
  obtain ⟨h1, h2, h3⟩ := h
  refine ⟨by simpa using h1, fun v hv => ?_, fun i hi => ?_⟩
  · rw [Array.toList_setIfInBounds] at hv
    rcases List.mem_or_eq_of_mem_set hv with h | rfl
    · exact h2 v h
    · rfl
  · rw [Array.getElem?_setIfInBounds]
    have := hib_lt hk
    by_cases e : hib k = hib i
    · rw [if_pos e, if_pos (by omega)]
      rw [hib_inj hk (by omega) e]
    · rw [if_neg e]
      exact h3 i (by rcases Nat.lt_or_ge i k with h | h; exact h; exact absurd (by rw [show i = k by omega]) e)
theorem Hig.zero : Hig 0 Z40 := ⟨by rw [Z40, Array.size_replicate], fun v hv => by rw [Z40, Array.toList_replicate] at hv; rw [List.eq_of_mem_replicate hv]; rfl, fun i hi => by omega⟩
def IsHig (w : World) (e : Ending) (w' : World) : Prop := ∃ cs, Hig 256 cs ∧ e = .returned (.agg cs) ∧ Keeps Nb w w'

set_option maxHeartbeats 1000000 in
set_option maxRecDepth 100000 in
theorem high_at (w : World) (cs : Array Value) (ht : Tab (stps 8) 256 cs) : Calls Try.prog 21 #[.agg cs] w (IsHig w) := by
  go_enter Try.func21, Try.ntmps21
  have hb0 := Lib.hid ((Keeps.refl Nb (w.alloc (.cells cs 38))).alloc (.cells Z40 40))
  have hb1 : ((w.alloc (.cells cs 38)).alloc (.cells Z40 40)).heap[w.heap.size]? = some (.cells cs 38 (0, 0)) := by rw [hb0.out.block _ (by show _ < (w.heap.push _).size; simp) (fun e => e)]; exact block_alloc _ _
  go_wp2_with (first | (refine wp_alloc zero40 ?_) | (refine wp_box (cs := cs) rfl ?_) | (refine wp_loadAll agg38 rfl hb1 ht.1 ?_))
  have hb2 : ((w.alloc (.cells cs 38)).alloc (.cells Z40 40)).heap[w.heap.size + 1]? = some (.cells Z40 40 (0, 0)) := by
    have := block_alloc (w.alloc (.cells cs 38)) (.cells Z40 40)
    rwa [World.size_alloc] at this
  have K0 := ((Keeps.refl Nb w).alloc (.cells cs 38)).alloc (.cells Z40 40)
  have HT := Lib.hid ht
  clear hb0 hb1 ht
  go_loopw [6] (fun i wr => ∃ (k : Nat) (hs : Array Value), k ≤ 256 ∧ i = .int .i64 k ∧ wr.heap[w.heap.size + 1]? = some (.cells hs 40 (0, 0)) ∧ Hig k hs ∧ Keeps Nb w wr) (fun i _ => 256 - (intOf i).toNat)
  case atStart => exact ⟨0, Z40, by omega, rfl, hb2, Hig.zero, K0⟩
  case round =>
    obtain ⟨k, hs, hk, rfl, hb, hh, K⟩ := hrel
    by_cases hlt : k < 256
    · have hlo := hib_lt hlt
      have hs8 := stps_lt 8 (show k < 2 ^ 32 by omega)
      have hck := HT.out.2.2 k hlt
      have e1 : ((stps 8 k : Nat) : Int) / 16777216 = ((hib k : Nat) : Int) := by show _ = ((stps 8 k / 2 ^ 24 : Nat) : Int); omega
      obtain ⟨v0, hc⟩ : ∃ v, wr.cell? ⟨w.heap.size + 1, hib k, none⟩ = some v := ⟨_, by rw [cell_of_block hb, Array.getElem?_eq_getElem (by rw [hh.1]; exact hlo)]⟩
      have hf : wr.frozen? ⟨w.heap.size + 1, hib k, none⟩ = false := free_of_block hb
      have HH := Lib.hid hh; have HB := Lib.hid hb; clear hh hb hb2 K0
      have HS := Lib.hid (HH.out.set hlt)
      generalize hib k = j at *
      generalize stps 8 k = x at *
      go_wp2_with (first | (refine wp_index (k := .i64) (i := k) (v := .int .u32 x) Try.underlying38 (by kernel_rfl) (by kernel_rfl) rfl rfl hlt hck ?_))
      go_roundw
      case rel => exact ⟨k + 1, _, by omega, by go_num, block_setCell HB.out _, HS.out, K.setCell (p := ⟨w.heap.size + 1, j, none⟩) (fun h => absurd h (by show ¬ w.heap.size + 1 < _; omega)) _⟩
      case measure => simp [intOf]; omega
    · obtain rfl : k = 256 := by omega
      go_wp2_with (first | (refine wp_loadAll agg40 rfl hb hh.1 ?_) | (refine wp_storeAll (ds := hs) agg40.size rfl rfl hb hh.1 hh.1 hh.2.1 ?_))
      refine bodyPost_ret (results_all agg40 rfl _ rfl (setRow_heap wr (w.heap.size + 1) hs hs 40 (0, 0) hb) hh.1) rfl ⟨hs, hh, rfl, K.setRow (fun h => absurd h (by omega)) _⟩

end Go.Proofs.Ytffnaigkdocpmab
