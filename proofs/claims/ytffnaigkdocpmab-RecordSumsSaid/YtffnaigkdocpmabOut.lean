/- The walk of crc.out. -/
import Derived.Test.YtffnaigkdocpmabIn
set_option linter.unusedVariables false
namespace Go.Proofs.Ytffnaigkdocpmab
open Go.RowKit Go.Lk Go.Crc

set_option maxHeartbeats 1000000 in
set_option maxRecDepth 100000 in
theorem out_at (r n cap : Nat) (a : Option Addr) (l : List Nat) (w : World) (hr : r < 2 ^ 32) (hn : n = l.length) (hl : ReadsN .u8 w a l) (hb : Bytes l) (hm : l.length ≤ 1000000) :
    Calls Try.prog 17 #[.int .u32 r, .slice a n cap] w fun e w' => e = .returned (.int .u32 (outs r l : Nat)) ∧ Keeps Nb w w' := by
  subst hn
  go_enter Try.func17, Try.ntmps17
  go_wp2_with fail
  refine (table_at _).mono ?_
  rintro e w1 ⟨cs, ht, rfl, K⟩
  have hb1 := block_alloc w1 (.cells Z38 38)
  have hb2 := setRow_heap (w1.alloc (.cells Z38 38)) w1.heap.size Z38 cs 38 (0, 0) hb1
  have K2 := (K.alloc (.cells Z38 38)).setRow (g := w1.heap.size) (fun h => absurd h (by have := K.size; omega)) cs
  go_wp2_with (first | (refine wp_alloc zero38 ?_) | (refine wp_storeAll (ds := cs) (g := w1.heap.size) agg38.size rfl rfl hb1 ht.1 (Tab.zero (stps 8)).1 ht.2.1 ?_) | (refine wp_loadAll agg38 rfl hb2 ht.1 ?_) | (go_at_call 21; refine at_in ?_))
  generalize (w1.alloc (.cells Z38 38)).setRow w1.heap.size cs = w2 at *
  generalize w1.heap.size = g at *
  clear hb1 K
  refine at_out ((high_at _ cs ht).mono ?_)
  rintro e w3 ⟨hs, hh, rfl, K3⟩
  replace hb2 := (K3.block g (lt_of_block hb2) (fun e => e)).trans hb2
  replace K2 := K2.trans_nb K3
  clear K3
  have hb3 := block_alloc w3 (.cells Z40 40)
  have hb4 := setRow_heap (w3.alloc (.cells Z40 40)) w3.heap.size Z40 hs 40 (0, 0) hb3
  have hg3 : g < w3.heap.size := lt_of_block hb2
  have hb5 : ((w3.alloc (.cells Z40 40)).setRow w3.heap.size hs).heap[g]? = some (.cells cs 38 (0, 0)) := by
    rw [setRow_other _ _ _ _ (by omega), Below.heap_alloc _ _ _ hg3]; exact hb2
  have K4 := (K2.alloc (.cells Z40 40)).setRow (g := w3.heap.size) (fun h => absurd h (by have := K2.size; omega)) hs
  go_wp2_with (first | (refine wp_alloc zero40 ?_) | (refine wp_storeAll (ds := hs) (g := w3.heap.size) agg40.size rfl rfl hb3 hh.1 Hig.zero.1 hh.2.1 ?_))
  generalize (w3.alloc (.cells Z40 40)).setRow w3.heap.size hs = w4 at *
  generalize w3.heap.size = g2 at *
  replace hl := hl.nb K4
  clear hb2 hb3 K2 hg3
  go_loopw [0, 7] (fun x i wr => ∃ k : Nat, k ≤ l.length ∧ i = .int .i64 k ∧ x = .int .u32 (outs r (l.drop k) : Nat) ∧ Drew w4 wr) (fun _ i _ => (intOf i).toNat)
  case atStart => exact ⟨l.length, by omega, rfl, by rw [List.drop_of_length_le (by omega)]; rfl, Drew.refl _⟩
  case round =>
    obtain ⟨k, hk, rfl, rfl, hd⟩ := hrel
    by_cases hlt : 0 < k
    · obtain ⟨k, rfl⟩ : ∃ j, k = j + 1 := ⟨k - 1, by omega⟩
      rcases hl with rfl | ⟨b, off, rfl, hc⟩
      · simp at hk
      have hkl : k < l.length := by omega
      have hck := (hd.cell _).trans (hc k hkl)
      have hx : ntn l k < 256 := hb _ (ntn_mem hkl)
      have hr' := outs_lt hr (hb.drop (k + 1))
      have HS : Hid (outs r (l.drop k) = out (outs r (l.drop (k + 1))) (ntn l k)) := by show _ = _; rw [dropN_cons hkl]; rfl
      clear hc
      generalize outs r (l.drop (k + 1)) = x at *
      generalize ntn l k = c at *
      obtain ⟨m, q, hm1, hq, e1, e2, e3⟩ := out_tab hr'
      have hlo := hib_lt hm1
      have f1 : ((x : Int) / 16777216) = ((hib m : Nat) : Int) := by rw [← e1]; omega
      have c1 : wr.cell? ⟨g2, hib m, none⟩ = some (.int .u8 (m : Nat)) := by rw [hd.cell, cell_of_block hb4]; exact hh.2.2 m hm1
      have c2 : wr.cell? ⟨g, m, none⟩ = some (.int .u32 (stps 8 m : Nat)) := by rw [hd.cell, cell_of_block hb5]; exact ht.2.2 m hm1
      have hs8 := stps_lt 8 (show m < 2 ^ 32 by omega)
      have f2 : bits .xor .u32 (x : Int) ((stps 8 m : Nat) : Int) = (q : Int) := by rw [xor32 hr' hs8, e2]
      have hmc : m ^^^ c < 2 ^ 8 := Nat.xor_lt_two_pow (by omega) (by omega)
      have f3 : bits .xor .u8 (m : Int) (c : Int) = ((m ^^^ c : Nat) : Int) := xor8 hm1 hx
      have HE := Lib.hid (e3 c hx)
      have HD := Lib.hid hd; have HT := Lib.hid ht; have HH := Lib.hid hh; have H4 := Lib.hid hb4; have H5 := Lib.hid hb5
      clear e1 e2 e3 hd ht hh hb4 hb5
      generalize hib m = h at *
      generalize stps 8 m = y at *
      generalize m ^^^ c = z at *
      go_wp2
      go_quiet (fail)
      go_wp2
      go_roundw
      case rel =>
        refine ⟨k, by omega, by go_num, val_int ?_, HD.out.drewN _⟩
        rw [HS.out, HE.out, ← u32_or_nat (q * 256) z (by omega) (by omega)]; congr 1
      case measure => simp [intOf]
    · obtain rfl : k = 0 := by omega
      go_wp2
      go_ret
      exact ⟨rfl, K4.trans_nb hd.keeps⟩
end Go.Proofs.Ytffnaigkdocpmab
