/- The walks of crc.Sum, More, Less; the chapter's rows. -/
import Derived.Test.YtffnaigkdocpmabOut
import Derived.Test.YtffnaigkdocpmabRef
import Derived.Lib.SlBytesConst
set_option linter.unusedVariables false
namespace Go.Proofs.Ytffnaigkdocpmab
open Go.RowKit Go.Lk Go.Crc

theorem cpl_xor {s : Nat} (hs : s < 2 ^ 32) : 4294967295 ^^^ s = cpl s := by
  unfold cpl
  rw [show 4294967295 - s = 2 ^ 32 - (s + 1) by omega]
  apply Nat.eq_of_testBit_eq
  intro i
  rw [Nat.testBit_two_pow_sub_succ hs, Nat.testBit_xor, show 4294967295 = 2 ^ 32 - 1 by rfl, Nat.testBit_two_pow_sub_one]
  by_cases h : i < 32
  · simp [h]
  · rw [Nat.testBit_lt_two_pow (Nat.lt_of_lt_of_le hs (Nat.pow_le_pow_right (by decide) (by omega)))]; simp [h]
theorem cpl_bits {s : Nat} (hs : s < 2 ^ 32) : bits .xor .u32 IntKind.u32.max (s : Int) = ((cpl s : Nat) : Int) := by
  rw [show IntKind.u32.max = ((4294967295 : Nat) : Int) from rfl, u32_xor_nat _ _ (by decide) hs, cpl_xor hs]

set_option maxRecDepth 100000 in
set_option maxHeartbeats 1000000 in
theorem more_at (s n cap : Nat) (a : Option Addr) (l : List Nat) (w : World) (hs : s < 2 ^ 32) (hn : n = l.length) (hl : ReadsN .u8 w a l) (hb : Bytes l) (hm : l.length ≤ 1000000) :
    Calls Try.prog 11 #[.int .u32 s, .slice a n cap] w fun e w' => e = .returned (.int .u32 (mor s l : Nat)) ∧ Keeps Nb w w' := by
  have C := Lib.hid (in_at (cpl s) n cap a l w (cpl_lt s) hn hl hb hm)
  have e1 := cpl_bits hs
  have e2 : bits .xor .u32 IntKind.u32.max ((inns (cpl s) l : Nat) : Int) = ((mor s l : Nat) : Int) := cpl_bits (inns_lt (cpl_lt s) hb)
  clear hn hl
  generalize inns (cpl s) l = x at *
  generalize mor s l = y at *
  generalize cpl s = c at *
  go_enter Try.func11, Try.ntmps11
  go_wp2_with fail
  refine C.out.mono ?_; rintro e w' ⟨rfl, K⟩
  go_wp2
  go_ret
  exact ⟨rfl, K⟩

set_option maxRecDepth 100000 in
set_option maxHeartbeats 1000000 in
theorem less_at (s n cap : Nat) (a : Option Addr) (l : List Nat) (w : World) (hs : s < 2 ^ 32) (hn : n = l.length) (hl : ReadsN .u8 w a l) (hb : Bytes l) (hm : l.length ≤ 1000000) :
    Calls Try.prog 12 #[.int .u32 s, .slice a n cap] w fun e w' => e = .returned (.int .u32 (les s l : Nat)) ∧ Keeps Nb w w' := by
  have C := Lib.hid (out_at (cpl s) n cap a l w (cpl_lt s) hn hl hb hm)
  have e1 := cpl_bits hs
  have e2 : bits .xor .u32 IntKind.u32.max ((outs (cpl s) l : Nat) : Int) = ((les s l : Nat) : Int) := cpl_bits (outs_lt (cpl_lt s) hb)
  clear hn hl
  generalize outs (cpl s) l = x at *
  generalize les s l = y at *
  generalize cpl s = c at *
  go_enter Try.func12, Try.ntmps12
  go_wp2_with fail
  refine C.out.mono ?_; rintro e w' ⟨rfl, K⟩
  go_wp2
  go_ret
  exact ⟨rfl, K⟩

/-- The i-th row. -/
def nrow (ls : List (List Nat)) (i : Nat) : List Nat := ls.getD i []
theorem nrow_eq {ls : List (List Nat)} {i : Nat} (h : i < ls.length) : nrow ls i = ls[i] := by simp [nrow, h]
/-- A slice of slices of bytes reads as these rows. -/
def RowsN (w : World) (a : Option Addr) (ls : List (List Nat)) : Prop :=
  ls = [] ∨ ∃ b off, a = some ⟨b, off, none⟩ ∧ ∀ i, i < ls.length → ∃ (a' : Option Addr) (c : Nat), w.cell? ⟨b, off + i, none⟩ = some (.slice a' (nrow ls i).length c) ∧ (nrow ls i).length ≤ c ∧ ReadsN .u8 w a' (nrow ls i)
theorem RowsN.nb {w w' : World} {a : Option Addr} {ls : List (List Nat)} (h : RowsN w a ls) (hk : Keeps Nb w w') : RowsN w' a ls := by
  rcases h with h | ⟨b, off, ha, h⟩
  · exact .inl h
  · refine .inr ⟨b, off, ha, fun i hi => ?_⟩
    obtain ⟨a', c, h1, h2, h3⟩ := h i hi
    exact ⟨a', c, (hk.cell (p := ⟨b, off + i, none⟩) (lt_of_cell h1) (fun e => e)).trans h1, h2, h3.nb hk⟩
/-- All rows, one behind the other. -/
def sums (r : Nat) (ls : List (List Nat)) : Nat := ls.foldl inns r
theorem sums_flat (r : Nat) (ls : List (List Nat)) : sums r ls = inns r ls.flatten := by
  induction ls generalizing r with
  | nil => rfl
  | cons l ls ih => show sums (inns r l) ls = _; rw [ih, List.flatten_cons, inns_append]
theorem sums_lt {r : Nat} {ls : List (List Nat)} (hr : r < 2 ^ 32) (h : ∀ l ∈ ls, Bytes l) : sums r ls < 2 ^ 32 := by
  rw [sums_flat]
  exact inns_lt hr (fun x hx => by obtain ⟨l, h1, h2⟩ := List.mem_flatten.1 hx; exact h l h1 x h2)
theorem takeR_snoc {l : List (List Nat)} {k : Nat} (h : k < l.length) : l.take (k + 1) = l.take k ++ [nrow l k] := by
  rw [List.take_succ_eq_append_getElem h, nrow_eq h]

set_option maxRecDepth 100000 in
set_option maxHeartbeats 1000000 in
theorem sum_at (n cap : Nat) (a : Option Addr) (ls : List (List Nat)) (w : World) (hn : n = ls.length) (hl : RowsN w a ls) (hb : ∀ l ∈ ls, Bytes l) (hm : ls.length ≤ 1000) (hm2 : ∀ l ∈ ls, l.length ≤ 1000000) :
    Calls Try.prog 9 #[.slice a n cap] w fun e w' => e = .returned (.int .u32 (mor 0 ls.flatten : Nat)) ∧ Keeps Nb w w' := by
  subst hn
  have e2 : bits .xor .u32 IntKind.u32.max ((sums 4294967295 ls : Nat) : Int) = ((mor 0 ls.flatten : Nat) : Int) := by
    rw [cpl_bits (sums_lt (by decide) hb), sums_flat]; rfl
  have E2 := Lib.hid e2; clear e2
  go_enter Try.func9, Try.ntmps9
  go_wp2
  go_loopw [3, 8] (fun x i wr => ∃ k : Nat, k ≤ ls.length ∧ i = .int .i64 k ∧ x = .int .u32 (sums 4294967295 (ls.take k) : Nat) ∧ Keeps Nb w wr) (fun _ i _ => ls.length - (intOf i).toNat)
  case atStart => exact ⟨0, by omega, rfl, rfl, Keeps.refl _ _⟩
  case round =>
    obtain ⟨k, hk, rfl, rfl, K⟩ := hrel
    have hr' := sums_lt (show 4294967295 < 2 ^ 32 by decide) (fun l hl => hb l (List.mem_of_mem_take hl)) (ls := ls.take k)
    by_cases hlt : k < ls.length
    · rcases hl.nb K with rfl | ⟨b, off, rfl, hc⟩
      · simp at hlt
      obtain ⟨a', c, hck, hcc, hrd⟩ := hc k hlt
      have hmem : nrow ls k ∈ ls := by rw [nrow_eq hlt]; exact List.getElem_mem hlt
      have HS : Hid (sums 4294967295 (ls.take (k + 1)) = inns (sums 4294967295 (ls.take k)) (nrow ls k)) := by show _ = _; rw [takeR_snoc hlt]; simp [sums]
      have C := Lib.hid (in_at (sums 4294967295 (ls.take k)) (nrow ls k).length c a' (nrow ls k) wr hr' rfl hrd (hb _ hmem) (hm2 _ hmem))
      clear hc hrd hl
      generalize sums 4294967295 (ls.take k) = x at *
      generalize nrow ls k = row at *
      go_wp2_with fail
      refine C.out.mono ?_; rintro e w' ⟨rfl, K2⟩
      go_wp2
      go_roundw
      case rel => exact ⟨k + 1, by omega, by go_num, by rw [HS.out], K.trans_nb K2⟩
      case measure => simp [intOf]; omega
    · rw [List.take_of_length_le (by omega)]
      have e2 := E2.out
      generalize sums 4294967295 ls = x at *
      go_wp2
      go_ret
      exact ⟨rfl, K⟩
end Go.Proofs.Ytffnaigkdocpmab
