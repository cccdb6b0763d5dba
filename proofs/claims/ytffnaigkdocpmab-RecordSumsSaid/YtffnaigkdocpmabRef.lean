/- The walks of the reference: bit by bit. -/
import Derived.Test.YtffnaigkdocpmabTable
set_option linter.unusedVariables false
namespace Go.Proofs.Ytffnaigkdocpmab
open Go.RowKit Go.Lk Go.Crc

set_option maxRecDepth 100000 in
set_option maxHeartbeats 1000000 in
theorem bit_at (r b : Nat) (w : World) (hr : r < 2 ^ 32) (hb : b < 2) :
    Calls Try.prog 23 #[.int .u32 r, .int .u32 b] w fun e w' => e = .returned (.int .u32 (stp (r ^^^ b) : Nat)) ∧ w = w' := by
  have HB := Lib.hid (bit_ref hr hb)
  by_cases h : r % 2 = b
  · have h1 : ((r : Int) % 2 != (b : Int)) = false := by rw [bne_eq_false_iff_eq]; omega
    have H := Lib.hid h; clear h
    go_enter Try.func23, Try.ntmps23
    go_wp2
    go_ret
    refine ⟨ret_int ?_, rfl⟩
    rw [← HB.out, if_pos H.out]; omega
  · have h1 : ((r : Int) % 2 != (b : Int)) = true := by rw [bne_iff_ne]; omega
    have H := Lib.hid h; clear h
    go_enter Try.func23, Try.ntmps23
    go_wp2
    go_ret
    refine ⟨ret_int ?_, rfl⟩
    rw [← HB.out, if_neg H.out, ← xor32 (by omega) P_lt]; congr 1

set_option maxRecDepth 100000 in
set_option maxHeartbeats 1000000 in
theorem gone_at (r b : Nat) (w : World) (hr : r < 2 ^ 32) (hb : b < 2) :
    Calls Try.prog 22 #[.int .u32 r, .int .u32 b] w fun e w' => e = .returned (.int .u32 (uns r ^^^ b : Nat)) ∧ w = w' := by
  by_cases h : 2 ^ 31 ≤ r
  · have HB := gone_hi hr hb h
    have e1 : bits .xor .u32 (r : Int) 2197175160 = ((r ^^^ P : Nat) : Int) := by rw [← xor32 hr P_lt]; rfl
    have H := Lib.hid HB.2
    have h2 := HB.1
    clear HB
    have h3 : (2147483648 : Int) ≤ r := by omega
    generalize r ^^^ P = q at *
    go_enter Try.func22, Try.ntmps22
    go_wp2
    go_ret
    refine ⟨ret_int ?_, rfl⟩
    rw [← H.out]; omega
  · have H := Lib.hid (gone_lo hb h)
    have h3 : (r : Int) < 2147483648 := by omega
    have h4 : decide ((2147483648 : Int) ≤ r) = false := by rw [decide_eq_false_iff_not]; omega
    clear h
    go_enter Try.func22, Try.ntmps22
    go_wp2
    go_ret
    refine ⟨ret_int ?_, rfl⟩
    rw [← H.out]; omega

set_option maxRecDepth 100000 in
set_option maxHeartbeats 1000000 in
theorem In_at (r x : Nat) (w : World) (hr : r < 2 ^ 32) (hx : x < 256) :
    Calls Try.prog 19 #[.int .u32 r, .int .u8 x] w fun e w' => e = .returned (.int .u32 (inn r x : Nat)) ∧ w = w' := by
  go_enter Try.func19, Try.ntmps19
  go_wp2
  go_loop [0, 5] (fun y i => ∃ k : Nat, k ≤ 8 ∧ i = .int .i64 k ∧ y = .int .u32 (stps k (r ^^^ x) ^^^ (x / 2 ^ k) : Nat)) (fun _ i => 8 - (intOf i).toNat)
  case atStart => exact ⟨0, by omega, rfl, by rw [show stps 0 (r ^^^ x) = r ^^^ x from rfl, Nat.pow_zero, Nat.div_one, xor_cancel]⟩
  case round =>
    obtain ⟨k, hk, rfl, rfl⟩ := hrel
    have hlt : stps k (r ^^^ x) ^^^ (x / 2 ^ k) < 2 ^ 32 := Nat.xor_lt_two_pow (stps_lt k (Nat.xor_lt_two_pow hr (by omega))) (Nat.lt_of_le_of_lt (Nat.div_le_self _ _) (by omega))
    by_cases h : k < 8
    · have HS := Lib.hid (in_round (r := r) (x := x) h)
      generalize stps k (r ^^^ x) ^^^ (x / 2 ^ k) = y at *
      have hb2 : x / 2 ^ k % 2 < 2 := Nat.mod_lt _ (by decide)
      go_wp2_with fail
      rw [show ((x : Int) / 2 ^ k % 2) = ((x / 2 ^ k % 2 : Nat) : Int) by push_cast; rfl]
      refine (bit_at _ _ _ hlt hb2).mono ?_; rintro e w' ⟨rfl, rfl⟩
      go_wp2
      go_round
      case rel => exact ⟨k + 1, by omega, by go_num, by rw [HS.out]⟩
      case measure => simp [intOf]; omega
    · obtain rfl : k = 8 := by omega
      go_wp2
      go_ret
      exact ⟨ret_int (by rw [in_end hx]), rfl⟩

set_option maxRecDepth 100000 in
set_option maxHeartbeats 1000000 in
theorem Out_at (r x : Nat) (w : World) (hr : r < 2 ^ 32) (hx : x < 256) :
    Calls Try.prog 18 #[.int .u32 r, .int .u8 x] w fun e w' => e = .returned (.int .u32 (out r x : Nat)) ∧ w = w' := by
  go_enter Try.func18, Try.ntmps18
  go_wp2
  go_loop [0, 5] (fun y i => ∃ k : Nat, k ≤ 8 ∧ i = .int .i64 (7 - (k : Int)) ∧ y = .int .u32 (unss k r ^^^ (x / 2 ^ (8 - k)) : Nat)) (fun _ i => (intOf i + 1).toNat)
  case atStart => exact ⟨0, by omega, rfl, by rw [show x / 2 ^ (8 - 0) = 0 by omega, Nat.xor_zero]; rfl⟩
  case round =>
    obtain ⟨k, hk, rfl, rfl⟩ := hrel
    have hlt : unss k r ^^^ (x / 2 ^ (8 - k)) < 2 ^ 32 := Nat.xor_lt_two_pow (unss_lt k hr) (Nat.lt_of_le_of_lt (Nat.div_le_self _ _) (by omega))
    by_cases h : k < 8
    · have HS := Lib.hid (out_round hr hx h)
      have hs : ((8 - (k + 1) : Nat)) = 7 - k := by omega
      have HN := Lib.hid hs; clear hs
      obtain ⟨j, hj⟩ : ∃ j, 7 - k = j := ⟨_, rfl⟩
      have hj7 : j ≤ 7 := by omega
      rw [hj] at HS HN
      rw [show (7 - (k : Int)) = (j : Int) by omega]
      have hkj : k + j = 7 := by omega
      have HJ := Lib.hid hkj; clear hj hkj
      generalize unss k r ^^^ (x / 2 ^ (8 - k)) = y at *
      have hb2 : x / 2 ^ j % 2 < 2 := Nat.mod_lt _ (by decide)
      go_wp2_with fail
      rw [show ((x : Int) / 2 ^ j % 2) = ((x / 2 ^ j % 2 : Nat) : Int) by push_cast; rfl]
      refine (gone_at _ _ _ hlt hb2).mono ?_; rintro e w' ⟨rfl, rfl⟩
      go_wp2
      go_round
      case rel => exact ⟨k + 1, by omega, val_int (by have := HJ.out; omega), by rw [HN.out, HS.out]⟩
      case measure => simp [intOf]
    · obtain rfl : k = 8 := by omega
      go_wp2
      go_ret
      exact ⟨ret_int (by rfl), rfl⟩

set_option maxRecDepth 100000 in
set_option maxHeartbeats 1000000 in
theorem refmore_at (s n cap : Nat) (a : Option Addr) (l : List Nat) (w : World) (hs : s < 2 ^ 32) (hn : n = l.length) (hl : ReadsN .u8 w a l) (hb : Bytes l) (hm : l.length ≤ 1000000) :
    Calls Try.prog 15 #[.int .u32 s, .slice a n cap] w fun e w' => e = .returned (.int .u32 (mor s l : Nat)) ∧ w = w' := by
  subst hn
  go_enter Try.func15, Try.ntmps15
  go_wp2
  go_loop [5, 6] (fun x i => ∃ k : Nat, k ≤ l.length ∧ i = .int .i64 k ∧ x = .int .u32 (inns (cpl s) (l.take k) : Nat)) (fun _ i => l.length - (intOf i).toNat)
  case atStart => exact ⟨0, by omega, rfl, val_int (by show _ = ((4294967295 - s : Nat) : Int); omega)⟩
  case round =>
    obtain ⟨k, hk, rfl, rfl⟩ := hrel
    have hr' := inns_lt (cpl_lt s) (hb.take k)
    by_cases hlt : k < l.length
    · rcases hl with rfl | ⟨b, off, rfl, hc⟩
      · simp at hlt
      have hck := hc k hlt
      have hx : ntn l k < 256 := hb _ (ntn_mem hlt)
      have HS : Hid (inns (cpl s) (l.take (k + 1)) = inn (inns (cpl s) (l.take k)) (ntn l k)) := by show _ = _; rw [takeN_snoc hlt, inns_append]; rfl
      clear hc
      generalize inns (cpl s) (l.take k) = x at *
      generalize ntn l k = c at *
      go_wp2_with fail
      refine (In_at _ _ _ hr' hx).mono ?_; rintro e w' ⟨rfl, rfl⟩
      go_wp2
      go_round
      case rel => exact ⟨k + 1, by omega, by go_num, by rw [HS.out]⟩
      case measure => simp [intOf]; omega
    · rw [List.take_of_length_le (by omega)] at hr' ⊢
      have HM : Hid (mor s l = cpl (inns (cpl s) l)) := rfl
      generalize inns (cpl s) l = x at *
      go_wp2
      go_ret
      exact ⟨ret_int (by rw [HM.out]; show _ = ((4294967295 - x : Nat) : Int); omega), rfl⟩

set_option maxRecDepth 100000 in
set_option maxHeartbeats 1000000 in
theorem refless_at (s n cap : Nat) (a : Option Addr) (l : List Nat) (w : World) (hs : s < 2 ^ 32) (hn : n = l.length) (hl : ReadsN .u8 w a l) (hb : Bytes l) (hm : l.length ≤ 1000000) :
    Calls Try.prog 13 #[.int .u32 s, .slice a n cap] w fun e w' => e = .returned (.int .u32 (les s l : Nat)) ∧ w = w' := by
  subst hn
  go_enter Try.func13, Try.ntmps13
  go_wp2
  go_loop [5, 6] (fun x i => ∃ k : Nat, k ≤ l.length ∧ i = .int .i64 ((k : Int) - 1) ∧ x = .int .u32 (outs (cpl s) (l.drop k) : Nat)) (fun _ i => (intOf i + 1).toNat)
  case atStart => exact ⟨l.length, by omega, rfl, by rw [List.drop_of_length_le (by omega)]; exact val_int (by show _ = ((4294967295 - s : Nat) : Int); omega)⟩
  case round =>
    obtain ⟨k, hk, rfl, rfl⟩ := hrel
    by_cases hlt : 0 < k
    · obtain ⟨k, rfl⟩ : ∃ j, k = j + 1 := ⟨k - 1, by omega⟩
      rcases hl with rfl | ⟨b, off, rfl, hc⟩
      · simp at hk
      have hkl : k < l.length := by omega
      have hck := hc k hkl
      have hx : ntn l k < 256 := hb _ (ntn_mem hkl)
      have hr' := outs_lt (cpl_lt s) (hb.drop (k + 1))
      have HS : Hid (outs (cpl s) (l.drop k) = out (outs (cpl s) (l.drop (k + 1))) (ntn l k)) := by show _ = _; rw [dropN_cons hkl]; rfl
      clear hc
      rw [show (((k + 1 : Nat) : Int) - 1) = (k : Int) by omega]
      generalize outs (cpl s) (l.drop (k + 1)) = x at *
      generalize ntn l k = c at *
      go_wp2_with fail
      refine (Out_at _ _ _ hr' hx).mono ?_; rintro e w' ⟨rfl, rfl⟩
      go_wp2
      go_round
      case rel => exact ⟨k, by omega, rfl, by rw [HS.out]⟩
      case measure => simp [intOf]
    · obtain rfl : k = 0 := by omega
      have hr' := outs_lt (cpl_lt s) hb
      have HM : Hid (les s l = cpl (outs (cpl s) l)) := rfl
      rw [List.drop_zero]
      generalize outs (cpl s) l = x at *
      go_wp2
      go_ret
      exact ⟨ret_int (by rw [HM.out]; show _ = ((4294967295 - x : Nat) : Int); omega), rfl⟩

theorem refsum_at (n cap : Nat) (a : Option Addr) (l : List Nat) (w : World) (hn : n = l.length) (hl : ReadsN .u8 w a l) (hb : Bytes l) (hm : l.length ≤ 1000000) :
    Calls Try.prog 10 #[.slice a n cap] w fun e w' => e = .returned (.int .u32 (mor 0 l : Nat)) ∧ w = w' := by
  have C := Lib.hid (refmore_at 0 n cap a l w (by decide) hn hl hb hm)
  clear hn hl
  go_enter Try.func10, Try.ntmps10
  go_wp2_with fail
  refine C.out.mono ?_; rintro e w' ⟨rfl, rfl⟩
  go_wp2
  go_ret
  exact ⟨rfl, rfl⟩
end Go.Proofs.Ytffnaigkdocpmab
