/- slices.Max, Greatest, the reference's Taken. -/
import Derived.Test.YtffnaigkdocpmaaRefs
namespace Go.Proofs.Ytffnaigkdocpmaa
open Go.RowKit Go.Lk

set_option maxHeartbeats 400000 in
theorem max_at (a : Option Addr) (n cap : Nat) (zs : List Int) (w : World) (hn : n = zs.length) (hr : Reads .u64 w a zs) (hz : 0 < zs.length) (hm : zs.length ≤ 1000000) :
    Calls Try.prog 21 #[.slice a n cap] w fun e w' => e = .returned (.int .u64 (greatest zs)) ∧ w = w' := by
  subst hn
  rcases hr with rfl | ⟨b, off, rfl, hc⟩
  · simp at hz
  have h0 := hc 0 hz
  rw [Nat.add_zero] at h0
  go_enter Try.func21, Try.ntmps21
  go_wp2
  go_loop [3, 4] (fun m i => ∃ k : Nat, 1 ≤ k ∧ k ≤ zs.length ∧ i = .int .i64 k ∧ m = .int .u64 (mxs (nth zs 0) (zs.take k))) (fun _ i => zs.length - (intOf i).toNat)
  case atStart => exact ⟨1, by omega, by omega, rfl, by rw [mxs_take hz]; simp [mxs, mx]⟩
  case round =>
    obtain ⟨k, hk1, hk, rfl, rfl⟩ := hrel
    by_cases hlt : k < zs.length
    · have hck := hc k hlt
      have HS := Lib.hid (mxs_take (x := nth zs 0) hlt)
      clear hc h0
      generalize hm0 : mxs (nth zs 0) (zs.take k) = m at *
      have Hm := Lib.hid hm0; clear hm0
      generalize hz0 : nth zs k = z at *
      have Hz := Lib.hid hz0; clear hz0
      by_cases hg : m < z
      · have HM : Hid (mx m z = z) := by show mx m z = z; simp [mx, hg]
        go_wp2
        go_round
        case rel => exact ⟨k + 1, by omega, by omega, by go_num, by rw [HS.out, HM.out]⟩
        case measure => simp [intOf]; omega
      · have HM : Hid (mx m z = m) := by show mx m z = m; simp [mx, hg]
        go_wp2
        go_round
        case rel => exact ⟨k + 1, by omega, by omega, by go_num, by rw [HS.out, HM.out]⟩
        case measure => simp [intOf]; omega
    · go_wp2
      go_ret
      exact ⟨ret_int (by rw [List.take_of_length_le (by omega)]; rfl), rfl⟩

set_option maxHeartbeats 400000 in
theorem greatest_some (a : Option Addr) (n cap : Nat) (zs : List Int) (w : World) (hn : n = zs.length) (hr : Reads .u64 w a zs) (hz : 0 < zs.length) (hm : zs.length ≤ 1000000) :
    Calls Try.prog 9 #[.slice a n cap] w fun e w' => e = .returned (.tuple #[.int .u64 (greatest zs), .bool true]) ∧ w = w' := by
  have C := max_at a n cap zs w hn hr hz hm
  have hn0 : ((n : Int) == 0) = false := by rw [beq_eq_false_iff_ne]; omega
  clear hn hr
  go_enter Try.func9, Try.ntmps9
  go_wp2_with (go_at_call 21; refine C.mono ?_; rintro e w' ⟨rfl, rfl⟩)
  go_ret2
  exact ⟨rfl, rfl⟩

set_option maxHeartbeats 400000 in
theorem greatest_none (a : Option Addr) (cap : Nat) (w : World) :
    Calls Try.prog 9 #[.slice a 0 cap] w fun e w' => e = .returned (.tuple #[.int .u64 0, .bool false]) ∧ w = w' := by
  go_enter Try.func9, Try.ntmps9
  go_wp2
  go_ret2
  exact ⟨rfl, rfl⟩

/-- What the reference's Taken counts over a whole list: its first is the beginning. -/
def tk (l : List Int) : Int := ups (nth l 0) l
theorem tk_take {zs : List Int} {k : Nat} (h1 : 1 ≤ k) (h : k < zs.length) : tk (zs.take (k + 1)) = up (greatest (zs.take k)) (nth zs k) (tk (zs.take k)) := by
  have e : ∀ j, 1 ≤ j → nth (zs.take j) 0 = nth zs 0 := fun j hj => by simp [nth, List.getD, show 0 < j by omega]
  unfold tk greatest
  rw [e _ (by omega), e _ h1, ups_take h]

set_option maxHeartbeats 1000000 in
theorem ref_taken (a : Option Addr) (n cap : Nat) (zs : List Int) (w : World) (hn : n = zs.length) (hr : Reads .u64 w a zs) (hz : 0 < zs.length) (hm : zs.length ≤ 1000000) (hcap : n ≤ cap) :
    Calls Try.prog 19 #[.slice a n cap] w fun e w' => e = .returned (.int .i64 (tk zs)) ∧ Drew w w' := by
  subst hn
  have HR := Lib.hid hr
  rcases hr with rfl | ⟨b, off, rfl, hc⟩
  · simp at hz
  have hcap0 : ¬ cap = 0 := by omega
  go_enter Try.func19, Try.ntmps19
  go_wp2
  go_loopw [3, 4] (fun m i wr => ∃ k : Nat, 1 ≤ k ∧ k ≤ zs.length ∧ i = .int .i64 k ∧ m = .int .i64 (tk (zs.take k)) ∧ Drew w wr) (fun _ i _ => zs.length - (intOf i).toNat)
  case atStart => exact ⟨1, by omega, by omega, rfl, by rw [take_snoc hz]; simp [tk, ups, nth], Drew.refl _⟩
  case round =>
    obtain ⟨k, hk1, hk, rfl, rfl, hd⟩ := hrel
    by_cases hlt : k < zs.length
    · have hck := (hd.cell _).trans (hc k hlt)
      have HS := Lib.hid (tk_take hk1 hlt)
      have hb : 0 ≤ tk (zs.take k) ∧ tk (zs.take k) ≤ 1000000 := by have := ups_bd (nth (zs.take k) 0) (zs.take k); simp only [List.length_take] at this; unfold tk; omega
      have C := Lib.hid (fun (c d : Nat) => ref_at _ k c (zs.take k) (wr.drewN d) (by simp; omega) ((HR.out.take k).drew (hd.drewN d)) (by simp; omega) (by simp; omega))
      have hkc : k ≤ cap := by omega
      clear hc hz
      generalize hm0 : tk (zs.take k) = m at *
      have Hm := Lib.hid hm0; clear hm0
      generalize hz0 : nth zs k = z at *
      have Hz := Lib.hid hz0; clear hz0
      generalize hg0 : greatest (zs.take k) = g at *
      have Hg := Lib.hid hg0; clear hg0
      by_cases hg : g < z
      · have HM : Hid (up g z m = m + 1) := by show up g z m = m + 1; simp [up, hg]
        go_wp2
        go_quiet ((go_at_call 10; exact quiet_same (C.out _ _)))
        go_wp2
        go_roundw
        case rel => exact ⟨k + 1, by omega, by omega, by go_num, by rw [HS.out, HM.out], hd.drewN _⟩
        case measure => simp [intOf]; omega
      · have HM : Hid (up g z m = m) := by show up g z m = m; simp [up, hg]
        go_wp2
        go_quiet ((go_at_call 10; exact quiet_same (C.out _ _)))
        go_wp2
        go_roundw
        case rel => exact ⟨k + 1, by omega, by omega, by go_num, by rw [HS.out, HM.out], hd.drewN _⟩
        case measure => simp [intOf]; omega
    · go_wp2
      go_ret
      exact ⟨ret_int (by rw [List.take_of_length_le (by omega)]), hd⟩
end Go.Proofs.Ytffnaigkdocpmaa
