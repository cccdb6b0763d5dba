/- The greatest of a list, in the program (slices.Max) and in the reference (At, Taken). -/
import Derived.Test.YtffnaigkdocpmaaWalks
namespace Go.Proofs.Ytffnaigkdocpmaa
open Go.RowKit Go.Lk

/-- The greatest, beginning with x. -/
def mxs (x : Int) (l : List Int) : Int := l.foldl mx x
theorem mxs_snoc (x : Int) (l : List Int) (r : Int) : mxs x (l ++ [r]) = mx (mxs x l) r := by simp [mxs]
/-- How many are greater than all ahead of them. -/
def ups : Int → List Int → Int
  | _, [] => 0
  | x, r :: l => (if x < r then 1 else 0) + ups (mx x r) l
theorem ups_snoc (x : Int) (l : List Int) (r : Int) : ups x (l ++ [r]) = up (mxs x l) r (ups x l) := by
  induction l generalizing x with
  | nil => simp [ups, mxs, up]
  | cons a l ih => simp only [List.cons_append, ups, ih, mxs, List.foldl_cons, up]; split <;> omega
theorem ups_bd (x : Int) (l : List Int) : 0 ≤ ups x l ∧ ups x l ≤ l.length := by
  induction l generalizing x with
  | nil => simp [ups]
  | cons a l ih => have := ih (mx x a); simp only [ups, List.length_cons]; split <;> omega

theorem ret_int {k : IntKind} {a b : Int} (h : a = b) : Ending.returned (.int k a) = .returned (.int k b) := by rw [h]

/-- The greatest of a list that is not empty. -/
def greatest (l : List Int) : Int := mxs (nth l 0) l
theorem mx_self (x : Int) : mx x x = x := by simp [mx]
theorem mx_lo (x r : Int) : x ≤ mx x r ∧ r ≤ mx x r := by unfold mx; split <;> omega
theorem mxs_lo (x : Int) (l : List Int) : x ≤ mxs x l ∧ ∀ y ∈ l, y ≤ mxs x l := by
  induction l generalizing x with
  | nil => simp [mxs]
  | cons a l ih =>
    have := ih (mx x a); have := mx_lo x a
    simp only [mxs, List.foldl_cons] at *
    refine ⟨by omega, fun y hy => ?_⟩
    rcases List.mem_cons.1 hy with rfl | hy
    · omega
    · exact (ih (mx x a)).2 y hy
theorem mxs_take {x : Int} {l : List Int} {k : Nat} (h : k < l.length) : mxs x (l.take (k + 1)) = mx (mxs x (l.take k)) (nth l k) := by
  rw [take_snoc h, mxs_snoc]
theorem ups_take {x : Int} {l : List Int} {k : Nat} (h : k < l.length) : ups x (l.take (k + 1)) = up (mxs x (l.take k)) (nth l k) (ups x (l.take k)) := by
  rw [take_snoc h, ups_snoc]
theorem mxs_one (x : Int) (l : List Int) (h : nth l 0 = x) (hl : 0 < l.length) : mxs x (l.take 1) = x := by
  rw [mxs_take hl, h]; simp [mxs, mx]

set_option maxHeartbeats 400000 in
theorem ref_at (a : Option Addr) (n cap : Nat) (zs : List Int) (w : World) (hn : n = zs.length) (hr : Reads .u64 w a zs) (hz : 0 < zs.length) (hm : zs.length ≤ 1000000) :
    Calls Try.prog 10 #[.slice a n cap] w fun e w' => e = .returned (.int .u64 (greatest zs)) ∧ w = w' := by
  subst hn
  rcases hr with rfl | ⟨b, off, rfl, hc⟩
  · simp at hz
  have h0 := hc 0 hz
  rw [Nat.add_zero] at h0
  go_enter Try.func10, Try.ntmps10
  go_wp2
  go_loop [3, 4] (fun m i => ∃ k : Nat, k ≤ zs.length ∧ i = .int .i64 k ∧ m = .int .u64 (mxs (nth zs 0) (zs.take k))) (fun _ i => zs.length - (intOf i).toNat)
  case atStart => exact ⟨0, Nat.zero_le _, rfl, by simp [mxs]⟩
  case round =>
    obtain ⟨k, hk, rfl, rfl⟩ := hrel
    by_cases hlt : k < zs.length
    · have hck := hc k hlt
      have HS := Lib.hid (mxs_take (x := nth zs 0) hlt)
      clear hc h0
      generalize hm0 : mxs (nth zs 0) (zs.take k) = m at *
      have Hm := Lib.hid hm0; clear hm0
      generalize hz0 : nth zs k = z at *
      have Hz := Lib.hid hz0; clear hz0
      by_cases hg : m < z
      · have HM : Hid (mx m z = z) := by show mx m z = z; simp [mx, hg]
        go_wp2
        go_round
        case rel => exact ⟨k + 1, by omega, by go_num, by rw [HS.out, HM.out]⟩
        case measure => simp [intOf]; omega
      · have HM : Hid (mx m z = m) := by show mx m z = m; simp [mx, hg]
        go_wp2
        go_round
        case rel => exact ⟨k + 1, by omega, by go_num, by rw [HS.out, HM.out]⟩
        case measure => simp [intOf]; omega
    · go_wp2
      go_ret
      exact ⟨ret_int (by rw [List.take_of_length_le (by omega)]; rfl), rfl⟩
end Go.Proofs.Ytffnaigkdocpmaa
