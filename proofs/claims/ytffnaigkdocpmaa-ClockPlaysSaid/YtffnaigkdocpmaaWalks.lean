/- The walks of clock: what each of its functions does. -/
import Derived.Test.YtffnaigkdocpmaaRows
import Derived.Test.YtffnaigkdocpmaaLk
namespace Go.Proofs.Ytffnaigkdocpmaa
open Go.RowKit Go.Lk

/-- A clock lies in block b. -/
def ClockAt (w : World) (b : Nat) (x n : Int) : Prop := w.heap[b]? = some (.cells #[.int .u64 x, .int .i64 n, .bool true] 48 (0, 0))
theorem ClockAt.c0 {w : World} {b : Nat} {x n : Int} (h : ClockAt w b x n) : w.cell? ⟨b, 0, none⟩ = some (.int .u64 x) := by rw [cell_of_block h]; rfl
theorem ClockAt.c1 {w : World} {b : Nat} {x n : Int} (h : ClockAt w b x n) : w.cell? ⟨b, 1, none⟩ = some (.int .i64 n) := by rw [cell_of_block h]; rfl
theorem ClockAt.c2 {w : World} {b : Nat} {x n : Int} (h : ClockAt w b x n) : w.cell? ⟨b, 2, none⟩ = some (.bool true) := by rw [cell_of_block h]; rfl
theorem ClockAt.f0 {w : World} {b : Nat} {x n : Int} (h : ClockAt w b x n) (i : Nat) : w.frozen? ⟨b, i, none⟩ = false := free_of_block h
theorem ClockAt.lt {w : World} {b : Nat} {x n : Int} (h : ClockAt w b x n) : b < w.heap.size := lt_of_block h
theorem ClockAt.keeps {S : Nat → Prop} {w w' : World} {b : Nat} {x n : Int} (h : ClockAt w b x n) (k : Keeps S w w') (hn : ¬ S b) : ClockAt w' b x n := by
  unfold ClockAt; rw [k.block b h.lt hn]; exact h

set_option maxHeartbeats 400000 in
theorem there_nil (w : World) :
    Calls Try.prog 22 #[.pointer none] w fun e w' => e = .returned (.bool false) ∧ w = w' := by
  go_enter Try.func22, Try.ntmps22
  go_wp2
  go_ret
  exact ⟨rfl, rfl⟩

set_option maxHeartbeats 400000 in
theorem there_at (b : Nat) (is : Bool) (w : World) (h : w.cell? ⟨b, 2, none⟩ = some (.bool is)) :
    Calls Try.prog 22 #[.pointer (some ⟨b, 0, none⟩)] w fun e w' => e = .returned (.bool is) ∧ w = w' := by
  go_enter Try.func22, Try.ntmps22
  go_wp2
  go_ret
  exact ⟨rfl, rfl⟩

set_option maxHeartbeats 400000 in
theorem at_at (b : Nat) (x n : Int) (w : World) (H : ClockAt w b x n) :
    Calls Try.prog 12 #[.pointer (some ⟨b, 0, none⟩)] w fun e w' => e = .returned (.int .u64 x) ∧ w = w' := by
  have h := H.c2; have h0 := H.c0; clear H
  go_enter Try.func12, Try.ntmps12
  go_wp2_with (go_at_call 22; refine (there_at _ _ _ h).mono ?_; rintro e w' ⟨rfl, rfl⟩)
  go_ret
  exact ⟨rfl, rfl⟩

set_option maxHeartbeats 400000 in
theorem taken_at (b : Nat) (x n : Int) (w : World) (H : ClockAt w b x n) :
    Calls Try.prog 15 #[.pointer (some ⟨b, 0, none⟩)] w fun e w' => e = .returned (.int .i64 n) ∧ w = w' := by
  have h := H.c2; have h0 := H.c1; clear H
  go_enter Try.func15, Try.ntmps15
  go_wp2_with (go_at_call 22; refine (there_at _ _ _ h).mono ?_; rintro e w' ⟨rfl, rfl⟩)
  go_ret
  exact ⟨rfl, rfl⟩

set_option maxHeartbeats 400000 in
theorem asks_at (b : Nat) (x r n : Int) (w : World) (H : ClockAt w b x n) :
    Calls Try.prog 17 #[.pointer (some ⟨b, 0, none⟩), .int .u64 r] w fun e w' => e = .returned (.bool (decide (x < r))) ∧ w = w' := by
  have h := H.c2; have h0 := H.c0; clear H
  go_enter Try.func17, Try.ntmps17
  go_wp2_with (go_at_call 22; refine (there_at _ _ _ h).mono ?_; rintro e w' ⟨rfl, rfl⟩)
  go_ret
  exact ⟨rfl, rfl⟩

set_option maxHeartbeats 400000 in
theorem take_yes (b : Nat) (x r n : Int) (w : World) (H : ClockAt w b x n) (hn : 0 ≤ n) (hn' : n < 1000000) (hr : x < r) :
    Calls Try.prog 13 #[.pointer (some ⟨b, 0, none⟩), .int .u64 r] w fun e w' => e = .returned (.tuple #[.bool true, .int .i64 0]) ∧
      w' = (w.setCell ⟨b, 0, none⟩ (.int .u64 r)).setCell ⟨b, 1, none⟩ (.int .i64 (n + 1)) := by
  have h := H.c2; have h0 := H.c0; have h1 := H.c1; have hf0 := H.f0 0; have hf1 := H.f0 1
  have hd : decide (x < r) = true := by simpa using hr
  go_enter Try.func13, Try.ntmps13
  go_wp2_with (first | (go_at_call 22; refine (there_at _ _ _ h).mono ?_; rintro e w' ⟨rfl, rfl⟩) | (go_at_call 17; refine (asks_at _ _ _ _ _ H).mono ?_; rintro e w' ⟨rfl, rfl⟩))
  go_ret2
  exact ⟨rfl, rfl⟩

set_option maxHeartbeats 400000 in
theorem take_no (b : Nat) (x r n : Int) (w : World) (H : ClockAt w b x n) (hr : r ≤ x) :
    Calls Try.prog 13 #[.pointer (some ⟨b, 0, none⟩), .int .u64 r] w fun e w' => e = .returned (.tuple #[.bool false, .int .i64 0]) ∧ w' = w := by
  have h := H.c2; have h0 := H.c0
  have hd : decide (x < r) = false := by simpa using hr
  go_enter Try.func13, Try.ntmps13
  go_wp2_with (first | (go_at_call 22; refine (there_at _ _ _ h).mono ?_; rintro e w' ⟨rfl, rfl⟩) | (go_at_call 17; refine (asks_at _ _ _ _ _ H).mono ?_; rintro e w' ⟨rfl, rfl⟩))
  go_ret2
  exact ⟨rfl, rfl⟩

/-- What a clock becomes by a reading. -/
def mx (x r : Int) : Int := if x < r then r else x
def up (x r n : Int) : Int := if x < r then n + 1 else n

theorem take_at (b : Nat) (x r n : Int) (w : World) (H : ClockAt w b x n) (hn : 0 ≤ n) (hn' : n < 1000000) :
    Calls Try.prog 13 #[.pointer (some ⟨b, 0, none⟩), .int .u64 r] w fun e w' => e = .returned (.tuple #[.bool (decide (x < r)), .int .i64 0]) ∧
      ClockAt w' b (mx x r) (up x r n) ∧ Keeps (· = b) w w' := by
  by_cases hr : x < r
  · refine (take_yes b x r n w H hn hn' hr).mono ?_
    rintro e w' ⟨rfl, rfl⟩
    refine ⟨by simp [hr], ?_, ((Keeps.refl (· = b) w).setCell (p := ⟨b, 0, none⟩) (fun _ => rfl) _).setCell (p := ⟨b, 1, none⟩) (fun _ => rfl) _⟩
    have := block_setCell (i := 1) (block_setCell (i := 0) H (.int .u64 r)) (.int .i64 (n + 1))
    simpa [ClockAt, mx, up, hr] using this
  · refine (take_no b x r n w H (by omega)).mono ?_
    rintro e w' ⟨rfl, rfl⟩
    exact ⟨by simp [hr], by simpa [mx, up, hr] using H, Keeps.refl _ _⟩

/-- A new clock. -/
def NewClock (x n : Int) (w : World) (e : Ending) (w' : World) : Prop := ∃ b, w.heap.size ≤ b ∧ e = .returned (.pointer (some ⟨b, 0, none⟩)) ∧ ClockAt w' b x n ∧ Keeps Nb w w'

set_option maxHeartbeats 400000 in
theorem new_at (x : Int) (w : World) :
    Calls Try.prog 11 #[.int .u64 x] w (NewClock x 0 w) := by
  go_enter Try.func11, Try.ntmps11
  go_wp2
  go_ret
  exact ⟨_, Nat.le_refl _, rfl, block_alloc _ _, (Keeps.refl _ _).alloc _⟩

set_option maxHeartbeats 400000 in
theorem copy_at (b : Nat) (x n : Int) (w : World) (H : ClockAt w b x n) :
    Calls Try.prog 16 #[.pointer (some ⟨b, 0, none⟩)] w (NewClock x n w) := by
  have h := H.c2; have h0 := H.c0; have h1 := H.c1
  go_enter Try.func16, Try.ntmps16
  go_wp2_with (go_at_call 22; refine (there_at _ _ _ h).mono ?_; rintro e w' ⟨rfl, rfl⟩)
  go_ret
  exact ⟨_, Nat.le_refl _, rfl, block_alloc _ _, (Keeps.refl _ _).alloc _⟩

set_option maxHeartbeats 400000 in
theorem same_at (b b' : Nat) (x n x' n' : Int) (w : World) (H : ClockAt w b x n) (H' : ClockAt w b' x' n') :
    Calls Try.prog 14 #[.pointer (some ⟨b, 0, none⟩), .pointer (some ⟨b', 0, none⟩)] w fun e w' => e = .returned (.bool (x == x')) ∧ w = w' := by
  have h := H.c2; have h' := H'.c2
  go_enter Try.func14, Try.ntmps14
  go_wp2_with fail
  refine (there_at _ _ _ h).mono ?_; rintro e w' ⟨rfl, rfl⟩
  go_wp2_with fail
  refine (there_at _ _ _ h').mono ?_; rintro e w' ⟨rfl, rfl⟩
  go_wp2_with fail
  refine (at_at _ _ _ _ H).mono ?_; rintro e w' ⟨rfl, rfl⟩
  go_wp2_with fail
  refine (at_at _ _ _ _ H').mono ?_; rintro e w' ⟨rfl, rfl⟩
  go_wp2
  go_ret
  exact ⟨rfl, rfl⟩

theorem num_at (x : Int) (w : World) : Calls Try.prog 18 #[.int .i64 x] w fun e w' => e = .returned (.int .i64 x) ∧ w = w' := by
  go_enter Try.func18, Try.ntmps18
  go_wp2
  go_ret
  exact ⟨rfl, rfl⟩
end Go.Proofs.Ytffnaigkdocpmaa
