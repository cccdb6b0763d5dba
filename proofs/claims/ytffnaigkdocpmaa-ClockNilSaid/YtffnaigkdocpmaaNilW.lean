/- The walk of ClockNil: it returns true and writes nothing that was there. -/
import Derived.Test.YtffnaigkdocpmaaKnown
namespace Go.Proofs.Ytffnaigkdocpmaa
open Go.RowKit Go.Lk

/-- No clock: nil, or one that is not there. -/
def NoClock (w : World) (p : Option Addr) : Prop := p = none ∨ ∃ b, p = some ⟨b, 0, none⟩ ∧ w.cell? ⟨b, 2, none⟩ = some (.bool false)
theorem NoClock.nb {w w' : World} {p : Option Addr} (h : NoClock w p) (k : Keeps Nb w w') : NoClock w' p := by
  rcases h with h | ⟨b, hb, h⟩
  · exact .inl h
  · exact .inr ⟨b, hb, (k.cell (p := ⟨b, 2, none⟩) (lt_of_cell h) (fun e => e)).trans h⟩

theorem there_no {w : World} {p : Option Addr} (H : NoClock w p) :
    Calls Try.prog 22 #[.pointer p] w fun e w' => e = .returned (.bool false) ∧ w = w' := by
  rcases H with rfl | ⟨b, rfl, h⟩
  · exact there_nil w
  · exact there_at b false w h
theorem there_yes {w : World} {b : Nat} {x n : Int} (H : ClockAt w b x n) :
    Calls Try.prog 22 #[.pointer (some ⟨b, 0, none⟩)] w fun e w' => e = .returned (.bool true) ∧ w = w' := there_at b true w H.c2

set_option maxHeartbeats 400000 in
theorem at_no {w : World} {p : Option Addr} (H : NoClock w p) :
    Calls Try.prog 12 #[.pointer p] w fun e w' => e = .returned (.int .u64 0) ∧ w = w' := by
  go_enter Try.func12, Try.ntmps12
  go_wp2_with (go_at_call 22; refine (there_no H).mono ?_; rintro e w' ⟨rfl, rfl⟩)
  go_ret
  exact ⟨rfl, rfl⟩
set_option maxHeartbeats 400000 in
theorem taken_no {w : World} {p : Option Addr} (H : NoClock w p) :
    Calls Try.prog 15 #[.pointer p] w fun e w' => e = .returned (.int .i64 0) ∧ w = w' := by
  go_enter Try.func15, Try.ntmps15
  go_wp2_with (go_at_call 22; refine (there_no H).mono ?_; rintro e w' ⟨rfl, rfl⟩)
  go_ret
  exact ⟨rfl, rfl⟩
set_option maxHeartbeats 400000 in
theorem asks_no (r : Int) {w : World} {p : Option Addr} (H : NoClock w p) :
    Calls Try.prog 17 #[.pointer p, .int .u64 r] w fun e w' => e = .returned (.bool false) ∧ w = w' := by
  go_enter Try.func17, Try.ntmps17
  go_wp2_with (go_at_call 22; refine (there_no H).mono ?_; rintro e w' ⟨rfl, rfl⟩)
  go_ret
  exact ⟨rfl, rfl⟩
set_option maxHeartbeats 400000 in
theorem takes_no (r : Int) {w : World} {p : Option Addr} (H : NoClock w p) :
    Calls Try.prog 13 #[.pointer p, .int .u64 r] w fun e w' => e = .returned (.tuple #[.bool false, .int .i64 1]) ∧ w = w' := by
  go_enter Try.func13, Try.ntmps13
  go_wp2_with (go_at_call 22; refine (there_no H).mono ?_; rintro e w' ⟨rfl, rfl⟩)
  go_ret2
  exact ⟨rfl, rfl⟩
set_option maxHeartbeats 400000 in
theorem copy_no {w : World} {p : Option Addr} (H : NoClock w p) :
    Calls Try.prog 16 #[.pointer p] w fun e w' => e = .returned (.pointer none) ∧ w = w' := by
  go_enter Try.func16, Try.ntmps16
  go_wp2_with (go_at_call 22; refine (there_no H).mono ?_; rintro e w' ⟨rfl, rfl⟩)
  go_ret
  exact ⟨rfl, rfl⟩
set_option maxHeartbeats 400000 in
theorem same_no {w : World} {p q : Option Addr} (H : NoClock w p) (H' : NoClock w q) :
    Calls Try.prog 14 #[.pointer p, .pointer q] w fun e w' => e = .returned (.bool true) ∧ w = w' := by
  go_enter Try.func14, Try.ntmps14
  go_wp2_with fail
  refine (there_no H).mono ?_; rintro e w' ⟨rfl, rfl⟩
  go_wp2_with fail
  refine (there_no H').mono ?_; rintro e w' ⟨rfl, rfl⟩
  go_wp2_with fail
  refine (at_no H).mono ?_; rintro e w' ⟨rfl, rfl⟩
  go_wp2_with fail
  refine (at_no H').mono ?_; rintro e w' ⟨rfl, rfl⟩
  go_wp2
  go_ret
  exact ⟨rfl, rfl⟩
set_option maxHeartbeats 400000 in
theorem same_no_yes {w : World} {p : Option Addr} {b : Nat} {x n : Int} (H : NoClock w p) (H' : ClockAt w b x n) :
    Calls Try.prog 14 #[.pointer p, .pointer (some ⟨b, 0, none⟩)] w fun e w' => e = .returned (.bool false) ∧ w = w' := by
  go_enter Try.func14, Try.ntmps14
  go_wp2_with fail
  refine (there_no H).mono ?_; rintro e w' ⟨rfl, rfl⟩
  go_wp2_with fail
  refine (there_yes H').mono ?_; rintro e w' ⟨rfl, rfl⟩
  go_wp2
  go_ret
  exact ⟨rfl, rfl⟩
set_option maxHeartbeats 400000 in
theorem same_yes_no {w : World} {p : Option Addr} {b : Nat} {x n : Int} (H : ClockAt w b x n) (H' : NoClock w p) :
    Calls Try.prog 14 #[.pointer (some ⟨b, 0, none⟩), .pointer p] w fun e w' => e = .returned (.bool false) ∧ w = w' := by
  go_enter Try.func14, Try.ntmps14
  go_wp2_with fail
  refine (there_yes H).mono ?_; rintro e w' ⟨rfl, rfl⟩
  go_wp2_with fail
  refine (there_no H').mono ?_; rintro e w' ⟨rfl, rfl⟩
  go_wp2
  go_ret
  exact ⟨rfl, rfl⟩

set_option maxHeartbeats 1000000 in
theorem nothing_at {w : World} {p : Option Addr} (H : NoClock w p) :
    Calls Try.prog 20 #[.pointer p] w fun e w' => e = .returned (.bool true) ∧ Keeps Nb w w' := by
  have N0 : NoClock w none := .inl rfl
  go_enter Try.func20, Try.ntmps20
  go_wp2_with fail
  refine (takes_no _ H).mono ?_; rintro e w' ⟨rfl, rfl⟩
  go_wp2_with fail
  refine (num_at _ _).mono ?_; rintro e w' ⟨rfl, rfl⟩
  go_wp2_with fail
  refine (asks_no _ H).mono ?_; rintro e w' ⟨rfl, rfl⟩
  go_wp2_with fail
  refine (at_no H).mono ?_; rintro e w' ⟨rfl, rfl⟩
  go_wp2_with fail
  refine (taken_no H).mono ?_; rintro e w' ⟨rfl, rfl⟩
  go_wp2_with fail
  refine (copy_no H).mono ?_; rintro e w' ⟨rfl, rfl⟩
  go_wp2_with fail
  refine (same_no H N0).mono ?_; rintro e w' ⟨rfl, rfl⟩
  go_wp2_with fail
  refine (new_at _ _).mono ?_; rintro e w1 ⟨b, hb, rfl, H1, K1⟩
  go_wp2_with fail
  refine (same_no_yes (H.nb K1) H1).mono ?_; rintro e w' ⟨rfl, rfl⟩
  go_wp2
  go_ret
  exact ⟨rfl, K1⟩

namespace clockNil
set_option maxHeartbeats 1000000 in
theorem walk (w : World) : Calls Try.prog 7 #[] w fun e w' => e = .returned (.bool true) ∧ Below w.heap.size w w' := by
  go_enter Try.func7, Try.ntmps7
  go_wp2_with fail
  refine (new_at _ _).mono ?_; rintro e w1 ⟨b, hb, rfl, H1, K1⟩
  have N0 : ∀ w, NoClock w none := fun _ => .inl rfl
  have N0 := Lib.hid N0
  go_wp2_with fail
  refine (asks_at _ _ _ _ _ H1).mono ?_; rintro e w' ⟨rfl, rfl⟩
  go_wp2_with fail
  refine (new_at _ _).mono ?_; rintro e w2 ⟨b2, hb2, rfl, H2, K2⟩
  replace H1 := H1.keeps K2 (fun e => e)
  replace K1 := K1.trans_nb K2
  go_wp2_with fail
  refine (same_at _ _ _ _ _ _ _ H1 H2).mono ?_; rintro e w' ⟨rfl, rfl⟩
  clear K2 H2 hb2 H1 hb
  go_wp2_with fail
  refine (new_at _ _).mono ?_; rintro e w3 ⟨b3, hb3, rfl, H3, K3⟩
  replace K1 := K1.trans_nb K3
  go_wp2_with fail
  refine (new_at _ _).mono ?_; rintro e w4 ⟨b4, hb4, rfl, H4, K4⟩
  replace K1 := K1.trans_nb K4
  replace H3 := H3.keeps K4 (fun e => e)
  go_wp2_with fail
  refine (same_at _ _ _ _ _ _ _ H3 H4).mono ?_; rintro e w' ⟨rfl, rfl⟩
  clear K3 K4 H3 H4 hb3 hb4
  go_wp2_with fail
  refine (new_at _ _).mono ?_; rintro e w5 ⟨b5, hb5, rfl, H5, K5⟩
  replace K1 := K1.trans_nb K5
  go_wp2_with fail
  refine (same_yes_no H5 (N0.out _)).mono ?_; rintro e w' ⟨rfl, rfl⟩
  clear K5 H5 hb5
  go_wp2_with fail
  refine (nothing_at (N0.out _)).mono ?_; rintro e w6 ⟨rfl, K6⟩
  have hz : NoClock (w5.alloc (.cells #[.int .u64 0, .int .i64 0, .bool false] 48)) (some ⟨w5.heap.size, 0, none⟩) := .inr ⟨_, rfl, by rw [cell_of_block (block_alloc _ _)]; rfl⟩
  replace hz := hz.nb K6
  have K7 := (K1.alloc (.cells #[.int .u64 0, .int .i64 0, .bool false] 48)).trans_nb K6
  clear K1 K6
  generalize w5.heap.size = b6 at *
  go_wp2_with fail
  refine (nothing_at hz).mono ?_; rintro e w7 ⟨rfl, K8⟩
  replace hz := hz.nb K8
  replace K7 := K7.trans_nb K8
  go_wp2_with fail
  refine (same_no hz (N0.out _)).mono ?_; rintro e w' ⟨rfl, rfl⟩
  go_wp2_with fail
  refine (known_at _).mono ?_; rintro e w8 ⟨rfl, K9⟩
  go_wp2
  go_ret
  exact ⟨rfl, (K7.trans_nb K9).below⟩
end clockNil
end Go.Proofs.Ytffnaigkdocpmaa
