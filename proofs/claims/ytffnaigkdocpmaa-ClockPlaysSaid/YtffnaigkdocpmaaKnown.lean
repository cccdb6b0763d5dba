/- The chapter's rows. -/
import Derived.Test.YtffnaigkdocpmaaMax
namespace Go.Proofs.Ytffnaigkdocpmaa
open Go.RowKit Go.Lk

set_option maxHeartbeats 1000000 in
theorem known_at (w : World) : Calls Try.prog 8 #[] w fun e w' => e = .returned (.bool true) ∧ Keeps Nb w w' := by
  go_enter Try.func8, Try.ntmps8
  go_wp2_with fail
  refine (new_at _ _).mono ?_
  rintro e w1 ⟨b, hb, rfl, H1, K1⟩
  go_wp2_with fail
  refine (take_at b 5 3 0 _ H1 (by omega) (by omega)).mono ?_
  rintro e w2 ⟨rfl, H2, K2⟩
  have K2' := K1.own hb K2
  replace H2 : ClockAt w2 b 5 0 := H2
  clear K1 K2 H1
  go_wp2_with fail
  refine (take_at b 5 9 0 _ H2 (by omega) (by omega)).mono ?_
  rintro e w3 ⟨rfl, H3, K3⟩
  have K3' := K2'.own hb K3
  replace H3 : ClockAt w3 b 9 1 := H3
  clear K2' K3 H2
  go_wp2_with fail
  refine (take_at b 9 9 1 _ H3 (by omega) (by omega)).mono ?_
  rintro e w4 ⟨rfl, H4, K4⟩
  have K4' := K3'.own hb K4
  replace H4 : ClockAt w4 b 9 1 := H4
  clear K3' K4 H3
  go_wp2_with fail
  refine (greatest_none _ _ _).mono ?_
  rintro e w5 ⟨rfl, rfl⟩
  go_wp2_with fail
  refine (greatest_some _ 3 3 [3, 8, 2] _ rfl (.inr ⟨_, _, rfl, fun i hi => by rw [cell_of_block (block_alloc _ _)]; match i, hi with | 0, _ => rfl | 1, _ => rfl | 2, _ => rfl⟩) (by decide) (by decide)).mono ?_
  rintro e w5 ⟨rfl, rfl⟩
  have hg : greatest [3, 8, 2] = 8 := by decide
  replace H4 := H4.keeps (((Keeps.refl Nb _).alloc (.cells #[.int .u64 3, .int .u64 8, .int .u64 2] 24))) (fun e => e)
  go_wp2_with (first | (go_at_call 18; refine (num_at _ _).mono ?_; rintro e w' ⟨rfl, rfl⟩) | (go_at_call 12; refine (at_at _ _ _ _ H4).mono ?_; rintro e w' ⟨rfl, rfl⟩) | (go_at_call 15; refine (taken_at _ _ _ _ H4).mono ?_; rintro e w' ⟨rfl, rfl⟩))
  go_ret
  exact ⟨rfl, K4'.alloc _⟩
end Go.Proofs.Ytffnaigkdocpmaa
