/- The chapter's rows. -/
import Derived.Test.YtffnaigkdocpmabSums
set_option linter.unusedVariables false
namespace Go.Proofs.Ytffnaigkdocpmab
open Go.RowKit Go.Lk Go.Crc

theorem reads_new (w : World) (bs : List Nat) (C : Array Value) (e : TypeId) (fr : Nat × Nat) (hC : C.toList = bs.map (fun x => .int .u8 (x : Nat))) : ReadsN .u8 (w.alloc (.cells C e fr)) (some ⟨w.heap.size, 0, none⟩) bs :=
  .inr ⟨_, _, rfl, fun i hi => by
    rw [cell_of_block (block_alloc _ _), Nat.zero_add, ← Array.getElem?_toList, hC, List.getElem?_map, List.getElem?_eq_getElem hi, ntn_eq hi]; rfl⟩
theorem rows_new (w : World) (bs : List Nat) (C : Array Value) (e e' : TypeId) (fr fr' : Nat × Nat) (n : Nat) (hC : C.toList = bs.map (fun x => .int .u8 (x : Nat))) (hn : n = bs.length) :
    RowsN ((w.alloc (.cells C e fr)).alloc (.cells #[.slice (some ⟨w.heap.size, 0, none⟩) n n] e' fr')) (some ⟨w.heap.size + 1, 0, none⟩) [bs] := by
  subst hn
  refine .inr ⟨_, _, rfl, fun i hi => ?_⟩
  obtain rfl : i = 0 := by simpa using hi
  refine ⟨some ⟨w.heap.size, 0, none⟩, bs.length, ?_, Nat.le_refl _, (reads_new w bs C e fr hC).nb ((Keeps.refl Nb _).alloc _)⟩
  have h := block_alloc (w.alloc (.cells C e fr)) (.cells #[.slice (some ⟨w.heap.size, 0, none⟩) bs.length bs.length] e' fr')
  rw [World.size_alloc] at h
  rw [cell_of_block h]; rfl

set_option maxRecDepth 100000 in
set_option maxHeartbeats 1000000 in
theorem known_at (w : World) : Calls Try.prog 8 #[] w fun e w' => e = .returned (.bool true) ∧ Keeps Nb w w' := by
  have kc := fun (w : World) (C : Array Value) (n c : Nat) => Lib.run_convert_bytes_const (P := Try.prog) w 24 5 C n c Try.underlying24 Try.underlying5
  have v0 : mor 0 [] = 0 := by decide
  have v1 : mor 0 [49, 50, 51, 52, 53, 54, 55, 56, 57] = 3808858755 := by decide +kernel
  have v2 : mor 0 [97] = 3251651376 := by decide +kernel
  have v3 : mor 0 [49, 50, 51, 52, 53] = 416359221 := by decide +kernel
  have v4 : mor 416359221 [54, 55, 56, 57] = 3808858755 := by decide +kernel
  have v5 : les 3808858755 [54, 55, 56, 57] = 416359221 := by decide +kernel
  have V0 := Lib.hid v0; have V1 := Lib.hid v1; have V2 := Lib.hid v2; have V3 := Lib.hid v3; have V4 := Lib.hid v4; have V5 := Lib.hid v5
  clear v0 v1 v2 v3 v4 v5
  go_enter Try.func8, Try.ntmps8
  go_wp2_with fail
  refine (sum_at _ _ _ [[49, 50, 51, 52, 53, 54, 55, 56, 57]] _ rfl (rows_new w _ _ 5 24 _ _ 9 rfl rfl) (by unfold Bytes; decide) (by decide) (by decide)).mono ?_
  rintro e w1 ⟨rfl, K1⟩
  rw [show [[49, 50, 51, 52, 53, 54, 55, 56, 57]].flatten = [49, 50, 51, 52, 53, 54, 55, 56, 57] from rfl, V1.out]
  replace K1 := (((Keeps.refl Nb w).alloc _).alloc _).trans_nb K1
  go_wp2_with fail
  refine (sum_at _ _ _ [] _ rfl (.inl rfl) (by simp) (by decide) (by decide)).mono ?_
  rintro e w2 ⟨rfl, K2⟩
  rw [show ([] : List (List Nat)).flatten = [] from rfl, V0.out]
  replace K1 := K1.trans_nb K2; clear K2
  go_wp2_with fail
  refine (sum_at _ _ _ [[97]] _ rfl (rows_new w2 _ _ 5 24 _ _ 1 rfl rfl) (by unfold Bytes; decide) (by decide) (by decide)).mono ?_
  rintro e w3 ⟨rfl, K3⟩
  rw [show [[97]].flatten = [97] from rfl, V2.out]
  replace K1 := ((K1.alloc _).alloc _).trans_nb K3; clear K3
  go_wp2_with fail
  refine (sum_at _ _ _ [[49, 50, 51, 52, 53]] _ rfl (rows_new w3 _ _ 5 24 _ _ 5 rfl rfl) (by unfold Bytes; decide) (by decide) (by decide)).mono ?_
  rintro e w4 ⟨rfl, K4⟩
  rw [show [[49, 50, 51, 52, 53]].flatten = [49, 50, 51, 52, 53] from rfl, V3.out]
  replace K1 := ((K1.alloc _).alloc _).trans_nb K4; clear K4
  go_wp2_with fail
  refine (more_at 416359221 _ _ _ [54, 55, 56, 57] _ (by decide) rfl (reads_new w4 _ _ 5 _ rfl) (by unfold Bytes; decide) (by decide)).mono ?_
  rintro e w5 ⟨rfl, K5⟩
  rw [V4.out]
  replace K1 := (K1.alloc _).trans_nb K5; clear K5
  go_wp2_with fail
  refine (less_at 3808858755 _ _ _ [54, 55, 56, 57] _ (by decide) rfl (reads_new w5 _ _ 5 _ rfl) (by unfold Bytes; decide) (by decide)).mono ?_
  rintro e w6 ⟨rfl, K6⟩
  rw [V5.out]
  replace K1 := (K1.alloc _).trans_nb K6; clear K6
  go_wp2_with fail
  refine (sum_at _ _ _ [[49, 50, 51, 52, 53]] _ rfl (rows_new w6 _ _ 5 24 _ _ 5 rfl rfl) (by unfold Bytes; decide) (by decide) (by decide)).mono ?_
  rintro e w7 ⟨rfl, K7⟩
  rw [show [[49, 50, 51, 52, 53]].flatten = [49, 50, 51, 52, 53] from rfl, V3.out]
  replace K1 := ((K1.alloc _).alloc _).trans_nb K7; clear K7
  go_wp2
  go_ret
  exact ⟨rfl, K1⟩
end Go.Proofs.Ytffnaigkdocpmab
