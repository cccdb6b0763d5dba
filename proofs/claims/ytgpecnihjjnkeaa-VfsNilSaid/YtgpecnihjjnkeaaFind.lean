/- find: which file a name is. -/
import Derived.Test.YtgpecnihjjnkeaaChange
import Derived.Test.YtgpecnihjjnkeaaName
set_option linter.unusedVariables false
set_option linter.unusedSimpArgs false
namespace Go.Vfs
open Go.Lk Go.RowKit
def flook (l : List (ByteArray × Nat)) (s : ByteArray) : Option Nat := (l.find? fun p => decide (p.1 = s)).map Prod.snd
theorem sget_vals (l : List (ByteArray × Nat)) (s : ByteArray) : (sget (vals l) s).getD (.pointer none) = ptr (flook l s) := by
  unfold sget flook vals
  induction l with
  | nil => rfl
  | cons p l ih =>
    rw [List.map_cons, List.find?_cons, List.find?_cons]
    by_cases h : p.1 = s
    · simp [h, ptr]
    · simp only [h, decide_false]; exact ih
/-- What find finds, and its error. -/
def found (D : Dk) (s : ByteArray) : Option Nat × Int := if mnB s = true then (match flook D.files s with | none => (none, 6) | some b => (some b, 0)) else (none, 2)
theorem found_cases (D : Dk) (s : ByteArray) : (mnB s = false ∧ found D s = (none, 2)) ∨ (mnB s = true ∧ flook D.files s = none ∧ found D s = (none, 6)) ∨ ∃ b, mnB s = true ∧ flook D.files s = some b ∧ found D s = (some b, 0) := by
  unfold found
  cases h : mnB s
  · exact .inl ⟨rfl, rfl⟩
  · cases h2 : flook D.files s with
    | none => exact .inr (.inl ⟨rfl, rfl, rfl⟩)
    | some b => exact .inr (.inr ⟨b, rfl, rfl, rfl⟩)
end Go.Vfs
namespace Go.Proofs.Ytgpecnihjjnkeaa
open Go.RowKit Go.Lk Go.Vfs
theorem zero63 (w : World) : (zeroValue 63).run Try.prog w = .ok (.pointer none) w := by kernel_rfl
set_option maxHeartbeats 1000000 in
theorem find_at (d m1 m2 : Nat) (sv : Value) (D : Dk) (w : World) (h : w.heap[d]? = some (.cells (dcs m1 m2 sv D) 61 (0, 0))) (hm : SMap w m1 (vals D.files)) (s : ByteArray) (hs : s.size ≤ maxLen) :
    Calls Try.prog 33 #[.pointer (some ⟨d, 0, none⟩), .string s] w fun e w' => e = .returned (.tuple #[ptr (found D s).1, .int .i64 (found D s).2]) ∧ Keeps Nb w w' := by
  obtain ⟨c0, -⟩ := cells9 h
  have d0 := c0 ⟨w, Keeps.refl _ _⟩
  have TH := Lib.hid (there_at d m1 (.map none) (.map none) [] w d0)
  have HS := Lib.hid hs
  have NA := Lib.hid (name_at s hs w)
  have HM := Lib.hid hm
  have HV := Lib.hid (sget_vals D.files s)
  clear h hm hs d0
  rcases found_cases D s with ⟨h1, h2⟩ | ⟨h1, h2, h3⟩ | ⟨b, h1, h2, h3⟩
  · rw [h1] at NA
    rw [h2]
    clear h1 h2
    go_enter Try.func33, Try.ntmps33
    go_wp2_with fail
    refine TH.out.mono ?_; rintro e w' ⟨rfl, rfl⟩
    go_wp2_with fail
    refine NA.out.mono ?_; rintro e w1 ⟨rfl, k1⟩
    go_wp2
    go_ret2
    exact ⟨rfl, k1⟩
  · rw [h1] at NA
    rw [h3]
    rw [h2] at HV
    clear h1 h2 h3
    go_enter Try.func33, Try.ntmps33
    go_wp2_with fail
    refine TH.out.mono ?_; rintro e w' ⟨rfl, rfl⟩
    go_wp2_with fail
    refine NA.out.mono ?_; rintro e w1 ⟨rfl, k1⟩
    have e0 := c0 ⟨w1, k1⟩
    have KM := Lib.hid (HM.out.nb k1)
    go_wp2_with (first | go_skip | (with_reducible refine stop_lookup (t := 56) ?_))
    refine at_out (wpList_val rfl (rn_slook KM.out smT (zero63 _) (by rfl) (by rfl) HS.out) ?_)
    simp only [Bool.false_eq_true, if_false, HV.out, ptr]
    simp only [Nat.reduceAdd, Nat.zero_add, Act.put, List.setIfInBounds_toArray, List.set_cons_succ, List.set_cons_zero]
    go_wp2
    go_ret2
    exact ⟨rfl, k1⟩
  · rw [h1] at NA
    rw [h3]
    rw [h2] at HV
    clear h1 h2 h3
    go_enter Try.func33, Try.ntmps33
    go_wp2_with fail
    refine TH.out.mono ?_; rintro e w' ⟨rfl, rfl⟩
    go_wp2_with fail
    refine NA.out.mono ?_; rintro e w1 ⟨rfl, k1⟩
    have e0 := c0 ⟨w1, k1⟩
    have KM := Lib.hid (HM.out.nb k1)
    go_wp2_with (first | go_skip | (with_reducible refine stop_lookup (t := 56) ?_))
    refine at_out (wpList_val rfl (rn_slook KM.out smT (zero63 _) (by rfl) (by rfl) HS.out) ?_)
    simp only [Bool.false_eq_true, if_false, HV.out, ptr]
    simp only [Nat.reduceAdd, Nat.zero_add, Act.put, List.setIfInBounds_toArray, List.set_cons_succ, List.set_cons_zero]
    go_wp2_with (first | go_skip | (with_reducible refine stop_lookup (t := 56) ?_))
    refine at_out (wpList_val rfl (rn_slook KM.out smT (zero63 _) (by rfl) (by rfl) HS.out) ?_)
    simp only [Bool.false_eq_true, if_false, HV.out, ptr]
    simp only [Nat.reduceAdd, Nat.zero_add, Act.put, List.setIfInBounds_toArray, List.set_cons_succ, List.set_cons_zero]
    go_wp2
    go_ret2
    exact ⟨rfl, k1⟩
theorem find_nil (v : Value) (w : World) (s : ByteArray) (hv : v = .pointer none ∨ ∃ d, v = .pointer (some ⟨d, 0, none⟩) ∧ w.cell? ⟨d, 0, none⟩ = some (.map none)) :
    Calls Try.prog 33 #[v, .string s] w fun e w' => e = .returned (.tuple #[.pointer none, .int .i64 1]) ∧ w = w' := by
  rcases hv with rfl | ⟨d, rfl, hc⟩
  · go_enter Try.func33, Try.ntmps33
    go_wp2_with fail
    refine (there_nil _).mono ?_; rintro e w' ⟨rfl, rfl⟩
    go_wp2
    go_ret2
    exact ⟨rfl, rfl⟩
  · have T := Lib.hid (there_zero d w hc)
    clear hc
    go_enter Try.func33, Try.ntmps33
    go_wp2_with fail
    refine T.out.mono ?_; rintro e w' ⟨rfl, rfl⟩
    go_wp2
    go_ret2
    exact ⟨rfl, rfl⟩
theorem changes_at (d m1 m2 : Nat) (sv : Value) (D : Dk) (w : World) (h : w.heap[d]? = some (.cells (dcs m1 m2 sv D) 61 (0, 0))) : Calls Try.prog 12 #[.pointer (some ⟨d, 0, none⟩)] w fun e w' => e = .returned (.int .i64 D.changes) ∧ w = w' := by
  obtain ⟨c0, -, -, -, -, -, -, -, c8⟩ := cells9 h
  have d0 := c0 ⟨w, Keeps.refl _ _⟩
  have d8 := c8 ⟨w, Keeps.refl _ _⟩
  have TH := Lib.hid (there_at d m1 (.map none) (.map none) [] w d0)
  clear h c0 c8
  go_enter Try.func12, Try.ntmps12
  go_wp2_with fail
  refine TH.out.mono ?_; rintro e w' ⟨rfl, rfl⟩
  go_wp2
  go_ret
  exact ⟨rfl, rfl⟩
end Go.Proofs.Ytgpecnihjjnkeaa
