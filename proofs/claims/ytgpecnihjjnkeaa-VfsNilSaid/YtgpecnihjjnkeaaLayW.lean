/- Lay: a fault is laid. -/
import Derived.Test.YtgpecnihjjnkeaaLittle
set_option linter.unusedVariables false
set_option linter.unusedSimpArgs false
namespace Go.Proofs.Ytgpecnihjjnkeaa
open Go.RowKit Go.Lk Go.Vfs
/-- What Lay does. -/
def layD (D : Dk) (n e : Int) : Dk := { D with fn := n, fe := e }
set_option maxHeartbeats 1000000 in
theorem lay_ok (d : Nat) (n e : Int) (D : Dk) (F R : Nat → Prop) (fc : Nat → Fl) (w : World) (h : DiskAt w d F R D fc) (hn : 0 ≤ n ∧ n ≤ 9223372036854775807) (he : e = 5 ∨ e = 9) :
    Calls Try.prog 11 #[.pointer (some ⟨d, 0, none⟩), .int .i64 n, .int .i64 e] w fun r w' => r = .returned (.int .i64 0) ∧ DiskAt w' d F R (layD D n e) fc ∧ Keeps (· = d) w w' := by
  have H := Lib.hid h
  obtain ⟨⟨m1, m2, sv, h3, -⟩, -⟩ := h
  obtain ⟨c0, -⟩ := cells9 h3
  have d0 := c0 ⟨w, Keeps.refl _ _⟩
  have H3 := Lib.hid h3
  have TH := Lib.hid (there_at d m1 (.map none) (.map none) [] w d0)
  have hb59 : ∀ (W : World) (n e : Int), (Instr.build 59 #[(0, .int .i64 n), (1, .int .i64 e)]).run Try.prog W = .ok (.agg #[.int .i64 n, .int .i64 e]) W := fun _ _ _ => by kernel_rfl
  have HF : Hid (Nums (layD D n e)) := by
    obtain ⟨z1, z2, z3, z4, z5, z6, z7, z8⟩ := H.out.nums
    exact ⟨z1, z2, z3, by simp only [layD]; omega, by simp only [layD]; omega, z6, z7, z8⟩
  have hn0 : ¬ n < 0 := by omega
  clear h3 c0 hn
  rcases he with rfl | rfl
  all_goals
    go_enter Try.func11, Try.ntmps11
    go_wp2_with fail
    refine TH.out.mono ?_; rintro e w' ⟨rfl, rfl⟩
    go_wp2_with (first | go_skip | (with_reducible refine stop_store (t := 59) ?_))
    first
      | refine at_out (wpList_skipE rfl (re_store (v := .agg #[.int .i64 n, .int .i64 5]) (n := 2) (by kernel_rfl) (by rfl) (by rfl) H3.out (by rfl) (by simp [dcs, Value.cells]) (by simp [Value.cells, Value.oneCell'])) ?_)
      | refine at_out (wpList_skipE rfl (re_store (v := .agg #[.int .i64 n, .int .i64 9]) (n := 2) (by kernel_rfl) (by rfl) (by rfl) H3.out (by rfl) (by simp [dcs, Value.cells]) (by simp [Value.cells, Value.oneCell'])) ?_)
    intro w1 s1
    simp only [Nat.reduceAdd, Nat.zero_add, Act.put, List.setIfInBounds_toArray, List.set_cons_succ, List.set_cons_zero]
    go_wp2
    go_ret
    exact ⟨rfl, H.out.renum H3.out s1.blk s1.k rfl rfl rfl HF.out, s1.k⟩
end Go.Proofs.Ytgpecnihjjnkeaa
