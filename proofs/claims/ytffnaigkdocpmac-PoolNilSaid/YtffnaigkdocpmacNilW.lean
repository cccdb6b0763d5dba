/- The walk of PoolNil. -/
import Derived.Test.YtffnaigkdocpmacNilC
import Derived.Test.YtffnaigkdocpmacKnown
import Derived.LoopN
set_option linter.unusedVariables false
set_option linter.unusedSimpArgs false
namespace Go.Proofs.Ytffnaigkdocpmac
open Go.RowKit Go.Lk Go.Pool Go.Shelf

theorem el69 : ElemT Try.prog 69 36 1 8 (.pointer none) := ⟨Try.underlying69, by kernel_rfl, rfl, by decide⟩
theorem zero68t : (Try.prog.info? 68).map (·.zero) = some (some (.agg #[.slice none 0 0, .slice none 0 0, .map none, .map none])) := by kernel_rfl
theorem b33 : ∃ A : List Value, A.length = 68 ∧ ∀ W : World, (Instr.build 33 #[(0, .int .i64 1)]).run Try.prog W = .ok (.agg A.toArray) W :=
  ⟨.int .i64 1 :: (valsK PK (List.replicate 33 0) ++ (valsK PK (List.replicate 33 0) ++ [.slice none 0 0])), by kernel_rfl, fun _ => by kernel_rfl⟩
theorem b28 : ∃ A : List Value, A.length = 32 ∧ ∀ W : World, (Instr.build 28 #[]).run Try.prog W = .ok (.agg A.toArray) W :=
  ⟨valsK HK (List.replicate 32 0), by kernel_rfl, fun _ => by kernel_rfl⟩
theorem b40 : ∃ l : List Int, ∀ W : World, (Instr.build 40 #[]).run Try.prog W = .ok (.agg (valsK LK l).toArray) W := ⟨List.replicate 66 0, fun _ => by kernel_rfl⟩

theorem rn_b0 {P : Program} {w : World} {dst : Option Tmp} {t ty : TypeId} {pos : String} {aft : Array Edge} {gd : Option (Nat × Bool)} {a : Act} {v : Value} (h : (Instr.build t #[]).run P w = .ok v w) : (execOp a.eval ⟨dst, .build t #[], ty, pos, aft, gd⟩).run P w = .ok (.value v) w := by
  unfold execOp
  simp [Sem.run_bind, h, Result.andThen_ok]
namespace poolNil
set_option maxRecDepth 100000 in
set_option maxHeartbeats 8000000 in
theorem walk (w : World) :
    Calls Try.prog 7 #[] w fun e w' => e = .returned (.bool true) ∧ Below w.heap.size w w' := by
  have KN := Lib.hid known_at
  obtain ⟨A, hA, hbA⟩ := b33
  obtain ⟨B, hB, hbB⟩ := b28
  obtain ⟨l, hbC⟩ := b40
  obtain ⟨C, hC⟩ : ∃ C, C = (valsK LK l).toArray := ⟨_, rfl⟩
  rw [← hC] at hbC
  have WN := Lib.hid (fun (u : World) (v : Value) (h : Nul u v) => (hC ▸ weight_none l v u h : Calls Try.prog 11 #[v, .agg C] u fun e w' => e = .returned (.int .u64 0) ∧ Keeps Nb u w'))
  have VN := Lib.hid (fun (u : World) (v : Value) (h : Nul u v) => (hC ▸ voters_none l v u h : Calls Try.prog 14 #[v, .agg C] u fun e w' => e = .returned (.int .i64 0) ∧ Keeps Nb u w'))
  have LN := Lib.hid (fun (u : World) (v : Value) (h : Nul u v) => len_none v u h)
  clear hC
  have qn : ∀ (w : World) (fn : Fn) (a b : Array Value), (binOp .eql 61 (.func fn a b) .nilFunc).run Try.prog w = .ok (.bool false) w := fun w fn a b => by first | rfl | kernel_rfl
  refine calls_marks Try.func7 rfl ?_
  simp only [Try.ntmps7, List.size_toArray, List.length_cons, List.length_nil, Nat.reduceAdd, Nat.reduceSub, Array.replicate_succ, Array.replicate_zero, List.push_toArray, List.append_toArray, List.nil_append, List.cons_append]
  go_wp2_with (first | go_skip | (with_reducible refine stop_alloc (t := 4) ?_) | (with_reducible refine stop_alloc (t := 68) ?_) | (with_reducible refine stop_buildSlice ?_))
  refine at_out (valloc zero4t ?_); intro g0 w1 n1
  simp only [Nat.reduceAdd, Nat.zero_add, Act.put, List.setIfInBounds_toArray, List.set_cons_succ, List.set_cons_zero]
  go_wp2_with (first | go_skip | (with_reducible refine stop_alloc (t := 4) ?_) | (with_reducible refine stop_alloc (t := 68) ?_) | (with_reducible refine stop_buildSlice ?_))
  refine at_out (valloc zero68t ?_); intro gz w2 n2
  simp only [Nat.reduceAdd, Nat.zero_add, Act.put, List.setIfInBounds_toArray, List.set_cons_succ, List.set_cons_zero]
  go_wp2_with (first | go_skip | (with_reducible refine stop_alloc (t := 4) ?_) | (with_reducible refine stop_alloc (t := 68) ?_) | (with_reducible refine stop_buildSlice ?_))
  refine at_out (wpList_valE rfl (re_buildSlice el69 [.pointer none, .pointer (some ⟨gz, 0, none⟩)] rfl (by simp [List.range']; first | done | rfl | exact ⟨rfl, rfl⟩) (by simp [Value.cells]) (by simp)) ?_)
  rintro _ w3 ⟨gr, rfl, n3⟩
  simp only [Nat.reduceAdd, Nat.zero_add, Act.put, List.setIfInBounds_toArray, List.set_cons_succ, List.set_cons_zero]
  have hb0 := n3.k.nb (n2.k.nb n1.blk)
  have hbz := n3.k.nb n2.blk
  have hbr := n3.blk
  rw [show (List.flatMap (fun x => x.cells.toList) [Value.pointer none, Value.pointer (some ⟨gz, 0, none⟩)]).toArray = #[Value.pointer none, Value.pointer (some ⟨gz, 0, none⟩)] from rfl] at hbr
  have k3 := n1.k.trans_nb (n2.k.trans_nb n3.k)
  have gg0 := n1.ge
  have HB0 := Lib.hid hb0; have HBZ := Lib.hid hbz; have HBR := Lib.hid hbr; have K3 := Lib.hid k3
  have z12 := n1.k.size; have z23 := n2.k.size; have z3 := n3.k.size
  have lt0 := lt_of_block hb0; have ltz := lt_of_block hbz; have ltr := lt_of_block hbr
  clear n1 n2 n3 hb0 hbz hbr k3
  have nul : ∀ u, Keeps Nb w3 u → Nul u (.pointer none) := fun u k => .inl rfl
  have NUL := Lib.hid nul
  clear nul
  have cr0 : w3.cell? ⟨gr, 0, none⟩ = some (.pointer none) := by rw [cell_of_block HBR.out]; rfl
  go_wp2_with fail
  refine wp_loop_rounds 3 ?_
  rw [rounds_succ]
  go_wp2_with (first | go_skip | (with_reducible refine stop_build ?_))
  refine at_out (wpList_val (v := .agg A.toArray) rfl (rn_b1 (by rfl) (hbA _)) ?_)
  simp only [Nat.reduceAdd, Nat.zero_add, Act.put, List.setIfInBounds_toArray, List.set_cons_succ, List.set_cons_zero]
  go_wp2_with (first | go_skip | (with_reducible refine stop_build ?_))
  refine at_out (wpList_val (v := .agg B.toArray) rfl (rn_b0 (hbB _)) ?_)
  simp only [Nat.reduceAdd, Nat.zero_add, Act.put, List.setIfInBounds_toArray, List.set_cons_succ, List.set_cons_zero]
  go_wp2_with fail
  refine (add_nul (NUL.out _ (Keeps.refl _ _)) A B (.int .u64 1) hA hB).mono ?_; rintro e u1 ⟨rfl, k1⟩
  go_wp2_with fail
  refine (all_nul (NUL.out _ k1)).mono ?_
  rintro _ u2 ⟨g, v, rfl, hge, hgb, hf, k2'⟩
  have k2 := k1.trans_nb k2'
  obtain ⟨a9, c9, hv9, hla9⟩ := hf.list
  subst hv9
  have HGB := Lib.hid hgb; have HLA := Lib.hid hla9
  have glt := lt_of_block hgb
  have z2 := k2.size
  clear hf hgb hla9 k2'
  go_wp2_with (first | go_skip | (with_reducible refine stop_build ?_))
  refine at_out (wpList_val (v := .agg A.toArray) rfl (rn_b1 (by rfl) (hbA _)) ?_)
  simp only [Nat.reduceAdd, Nat.zero_add, Act.put, List.setIfInBounds_toArray, List.set_cons_succ, List.set_cons_zero]
  go_wp2_with (first | go_skip | (with_reducible refine stop_build ?_))
  refine at_out (wpList_val (v := .agg B.toArray) rfl (rn_b0 (hbB _)) ?_)
  simp only [Nat.reduceAdd, Nat.zero_add, Act.put, List.setIfInBounds_toArray, List.set_cons_succ, List.set_cons_zero]
  go_wp2_with fail
  refine (check_nul (NUL.out _ k2) A B _).mono ?_; rintro e u3 ⟨rfl, k3'⟩
  have k3 := k2.trans_nb k3'
  go_wp2_with (first | go_skip | (with_reducible refine stop_build ?_))
  refine at_out (wpList_val (v := .agg C) rfl (rn_b0 (hbC _)) ?_)
  simp only [Nat.reduceAdd, Nat.zero_add, Act.put, List.setIfInBounds_toArray, List.set_cons_succ, List.set_cons_zero]
  go_wp2_with fail
  refine (WN.out _ _ (NUL.out _ k3)).mono ?_; rintro e u4 ⟨rfl, k4'⟩
  have k4 := k3.trans_nb k4'
  go_wp2_with (first | go_skip | (with_reducible refine stop_build ?_))
  refine at_out (wpList_val (v := .agg C) rfl (rn_b0 (hbC _)) ?_)
  simp only [Nat.reduceAdd, Nat.zero_add, Act.put, List.setIfInBounds_toArray, List.set_cons_succ, List.set_cons_zero]
  go_wp2_with fail
  refine (VN.out _ _ (NUL.out _ k4)).mono ?_; rintro e u5 ⟨rfl, k5'⟩
  have k5 := k4.trans_nb k5'
  go_wp2_with fail
  refine (links_nul (NUL.out _ k5)).mono ?_; rintro e u6 ⟨rfl, k6'⟩
  have k6 := k5.trans_nb k6'
  go_wp2_with (first | go_skip | (with_reducible refine stop_build ?_))
  refine at_out (wpList_val (v := .agg B.toArray) rfl (rn_b0 (hbB _)) ?_)
  simp only [Nat.reduceAdd, Nat.zero_add, Act.put, List.setIfInBounds_toArray, List.set_cons_succ, List.set_cons_zero]
  go_wp2_with fail
  refine (of_nul (NUL.out _ k6) _).mono ?_; rintro e u7 ⟨rfl, k7'⟩
  have k7 := k6.trans_nb k7'
  go_wp2_with (first | go_skip | (with_reducible refine stop_build ?_))
  refine at_out (wpList_val (v := .agg C) rfl (rn_b0 (hbC _)) ?_)
  simp only [Nat.reduceAdd, Nat.zero_add, Act.put, List.setIfInBounds_toArray, List.set_cons_succ, List.set_cons_zero]
  go_wp2_with fail
  refine (for_nul (NUL.out _ k7) _).mono ?_; rintro e u8 ⟨rfl, k8'⟩
  have k8 := k7.trans_nb k8'
  go_wp2_with fail
  refine (LN.out _ _ (NUL.out _ k8)).mono ?_; rintro e u ⟨rfl, rfl⟩
  go_wp2_with fail
  refine (copy_nul (NUL.out _ k8)).mono ?_; rintro e u9 ⟨rfl, k9'⟩
  have k9 := k8.trans_nb k9'
  have k29 := k3'.trans_nb (k4'.trans_nb (k5'.trans_nb (k6'.trans_nb (k7'.trans_nb (k8'.trans_nb k9')))))
  replace HGB := Lib.hid (k29.nb HGB.out); replace HLA := Lib.hid (HLA.out.keeps k29 (fun _ _ e => e))
  have z29 := k29.size
  have K9 := Lib.hid k9
  clear k1 k2 k3 k4 k5 k6 k7 k8 k9 k3' k4' k5' k6' k7' k8' k9' k29
  go_wp2_with (with_reducible refine stop_range0 ?_)
  refine at_out ((wpIn_wide (n := 9)).1 ?_)
  refine wp_range (gf := 41) (lb := #[.pointer (some ⟨g, 0, none⟩)]) (by rfl) (enters_of Try.func41 (by kernel_rfl) rfl)
    (all2_iter 8 (by omega) g (.slice a9 ([] : List Ct).length c9) [] _ (fun b => u9.heap.size ≤ b) u9 a9 c9 HGB.out HLA.out (by simp) (by simp) (fun b hb hs => by omega))
    (fun b hb => by unfold Book at hb; show u9.heap.size ≤ b; omega) (fun i args W h => by obtain ⟨c, s, h, -⟩ := h; simp at h)
    (fun i W => Keeps (fun b => u9.heap.size ≤ b) u9 W) (fun _ _ => False)
    (fun i A B h k => h.trans k (fun j hj e => by unfold Book at e; show u9.heap.size ≤ j; omega)) (fun c A B h => h.elim) (Keeps.refl _ _) ?rnd1 ?dn1 (fun _ _ h => h.elim)
  case rnd1 =>
    rintro l i args W rfl hW2 hk hi
    simp at hi
  case' dn1 => rintro W hkW hD
  have kW : Keeps Nb w3 W := K9.out.trans hkW (fun j hj e => by have : u9.heap.size ≤ j := e; have := K9.out.size; omega)
  have crz : W.cell? ⟨gr, 1, none⟩ = some (.pointer (some ⟨gz, 0, none⟩)) := by rw [cell_of_block (kW.nb HBR.out)]; rfl
  have nul2 : ∀ u, Keeps Nb W u → Nul u (.pointer (some ⟨gz, 0, none⟩)) := fun u k => .inr ⟨gz, _, _, _, rfl, k.nb (kW.nb HBZ.out)⟩
  have zda := K9.out.size
  obtain ⟨da, hda⟩ : ∃ d, u9.heap.size = d := ⟨_, rfl⟩
  rw [hda] at hD zda ⊢
  have KWa := Lib.hid kW; have HDa := Lib.hid hD
  have ltda := lt_of_block hD
  clear hda
  clear NUL kW hkW hD cr0 K9 HGB HLA hge glt z2 z29
  have NUL := Lib.hid nul2
  clear nul2
  obtain ⟨wa, hwa⟩ : ∃ wa, wa = W := ⟨_, rfl⟩
  subst hwa
  go_wp2_with fail
  rw [rounds_succ]
  go_wp2_with (first | go_skip | (with_reducible refine stop_build ?_))
  refine at_out (wpList_val (v := .agg A.toArray) rfl (rn_b1 (by rfl) (hbA _)) ?_)
  simp only [Nat.reduceAdd, Nat.zero_add, Act.put, List.setIfInBounds_toArray, List.set_cons_succ, List.set_cons_zero]
  go_wp2_with (first | go_skip | (with_reducible refine stop_build ?_))
  refine at_out (wpList_val (v := .agg B.toArray) rfl (rn_b0 (hbB _)) ?_)
  simp only [Nat.reduceAdd, Nat.zero_add, Act.put, List.setIfInBounds_toArray, List.set_cons_succ, List.set_cons_zero]
  go_wp2_with fail
  refine (add_nul (NUL.out _ (Keeps.refl _ _)) A B (.int .u64 1) hA hB).mono ?_; rintro e u1 ⟨rfl, k1⟩
  go_wp2_with fail
  refine (all_nul (NUL.out _ k1)).mono ?_
  rintro _ u2 ⟨g, v, rfl, hge, hgb, hf, k2'⟩
  have k2 := k1.trans_nb k2'
  obtain ⟨a9, c9, hv9, hla9⟩ := hf.list
  subst hv9
  have HGB := Lib.hid hgb; have HLA := Lib.hid hla9
  have glt := lt_of_block hgb
  have z2 := k2.size
  clear hf hgb hla9 k2'
  go_wp2_with (first | go_skip | (with_reducible refine stop_build ?_))
  refine at_out (wpList_val (v := .agg A.toArray) rfl (rn_b1 (by rfl) (hbA _)) ?_)
  simp only [Nat.reduceAdd, Nat.zero_add, Act.put, List.setIfInBounds_toArray, List.set_cons_succ, List.set_cons_zero]
  go_wp2_with (first | go_skip | (with_reducible refine stop_build ?_))
  refine at_out (wpList_val (v := .agg B.toArray) rfl (rn_b0 (hbB _)) ?_)
  simp only [Nat.reduceAdd, Nat.zero_add, Act.put, List.setIfInBounds_toArray, List.set_cons_succ, List.set_cons_zero]
  go_wp2_with fail
  refine (check_nul (NUL.out _ k2) A B _).mono ?_; rintro e u3 ⟨rfl, k3'⟩
  have k3 := k2.trans_nb k3'
  go_wp2_with (first | go_skip | (with_reducible refine stop_build ?_))
  refine at_out (wpList_val (v := .agg C) rfl (rn_b0 (hbC _)) ?_)
  simp only [Nat.reduceAdd, Nat.zero_add, Act.put, List.setIfInBounds_toArray, List.set_cons_succ, List.set_cons_zero]
  go_wp2_with fail
  refine (WN.out _ _ (NUL.out _ k3)).mono ?_; rintro e u4 ⟨rfl, k4'⟩
  have k4 := k3.trans_nb k4'
  go_wp2_with (first | go_skip | (with_reducible refine stop_build ?_))
  refine at_out (wpList_val (v := .agg C) rfl (rn_b0 (hbC _)) ?_)
  simp only [Nat.reduceAdd, Nat.zero_add, Act.put, List.setIfInBounds_toArray, List.set_cons_succ, List.set_cons_zero]
  go_wp2_with fail
  refine (VN.out _ _ (NUL.out _ k4)).mono ?_; rintro e u5 ⟨rfl, k5'⟩
  have k5 := k4.trans_nb k5'
  go_wp2_with fail
  refine (links_nul (NUL.out _ k5)).mono ?_; rintro e u6 ⟨rfl, k6'⟩
  have k6 := k5.trans_nb k6'
  go_wp2_with (first | go_skip | (with_reducible refine stop_build ?_))
  refine at_out (wpList_val (v := .agg B.toArray) rfl (rn_b0 (hbB _)) ?_)
  simp only [Nat.reduceAdd, Nat.zero_add, Act.put, List.setIfInBounds_toArray, List.set_cons_succ, List.set_cons_zero]
  go_wp2_with fail
  refine (of_nul (NUL.out _ k6) _).mono ?_; rintro e u7 ⟨rfl, k7'⟩
  have k7 := k6.trans_nb k7'
  go_wp2_with (first | go_skip | (with_reducible refine stop_build ?_))
  refine at_out (wpList_val (v := .agg C) rfl (rn_b0 (hbC _)) ?_)
  simp only [Nat.reduceAdd, Nat.zero_add, Act.put, List.setIfInBounds_toArray, List.set_cons_succ, List.set_cons_zero]
  go_wp2_with fail
  refine (for_nul (NUL.out _ k7) _).mono ?_; rintro e u8 ⟨rfl, k8'⟩
  have k8 := k7.trans_nb k8'
  go_wp2_with fail
  refine (LN.out _ _ (NUL.out _ k8)).mono ?_; rintro e u ⟨rfl, rfl⟩
  go_wp2_with fail
  refine (copy_nul (NUL.out _ k8)).mono ?_; rintro e u9 ⟨rfl, k9'⟩
  have k9 := k8.trans_nb k9'
  have k29 := k3'.trans_nb (k4'.trans_nb (k5'.trans_nb (k6'.trans_nb (k7'.trans_nb (k8'.trans_nb k9')))))
  replace HGB := Lib.hid (k29.nb HGB.out); replace HLA := Lib.hid (HLA.out.keeps k29 (fun _ _ e => e))
  have z29 := k29.size
  have K9 := Lib.hid k9
  clear k1 k2 k3 k4 k5 k6 k7 k8 k9 k3' k4' k5' k6' k7' k8' k9' k29
  go_wp2_with (with_reducible refine stop_range0 ?_)
  refine at_out ((wpIn_wide (n := 9)).1 ?_)
  refine wp_range (gf := 41) (lb := #[.pointer (some ⟨g, 0, none⟩)]) (by rfl) (enters_of Try.func41 (by kernel_rfl) rfl)
    (all2_iter 8 (by omega) g (.slice a9 ([] : List Ct).length c9) [] _ (fun b => u9.heap.size ≤ b) u9 a9 c9 HGB.out HLA.out (by simp) (by simp) (fun b hb hs => by omega))
    (fun b hb => by unfold Book at hb; show u9.heap.size ≤ b; omega) (fun i args W h => by obtain ⟨c, s, h, -⟩ := h; simp at h)
    (fun i W => Keeps (fun b => u9.heap.size ≤ b) u9 W) (fun _ _ => False)
    (fun i A B h k => h.trans k (fun j hj e => by unfold Book at e; show u9.heap.size ≤ j; omega)) (fun c A B h => h.elim) (Keeps.refl _ _) ?rnd2 ?dn2 (fun _ _ h => h.elim)
  case rnd2 =>
    rintro l i args W rfl hW2 hk hi
    simp at hi
  case' dn2 => rintro W hkW hD
  have kW : Keeps Nb wa W := K9.out.trans hkW (fun j hj e => by have : u9.heap.size ≤ j := e; have := K9.out.size; omega)
  have zdb := K9.out.size
  obtain ⟨db, hdb⟩ : ∃ d, u9.heap.size = d := ⟨_, rfl⟩
  rw [hdb] at hD zdb ⊢
  have KWb := Lib.hid kW; have HDb := Lib.hid hD
  have ltdb := lt_of_block hD
  clear hdb
  clear NUL kW hkW hD crz K9 HGB HLA hge glt z2 z29
  obtain ⟨wb, hwb⟩ : ∃ wb, wb = W := ⟨_, rfl⟩
  subst hwb
  go_wp2_with fail
  rw [rounds_succ]
  go_wp2_with fail
  refine (KN.out _).mono ?_; rintro e wc ⟨rfl, kc⟩
  have K3c := Lib.hid (KWa.out.trans_nb (KWb.out.trans_nb kc))
  have hb0 := K3c.out.nb HB0.out
  have hda := kc.nb (KWb.out.nb HDa.out)
  have hdb := kc.nb HDb.out
  have HBa := Lib.hid hb0; have HDA := Lib.hid hda; have HDB := Lib.hid hdb
  have zc := kc.size
  clear hb0 hda hdb kc
  go_wp2_with (first | go_skip | (with_reducible refine stop_store (t := 4) ?_))
  refine at_out (wpList_skipE rfl (re_store (v := .bool true) (n := 1) (by kernel_rfl) (by rfl) (by rfl) HBa.out (by rfl) (by simp [Value.cells]) (by simp [Value.cells, Value.oneCell'])) ?_)
  intro wd sd
  simp only [Nat.reduceAdd, Nat.zero_add, Act.put, List.setIfInBounds_toArray, List.set_cons_succ, List.set_cons_zero]
  rw [show splice (Value.bool false).cells (Value.bool true).cells 0 = #[.bool true] from rfl] at sd
  have SD := Lib.hid sd
  clear sd
  go_wp2
  have h1 := SD.out.k.at HDB.out (fun e => by have : db = g0 := e; omega)
  have kp1 := keeps_putObj wd db (.deferred none)
  have h2 := kp1.at (SD.out.k.at HDA.out (fun e => by have : da = g0 := e; omega)) (fun e => by have : da = db := e; omega)
  have kp2 := keeps_putObj (wd.putObj db (.deferred none)) da (.deferred none)
  have h3 := kp2.at (kp1.at SD.out.blk (fun e => by have : g0 = db := e; omega)) (fun e => by have : g0 = da := e; omega)
  have hc5 : ((wd.putObj db (.deferred none)).putObj da (.deferred none)).cell? ⟨g0, 0, none⟩ = some (.bool true) := by rw [cell_of_block h3]; rfl
  refine ⟨by simp, .inl ⟨_, _, rfl, run_takeDeferred h1, by simp, .inl ⟨_, _, rfl, run_takeDeferred h2, ?_⟩⟩⟩
  have z9 := K3.out.size
  refine ⟨.bool true, by simp [results, Try.f7, go_sem, hc5], rfl, ?_⟩
  have k1 := (K3.out.trans_nb K3c.out).trans SD.out.k (fun j hj e => by have : j = g0 := e; omega)
  have k2 := k1.trans kp1 (fun j hj e => by have : j = db := e; omega)
  exact (k2.trans kp2 (fun j hj e => by have : j = da := e; omega)).below
end poolNil
end Go.Proofs.Ytffnaigkdocpmac
