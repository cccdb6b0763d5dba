/- Weight of a reference's pool: the sum of the stakes of that link. -/
import Derived.Test.YtffnaigkdocpmacTwo
set_option linter.unusedVariables false
set_option linter.unusedSimpArgs false
namespace Go.Proofs.Ytffnaigkdocpmac
open Go.RowKit Go.Lk Go.Pool

theorem lk_c {c : Ct} (h : c.Ok) : (valsK LK c.link).length = 66 := by rw [valsK_length h.link.length]; rfl
theorem wt_take {cs : List Ct} {k : Nat} (h : k < cs.length) (l : List Int) : wt (cs.take (k + 1)) l = wt (cs.take k) l + if cs[k].link = l then cs[k].stake else 0 := by
  rw [List.take_succ_eq_append_getElem h, wt_snoc]

set_option maxRecDepth 100000 in
set_option maxHeartbeats 1000000 in
theorem refWeight_at (q : Nat) (R : Nat → Prop) (cs : List Ct) (l : List Int) (w : World) (h : RefAt w q R cs) (hl : Fits LK l) :
    Calls Try.prog 31 #[.pointer (some ⟨q, 0, none⟩), kv LK l] w fun e w' => e = .returned (.int .u64 (wt cs l : Nat)) ∧ Keeps Nb w w' := by
  obtain ⟨⟨a, cp, hb, hla⟩, hg, hlen, -⟩ := h
  have hc1 := hla.2.1
  have hc2 := hla.2.2.1
  unfold maxLen at hc2
  obtain ⟨b, off, ha, hv⟩ := votes_at hla hg.ok
  have hll := valsK_length hl.length
  rw [lk_len] at hll
  have HB := Lib.hid hb; have HA := Lib.hid ha; have HV := Lib.hid hv; have HG := Lib.hid hg; have HL := Lib.hid hl
  clear hb ha hv hg hla hl
  unfold kv
  go_enter Try.func31, Try.ntmps31
  go_wp2_with (first | go_skip | (with_reducible refine stop_load (t := 27) ?_) | (with_reducible refine stop_load (t := 28) ?_) | (with_reducible refine stop_load (t := 30) ?_) | (with_reducible refine stop_load (t := 33) ?_) | (with_reducible refine stop_load (t := 35) ?_) | (with_reducible refine stop_load (t := 40) ?_) | (with_reducible refine stop_load (t := 76) ?_) | (with_reducible refine stop_load (t := 77) ?_) | (with_reducible refine stop_box (t := 27) ?_) | (with_reducible refine stop_box (t := 28) ?_) | (with_reducible refine stop_box (t := 30) ?_) | (with_reducible refine stop_box (t := 33) ?_) | (with_reducible refine stop_box (t := 35) ?_) | (with_reducible refine stop_box (t := 40) ?_) | (with_reducible refine stop_box (t := 76) ?_) | (with_reducible refine stop_box (t := 77) ?_) | (with_reducible refine stop_alloc (t := 27) ?_) | (with_reducible refine stop_alloc (t := 28) ?_) | (with_reducible refine stop_alloc (t := 30) ?_) | (with_reducible refine stop_alloc (t := 33) ?_) | (with_reducible refine stop_alloc (t := 35) ?_) | (with_reducible refine stop_alloc (t := 40) ?_) | (with_reducible refine stop_alloc (t := 76) ?_) | (with_reducible refine stop_alloc (t := 77) ?_) | (with_reducible refine stop_alloc (t := 52) ?_) | (with_reducible refine stop_alloc (t := 68) ?_) | (with_reducible refine stop_alloc (t := 72) ?_) | (with_reducible refine stop_build (t := 27) ?_) | (with_reducible refine stop_build (t := 28) ?_) | (with_reducible refine stop_build (t := 30) ?_) | (with_reducible refine stop_build (t := 33) ?_) | (with_reducible refine stop_build (t := 35) ?_) | (with_reducible refine stop_build (t := 40) ?_) | (with_reducible refine stop_build (t := 76) ?_) | (with_reducible refine stop_build (t := 77) ?_) | (with_reducible refine stop_build (t := 52) ?_) | (with_reducible refine stop_build (t := 68) ?_) | (with_reducible refine stop_store (t := 27) ?_) | (with_reducible refine stop_store (t := 28) ?_) | (with_reducible refine stop_store (t := 30) ?_) | (with_reducible refine stop_store (t := 33) ?_) | (with_reducible refine stop_store (t := 35) ?_) | (with_reducible refine stop_store (t := 40) ?_) | (with_reducible refine stop_store (t := 76) ?_) | (with_reducible refine stop_store (t := 77) ?_) | (with_reducible refine stop_store (t := 22) ?_) | (with_reducible refine stop_store (t := 31) ?_) | (with_reducible refine stop_store (t := 47) ?_) | (with_reducible refine stop_store (t := 52) ?_) | (with_reducible refine stop_store (t := 68) ?_) | (with_reducible refine stop_store (t := 72) ?_) | (with_reducible refine stop_lookup ?_) | (with_reducible refine stop_buildSlice ?_) | (with_reducible refine stop_app ?_) | (with_reducible refine stop_mapEntry ?_) | (with_reducible refine stop_eql (t := 28) ?_) | (with_reducible refine stop_eql (t := 40) ?_) | (with_reducible refine stop_neq (t := 28) ?_) | (with_reducible refine stop_neq (t := 40) ?_))
  refine at_out (vbox rfl ?_); intro g1 w1 n1
  simp only [Nat.reduceAdd, Nat.zero_add, Act.put, List.setIfInBounds_toArray, List.set_cons_succ, List.set_cons_zero]
  have H1 : Hid (∀ u : Sub w1, Has u.wd (some ⟨g1, 0, none⟩) (valsK LK l)) := fun u => has_block (u.k.nb n1.blk)
  have HK1 := Lib.hid n1.k
  clear n1
  go_wp2_with fail
  go_loopw [5, 6] (fun s i wr => ∃ k : Nat, k ≤ cs.length ∧ i = .int .i64 k ∧ s = .int .u64 (wt (cs.take k) l : Nat) ∧ Keeps Nb w1 wr) (fun _ i _ => cs.length - (intOf i).toNat)
  case atStart => exact ⟨0, Nat.zero_le _, rfl, rfl, Keeps.refl _ _⟩
  case round =>
    obtain ⟨k, hk, rfl, rfl, hkw⟩ := hrel
    have kw : Keeps Nb w wr := HK1.out.trans_nb hkw
    have C0 : ∀ u : Sub wr, u.wd.cell? ⟨q, 0, none⟩ = some (.slice a cs.length cp) := fun u => by rw [cell_of_block ((kw.trans_nb u.k).nb HB.out)]; rfl
    have c0 : wr.cell? ⟨q, 0, none⟩ = some (.slice a cs.length cp) := C0 ⟨wr, Keeps.refl _ _⟩
    have H2 : Hid (∀ u : Sub wr, Has u.wd (some ⟨g1, 0, none⟩) (valsK LK l)) := fun u => H1.out ⟨u.wd, hkw.trans_nb u.k⟩
    by_cases hlt : k < cs.length
    · have i1 : (k : Int) < (cs.length : Int) := by omega
      have hne : cs ≠ [] := by rintro rfl; simp at hlt
      have ha := HA.out hne
      subst ha
      have hwt := wt_take hlt l
      have hin := List.getElem_mem hlt
      have hb1 : wt (cs.take k) l ≤ 4294967296 * (cs.take k).length := wt_le (fun x hx => (HG.out.lo x (List.mem_of_mem_take hx)).2) _
      rw [List.length_take] at hb1
      have hb2 : wt (cs.take k) l ≤ 4294967296 * 1000 := by omega
      have hb3 := (HG.out.lo _ hin).2
      obtain ⟨s1, hv1⟩ := HV.out k cs[k] (List.getElem?_eq_getElem hlt)
      have ok1 := HG.out.ok _ hin
      have HW := Lib.hid hwt
      clear hwt hin hb1
      generalize cs[k] = c at *
      generalize wt (cs.take k) l = n0 at *
      have lv1 := vc_len ok1 s1
      have fl := ok1.link
      have VV : Hid (∀ u : Sub wr, VoteAt u.wd R b (off + k * 101) c s1) := fun u => hv1.nb (kw.trans_nb u.k)
      have RL := Lib.hid (fun w' => refLinkOf_at c s1 w' ok1)
      have FL := Lib.hid fl
      clear hv1 ok1 fl
      by_cases hke : c.link = l
      · have HKE := Lib.hid (show decide (c.link = l) = true by simp [hke])
        have HW2 := HW.out
        rw [if_pos hke] at HW2
        have HW3 := Lib.hid HW2
        clear HW2 hke HW
        go_wp2
        refine region_sub (by kernel_rfl) (by kernel_rfl) ?_
        repeat (first | go_big_quiet_skip | (with_reducible refine stopq (op := .load 27 _) ?_) | (with_reducible refine stopq (op := .load 28 _) ?_) | (with_reducible refine stopq (op := .load 30 _) ?_) | (with_reducible refine stopq (op := .load 33 _) ?_) | (with_reducible refine stopq (op := .load 35 _) ?_) | (with_reducible refine stopq (op := .load 40 _) ?_) | (with_reducible refine stopq (op := .load 76 _) ?_) | (with_reducible refine stopq (op := .load 77 _) ?_) | (with_reducible refine stopq (op := .build 27 _) ?_) | (with_reducible refine stopq (op := .build 28 _) ?_) | (with_reducible refine stopq (op := .build 30 _) ?_) | (with_reducible refine stopq (op := .build 33 _) ?_) | (with_reducible refine stopq (op := .build 35 _) ?_) | (with_reducible refine stopq (op := .build 40 _) ?_) | (with_reducible refine stopq (op := .build 76 _) ?_) | (with_reducible refine stopq (op := .build 77 _) ?_) | (with_reducible refine stopq (op := .lookup _ _ _ _) ?_) | (with_reducible refine stopq (op := .binOp .eql 28 _ _ _) ?_) | (with_reducible refine stopq (op := .binOp .eql 40 _ _ _) ?_) | (with_reducible refine stopq (op := .binOp .neq 28 _ _ _) ?_) | (with_reducible refine stopq (op := .binOp .neq 40 _ _ _) ?_) | go_big_quiet_step (fail))
        refine at_out (wpq_val (v := .agg (vc c s1).toArray) rfl (by rintro _ ⟨u, rfl⟩; exact rn_loadH aggV (by rfl) (VV.out u).vote lv1) ?_)
        simp only [Nat.reduceAdd, Nat.zero_add, Act.put, List.setIfInBounds_toArray, List.set_cons_succ, List.set_cons_zero]
        go_big_quiet_step ((go_at_call 32; with_reducible exact quiet_sub (RL.out _)))
        repeat (first | go_big_quiet_skip | (with_reducible refine stopq (op := .load 27 _) ?_) | (with_reducible refine stopq (op := .load 28 _) ?_) | (with_reducible refine stopq (op := .load 30 _) ?_) | (with_reducible refine stopq (op := .load 33 _) ?_) | (with_reducible refine stopq (op := .load 35 _) ?_) | (with_reducible refine stopq (op := .load 40 _) ?_) | (with_reducible refine stopq (op := .load 76 _) ?_) | (with_reducible refine stopq (op := .load 77 _) ?_) | (with_reducible refine stopq (op := .build 27 _) ?_) | (with_reducible refine stopq (op := .build 28 _) ?_) | (with_reducible refine stopq (op := .build 30 _) ?_) | (with_reducible refine stopq (op := .build 33 _) ?_) | (with_reducible refine stopq (op := .build 35 _) ?_) | (with_reducible refine stopq (op := .build 40 _) ?_) | (with_reducible refine stopq (op := .build 76 _) ?_) | (with_reducible refine stopq (op := .build 77 _) ?_) | (with_reducible refine stopq (op := .lookup _ _ _ _) ?_) | (with_reducible refine stopq (op := .binOp .eql 28 _ _ _) ?_) | (with_reducible refine stopq (op := .binOp .eql 40 _ _ _) ?_) | (with_reducible refine stopq (op := .binOp .neq 28 _ _ _) ?_) | (with_reducible refine stopq (op := .binOp .neq 40 _ _ _) ?_) | go_big_quiet_step (fail))
        refine at_out (wpq_val (v := kv LK l) rfl (by rintro _ ⟨u, rfl⟩; exact rn_loadH aggL (by rfl) (H2.out u) hll) ?_)
        simp only [Nat.reduceAdd, Nat.zero_add, Act.put, List.setIfInBounds_toArray, List.set_cons_succ, List.set_cons_zero]
        repeat (first | go_big_quiet_skip | (with_reducible refine stopq (op := .load 27 _) ?_) | (with_reducible refine stopq (op := .load 28 _) ?_) | (with_reducible refine stopq (op := .load 30 _) ?_) | (with_reducible refine stopq (op := .load 33 _) ?_) | (with_reducible refine stopq (op := .load 35 _) ?_) | (with_reducible refine stopq (op := .load 40 _) ?_) | (with_reducible refine stopq (op := .load 76 _) ?_) | (with_reducible refine stopq (op := .load 77 _) ?_) | (with_reducible refine stopq (op := .build 27 _) ?_) | (with_reducible refine stopq (op := .build 28 _) ?_) | (with_reducible refine stopq (op := .build 30 _) ?_) | (with_reducible refine stopq (op := .build 33 _) ?_) | (with_reducible refine stopq (op := .build 35 _) ?_) | (with_reducible refine stopq (op := .build 40 _) ?_) | (with_reducible refine stopq (op := .build 76 _) ?_) | (with_reducible refine stopq (op := .build 77 _) ?_) | (with_reducible refine stopq (op := .lookup _ _ _ _) ?_) | (with_reducible refine stopq (op := .binOp .eql 28 _ _ _) ?_) | (with_reducible refine stopq (op := .binOp .eql 40 _ _ _) ?_) | (with_reducible refine stopq (op := .binOp .neq 28 _ _ _) ?_) | (with_reducible refine stopq (op := .binOp .neq 40 _ _ _) ?_) | go_big_quiet_step (fail))
        refine at_out (wpq_val (v := .bool true) rfl (by rintro _ ⟨u, rfl⟩; exact (rn_eqlK kkL (by rfl) (by rfl) FL.out HL.out).trans (by rw [HKE.out])) ?_)
        simp only [Nat.reduceAdd, Nat.zero_add, Act.put, List.setIfInBounds_toArray, List.set_cons_succ, List.set_cons_zero]
        repeat (first | go_big_quiet_skip | (with_reducible refine stopq (op := .load 27 _) ?_) | (with_reducible refine stopq (op := .load 28 _) ?_) | (with_reducible refine stopq (op := .load 30 _) ?_) | (with_reducible refine stopq (op := .load 33 _) ?_) | (with_reducible refine stopq (op := .load 35 _) ?_) | (with_reducible refine stopq (op := .load 40 _) ?_) | (with_reducible refine stopq (op := .load 76 _) ?_) | (with_reducible refine stopq (op := .load 77 _) ?_) | (with_reducible refine stopq (op := .build 27 _) ?_) | (with_reducible refine stopq (op := .build 28 _) ?_) | (with_reducible refine stopq (op := .build 30 _) ?_) | (with_reducible refine stopq (op := .build 33 _) ?_) | (with_reducible refine stopq (op := .build 35 _) ?_) | (with_reducible refine stopq (op := .build 40 _) ?_) | (with_reducible refine stopq (op := .build 76 _) ?_) | (with_reducible refine stopq (op := .build 77 _) ?_) | (with_reducible refine stopq (op := .lookup _ _ _ _) ?_) | (with_reducible refine stopq (op := .binOp .eql 28 _ _ _) ?_) | (with_reducible refine stopq (op := .binOp .eql 40 _ _ _) ?_) | (with_reducible refine stopq (op := .binOp .neq 28 _ _ _) ?_) | (with_reducible refine stopq (op := .binOp .neq 40 _ _ _) ?_) | go_big_quiet_step (fail))
        refine wpQuiet_nil ?_
        rintro w8 ⟨u8, hu8⟩
        have K8 : Keeps Nb wr w8 := hu8 ▸ u8.k
        have c8 : w8.cell? ⟨q, 0, none⟩ = some (.slice (some ⟨b, off, none⟩) cs.length cp) := hu8 ▸ C0 u8
        have c9 : w8.cell? ⟨b, off + k * 101 + 100, none⟩ = some (.int .u64 (c.stake : Nat)) := hu8 ▸ (VV.out u8).stake
        clear hu8 u8 C0 c0
        go_wp2
        go_roundw
        case rel => exact ⟨k + 1, by omega, by go_num, by rw [HW3.out]; go_num, hkw.trans_nb K8⟩
        case measure => simp [intOf]; omega
      · have HKE := Lib.hid (show decide (c.link = l) = false by simp [hke])
        have HW2 := HW.out
        rw [if_neg hke] at HW2
        have HW3 := Lib.hid HW2
        clear HW2 hke HW
        go_wp2
        refine region_sub (by kernel_rfl) (by kernel_rfl) ?_
        repeat (first | go_big_quiet_skip | (with_reducible refine stopq (op := .load 27 _) ?_) | (with_reducible refine stopq (op := .load 28 _) ?_) | (with_reducible refine stopq (op := .load 30 _) ?_) | (with_reducible refine stopq (op := .load 33 _) ?_) | (with_reducible refine stopq (op := .load 35 _) ?_) | (with_reducible refine stopq (op := .load 40 _) ?_) | (with_reducible refine stopq (op := .load 76 _) ?_) | (with_reducible refine stopq (op := .load 77 _) ?_) | (with_reducible refine stopq (op := .build 27 _) ?_) | (with_reducible refine stopq (op := .build 28 _) ?_) | (with_reducible refine stopq (op := .build 30 _) ?_) | (with_reducible refine stopq (op := .build 33 _) ?_) | (with_reducible refine stopq (op := .build 35 _) ?_) | (with_reducible refine stopq (op := .build 40 _) ?_) | (with_reducible refine stopq (op := .build 76 _) ?_) | (with_reducible refine stopq (op := .build 77 _) ?_) | (with_reducible refine stopq (op := .lookup _ _ _ _) ?_) | (with_reducible refine stopq (op := .binOp .eql 28 _ _ _) ?_) | (with_reducible refine stopq (op := .binOp .eql 40 _ _ _) ?_) | (with_reducible refine stopq (op := .binOp .neq 28 _ _ _) ?_) | (with_reducible refine stopq (op := .binOp .neq 40 _ _ _) ?_) | go_big_quiet_step (fail))
        refine at_out (wpq_val (v := .agg (vc c s1).toArray) rfl (by rintro _ ⟨u, rfl⟩; exact rn_loadH aggV (by rfl) (VV.out u).vote lv1) ?_)
        simp only [Nat.reduceAdd, Nat.zero_add, Act.put, List.setIfInBounds_toArray, List.set_cons_succ, List.set_cons_zero]
        go_big_quiet_step ((go_at_call 32; with_reducible exact quiet_sub (RL.out _)))
        repeat (first | go_big_quiet_skip | (with_reducible refine stopq (op := .load 27 _) ?_) | (with_reducible refine stopq (op := .load 28 _) ?_) | (with_reducible refine stopq (op := .load 30 _) ?_) | (with_reducible refine stopq (op := .load 33 _) ?_) | (with_reducible refine stopq (op := .load 35 _) ?_) | (with_reducible refine stopq (op := .load 40 _) ?_) | (with_reducible refine stopq (op := .load 76 _) ?_) | (with_reducible refine stopq (op := .load 77 _) ?_) | (with_reducible refine stopq (op := .build 27 _) ?_) | (with_reducible refine stopq (op := .build 28 _) ?_) | (with_reducible refine stopq (op := .build 30 _) ?_) | (with_reducible refine stopq (op := .build 33 _) ?_) | (with_reducible refine stopq (op := .build 35 _) ?_) | (with_reducible refine stopq (op := .build 40 _) ?_) | (with_reducible refine stopq (op := .build 76 _) ?_) | (with_reducible refine stopq (op := .build 77 _) ?_) | (with_reducible refine stopq (op := .lookup _ _ _ _) ?_) | (with_reducible refine stopq (op := .binOp .eql 28 _ _ _) ?_) | (with_reducible refine stopq (op := .binOp .eql 40 _ _ _) ?_) | (with_reducible refine stopq (op := .binOp .neq 28 _ _ _) ?_) | (with_reducible refine stopq (op := .binOp .neq 40 _ _ _) ?_) | go_big_quiet_step (fail))
        refine at_out (wpq_val (v := kv LK l) rfl (by rintro _ ⟨u, rfl⟩; exact rn_loadH aggL (by rfl) (H2.out u) hll) ?_)
        simp only [Nat.reduceAdd, Nat.zero_add, Act.put, List.setIfInBounds_toArray, List.set_cons_succ, List.set_cons_zero]
        repeat (first | go_big_quiet_skip | (with_reducible refine stopq (op := .load 27 _) ?_) | (with_reducible refine stopq (op := .load 28 _) ?_) | (with_reducible refine stopq (op := .load 30 _) ?_) | (with_reducible refine stopq (op := .load 33 _) ?_) | (with_reducible refine stopq (op := .load 35 _) ?_) | (with_reducible refine stopq (op := .load 40 _) ?_) | (with_reducible refine stopq (op := .load 76 _) ?_) | (with_reducible refine stopq (op := .load 77 _) ?_) | (with_reducible refine stopq (op := .build 27 _) ?_) | (with_reducible refine stopq (op := .build 28 _) ?_) | (with_reducible refine stopq (op := .build 30 _) ?_) | (with_reducible refine stopq (op := .build 33 _) ?_) | (with_reducible refine stopq (op := .build 35 _) ?_) | (with_reducible refine stopq (op := .build 40 _) ?_) | (with_reducible refine stopq (op := .build 76 _) ?_) | (with_reducible refine stopq (op := .build 77 _) ?_) | (with_reducible refine stopq (op := .lookup _ _ _ _) ?_) | (with_reducible refine stopq (op := .binOp .eql 28 _ _ _) ?_) | (with_reducible refine stopq (op := .binOp .eql 40 _ _ _) ?_) | (with_reducible refine stopq (op := .binOp .neq 28 _ _ _) ?_) | (with_reducible refine stopq (op := .binOp .neq 40 _ _ _) ?_) | go_big_quiet_step (fail))
        refine at_out (wpq_val (v := .bool false) rfl (by rintro _ ⟨u, rfl⟩; exact (rn_eqlK kkL (by rfl) (by rfl) FL.out HL.out).trans (by rw [HKE.out])) ?_)
        simp only [Nat.reduceAdd, Nat.zero_add, Act.put, List.setIfInBounds_toArray, List.set_cons_succ, List.set_cons_zero]
        repeat (first | go_big_quiet_skip | (with_reducible refine stopq (op := .load 27 _) ?_) | (with_reducible refine stopq (op := .load 28 _) ?_) | (with_reducible refine stopq (op := .load 30 _) ?_) | (with_reducible refine stopq (op := .load 33 _) ?_) | (with_reducible refine stopq (op := .load 35 _) ?_) | (with_reducible refine stopq (op := .load 40 _) ?_) | (with_reducible refine stopq (op := .load 76 _) ?_) | (with_reducible refine stopq (op := .load 77 _) ?_) | (with_reducible refine stopq (op := .build 27 _) ?_) | (with_reducible refine stopq (op := .build 28 _) ?_) | (with_reducible refine stopq (op := .build 30 _) ?_) | (with_reducible refine stopq (op := .build 33 _) ?_) | (with_reducible refine stopq (op := .build 35 _) ?_) | (with_reducible refine stopq (op := .build 40 _) ?_) | (with_reducible refine stopq (op := .build 76 _) ?_) | (with_reducible refine stopq (op := .build 77 _) ?_) | (with_reducible refine stopq (op := .lookup _ _ _ _) ?_) | (with_reducible refine stopq (op := .binOp .eql 28 _ _ _) ?_) | (with_reducible refine stopq (op := .binOp .eql 40 _ _ _) ?_) | (with_reducible refine stopq (op := .binOp .neq 28 _ _ _) ?_) | (with_reducible refine stopq (op := .binOp .neq 40 _ _ _) ?_) | go_big_quiet_step (fail))
        refine wpQuiet_nil ?_
        rintro w8 ⟨u8, hu8⟩
        have K8 : Keeps Nb wr w8 := hu8 ▸ u8.k
        have c8 : w8.cell? ⟨q, 0, none⟩ = some (.slice (some ⟨b, off, none⟩) cs.length cp) := hu8 ▸ C0 u8
        have c9 : w8.cell? ⟨b, off + k * 101 + 100, none⟩ = some (.int .u64 (c.stake : Nat)) := hu8 ▸ (VV.out u8).stake
        clear hu8 u8 C0 c0
        go_wp2
        go_roundw
        case rel => exact ⟨k + 1, by omega, by go_num, by rw [HW3.out]; rfl, hkw.trans_nb K8⟩
        case measure => simp [intOf]; omega
    · have hkl : k = cs.length := by omega
      subst hkl
      rw [List.take_of_length_le (Nat.le_refl _)]
      clear C0
      go_wp2
      go_ret
      exact ⟨rfl, kw⟩
end Go.Proofs.Ytffnaigkdocpmac
