/- slices.Clone of bytes; how much room there is; a file's bytes are read. -/
import Derived.Test.YtgpecnihjjnkeaaLayW
set_option linter.unusedVariables false
set_option linter.unusedSimpArgs false
namespace Go.Vfs
open Go.Lk Go.RowKit
variable {w w' : World}
def unv (p : ByteArray × Value) : ByteArray × Nat := (p.1, match p.2 with | .pointer (some a) => a.block | _ => 0)
theorem unv_vals (l : List (ByteArray × Nat)) : (vals l).map unv = l := by
  unfold vals
  rw [List.map_map]
  exact List.map_id' _ |>.symm ▸ List.map_congr_left fun p _ => rfl
theorem perm_vals {a b : List (ByteArray × Nat)} (h : (vals a).Perm (vals b)) : a.Perm b := by
  have := h.map unv
  rwa [unv_vals, unv_vals] at this
theorem mem_vals {l : List (ByteArray × Nat)} {p : ByteArray × Value} (h : p ∈ vals l) : ∃ q ∈ l, p = (q.1, .pointer (some ⟨q.2, 0, none⟩)) := by
  obtain ⟨q, hq, rfl⟩ := List.mem_map.1 h
  exact ⟨q, hq, rfl⟩
theorem vals_len (l : List (ByteArray × Nat)) : (vals l).length = l.length := by simp [vals]
theorem vals_snoc (l : List (ByteArray × Nat)) (q : ByteArray × Nat) : vals l ++ [(q.1, .pointer (some ⟨q.2, 0, none⟩))] = vals (l ++ [q]) := by simp [vals]
theorem owns_readsU {base m : Nat} {a : Option Addr} {cp n : Nat} {l : List Nat} (h : w.ownsRow base 5 1 (.slice a n cp) m (l.map fun x => .int .u8 (x : Nat))) : ReadsN .u8 w a l := by
  obtain ⟨a', c', e, -, -, hh, -⟩ := owns_has h
  cases e
  rcases hh with h0 | ⟨b, off, ha, hc⟩
  · exact .inl (by simpa using h0)
  · refine .inr ⟨b, off, ha, fun i hi => hc i _ ?_⟩
    rw [List.getElem?_map, List.getElem?_eq_getElem hi, ntn_eq hi]; rfl
/-- A row of bytes of one's own, as bytes. -/
theorem owns_bytes {base : Nat} {v : Value} {l : List Nat} (h : w.ownsRow base 5 1 v l.length (l.map fun x => .int .u8 (x : Nat))) (hl : ∀ z ∈ l, z < 256) : Bytes w (fun k => base ≤ k ∧ k < w.heap.size) v l := by
  obtain ⟨a, c, rfl, h1, h2, h3, h4⟩ := owns_has h
  exact ⟨a, c, rfl, h1, h2, owns_readsU h, hl, fun b off e _ => ⟨(h4 b off e).2.2.1, (h4 b off e).2.1⟩⟩
/-- All files' bytes together. -/
def tot (l : List (ByteArray × Nat)) (fc : Nat → Fl) : Nat := (l.map fun p => (fc p.2).b.length).sum
theorem tot_perm {a b : List (ByteArray × Nat)} (h : a.Perm b) (fc : Nat → Fl) : tot a fc = tot b fc := by
  unfold tot
  induction h with
  | nil => rfl
  | cons x _ ih => simp [ih]
  | swap x y l => simp; omega
  | trans _ _ i1 i2 => exact i1.trans i2
theorem tot_snoc (l : List (ByteArray × Nat)) (q : ByteArray × Nat) (fc : Nat → Fl) : tot (l ++ [q]) fc = tot l fc + (fc q.2).b.length := by simp [tot]
theorem tot_le' (l : List (ByteArray × Nat)) (fc : Nat → Fl) (n : Nat) (h : ∀ p ∈ l, (fc p.2).b.length ≤ n) : tot l fc ≤ n * l.length := by
  induction l with
  | nil => simp [tot]
  | cons p l ih =>
    have h1 := h p (by simp)
    have h2 := ih (fun q hq => h q (by simp [hq]))
    unfold tot at h2 ⊢
    rw [List.map_cons, List.sum_cons, List.length_cons, Nat.mul_add]
    omega
theorem tot_le {m r : Nat} {us l : List (ByteArray × Nat)} {fc : Nat → Fl} {R : Nat → Prop} {w0 : World} (h : SRng w m r (vals l) (vals us)) (hf : ∀ p ∈ l, FileAt w0 R p.2 (fc p.2)) : tot us fc ≤ 16777216 * l.length := by
  have hm := h
  obtain ⟨es, clock, since, seen, c0, -, -, -, -, -, -, -, -, hnd, hsub, -⟩ := hm
  have hs : ∀ p ∈ us, p ∈ l := fun p hp => by
    obtain ⟨q, hq, e⟩ := mem_vals (hsub _ (List.mem_map.2 ⟨p, hp, rfl⟩))
    simp only [Prod.mk.injEq, Value.pointer.injEq, Option.some.injEq, Addr.mk.injEq, and_true] at e
    have : p = q := Prod.ext e.1 e.2
    exact this ▸ hq
  have h1 := tot_le' us fc 16777216 (fun p hp => by obtain ⟨v, -, -, -, h⟩ := hf p (hs p hp); exact h)
  have hn : us.Nodup := List.Pairwise.of_map (fun p : ByteArray × Nat => (p.1, Value.pointer (some ⟨p.2, 0, none⟩))) (fun a b hab e => hab (by rw [e])) hnd
  have h2 := List.Nodup.length_le_of_subset hn hs
  have : 16777216 * us.length ≤ 16777216 * l.length := Nat.mul_le_mul_left _ h2
  omega
end Go.Vfs
namespace Go.Proofs.Ytgpecnihjjnkeaa
open Go.RowKit Go.Lk Go.Vfs
theorem el31 : ElemT Try.prog 31 5 1 1 (.int .u8 0) := ⟨Try.underlying31, by kernel_rfl, rfl, by decide⟩
def Cloned (w : World) (e size : Nat) (n : Nat) (xs : List Value) (en : Ending) (w' : World) : Prop := ∃ v, en = .returned v ∧ w'.ownsRow w.heap.size e size v n xs ∧ Keeps Nb w w'
theorem clone_row (a : Option Addr) (n c : Nat) (xs : List Value) (w : World) (hx : Has w a xs ∧ xs.length = n * 1 ∧ ∀ u ∈ xs, u.oneCell' = true) (hc : n ≤ c ∧ c ≤ maxLen) (hn : n ≤ 100000000) :
    Calls Try.prog 39 #[.slice a n c] w (Cloned w 5 1 n xs) := by
  have EL := el31
  have q : ∀ (w : World) (a : Option Addr) (n c : Nat), (binOp .eql 31 (.slice a n c) (.slice none 0 0)).run Try.prog w = .ok (.bool a.isNone) w := fun w a n c => Lib.run_eql_slice_nil w _ _ a n c 0 0 Try.underlying31
  obtain ⟨hh, hl, h1⟩ := hx
  rcases a with _ | ⟨b, off, sp⟩
  · have hxs : xs = [] := by rcases hh with h | ⟨_, _, h, _⟩; exact h; cases h
    subst hxs
    have hn : n = 0 := by simp at hl; omega
    subst hn
    go_enter Try.func39, Try.ntmps39
    go_wp2
    go_ret
    exact ⟨_, rfl, World.ownsRow_nil _ _ _ _, Keeps.refl _ _⟩
  · go_enter Try.func39, Try.ntmps39
    go_wp2_with (first | go_skip | (with_reducible refine stop_buildSlice ?_) | (with_reducible refine stop_app ?_))
    refine at_out (wpList_val rfl (rn_buildSlice EL [] rfl (by simp) (by simp) (by simp)) ?_)
    obtain ⟨w1, e1⟩ : ∃ w1, w.alloc (.cells (([] : List Value).flatMap (·.cells.toList)).toArray 5) = w1 := ⟨_, rfl⟩
    have n1 : NewAt w w1 w.heap.size (.cells #[] 5) := by rw [← e1]; exact newAt _ _
    rw [e1]
    generalize hg : w.heap.size = g at *
    have HG := Lib.hid hg; clear e1 hg
    have hown : w1.ownsRow g 5 1 (.slice (some ⟨g, 0, none⟩) 0 0) 0 [] := ⟨by simp, .inr ⟨g, 0, #[], rfl, Nat.le_refl _, n1.blk, Nat.le_refl _, Nat.zero_le _, by simp, by simp⟩⟩
    simp only [Nat.reduceAdd, Nat.zero_add, Act.put, List.setIfInBounds_toArray, List.set_cons_succ, List.set_cons_zero]
    go_wp2_with (first | go_skip | (with_reducible refine stop_buildSlice ?_) | (with_reducible refine stop_app ?_))
    obtain ⟨v', w2, hr, ho, hg2, hb⟩ := run_app_at (c := c) 31 EL g 0 [] xs hown (hh.nb n1.k) hl h1 (by unfold maxLen at hc ⊢; omega) (by omega) (Nat.le_of_lt n1.lt)
    refine at_out (wpList_val rfl (rn_app rfl rfl hr) ?_)
    simp only [Nat.reduceAdd, Nat.zero_add, Act.put, List.setIfInBounds_toArray, List.set_cons_succ, List.set_cons_zero]
    go_wp2
    go_ret
    rw [Nat.zero_add, List.nil_append] at ho
    refine ⟨v', rfl, HG.out ▸ ho, n1.k.grown hg2 (fun k h hk => ?_)⟩
    cases h
    exact absurd hk (by have := HG.out; show ¬ (g < _); omega)
/-- Bytes are cloned. -/
theorem clone_at (v : Value) (l : List Nat) (R : Nat → Prop) (w : World) (h : Bytes w R v l) (hl : l.length ≤ 100000000) :
    Calls Try.prog 39 #[v] w fun e w' => ∃ v', e = .returned v' ∧ w'.ownsRow w.heap.size 5 1 v' l.length (l.map fun x => .int .u8 (x : Nat)) ∧ Keeps Nb w w' := by
  obtain ⟨a, c, rfl, h1, h2, h3, -⟩ := h
  exact clone_row a l.length c (l.map fun x => .int .u8 (x : Nat)) w ⟨h3.has, by simp, one_nats⟩ ⟨h1, h2⟩ hl
/-- What Read tells. -/
def readOf (D : Dk) (fc : Nat → Fl) (s : ByteArray) : List Nat × Int := match (found D s).1 with | none => ([], (found D s).2) | some b => ((fc b).b, (found D s).2)
set_option maxHeartbeats 1000000 in
theorem read_at (d : Nat) (s : ByteArray) (D : Dk) (F R : Nat → Prop) (fc : Nat → Fl) (w : World) (h : DiskAt w d F R D fc) (hs : s.size ≤ maxLen) :
    Calls Try.prog 45 #[.pointer (some ⟨d, 0, none⟩), .string s] w fun e w' => ∃ v, e = .returned (.tuple #[v, .int .i64 (readOf D fc s).2]) ∧ w'.ownsRow w.heap.size 5 1 v (readOf D fc s).1.length ((readOf D fc s).1.map fun x => .int .u8 (x : Nat)) ∧ Keeps Nb w w' := by
  have H := Lib.hid h
  have HS := Lib.hid hs
  obtain ⟨⟨m1, m2, sv, h3, h4, h5, h6, h7, h8, h9⟩, g1, g2, g3, g3b, g4, g5, g6⟩ := h
  have FA := Lib.hid (find_at d m1 m2 sv D w h3 h4 s HS.out)
  clear hs g2 g3 g3b g4 h5 h6 h7 h3 h4 h8 h9 g1 g5 g6
  go_enter Try.func45, Try.ntmps45
  go_wp2_with fail
  refine FA.out.mono ?_
  rintro _ w1 ⟨rfl, k1⟩
  rcases found_cases D s with ⟨q1, q2⟩ | ⟨q1, q2, q3⟩ | ⟨b, q1, q2, q3⟩
  · have L : Hid (readOf D fc s = ([], 2)) := by unfold readOf; rw [q2]; rfl
    rw [q2]
    clear q2 FA
    go_wp2
    go_ret2
    exact ⟨_, by rw [L.out]; rfl, by rw [L.out]; exact World.ownsRow_nil _ _ _ _, k1⟩
  · have L : Hid (readOf D fc s = ([], 6)) := by unfold readOf; rw [q3]; rfl
    rw [q3]
    clear q3 FA
    go_wp2
    go_ret2
    exact ⟨_, by rw [L.out]; rfl, by rw [L.out]; exact World.ownsRow_nil _ _ _ _, k1⟩
  · have L : Hid (readOf D fc s = ((fc b).b, 0)) := by unfold readOf; rw [q3]; rfl
    rw [q3]
    obtain ⟨⟨v, z1, z2, z3, z4⟩, -⟩ := H.out.file b (ref_flook q2)
    have c1 : w1.cell? ⟨b, 0, none⟩ = some v := (cell_of_block (k1.nb z1)).trans rfl
    have CA := Lib.hid (clone_at v (fc b).b R w1 (z2.keeps k1 (fun _ _ e => e)) (by omega))
    have Z2 := Lib.hid z2
    obtain ⟨va, vc, hv, -⟩ := z2
    subst hv
    clear q3 FA z1 z3 z4
    simp only [ptr]
    go_wp2_with fail
    refine CA.out.mono ?_
    rintro _ w2 ⟨v', rfl, ho, k2⟩
    have HO := Lib.hid ho
    clear ho CA
    go_wp2
    go_ret2
    exact ⟨v', by rw [L.out]; rfl, by rw [L.out]; exact owns_mono HO.out k1.size, k1.trans_nb k2⟩
set_option maxHeartbeats 1000000 in
theorem room_at (d : Nat) (D : Dk) (F R : Nat → Prop) (fc : Nat → Fl) (w : World) (h : DiskAt w d F R D fc) :
    Calls Try.prog 13 #[.pointer (some ⟨d, 0, none⟩)] w fun e w' => e = .returned (.int .i64 (D.cap - (tot D.files fc : Nat))) ∧ Keeps Nb w w' := by
  have H := Lib.hid h
  obtain ⟨⟨m1, m2, sv, h3, h4, h5, h6, h7, h8, h9⟩, g1, g2, g3, g3b, g4, g5, g6⟩ := h
  have H4 := Lib.hid h4
  have H3 := Lib.hid h3
  obtain ⟨c0, -, -, c3, -⟩ := cells9 h3
  have d0 := c0 ⟨w, Keeps.refl _ _⟩
  have d3 := c3 ⟨w, Keeps.refl _ _⟩
  have TH := Lib.hid (there_at d m1 (.map none) (.map none) [] w d0)
  have NU := Lib.hid g3
  clear c0 c3 g2 g3 g3b g4 h5 h6 h7 h3 h4 h8 h9 g1 g5 g6
  go_enter Try.func13, Try.ntmps13
  go_wp2_with fail
  refine TH.out.mono ?_; rintro e w' ⟨rfl, rfl⟩
  go_wp2_with (first | go_skip | (with_reducible refine stop_rangem ?_))
  refine at_out (wpList_valE rfl (re_range H4.out smT (by rfl)) ?_)
  rintro _ w1 ⟨r, rfl, hr, hR, k1⟩
  simp only [Nat.reduceAdd, Nat.zero_add, Act.put, List.setIfInBounds_toArray, List.set_cons_succ, List.set_cons_zero]
  have HR := Lib.hid hR
  have HRR := Lib.hid hr
  have K1 := Lib.hid k1
  clear hR hr k1 d0 d3
  go_wp2
  go_loopw [3] (fun i wr => ∃ us : List (ByteArray × Nat), SRng wr m1 r (vals D.files) (vals us) ∧ i = .int .i64 (D.cap - (tot us fc : Nat)) ∧ Keeps Nb w wr) (fun _ wr => leftS wr m1 r (vals D.files))
  case atStart => exact ⟨[], HR.out, by simp [tot], K1.out⟩
  case round =>
    obtain ⟨us, hs, rfl, kr⟩ := hrel
    have HSR := Lib.hid hs
    have KR := Lib.hid kr
    clear hs kr
    go_wp2_with (first | go_skip | (with_reducible refine stop_next ?_))
    refine at_out (wpList_valE rfl (re_next HSR.out (by rfl)) ?_)
    rintro _ w2 (⟨hp, rfl, rfl⟩ | ⟨p, hp, hn, rfl, hs2, k2, hen⟩)
    · simp only [Nat.reduceAdd, Nat.zero_add, Act.put, List.setIfInBounds_toArray, List.set_cons_succ, List.set_cons_zero]
      have hto : Hid (tot us fc = tot D.files fc) := tot_perm (perm_vals hp) fc
      clear hp
      go_wp2
      go_ret
      exact ⟨by rw [hto.out]; rfl, KR.out⟩
    · obtain ⟨q, hq, rfl⟩ := mem_vals hp
      have hlt := HSR.out.lt hp hn
      have hl1 := HSR.out.left
      have hl2 := hs2.left
      rw [vals_snoc] at hs2 hl2
      have k2n : Keeps Nb w w2 := KR.out.own HRR.out k2
      obtain ⟨v, z1, z2, z3, z4⟩ := (H.out.file q.2 (.inl ⟨q, hq, rfl⟩)).1
      obtain ⟨va, vc, rfl, -⟩ := z2
      have c1 : w2.cell? ⟨q.2, 0, none⟩ = some (.slice va (fc q.2).b.length vc) := (cell_of_block (k2n.nb z1)).trans rfl
      have ht := tot_snoc us q fc
      have hb1 := tot_le HSR.out (fun p hp => (H.out.file p.2 (.inl ⟨p, hp, rfl⟩)).1)
      have hb2 := NU.out.nf
      have hb3 := NU.out.cap
      have hb4 : tot us fc ≤ 16777216000000 := Nat.le_trans hb1 (by omega)
      have hen2 := Lib.hid hen
      have HS2 := Lib.hid hs2
      have KR2 := Lib.hid k2n
      have HT := Lib.hid ht
      have HLL : Hid (leftS w2 m1 r (vals D.files) < leftS wr m1 r (vals D.files)) := by
        have e1 := vals_len us
        have e2 := vals_len (us ++ [q])
        have e3 := vals_len D.files
        have hla : (us ++ [q]).length = us.length + 1 := by simp
        refine Lib.hid ?_
        rw [hl1, hl2]; omega
      clear hen hs2 hn hp hq k2 k2n z1 z3 ht hb1 hb2 hlt hl1 hl2
      generalize hlq : (fc q.2).b.length = lq at *
      have HLQ := Lib.hid hlq
      clear hlq
      simp only [Nat.reduceAdd, Nat.zero_add, Act.put, List.setIfInBounds_toArray, List.set_cons_succ, List.set_cons_zero]
      go_wp2_with (first | go_skip | (with_reducible refine stop_entry ?_))
      refine at_out (wpList_val rfl (rn_entry (hen2.out _ rfl rfl) (by rfl)) ?_)
      simp only [Nat.reduceAdd, Nat.zero_add, Act.put, List.setIfInBounds_toArray, List.set_cons_succ, List.set_cons_zero]
      go_wp2
      go_roundw
      case rel => exact ⟨us ++ [q], HS2.out, by rw [HT.out]; go_num, KR2.out⟩
      case measure => exact HLL.out
end Go.Proofs.Ytgpecnihjjnkeaa
