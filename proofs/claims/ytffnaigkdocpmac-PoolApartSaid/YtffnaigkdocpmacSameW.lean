/- same: a pool and a reference's pool of the same votes look the same. -/
import Derived.Test.YtffnaigkdocpmacAll2W
set_option linter.unusedVariables false
set_option linter.unusedSimpArgs false
namespace Go.Proofs.Ytffnaigkdocpmac
open Go.RowKit Go.Lk Go.Pool Go.Shelf
attribute [local go_sem] Oper.semAt_some
/-- The votes ds, gathered into a row of one's own. -/
def Gath (w w' : World) (v : Value) (Q : Nat → Prop) (ds : List Ct) : Prop := ∃ xs, w'.ownsRow w.heap.size 35 101 v ds.length xs ∧ Votes w' Q ds xs
theorem Gath.list {w w' : World} {v : Value} {Q : Nat → Prop} {ds : List Ct} (h : Gath w w' v Q ds) (hQ : ∀ k, Q k → k < w'.heap.size) : ∃ a c, v = .slice a ds.length c ∧ ListAt w' (fun k => Q k ∨ (w.heap.size ≤ k ∧ k < w'.heap.size)) a ds.length c ds := by
  obtain ⟨xs, h1, h2⟩ := h
  obtain ⟨a, c, rfl, h4, h5, h6, h7⟩ := owns_has h1
  exact ⟨a, c, rfl, rfl, h4, h5, fun k hk => hk.elim (hQ k) And.right, xs, h6, h2.mono (fun k h => .inl h), fun b off e _ => .inr ⟨(h7 b off e).2.2.1, (h7 b off e).2.1⟩⟩
theorem Gath.nb {w w' w2 : World} {v : Value} {Q : Nat → Prop} {ds : List Ct} (h : Gath w w' v Q ds) (hk : Keeps Nb w' w2) : Gath w w2 v Q ds := by
  obtain ⟨xs, h1, h2⟩ := h
  exact ⟨xs, owns_keeps h1 hk (fun _ _ e => e), h2.keeps hk (fun _ _ e => e)⟩
theorem vs_len (cs : List Ct) (x : List Int) : vs cs x = (cs.filter fun c => decide (c.link = x)).length := by
  rfl
theorem zero3t : (Try.prog.info? 3).map (·.zero) = some (some (.int .i64 0)) := by kernel_rfl
theorem zero4t : (Try.prog.info? 4).map (·.zero) = some (some (.bool false)) := by kernel_rfl
set_option maxRecDepth 100000 in
set_option maxHeartbeats 8000000 in
theorem looks_at (p q : Nat) (F R Q : Nat → Prop) (cs : List Ct) (w : World) (hp : PoolAt w p F R cs) (hr : RefAt w q Q cs) (hsg : ∀ c ∈ cs, c.sig.length ≤ 1000000) :
    Calls Try.prog 18 #[.pointer (some ⟨p, 0, none⟩), .pointer (some ⟨q, 0, none⟩)] w fun e w' => e = .returned (.bool true) ∧ Keeps Nb w w' := by
  have hlen := hp.len
  have HP := Lib.hid hp; have HR := Lib.hid hr; have HSG := Lib.hid hsg
  clear hp hr hsg
  refine calls_marks Try.func18 rfl ?_
  simp only [Try.ntmps18, List.size_toArray, List.length_cons, List.length_nil, Nat.reduceAdd, Nat.reduceSub, Array.replicate_succ, Array.replicate_zero, List.push_toArray, List.append_toArray, List.nil_append, List.cons_append]
  go_wp2_with (first | go_skip | (with_reducible refine stop_box (t := 50) ?_) | (with_reducible refine stop_alloc (t := 4) ?_))
  refine at_out (wpList_valE rfl (re_box (t := 50) (v := .pointer (some ⟨q, 0, none⟩)) (by rfl)) ?_)
  rintro _ w1 ⟨g3, rfl, n1⟩
  simp only [Nat.reduceAdd, Nat.zero_add, Act.put, List.setIfInBounds_toArray, List.set_cons_succ, List.set_cons_zero]
  go_wp2_with (first | go_skip | (with_reducible refine stop_box (t := 50) ?_) | (with_reducible refine stop_alloc (t := 4) ?_))
  refine at_out (valloc zero4t ?_); intro g4 w2 n2
  simp only [Nat.reduceAdd, Nat.zero_add, Act.put, List.setIfInBounds_toArray, List.set_cons_succ, List.set_cons_zero]
  have k2 := n1.k.trans_nb n2.k
  have b3 : w2.heap[g3]? = some (.cells #[.pointer (some ⟨q, 0, none⟩)] 50 (0, 0)) := n2.k.nb n1.blk
  have b4 : w2.heap[g4]? = some (.cells #[.bool false] 4 (0, 0)) := n2.blk
  have ge3 := n1.ge
  have ge4 := n2.ge
  have z1 := n1.k.size
  have lt3 := lt_of_block n1.blk
  have K2 := Lib.hid k2; have B3 := Lib.hid b3; have B4 := Lib.hid b4
  clear n1 n2 k2 b3 b4
  go_wp2
  have HS : Hid (∃ u : Sub w2, w2.drew = u.wd) := ⟨⟨w2.drew, (Keeps.refl Nb w2).drew⟩, rfl⟩
  have C3 : ∀ u : Sub w2, u.wd.cell? ⟨g3, 0, none⟩ = some (.pointer (some ⟨q, 0, none⟩)) := fun u => by rw [cell_of_block (u.k.nb B3.out)]; rfl
  have LP := Lib.hid (fun (u : World) (k : Keeps Nb w2 u) => links_at p F R cs u ((HP.out.nb K2.out).nb k))
  have LR := Lib.hid (fun (u : World) (k : Keeps Nb w2 u) => refLinks_at q Q cs u ((HR.out.nb K2.out).nb k))
  refine WT.region (fun u : World => ∃ v : Sub w2, u = v.wd) 6 6 [0, 2, 1, 3, 4, 5] (by kernel_rfl) rfl ?_
  refine WT.take 0 (v := _) (by simp only [List.getElem?_toArray, List.getElem?_cons_succ, List.getElem?_cons_zero]; rfl) (by kernel_rfl) (by exact fun _ _ _ h => h) (by rfl) (by rintro w ⟨u, rfl⟩; go_simp; with_reducible rfl) HS.out ?_
  simp only [Nat.reduceAdd, Nat.zero_add, Act.put, List.setIfInBounds_toArray, List.set_cons_succ, List.set_cons_zero]
  refine WT.take 2 (v := .pointer (some ⟨q, 0, none⟩)) (by simp only [List.getElem?_toArray, List.getElem?_cons_succ, List.getElem?_cons_zero]; rfl) (by kernel_rfl) (by exact fun _ _ _ h => h) (by rfl) (by rintro w ⟨u, rfl⟩; exact rn_load1 (by kernel_rfl) (by rfl) (C3 u)) HS.out ?_
  simp only [Nat.reduceAdd, Nat.zero_add, Act.put, List.setIfInBounds_toArray, List.set_cons_succ, List.set_cons_zero]
  refine WT.call 1 (by simp only [List.getElem?_toArray, List.getElem?_cons_succ, List.getElem?_cons_zero]; rfl) (by kernel_rfl) (by rfl) (by go_simp; first | done | exact ⟨⟨rfl, rfl⟩, rfl⟩) (LP.out _ (Keeps.refl _ _).drew) ?_
  rintro _ w3 ⟨v5, rfl, o5, k5⟩
  have q3 := (Keeps.refl Nb w2).drew.trans_nb k5
  replace HS : Hid (∃ u : Sub w2, w3 = u.wd) := ⟨⟨w3, q3⟩, rfl⟩
  refine ⟨_, rfl, HS.out, ?_⟩
  simp only [Nat.reduceAdd, Nat.zero_add, Act.put, List.setIfInBounds_toArray, List.set_cons_succ, List.set_cons_zero]
  refine WT.call 3 (by simp only [List.getElem?_toArray, List.getElem?_cons_succ, List.getElem?_cons_zero]; rfl) (by kernel_rfl) (by rfl) (by go_simp; first | done | exact ⟨⟨rfl, rfl⟩, rfl⟩) (LR.out _ q3) ?_
  rintro _ w4 ⟨v6, rfl, o6, k6⟩
  have q4 := q3.trans_nb k6
  replace HS : Hid (∃ u : Sub w2, w4 = u.wd) := ⟨⟨w4, q4⟩, rfl⟩
  refine ⟨_, rfl, HS.out, ?_⟩
  simp only [Nat.reduceAdd, Nat.zero_add, Act.put, List.setIfInBounds_toArray, List.set_cons_succ, List.set_cons_zero]
  replace o5 := owns_keeps o5 k6 (fun _ _ e => e)
  refine WT.take 4 (v := _) (by simp only [List.getElem?_toArray, List.getElem?_cons_succ, List.getElem?_cons_zero]; rfl) (by kernel_rfl) (by exact fun _ _ _ h => h) (by rfl) (by rintro w ⟨u, rfl⟩; go_simp; with_reducible rfl) HS.out ?_
  simp only [Nat.reduceAdd, Nat.zero_add, Act.put, List.setIfInBounds_toArray, List.set_cons_succ, List.set_cons_zero]
  refine WT.take 5 (v := _) (by simp only [List.getElem?_toArray, List.getElem?_cons_succ, List.getElem?_cons_zero]; rfl) (by kernel_rfl) (by exact fun _ _ _ h => h) (by rfl) (by rintro w ⟨u, rfl⟩; go_simp; with_reducible rfl) HS.out ?_
  simp only [Nat.reduceAdd, Nat.zero_add, Act.put, List.setIfInBounds_toArray, List.set_cons_succ, List.set_cons_zero]
  refine WT.stop (by kernel_rfl) (WP.done (by kernel_rfl) ?_)
  have K4 := Lib.hid (K2.out.trans_nb q4)
  have B34 := Lib.hid (q4.nb B3.out); have B44 := Lib.hid (q4.nb B4.out)
  have P4 := Lib.hid (HP.out.nb K4.out); have R4 := Lib.hid (HR.out.nb K4.out)
  have z4 := q4.size
  have lt4 := lt_of_block B4.out
  clear HS C3 LP LR q3 k5 q4 k6 B3 B4 HP HR K2
  -- the links, twice
  have HG := Lib.hid P4.out.good
  have HF := Lib.hid (lks_fits HG.out.ok)
  have hN := lks_len cs
  have HMEM := Lib.hid (fun (l : List Int) (hl : l ∈ lks cs) => hl)
  obtain ⟨a5, c5, rfl, h51, h52, hh5, -⟩ := owns_has o5
  obtain ⟨a6, c6, rfl, h61, h62, hh6, -⟩ := owns_has o6
  unfold maxLen at h52 h62
  obtain ⟨b5, o5f, hb5, hl5⟩ := links_get hh5 HF.out
  obtain ⟨b6, o6f, hb6, hl6⟩ := links_get hh6 HF.out
  have HB5 := Lib.hid hb5; have HL5 := Lib.hid hl5; have HB6 := Lib.hid hb6; have HL6 := Lib.hid hl6
  clear o5 o6 hh5 hh6 hb5 hl5 hb6 hl6
  generalize hLL : lks cs = L at *
  have HLL := Lib.hid hLL
  clear hLL
  -- the reference's row
  obtain ⟨⟨ar, cr, hbq, hla⟩, -, -⟩ := R4.out
  have hc3 := hla.2.1
  have hm3 := hla.2.2.1
  unfold maxLen at hm3
  have HLA := Lib.hid hla; have HBQ := Lib.hid hbq
  obtain ⟨br, off, harb, hvr⟩ := votes_at' hla HG.out.ok
  have har : cs ≠ [] → ar = some ⟨br, off, none⟩ := fun h => (harb h).1
  have HQB := Lib.hid (fun h : cs ≠ [] => (harb h).2)
  clear harb
  have HAR := Lib.hid har; have HVR := Lib.hid hvr
  clear hla hbq har hvr
  -- are they as many?
  have t1 : (((L.length : Nat) : Int) != ((L.length : Nat) : Int)) = false := by simp
  have t2 : (((cs.length : Nat) : Int) != ((cs.length : Nat) : Int)) = false := by simp
  have C3 : ∀ u : Sub w4, u.wd.cell? ⟨g3, 0, none⟩ = some (.pointer (some ⟨q, 0, none⟩)) := fun u => by rw [cell_of_block (u.k.nb B34.out)]; rfl
  have CQ : ∀ u : Sub w4, u.wd.cell? ⟨q, 0, none⟩ = some (.slice ar cs.length cr) := fun u => by rw [cell_of_block (u.k.nb HBQ.out)]; rfl
  have LN := Lib.hid (fun (u : World) (k : Keeps Nb w4 u) => len_at p F R cs u (P4.out.nb k))
  go_wp2
  refine region_sub (by kernel_rfl) (by kernel_rfl) ?_
  repeat (go_big_quiet_step ((go_at_call 15; exact quiet_sub ((LN.out _ (Sub.k _)).mono fun _ _ ⟨he, hw⟩ => ⟨he, hw ▸ Keeps.refl _ _⟩))))
  refine wpQuiet_nil ?_
  rintro w5 ⟨u5, hu5⟩
  have K5 : Keeps Nb w4 w5 := hu5 ▸ u5.k
  clear hu5 u5 C3 CQ t1 t2 LN
  go_wp2_with fail
  go_loopw [7] (fun i wr => ∃ k : Nat, k ≤ L.length ∧ i = .int .i64 k ∧ Keeps Nb w4 wr) (fun i _ => L.length - (intOf i).toNat)
  case atStart => exact ⟨0, Nat.zero_le _, rfl, K5⟩
  case round =>
    obtain ⟨k, hk, rfl, kw⟩ := hrel
    by_cases hlt : k < L.length
    · have i1 : (k : Int) < (L.length : Int) := by omega
      have hne : L ≠ [] := by rintro rfl; simp at hlt
      have ha5 := HB5.out hne
      have ha6 := HB6.out hne
      subst ha5 ha6
      have hx5 := HL5.out k L[k] (List.getElem?_eq_getElem hlt)
      have hx6 := HL6.out k L[k] (List.getElem?_eq_getElem hlt)
      have fl := HF.out _ (List.getElem_mem hlt)
      generalize L[k] = x at *
      have lx : (valsK LK x).length = 66 := by rw [valsK_length fl.length]; rfl
      have HX5 := Lib.hid (fun u : World => fun k : Keeps Nb w4 u => hx5.nb k)
      have HX6 := Lib.hid (fun u : World => fun k : Keeps Nb w4 u => hx6.nb k)
      have FL := Lib.hid fl
      clear hx5 hx6 fl
      have KW := Lib.hid kw; clear kw
      have WA := Lib.hid (fun (u : World) (h : Keeps Nb w4 u) => weight_at p F R cs x u (P4.out.nb h) FL.out)
      have WR := Lib.hid (fun (u : World) (h : Keeps Nb w4 u) => refWeight_at q Q cs x u (R4.out.nb h) FL.out)
      have t3 : (((wt cs x : Nat) : Int) != ((wt cs x : Nat) : Int)) = false := by simp
      have C3 : ∀ u : Sub wr, u.wd.cell? ⟨g3, 0, none⟩ = some (.pointer (some ⟨q, 0, none⟩)) := fun u => by rw [cell_of_block (u.k.nb (KW.out.nb B34.out))]; rfl
      go_wp2_with fail
      refine region_sub (by kernel_rfl) (by kernel_rfl) ?_
      repeat (first | go_big_quiet_skip | (with_reducible refine stopq (op := .load 27 _) ?_) | (with_reducible refine stopq (op := .load 28 _) ?_) | (with_reducible refine stopq (op := .load 30 _) ?_) | (with_reducible refine stopq (op := .load 33 _) ?_) | (with_reducible refine stopq (op := .load 35 _) ?_) | (with_reducible refine stopq (op := .load 40 _) ?_) | (with_reducible refine stopq (op := .load 76 _) ?_) | (with_reducible refine stopq (op := .load 77 _) ?_) | (with_reducible refine stopq (op := .build 27 _) ?_) | (with_reducible refine stopq (op := .build 28 _) ?_) | (with_reducible refine stopq (op := .build 30 _) ?_) | (with_reducible refine stopq (op := .build 33 _) ?_) | (with_reducible refine stopq (op := .build 35 _) ?_) | (with_reducible refine stopq (op := .build 40 _) ?_) | (with_reducible refine stopq (op := .build 76 _) ?_) | (with_reducible refine stopq (op := .build 77 _) ?_) | (with_reducible refine stopq (op := .lookup _ _ _ _) ?_) | (with_reducible refine stopq (op := .binOp .eql 28 _ _ _) ?_) | (with_reducible refine stopq (op := .binOp .eql 40 _ _ _) ?_) | (with_reducible refine stopq (op := .binOp .neq 28 _ _ _) ?_) | (with_reducible refine stopq (op := .binOp .neq 40 _ _ _) ?_) | go_big_quiet_step (fail))
      refine at_out (wpq_val (v := kv LK x) rfl (by rintro _ ⟨u, rfl⟩; exact rn_loadH aggL (by rfl) (HX5.out _ (KW.out.trans_nb u.k)) lx) ?_)
      simp only [Nat.reduceAdd, Nat.zero_add, Act.put, List.setIfInBounds_toArray, List.set_cons_succ, List.set_cons_zero]
      repeat (first | go_big_quiet_skip | (with_reducible refine stopq (op := .load 27 _) ?_) | (with_reducible refine stopq (op := .load 28 _) ?_) | (with_reducible refine stopq (op := .load 30 _) ?_) | (with_reducible refine stopq (op := .load 33 _) ?_) | (with_reducible refine stopq (op := .load 35 _) ?_) | (with_reducible refine stopq (op := .load 40 _) ?_) | (with_reducible refine stopq (op := .load 76 _) ?_) | (with_reducible refine stopq (op := .load 77 _) ?_) | (with_reducible refine stopq (op := .build 27 _) ?_) | (with_reducible refine stopq (op := .build 28 _) ?_) | (with_reducible refine stopq (op := .build 30 _) ?_) | (with_reducible refine stopq (op := .build 33 _) ?_) | (with_reducible refine stopq (op := .build 35 _) ?_) | (with_reducible refine stopq (op := .build 40 _) ?_) | (with_reducible refine stopq (op := .build 76 _) ?_) | (with_reducible refine stopq (op := .build 77 _) ?_) | (with_reducible refine stopq (op := .lookup _ _ _ _) ?_) | (with_reducible refine stopq (op := .binOp .eql 28 _ _ _) ?_) | (with_reducible refine stopq (op := .binOp .eql 40 _ _ _) ?_) | (with_reducible refine stopq (op := .binOp .neq 28 _ _ _) ?_) | (with_reducible refine stopq (op := .binOp .neq 40 _ _ _) ?_) | go_big_quiet_step (fail))
      refine at_out (wpq_val (v := kv LK x) rfl (by rintro _ ⟨u, rfl⟩; exact rn_loadH aggL (by rfl) (HX6.out _ (KW.out.trans_nb u.k)) lx) ?_)
      simp only [Nat.reduceAdd, Nat.zero_add, Act.put, List.setIfInBounds_toArray, List.set_cons_succ, List.set_cons_zero]
      repeat (first | go_big_quiet_skip | (with_reducible refine stopq (op := .load 27 _) ?_) | (with_reducible refine stopq (op := .load 28 _) ?_) | (with_reducible refine stopq (op := .load 30 _) ?_) | (with_reducible refine stopq (op := .load 33 _) ?_) | (with_reducible refine stopq (op := .load 35 _) ?_) | (with_reducible refine stopq (op := .load 40 _) ?_) | (with_reducible refine stopq (op := .load 76 _) ?_) | (with_reducible refine stopq (op := .load 77 _) ?_) | (with_reducible refine stopq (op := .build 27 _) ?_) | (with_reducible refine stopq (op := .build 28 _) ?_) | (with_reducible refine stopq (op := .build 30 _) ?_) | (with_reducible refine stopq (op := .build 33 _) ?_) | (with_reducible refine stopq (op := .build 35 _) ?_) | (with_reducible refine stopq (op := .build 40 _) ?_) | (with_reducible refine stopq (op := .build 76 _) ?_) | (with_reducible refine stopq (op := .build 77 _) ?_) | (with_reducible refine stopq (op := .lookup _ _ _ _) ?_) | (with_reducible refine stopq (op := .binOp .eql 28 _ _ _) ?_) | (with_reducible refine stopq (op := .binOp .eql 40 _ _ _) ?_) | (with_reducible refine stopq (op := .binOp .neq 28 _ _ _) ?_) | (with_reducible refine stopq (op := .binOp .neq 40 _ _ _) ?_) | go_big_quiet_step (fail))
      refine at_out (wpq_val (v := .bool false) rfl (by rintro _ ⟨u, rfl⟩; exact (rn_neqK kkL (by rfl) (by rfl) FL.out FL.out).trans (by simp)) ?_)
      simp only [Nat.reduceAdd, Nat.zero_add, Act.put, List.setIfInBounds_toArray, List.set_cons_succ, List.set_cons_zero]
      repeat (first | go_big_quiet_skip | (with_reducible refine stopq (op := .load 27 _) ?_) | (with_reducible refine stopq (op := .load 28 _) ?_) | (with_reducible refine stopq (op := .load 30 _) ?_) | (with_reducible refine stopq (op := .load 33 _) ?_) | (with_reducible refine stopq (op := .load 35 _) ?_) | (with_reducible refine stopq (op := .load 40 _) ?_) | (with_reducible refine stopq (op := .load 76 _) ?_) | (with_reducible refine stopq (op := .load 77 _) ?_) | (with_reducible refine stopq (op := .build 27 _) ?_) | (with_reducible refine stopq (op := .build 28 _) ?_) | (with_reducible refine stopq (op := .build 30 _) ?_) | (with_reducible refine stopq (op := .build 33 _) ?_) | (with_reducible refine stopq (op := .build 35 _) ?_) | (with_reducible refine stopq (op := .build 40 _) ?_) | (with_reducible refine stopq (op := .build 76 _) ?_) | (with_reducible refine stopq (op := .build 77 _) ?_) | (with_reducible refine stopq (op := .lookup _ _ _ _) ?_) | (with_reducible refine stopq (op := .binOp .eql 28 _ _ _) ?_) | (with_reducible refine stopq (op := .binOp .eql 40 _ _ _) ?_) | (with_reducible refine stopq (op := .binOp .neq 28 _ _ _) ?_) | (with_reducible refine stopq (op := .binOp .neq 40 _ _ _) ?_) | go_big_quiet_step (fail))
      refine at_out (wpq_val (v := kv LK x) rfl (by rintro _ ⟨u, rfl⟩; exact rn_loadH aggL (by rfl) (HX5.out _ (KW.out.trans_nb u.k)) lx) ?_)
      simp only [Nat.reduceAdd, Nat.zero_add, Act.put, List.setIfInBounds_toArray, List.set_cons_succ, List.set_cons_zero]
      go_big_quiet_step ((go_at_call 11; with_reducible exact quiet_sub (WA.out _ (KW.out.trans_nb (Sub.k _)))))
      repeat (first | go_big_quiet_skip | (with_reducible refine stopq (op := .load 27 _) ?_) | (with_reducible refine stopq (op := .load 28 _) ?_) | (with_reducible refine stopq (op := .load 30 _) ?_) | (with_reducible refine stopq (op := .load 33 _) ?_) | (with_reducible refine stopq (op := .load 35 _) ?_) | (with_reducible refine stopq (op := .load 40 _) ?_) | (with_reducible refine stopq (op := .load 76 _) ?_) | (with_reducible refine stopq (op := .load 77 _) ?_) | (with_reducible refine stopq (op := .build 27 _) ?_) | (with_reducible refine stopq (op := .build 28 _) ?_) | (with_reducible refine stopq (op := .build 30 _) ?_) | (with_reducible refine stopq (op := .build 33 _) ?_) | (with_reducible refine stopq (op := .build 35 _) ?_) | (with_reducible refine stopq (op := .build 40 _) ?_) | (with_reducible refine stopq (op := .build 76 _) ?_) | (with_reducible refine stopq (op := .build 77 _) ?_) | (with_reducible refine stopq (op := .lookup _ _ _ _) ?_) | (with_reducible refine stopq (op := .binOp .eql 28 _ _ _) ?_) | (with_reducible refine stopq (op := .binOp .eql 40 _ _ _) ?_) | (with_reducible refine stopq (op := .binOp .neq 28 _ _ _) ?_) | (with_reducible refine stopq (op := .binOp .neq 40 _ _ _) ?_) | go_big_quiet_step (fail))
      refine at_out (wpq_val (v := kv LK x) rfl (by rintro _ ⟨u, rfl⟩; exact rn_loadH aggL (by rfl) (HX5.out _ (KW.out.trans_nb u.k)) lx) ?_)
      simp only [Nat.reduceAdd, Nat.zero_add, Act.put, List.setIfInBounds_toArray, List.set_cons_succ, List.set_cons_zero]
      go_big_quiet_step ((go_at_call 31; with_reducible exact quiet_sub (WR.out _ (KW.out.trans_nb (Sub.k _)))))
      repeat (first | go_big_quiet_skip | (with_reducible refine stopq (op := .load 27 _) ?_) | (with_reducible refine stopq (op := .load 28 _) ?_) | (with_reducible refine stopq (op := .load 30 _) ?_) | (with_reducible refine stopq (op := .load 33 _) ?_) | (with_reducible refine stopq (op := .load 35 _) ?_) | (with_reducible refine stopq (op := .load 40 _) ?_) | (with_reducible refine stopq (op := .load 76 _) ?_) | (with_reducible refine stopq (op := .load 77 _) ?_) | (with_reducible refine stopq (op := .build 27 _) ?_) | (with_reducible refine stopq (op := .build 28 _) ?_) | (with_reducible refine stopq (op := .build 30 _) ?_) | (with_reducible refine stopq (op := .build 33 _) ?_) | (with_reducible refine stopq (op := .build 35 _) ?_) | (with_reducible refine stopq (op := .build 40 _) ?_) | (with_reducible refine stopq (op := .build 76 _) ?_) | (with_reducible refine stopq (op := .build 77 _) ?_) | (with_reducible refine stopq (op := .lookup _ _ _ _) ?_) | (with_reducible refine stopq (op := .binOp .eql 28 _ _ _) ?_) | (with_reducible refine stopq (op := .binOp .eql 40 _ _ _) ?_) | (with_reducible refine stopq (op := .binOp .neq 28 _ _ _) ?_) | (with_reducible refine stopq (op := .binOp .neq 40 _ _ _) ?_) | go_big_quiet_step (fail))
      refine wpQuiet_nil ?_
      rintro w6 ⟨u6, hu6⟩
      have K6 : Keeps Nb wr w6 := hu6 ▸ u6.k
      clear hu6 u6 C3 t3 WA WR
      replace KW := Lib.hid (KW.out.trans_nb K6)
      clear K6
      obtain ⟨z22, E22⟩ := el22
      go_wp2_with fail
      go_loopw [8, 9] (fun v j wr => ∃ m : Nat, m ≤ cs.length ∧ j = .int .i64 m ∧ Gath w6 wr v Q ((cs.take m).filter fun c => decide (c.link = x)) ∧ Keeps Nb w6 wr) (fun _ j _ => cs.length - (intOf j).toNat)
      case atStart => exact ⟨0, Nat.zero_le _, rfl, ⟨[], World.ownsRow_nil _ _ _ _, rfl⟩, Keeps.refl _ _⟩
      case round =>
        obtain ⟨m, hm, rfl, hgv, kq⟩ := hrel
        have KQ := Lib.hid (KW.out.trans_nb kq)
        have c3 : ∀ u : Sub wr, u.wd.cell? ⟨g3, 0, none⟩ = some (.pointer (some ⟨q, 0, none⟩)) := fun u => by rw [cell_of_block (u.k.nb (KQ.out.nb B34.out))]; rfl
        have cq : ∀ u : Sub wr, u.wd.cell? ⟨q, 0, none⟩ = some (.slice ar cs.length cr) := fun u => by rw [cell_of_block (u.k.nb (KQ.out.nb HBQ.out))]; rfl
        have d3 := c3 ⟨wr, Keeps.refl _ _⟩
        have dq := cq ⟨wr, Keeps.refl _ _⟩
        by_cases hml : m < cs.length
        · have i2 : (m : Int) < (cs.length : Int) := by omega
          have hne2 : cs ≠ [] := by rintro rfl; simp at hml
          have har := HAR.out hne2
          subst har
          obtain ⟨s1, hv1⟩ := HVR.out m cs[m] (List.getElem?_eq_getElem hml)
          have ok1 := HG.out.ok _ (List.getElem_mem hml)
          have HT := Lib.hid (filter_take hml (fun c => decide (c.link = x)))
          have hfl : ((cs.take m).filter fun c => decide (c.link = x)).length ≤ m := by have := List.length_filter_le (fun c => decide (c.link = x)) (cs.take m); rw [List.length_take] at this; omega
          generalize ((cs.take m).filter fun c => decide (c.link = x)) = D at *
          generalize cs[m] = c at *
          have lv1 := vc_len ok1 s1
          have lw1 := sc_len ok1 s1
          have one1 := Lib.hid (sc_one c s1 hv1.sig.one)
          have VV := Lib.hid (fun (u : World) (h : Keeps Nb wr u) => hv1.nb (KQ.out.trans_nb h))
          have FC := Lib.hid ok1.link
          have CL := Lib.hid (fun w' => refLinkOf_at c s1 w' ok1)
          have HX := Lib.hid (fun (u : World) (h : Keeps Nb wr u) => HX5.out u (KQ.out.trans_nb h))
          have HGV := Lib.hid hgv; have HKQ := Lib.hid kq
          obtain ⟨xs0, hx0, -⟩ := hgv
          obtain ⟨a3, c3', rfl, hl3, hl4, -, -⟩ := owns_has hx0
          unfold maxLen at hl4
          clear hv1 ok1 kq hx0
          generalize hd : decide (c.link = x) = d
          have HD := Lib.hid hd
          clear hd
          go_wp2_with fail
          refine region_sub (by kernel_rfl) (by kernel_rfl) ?_
          repeat (first | go_big_quiet_skip | (with_reducible refine stopq (op := .load 27 _) ?_) | (with_reducible refine stopq (op := .load 28 _) ?_) | (with_reducible refine stopq (op := .load 30 _) ?_) | (with_reducible refine stopq (op := .load 33 _) ?_) | (with_reducible refine stopq (op := .load 35 _) ?_) | (with_reducible refine stopq (op := .load 40 _) ?_) | (with_reducible refine stopq (op := .load 76 _) ?_) | (with_reducible refine stopq (op := .load 77 _) ?_) | (with_reducible refine stopq (op := .build 27 _) ?_) | (with_reducible refine stopq (op := .build 28 _) ?_) | (with_reducible refine stopq (op := .build 30 _) ?_) | (with_reducible refine stopq (op := .build 33 _) ?_) | (with_reducible refine stopq (op := .build 35 _) ?_) | (with_reducible refine stopq (op := .build 40 _) ?_) | (with_reducible refine stopq (op := .build 76 _) ?_) | (with_reducible refine stopq (op := .build 77 _) ?_) | (with_reducible refine stopq (op := .lookup _ _ _ _) ?_) | (with_reducible refine stopq (op := .binOp .eql 28 _ _ _) ?_) | (with_reducible refine stopq (op := .binOp .eql 40 _ _ _) ?_) | (with_reducible refine stopq (op := .binOp .neq 28 _ _ _) ?_) | (with_reducible refine stopq (op := .binOp .neq 40 _ _ _) ?_) | go_big_quiet_step (fail))
          refine at_out (wpq_val (v := .agg (vc c s1).toArray) rfl (by rintro _ ⟨u, rfl⟩; exact rn_loadH aggV (by rfl) (VV.out _ u.k).vote lv1) ?_)
          simp only [Nat.reduceAdd, Nat.zero_add, Act.put, List.setIfInBounds_toArray, List.set_cons_succ, List.set_cons_zero]
          go_big_quiet_step ((go_at_call 32; with_reducible exact quiet_sub (CL.out _)))
          repeat (first | go_big_quiet_skip | (with_reducible refine stopq (op := .load 27 _) ?_) | (with_reducible refine stopq (op := .load 28 _) ?_) | (with_reducible refine stopq (op := .load 30 _) ?_) | (with_reducible refine stopq (op := .load 33 _) ?_) | (with_reducible refine stopq (op := .load 35 _) ?_) | (with_reducible refine stopq (op := .load 40 _) ?_) | (with_reducible refine stopq (op := .load 76 _) ?_) | (with_reducible refine stopq (op := .load 77 _) ?_) | (with_reducible refine stopq (op := .build 27 _) ?_) | (with_reducible refine stopq (op := .build 28 _) ?_) | (with_reducible refine stopq (op := .build 30 _) ?_) | (with_reducible refine stopq (op := .build 33 _) ?_) | (with_reducible refine stopq (op := .build 35 _) ?_) | (with_reducible refine stopq (op := .build 40 _) ?_) | (with_reducible refine stopq (op := .build 76 _) ?_) | (with_reducible refine stopq (op := .build 77 _) ?_) | (with_reducible refine stopq (op := .lookup _ _ _ _) ?_) | (with_reducible refine stopq (op := .binOp .eql 28 _ _ _) ?_) | (with_reducible refine stopq (op := .binOp .eql 40 _ _ _) ?_) | (with_reducible refine stopq (op := .binOp .neq 28 _ _ _) ?_) | (with_reducible refine stopq (op := .binOp .neq 40 _ _ _) ?_) | go_big_quiet_step (fail))
          refine at_out (wpq_val (v := kv LK x) rfl (by rintro _ ⟨u, rfl⟩; exact rn_loadH aggL (by rfl) (HX.out _ u.k) lx) ?_)
          simp only [Nat.reduceAdd, Nat.zero_add, Act.put, List.setIfInBounds_toArray, List.set_cons_succ, List.set_cons_zero]
          repeat (first | go_big_quiet_skip | (with_reducible refine stopq (op := .load 27 _) ?_) | (with_reducible refine stopq (op := .load 28 _) ?_) | (with_reducible refine stopq (op := .load 30 _) ?_) | (with_reducible refine stopq (op := .load 33 _) ?_) | (with_reducible refine stopq (op := .load 35 _) ?_) | (with_reducible refine stopq (op := .load 40 _) ?_) | (with_reducible refine stopq (op := .load 76 _) ?_) | (with_reducible refine stopq (op := .load 77 _) ?_) | (with_reducible refine stopq (op := .build 27 _) ?_) | (with_reducible refine stopq (op := .build 28 _) ?_) | (with_reducible refine stopq (op := .build 30 _) ?_) | (with_reducible refine stopq (op := .build 33 _) ?_) | (with_reducible refine stopq (op := .build 35 _) ?_) | (with_reducible refine stopq (op := .build 40 _) ?_) | (with_reducible refine stopq (op := .build 76 _) ?_) | (with_reducible refine stopq (op := .build 77 _) ?_) | (with_reducible refine stopq (op := .lookup _ _ _ _) ?_) | (with_reducible refine stopq (op := .binOp .eql 28 _ _ _) ?_) | (with_reducible refine stopq (op := .binOp .eql 40 _ _ _) ?_) | (with_reducible refine stopq (op := .binOp .neq 28 _ _ _) ?_) | (with_reducible refine stopq (op := .binOp .neq 40 _ _ _) ?_) | go_big_quiet_step (fail))
          refine at_out (wpq_val (v := .bool d) rfl (by rintro _ ⟨u, rfl⟩; exact (rn_eqlK kkL (by rfl) (by rfl) FC.out FL.out).trans (by rw [HD.out])) ?_)
          simp only [Nat.reduceAdd, Nat.zero_add, Act.put, List.setIfInBounds_toArray, List.set_cons_succ, List.set_cons_zero]
          repeat (first | go_big_quiet_skip | (with_reducible refine stopq (op := .load 27 _) ?_) | (with_reducible refine stopq (op := .load 28 _) ?_) | (with_reducible refine stopq (op := .load 30 _) ?_) | (with_reducible refine stopq (op := .load 33 _) ?_) | (with_reducible refine stopq (op := .load 35 _) ?_) | (with_reducible refine stopq (op := .load 40 _) ?_) | (with_reducible refine stopq (op := .load 76 _) ?_) | (with_reducible refine stopq (op := .load 77 _) ?_) | (with_reducible refine stopq (op := .build 27 _) ?_) | (with_reducible refine stopq (op := .build 28 _) ?_) | (with_reducible refine stopq (op := .build 30 _) ?_) | (with_reducible refine stopq (op := .build 33 _) ?_) | (with_reducible refine stopq (op := .build 35 _) ?_) | (with_reducible refine stopq (op := .build 40 _) ?_) | (with_reducible refine stopq (op := .build 76 _) ?_) | (with_reducible refine stopq (op := .build 77 _) ?_) | (with_reducible refine stopq (op := .lookup _ _ _ _) ?_) | (with_reducible refine stopq (op := .binOp .eql 28 _ _ _) ?_) | (with_reducible refine stopq (op := .binOp .eql 40 _ _ _) ?_) | (with_reducible refine stopq (op := .binOp .neq 28 _ _ _) ?_) | (with_reducible refine stopq (op := .binOp .neq 40 _ _ _) ?_) | go_big_quiet_step (fail))
          refine wpQuiet_nil ?_
          rintro w7 ⟨u7, hu7⟩
          have K7 : Keeps Nb wr w7 := hu7 ▸ u7.k
          clear hu7 u7
          have d3' := c3 ⟨w7, K7⟩
          have dq' := cq ⟨w7, K7⟩
          clear c3 cq d3 dq CL
          cases d
          · have HT2 := Lib.hid (HT.out.trans (by rw [HD.out]; rfl) : (cs.take (m + 1)).filter (fun c => decide (c.link = x)) = D)
            go_wp2
            go_roundw
            case rel => exact ⟨m + 1, by omega, by go_num, by rw [HT2.out]; exact HGV.out.nb K7, HKQ.out.trans_nb K7⟩
            case measure => simp [intOf]; omega
          · have HT2 := Lib.hid (HT.out.trans (by rw [HD.out]; rfl) : (cs.take (m + 1)).filter (fun c => decide (c.link = x)) = D ++ [c])
            go_wp2_with (first | go_skip | (with_reducible refine stop_load (t := 27) ?_) | (with_reducible refine stop_load (t := 28) ?_) | (with_reducible refine stop_load (t := 30) ?_) | (with_reducible refine stop_load (t := 33) ?_) | (with_reducible refine stop_load (t := 35) ?_) | (with_reducible refine stop_load (t := 40) ?_) | (with_reducible refine stop_load (t := 76) ?_) | (with_reducible refine stop_load (t := 77) ?_) | (with_reducible refine stop_box (t := 27) ?_) | (with_reducible refine stop_box (t := 28) ?_) | (with_reducible refine stop_box (t := 30) ?_) | (with_reducible refine stop_box (t := 33) ?_) | (with_reducible refine stop_box (t := 35) ?_) | (with_reducible refine stop_box (t := 40) ?_) | (with_reducible refine stop_box (t := 76) ?_) | (with_reducible refine stop_box (t := 77) ?_) | (with_reducible refine stop_alloc (t := 27) ?_) | (with_reducible refine stop_alloc (t := 28) ?_) | (with_reducible refine stop_alloc (t := 30) ?_) | (with_reducible refine stop_alloc (t := 33) ?_) | (with_reducible refine stop_alloc (t := 35) ?_) | (with_reducible refine stop_alloc (t := 40) ?_) | (with_reducible refine stop_alloc (t := 76) ?_) | (with_reducible refine stop_alloc (t := 77) ?_) | (with_reducible refine stop_alloc (t := 52) ?_) | (with_reducible refine stop_alloc (t := 68) ?_) | (with_reducible refine stop_alloc (t := 72) ?_) | (with_reducible refine stop_build (t := 27) ?_) | (with_reducible refine stop_build (t := 28) ?_) | (with_reducible refine stop_build (t := 30) ?_) | (with_reducible refine stop_build (t := 33) ?_) | (with_reducible refine stop_build (t := 35) ?_) | (with_reducible refine stop_build (t := 40) ?_) | (with_reducible refine stop_build (t := 76) ?_) | (with_reducible refine stop_build (t := 77) ?_) | (with_reducible refine stop_build (t := 52) ?_) | (with_reducible refine stop_build (t := 68) ?_) | (with_reducible refine stop_store (t := 27) ?_) | (with_reducible refine stop_store (t := 28) ?_) | (with_reducible refine stop_store (t := 30) ?_) | (with_reducible refine stop_store (t := 33) ?_) | (with_reducible refine stop_store (t := 35) ?_) | (with_reducible refine stop_store (t := 40) ?_) | (with_reducible refine stop_store (t := 76) ?_) | (with_reducible refine stop_store (t := 77) ?_) | (with_reducible refine stop_store (t := 22) ?_) | (with_reducible refine stop_store (t := 31) ?_) | (with_reducible refine stop_store (t := 47) ?_) | (with_reducible refine stop_store (t := 52) ?_) | (with_reducible refine stop_store (t := 68) ?_) | (with_reducible refine stop_store (t := 72) ?_) | (with_reducible refine stop_lookup ?_) | (with_reducible refine stop_buildSlice ?_) | (with_reducible refine stop_app ?_) | (with_reducible refine stop_mapEntry ?_) | (with_reducible refine stop_eql (t := 28) ?_) | (with_reducible refine stop_eql (t := 40) ?_) | (with_reducible refine stop_neq (t := 28) ?_) | (with_reducible refine stop_neq (t := 40) ?_))
            refine at_out (wpList_val (v := .agg (sc c s1).toArray) rfl (rn_loadH aggS (by rfl) (VV.out _ K7).whole lw1) ?_)
            simp only [Nat.reduceAdd, Nat.zero_add, Act.put, List.setIfInBounds_toArray, List.set_cons_succ, List.set_cons_zero]
            go_wp2_with (first | go_skip | (with_reducible refine stop_load (t := 27) ?_) | (with_reducible refine stop_load (t := 28) ?_) | (with_reducible refine stop_load (t := 30) ?_) | (with_reducible refine stop_load (t := 33) ?_) | (with_reducible refine stop_load (t := 35) ?_) | (with_reducible refine stop_load (t := 40) ?_) | (with_reducible refine stop_load (t := 76) ?_) | (with_reducible refine stop_load (t := 77) ?_) | (with_reducible refine stop_box (t := 27) ?_) | (with_reducible refine stop_box (t := 28) ?_) | (with_reducible refine stop_box (t := 30) ?_) | (with_reducible refine stop_box (t := 33) ?_) | (with_reducible refine stop_box (t := 35) ?_) | (with_reducible refine stop_box (t := 40) ?_) | (with_reducible refine stop_box (t := 76) ?_) | (with_reducible refine stop_box (t := 77) ?_) | (with_reducible refine stop_alloc (t := 27) ?_) | (with_reducible refine stop_alloc (t := 28) ?_) | (with_reducible refine stop_alloc (t := 30) ?_) | (with_reducible refine stop_alloc (t := 33) ?_) | (with_reducible refine stop_alloc (t := 35) ?_) | (with_reducible refine stop_alloc (t := 40) ?_) | (with_reducible refine stop_alloc (t := 76) ?_) | (with_reducible refine stop_alloc (t := 77) ?_) | (with_reducible refine stop_alloc (t := 52) ?_) | (with_reducible refine stop_alloc (t := 68) ?_) | (with_reducible refine stop_alloc (t := 72) ?_) | (with_reducible refine stop_build (t := 27) ?_) | (with_reducible refine stop_build (t := 28) ?_) | (with_reducible refine stop_build (t := 30) ?_) | (with_reducible refine stop_build (t := 33) ?_) | (with_reducible refine stop_build (t := 35) ?_) | (with_reducible refine stop_build (t := 40) ?_) | (with_reducible refine stop_build (t := 76) ?_) | (with_reducible refine stop_build (t := 77) ?_) | (with_reducible refine stop_build (t := 52) ?_) | (with_reducible refine stop_build (t := 68) ?_) | (with_reducible refine stop_store (t := 27) ?_) | (with_reducible refine stop_store (t := 28) ?_) | (with_reducible refine stop_store (t := 30) ?_) | (with_reducible refine stop_store (t := 33) ?_) | (with_reducible refine stop_store (t := 35) ?_) | (with_reducible refine stop_store (t := 40) ?_) | (with_reducible refine stop_store (t := 76) ?_) | (with_reducible refine stop_store (t := 77) ?_) | (with_reducible refine stop_store (t := 22) ?_) | (with_reducible refine stop_store (t := 31) ?_) | (with_reducible refine stop_store (t := 47) ?_) | (with_reducible refine stop_store (t := 52) ?_) | (with_reducible refine stop_store (t := 68) ?_) | (with_reducible refine stop_store (t := 72) ?_) | (with_reducible refine stop_lookup ?_) | (with_reducible refine stop_buildSlice ?_) | (with_reducible refine stop_app ?_) | (with_reducible refine stop_mapEntry ?_) | (with_reducible refine stop_eql (t := 28) ?_) | (with_reducible refine stop_eql (t := 40) ?_) | (with_reducible refine stop_neq (t := 28) ?_) | (with_reducible refine stop_neq (t := 40) ?_))
            refine at_out (wpList_valE rfl (re_buildSlice1 (v := .agg (sc c s1).toArray) E22 (by rfl) (by simpa [Value.cells] using lw1) (by omega)) ?_)
            rintro _ we ⟨g6, rfl, ne⟩
            simp only [Nat.reduceAdd, Nat.zero_add, Act.put, List.setIfInBounds_toArray, List.set_cons_succ, List.set_cons_zero]
            have kre := K7.trans_nb ne.k
            have krz := kre.size
            have QE := Lib.hid (HKQ.out.trans_nb kre)
            obtain ⟨xs, hx1, hx2⟩ := HGV.out.nb kre
            have hq6 := KW.out.size
            have hqlt := Lib.hid (fun k (hk : Q k) => (HLA.out.2.2.2.1 k hk : k < w4.heap.size))
            have hob : ∀ b, (Value.slice a3 D.length c3').ownBlock = some b → w6.heap.size ≤ b := by
              intro b hb
              rcases hx1.2 with ⟨hv, _⟩ | ⟨g9, _, _, hv, hg9, hh9, _⟩
              · rw [hv] at hb; cases hb
              · rw [hv] at hb; cases hb; exact hg9
            have HOB := Lib.hid hob
            have HX2 := Lib.hid hx2
            have SGE := Lib.hid (VV.out _ kre).sig
            clear hob hx2
            go_wp2_with (first | go_skip | (with_reducible refine stop_load (t := 27) ?_) | (with_reducible refine stop_load (t := 28) ?_) | (with_reducible refine stop_load (t := 30) ?_) | (with_reducible refine stop_load (t := 33) ?_) | (with_reducible refine stop_load (t := 35) ?_) | (with_reducible refine stop_load (t := 40) ?_) | (with_reducible refine stop_load (t := 76) ?_) | (with_reducible refine stop_load (t := 77) ?_) | (with_reducible refine stop_box (t := 27) ?_) | (with_reducible refine stop_box (t := 28) ?_) | (with_reducible refine stop_box (t := 30) ?_) | (with_reducible refine stop_box (t := 33) ?_) | (with_reducible refine stop_box (t := 35) ?_) | (with_reducible refine stop_box (t := 40) ?_) | (with_reducible refine stop_box (t := 76) ?_) | (with_reducible refine stop_box (t := 77) ?_) | (with_reducible refine stop_alloc (t := 27) ?_) | (with_reducible refine stop_alloc (t := 28) ?_) | (with_reducible refine stop_alloc (t := 30) ?_) | (with_reducible refine stop_alloc (t := 33) ?_) | (with_reducible refine stop_alloc (t := 35) ?_) | (with_reducible refine stop_alloc (t := 40) ?_) | (with_reducible refine stop_alloc (t := 76) ?_) | (with_reducible refine stop_alloc (t := 77) ?_) | (with_reducible refine stop_alloc (t := 52) ?_) | (with_reducible refine stop_alloc (t := 68) ?_) | (with_reducible refine stop_alloc (t := 72) ?_) | (with_reducible refine stop_build (t := 27) ?_) | (with_reducible refine stop_build (t := 28) ?_) | (with_reducible refine stop_build (t := 30) ?_) | (with_reducible refine stop_build (t := 33) ?_) | (with_reducible refine stop_build (t := 35) ?_) | (with_reducible refine stop_build (t := 40) ?_) | (with_reducible refine stop_build (t := 76) ?_) | (with_reducible refine stop_build (t := 77) ?_) | (with_reducible refine stop_build (t := 52) ?_) | (with_reducible refine stop_build (t := 68) ?_) | (with_reducible refine stop_store (t := 27) ?_) | (with_reducible refine stop_store (t := 28) ?_) | (with_reducible refine stop_store (t := 30) ?_) | (with_reducible refine stop_store (t := 33) ?_) | (with_reducible refine stop_store (t := 35) ?_) | (with_reducible refine stop_store (t := 40) ?_) | (with_reducible refine stop_store (t := 76) ?_) | (with_reducible refine stop_store (t := 77) ?_) | (with_reducible refine stop_store (t := 22) ?_) | (with_reducible refine stop_store (t := 31) ?_) | (with_reducible refine stop_store (t := 47) ?_) | (with_reducible refine stop_store (t := 52) ?_) | (with_reducible refine stop_store (t := 68) ?_) | (with_reducible refine stop_store (t := 72) ?_) | (with_reducible refine stop_lookup ?_) | (with_reducible refine stop_buildSlice ?_) | (with_reducible refine stop_app ?_) | (with_reducible refine stop_mapEntry ?_) | (with_reducible refine stop_eql (t := 28) ?_) | (with_reducible refine stop_eql (t := 40) ?_) | (with_reducible refine stop_neq (t := 28) ?_) | (with_reducible refine stop_neq (t := 40) ?_))
            refine at_out (wpList_valE rfl (re_appB (base := w6.heap.size) (news := sc c s1) (m := 1) E22 QE.out.size hx1 (by rfl) (by rfl) (by simpa [Value.cells] using has_block ne.blk) (by omega) one1.out (by unfold maxLen; omega) (by omega)) ?_)
            rintro v9 wf ⟨hof, kf, hov⟩
            have hfin : Gath w6 wf v9 Q (D ++ [c]) :=
              ⟨xs ++ sc c s1, by rw [List.length_append]; exact hof, (HX2.out.keeps kf (fun k hk e => by have := HOB.out k e; have := hqlt.out k hk; omega)).snoc (SGE.out.keeps kf (fun k hk e => by have := HOB.out k e; have := hqlt.out k hk; omega))⟩
            have KF : Keeps Nb w6 wf := QE.out.trans kf (fun i hi e => by have := HOB.out i e; omega)
            have HFIN := Lib.hid hfin
            obtain ⟨xs9, hx9, -⟩ := hfin
            obtain ⟨a9, c9, rfl, -⟩ := owns_has hx9
            clear hof kf hov hx9 hx1
            rw [List.length_append] at HFIN ⊢
            simp only [Nat.reduceAdd, Nat.zero_add, Act.put, List.setIfInBounds_toArray, List.set_cons_succ, List.set_cons_zero]
            go_wp2
            go_roundw
            case rel => exact ⟨m + 1, by omega, by go_num, by rw [HT2.out]; exact HFIN.out, KF⟩
            case measure => simp [intOf]; omega
        · have hml2 : m = cs.length := by omega
          subst hml2
          rw [List.take_length] at hgv
          clear hml c3 cq E22
          have hN2 := vs_len cs x
          have hDs : ∀ c ∈ cs.filter (fun c => decide (c.link = x)), c.Ok := fun c hc => HG.out.ok c (List.mem_filter.1 hc).1
          have HX := Lib.hid (fun (u : World) (h : Keeps Nb wr u) => HX5.out u (KQ.out.trans_nb h))
          have VA := Lib.hid (fun (u : World) (h : Keeps Nb wr u) => voters_at p F R cs x u (P4.out.nb (KQ.out.trans_nb h)) FL.out)
          have FA := Lib.hid (fun (u : World) (h : Keeps Nb wr u) => for_at p F R cs x u (P4.out.nb (KQ.out.trans_nb h)) HSG.out FL.out)
          have hfl : (cs.filter fun c => decide (c.link = x)).length ≤ 1000 := Nat.le_trans (List.length_filter_le _ _) hlen
          rw [hN2] at VA
          clear hN2
          generalize (cs.filter fun c => decide (c.link = x)) = D at *
          have t4 : (((D.length : Nat) : Int) != ((D.length : Nat) : Int)) = false := by simp
          obtain ⟨a3, c3', rfl, hla3⟩ := hgv.list (fun k hk => by have := HLA.out.2.2.2.1 k hk; have := KQ.out.size; omega)
          have HL3 := Lib.hid hla3; have HDS := Lib.hid hDs
          have hm31 := hla3.2.1
          have hm32 := hla3.2.2.1
          unfold maxLen at hm32
          clear hgv hla3 hDs
          go_wp2_with (first | go_skip | (with_reducible refine stop_load (t := 27) ?_) | (with_reducible refine stop_load (t := 28) ?_) | (with_reducible refine stop_load (t := 30) ?_) | (with_reducible refine stop_load (t := 33) ?_) | (with_reducible refine stop_load (t := 35) ?_) | (with_reducible refine stop_load (t := 40) ?_) | (with_reducible refine stop_load (t := 76) ?_) | (with_reducible refine stop_load (t := 77) ?_) | (with_reducible refine stop_box (t := 27) ?_) | (with_reducible refine stop_box (t := 28) ?_) | (with_reducible refine stop_box (t := 30) ?_) | (with_reducible refine stop_box (t := 33) ?_) | (with_reducible refine stop_box (t := 35) ?_) | (with_reducible refine stop_box (t := 40) ?_) | (with_reducible refine stop_box (t := 76) ?_) | (with_reducible refine stop_box (t := 77) ?_) | (with_reducible refine stop_alloc (t := 27) ?_) | (with_reducible refine stop_alloc (t := 28) ?_) | (with_reducible refine stop_alloc (t := 30) ?_) | (with_reducible refine stop_alloc (t := 33) ?_) | (with_reducible refine stop_alloc (t := 35) ?_) | (with_reducible refine stop_alloc (t := 40) ?_) | (with_reducible refine stop_alloc (t := 76) ?_) | (with_reducible refine stop_alloc (t := 77) ?_) | (with_reducible refine stop_alloc (t := 52) ?_) | (with_reducible refine stop_alloc (t := 68) ?_) | (with_reducible refine stop_alloc (t := 72) ?_) | (with_reducible refine stop_build (t := 27) ?_) | (with_reducible refine stop_build (t := 28) ?_) | (with_reducible refine stop_build (t := 30) ?_) | (with_reducible refine stop_build (t := 33) ?_) | (with_reducible refine stop_build (t := 35) ?_) | (with_reducible refine stop_build (t := 40) ?_) | (with_reducible refine stop_build (t := 76) ?_) | (with_reducible refine stop_build (t := 77) ?_) | (with_reducible refine stop_build (t := 52) ?_) | (with_reducible refine stop_build (t := 68) ?_) | (with_reducible refine stop_store (t := 27) ?_) | (with_reducible refine stop_store (t := 28) ?_) | (with_reducible refine stop_store (t := 30) ?_) | (with_reducible refine stop_store (t := 33) ?_) | (with_reducible refine stop_store (t := 35) ?_) | (with_reducible refine stop_store (t := 40) ?_) | (with_reducible refine stop_store (t := 76) ?_) | (with_reducible refine stop_store (t := 77) ?_) | (with_reducible refine stop_store (t := 22) ?_) | (with_reducible refine stop_store (t := 31) ?_) | (with_reducible refine stop_store (t := 47) ?_) | (with_reducible refine stop_store (t := 52) ?_) | (with_reducible refine stop_store (t := 68) ?_) | (with_reducible refine stop_store (t := 72) ?_) | (with_reducible refine stop_lookup ?_) | (with_reducible refine stop_buildSlice ?_) | (with_reducible refine stop_app ?_) | (with_reducible refine stop_mapEntry ?_) | (with_reducible refine stop_eql (t := 28) ?_) | (with_reducible refine stop_eql (t := 40) ?_) | (with_reducible refine stop_neq (t := 28) ?_) | (with_reducible refine stop_neq (t := 40) ?_))
          refine at_out (wpList_val (v := kv LK x) rfl (rn_loadH aggL (by rfl) (HX.out _ (Keeps.refl _ _)) lx) ?_)
          simp only [Nat.reduceAdd, Nat.zero_add, Act.put, List.setIfInBounds_toArray, List.set_cons_succ, List.set_cons_zero]
          go_wp2_with fail
          refine (VA.out _ (Keeps.refl _ _)).mono ?_; rintro e w7 ⟨rfl, k7⟩
          go_wp2_with (first | go_skip | (with_reducible refine stop_load (t := 27) ?_) | (with_reducible refine stop_load (t := 28) ?_) | (with_reducible refine stop_load (t := 30) ?_) | (with_reducible refine stop_load (t := 33) ?_) | (with_reducible refine stop_load (t := 35) ?_) | (with_reducible refine stop_load (t := 40) ?_) | (with_reducible refine stop_load (t := 76) ?_) | (with_reducible refine stop_load (t := 77) ?_) | (with_reducible refine stop_box (t := 27) ?_) | (with_reducible refine stop_box (t := 28) ?_) | (with_reducible refine stop_box (t := 30) ?_) | (with_reducible refine stop_box (t := 33) ?_) | (with_reducible refine stop_box (t := 35) ?_) | (with_reducible refine stop_box (t := 40) ?_) | (with_reducible refine stop_box (t := 76) ?_) | (with_reducible refine stop_box (t := 77) ?_) | (with_reducible refine stop_alloc (t := 27) ?_) | (with_reducible refine stop_alloc (t := 28) ?_) | (with_reducible refine stop_alloc (t := 30) ?_) | (with_reducible refine stop_alloc (t := 33) ?_) | (with_reducible refine stop_alloc (t := 35) ?_) | (with_reducible refine stop_alloc (t := 40) ?_) | (with_reducible refine stop_alloc (t := 76) ?_) | (with_reducible refine stop_alloc (t := 77) ?_) | (with_reducible refine stop_alloc (t := 52) ?_) | (with_reducible refine stop_alloc (t := 68) ?_) | (with_reducible refine stop_alloc (t := 72) ?_) | (with_reducible refine stop_build (t := 27) ?_) | (with_reducible refine stop_build (t := 28) ?_) | (with_reducible refine stop_build (t := 30) ?_) | (with_reducible refine stop_build (t := 33) ?_) | (with_reducible refine stop_build (t := 35) ?_) | (with_reducible refine stop_build (t := 40) ?_) | (with_reducible refine stop_build (t := 76) ?_) | (with_reducible refine stop_build (t := 77) ?_) | (with_reducible refine stop_build (t := 52) ?_) | (with_reducible refine stop_build (t := 68) ?_) | (with_reducible refine stop_store (t := 27) ?_) | (with_reducible refine stop_store (t := 28) ?_) | (with_reducible refine stop_store (t := 30) ?_) | (with_reducible refine stop_store (t := 33) ?_) | (with_reducible refine stop_store (t := 35) ?_) | (with_reducible refine stop_store (t := 40) ?_) | (with_reducible refine stop_store (t := 76) ?_) | (with_reducible refine stop_store (t := 77) ?_) | (with_reducible refine stop_store (t := 22) ?_) | (with_reducible refine stop_store (t := 31) ?_) | (with_reducible refine stop_store (t := 47) ?_) | (with_reducible refine stop_store (t := 52) ?_) | (with_reducible refine stop_store (t := 68) ?_) | (with_reducible refine stop_store (t := 72) ?_) | (with_reducible refine stop_lookup ?_) | (with_reducible refine stop_buildSlice ?_) | (with_reducible refine stop_app ?_) | (with_reducible refine stop_mapEntry ?_) | (with_reducible refine stop_eql (t := 28) ?_) | (with_reducible refine stop_eql (t := 40) ?_) | (with_reducible refine stop_neq (t := 28) ?_) | (with_reducible refine stop_neq (t := 40) ?_))
          refine at_out (wpList_val (v := kv LK x) rfl (rn_loadH aggL (by rfl) (HX.out _ k7) lx) ?_)
          simp only [Nat.reduceAdd, Nat.zero_add, Act.put, List.setIfInBounds_toArray, List.set_cons_succ, List.set_cons_zero]
          go_wp2_with fail
          refine (FA.out _ k7).mono ?_; rintro _ w8 ⟨v8, rfl, hf8, k8⟩
          obtain ⟨a8, c8, rfl, hla8⟩ := hf8.list
          have k78 := k7.trans_nb k8
          have SA := Lib.hid (same_at D a8 a3 c8 c3' _ _ w8 HDS.out hla8 (HL3.out.keeps k78 (fun _ _ e => e)))
          clear hla8 hf8 k8 k7
          go_wp2_with fail
          refine SA.out.mono ?_; rintro e w9 ⟨rfl, k9⟩
          have KF := Lib.hid (KQ.out.trans_nb (k78.trans_nb k9))
          clear k78 k9 t4 SA FA VA HX kq
          go_wp2
          go_roundw
          case rel => exact ⟨k + 1, by omega, by go_num, KF.out⟩
          case measure => simp [intOf]; omega
    · have hkl : k = L.length := by omega
      subst hkl
      have KW := Lib.hid kw
      clear kw hlt hk HB5 HB6 HL5 HL6
      have AA := Lib.hid (fun (u : World) (h : Keeps Nb w4 u) => all_at p F R cs u (P4.out.nb h) HSG.out)
      go_wp2_with fail
      refine (AA.out _ KW.out).mono ?_
      rintro _ w6 ⟨g, v, rfl, hge, hgb, hf, k6⟩
      have qn : ∀ (w : World) (fn : Fn) (a b : Array Value), (binOp .eql 61 (.func fn a b) .nilFunc).run Try.prog w = .ok (.bool false) w := fun w fn a b => by first | rfl | kernel_rfl
      go_wp2_with (first | go_skip | (with_reducible refine stop_alloc (t := 3) ?_))
      refine at_out (valloc zero3t ?_); intro gn w7 n7
      simp only [Nat.reduceAdd, Nat.zero_add, Act.put, List.setIfInBounds_toArray, List.set_cons_succ, List.set_cons_zero]
      go_wp2_with (first | go_skip | (with_reducible refine stop_store (t := 3) ?_))
      refine at_out (wpList_skipE rfl (re_store (v := .int .i64 0) (n := 1) (by kernel_rfl) (by rfl) (by rfl) n7.blk (by rfl) (by simp [Value.cells]) (by simp [Value.cells, Value.oneCell'])) ?_)
      intro w8 s8
      simp only [Nat.reduceAdd, Nat.zero_add, Act.put, List.setIfInBounds_toArray, List.set_cons_succ, List.set_cons_zero]
      have bn := s8.blk
      rw [show splice (Value.int .i64 0).cells (Value.int .i64 0).cells 0 = #[.int .i64 0] from rfl] at bn
      have k68 : Keeps Nb w6 w8 := n7.k.own n7.ge s8.k
      have gn6 := n7.ge
      have gnlt := lt_of_block bn
      have K8 := Lib.hid (KW.out.trans_nb (k6.trans_nb k68))
      have GB := Lib.hid (k68.nb hgb)
      have BN := Lib.hid bn
      have z8 := K8.out.size
      have z68 := k68.size
      have z46 : w4.heap.size ≤ w6.heap.size := (KW.out.trans_nb k6).size
      have g6lt := lt_of_block hgb
      obtain ⟨a9, c9, hv9, hla9⟩ := hf.list
      subst hv9
      have HL9 := Lib.hid (hla9.keeps k68 (fun _ _ e => e))
      clear qn n7 s8 bn k68 hgb hf k6 AA hla9
      go_wp2_with (with_reducible refine stop_range0 ?_)
      refine at_out ((wpIn_wide (n := 9)).1 ?_)
      refine wp_range (gf := 41) (lb := #[.pointer (some ⟨g, 0, none⟩)]) (by rfl) (enters_of Try.func41 (by kernel_rfl) rfl)
        (all2_iter 8 (by omega) g (.slice a9 cs.length c9) cs _ (fun b => w8.heap.size ≤ b ∨ b = gn) w8 a9 c9 GB.out HL9.out HG.out.ok HSG.out (fun b hb hs => ?_))
        (fun b hb => .inl (by unfold Book at hb; omega)) (fun i args W h => by obtain ⟨c, s, -, rfl, -⟩ := h; rfl)
        (fun i W => W.heap[gn]? = some (.cells #[.int .i64 (i : Nat)] 3 (0, 0)) ∧ Keeps (fun b => w8.heap.size ≤ b ∨ b = gn) w8 W) (fun _ _ => False)
        (fun i A B h k => ⟨k.at h.1 (fun e => by unfold Book at e; omega), h.2.trans k (fun j hj e => by unfold Book at e; omega)⟩) (fun c A B h => h.elim) ⟨BN.out, Keeps.refl _ _⟩ ?round ?done (fun _ _ h => h.elim)
      · have h2 : b = gn := hs.resolve_left (by omega)
        subst h2
        exact ⟨by omega, fun h => by omega⟩
      case round =>
        rintro l i args W rfl hW2 ⟨hbn, hkW⟩ hi ⟨c, s, hci, rfl, -, hsig⟩
        simp only [List.zip_toArray, List.zip_cons_cons, List.zip_nil_right, List.foldl_toArray, List.foldl_cons, List.foldl_nil, List.setIfInBounds_toArray, List.set_cons_succ, List.set_cons_zero]
        have HBN := Lib.hid hbn; have HKW := Lib.hid hkW; have HCI := Lib.hid hci; have HSI := Lib.hid hsig
        clear hbn hkW hci hsig
        repeat (first | (with_reducible refine stop_region ?_) | (with_reducible refine stop_range ?_) | gi_step)
        refine at_out (regionIn_list (by kernel_rfl) (by rintro ⟨_, _, h⟩; exact h) ?_)
        go_wp2
        repeat (first | (with_reducible refine stop_region ?_) | (with_reducible refine stop_range ?_) | gi_step)
        refine at_out (regionIn_list (by kernel_rfl) (by rintro ⟨_, _, h⟩; exact h) ?_)
        obtain ⟨z, hz0, hz1⟩ := zero35t
        have okc := HG.out.ok c (List.mem_of_getElem? HCI.out)
        have lw1 := sc_len okc s
        have one1 := Lib.hid (sc_one c s HSI.out.one)
        have OKC := Lib.hid okc
        clear okc
        go_wp2_with (first | go_skip | (with_reducible refine stop_load (t := 27) ?_) | (with_reducible refine stop_load (t := 28) ?_) | (with_reducible refine stop_load (t := 30) ?_) | (with_reducible refine stop_load (t := 33) ?_) | (with_reducible refine stop_load (t := 35) ?_) | (with_reducible refine stop_load (t := 40) ?_) | (with_reducible refine stop_load (t := 76) ?_) | (with_reducible refine stop_load (t := 77) ?_) | (with_reducible refine stop_box (t := 27) ?_) | (with_reducible refine stop_box (t := 28) ?_) | (with_reducible refine stop_box (t := 30) ?_) | (with_reducible refine stop_box (t := 33) ?_) | (with_reducible refine stop_box (t := 35) ?_) | (with_reducible refine stop_box (t := 40) ?_) | (with_reducible refine stop_box (t := 76) ?_) | (with_reducible refine stop_box (t := 77) ?_) | (with_reducible refine stop_alloc (t := 27) ?_) | (with_reducible refine stop_alloc (t := 28) ?_) | (with_reducible refine stop_alloc (t := 30) ?_) | (with_reducible refine stop_alloc (t := 33) ?_) | (with_reducible refine stop_alloc (t := 35) ?_) | (with_reducible refine stop_alloc (t := 40) ?_) | (with_reducible refine stop_alloc (t := 76) ?_) | (with_reducible refine stop_alloc (t := 77) ?_) | (with_reducible refine stop_alloc (t := 52) ?_) | (with_reducible refine stop_alloc (t := 68) ?_) | (with_reducible refine stop_alloc (t := 72) ?_) | (with_reducible refine stop_build (t := 27) ?_) | (with_reducible refine stop_build (t := 28) ?_) | (with_reducible refine stop_build (t := 30) ?_) | (with_reducible refine stop_build (t := 33) ?_) | (with_reducible refine stop_build (t := 35) ?_) | (with_reducible refine stop_build (t := 40) ?_) | (with_reducible refine stop_build (t := 76) ?_) | (with_reducible refine stop_build (t := 77) ?_) | (with_reducible refine stop_build (t := 52) ?_) | (with_reducible refine stop_build (t := 68) ?_) | (with_reducible refine stop_store (t := 27) ?_) | (with_reducible refine stop_store (t := 28) ?_) | (with_reducible refine stop_store (t := 30) ?_) | (with_reducible refine stop_store (t := 33) ?_) | (with_reducible refine stop_store (t := 35) ?_) | (with_reducible refine stop_store (t := 40) ?_) | (with_reducible refine stop_store (t := 76) ?_) | (with_reducible refine stop_store (t := 77) ?_) | (with_reducible refine stop_store (t := 22) ?_) | (with_reducible refine stop_store (t := 31) ?_) | (with_reducible refine stop_store (t := 47) ?_) | (with_reducible refine stop_store (t := 52) ?_) | (with_reducible refine stop_store (t := 68) ?_) | (with_reducible refine stop_store (t := 72) ?_) | (with_reducible refine stop_lookup ?_) | (with_reducible refine stop_buildSlice ?_) | (with_reducible refine stop_app ?_) | (with_reducible refine stop_mapEntry ?_) | (with_reducible refine stop_eql (t := 28) ?_) | (with_reducible refine stop_eql (t := 40) ?_) | (with_reducible refine stop_neq (t := 28) ?_) | (with_reducible refine stop_neq (t := 40) ?_))
        refine at_out (valloc hz0 ?_); intro g5 W1 n5
        simp only [Nat.reduceAdd, Nat.zero_add, Act.put, List.setIfInBounds_toArray, List.set_cons_succ, List.set_cons_zero]
        go_wp2_with (first | go_skip | (with_reducible refine stop_load (t := 27) ?_) | (with_reducible refine stop_load (t := 28) ?_) | (with_reducible refine stop_load (t := 30) ?_) | (with_reducible refine stop_load (t := 33) ?_) | (with_reducible refine stop_load (t := 35) ?_) | (with_reducible refine stop_load (t := 40) ?_) | (with_reducible refine stop_load (t := 76) ?_) | (with_reducible refine stop_load (t := 77) ?_) | (with_reducible refine stop_box (t := 27) ?_) | (with_reducible refine stop_box (t := 28) ?_) | (with_reducible refine stop_box (t := 30) ?_) | (with_reducible refine stop_box (t := 33) ?_) | (with_reducible refine stop_box (t := 35) ?_) | (with_reducible refine stop_box (t := 40) ?_) | (with_reducible refine stop_box (t := 76) ?_) | (with_reducible refine stop_box (t := 77) ?_) | (with_reducible refine stop_alloc (t := 27) ?_) | (with_reducible refine stop_alloc (t := 28) ?_) | (with_reducible refine stop_alloc (t := 30) ?_) | (with_reducible refine stop_alloc (t := 33) ?_) | (with_reducible refine stop_alloc (t := 35) ?_) | (with_reducible refine stop_alloc (t := 40) ?_) | (with_reducible refine stop_alloc (t := 76) ?_) | (with_reducible refine stop_alloc (t := 77) ?_) | (with_reducible refine stop_alloc (t := 52) ?_) | (with_reducible refine stop_alloc (t := 68) ?_) | (with_reducible refine stop_alloc (t := 72) ?_) | (with_reducible refine stop_build (t := 27) ?_) | (with_reducible refine stop_build (t := 28) ?_) | (with_reducible refine stop_build (t := 30) ?_) | (with_reducible refine stop_build (t := 33) ?_) | (with_reducible refine stop_build (t := 35) ?_) | (with_reducible refine stop_build (t := 40) ?_) | (with_reducible refine stop_build (t := 76) ?_) | (with_reducible refine stop_build (t := 77) ?_) | (with_reducible refine stop_build (t := 52) ?_) | (with_reducible refine stop_build (t := 68) ?_) | (with_reducible refine stop_store (t := 27) ?_) | (with_reducible refine stop_store (t := 28) ?_) | (with_reducible refine stop_store (t := 30) ?_) | (with_reducible refine stop_store (t := 33) ?_) | (with_reducible refine stop_store (t := 35) ?_) | (with_reducible refine stop_store (t := 40) ?_) | (with_reducible refine stop_store (t := 76) ?_) | (with_reducible refine stop_store (t := 77) ?_) | (with_reducible refine stop_store (t := 22) ?_) | (with_reducible refine stop_store (t := 31) ?_) | (with_reducible refine stop_store (t := 47) ?_) | (with_reducible refine stop_store (t := 52) ?_) | (with_reducible refine stop_store (t := 68) ?_) | (with_reducible refine stop_store (t := 72) ?_) | (with_reducible refine stop_lookup ?_) | (with_reducible refine stop_buildSlice ?_) | (with_reducible refine stop_app ?_) | (with_reducible refine stop_mapEntry ?_) | (with_reducible refine stop_eql (t := 28) ?_) | (with_reducible refine stop_eql (t := 40) ?_) | (with_reducible refine stop_neq (t := 28) ?_) | (with_reducible refine stop_neq (t := 40) ?_))
        refine at_out (wpList_skipE rfl (re_store (v := .agg (sc c s).toArray) (n := 101) aggS.size (by rfl) (by rfl) n5.blk (by simpa [Value.cells] using lw1) (by simp [hz1]) (by simpa [Value.cells] using one1.out)) ?_)
        intro W2 s5
        simp only [Nat.reduceAdd, Nat.zero_add, Act.put, List.setIfInBounds_toArray, List.set_cons_succ, List.set_cons_zero]
        rw [splice_all (by rw [hz1]; simpa [Value.cells] using lw1)] at s5
        have lt34 := lt_of_block B34.out
        have q5 : Keeps Nb W W2 := n5.k.own (k := g5) n5.ge s5.k
        have g5W := n5.ge
        have hb5 := s5.blk
        clear n5 s5
        go_wp2
        refine ⟨q5, fun W3 k3 => ?_⟩
        have kWW3 : Keeps (· = w8.heap.size + 1) W W3 := q5.of_nb.trans k3 (fun _ _ e => e)
        have b5 := k3.at hb5 (fun e => by omega)
        have bn3 := kWW3.at HBN.out (fun e => by omega)
        have b33 : W3.heap[g3]? = some (.cells #[.pointer (some ⟨q, 0, none⟩)] 50 (0, 0)) := kWW3.at (HKW.out.at (K8.out.nb B34.out) (fun e => by omega)) (fun e => by omega)
        have hq4 := R4.out.lt
        have bq3 := kWW3.at (HKW.out.at (K8.out.nb HBQ.out) (fun e => by omega)) (fun e => by omega)
        have sg3 := HSI.out.keeps kWW3 (fun b hb e => by omega)
        have hne : cs ≠ [] := by rintro rfl; simp at hi
        have har := HAR.out hne
        subst har
        obtain ⟨s2, hv2⟩ := HVR.out i c HCI.out
        have qlt := Lib.hid (fun k (hk : Q k) => (HLA.out.2.2.2.1 k hk : k < w4.heap.size))
        have hv3 : VoteAt W3 Q br (off + i * 101) c s2 := ((hv2.nb K8.out).keeps HKW.out (fun k hk e => by have := qlt.out k hk; omega) (HQB.out hne)).keeps kWW3 (fun k hk e => by have := qlt.out k hk; omega) (HQB.out hne)
        have C1 : ∀ u : Sub W3, u.wd.cell? ⟨gn, 0, none⟩ = some (.int .i64 (i : Nat)) := fun u => by rw [cell_of_block (u.k.nb bn3)]; rfl
        have C3 : ∀ u : Sub W3, u.wd.cell? ⟨g3, 0, none⟩ = some (.pointer (some ⟨q, 0, none⟩)) := fun u => by rw [cell_of_block (u.k.nb b33)]; rfl
        have CQ : ∀ u : Sub W3, u.wd.cell? ⟨q, 0, none⟩ = some (.slice (some ⟨br, off, none⟩) cs.length cr) := fun u => by rw [cell_of_block (u.k.nb bq3)]; rfl
        have H5 := Lib.hid (fun u : Sub W3 => has_block (u.k.nb b5))
        have V3 := Lib.hid hv3; have SG3 := Lib.hid sg3; have BN3 := Lib.hid bn3
        have HS : Hid (∃ u : Sub W3, W3.drew = u.wd) := ⟨⟨W3.drew, (Keeps.refl Nb W3).drew⟩, rfl⟩
        have t1 : (((i : Nat) : Int) != ((i : Nat) : Int)) = false := by simp
        have t2 : decide (((cs.length : Nat) : Int) ≤ ((i : Nat) : Int)) = false := by simp; omega
        have t2b : ¬ (cs.length ≤ i) := by omega
        have t2c : decide (cs.length ≤ i) = false := by simpa using hi
        have t3 : IntKind.i64.wrap ((i : Int) + 1) = (i : Int) + 1 := IntWalk.i64_in _ (by omega)
        have t4 : (0 : Int) ≤ (i : Int) + 1 ∧ (i : Int) + 1 ≤ (cr : Int) := by omega
        have t4b : ¬ (cr = i) := by omega
        obtain ⟨z22, E22⟩ := el22
        have KW3 := Lib.hid (HKW.out.trans kWW3 (fun _ _ e => by omega) : Keeps (fun b => w8.heap.size ≤ b ∨ b = gn) w8 W3)
        have zW3 := kWW3.size
        have nW3 := lt_of_block bn3
        clear q5 k3 kWW3 hb5 b5 bn3 b33 bq3 sg3 hv2 hv3
        repeat (first | (with_reducible refine stop_region ?_) | (with_reducible refine stop_range ?_) | gi_step)
        refine at_out (WT.regionIn (fun u => ∃ v : Sub W3, u = v.wd) 26 [0, 1, 2, 3, 4, 5, 6, 7, 8, 9, 10, 11, 12, 13, 15, 16, 17, 18, 19, 20, 21, 22, 14, 23, 24, 25] (by kernel_rfl) (by rintro ⟨_, _, h⟩; exact h) (by kernel_rfl) rfl ?_)
        refine WT.take 0 (v := _) (by simp only [List.getElem?_toArray, List.getElem?_cons_succ, List.getElem?_cons_zero]; rfl) (by kernel_rfl) (by exact fun _ _ _ h => h) (by rfl) (by rintro w ⟨u, rfl⟩; go_simp; with_reducible rfl) HS.out ?_
        simp only [Nat.reduceAdd, Nat.zero_add, Act.put, List.setIfInBounds_toArray, List.set_cons_succ, List.set_cons_zero]
        refine WT.take 1 (v := _) (by simp only [List.getElem?_toArray, List.getElem?_cons_succ, List.getElem?_cons_zero]; rfl) (by kernel_rfl) (by exact fun _ _ _ h => h) (by rfl) (by rintro w ⟨u, rfl⟩; go_simp; with_reducible rfl) HS.out ?_
        simp only [Nat.reduceAdd, Nat.zero_add, Act.put, List.setIfInBounds_toArray, List.set_cons_succ, List.set_cons_zero]
        refine WT.take 2 (v := _) (by simp only [List.getElem?_toArray, List.getElem?_cons_succ, List.getElem?_cons_zero]; rfl) (by kernel_rfl) (by exact fun _ _ _ h => h) (by rfl) (by rintro w ⟨u, rfl⟩; go_simp; with_reducible rfl) HS.out ?_
        simp only [Nat.reduceAdd, Nat.zero_add, Act.put, List.setIfInBounds_toArray, List.set_cons_succ, List.set_cons_zero]
        refine WT.take 3 (v := _) (by simp only [List.getElem?_toArray, List.getElem?_cons_succ, List.getElem?_cons_zero]; rfl) (by kernel_rfl) (by exact fun _ _ _ h => h) (by rfl) (by rintro w ⟨u, rfl⟩; go_simp; with_reducible rfl) HS.out ?_
        simp only [Nat.reduceAdd, Nat.zero_add, Act.put, List.setIfInBounds_toArray, List.set_cons_succ, List.set_cons_zero]
        refine WT.take 4 (v := _) (by simp only [List.getElem?_toArray, List.getElem?_cons_succ, List.getElem?_cons_zero]; rfl) (by kernel_rfl) (by exact fun _ _ _ h => h) (by rfl) (by rintro w ⟨u, rfl⟩; go_simp; with_reducible rfl) HS.out ?_
        simp only [Nat.reduceAdd, Nat.zero_add, Act.put, List.setIfInBounds_toArray, List.set_cons_succ, List.set_cons_zero]
        refine WT.take 5 (v := _) (by simp only [List.getElem?_toArray, List.getElem?_cons_succ, List.getElem?_cons_zero]; rfl) (by kernel_rfl) (by exact fun _ _ _ h => h) (by rfl) (by rintro w ⟨u, rfl⟩; go_simp; with_reducible rfl) HS.out ?_
        simp only [Nat.reduceAdd, Nat.zero_add, Act.put, List.setIfInBounds_toArray, List.set_cons_succ, List.set_cons_zero]
        refine WT.take 6 (v := _) (by simp only [List.getElem?_toArray, List.getElem?_cons_succ, List.getElem?_cons_zero]; rfl) (by kernel_rfl) (by exact fun _ _ _ h => h) (by rfl) (by rintro w ⟨u, rfl⟩; go_simp; with_reducible rfl) HS.out ?_
        simp only [Nat.reduceAdd, Nat.zero_add, Act.put, List.setIfInBounds_toArray, List.set_cons_succ, List.set_cons_zero]
        refine WT.take 7 (v := _) (by simp only [List.getElem?_toArray, List.getElem?_cons_succ, List.getElem?_cons_zero]; rfl) (by kernel_rfl) (by exact fun _ _ _ h => h) (by rfl) (by rintro w ⟨u, rfl⟩; go_simp; with_reducible rfl) HS.out ?_
        simp only [Nat.reduceAdd, Nat.zero_add, Act.put, List.setIfInBounds_toArray, List.set_cons_succ, List.set_cons_zero]
        refine WT.take 8 (v := _) (by simp only [List.getElem?_toArray, List.getElem?_cons_succ, List.getElem?_cons_zero]; rfl) (by kernel_rfl) (by exact fun _ _ _ h => h) (by rfl) (by rintro w ⟨u, rfl⟩; go_simp; with_reducible rfl) HS.out ?_
        simp only [Nat.reduceAdd, Nat.zero_add, Act.put, List.setIfInBounds_toArray, List.set_cons_succ, List.set_cons_zero]
        refine WT.take 9 (v := _) (by simp only [List.getElem?_toArray, List.getElem?_cons_succ, List.getElem?_cons_zero]; rfl) (by kernel_rfl) (by exact fun _ _ _ h => h) (by rfl) (by rintro w ⟨u, rfl⟩; go_simp; with_reducible rfl) HS.out ?_
        simp only [Nat.reduceAdd, Nat.zero_add, Act.put, List.setIfInBounds_toArray, List.set_cons_succ, List.set_cons_zero]
        refine WT.take 10 (v := _) (by simp only [List.getElem?_toArray, List.getElem?_cons_succ, List.getElem?_cons_zero]; rfl) (by kernel_rfl) (by exact fun _ _ _ h => h) (by rfl) (by rintro w ⟨u, rfl⟩; go_simp; with_reducible rfl) HS.out ?_
        simp only [Nat.reduceAdd, Nat.zero_add, Act.put, List.setIfInBounds_toArray, List.set_cons_succ, List.set_cons_zero]
        refine WT.take 11 (v := _) (by simp only [List.getElem?_toArray, List.getElem?_cons_succ, List.getElem?_cons_zero]; rfl) (by kernel_rfl) (by exact fun _ _ _ h => h) (by rfl) (by rintro w ⟨u, rfl⟩; go_simp; with_reducible rfl) HS.out ?_
        simp only [Nat.reduceAdd, Nat.zero_add, Act.put, List.setIfInBounds_toArray, List.set_cons_succ, List.set_cons_zero]
        refine WT.take 12 (v := _) (by simp only [List.getElem?_toArray, List.getElem?_cons_succ, List.getElem?_cons_zero]; rfl) (by kernel_rfl) (by exact fun _ _ _ h => h) (by rfl) (by rintro w ⟨u, rfl⟩; go_simp; with_reducible rfl) HS.out ?_
        simp only [Nat.reduceAdd, Nat.zero_add, Act.put, List.setIfInBounds_toArray, List.set_cons_succ, List.set_cons_zero]
        refine WT.take 13 (v := .agg (sc c s).toArray) (by simp only [List.getElem?_toArray, List.getElem?_cons_succ, List.getElem?_cons_zero]; rfl) (by kernel_rfl) (by exact fun _ _ _ h => h) (by rfl) (by rintro w ⟨u, rfl⟩; exact rn_loadH aggS (by rfl) (by simpa [Value.cells] using H5.out u) lw1) HS.out ?_
        simp only [Nat.reduceAdd, Nat.zero_add, Act.put, List.setIfInBounds_toArray, List.set_cons_succ, List.set_cons_zero]
        refine WT.take 15 (v := _) (by simp only [List.getElem?_toArray, List.getElem?_cons_succ, List.getElem?_cons_zero]; rfl) (by kernel_rfl) (by exact fun _ _ _ h => h) (by rfl) (by rintro w ⟨u, rfl⟩; go_simp; with_reducible rfl) HS.out ?_
        simp only [Nat.reduceAdd, Nat.zero_add, Act.put, List.setIfInBounds_toArray, List.set_cons_succ, List.set_cons_zero]
        refine WT.take 16 (v := _) (by simp only [List.getElem?_toArray, List.getElem?_cons_succ, List.getElem?_cons_zero]; rfl) (by kernel_rfl) (by exact fun _ _ _ h => h) (by rfl) (by rintro w ⟨u, rfl⟩; go_simp; with_reducible rfl) HS.out ?_
        simp only [Nat.reduceAdd, Nat.zero_add, Act.put, List.setIfInBounds_toArray, List.set_cons_succ, List.set_cons_zero]
        refine WT.take 17 (v := _) (by simp only [List.getElem?_toArray, List.getElem?_cons_succ, List.getElem?_cons_zero]; rfl) (by kernel_rfl) (by exact fun _ _ _ h => h) (by rfl) (by rintro w ⟨u, rfl⟩; go_simp; with_reducible rfl) HS.out ?_
        simp only [Nat.reduceAdd, Nat.zero_add, Act.put, List.setIfInBounds_toArray, List.set_cons_succ, List.set_cons_zero]
        refine WT.take 18 (v := _) (by simp only [List.getElem?_toArray, List.getElem?_cons_succ, List.getElem?_cons_zero]; rfl) (by kernel_rfl) (by exact fun _ _ _ h => h) (by rfl) (by rintro w ⟨u, rfl⟩; go_simp; with_reducible rfl) HS.out ?_
        simp only [Nat.reduceAdd, Nat.zero_add, Act.put, List.setIfInBounds_toArray, List.set_cons_succ, List.set_cons_zero]
        refine WT.take 19 (v := _) (by simp only [List.getElem?_toArray, List.getElem?_cons_succ, List.getElem?_cons_zero]; rfl) (by kernel_rfl) (by exact fun _ _ _ h => h) (by rfl) (by rintro w ⟨u, rfl⟩; go_simp; with_reducible rfl) HS.out ?_
        simp only [Nat.reduceAdd, Nat.zero_add, Act.put, List.setIfInBounds_toArray, List.set_cons_succ, List.set_cons_zero]
        refine WT.take 20 (v := _) (by simp only [List.getElem?_toArray, List.getElem?_cons_succ, List.getElem?_cons_zero]; rfl) (by kernel_rfl) (by exact fun _ _ _ h => h) (by rfl) (by rintro w ⟨u, rfl⟩; go_simp; with_reducible rfl) HS.out ?_
        simp only [Nat.reduceAdd, Nat.zero_add, Act.put, List.setIfInBounds_toArray, List.set_cons_succ, List.set_cons_zero]
        refine WT.take 21 (v := _) (by simp only [List.getElem?_toArray, List.getElem?_cons_succ, List.getElem?_cons_zero]; rfl) (by kernel_rfl) (by exact fun _ _ _ h => h) (by rfl) (by rintro w ⟨u, rfl⟩; go_simp; with_reducible rfl) HS.out ?_
        simp only [Nat.reduceAdd, Nat.zero_add, Act.put, List.setIfInBounds_toArray, List.set_cons_succ, List.set_cons_zero]
        refine WT.take 22 (v := _) (by simp only [List.getElem?_toArray, List.getElem?_cons_succ, List.getElem?_cons_zero]; rfl) (by kernel_rfl) (by exact fun _ _ _ h => h) (by rfl) (by rintro w ⟨u, rfl⟩; go_simp; with_reducible rfl) HS.out ?_
        simp only [Nat.reduceAdd, Nat.zero_add, Act.put, List.setIfInBounds_toArray, List.set_cons_succ, List.set_cons_zero]
        refine WT.onlyE 14 (by simp only [List.getElem?_toArray, List.getElem?_cons_succ, List.getElem?_cons_zero]; rfl) (by kernel_rfl) (by rfl) (re_buildSlice1 (v := .agg (sc c s).toArray) E22 (by rfl) (by simpa [Value.cells] using lw1) (by omega)) ?_
        rintro _ we ⟨g6, rfl, ne⟩
        have q6 : Keeps Nb W3 we := (Keeps.refl Nb W3).drew.trans_nb ne.k
        have z6 := q6.size
        have g6lt := lt_of_block ne.blk
        have g6ge := ne.ge
        replace HS : Hid (∃ u : Sub W3, we = u.wd) := ⟨⟨we, q6⟩, rfl⟩
        refine ⟨HS.out, ?_⟩
        simp only [Nat.reduceAdd, Nat.zero_add, Act.put, List.setIfInBounds_toArray, List.set_cons_succ, List.set_cons_zero]
        have SA : Calls Try.prog 33 #[.slice (some ⟨g6, 0, none⟩) 1 1, .slice (some ⟨br, off + i * 101, none⟩) 1 (cr - i)] we fun e w' => e = .returned (.bool true) ∧ Keeps Nb we w' := by
          refine same_at [c] _ _ 1 (cr - i) (fun k => w8.heap.size ≤ k ∧ k < we.heap.size) Q we (fun c' h => by simp at h; subst h; exact OKC.out) ?_ ?_
          · exact ⟨rfl, Nat.le_refl _, by unfold maxLen; omega, fun k h => h.2, sc c s, by simpa [Value.cells] using has_block ne.blk, ⟨s, [], by simp, (SG3.out.keeps q6 (fun _ _ e => e)).mono (fun k h => ⟨by omega, by omega⟩), rfl⟩, fun b o h _ => by cases h; exact ⟨by have : W3.heap.size ≤ g6 := g6ge; omega, g6lt⟩⟩
          · exact ⟨rfl, by simp; omega, by unfold maxLen; omega, fun k h => by have := qlt.out k h; omega, sc c s2, V3.out.whole.nb q6, ⟨s2, [], by simp, V3.out.sig.keeps q6 (fun _ _ e => e), rfl⟩, fun b o h _ => by cases h; exact HQB.out hne⟩
        refine WT.call 23 (by simp only [List.getElem?_toArray, List.getElem?_cons_succ, List.getElem?_cons_zero]; rfl) (by kernel_rfl) (by rfl) (by go_simp; first | done | exact ⟨⟨rfl, rfl⟩, rfl⟩) SA ?_
        rintro _ wf ⟨rfl, kf⟩
        have q7 := q6.trans_nb kf
        replace HS : Hid (∃ u : Sub W3, wf = u.wd) := ⟨⟨wf, q7⟩, rfl⟩
        refine ⟨_, rfl, HS.out, ?_⟩
        simp only [Nat.reduceAdd, Nat.zero_add, Act.put, List.setIfInBounds_toArray, List.set_cons_succ, List.set_cons_zero]
        refine WT.take 24 (v := _) (by simp only [List.getElem?_toArray, List.getElem?_cons_succ, List.getElem?_cons_zero]; rfl) (by kernel_rfl) (by exact fun _ _ _ h => h) (by rfl) (by rintro w ⟨u, rfl⟩; go_simp; with_reducible rfl) HS.out ?_
        simp only [Nat.reduceAdd, Nat.zero_add, Act.put, List.setIfInBounds_toArray, List.set_cons_succ, List.set_cons_zero]
        refine WT.take 25 (v := _) (by simp only [List.getElem?_toArray, List.getElem?_cons_succ, List.getElem?_cons_zero]; rfl) (by kernel_rfl) (by exact fun _ _ _ h => h) (by rfl) (by rintro w ⟨u, rfl⟩; go_simp; with_reducible rfl) HS.out ?_
        simp only [Nat.reduceAdd, Nat.zero_add, Act.put, List.setIfInBounds_toArray, List.set_cons_succ, List.set_cons_zero]
        refine WT.stop (by kernel_rfl) (WP.done (by kernel_rfl) ?_)
        have bnf := q7.nb BN3.out
        have cnf : wf.cell? ⟨gn, 0, none⟩ = some (.int .i64 (i : Nat)) := by rw [cell_of_block bnf]; rfl
        have Q7 := Lib.hid q7
        clear C1 C3 CQ t1 t2 t2b t2c t3 t4 t4b HS SA q6 ne kf q7 V3 SG3 H5
        repeat (first | (with_reducible refine stop_region ?_) | (with_reducible refine stop_range ?_) | gi_step)
        refine at_out (regionIn_list (by kernel_rfl) (by rintro ⟨_, _, h⟩; exact h) ?_)
        go_wp2_with (first | go_skip | (with_reducible refine stop_store (t := 3) ?_))
        refine at_out (wpList_skipE rfl (re_store (v := .int .i64 ((i + 1 : Nat) : Int)) (n := 1) (by kernel_rfl) (by rfl) (by rfl) bnf (by rfl) (by simp [Value.cells]) (by simp [Value.cells, Value.oneCell'])) ?_)
        intro wg sg
        simp only [Nat.reduceAdd, Nat.zero_add, Act.put, List.setIfInBounds_toArray, List.set_cons_succ, List.set_cons_zero]
        have hbg := sg.blk
        rw [show splice #[Value.int .i64 (i : Nat)] (Value.int .i64 ((i + 1 : Nat) : Int)).cells 0 = #[.int .i64 ((i + 1 : Nat) : Int)] from rfl] at hbg
        have kfg : Keeps (fun b => (w8.heap.size ≤ b ∨ b = gn) ∧ ¬ Book w8 b) W3 wg := (Q7.out.of_nb).trans sg.k (fun j _ e => ⟨.inr e, by subst e; unfold Book; omega⟩)
        have kfg2 : Keeps (fun b => w8.heap.size ≤ b ∨ b = gn) w8 wg := KW3.out.trans kfg (fun j _ e => e.1)
        clear sg cnf bnf
        refine wpList_nil ?_
        exact ⟨kfg, hbg, kfg2⟩
      case done =>
        rintro W ⟨hbn, hkW⟩ hD
        have b3W := hkW.at (K8.out.nb B34.out) (fun e => by have := lt_of_block B34.out; omega)
        have b4W := hkW.at (K8.out.nb B44.out) (fun e => by have := lt_of_block B44.out; omega)
        have bqW := hkW.at (K8.out.nb HBQ.out) (fun e => by have := lt_of_block HBQ.out; omega)
        have C1 : ∀ u : Sub W, u.wd.cell? ⟨gn, 0, none⟩ = some (.int .i64 (cs.length : Nat)) := fun u => by rw [cell_of_block (u.k.nb hbn)]; rfl
        have C3 : ∀ u : Sub W, u.wd.cell? ⟨g3, 0, none⟩ = some (.pointer (some ⟨q, 0, none⟩)) := fun u => by rw [cell_of_block (u.k.nb b3W)]; rfl
        have CQ : ∀ u : Sub W, u.wd.cell? ⟨q, 0, none⟩ = some (.slice ar cs.length cr) := fun u => by rw [cell_of_block (u.k.nb bqW)]; rfl
        have HB4 := Lib.hid b4W; have HKW := Lib.hid hkW; have HD := Lib.hid hD
        have HS : Hid (∃ u : Sub W, W.drew = u.wd) := ⟨⟨W.drew, (Keeps.refl Nb W).drew⟩, rfl⟩
        have t1 : (((cs.length : Nat) : Int) == ((cs.length : Nat) : Int)) = true := by simp
        clear hbn hkW hD b3W b4W bqW
        go_wp2
        refine WT.region (fun u : World => ∃ v : Sub W, u = v.wd) 7 8 [0, 1, 2, 3, 4, 5, 6, 7] (by kernel_rfl) rfl ?_
        refine WT.take 0 (v := _) (by simp only [List.getElem?_toArray, List.getElem?_cons_succ, List.getElem?_cons_zero]; rfl) (by kernel_rfl) (by exact fun _ _ _ h => h) (by rfl) (by rintro w ⟨u, rfl⟩; go_simp; with_reducible rfl) HS.out ?_
        simp only [Nat.reduceAdd, Nat.zero_add, Act.put, List.setIfInBounds_toArray, List.set_cons_succ, List.set_cons_zero]
        refine WT.take 1 (v := _) (by simp only [List.getElem?_toArray, List.getElem?_cons_succ, List.getElem?_cons_zero]; rfl) (by kernel_rfl) (by exact fun _ _ _ h => h) (by rfl) (by rintro w ⟨u, rfl⟩; go_simp; with_reducible rfl) HS.out ?_
        simp only [Nat.reduceAdd, Nat.zero_add, Act.put, List.setIfInBounds_toArray, List.set_cons_succ, List.set_cons_zero]
        refine WT.take 2 (v := _) (by simp only [List.getElem?_toArray, List.getElem?_cons_succ, List.getElem?_cons_zero]; rfl) (by kernel_rfl) (by exact fun _ _ _ h => h) (by rfl) (by rintro w ⟨u, rfl⟩; go_simp; with_reducible rfl) HS.out ?_
        simp only [Nat.reduceAdd, Nat.zero_add, Act.put, List.setIfInBounds_toArray, List.set_cons_succ, List.set_cons_zero]
        refine WT.take 3 (v := _) (by simp only [List.getElem?_toArray, List.getElem?_cons_succ, List.getElem?_cons_zero]; rfl) (by kernel_rfl) (by exact fun _ _ _ h => h) (by rfl) (by rintro w ⟨u, rfl⟩; go_simp; with_reducible rfl) HS.out ?_
        simp only [Nat.reduceAdd, Nat.zero_add, Act.put, List.setIfInBounds_toArray, List.set_cons_succ, List.set_cons_zero]
        refine WT.take 4 (v := _) (by simp only [List.getElem?_toArray, List.getElem?_cons_succ, List.getElem?_cons_zero]; rfl) (by kernel_rfl) (by exact fun _ _ _ h => h) (by rfl) (by rintro w ⟨u, rfl⟩; go_simp; with_reducible rfl) HS.out ?_
        simp only [Nat.reduceAdd, Nat.zero_add, Act.put, List.setIfInBounds_toArray, List.set_cons_succ, List.set_cons_zero]
        refine WT.take 5 (v := _) (by simp only [List.getElem?_toArray, List.getElem?_cons_succ, List.getElem?_cons_zero]; rfl) (by kernel_rfl) (by exact fun _ _ _ h => h) (by rfl) (by rintro w ⟨u, rfl⟩; go_simp; with_reducible rfl) HS.out ?_
        simp only [Nat.reduceAdd, Nat.zero_add, Act.put, List.setIfInBounds_toArray, List.set_cons_succ, List.set_cons_zero]
        refine WT.take 6 (v := _) (by simp only [List.getElem?_toArray, List.getElem?_cons_succ, List.getElem?_cons_zero]; rfl) (by kernel_rfl) (by exact fun _ _ _ h => h) (by rfl) (by rintro w ⟨u, rfl⟩; go_simp; with_reducible rfl) HS.out ?_
        simp only [Nat.reduceAdd, Nat.zero_add, Act.put, List.setIfInBounds_toArray, List.set_cons_succ, List.set_cons_zero]
        refine WT.stop (by kernel_rfl) ?_
        refine WP.onlySkipE 7 (by simp only [List.getElem?_toArray, List.getElem?_cons_succ, List.getElem?_cons_zero]; rfl) (by kernel_rfl) (by rfl) (re_store (v := .bool true) (n := 1) (by kernel_rfl) (by rfl) (by rfl) ((Keeps.refl Nb W).drew.nb HB4.out) (by rfl) (by simp [Value.cells]) (by simp [Value.cells, Value.oneCell'])) ?_
        intro wg sg
        rw [show splice #[Value.bool false] (Value.bool true).cells 0 = #[.bool true] from rfl] at sg
        simp only [Nat.reduceAdd, Nat.zero_add, Act.put, List.setIfInBounds_toArray, List.set_cons_succ, List.set_cons_zero]
        refine WP.done (by kernel_rfl) ?_
        have g4w8 := lt_of_block (K8.out.nb B44.out)
        have hDg := sg.k.at ((Keeps.refl Nb W).drew.nb HD.out) (fun e => by omega)
        have c4 : wg.cell? ⟨g4, 0, none⟩ = some (.bool true) := by rw [cell_of_block sg.blk]; rfl
        have hk9 := (K4.out.trans_nb K8.out)
        have SG := Lib.hid sg; have HDG := Lib.hid hDg; have HC4 := Lib.hid c4; have HK9 := Lib.hid hk9
        clear sg hDg hk9 C1 C3 CQ t1 HS c4
        go_wp2
        have z9 := HK9.out.size
        have zww : w.heap.size ≤ w4.heap.size := K4.out.size
        have kp := keeps_putObj wg w8.heap.size (.deferred none)
        have hc5 : (wg.putObj w8.heap.size (.deferred none)).cell? ⟨g4, 0, none⟩ = some (.bool true) := (kp.cell (p := ⟨g4, 0, none⟩) (lt_of_cell HC4.out) (fun e => by have : g4 = w8.heap.size := e; omega)).trans HC4.out
        refine ⟨by simp, .inl ⟨_, _, rfl, run_takeDeferred HDG.out, ?_⟩⟩
        refine ⟨.bool true, by simp [results, Try.f18, go_sem, hc5], rfl, ?_⟩
        have k1 := HK9.out.trans HKW.out (fun j hj e => by omega)
        have k2 := (k1.trans_nb (Keeps.refl Nb W).drew).trans SG.out.k (fun j hj e => by have : j = g4 := e; omega)
        exact k2.trans kp (fun j hj e => by have : j = w8.heap.size := e; omega)
end Go.Proofs.Ytffnaigkdocpmac
