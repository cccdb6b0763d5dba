/- VfsNames: the walk. -/
import Derived.Test.YtgpecnihjjnkeaaNamesL
import Derived.Below
set_option linter.unusedVariables false
set_option linter.unusedSimpArgs false
namespace Go.Proofs.Ytgpecnihjjnkeaa.vfsNames
open Go.RowKit Go.Lk Go.Vfs Go.Proofs.Ytgpecnihjjnkeaa Go.ChangeShapes Go.WideShapes Go.Shelf
attribute [local go_sem] Oper.semAt_some
def sF : ByteArray := ⟨#[102, 105, 114, 115, 116]⟩
theorem mnF : mnB sF = true := by decide
theorem zero4t : (Try.prog.info? 4).map (·.zero) = some (some (.bool false)) := by kernel_rfl
set_option maxRecDepth 100000 in
set_option maxHeartbeats 8000000 in
theorem walk {H : Type} {enc : TypeId × Value → H} {base : Nat} (w : World) {v0 : Value} {d0 : DataW H} {p0 : List MemPlace} (kv0 : Value.okWide Try.prog w .any base 39 v0) (k0 : DataW.Trod enc Try.prog w 0 (fun _ => true) true 39 v0 d0 p0) {v1 : Value} {d1 : DataW H} {p1 : List MemPlace} (kv1 : Value.okWide Try.prog w .any base 31 v1) (k1 : DataW.Trod enc Try.prog w 0 (fun _ => true) true 31 v1 d1 p1) {v2 : Value} {d2 : DataW H} {p2 : List MemPlace} (kv2 : Value.okWide Try.prog w .any base 32 v2) (k2 : DataW.Trod enc Try.prog w 0 (fun _ => true) true 32 v2 d2 p2) :
    Calls Try.prog 4 #[v0, v1, v2] w fun e w' => e = .returned (.bool true) ∧ Below w.heap.size w w' := by
  obtain ⟨L, a0, c0, rfl, hl1, hl2, hl3, hl4⟩ := names_of kv0 k0
  have hlx : Hid (∃ bs, Bytes w (Was w) v1 bs) := by
    obtain ⟨m, hm⟩ := k1
    obtain ⟨a, n, c, rfl⟩ := okWide_slice Try.underlying31 kv1
    obtain ⟨vb, l, e, hb⟩ := bytes_of hm
    have e1 : (Value.slice a n c).cells.toList = [Value.slice a n c] := rfl
    rw [e1] at e
    cases e
    exact ⟨l, hb⟩
  have hpx : Hid (∃ zs, PicksV w v2 zs) := by
    obtain ⟨m, hm⟩ := k2
    obtain ⟨a, n, c, rfl⟩ := okWide_slice Try.underlying32 kv2
    obtain ⟨vb, l, e, hb⟩ := picks_of hm
    have e1 : (Value.slice a n c).cells.toList = [Value.slice a n c] := rfl
    rw [e1] at e
    cases e
    exact ⟨l, hb⟩
  obtain ⟨bs, hbs⟩ := hlx.out
  obtain ⟨zs, hzs⟩ := hpx.out
  have HBS := Lib.hid hbs
  have HZS := Lib.hid hzs
  obtain ⟨a1, c1, rfl, hb1, hb2, -⟩ := hbs
  obtain ⟨a2, c2, rfl, hz1, hz2, -⟩ := hzs
  obtain ⟨n0, hn0⟩ : ∃ n, n = L.length := ⟨_, rfl⟩
  obtain ⟨n1, hn1⟩ : ∃ n, n = bs.length := ⟨_, rfl⟩
  obtain ⟨n2, hn2⟩ : ∃ n, n = zs.length := ⟨_, rfl⟩
  have HN0 := Lib.hid hn0
  have HN1 := Lib.hid hn1
  have HN2 := Lib.hid hn2
  have HL := Lib.hid hl3
  have HL4 := Lib.hid hl4
  rw [← hn0] at hl1 ⊢
  rw [← hn1] at hb1 HBS ⊢
  rw [← hn2] at hz1 HZS ⊢
  unfold maxLen at hl2 hb2 hz2
  clear kv0 k0 kv1 k1 kv2 k2 hlx hpx hl3 hl4 hn0 hn1 hn2
  have KN := Lib.hid known_at
  refine calls_marks Try.func4 rfl ?_
  simp only [Try.ntmps4, List.size_toArray, List.length_cons, List.length_nil, Nat.reduceAdd, Nat.reduceSub, Array.replicate_succ, Array.replicate_zero, List.push_toArray, List.append_toArray, List.nil_append, List.cons_append]
  go_wp2_with (first | go_skip | (with_reducible refine stop_load (t := 72) ?_) | (with_reducible refine stop_load (t := 61) ?_) | (with_reducible refine stop_alloc ?_) | (with_reducible refine stop_store ?_) | (with_reducible refine stop_makeMap ?_) | (with_reducible refine stop_rangem ?_) | (with_reducible refine stop_next ?_) | (with_reducible refine stop_entry ?_) | (with_reducible refine stop_buildSlice ?_) | (with_reducible refine stop_app ?_) | (with_reducible refine stop_mapUpdate ?_) | (with_reducible refine stop_lookup ?_) | (with_reducible refine stop_delete ?_) | (with_reducible refine stop_box ?_))
  refine at_out (vbox1 (v := .slice a1 n1 c1) (by rfl) (by rfl) ?_)
  intro gb w1 m1
  simp only [Nat.reduceAdd, Nat.zero_add, Act.put, List.setIfInBounds_toArray, List.set_cons_succ, List.set_cons_zero]
  go_wp2_with (first | go_skip | (with_reducible refine stop_load (t := 72) ?_) | (with_reducible refine stop_load (t := 61) ?_) | (with_reducible refine stop_alloc ?_) | (with_reducible refine stop_store ?_) | (with_reducible refine stop_makeMap ?_) | (with_reducible refine stop_rangem ?_) | (with_reducible refine stop_next ?_) | (with_reducible refine stop_entry ?_) | (with_reducible refine stop_buildSlice ?_) | (with_reducible refine stop_app ?_) | (with_reducible refine stop_mapUpdate ?_) | (with_reducible refine stop_lookup ?_) | (with_reducible refine stop_delete ?_) | (with_reducible refine stop_box ?_))
  refine at_out (valloc zero4t ?_)
  intro gr w2 m2
  simp only [Nat.reduceAdd, Nat.zero_add, Act.put, List.setIfInBounds_toArray, List.set_cons_succ, List.set_cons_zero]
  have HB := Lib.hid (m2.k.nb m1.blk)
  have HR := Lib.hid m2.blk
  have K2 := Lib.hid (m1.k.trans_nb m2.k)
  have GB : Hid (w.heap.size ≤ gb) := m1.ge
  have GR : Hid (w1.heap.size ≤ gr) := m2.ge
  have LB : Hid (gb < w1.heap.size) := m1.lt
  have Z1 : Hid (w.heap.size ≤ w1.heap.size) := m1.k.size
  clear m1 m2
  have cb : ∀ u : Sub w2, u.wd.cell? ⟨gb, 0, none⟩ = some (.slice a1 n1 c1) := fun u => (cell_of_block (u.k.nb HB.out)).trans rfl
  have cb2 : w2.cell? ⟨gb, 0, none⟩ = some (.slice a1 n1 c1) := (cell_of_block HB.out).trans rfl
  by_cases hm0 : 20 < n0
  ·
    go_wp2_with fail
    refine (KN.out w2).mono ?_; rintro e w3 ⟨rfl, k3⟩
    have B3 := Lib.hid (k3.nb (HR.out))
    have K3 := Lib.hid ((K2.out).trans_nb k3)
    clear k3
    go_wp2_with (first | go_skip | (with_reducible refine stop_load (t := 72) ?_) | (with_reducible refine stop_load (t := 61) ?_) | (with_reducible refine stop_alloc ?_) | (with_reducible refine stop_store ?_) | (with_reducible refine stop_makeMap ?_) | (with_reducible refine stop_rangem ?_) | (with_reducible refine stop_next ?_) | (with_reducible refine stop_entry ?_) | (with_reducible refine stop_buildSlice ?_) | (with_reducible refine stop_app ?_) | (with_reducible refine stop_mapUpdate ?_) | (with_reducible refine stop_lookup ?_) | (with_reducible refine stop_delete ?_) | (with_reducible refine stop_box ?_))
    refine at_out (wpList_skipE rfl (re_store (v := .bool true) (n := 1) (by kernel_rfl) (by rfl) (by rfl) B3.out (by rfl) (by simp [Value.cells]) (by simp [Value.cells, Value.oneCell'])) ?_)
    intro w4 s4
    simp only [Nat.reduceAdd, Nat.zero_add, Act.put, List.setIfInBounds_toArray, List.set_cons_succ, List.set_cons_zero]
    go_wp2
    have hc : w4.cell? ⟨gr, 0, none⟩ = some (.bool true) := by rw [cell_of_block s4.blk]; rfl
    exact ⟨.bool true, by simp [results, Try.f4, go_sem, hc], rfl, (K3.out.trans s4.k (fun i hi e => by have : i = gr := e; have := GR.out; have := Z1.out; omega)).below⟩
  by_cases hm1 : 9000 < n1
  ·
    go_wp2_with fail
    refine (KN.out w2).mono ?_; rintro e w3 ⟨rfl, k3⟩
    have B3 := Lib.hid (k3.nb (HR.out))
    have K3 := Lib.hid ((K2.out).trans_nb k3)
    clear k3
    go_wp2_with (first | go_skip | (with_reducible refine stop_load (t := 72) ?_) | (with_reducible refine stop_load (t := 61) ?_) | (with_reducible refine stop_alloc ?_) | (with_reducible refine stop_store ?_) | (with_reducible refine stop_makeMap ?_) | (with_reducible refine stop_rangem ?_) | (with_reducible refine stop_next ?_) | (with_reducible refine stop_entry ?_) | (with_reducible refine stop_buildSlice ?_) | (with_reducible refine stop_app ?_) | (with_reducible refine stop_mapUpdate ?_) | (with_reducible refine stop_lookup ?_) | (with_reducible refine stop_delete ?_) | (with_reducible refine stop_box ?_))
    refine at_out (wpList_skipE rfl (re_store (v := .bool true) (n := 1) (by kernel_rfl) (by rfl) (by rfl) B3.out (by rfl) (by simp [Value.cells]) (by simp [Value.cells, Value.oneCell'])) ?_)
    intro w4 s4
    simp only [Nat.reduceAdd, Nat.zero_add, Act.put, List.setIfInBounds_toArray, List.set_cons_succ, List.set_cons_zero]
    go_wp2
    have hc : w4.cell? ⟨gr, 0, none⟩ = some (.bool true) := by rw [cell_of_block s4.blk]; rfl
    exact ⟨.bool true, by simp [results, Try.f4, go_sem, hc], rfl, (K3.out.trans s4.k (fun i hi e => by have : i = gr := e; have := GR.out; have := Z1.out; omega)).below⟩
  by_cases hm2 : 60 < n2
  ·
    go_wp2_with fail
    refine (KN.out w2).mono ?_; rintro e w3 ⟨rfl, k3⟩
    have B3 := Lib.hid (k3.nb (HR.out))
    have K3 := Lib.hid ((K2.out).trans_nb k3)
    clear k3
    go_wp2_with (first | go_skip | (with_reducible refine stop_load (t := 72) ?_) | (with_reducible refine stop_load (t := 61) ?_) | (with_reducible refine stop_alloc ?_) | (with_reducible refine stop_store ?_) | (with_reducible refine stop_makeMap ?_) | (with_reducible refine stop_rangem ?_) | (with_reducible refine stop_next ?_) | (with_reducible refine stop_entry ?_) | (with_reducible refine stop_buildSlice ?_) | (with_reducible refine stop_app ?_) | (with_reducible refine stop_mapUpdate ?_) | (with_reducible refine stop_lookup ?_) | (with_reducible refine stop_delete ?_) | (with_reducible refine stop_box ?_))
    refine at_out (wpList_skipE rfl (re_store (v := .bool true) (n := 1) (by kernel_rfl) (by rfl) (by rfl) B3.out (by rfl) (by simp [Value.cells]) (by simp [Value.cells, Value.oneCell'])) ?_)
    intro w4 s4
    simp only [Nat.reduceAdd, Nat.zero_add, Act.put, List.setIfInBounds_toArray, List.set_cons_succ, List.set_cons_zero]
    go_wp2
    have hc : w4.cell? ⟨gr, 0, none⟩ = some (.bool true) := by rw [cell_of_block s4.blk]; rfl
    exact ⟨.bool true, by simp [results, Try.f4, go_sem, hc], rfl, (K3.out.trans s4.k (fun i hi e => by have : i = gr := e; have := GR.out; have := Z1.out; omega)).below⟩
  have HM : Hid (n0 ≤ 20 ∧ n1 ≤ 9000 ∧ n2 ≤ 60) := by refine Lib.hid ?_; omega
  go_wp2_with fail
  refine (new_at 10000 w2 (by omega)).mono ?_
  rintro _ w3 ⟨d, rfl, -, hd⟩
  have D3 := Lib.hid (hd.nb ((Keeps.refl Nb w3).drew))
  clear hd cb2
  have sF' : Hid (sF.size ≤ maxLen) := mnB_max mnF
  go_wp2
  have HS : Hid ((fun u : World => u.cell? ⟨gb, 0, none⟩ = some (.slice a1 n1 c1) ∧ True) w3.drew) := ⟨(cell_of_block (D3.out.k.nb HB.out)).trans rfl, trivial⟩
  refine WT.region (fun u : World => u.cell? ⟨gb, 0, none⟩ = some (.slice a1 n1 c1) ∧ True) 26 26 [0, 1, 2, 3, 4, 5, 6, 7, 8, 11, 12, 16, 20, 9, 10, 13, 14, 15, 17, 18, 19, 21, 22, 23, 24, 25] (by kernel_rfl) rfl ?_
  refine WT.take 0 (v := _) (by simp only [List.getElem?_toArray, List.getElem?_cons_succ, List.getElem?_cons_zero]; rfl) (by kernel_rfl) (by exact fun _ _ _ h => h) (by rfl) (by rintro w ⟨C1, C2⟩; go_simp; with_reducible rfl) HS.out ?_
  simp only [Nat.reduceAdd, Nat.zero_add, Act.put, List.setIfInBounds_toArray, List.set_cons_succ, List.set_cons_zero]
  refine WT.take 1 (v := .bool false) (by simp only [List.getElem?_toArray, List.getElem?_cons_succ, List.getElem?_cons_zero]; rfl) (by kernel_rfl) (by exact fun _ _ _ h => h) (by rfl) (by rintro w ⟨C1, C2⟩; go_simp) HS.out ?_
  simp only [Nat.reduceAdd, Nat.zero_add, Act.put, List.setIfInBounds_toArray, List.set_cons_succ, List.set_cons_zero]
  refine WT.take 2 (v := _) (by simp only [List.getElem?_toArray, List.getElem?_cons_succ, List.getElem?_cons_zero]; rfl) (by kernel_rfl) (by exact fun _ _ _ h => h) (by rfl) (by rintro w ⟨C1, C2⟩; go_simp; with_reducible rfl) HS.out ?_
  simp only [Nat.reduceAdd, Nat.zero_add, Act.put, List.setIfInBounds_toArray, List.set_cons_succ, List.set_cons_zero]
  refine WT.take 3 (v := _) (by simp only [List.getElem?_toArray, List.getElem?_cons_succ, List.getElem?_cons_zero]; rfl) (by kernel_rfl) (by exact fun _ _ _ h => h) (by rfl) (by rintro w ⟨C1, C2⟩; go_simp; with_reducible rfl) HS.out ?_
  simp only [Nat.reduceAdd, Nat.zero_add, Act.put, List.setIfInBounds_toArray, List.set_cons_succ, List.set_cons_zero]
  refine WT.call 4 (by simp only [List.getElem?_toArray, List.getElem?_cons_succ, List.getElem?_cons_zero]; rfl) (by kernel_rfl) (by rfl) (by go_simp; first | done | rfl | exact ⟨⟨rfl, rfl⟩, rfl⟩) (num_at 0 w3.drew) ?_
  rintro _ _ ⟨rfl, rfl⟩
  refine ⟨_, rfl, HS.out, ?_⟩
  simp only [Nat.reduceAdd, Nat.zero_add, Act.put, List.setIfInBounds_toArray, List.set_cons_succ, List.set_cons_zero]
  refine WT.take 5 (v := .bool false) (by simp only [List.getElem?_toArray, List.getElem?_cons_succ, List.getElem?_cons_zero]; rfl) (by kernel_rfl) (by exact fun _ _ _ h => h) (by rfl) (by rintro w ⟨C1, C2⟩; go_simp) HS.out ?_
  simp only [Nat.reduceAdd, Nat.zero_add, Act.put, List.setIfInBounds_toArray, List.set_cons_succ, List.set_cons_zero]
  refine WT.take 6 (v := .bool false) (by simp only [List.getElem?_toArray, List.getElem?_cons_succ, List.getElem?_cons_zero]; rfl) (by kernel_rfl) (by exact fun _ _ _ h => h) (by rfl) (by rintro w ⟨C1, C2⟩; go_simp) HS.out ?_
  simp only [Nat.reduceAdd, Nat.zero_add, Act.put, List.setIfInBounds_toArray, List.set_cons_succ, List.set_cons_zero]
  refine WT.take 7 (v := _) (by simp only [List.getElem?_toArray, List.getElem?_cons_succ, List.getElem?_cons_zero]; rfl) (by kernel_rfl) (by exact fun _ _ _ h => h) (by rfl) (by rintro w ⟨C1, C2⟩; go_simp; with_reducible rfl) HS.out ?_
  simp only [Nat.reduceAdd, Nat.zero_add, Act.put, List.setIfInBounds_toArray, List.set_cons_succ, List.set_cons_zero]
  refine WT.take 8 (v := _) (by simp only [List.getElem?_toArray, List.getElem?_cons_succ, List.getElem?_cons_zero]; rfl) (by kernel_rfl) (by exact fun _ _ _ h => h) (by rfl) (by rintro w ⟨C1, C2⟩; go_simp; with_reducible rfl) HS.out ?_
  simp only [Nat.reduceAdd, Nat.zero_add, Act.put, List.setIfInBounds_toArray, List.set_cons_succ, List.set_cons_zero]
  refine WT.take 11 (v := _) (by simp only [List.getElem?_toArray, List.getElem?_cons_succ, List.getElem?_cons_zero]; rfl) (by kernel_rfl) (by exact fun _ _ _ h => h) (by rfl) (by rintro w ⟨C1, C2⟩; go_simp; with_reducible rfl) HS.out ?_
  simp only [Nat.reduceAdd, Nat.zero_add, Act.put, List.setIfInBounds_toArray, List.set_cons_succ, List.set_cons_zero]
  refine WT.take 12 (v := .slice a1 n1 c1) (by simp only [List.getElem?_toArray, List.getElem?_cons_succ, List.getElem?_cons_zero]; rfl) (by kernel_rfl) (by exact fun _ _ _ h => h) (by rfl) (by rintro w ⟨C1, C2⟩; exact rn_load1 (by kernel_rfl) (by rfl) C1) HS.out ?_
  simp only [Nat.reduceAdd, Nat.zero_add, Act.put, List.setIfInBounds_toArray, List.set_cons_succ, List.set_cons_zero]
  refine WT.take 16 (v := _) (by simp only [List.getElem?_toArray, List.getElem?_cons_succ, List.getElem?_cons_zero]; rfl) (by kernel_rfl) (by exact fun _ _ _ h => h) (by rfl) (by rintro w ⟨C1, C2⟩; go_simp; with_reducible rfl) HS.out ?_
  simp only [Nat.reduceAdd, Nat.zero_add, Act.put, List.setIfInBounds_toArray, List.set_cons_succ, List.set_cons_zero]
  refine WT.take 20 (v := _) (by simp only [List.getElem?_toArray, List.getElem?_cons_succ, List.getElem?_cons_zero]; rfl) (by kernel_rfl) (by exact fun _ _ _ h => h) (by rfl) (by rintro w ⟨C1, C2⟩; go_simp; with_reducible rfl) HS.out ?_
  simp only [Nat.reduceAdd, Nat.zero_add, Act.put, List.setIfInBounds_toArray, List.set_cons_succ, List.set_cons_zero]
  refine WT.call 9 (by simp only [List.getElem?_toArray, List.getElem?_cons_succ, List.getElem?_cons_zero]; rfl) (by kernel_rfl) (by rfl) (by go_simp; first | done | rfl | exact ⟨⟨rfl, rfl⟩, rfl⟩ | exact ⟨⟨rfl, rfl, rfl⟩, rfl⟩) (dmake D3.out sF sF'.out (by show (0 : Int) < 1000000; omega)) ?_
  rintro _ w4 ⟨er, D', fc4, rfl, hd, hr, -⟩
  obtain ⟨rfl, b, -, rfl, hf⟩ := Go.Proofs.Ytgpecnihjjnkeaa.n1 mnF hr
  have D4 := Lib.hid hd
  have F4 := Lib.hid hf
  replace HS : Hid ((fun u : World => u.cell? ⟨gb, 0, none⟩ = some (.slice a1 n1 c1) ∧ True) w4) := ⟨(cell_of_block (D4.out.k.nb HB.out)).trans rfl, trivial⟩
  clear hd hf hr D3
  refine ⟨_, rfl, HS.out, ?_⟩
  simp only [Nat.reduceAdd, Nat.zero_add, Act.put, List.setIfInBounds_toArray, List.set_cons_succ, List.set_cons_zero]
  refine WT.call 10 (by simp only [List.getElem?_toArray, List.getElem?_cons_succ, List.getElem?_cons_zero]; rfl) (by kernel_rfl) (by rfl) (by go_simp; first | done | rfl | exact ⟨⟨rfl, rfl⟩, rfl⟩) (num_at 0 w4) ?_
  rintro _ _ ⟨rfl, rfl⟩
  refine ⟨_, rfl, HS.out, ?_⟩
  simp only [Nat.reduceAdd, Nat.zero_add, Act.put, List.setIfInBounds_toArray, List.set_cons_succ, List.set_cons_zero]
  refine WT.call 13 (by simp only [List.getElem?_toArray, List.getElem?_cons_succ, List.getElem?_cons_zero]; rfl) (by kernel_rfl) (by rfl) (by go_simp; first | done | rfl | exact ⟨⟨rfl, rfl⟩, rfl⟩ | exact ⟨⟨rfl, rfl, rfl⟩, rfl⟩) (dapp D4.out sF (.slice a1 n1 c1) bs (Was w) sF'.out (HBS.out.keeps (K2.out.trans_nb D4.out.k) (fun _ _ e => e)) (fun k hk => by have : k < w.heap.size := hk; have := K2.out.size; omega) (by show (1 : Int) < 1000000; omega)) ?_
  rintro _ w5 ⟨er, D', fc5, rfl, hd, hr⟩
  obtain ⟨rfl, rfl, hf⟩ := Go.Proofs.Ytgpecnihjjnkeaa.n2 mnF (by rw [F4.out]; have := HM.out; have := HN1.out; simp; omega) hr
  rw [F4.out] at hf
  have D5 := Lib.hid hd
  have F5 : Hid (fc5 b = ⟨bs, 0⟩) := hf
  replace HS : Hid ((fun u : World => u.cell? ⟨gb, 0, none⟩ = some (.slice a1 n1 c1) ∧ True) w5) := ⟨(cell_of_block (D5.out.k.nb HB.out)).trans rfl, trivial⟩
  clear hd hf hr D4 F4
  refine ⟨_, rfl, HS.out, ?_⟩
  simp only [Nat.reduceAdd, Nat.zero_add, Act.put, List.setIfInBounds_toArray, List.set_cons_succ, List.set_cons_zero]
  refine WT.call 14 (by simp only [List.getElem?_toArray, List.getElem?_cons_succ, List.getElem?_cons_zero]; rfl) (by kernel_rfl) (by rfl) (by go_simp; first | done | rfl | exact ⟨⟨rfl, rfl⟩, rfl⟩) (num_at 0 w5) ?_
  rintro _ _ ⟨rfl, rfl⟩
  refine ⟨_, rfl, HS.out, ?_⟩
  simp only [Nat.reduceAdd, Nat.zero_add, Act.put, List.setIfInBounds_toArray, List.set_cons_succ, List.set_cons_zero]
  refine WT.take 15 (v := .int .i64 0) (by simp only [List.getElem?_toArray, List.getElem?_cons_succ, List.getElem?_cons_zero]; rfl) (by kernel_rfl) (by exact fun _ _ _ h => h) (by rfl) (by rintro w ⟨C1, C2⟩; go_simp; first | done | rfl) HS.out ?_
  simp only [Nat.reduceAdd, Nat.zero_add, Act.put, List.setIfInBounds_toArray, List.set_cons_succ, List.set_cons_zero]
  refine WT.call 17 (by simp only [List.getElem?_toArray, List.getElem?_cons_succ, List.getElem?_cons_zero]; rfl) (by kernel_rfl) (by rfl) (by go_simp; first | done | rfl | exact ⟨⟨rfl, rfl⟩, rfl⟩ | exact ⟨⟨rfl, rfl, rfl⟩, rfl⟩) (dsync D5.out sF sF'.out (by show (2 : Int) < 1000000; omega)) ?_
  rintro _ w6 ⟨er, D', fc6, rfl, hd, hr⟩
  obtain ⟨rfl, rfl, hf⟩ := Go.Proofs.Ytgpecnihjjnkeaa.n3 mnF hr
  rw [F5.out] at hf
  have D6 := Lib.hid hd
  have F6 : Hid (fc6 b = ⟨bs, bs.length⟩) := hf
  replace HS : Hid ((fun u : World => u.cell? ⟨gb, 0, none⟩ = some (.slice a1 n1 c1) ∧ True) w6) := ⟨(cell_of_block (D6.out.k.nb HB.out)).trans rfl, trivial⟩
  clear hd hf hr D5 F5
  refine ⟨_, rfl, HS.out, ?_⟩
  simp only [Nat.reduceAdd, Nat.zero_add, Act.put, List.setIfInBounds_toArray, List.set_cons_succ, List.set_cons_zero]
  refine WT.call 18 (by simp only [List.getElem?_toArray, List.getElem?_cons_succ, List.getElem?_cons_zero]; rfl) (by kernel_rfl) (by rfl) (by go_simp; first | done | rfl | exact ⟨⟨rfl, rfl⟩, rfl⟩) (num_at 0 w6) ?_
  rintro _ _ ⟨rfl, rfl⟩
  refine ⟨_, rfl, HS.out, ?_⟩
  simp only [Nat.reduceAdd, Nat.zero_add, Act.put, List.setIfInBounds_toArray, List.set_cons_succ, List.set_cons_zero]
  refine WT.take 19 (v := .int .i64 0) (by simp only [List.getElem?_toArray, List.getElem?_cons_succ, List.getElem?_cons_zero]; rfl) (by kernel_rfl) (by exact fun _ _ _ h => h) (by rfl) (by rintro w ⟨C1, C2⟩; go_simp; first | done | rfl) HS.out ?_
  simp only [Nat.reduceAdd, Nat.zero_add, Act.put, List.setIfInBounds_toArray, List.set_cons_succ, List.set_cons_zero]
  refine WT.call 21 (by simp only [List.getElem?_toArray, List.getElem?_cons_succ, List.getElem?_cons_zero]; rfl) (by kernel_rfl) (by rfl) (by go_simp; first | done | rfl | exact ⟨⟨rfl, rfl⟩, rfl⟩ | exact ⟨⟨rfl, rfl, rfl⟩, rfl⟩) (dsdir D6.out (by show (3 : Int) < 1000000; omega)) ?_
  rintro _ w7 ⟨er, D', fc7, rfl, hd, hr, hfe⟩
  rw [hfe] at hd
  obtain ⟨rfl, rfl⟩ := Go.Proofs.Ytgpecnihjjnkeaa.n4 hr
  have D7 := Lib.hid hd
  replace HS : Hid ((fun u : World => u.cell? ⟨gb, 0, none⟩ = some (.slice a1 n1 c1) ∧ True) w7) := ⟨(cell_of_block (D7.out.k.nb HB.out)).trans rfl, trivial⟩
  clear hd hr hfe D6
  refine ⟨_, rfl, HS.out, ?_⟩
  simp only [Nat.reduceAdd, Nat.zero_add, Act.put, List.setIfInBounds_toArray, List.set_cons_succ, List.set_cons_zero]
  refine WT.call 22 (by simp only [List.getElem?_toArray, List.getElem?_cons_succ, List.getElem?_cons_zero]; rfl) (by kernel_rfl) (by rfl) (by go_simp; first | done | rfl | exact ⟨⟨rfl, rfl⟩, rfl⟩) (num_at 0 w7) ?_
  rintro _ _ ⟨rfl, rfl⟩
  refine ⟨_, rfl, HS.out, ?_⟩
  simp only [Nat.reduceAdd, Nat.zero_add, Act.put, List.setIfInBounds_toArray, List.set_cons_succ, List.set_cons_zero]
  refine WT.take 23 (v := .int .i64 0) (by simp only [List.getElem?_toArray, List.getElem?_cons_succ, List.getElem?_cons_zero]; rfl) (by kernel_rfl) (by exact fun _ _ _ h => h) (by rfl) (by rintro w ⟨C1, C2⟩; go_simp; first | done | rfl) HS.out ?_
  simp only [Nat.reduceAdd, Nat.zero_add, Act.put, List.setIfInBounds_toArray, List.set_cons_succ, List.set_cons_zero]
  refine WT.take 24 (v := .bool false) (by simp only [List.getElem?_toArray, List.getElem?_cons_succ, List.getElem?_cons_zero]; rfl) (by kernel_rfl) (by exact fun _ _ _ h => h) (by rfl) (by rintro w ⟨C1, C2⟩; go_simp) HS.out ?_
  simp only [Nat.reduceAdd, Nat.zero_add, Act.put, List.setIfInBounds_toArray, List.set_cons_succ, List.set_cons_zero]
  refine WT.take 25 (v := .bool false) (by simp only [List.getElem?_toArray, List.getElem?_cons_succ, List.getElem?_cons_zero]; rfl) (by kernel_rfl) (by exact fun _ _ _ h => h) (by rfl) (by rintro w ⟨C1, C2⟩; go_simp) HS.out ?_
  simp only [Nat.reduceAdd, Nat.zero_add, Act.put, List.setIfInBounds_toArray, List.set_cons_succ, List.set_cons_zero]
  refine WT.stop (by kernel_rfl) (WP.done (by kernel_rfl) ?_)
  clear HS
  go_wp2
  go_loopw [9, 10] (fun t i wr => ∃ (k : Nat) (s : ByteArray) (steps : List Stp), k ≤ n0 ∧ i = .int .i64 k ∧ t = .string s ∧ mnB s = true ∧ Db w2 wr d (nD 10000 [(s, b)] [(sF, b)] steps (4 + k)) fc6 ∧ steps.length = k ∧ ∀ x ∈ steps, x.act = 1) (fun _ i _ => n0 - (intOf i).toNat)
  case atStart => exact ⟨0, sF, [], Nat.zero_le _, rfl, rfl, mnF, D7.out, rfl, by simp⟩
  case round =>
    obtain ⟨k, s, steps, hk, rfl, rfl, hs, hd, hsl, hsa⟩ := hrel
    have HS := Lib.hid hs
    have HD := Lib.hid hd
    have HSL := Lib.hid hsl
    have HSA := Lib.hid hsa
    clear hs hd hsl hsa D7
    by_cases hlt : k < n0
    · have i1 : (k : Int) < (n0 : Int) := by omega
      obtain ⟨t, ht⟩ : ∃ t, L[k]? = some t := ⟨_, List.getElem?_eq_getElem (by rw [← HN0.out]; exact hlt)⟩
      have HT := Lib.hid (HL4.out t (List.mem_of_getElem? ht))
      obtain ⟨b9, o9, rfl, c9⟩ : ∃ b off, a0 = some ⟨b, off, none⟩ ∧ w.cell? ⟨b, off + k, none⟩ = some (.string t) := by
        rcases HL.out with h | ⟨b, off, h, hc⟩
        · exfalso; have : L = [] := List.map_eq_nil_iff.1 h; rw [this] at ht; cases ht
        · exact ⟨b, off, h, hc k _ (by rw [List.getElem?_map, ht]; rfl)⟩
      have C9 := Lib.hid c9
      have c10 : wr.cell? ⟨b9, o9 + k, none⟩ = some (.string t) := ((K2.out.trans_nb HD.out.k).cell (lt_of_cell C9.out) (fun e => e)).trans C9.out
      clear ht c9
      go_wp2_with fail
      refine (refname_at t HT.out wr).mono ?_
      rintro _ _ ⟨rfl, rfl⟩
      by_cases hmt : mnB t = true
      · have HMT := Lib.hid hmt
        rw [hmt]
        clear hmt
        go_wp2_with fail
        refine (dren HD.out s t (mnB_max HS.out) HT.out (by show (4 + k : Int) < 1000000; have := HM.out; omega)).mono ?_
        rintro _ w8 ⟨er, D', fc8, rfl, hd, hr, hfe⟩
        rw [hfe] at hd
        obtain ⟨rfl, rfl⟩ := Go.Proofs.Ytgpecnihjjnkeaa.n5 HS.out HMT.out hr
        have D8 := Lib.hid hd
        have c11 : w8.cell? ⟨b9, o9 + k, none⟩ = some (.string t) := ((K2.out.trans_nb D8.out.k).cell (lt_of_cell C9.out) (fun e => e)).trans C9.out
        clear hd hr hfe c10
        go_wp2_with fail
        refine (num_at 0 w8).mono ?_; rintro _ _ ⟨rfl, rfl⟩
        go_wp2
        go_roundw
        case rel => exact ⟨k + 1, t, _, by omega, by go_num, rfl, HMT.out, by rw [show (4 + ((k + 1 : Nat) : Int)) = 4 + (k : Int) + 1 by omega]; exact D8.out, by simp [HSL.out], fun x hx => by
          rcases List.mem_append.1 hx with hx | hx
          · exact HSA.out x hx
          · rw [List.mem_singleton.1 hx]⟩
        case measure => simp [intOf]; omega
      · have hmf : mnB t = false := by simpa using hmt
        rw [hmf]
        clear hmt hmf
        go_wp2_with fail
        refine (KN.out wr).mono ?_; rintro e w3 ⟨rfl, k3⟩
        have B3 := Lib.hid (k3.nb (HD.out.k.nb HR.out))
        have K3 := Lib.hid ((K2.out.trans_nb HD.out.k).trans_nb k3)
        clear k3
        go_wp2_with (first | go_skip | (with_reducible refine stop_load (t := 72) ?_) | (with_reducible refine stop_load (t := 61) ?_) | (with_reducible refine stop_alloc ?_) | (with_reducible refine stop_store ?_) | (with_reducible refine stop_makeMap ?_) | (with_reducible refine stop_rangem ?_) | (with_reducible refine stop_next ?_) | (with_reducible refine stop_entry ?_) | (with_reducible refine stop_buildSlice ?_) | (with_reducible refine stop_app ?_) | (with_reducible refine stop_mapUpdate ?_) | (with_reducible refine stop_lookup ?_) | (with_reducible refine stop_delete ?_) | (with_reducible refine stop_box ?_))
        refine at_out (wpList_skipE rfl (re_store (v := .bool true) (n := 1) (by kernel_rfl) (by rfl) (by rfl) B3.out (by rfl) (by simp [Value.cells]) (by simp [Value.cells, Value.oneCell'])) ?_)
        intro w4 s4
        simp only [Nat.reduceAdd, Nat.zero_add, Act.put, List.setIfInBounds_toArray, List.set_cons_succ, List.set_cons_zero]
        go_wp2
        have hc : w4.cell? ⟨gr, 0, none⟩ = some (.bool true) := by rw [cell_of_block s4.blk]; rfl
        exact ⟨.bool true, by simp [results, Try.f4, go_sem, hc], rfl, (K3.out.trans s4.k (fun i hi e => by have : i = gr := e; have := GR.out; have := Z1.out; omega)).below⟩
    · have hkl : k = n0 := by omega
      subst hkl
      obtain ⟨bl, hbl⟩ : ∃ l, bstr bs = l := ⟨_, rfl⟩
      have HBL := Lib.hid hbl
      clear hbl
      have HRD : Hid (rdS (nD 10000 [(s, b)] [(sF, b)] steps (4 + k)) fc6 s = bl) := by refine Lib.hid ?_; rw [rdN HS.out, F6.out]; exact HBL.out
      have HHas : Hid (∀ u, Keeps Nb w2 u → Has u a1 (bs.map fun x => Value.int .u8 (x : Nat))) := fun u hu => by
        obtain ⟨a, c, e, q1, q2, q3⟩ := (HBS.out.keeps (K2.out.trans_nb hu) (fun _ _ e => e)).rows
        have e1 : a1 = a := by simp only [Value.slice.injEq] at e; exact e.1
        rw [e1]; exact q3
      go_wp2
      have HSS : Hid ((fun u : World => u.cell? ⟨gb, 0, none⟩ = some (.slice a1 n1 c1) ∧ Has u a1 (bs.map fun x => Value.int .u8 (x : Nat))) wr.drew) := ⟨(cell_of_block (HD.out.k.nb HB.out)).trans rfl, HHas.out _ (HD.out.k.trans_nb (Keeps.refl Nb wr).drew)⟩
      refine WT.region (fun u : World => u.cell? ⟨gb, 0, none⟩ = some (.slice a1 n1 c1) ∧ Has u a1 (bs.map fun x => Value.int .u8 (x : Nat))) 13 13 [0, 1, 3, 4, 2, 5, 6, 7, 9, 10, 8, 11, 12] (by kernel_rfl) rfl ?_
      have HS' := HS
      have HS := HSS
      refine WT.take 0 (v := _) (by simp only [List.getElem?_toArray, List.getElem?_cons_succ, List.getElem?_cons_zero]; rfl) (by kernel_rfl) (by exact fun _ _ _ h => h) (by rfl) (by rintro w ⟨C1, C2⟩; go_simp; with_reducible rfl) HS.out ?_
      simp only [Nat.reduceAdd, Nat.zero_add, Act.put, List.setIfInBounds_toArray, List.set_cons_succ, List.set_cons_zero]
      refine WT.take 1 (v := _) (by simp only [List.getElem?_toArray, List.getElem?_cons_succ, List.getElem?_cons_zero]; rfl) (by kernel_rfl) (by exact fun _ _ _ h => h) (by rfl) (by rintro w ⟨C1, C2⟩; go_simp; with_reducible rfl) HS.out ?_
      simp only [Nat.reduceAdd, Nat.zero_add, Act.put, List.setIfInBounds_toArray, List.set_cons_succ, List.set_cons_zero]
      refine WT.take 3 (v := .slice a1 n1 c1) (by simp only [List.getElem?_toArray, List.getElem?_cons_succ, List.getElem?_cons_zero]; rfl) (by kernel_rfl) (by exact fun _ _ _ h => h) (by rfl) (by rintro w ⟨C1, C2⟩; exact rn_load1 (by kernel_rfl) (by rfl) C1) HS.out ?_
      simp only [Nat.reduceAdd, Nat.zero_add, Act.put, List.setIfInBounds_toArray, List.set_cons_succ, List.set_cons_zero]
      refine WT.take 4 (v := .string bl) (by simp only [List.getElem?_toArray, List.getElem?_cons_succ, List.getElem?_cons_zero]; rfl) (by kernel_rfl) (by exact fun _ _ _ h => h) (by rfl) (by rintro w ⟨C1, C2⟩; rw [← HBL.out]; exact rn_str Try.underlying31 Try.underlying5 Try.underlying9 (by rfl) C2 HN1.out.symm) HS.out ?_
      simp only [Nat.reduceAdd, Nat.zero_add, Act.put, List.setIfInBounds_toArray, List.set_cons_succ, List.set_cons_zero]
      refine WT.call 2 (by simp only [List.getElem?_toArray, List.getElem?_cons_succ, List.getElem?_cons_zero]; rfl) (by kernel_rfl) (by rfl) (by go_simp; first | done | rfl | exact ⟨⟨rfl, rfl⟩, rfl⟩ | exact ⟨⟨rfl, rfl, rfl⟩, rfl⟩) (lread (HD.out.nb (Keeps.refl Nb wr).drew) s (mnB_max HS'.out)) ?_
      rintro _ w8 ⟨rfl, k8⟩
      rw [HRD.out]
      have D8 := Lib.hid (HD.out.nb ((Keeps.refl Nb wr).drew.trans_nb k8))
      replace HS : Hid ((fun u : World => u.cell? ⟨gb, 0, none⟩ = some (.slice a1 n1 c1) ∧ Has u a1 (bs.map fun x => Value.int .u8 (x : Nat))) w8) := ⟨(cell_of_block (D8.out.k.nb HB.out)).trans rfl, HHas.out _ D8.out.k⟩
      clear k8 HSS
      refine ⟨_, rfl, HS.out, ?_⟩
      simp only [Nat.reduceAdd, Nat.zero_add, Act.put, List.setIfInBounds_toArray, List.set_cons_succ, List.set_cons_zero]
      refine WT.take 5 (v := .bool false) (by simp only [List.getElem?_toArray, List.getElem?_cons_succ, List.getElem?_cons_zero]; rfl) (by kernel_rfl) (by exact fun _ _ _ h => h) (by rfl) (by rintro w ⟨C1, C2⟩; go_simp; first | done | simp [str_bne]) HS.out ?_
      simp only [Nat.reduceAdd, Nat.zero_add, Act.put, List.setIfInBounds_toArray, List.set_cons_succ, List.set_cons_zero]
      refine WT.take 6 (v := .bool false) (by simp only [List.getElem?_toArray, List.getElem?_cons_succ, List.getElem?_cons_zero]; rfl) (by kernel_rfl) (by exact fun _ _ _ h => h) (by rfl) (by rintro w ⟨C1, C2⟩; go_simp) HS.out ?_
      simp only [Nat.reduceAdd, Nat.zero_add, Act.put, List.setIfInBounds_toArray, List.set_cons_succ, List.set_cons_zero]
      refine WT.take 7 (v := _) (by simp only [List.getElem?_toArray, List.getElem?_cons_succ, List.getElem?_cons_zero]; rfl) (by kernel_rfl) (by exact fun _ _ _ h => h) (by rfl) (by rintro w ⟨C1, C2⟩; go_simp; with_reducible rfl) HS.out ?_
      simp only [Nat.reduceAdd, Nat.zero_add, Act.put, List.setIfInBounds_toArray, List.set_cons_succ, List.set_cons_zero]
      refine WT.take 9 (v := _) (by simp only [List.getElem?_toArray, List.getElem?_cons_succ, List.getElem?_cons_zero]; rfl) (by kernel_rfl) (by exact fun _ _ _ h => h) (by rfl) (by rintro w ⟨C1, C2⟩; go_simp; with_reducible rfl) HS.out ?_
      simp only [Nat.reduceAdd, Nat.zero_add, Act.put, List.setIfInBounds_toArray, List.set_cons_succ, List.set_cons_zero]
      refine WT.take 10 (v := .int .i64 (k : Nat)) (by simp only [List.getElem?_toArray, List.getElem?_cons_succ, List.getElem?_cons_zero]; rfl) (by kernel_rfl) (by exact fun _ _ _ h => h) (by rfl) (by rintro w ⟨C1, C2⟩; go_simp) HS.out ?_
      simp only [Nat.reduceAdd, Nat.zero_add, Act.put, List.setIfInBounds_toArray, List.set_cons_succ, List.set_cons_zero]
      refine WT.call 8 (by simp only [List.getElem?_toArray, List.getElem?_cons_succ, List.getElem?_cons_zero]; rfl) (by kernel_rfl) (by rfl) (by go_simp; first | done | rfl | exact ⟨⟨rfl, rfl⟩, rfl⟩ | exact ⟨⟨rfl, rfl, rfl⟩, rfl⟩) (dpending D8.out) ?_
      rintro _ _ ⟨rfl, rfl⟩
      rw [show (nD 10000 [(s, b)] [(sF, b)] steps (4 + k)).steps.length = k from HSL.out]
      refine ⟨_, rfl, HS.out, ?_⟩
      simp only [Nat.reduceAdd, Nat.zero_add, Act.put, List.setIfInBounds_toArray, List.set_cons_succ, List.set_cons_zero]
      refine WT.take 11 (v := .bool false) (by simp only [List.getElem?_toArray, List.getElem?_cons_succ, List.getElem?_cons_zero]; rfl) (by kernel_rfl) (by exact fun _ _ _ h => h) (by rfl) (by rintro w ⟨C1, C2⟩; go_simp) HS.out ?_
      simp only [Nat.reduceAdd, Nat.zero_add, Act.put, List.setIfInBounds_toArray, List.set_cons_succ, List.set_cons_zero]
      refine WT.take 12 (v := .bool false) (by simp only [List.getElem?_toArray, List.getElem?_cons_succ, List.getElem?_cons_zero]; rfl) (by kernel_rfl) (by exact fun _ _ _ h => h) (by rfl) (by rintro w ⟨C1, C2⟩; go_simp) HS.out ?_
      simp only [Nat.reduceAdd, Nat.zero_add, Act.put, List.setIfInBounds_toArray, List.set_cons_succ, List.set_cons_zero]
      refine WT.stop (by kernel_rfl) (WP.done (by kernel_rfl) ?_)
      clear HS
      have HS := HS'
      clear HS'
      go_wp2_with fail
      refine (dcrash D8.out (.slice a2 n2 c2) zs (by have := HZS.out.nb (K2.out.trans_nb D8.out.k); exact this) (by show [(sF, b)].length + steps.length ≤ 1000000; rw [HSL.out]; simp; have := HM.out; omega)).mono ?_
      rintro _ w9 ⟨d9, D9', fc9, φ, l2, bs9, rfl, hd9, hdd, hcr⟩
      obtain ⟨t9, k9, hf9, hfc9⟩ := n6 HSA.out F6.out hcr
      have D9 := Lib.hid hd9
      have HF9 := Lib.hid hf9
      have HFC9 := Lib.hid hfc9
      clear hd9 hdd hcr hf9 hfc9
      go_wp2_with (first | go_skip | (with_reducible refine stop_load (t := 72) ?_) | (with_reducible refine stop_load (t := 61) ?_) | (with_reducible refine stop_alloc ?_) | (with_reducible refine stop_store ?_) | (with_reducible refine stop_makeMap ?_) | (with_reducible refine stop_rangem ?_) | (with_reducible refine stop_next ?_) | (with_reducible refine stop_entry ?_) | (with_reducible refine stop_buildSlice ?_) | (with_reducible refine stop_app ?_) | (with_reducible refine stop_mapUpdate ?_) | (with_reducible refine stop_lookup ?_) | (with_reducible refine stop_delete ?_) | (with_reducible refine stop_box ?_))
      refine at_out (valloc (z := .pointer none) (by kernel_rfl) ?_)
      intro gc w10 m10
      simp only [Nat.reduceAdd, Nat.zero_add, Act.put, List.setIfInBounds_toArray, List.set_cons_succ, List.set_cons_zero]
      go_wp2_with (first | go_skip | (with_reducible refine stop_load (t := 72) ?_) | (with_reducible refine stop_load (t := 61) ?_) | (with_reducible refine stop_alloc ?_) | (with_reducible refine stop_store ?_) | (with_reducible refine stop_makeMap ?_) | (with_reducible refine stop_rangem ?_) | (with_reducible refine stop_next ?_) | (with_reducible refine stop_entry ?_) | (with_reducible refine stop_buildSlice ?_) | (with_reducible refine stop_app ?_) | (with_reducible refine stop_mapUpdate ?_) | (with_reducible refine stop_lookup ?_) | (with_reducible refine stop_delete ?_) | (with_reducible refine stop_box ?_))
      refine at_out (wpList_skipE rfl (re_store (v := .pointer (some ⟨d9, 0, none⟩)) (n := 1) (by kernel_rfl) (by rfl) (by rfl) m10.blk (by rfl) (by simp [Value.cells]) (by simp [Value.cells, Value.oneCell'])) ?_)
      intro w11 s11
      simp only [Nat.reduceAdd, Nat.zero_add, Act.put, List.setIfInBounds_toArray, List.set_cons_succ, List.set_cons_zero]
      have BC11 : Hid (w11.heap[gc]? = some (.cells #[.pointer (some ⟨d9, 0, none⟩)] 25 (0, 0))) := s11.blk
      have D11 := Lib.hid (D9.out.nb (m10.k.own m10.ge s11.k))
      clear m10 s11
      have cc : w11.cell? ⟨gc, 0, none⟩ = some (.pointer (some ⟨d9, 0, none⟩)) := (cell_of_block BC11.out).trans rfl
      go_wp2_with (first | go_skip | (with_reducible refine stop_load (t := 72) ?_) | (with_reducible refine stop_load (t := 61) ?_) | (with_reducible refine stop_alloc ?_) | (with_reducible refine stop_store ?_) | (with_reducible refine stop_makeMap ?_) | (with_reducible refine stop_rangem ?_) | (with_reducible refine stop_next ?_) | (with_reducible refine stop_entry ?_) | (with_reducible refine stop_buildSlice ?_) | (with_reducible refine stop_app ?_) | (with_reducible refine stop_mapUpdate ?_) | (with_reducible refine stop_lookup ?_) | (with_reducible refine stop_delete ?_) | (with_reducible refine stop_box ?_))
      refine at_out (valloc (z := .int .i64 0) (by kernel_rfl) ?_)
      intro gn w12 m12
      simp only [Nat.reduceAdd, Nat.zero_add, Act.put, List.setIfInBounds_toArray, List.set_cons_succ, List.set_cons_zero]
      go_wp2_with (first | go_skip | (with_reducible refine stop_load (t := 72) ?_) | (with_reducible refine stop_load (t := 61) ?_) | (with_reducible refine stop_alloc ?_) | (with_reducible refine stop_store ?_) | (with_reducible refine stop_makeMap ?_) | (with_reducible refine stop_rangem ?_) | (with_reducible refine stop_next ?_) | (with_reducible refine stop_entry ?_) | (with_reducible refine stop_buildSlice ?_) | (with_reducible refine stop_app ?_) | (with_reducible refine stop_mapUpdate ?_) | (with_reducible refine stop_lookup ?_) | (with_reducible refine stop_delete ?_) | (with_reducible refine stop_box ?_))
      refine at_out (wpList_skipE rfl (re_store (v := .int .i64 0) (n := 1) (by kernel_rfl) (by rfl) (by rfl) m12.blk (by rfl) (by simp [Value.cells]) (by simp [Value.cells, Value.oneCell'])) ?_)
      intro w13 s13
      simp only [Nat.reduceAdd, Nat.zero_add, Act.put, List.setIfInBounds_toArray, List.set_cons_succ, List.set_cons_zero]
      have BN13 : Hid (w13.heap[gn]? = some (.cells #[.int .i64 (0 : Nat)] 3 (0, 0))) := s13.blk
      have K13 : Hid (Keeps Nb w11 w13) := m12.k.own m12.ge s13.k
      have GN : Hid (w11.heap.size ≤ gn) := m12.ge
      have GNL : Hid (gn < w13.heap.size) := lt_of_block s13.blk
      have D13 := Lib.hid (D11.out.nb K13.out)
      have HMN : Hid (mnB t9 = true) := by
        obtain ⟨F9, R9, h9⟩ := D11.out
        exact h9.at_.names.files (t9, k9) (by rw [HF9.out]; simp)
      clear m12 s13 cc
      have cc : w13.cell? ⟨gc, 0, none⟩ = some (.pointer (some ⟨d9, 0, none⟩)) := (cell_of_block (K13.out.nb BC11.out)).trans rfl
      have qn : ∀ (w : World) (fn : Fn) (a b : Array Value), (binOp .eql 48 (.func fn a b) .nilFunc).run Try.prog w = .ok (.bool false) w := fun w fn a b => by first | rfl | kernel_rfl
      go_wp2_with fail
      refine (dfiles D13.out).mono ?_
      rintro _ w14 ⟨ns, hperm, a3, a4, rfl, hfa, k14⟩
      rw [HF9.out] at hperm
      obtain rfl : ns = [t9] := List.perm_singleton.1 hperm
      have hsz : szOf D9' fc9 t9 = n1 := by rw [szOf_some (b := k9) (by rw [HF9.out]; exact flook1 _ _), HFC9.out, HN1.out]
      rw [show [t9].map (fun s => (s, szOf D9' fc9 s)) = [(t9, n1)] by rw [List.map_cons, hsz]; rfl] at hfa
      have HFA := Lib.hid hfa
      have K14 := Lib.hid k14
      have BN14 := Lib.hid (k14.nb BN13.out)
      clear hperm hfa k14 hsz cc
      go_wp2_with (with_reducible refine stop_range0 ?_)
      refine at_out ((wpIn_wide (n := 9)).1 ?_)
      refine wp_range (gf := 51) (lb := #[.pointer (some ⟨a3, 0, none⟩), .pointer (some ⟨a4, 0, none⟩)]) (by rfl) (enters_of Try.func51 (by kernel_rfl) rfl)
        (files_iter 8 (by omega) w13.heap.size a3 a4 [(t9, n1)] (fun b => w14.heap.size ≤ b ∨ b = gn) w14 HFA.out (fun b h1 h2 e => by have := GNL.out; omega))
        (fun b hb => .inl (by unfold Book at hb; omega)) (fun i args W h => by obtain ⟨p, -, rfl⟩ := h; rfl)
        (fun i W => W.heap[gn]? = some (.cells #[.int .i64 (i : Nat)] 3 (0, 0)) ∧ Keeps (fun b => w14.heap.size ≤ b ∨ b = gn) w14 W) (fun _ _ => False)
        (fun i A B h k => ⟨k.at h.1 (fun e => by unfold Book at e; have := GNL.out; have := K14.out.size; omega), h.2.trans k (fun j hj e => by unfold Book at e; omega)⟩) (fun c A B h => h.elim) ⟨BN14.out, Keeps.refl _ _⟩ ?round ?done (fun _ _ h => h.elim)
      case round =>
        rintro l i args W rfl hW2 ⟨hbn, hkW⟩ hi ⟨p, hp, rfl⟩
        have hi0 : i = 0 := by simpa using hi
        subst hi0
        obtain rfl : (t9, n1) = p := by simpa using hp
        simp only [List.zip_toArray, List.zip_cons_cons, List.zip_nil_right, List.foldl_toArray, List.foldl_cons, List.foldl_nil, List.setIfInBounds_toArray, List.set_cons_succ, List.set_cons_zero]
        have HBN := Lib.hid hbn; have HKW := Lib.hid hkW
        clear hbn hkW hp hi
        repeat (first | (with_reducible refine stop_region ?_) | (with_reducible refine stop_range ?_) | gi_step)
        refine at_out (regionIn_list (by kernel_rfl) (by rintro ⟨_, _, h⟩; exact h) ?_)
        go_wp2
        repeat (first | (with_reducible refine stop_region ?_) | (with_reducible refine stop_range ?_) | gi_step)
        refine at_out (regionIn_list (by kernel_rfl) (by rintro ⟨_, _, h⟩; exact h) ?_)
        go_wp2
        refine ⟨Keeps.refl _ _, fun W3 k3 => ?_⟩
        have KW3 : Hid (Keeps (fun b => w14.heap.size ≤ b ∨ b = gn) w14 W3) := HKW.out.trans k3 (fun j _ e => by omega)
        have BN3 : Hid (W3.heap[gn]? = some (.cells #[.int .i64 (0 : Nat)] 3 (0, 0))) := k3.at HBN.out (fun e => by have := GNL.out; have := K14.out.size; omega)
        have KN3 : Hid (Keeps Nb w11 W3) := (K13.out.trans_nb K14.out).trans KW3.out (fun j hj e => by have := GN.out; have := K13.out.size; have := K14.out.size; omega)
        have D3 := Lib.hid (D11.out.nb KN3.out)
        have BC3 := Lib.hid (KN3.out.nb BC11.out)
        have zW := hW2
        have z3 := k3.size
        clear k3 HBN HKW
        have cc : W3.cell? ⟨gc, 0, none⟩ = some (.pointer (some ⟨d9, 0, none⟩)) := (cell_of_block BC3.out).trans rfl
        have HLS := Lib.hid (dlasts D3.out t9 (mnB_max HMN.out))
        have HLQ : Hid (lastsOf D9' fc9 t9 = (((n1 : Nat) : Int), 0)) := by refine Lib.hid ?_; rw [lasts_some HMN.out (b := k9) (by rw [HF9.out]; exact flook1 _ _), HFC9.out, HN1.out]
        rw [HLQ.out] at HLS
        repeat (first | (with_reducible refine stop_region ?_) | (with_reducible refine stop_range ?_) | gi_step)
        refine at_out (regionIn_list (by kernel_rfl) (by rintro ⟨_, _, h⟩; exact h) ?_)
        go_wp2_with fail
        refine HLS.out.mono ?_
        rintro _ W4 ⟨rfl, k4⟩
        have D4 := Lib.hid (D3.out.nb k4)
        have BC4 := Lib.hid (k4.nb BC3.out)
        have BN4 := Lib.hid (k4.nb BN3.out)
        have K4 := Lib.hid k4
        clear k4 cc HLS HLQ
        go_wp2
        have HRD9 : Hid (rdS D9' fc9 t9 = bl) := by refine Lib.hid ?_; rw [rd_some HMN.out (b := k9) (by rw [HF9.out]; exact flook1 _ _), HFC9.out]; exact HBL.out
        have HSS : Hid ((fun u : World => u.cell? ⟨gb, 0, none⟩ = some (.slice a1 n1 c1) ∧ Has u a1 (bs.map fun x => Value.int .u8 (x : Nat)) ∧ u.cell? ⟨gc, 0, none⟩ = some (.pointer (some ⟨d9, 0, none⟩))) W4.drew) := ⟨(cell_of_block (D4.out.k.nb HB.out)).trans rfl, HHas.out _ (D4.out.k.trans_nb (Keeps.refl Nb W4).drew), (cell_of_block BC4.out).trans rfl⟩
        repeat (first | (with_reducible refine stop_region ?_) | (with_reducible refine stop_range ?_) | gi_step)
        refine at_out (WT.regionIn (fun u => u.cell? ⟨gb, 0, none⟩ = some (.slice a1 n1 c1) ∧ Has u a1 (bs.map fun x => Value.int .u8 (x : Nat)) ∧ u.cell? ⟨gc, 0, none⟩ = some (.pointer (some ⟨d9, 0, none⟩))) 22 [0, 1, 2, 3, 4, 5, 6, 7, 8, 9, 10, 11, 12, 13, 14, 15, 16, 18, 19, 17, 20, 21] (by kernel_rfl) (by rintro ⟨_, _, h⟩; exact h) (by kernel_rfl) rfl ?_)
        have HS := HSS
        refine WT.take 0 (v := _) (by simp only [List.getElem?_toArray, List.getElem?_cons_succ, List.getElem?_cons_zero]; rfl) (by kernel_rfl) (by exact fun _ _ _ h => h) (by rfl) (by rintro w ⟨C1, C2⟩; go_simp; with_reducible rfl) HS.out ?_
        simp only [Nat.reduceAdd, Nat.zero_add, Act.put, List.setIfInBounds_toArray, List.set_cons_succ, List.set_cons_zero]
        refine WT.take 1 (v := .slice a1 n1 c1) (by simp only [List.getElem?_toArray, List.getElem?_cons_succ, List.getElem?_cons_zero]; rfl) (by kernel_rfl) (by exact fun _ _ _ h => h) (by rfl) (by rintro w ⟨C1, C2⟩; exact rn_load1 (by kernel_rfl) (by rfl) C1) HS.out ?_
        simp only [Nat.reduceAdd, Nat.zero_add, Act.put, List.setIfInBounds_toArray, List.set_cons_succ, List.set_cons_zero]
        refine WT.take 2 (v := .int .i64 (n1 : Nat)) (by simp only [List.getElem?_toArray, List.getElem?_cons_succ, List.getElem?_cons_zero]; rfl) (by kernel_rfl) (by exact fun _ _ _ h => h) (by rfl) (by rintro w ⟨C1, C2⟩; go_simp) HS.out ?_
        simp only [Nat.reduceAdd, Nat.zero_add, Act.put, List.setIfInBounds_toArray, List.set_cons_succ, List.set_cons_zero]
        refine WT.take 3 (v := .bool false) (by simp only [List.getElem?_toArray, List.getElem?_cons_succ, List.getElem?_cons_zero]; rfl) (by kernel_rfl) (by exact fun _ _ _ h => h) (by rfl) (by rintro w ⟨C1, C2⟩; go_simp) HS.out ?_
        simp only [Nat.reduceAdd, Nat.zero_add, Act.put, List.setIfInBounds_toArray, List.set_cons_succ, List.set_cons_zero]
        refine WT.take 4 (v := .bool false) (by simp only [List.getElem?_toArray, List.getElem?_cons_succ, List.getElem?_cons_zero]; rfl) (by kernel_rfl) (by exact fun _ _ _ h => h) (by rfl) (by rintro w ⟨C1, C2⟩; go_simp) HS.out ?_
        simp only [Nat.reduceAdd, Nat.zero_add, Act.put, List.setIfInBounds_toArray, List.set_cons_succ, List.set_cons_zero]
        refine WT.take 5 (v := _) (by simp only [List.getElem?_toArray, List.getElem?_cons_succ, List.getElem?_cons_zero]; rfl) (by kernel_rfl) (by exact fun _ _ _ h => h) (by rfl) (by rintro w ⟨C1, C2⟩; go_simp; with_reducible rfl) HS.out ?_
        simp only [Nat.reduceAdd, Nat.zero_add, Act.put, List.setIfInBounds_toArray, List.set_cons_succ, List.set_cons_zero]
        refine WT.take 6 (v := _) (by simp only [List.getElem?_toArray, List.getElem?_cons_succ, List.getElem?_cons_zero]; rfl) (by kernel_rfl) (by exact fun _ _ _ h => h) (by rfl) (by rintro w ⟨C1, C2⟩; go_simp; with_reducible rfl) HS.out ?_
        simp only [Nat.reduceAdd, Nat.zero_add, Act.put, List.setIfInBounds_toArray, List.set_cons_succ, List.set_cons_zero]
        refine WT.take 7 (v := .bool false) (by simp only [List.getElem?_toArray, List.getElem?_cons_succ, List.getElem?_cons_zero]; rfl) (by kernel_rfl) (by exact fun _ _ _ h => h) (by rfl) (by rintro w ⟨C1, C2⟩; go_simp) HS.out ?_
        simp only [Nat.reduceAdd, Nat.zero_add, Act.put, List.setIfInBounds_toArray, List.set_cons_succ, List.set_cons_zero]
        refine WT.take 8 (v := .bool false) (by simp only [List.getElem?_toArray, List.getElem?_cons_succ, List.getElem?_cons_zero]; rfl) (by kernel_rfl) (by exact fun _ _ _ h => h) (by rfl) (by rintro w ⟨C1, C2⟩; go_simp) HS.out ?_
        simp only [Nat.reduceAdd, Nat.zero_add, Act.put, List.setIfInBounds_toArray, List.set_cons_succ, List.set_cons_zero]
        refine WT.take 9 (v := .bool false) (by simp only [List.getElem?_toArray, List.getElem?_cons_succ, List.getElem?_cons_zero]; rfl) (by kernel_rfl) (by exact fun _ _ _ h => h) (by rfl) (by rintro w ⟨C1, C2⟩; go_simp) HS.out ?_
        simp only [Nat.reduceAdd, Nat.zero_add, Act.put, List.setIfInBounds_toArray, List.set_cons_succ, List.set_cons_zero]
        refine WT.take 10 (v := _) (by simp only [List.getElem?_toArray, List.getElem?_cons_succ, List.getElem?_cons_zero]; rfl) (by kernel_rfl) (by exact fun _ _ _ h => h) (by rfl) (by rintro w ⟨C1, C2⟩; go_simp; with_reducible rfl) HS.out ?_
        simp only [Nat.reduceAdd, Nat.zero_add, Act.put, List.setIfInBounds_toArray, List.set_cons_succ, List.set_cons_zero]
        refine WT.call 11 (by simp only [List.getElem?_toArray, List.getElem?_cons_succ, List.getElem?_cons_zero]; rfl) (by kernel_rfl) (by rfl) (by go_simp; first | done | rfl | exact ⟨⟨rfl, rfl⟩, rfl⟩) (num_at 0 W4.drew) ?_
        rintro _ _ ⟨rfl, rfl⟩
        refine ⟨_, rfl, HS.out, ?_⟩
        simp only [Nat.reduceAdd, Nat.zero_add, Act.put, List.setIfInBounds_toArray, List.set_cons_succ, List.set_cons_zero]
        refine WT.take 12 (v := .bool false) (by simp only [List.getElem?_toArray, List.getElem?_cons_succ, List.getElem?_cons_zero]; rfl) (by kernel_rfl) (by exact fun _ _ _ h => h) (by rfl) (by rintro w ⟨C1, C2⟩; go_simp) HS.out ?_
        simp only [Nat.reduceAdd, Nat.zero_add, Act.put, List.setIfInBounds_toArray, List.set_cons_succ, List.set_cons_zero]
        refine WT.take 13 (v := .bool false) (by simp only [List.getElem?_toArray, List.getElem?_cons_succ, List.getElem?_cons_zero]; rfl) (by kernel_rfl) (by exact fun _ _ _ h => h) (by rfl) (by rintro w ⟨C1, C2⟩; go_simp) HS.out ?_
        simp only [Nat.reduceAdd, Nat.zero_add, Act.put, List.setIfInBounds_toArray, List.set_cons_succ, List.set_cons_zero]
        refine WT.take 14 (v := .bool false) (by simp only [List.getElem?_toArray, List.getElem?_cons_succ, List.getElem?_cons_zero]; rfl) (by kernel_rfl) (by exact fun _ _ _ h => h) (by rfl) (by rintro w ⟨C1, C2⟩; go_simp) HS.out ?_
        simp only [Nat.reduceAdd, Nat.zero_add, Act.put, List.setIfInBounds_toArray, List.set_cons_succ, List.set_cons_zero]
        refine WT.take 15 (v := .pointer (some ⟨d9, 0, none⟩)) (by simp only [List.getElem?_toArray, List.getElem?_cons_succ, List.getElem?_cons_zero]; rfl) (by kernel_rfl) (by exact fun _ _ _ h => h) (by rfl) (by rintro w ⟨C1, C2⟩; exact rn_load1 (by kernel_rfl) (by rfl) C2.2) HS.out ?_
        simp only [Nat.reduceAdd, Nat.zero_add, Act.put, List.setIfInBounds_toArray, List.set_cons_succ, List.set_cons_zero]
        refine WT.take 16 (v := _) (by simp only [List.getElem?_toArray, List.getElem?_cons_succ, List.getElem?_cons_zero]; rfl) (by kernel_rfl) (by exact fun _ _ _ h => h) (by rfl) (by rintro w ⟨C1, C2⟩; go_simp; with_reducible rfl) HS.out ?_
        simp only [Nat.reduceAdd, Nat.zero_add, Act.put, List.setIfInBounds_toArray, List.set_cons_succ, List.set_cons_zero]
        refine WT.take 18 (v := .slice a1 n1 c1) (by simp only [List.getElem?_toArray, List.getElem?_cons_succ, List.getElem?_cons_zero]; rfl) (by kernel_rfl) (by exact fun _ _ _ h => h) (by rfl) (by rintro w ⟨C1, C2⟩; exact rn_load1 (by kernel_rfl) (by rfl) C1) HS.out ?_
        simp only [Nat.reduceAdd, Nat.zero_add, Act.put, List.setIfInBounds_toArray, List.set_cons_succ, List.set_cons_zero]
        refine WT.take 19 (v := .string bl) (by simp only [List.getElem?_toArray, List.getElem?_cons_succ, List.getElem?_cons_zero]; rfl) (by kernel_rfl) (by exact fun _ _ _ h => h) (by rfl) (by rintro w ⟨C1, C2⟩; rw [← HBL.out]; exact rn_str Try.underlying31 Try.underlying5 Try.underlying9 (by rfl) C2.1 HN1.out.symm) HS.out ?_
        simp only [Nat.reduceAdd, Nat.zero_add, Act.put, List.setIfInBounds_toArray, List.set_cons_succ, List.set_cons_zero]
        refine WT.call 17 (by simp only [List.getElem?_toArray, List.getElem?_cons_succ, List.getElem?_cons_zero]; rfl) (by kernel_rfl) (by rfl) (by go_simp; first | done | rfl | exact ⟨⟨rfl, rfl⟩, rfl⟩ | exact ⟨⟨rfl, rfl, rfl⟩, rfl⟩) (lread (D4.out.nb (Keeps.refl Nb W4).drew) t9 (mnB_max HMN.out)) ?_
        rintro _ W5 ⟨rfl, k5⟩
        rw [HRD9.out]
        have K5 : Hid (Keeps Nb W4 W5) := (Keeps.refl Nb W4).drew.trans_nb k5
        have D5 := Lib.hid (D4.out.nb K5.out)
        replace HS : Hid ((fun u : World => u.cell? ⟨gb, 0, none⟩ = some (.slice a1 n1 c1) ∧ Has u a1 (bs.map fun x => Value.int .u8 (x : Nat)) ∧ u.cell? ⟨gc, 0, none⟩ = some (.pointer (some ⟨d9, 0, none⟩))) W5) := ⟨(cell_of_block (D5.out.k.nb HB.out)).trans rfl, HHas.out _ D5.out.k, (cell_of_block (K5.out.nb BC4.out)).trans rfl⟩
        clear k5 HSS
        refine ⟨_, rfl, HS.out, ?_⟩
        simp only [Nat.reduceAdd, Nat.zero_add, Act.put, List.setIfInBounds_toArray, List.set_cons_succ, List.set_cons_zero]
        refine WT.take 20 (v := .bool false) (by simp only [List.getElem?_toArray, List.getElem?_cons_succ, List.getElem?_cons_zero]; rfl) (by kernel_rfl) (by exact fun _ _ _ h => h) (by rfl) (by rintro w ⟨C1, C2⟩; go_simp; first | done | simp [str_bne]) HS.out ?_
        simp only [Nat.reduceAdd, Nat.zero_add, Act.put, List.setIfInBounds_toArray, List.set_cons_succ, List.set_cons_zero]
        refine WT.take 21 (v := .bool false) (by simp only [List.getElem?_toArray, List.getElem?_cons_succ, List.getElem?_cons_zero]; rfl) (by kernel_rfl) (by exact fun _ _ _ h => h) (by rfl) (by rintro w ⟨C1, C2⟩; go_simp) HS.out ?_
        simp only [Nat.reduceAdd, Nat.zero_add, Act.put, List.setIfInBounds_toArray, List.set_cons_succ, List.set_cons_zero]
        refine WT.stop (by kernel_rfl) (WP.done (by kernel_rfl) ?_)
        clear HS
        have BN5 := Lib.hid (K5.out.nb BN4.out)
        have cn : W5.cell? ⟨gn, 0, none⟩ = some (.int .i64 (0 : Nat)) := (cell_of_block BN5.out).trans rfl
        repeat (first | (with_reducible refine stop_region ?_) | (with_reducible refine stop_range ?_) | gi_step)
        refine at_out (regionIn_list (by kernel_rfl) (by rintro ⟨_, _, h⟩; exact h) ?_)
        go_wp2_with (first | go_skip | (with_reducible refine stop_load (t := 72) ?_) | (with_reducible refine stop_load (t := 61) ?_) | (with_reducible refine stop_alloc ?_) | (with_reducible refine stop_store ?_) | (with_reducible refine stop_makeMap ?_) | (with_reducible refine stop_rangem ?_) | (with_reducible refine stop_next ?_) | (with_reducible refine stop_entry ?_) | (with_reducible refine stop_buildSlice ?_) | (with_reducible refine stop_app ?_) | (with_reducible refine stop_mapUpdate ?_) | (with_reducible refine stop_lookup ?_) | (with_reducible refine stop_delete ?_) | (with_reducible refine stop_box ?_))
        refine at_out (wpList_skipE rfl (re_store (v := .int .i64 ((0 + 1 : Nat) : Int)) (n := 1) (by kernel_rfl) (by rfl) (by rfl) BN5.out (by rfl) (by simp [Value.cells]) (by simp [Value.cells, Value.oneCell'])) ?_)
        intro W6 s6
        simp only [Nat.reduceAdd, Nat.zero_add, Act.put, List.setIfInBounds_toArray, List.set_cons_succ, List.set_cons_zero]
        have hb6 : W6.heap[gn]? = some (.cells #[.int .i64 ((0 + 1 : Nat) : Int)] 3 (0, 0)) := s6.blk
        have kf : Keeps (fun b => (w14.heap.size ≤ b ∨ b = gn) ∧ ¬ Book w14 b) W3 W6 := ((K4.out.trans_nb K5.out).of_nb).trans s6.k (fun j _ e => ⟨.inr e, by have h1 : j = gn := e; subst h1; unfold Book; have := GNL.out; have := K14.out.size; omega⟩)
        clear s6 cn
        refine wpList_nil ?_
        exact ⟨kf, hb6, KW3.out.trans kf (fun j _ e => e.1)⟩
      case done =>
        rintro W ⟨hbn, hkW⟩ hD
        have BN : Hid (W.heap[gn]? = some (.cells #[.int .i64 (1 : Nat)] 3 (0, 0))) := hbn
        have KNW : Hid (Keeps Nb w11 W) := (K13.out.trans_nb K14.out).trans hkW (fun j hj e => by have := GN.out; have := K13.out.size; have := K14.out.size; omega)
        have BRW := Lib.hid ((D11.out.k.trans_nb KNW.out).nb HR.out)
        have HDf := Lib.hid hD
        have L14 := lt_of_block hD
        have cn : W.cell? ⟨gn, 0, none⟩ = some (.int .i64 (1 : Nat)) := (cell_of_block BN.out).trans rfl
        clear hbn hkW hD
        go_wp2_with fail
        refine (KN.out W).mono ?_; rintro e wk ⟨rfl, kk⟩
        have BK := Lib.hid (kk.nb BRW.out)
        have DK := Lib.hid (kk.nb HDf.out)
        have KK : Hid (Keeps Nb w wk) := K2.out.trans_nb ((D11.out.k.trans_nb KNW.out).trans_nb kk)
        clear kk cn
        go_wp2_with (first | go_skip | (with_reducible refine stop_load (t := 72) ?_) | (with_reducible refine stop_load (t := 61) ?_) | (with_reducible refine stop_alloc ?_) | (with_reducible refine stop_store ?_) | (with_reducible refine stop_makeMap ?_) | (with_reducible refine stop_rangem ?_) | (with_reducible refine stop_next ?_) | (with_reducible refine stop_entry ?_) | (with_reducible refine stop_buildSlice ?_) | (with_reducible refine stop_app ?_) | (with_reducible refine stop_mapUpdate ?_) | (with_reducible refine stop_lookup ?_) | (with_reducible refine stop_delete ?_) | (with_reducible refine stop_box ?_))
        refine at_out (wpList_skipE rfl (re_store (v := .bool true) (n := 1) (by kernel_rfl) (by rfl) (by rfl) BK.out (by rfl) (by simp [Value.cells]) (by simp [Value.cells, Value.oneCell'])) ?_)
        intro wl sl
        simp only [Nat.reduceAdd, Nat.zero_add, Act.put, List.setIfInBounds_toArray, List.set_cons_succ, List.set_cons_zero]
        have hgr : gr ≠ w14.heap.size := by have h1 := lt_of_block HR.out; have h2 := D11.out.k.size; have h3 := K13.out.size; have h4 := K14.out.size; omega
        have DL := Lib.hid (sl.k.at DK.out (fun e => hgr e.symm))
        have BL := Lib.hid sl.blk
        have KL : Hid (Keeps Nb w wl) := KK.out.trans sl.k (fun i hi e => by have : i = gr := e; have := GR.out; have := Z1.out; omega)
        clear sl
        go_wp2
        have kp := keeps_putObj wl w14.heap.size (.deferred none)
        have hc5 : (wl.putObj w14.heap.size (.deferred none)).cell? ⟨gr, 0, none⟩ = some (.bool true) := by rw [cell_of_block (kp.at BL.out hgr)]; rfl
        refine ⟨by simp, .inl ⟨_, _, rfl, run_takeDeferred DL.out, ?_⟩⟩
        refine ⟨.bool true, by simp [results, Try.f4, go_sem, hc5], rfl, ?_⟩
        have h5 : w.heap.size ≤ w14.heap.size := by have h1 := K2.out.size; have h2 := D11.out.k.size; have h3 := K13.out.size; have h4 := K14.out.size; omega
        exact (KL.out.trans kp (fun j hj e => by have : j = w14.heap.size := e; omega)).below
end Go.Proofs.Ytgpecnihjjnkeaa.vfsNames
