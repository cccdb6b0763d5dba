/- The walk of RecordSums: it returns true and writes nothing that was there. -/
import Derived.Test.YtffnaigkdocpmabRows2
import Derived.Deep.RegionHeld3
set_option linter.unusedVariables false
namespace Go.Proofs.Ytffnaigkdocpmab
open Go.RowKit Go.Lk Go.Crc

/-- The first k records, one behind the other. -/
def recs (h b : List (List Nat)) : Nat → List Nat
  | 0 => []
  | k + 1 => recs h b k ++ nrow h k ++ nrow b k
theorem recs_bytes {h b : List (List Nat)} (hh : ∀ l ∈ h, Bytes l) (hb : ∀ l ∈ b, Bytes l) : ∀ k, Bytes (recs h b k) := by
  have row : ∀ {ls : List (List Nat)} (i : Nat), (∀ l ∈ ls, Bytes l) → Bytes (nrow ls i) := fun {ls} i hl => by
    by_cases hi : i < ls.length
    · rw [nrow_eq hi]; exact hl _ (List.getElem_mem hi)
    · rw [show nrow ls i = [] by simp [nrow, List.getElem?_eq_none (show ls.length ≤ i by omega)]]; exact fun x hx => by simp at hx
  intro k
  induction k with
  | zero => exact fun x hx => by simp [recs] at hx
  | succ k ih => exact (ih.append (row k hh)).append (row k hb)

theorem mor_nil : mor 0 [] = 0 := by decide

theorem rows_two {w : World} {a a' : Option Addr} {c c' : Nat} {l l' : List Nat} {e' : TypeId} {fr : Nat × Nat} (hc : l.length ≤ c) (h : ReadsN .u8 w a l) (hc' : l'.length ≤ c') (h' : ReadsN .u8 w a' l') :
    RowsN (w.alloc (.cells #[.slice a l.length c, .slice a' l'.length c'] e' fr)) (some ⟨w.heap.size, 0, none⟩) [l, l'] := by
  refine .inr ⟨_, _, rfl, fun i hi => ?_⟩
  match i, hi with
  | 0, _ => exact ⟨a, c, by rw [cell_of_block (block_alloc _ _)]; rfl, hc, h.nb ((Keeps.refl Nb _).alloc _)⟩
  | 1, _ => exact ⟨a', c', by rw [cell_of_block (block_alloc _ _)]; rfl, hc', h'.nb ((Keeps.refl Nb _).alloc _)⟩

namespace recordSums
set_option maxRecDepth 100000 in
set_option maxHeartbeats 4000000 in
theorem walk {H : Type} {enc : TypeId × Value → H} {base : Nat} (w : World) {v0 : Value} {d0 : DataW H} {p0 : List MemPlace} (kv0 : Value.okWide Try.prog w .any base 22 v0) (k0 : DataW.Trod enc Try.prog w 0 (fun _ => true) true 22 v0 d0 p0) (sz0 : ∀ n ∈ d0.weights Try.prog 22, n ≤ reachBytes) {v1 : Value} {d1 : DataW H} {p1 : List MemPlace} (kv1 : Value.okWide Try.prog w .any base 22 v1) (k1 : DataW.Trod enc Try.prog w 0 (fun _ => true) true 22 v1 d1 p1) (sz1 : ∀ n ∈ d1.weights Try.prog 22, n ≤ reachBytes) :
    Calls Try.prog 3 #[v0, v1] w fun e w' => e = .returned (.bool true) ∧ Below w.heap.size w w' := by
  obtain ⟨ah, ch, hs, rfl, hch, hmh, hrh, hbh0⟩ := rows_of kv0 k0 sz0
  obtain ⟨ab, cb, bs, rfl, hcb, hmb, hrb, hbb0⟩ := rows_of kv1 k1 sz1
  clear kv0 k0 kv1 k1 sz0 sz1
  have hbh : ∀ l ∈ hs, Bytes l := fun l h => (hbh0 l h).1
  have hbb : ∀ l ∈ bs, Bytes l := fun l h => (hbb0 l h).1
  have RH := Lib.hid (fun l h => (hbh0 l h).2); have RBB := Lib.hid (fun l h => (hbb0 l h).2)
  clear hbh0 hbb0
  unfold maxLen at hmh hmb
  have CK := Lib.hid (fun (u : World) => known_at u)
  by_cases c1 : 20 < hs.length
  · go_enter Try.func3, Try.ntmps3
    go_wp2_with fail
    refine (CK.out _).mono ?_; rintro e w1 ⟨rfl, K⟩
    go_wp2; go_ret; exact ⟨rfl, K.below⟩
  by_cases c2 : bs.length = hs.length
  · have c2' : ((bs.length : Int) != (hs.length : Int)) = false := by rw [bne_eq_false_iff_eq]; omega
    have BL := Lib.hid c2; clear c2
    have c1' : hs.length ≤ 20 := by omega
    clear c1
    have HR := Lib.hid hrh; have BR := Lib.hid hrb; clear hrh hrb
    have RB := Lib.hid (recs_bytes hbh hbb)
    go_enter Try.func3, Try.ntmps3
    go_wp2
    go_loopw [6, 7, 8] (fun v s i wr => ∃ k : Nat, k ≤ hs.length ∧ i = .int .i64 k ∧ s = .int .u32 (mor 0 (recs hs bs k) : Nat) ∧ (recs hs bs k).length ≤ 20000 ∧ wr.ownsRow w.heap.size 5 1 v (recs hs bs k).length ((recs hs bs k).map fun x => .int .u8 (x : Nat)) ∧ Keeps Nb w wr) (fun _ _ i _ => hs.length - (intOf i).toNat)
    case atStart => exact ⟨0, by omega, rfl, val_int (by rw [show recs hs bs 0 = [] from rfl, mor_nil]; rfl), by simp [recs], World.ownsRow_nil _ _ _ _, Keeps.refl _ _⟩
    case round =>
      obtain ⟨k, hk, rfl, rfl, hlen, hown, K⟩ := hrel
      by_cases hlt : k < hs.length
      · rcases HR.out with rfl | ⟨b1, o1, rfl, hc1⟩
        · simp at hlt
        rcases BR.out with rfl | ⟨b2, o2, rfl, hc2⟩
        · have := BL.out; simp at this; omega
        obtain ⟨x1, q1, g1w, g2, g3⟩ := hc1 k hlt
        obtain ⟨x2, q2, f1w, f2, f3⟩ := hc2 k (by rw [BL.out]; exact hlt)
        have CG := Lib.hid (fun (u : World) (h : Keeps Nb w u) => (h.cell (p := ⟨b1, o1 + k, none⟩) (lt_of_cell g1w) (fun e => e)).trans g1w)
        have CF := Lib.hid (fun (u : World) (h : Keeps Nb w u) => (h.cell (p := ⟨b2, o2 + k, none⟩) (lt_of_cell f1w) (fun e => e)).trans f1w)
        have g1 := CG.out wr K
        have f1 := CF.out wr K
        clear g1w f1w
        have hkb : (k : Int) < bs.length := by have := BL.out; omega
        have hB1 : Bytes (nrow hs k) := hbh _ (by rw [nrow_eq hlt]; exact List.getElem_mem hlt)
        have hB2 : Bytes (nrow bs k) := hbb _ (by rw [nrow_eq (by rw [BL.out]; exact hlt)]; exact List.getElem_mem _)
        have hz1 := RH.out _ (by rw [nrow_eq hlt]; exact List.getElem_mem hlt : nrow hs k ∈ hs)
        have hz2 := RBB.out _ (by rw [nrow_eq (by rw [BL.out]; exact hlt)]; exact List.getElem_mem _ : nrow bs k ∈ bs)
        have REC : Hid (recs hs bs (k + 1) = recs hs bs k ++ nrow hs k ++ nrow bs k) := rfl
        have hRB := RB.out k
        clear hc1 hc2
        have G3 := Lib.hid g3; have F3 := Lib.hid f3; clear g3 f3
        generalize recs hs bs k = all at *
        generalize nrow hs k = hd at *
        generalize nrow bs k = bd at *
        obtain ⟨va, ca, rfl, -, hca, hcam, hra⟩ := owns_readsN hown
        unfold maxLen at hcam
        have HO := Lib.hid hown; have RA := Lib.hid hra; clear hown hra
        go_wp2
        go_quiet (fail)
        by_cases hbig : 20000 < all.length + hd.length + bd.length
        · have hbig' : (20000 : Int) < (all.length : Int) + hd.length + bd.length := by omega
          go_wp2_with fail
          refine (CK.out _).mono ?_; rintro e w1 ⟨rfl, K1⟩
          go_wp2; go_ret; exact ⟨rfl, ((K.drewN _).trans_nb K1).below⟩
        have hlen2 : (all ++ hd ++ bd).length ≤ 20000 := by simp; omega
        have hlen' : ¬ ((20000 : Int) < (all.length : Int) + hd.length + bd.length) := by omega
        have HL2 := Lib.hid hlen2; clear hlen2
        have hd1 : Drew wr (wr.drewN nq) := ⟨nq, rfl⟩
        replace RA := Lib.hid (RA.out.drew hd1)
        replace HO := Lib.hid (owns_keeps HO.out (hd1.keeps (S := Nb)) (fun _ _ e => e))
        replace g1 := (hd1.cell _).trans g1
        replace f1 := (hd1.cell _).trans f1
        replace K := K.trans_nb hd1.keeps
        clear hd1
        generalize wr.drewN nq = w2 at *
        have hzl1 : hd.length ≤ 20000 := by omega
        have hzl2 : bd.length ≤ 20000 := by omega
        have hzl3 : all.length + hd.length ≤ 20000 := by omega
        clear hbig
        -- all
        have K2 := K.drew
        have HK3 := Lib.hid (fun (u : World) (h : w2.drew.grownBy u (Value.slice va all.length ca).ownBlock) => (K2.grown h (fun k h1 hk => absurd hk (by have := (HO.out.lt k h1).1; omega)) : Keeps Nb w u))
        have HK4 : Hid (∀ (u : World) (v : Value) (u' : World), Keeps Nb w u → u.ownsRow w.heap.size 5 1 v (all.length + hd.length) (all.map (fun x => Value.int .u8 (x : Nat)) ++ hd.map fun x => .int .u8 (x : Nat)) → u.grownBy u' v.ownBlock → Keeps Nb w u') :=
          fun u v u' h1 h2 h3 => h1.grown h3 (fun k h1 hk => absurd hk (by have := (h2.lt k h1).1; omega))
        have hS1 := (G3.out.nb K2).has
        have hown2 : w2.drew.ownsRow w.heap.size 5 1 (.slice va all.length ca) all.length (all.map fun x => .int .u8 (x : Nat)) := HO.out
        have hbs2 : w.heap.size ≤ w2.drew.heap.size := K2.size
        go_wp2
        go_region_held3 (fun u => u.cell? ⟨b1, o1 + k, none⟩ = some (.slice x1 hd.length q1) ∧ u.cell? ⟨b2, o2 + k, none⟩ = some (.slice x2 bd.length q2))
          (first | exact ⟨CG.out _ K2, CF.out _ K2⟩ | exact ⟨CG.out _ K3, CF.out _ K3⟩ | exact ⟨CG.out _ K4, CF.out _ K4⟩)
          (first
          | (refine step_app el24 w.heap.size all.length (all.map fun x => .int .u8 (x : Nat)) (hd.map fun x => .int .u8 (x : Nat)) hown2 rfl (.tmp 42) (.tmp 46) rfl rfl rfl hS1 (by simp) one_nats (by unfold maxLen; omega) (by omega) hbs2 ?_
             intro v3 w3 hown3 hg3 hn3
             have K3 := HK3.out w3 hg3
             have hS2 := (F3.out.nb K3).has
             have hbs3 : w.heap.size ≤ w3.heap.size := K3.size)
          | (refine step_app el24 w.heap.size (all.length + hd.length) _ (bd.map fun x => .int .u8 (x : Nat)) hown3 rfl (.tmp 47) (.tmp 51) rfl rfl rfl hS2 (by simp) one_nats (by unfold maxLen; omega) (by omega) hbs3 ?_
             intro v4 w4 hown4 hg4 hn4
             have K4 := HK4.out w3 v3 w4 K3 hown3 hg4))
        have hown5 : w4.ownsRow w.heap.size 5 1 v4 (all ++ hd ++ bd).length ((all ++ hd ++ bd).map fun x => .int .u8 (x : Nat)) := by
          rw [List.map_append, List.map_append, List.length_append, List.length_append]; exact hown4
        clear hown4 hn4 hg4 hown3 hn3 hg3 hS2 hbs3 hown2 hS1 hbs2 HO RA HK3 HK4 K3 K2 K g1 f1
        -- one
        obtain ⟨a5, c5, rfl, -, hc5, hm5, hr5⟩ := owns_readsN hown5
        unfold maxLen at hm5
        have HO5 := Lib.hid hown5; have R5 := Lib.hid hr5; clear hown5 hr5
        have g1 := CG.out _ K4
        have f1 := CF.out _ K4
        have Kd := (Keeps.refl Nb w4).drew
        have HK6 := Lib.hid (fun (u : World) (h : w4.drew.grownBy u (Value.slice none 0 0).ownBlock) => (Kd.grown h (fun k h1 hk => by cases h1) : Keeps Nb w4 u))
        have HK7 : Hid (∀ (u : World) (v : Value) (u' : World), Keeps Nb w4 u → u.ownsRow w4.heap.size 5 1 v (0 + hd.length) ([] ++ hd.map fun x => .int .u8 (x : Nat)) → u.grownBy u' v.ownBlock → Keeps Nb w4 u') :=
          fun u v u' h1 h2 h3 => h1.grown h3 (fun k h1 hk => absurd hk (by have := (h2.lt k h1).1; omega))
        have hS1 := (G3.out.nb (K4.trans_nb Kd)).has
        have hown6 : w4.drew.ownsRow w4.heap.size 5 1 (.slice none 0 0) 0 [] := World.ownsRow_nil _ _ _ _
        have hbs6 : w4.heap.size ≤ w4.drew.heap.size := Kd.size
        have KD := Lib.hid (K4.trans_nb Kd)
        go_wp2
        go_region_held3 (fun u => u.cell? ⟨b1, o1 + k, none⟩ = some (.slice x1 hd.length q1) ∧ u.cell? ⟨b2, o2 + k, none⟩ = some (.slice x2 bd.length q2))
          (first | exact ⟨CG.out _ KD.out, CF.out _ KD.out⟩ | exact ⟨CG.out _ (K4.trans_nb K6), CF.out _ (K4.trans_nb K6)⟩ | exact ⟨CG.out _ (K4.trans_nb K7), CF.out _ (K4.trans_nb K7)⟩)
          (first
          | (refine step_app el24 w4.heap.size 0 [] (hd.map fun x => .int .u8 (x : Nat)) hown6 rfl (.const (.slice none 0 0)) (.tmp 56) rfl rfl rfl hS1 (by simp) one_nats (by unfold maxLen; omega) (by omega) hbs6 ?_
             intro v6 w6 hown7 hg6 hn6
             have K6 := HK6.out w6 hg6
             have hS2 := (F3.out.nb (K4.trans_nb K6)).has
             have hbs7 : w4.heap.size ≤ w6.heap.size := K6.size)
          | (refine step_app el24 w4.heap.size (0 + hd.length) _ (bd.map fun x => .int .u8 (x : Nat)) hown7 rfl (.tmp 57) (.tmp 61) rfl rfl rfl hS2 (by simp) one_nats (by unfold maxLen; omega) (by omega) hbs7 ?_
             intro v7 w7 hown8 hg7 hn7
             have K7 := HK7.out w6 v6 w7 K6 hown7 hg7))
        have hown9 : w7.ownsRow w4.heap.size 5 1 v7 (hd ++ bd).length ((hd ++ bd).map fun x => .int .u8 (x : Nat)) := by
          rw [List.map_append, List.length_append]
          simpa using hown8
        obtain ⟨a7, c7, rfl, -, hc7, hm7, hr7⟩ := owns_readsN hown9
        unfold maxLen at hm7
        replace HO5 := Lib.hid (owns_keeps HO5.out K7 (fun _ _ e => e))
        replace R5 := Lib.hid (R5.out.nb K7)
        have K8 := K4.trans_nb K7
        have HR7 := Lib.hid hr7
        clear hown8 hn7 hg7 hown7 hn6 hg6 hS2 hbs7 hown6 hS1 hbs6 HK6 HK7 K6 K7 Kd KD K4 g1 f1 hown9 hr7
        have g1 := CG.out _ K8
        have f1 := CF.out _ K8
        -- the record's sum
        have KA := Lib.hid ((Keeps.refl Nb w7).alloc (.cells #[.slice x1 hd.length q1, .slice x2 bd.length q2] 24)).drew
        have hb12 := hB1.append hB2
        have C9 := sum_at 2 2 (some ⟨w7.heap.size, 0, none⟩) [hd, bd] (w7.alloc (.cells #[.slice x1 hd.length q1, .slice x2 bd.length q2] 24)).drew rfl
          ((rows_two g2 (G3.out.nb K8) f2 (F3.out.nb K8)).nb ((Keeps.refl Nb _).drew)) (by intro l hl; simp at hl; rcases hl with rfl | rfl; exact hB1; exact hB2) (by simp) (by intro l hl; simp at hl; rcases hl with rfl | rfl <;> omega)
        rw [show [hd, bd].flatten = hd ++ bd by simp] at C9
        replace C9 := Lib.hid C9
        have C10 := Lib.hid (fun (u : World) (h : Keeps Nb w7 u) => refsum_at (hd.length + bd.length) c7 a7 (hd ++ bd) u (by simp) (HR7.out.nb h) hb12 (by simp; omega))
        have hlen12 : (hd ++ bd).length = hd.length + bd.length := by simp
        generalize hd ++ bd = one at *
        generalize hxm : mor 0 one = xm at *
        have HXM := Lib.hid hxm; clear hxm
        have t1 : ((xm : Int) != xm) = false := by simp
        have K7d := (Keeps.refl Nb w7).drew
        have KD7 := Lib.hid (K8.trans_nb K7d)
        have KAD := Lib.hid (K8.trans_nb KA.out)
        clear K7d
        go_wp2
        go_region_held3 (fun u => u.cell? ⟨b1, o1 + k, none⟩ = some (.slice x1 hd.length q1) ∧ u.cell? ⟨b2, o2 + k, none⟩ = some (.slice x2 bd.length q2))
          (first | exact ⟨CG.out _ KD7.out, CF.out _ KD7.out⟩ | exact ⟨CG.out _ KAD.out, CF.out _ KAD.out⟩ | exact ⟨CG.out _ (K8.trans_nb K9), CF.out _ (K8.trans_nb K9)⟩)
          (first
          | (go_at_call 9; refine C9.out.mono ?_; rintro e w9 ⟨rfl, K9⟩; replace K9 := KA.out.trans_nb K9)
          | (go_at_call 10; refine (C10.out _ K9).mono ?_; rintro e w' ⟨rfl, rfl⟩))
        -- the running sum
        have K10 := K8.trans_nb K9
        replace HO5 := Lib.hid (owns_keeps HO5.out K9 (fun _ _ e => e))
        replace R5 := Lib.hid (R5.out.nb K9)
        clear C9 C10 HR7 KA KD7 KAD K9 K8 g1 f1 t1 hlen12 hb12 HXM
        have s1 := mor_lt 0 all
        have C1 := Lib.hid (fun (u : World) (h : Keeps Nb w9 u) => more_at (mor 0 all) hd.length q1 x1 hd u (mor_lt 0 all) rfl (G3.out.nb (K10.trans_nb h)) hB1 (by omega))
        have C2 := Lib.hid (fun (u : World) (h : Keeps Nb w9 u) => more_at (mor (mor 0 all) hd) bd.length q2 x2 bd u (mor_lt _ _) rfl (F3.out.nb (K10.trans_nb h)) hB2 (by omega))
        have hsum : mor (mor (mor 0 all) hd) bd = mor 0 (all ++ hd ++ bd) := by rw [mor_append (hRB.append hB1), mor_append hRB]
        rw [hsum] at C2
        have g1 : ∀ u : Sub w9, u.wd.cell? ⟨b1, o1 + k, none⟩ = some (.slice x1 hd.length q1) := fun u => CG.out _ (K10.trans_nb u.k)
        have f1 : ∀ u : Sub w9, u.wd.cell? ⟨b2, o2 + k, none⟩ = some (.slice x2 bd.length q2) := fun u => CF.out _ (K10.trans_nb u.k)
        have hall : Bytes (all ++ hd ++ bd) := (hRB.append hB1).append hB2
        clear hsum
        have C3 := Lib.hid (fun (u : World) (h : Keeps Nb w9 u) => refsum_at (all.length + (hd.length + bd.length)) c5 a5 (all ++ hd ++ bd) u (by simp) (R5.out.nb h) hall (by simp; omega))
        have C4 := Lib.hid (fun (u : World) (h : RowsN (u.alloc (.cells #[.slice a5 (all.length + (hd.length + bd.length)) c5] 24)) (some ⟨u.heap.size, 0, none⟩) [all ++ hd ++ bd]) => sum_at 1 1 (some ⟨u.heap.size, 0, none⟩) [all ++ hd ++ bd] _ rfl h (by intro x hx; simp at hx; subst hx; simpa using hall) (by simp) (by intro l hl; simp at hl; subst hl; simp; omega))
        rw [one_flat] at C4
        have hcc : all.length + (hd.length + bd.length) ≤ c5 := by simp at hc5; omega
        have hln : all.length + (hd.length + bd.length) = (all ++ hd ++ bd).length := by simp
        have HLN := Lib.hid hln; clear hln
        have hc5' := Lib.hid hc5; clear hc5
        go_wp2
        generalize mor (mor 0 all) hd = y1 at *
        generalize all ++ hd ++ bd = all2 at *
        have t1 : (((mor 0 all2 : Nat) : Int) != ((mor 0 all2 : Nat) : Int)) = false := by simp
        generalize hxm : mor 0 all2 = xm at *
        have HXM := Lib.hid hxm; clear hxm
        refine region_sub (by kernel_rfl) (by kernel_rfl) ?_
        repeat (go_big_quiet_step ((first | (go_at_call 11; with_reducible exact quiet_sub (C1.out _ (Sub.k _))) | (go_at_call 11; with_reducible exact quiet_sub (C2.out _ (Sub.k _))))))
        refine wpQuiet_nil ?_
        rintro w10 ⟨u10, hu10⟩
        have K11 : Keeps Nb w9 w10 := hu10 ▸ u10.k
        clear hu10 u10 g1 f1 C1 C2
        replace R5 := Lib.hid (R5.out.nb K11)
        go_wp2_with fail
        refine (C3.out _ K11).mono ?_; rintro e w' ⟨rfl, rfl⟩
        go_wp2_with fail
        refine (C4.out _ (row_one HLN.out hcc R5.out)).mono ?_; rintro e w12 ⟨rfl, K12⟩
        have K13 := K11.trans_nb (((Keeps.refl Nb w10).alloc (.cells #[.slice a5 (all.length + (hd.length + bd.length)) c5] 24)).trans_nb K12)
        go_wp2
        go_roundw
        case rel => exact ⟨k + 1, by omega, by go_num, val_int (by rw [REC.out, HXM.out]), by rw [REC.out]; exact HL2.out, by rw [REC.out, ← HLN.out]; have := owns_keeps HO5.out K13 (fun _ _ e => e); rwa [← HLN.out] at this, K10.trans_nb K13⟩
        case measure => simp [intOf]; omega
      · go_wp2_with fail
        refine (CK.out _).mono ?_; rintro e w1 ⟨rfl, K1⟩
        go_wp2; go_ret; exact ⟨rfl, (K.trans_nb K1).below⟩
  · have c2' : ((bs.length : Int) != (hs.length : Int)) = true := by rw [bne_iff_ne]; omega
    clear c2
    go_enter Try.func3, Try.ntmps3
    go_wp2_with fail
    refine (CK.out _).mono ?_; rintro e w1 ⟨rfl, K⟩
    go_wp2; go_ret; exact ⟨rfl, K.below⟩
end recordSums
end Go.Proofs.Ytffnaigkdocpmab
