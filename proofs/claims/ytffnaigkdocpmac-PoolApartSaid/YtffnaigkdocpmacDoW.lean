/- 'do' of the law: it puts a list's votes into both, and finds the two alike. -/
import Derived.Test.YtffnaigkdocpmacDuo
set_option linter.unusedVariables false
set_option linter.unusedSimpArgs false
namespace Go.Proofs.Ytffnaigkdocpmac
open Go.RowKit Go.Lk Go.Pool

set_option maxRecDepth 100000 in
set_option maxHeartbeats 2000000 in
theorem do_at (p q : Nat) (F R Q Rl : Nat → Prop) (cs l : List Ct) (a : Option Addr) (cp : Nat) (w : World) (h : DuoAt w p q F R Q cs cs) (hl : ListAt w Rl a l.length cp l) (hok : ∀ c ∈ l, c.Ok) (hRl : ∀ k, Rl k → ¬ (F k ∨ k = q)) (hn : cs.length + l.length ≤ 1000) :
    Calls Try.prog 17 #[.pointer (some ⟨p, 0, none⟩), .pointer (some ⟨q, 0, none⟩), .slice a l.length cp] w fun e w' => e = .returned (.bool true) ∧ DuoR w w' p q F R (fun k => Q k ∨ Rl k) (all cs l) (all cs l) := by
  have hc1 := hl.2.1
  have hc2 := hl.2.2.1
  unfold maxLen at hc2
  have hR2 : ∀ k, Rl k → ¬ (F k ∨ k = q) ∧ k < w.heap.size := fun k hk => ⟨hRl k hk, hl.2.2.2.1 k hk⟩
  obtain ⟨b, off, ha, hv⟩ := votes_at' hl hok
  have HA := Lib.hid ha; have HV := Lib.hid hv; have HOK := Lib.hid hok; have HR := Lib.hid hR2
  have D0 : Hid (DuoR w w p q F R (fun k => Q k ∨ Rl k) cs cs) := ⟨F, R, Q, h, fun k h => .inl h, fun k h => .inl h, fun k h => .inl (.inl h), Keeps.refl _ _⟩
  clear ha hv hok hR2 hRl hl h
  go_enter Try.func17, Try.ntmps17
  go_wp2_with fail
  go_loopw [7] (fun i wr => ∃ k : Nat, k ≤ l.length ∧ i = .int .i64 k ∧ DuoR w wr p q F R (fun k => Q k ∨ Rl k) (all cs (l.take k)) (all cs (l.take k))) (fun i _ => l.length - (intOf i).toNat)
  case atStart => exact ⟨0, Nat.zero_le _, rfl, D0.out⟩
  case round =>
    clear D0
    obtain ⟨k, hk, rfl, hD⟩ := hrel
    by_cases hlt : k < l.length
    · have i1 : (k : Int) < (l.length : Int) := by omega
      have hne : l ≠ [] := by rintro rfl; simp at hlt
      have ha := (HA.out hne).1
      have hb := (HA.out hne).2
      subst ha
      obtain ⟨s1, hv1⟩ := HV.out k l[k] (List.getElem?_eq_getElem hlt)
      have ok1 := HOK.out l[k] (List.getElem_mem hlt)
      have htk : all cs (l.take (k + 1)) = addTo (all cs (l.take k)) l[k] := by rw [List.take_succ_eq_append_getElem hlt, all_snoc]
      have HTK := Lib.hid htk; clear htk
      have hA : (all cs (l.take k)).length < 1000 := by have := all_len (l.take k) cs; rw [List.length_take] at this; omega
      generalize all cs (l.take k) = A at *
      generalize l[k] = c at *
      have hst1 := ok1.stake
      have lk1 : (valsK HK c.key).length = 32 := by rw [valsK_length ok1.key.length]; rfl
      have lv1 := vc_len ok1 s1
      have VV := Lib.hid (fun (u : World) (h : Keeps (fun k => F k ∨ k = q) w u) => hv1.keeps h (fun k hk => (HR.out k hk).1) hb)
      have OK1 := Lib.hid ok1; have HD := Lib.hid hD
      have V0 := VV.out _ hD.k
      obtain ⟨F', R', Q', hd, -⟩ := hD
      have V1 := Lib.hid (fun u : Sub wr => V0.nb u.k)
      have C1 := fun u : Sub wr => (V1.out u).stake
      have CK := Lib.hid (fun u : Sub wr => check_at p F' R' Rl A c s1 u.wd (hd.pool.nb u.k) OK1.out (V1.out u).sig)
      have RK := Lib.hid (fun u : Sub wr => refCheck_at q Q' Rl A c s1 u.wd (hd.ref.nb u.k) OK1.out (V1.out u).sig)
      have t1 : (((chk A c : Nat) : Int) != ((chk A c : Nat) : Int)) = false := by simp
      have t2 : (((told A c : Nat) : Int) != ((told A c : Nat) : Int)) = false := by simp
      clear hv1 ok1 V0 hd hb
      go_wp2_with fail
      refine region_sub (by kernel_rfl) (by kernel_rfl) ?_
      repeat (first | go_big_quiet_skip | (with_reducible refine stopq (op := .load 27 _) ?_) | (with_reducible refine stopq (op := .load 28 _) ?_) | (with_reducible refine stopq (op := .load 30 _) ?_) | (with_reducible refine stopq (op := .load 33 _) ?_) | (with_reducible refine stopq (op := .load 35 _) ?_) | (with_reducible refine stopq (op := .load 40 _) ?_) | (with_reducible refine stopq (op := .load 76 _) ?_) | (with_reducible refine stopq (op := .load 77 _) ?_) | (with_reducible refine stopq (op := .build 27 _) ?_) | (with_reducible refine stopq (op := .build 28 _) ?_) | (with_reducible refine stopq (op := .build 30 _) ?_) | (with_reducible refine stopq (op := .build 33 _) ?_) | (with_reducible refine stopq (op := .build 35 _) ?_) | (with_reducible refine stopq (op := .build 40 _) ?_) | (with_reducible refine stopq (op := .build 76 _) ?_) | (with_reducible refine stopq (op := .build 77 _) ?_) | (with_reducible refine stopq (op := .lookup _ _ _ _) ?_) | (with_reducible refine stopq (op := .binOp .eql 28 _ _ _) ?_) | (with_reducible refine stopq (op := .binOp .eql 40 _ _ _) ?_) | (with_reducible refine stopq (op := .binOp .neq 28 _ _ _) ?_) | (with_reducible refine stopq (op := .binOp .neq 40 _ _ _) ?_) | go_big_quiet_step (fail))
      refine at_out (wpq_val (v := .agg (vc c s1).toArray) rfl (by rintro _ ⟨u, rfl⟩; exact rn_loadH aggV (by rfl) (V1.out u).vote lv1) ?_)
      simp only [Nat.reduceAdd, Nat.zero_add, Act.put, List.setIfInBounds_toArray, List.set_cons_succ, List.set_cons_zero]
      repeat (first | go_big_quiet_skip | (with_reducible refine stopq (op := .load 27 _) ?_) | (with_reducible refine stopq (op := .load 28 _) ?_) | (with_reducible refine stopq (op := .load 30 _) ?_) | (with_reducible refine stopq (op := .load 33 _) ?_) | (with_reducible refine stopq (op := .load 35 _) ?_) | (with_reducible refine stopq (op := .load 40 _) ?_) | (with_reducible refine stopq (op := .load 76 _) ?_) | (with_reducible refine stopq (op := .load 77 _) ?_) | (with_reducible refine stopq (op := .build 27 _) ?_) | (with_reducible refine stopq (op := .build 28 _) ?_) | (with_reducible refine stopq (op := .build 30 _) ?_) | (with_reducible refine stopq (op := .build 33 _) ?_) | (with_reducible refine stopq (op := .build 35 _) ?_) | (with_reducible refine stopq (op := .build 40 _) ?_) | (with_reducible refine stopq (op := .build 76 _) ?_) | (with_reducible refine stopq (op := .build 77 _) ?_) | (with_reducible refine stopq (op := .lookup _ _ _ _) ?_) | (with_reducible refine stopq (op := .binOp .eql 28 _ _ _) ?_) | (with_reducible refine stopq (op := .binOp .eql 40 _ _ _) ?_) | (with_reducible refine stopq (op := .binOp .neq 28 _ _ _) ?_) | (with_reducible refine stopq (op := .binOp .neq 40 _ _ _) ?_) | go_big_quiet_step (fail))
      refine at_out (wpq_val (v := kv HK c.key) rfl (by rintro _ ⟨u, rfl⟩; exact rn_loadH aggH (by rfl) (V1.out u).key lk1) ?_)
      simp only [Nat.reduceAdd, Nat.zero_add, Act.put, List.setIfInBounds_toArray, List.set_cons_succ, List.set_cons_zero]
      repeat (first | go_big_quiet_skip | (with_reducible refine stopq (op := .load 27 _) ?_) | (with_reducible refine stopq (op := .load 28 _) ?_) | (with_reducible refine stopq (op := .load 30 _) ?_) | (with_reducible refine stopq (op := .load 33 _) ?_) | (with_reducible refine stopq (op := .load 35 _) ?_) | (with_reducible refine stopq (op := .load 40 _) ?_) | (with_reducible refine stopq (op := .load 76 _) ?_) | (with_reducible refine stopq (op := .load 77 _) ?_) | (with_reducible refine stopq (op := .build 27 _) ?_) | (with_reducible refine stopq (op := .build 28 _) ?_) | (with_reducible refine stopq (op := .build 30 _) ?_) | (with_reducible refine stopq (op := .build 33 _) ?_) | (with_reducible refine stopq (op := .build 35 _) ?_) | (with_reducible refine stopq (op := .build 40 _) ?_) | (with_reducible refine stopq (op := .build 76 _) ?_) | (with_reducible refine stopq (op := .build 77 _) ?_) | (with_reducible refine stopq (op := .lookup _ _ _ _) ?_) | (with_reducible refine stopq (op := .binOp .eql 28 _ _ _) ?_) | (with_reducible refine stopq (op := .binOp .eql 40 _ _ _) ?_) | (with_reducible refine stopq (op := .binOp .neq 28 _ _ _) ?_) | (with_reducible refine stopq (op := .binOp .neq 40 _ _ _) ?_) | go_big_quiet_step (fail))
      go_big_quiet_step ((go_at_call 24; with_reducible exact quiet_sub (CK.out _)))
      repeat (first | go_big_quiet_skip | (with_reducible refine stopq (op := .load 27 _) ?_) | (with_reducible refine stopq (op := .load 28 _) ?_) | (with_reducible refine stopq (op := .load 30 _) ?_) | (with_reducible refine stopq (op := .load 33 _) ?_) | (with_reducible refine stopq (op := .load 35 _) ?_) | (with_reducible refine stopq (op := .load 40 _) ?_) | (with_reducible refine stopq (op := .load 76 _) ?_) | (with_reducible refine stopq (op := .load 77 _) ?_) | (with_reducible refine stopq (op := .build 27 _) ?_) | (with_reducible refine stopq (op := .build 28 _) ?_) | (with_reducible refine stopq (op := .build 30 _) ?_) | (with_reducible refine stopq (op := .build 33 _) ?_) | (with_reducible refine stopq (op := .build 35 _) ?_) | (with_reducible refine stopq (op := .build 40 _) ?_) | (with_reducible refine stopq (op := .build 76 _) ?_) | (with_reducible refine stopq (op := .build 77 _) ?_) | (with_reducible refine stopq (op := .lookup _ _ _ _) ?_) | (with_reducible refine stopq (op := .binOp .eql 28 _ _ _) ?_) | (with_reducible refine stopq (op := .binOp .eql 40 _ _ _) ?_) | (with_reducible refine stopq (op := .binOp .neq 28 _ _ _) ?_) | (with_reducible refine stopq (op := .binOp .neq 40 _ _ _) ?_) | go_big_quiet_step (fail))
      refine at_out (wpq_val (v := .agg (vc c s1).toArray) rfl (by rintro _ ⟨u, rfl⟩; exact rn_loadH aggV (by rfl) (V1.out u).vote lv1) ?_)
      simp only [Nat.reduceAdd, Nat.zero_add, Act.put, List.setIfInBounds_toArray, List.set_cons_succ, List.set_cons_zero]
      repeat (first | go_big_quiet_skip | (with_reducible refine stopq (op := .load 27 _) ?_) | (with_reducible refine stopq (op := .load 28 _) ?_) | (with_reducible refine stopq (op := .load 30 _) ?_) | (with_reducible refine stopq (op := .load 33 _) ?_) | (with_reducible refine stopq (op := .load 35 _) ?_) | (with_reducible refine stopq (op := .load 40 _) ?_) | (with_reducible refine stopq (op := .load 76 _) ?_) | (with_reducible refine stopq (op := .load 77 _) ?_) | (with_reducible refine stopq (op := .build 27 _) ?_) | (with_reducible refine stopq (op := .build 28 _) ?_) | (with_reducible refine stopq (op := .build 30 _) ?_) | (with_reducible refine stopq (op := .build 33 _) ?_) | (with_reducible refine stopq (op := .build 35 _) ?_) | (with_reducible refine stopq (op := .build 40 _) ?_) | (with_reducible refine stopq (op := .build 76 _) ?_) | (with_reducible refine stopq (op := .build 77 _) ?_) | (with_reducible refine stopq (op := .lookup _ _ _ _) ?_) | (with_reducible refine stopq (op := .binOp .eql 28 _ _ _) ?_) | (with_reducible refine stopq (op := .binOp .eql 40 _ _ _) ?_) | (with_reducible refine stopq (op := .binOp .neq 28 _ _ _) ?_) | (with_reducible refine stopq (op := .binOp .neq 40 _ _ _) ?_) | go_big_quiet_step (fail))
      refine at_out (wpq_val (v := kv HK c.key) rfl (by rintro _ ⟨u, rfl⟩; exact rn_loadH aggH (by rfl) (V1.out u).key lk1) ?_)
      simp only [Nat.reduceAdd, Nat.zero_add, Act.put, List.setIfInBounds_toArray, List.set_cons_succ, List.set_cons_zero]
      repeat (first | go_big_quiet_skip | (with_reducible refine stopq (op := .load 27 _) ?_) | (with_reducible refine stopq (op := .load 28 _) ?_) | (with_reducible refine stopq (op := .load 30 _) ?_) | (with_reducible refine stopq (op := .load 33 _) ?_) | (with_reducible refine stopq (op := .load 35 _) ?_) | (with_reducible refine stopq (op := .load 40 _) ?_) | (with_reducible refine stopq (op := .load 76 _) ?_) | (with_reducible refine stopq (op := .load 77 _) ?_) | (with_reducible refine stopq (op := .build 27 _) ?_) | (with_reducible refine stopq (op := .build 28 _) ?_) | (with_reducible refine stopq (op := .build 30 _) ?_) | (with_reducible refine stopq (op := .build 33 _) ?_) | (with_reducible refine stopq (op := .build 35 _) ?_) | (with_reducible refine stopq (op := .build 40 _) ?_) | (with_reducible refine stopq (op := .build 76 _) ?_) | (with_reducible refine stopq (op := .build 77 _) ?_) | (with_reducible refine stopq (op := .lookup _ _ _ _) ?_) | (with_reducible refine stopq (op := .binOp .eql 28 _ _ _) ?_) | (with_reducible refine stopq (op := .binOp .eql 40 _ _ _) ?_) | (with_reducible refine stopq (op := .binOp .neq 28 _ _ _) ?_) | (with_reducible refine stopq (op := .binOp .neq 40 _ _ _) ?_) | go_big_quiet_step (fail))
      go_big_quiet_step ((go_at_call 28; with_reducible exact quiet_sub (RK.out _)))
      repeat (first | go_big_quiet_skip | (with_reducible refine stopq (op := .load 27 _) ?_) | (with_reducible refine stopq (op := .load 28 _) ?_) | (with_reducible refine stopq (op := .load 30 _) ?_) | (with_reducible refine stopq (op := .load 33 _) ?_) | (with_reducible refine stopq (op := .load 35 _) ?_) | (with_reducible refine stopq (op := .load 40 _) ?_) | (with_reducible refine stopq (op := .load 76 _) ?_) | (with_reducible refine stopq (op := .load 77 _) ?_) | (with_reducible refine stopq (op := .build 27 _) ?_) | (with_reducible refine stopq (op := .build 28 _) ?_) | (with_reducible refine stopq (op := .build 30 _) ?_) | (with_reducible refine stopq (op := .build 33 _) ?_) | (with_reducible refine stopq (op := .build 35 _) ?_) | (with_reducible refine stopq (op := .build 40 _) ?_) | (with_reducible refine stopq (op := .build 76 _) ?_) | (with_reducible refine stopq (op := .build 77 _) ?_) | (with_reducible refine stopq (op := .lookup _ _ _ _) ?_) | (with_reducible refine stopq (op := .binOp .eql 28 _ _ _) ?_) | (with_reducible refine stopq (op := .binOp .eql 40 _ _ _) ?_) | (with_reducible refine stopq (op := .binOp .neq 28 _ _ _) ?_) | (with_reducible refine stopq (op := .binOp .neq 40 _ _ _) ?_) | go_big_quiet_step (fail))
      refine wpQuiet_nil ?_
      rintro w2 ⟨u2, hu2⟩
      have D2 := HD.out.nb (hu2 ▸ u2.k : Keeps Nb wr w2)
      clear hu2 u2 CK RK C1 V1 HD
      go_wp2_with fail
      have hS := VV.out _ D2.k
      have HS : Hid (VoteAt w2.drew Rl b (off + k * 101) c s1) := hS.nb ((Keeps.refl Nb _).drew)
      refine WT.region (fun u => VoteAt u Rl b (off + k * 101) c s1) 22 22 [0, 1, 2, 3, 4, 5, 6, 7, 8, 9, 10, 11, 12, 13, 14, 15, 16, 17, 18, 19, 20, 21] (by kernel_rfl) rfl ?_
      refine WT.take 0 (v := _) (by simp only [List.getElem?_toArray, List.getElem?_cons_succ, List.getElem?_cons_zero]; rfl) (by kernel_rfl) (by exact fun _ _ _ h => h) (by rfl) (by intro w hS; have C1 := hS.stake; clear hS; go_simp; with_reducible rfl) HS.out ?_
      simp only [Nat.reduceAdd, Nat.zero_add, Act.put, List.setIfInBounds_toArray, List.set_cons_succ, List.set_cons_zero]
      refine WT.take 1 (v := _) (by simp only [List.getElem?_toArray, List.getElem?_cons_succ, List.getElem?_cons_zero]; rfl) (by kernel_rfl) (by exact fun _ _ _ h => h) (by rfl) (by intro w hS; have C1 := hS.stake; clear hS; go_simp; with_reducible rfl) HS.out ?_
      simp only [Nat.reduceAdd, Nat.zero_add, Act.put, List.setIfInBounds_toArray, List.set_cons_succ, List.set_cons_zero]
      refine WT.take 2 (v := _) (by simp only [List.getElem?_toArray, List.getElem?_cons_succ, List.getElem?_cons_zero]; rfl) (by kernel_rfl) (by exact fun _ _ _ h => h) (by rfl) (by intro w hS; have C1 := hS.stake; clear hS; go_simp; with_reducible rfl) HS.out ?_
      simp only [Nat.reduceAdd, Nat.zero_add, Act.put, List.setIfInBounds_toArray, List.set_cons_succ, List.set_cons_zero]
      refine WT.take 3 (v := _) (by simp only [List.getElem?_toArray, List.getElem?_cons_succ, List.getElem?_cons_zero]; rfl) (by kernel_rfl) (by exact fun _ _ _ h => h) (by rfl) (by intro w hS; have C1 := hS.stake; clear hS; go_simp; with_reducible rfl) HS.out ?_
      simp only [Nat.reduceAdd, Nat.zero_add, Act.put, List.setIfInBounds_toArray, List.set_cons_succ, List.set_cons_zero]
      refine WT.take 4 (v := _) (by simp only [List.getElem?_toArray, List.getElem?_cons_succ, List.getElem?_cons_zero]; rfl) (by kernel_rfl) (by exact fun _ _ _ h => h) (by rfl) (by intro w hS; have C1 := hS.stake; clear hS; go_simp; with_reducible rfl) HS.out ?_
      simp only [Nat.reduceAdd, Nat.zero_add, Act.put, List.setIfInBounds_toArray, List.set_cons_succ, List.set_cons_zero]
      refine WT.take 5 (v := .agg (vc c s1).toArray) (by simp only [List.getElem?_toArray, List.getElem?_cons_succ, List.getElem?_cons_zero]; rfl) (by kernel_rfl) (by exact fun _ _ _ h => h) (by rfl) (by intro w hS; exact rn_loadH aggV (by rfl) hS.vote lv1) HS.out ?_
      simp only [Nat.reduceAdd, Nat.zero_add, Act.put, List.setIfInBounds_toArray, List.set_cons_succ, List.set_cons_zero]
      refine WT.take 6 (v := _) (by simp only [List.getElem?_toArray, List.getElem?_cons_succ, List.getElem?_cons_zero]; rfl) (by kernel_rfl) (by exact fun _ _ _ h => h) (by rfl) (by intro w hS; have C1 := hS.stake; clear hS; go_simp; with_reducible rfl) HS.out ?_
      simp only [Nat.reduceAdd, Nat.zero_add, Act.put, List.setIfInBounds_toArray, List.set_cons_succ, List.set_cons_zero]
      refine WT.take 7 (v := _) (by simp only [List.getElem?_toArray, List.getElem?_cons_succ, List.getElem?_cons_zero]; rfl) (by kernel_rfl) (by exact fun _ _ _ h => h) (by rfl) (by intro w hS; have C1 := hS.stake; clear hS; go_simp; with_reducible rfl) HS.out ?_
      simp only [Nat.reduceAdd, Nat.zero_add, Act.put, List.setIfInBounds_toArray, List.set_cons_succ, List.set_cons_zero]
      refine WT.take 8 (v := _) (by simp only [List.getElem?_toArray, List.getElem?_cons_succ, List.getElem?_cons_zero]; rfl) (by kernel_rfl) (by exact fun _ _ _ h => h) (by rfl) (by intro w hS; have C1 := hS.stake; clear hS; go_simp; with_reducible rfl) HS.out ?_
      simp only [Nat.reduceAdd, Nat.zero_add, Act.put, List.setIfInBounds_toArray, List.set_cons_succ, List.set_cons_zero]
      refine WT.take 9 (v := _) (by simp only [List.getElem?_toArray, List.getElem?_cons_succ, List.getElem?_cons_zero]; rfl) (by kernel_rfl) (by exact fun _ _ _ h => h) (by rfl) (by intro w hS; have C1 := hS.stake; clear hS; go_simp; with_reducible rfl) HS.out ?_
      simp only [Nat.reduceAdd, Nat.zero_add, Act.put, List.setIfInBounds_toArray, List.set_cons_succ, List.set_cons_zero]
      refine WT.take 10 (v := kv HK c.key) (by simp only [List.getElem?_toArray, List.getElem?_cons_succ, List.getElem?_cons_zero]; rfl) (by kernel_rfl) (by exact fun _ _ _ h => h) (by rfl) (by intro w hS; exact rn_loadH aggH (by rfl) hS.key lk1) HS.out ?_
      simp only [Nat.reduceAdd, Nat.zero_add, Act.put, List.setIfInBounds_toArray, List.set_cons_succ, List.set_cons_zero]
      refine WT.take 11 (v := _) (by simp only [List.getElem?_toArray, List.getElem?_cons_succ, List.getElem?_cons_zero]; rfl) (by kernel_rfl) (by exact fun _ _ _ h => h) (by rfl) (by intro w hS; have C1 := hS.stake; clear hS; go_simp; with_reducible rfl) HS.out ?_
      simp only [Nat.reduceAdd, Nat.zero_add, Act.put, List.setIfInBounds_toArray, List.set_cons_succ, List.set_cons_zero]
      refine WT.take 12 (v := _) (by simp only [List.getElem?_toArray, List.getElem?_cons_succ, List.getElem?_cons_zero]; rfl) (by kernel_rfl) (by exact fun _ _ _ h => h) (by rfl) (by intro w hS; have C1 := hS.stake; clear hS; go_simp; with_reducible rfl) HS.out ?_
      simp only [Nat.reduceAdd, Nat.zero_add, Act.put, List.setIfInBounds_toArray, List.set_cons_succ, List.set_cons_zero]
      refine WT.take 13 (v := _) (by simp only [List.getElem?_toArray, List.getElem?_cons_succ, List.getElem?_cons_zero]; rfl) (by kernel_rfl) (by exact fun _ _ _ h => h) (by rfl) (by intro w hS; have C1 := hS.stake; clear hS; go_simp; with_reducible rfl) HS.out ?_
      simp only [Nat.reduceAdd, Nat.zero_add, Act.put, List.setIfInBounds_toArray, List.set_cons_succ, List.set_cons_zero]
      refine WT.take 14 (v := _) (by simp only [List.getElem?_toArray, List.getElem?_cons_succ, List.getElem?_cons_zero]; rfl) (by kernel_rfl) (by exact fun _ _ _ h => h) (by rfl) (by intro w hS; have C1 := hS.stake; clear hS; go_simp; with_reducible rfl) HS.out ?_
      simp only [Nat.reduceAdd, Nat.zero_add, Act.put, List.setIfInBounds_toArray, List.set_cons_succ, List.set_cons_zero]
      refine WT.take 15 (v := _) (by simp only [List.getElem?_toArray, List.getElem?_cons_succ, List.getElem?_cons_zero]; rfl) (by kernel_rfl) (by exact fun _ _ _ h => h) (by rfl) (by intro w hS; have C1 := hS.stake; clear hS; go_simp; with_reducible rfl) HS.out ?_
      simp only [Nat.reduceAdd, Nat.zero_add, Act.put, List.setIfInBounds_toArray, List.set_cons_succ, List.set_cons_zero]
      refine WT.call (R := fun e w' => e = .returned (.tuple #[.int .u64 (told A c : Nat), .int .i64 (chk A c : Nat)]) ∧ DuoR w w' p q F R (fun k => Q k ∨ Rl k) (addTo A c) A) 16 (by simp only [List.getElem?_toArray, List.getElem?_cons_succ, List.getElem?_cons_zero]; rfl) (by kernel_rfl) (by rfl) (by go_simp) ((D2.nb (Keeps.refl Nb _).drew).addP HR.out OK1.out HS.out.sig hA) ?_
      rintro _ w3 ⟨rfl, D3⟩
      have hS5 : VoteAt w3 Rl b (off + k * 101) c s1 := VV.out _ D3.k
      refine ⟨_, rfl, hS5, ?_⟩
      replace HS := Lib.hid hS5
      clear hS hS5
      simp only [Nat.reduceAdd, Nat.zero_add, Act.put, List.setIfInBounds_toArray, List.set_cons_succ, List.set_cons_zero]
      refine WT.take 17 (v := _) (by simp only [List.getElem?_toArray, List.getElem?_cons_succ, List.getElem?_cons_zero]; rfl) (by kernel_rfl) (by exact fun _ _ _ h => h) (by rfl) (by intro w hS; have C1 := hS.stake; clear hS; go_simp; with_reducible rfl) HS.out ?_
      simp only [Nat.reduceAdd, Nat.zero_add, Act.put, List.setIfInBounds_toArray, List.set_cons_succ, List.set_cons_zero]
      refine WT.take 18 (v := _) (by simp only [List.getElem?_toArray, List.getElem?_cons_succ, List.getElem?_cons_zero]; rfl) (by kernel_rfl) (by exact fun _ _ _ h => h) (by rfl) (by intro w hS; have C1 := hS.stake; clear hS; go_simp; with_reducible rfl) HS.out ?_
      simp only [Nat.reduceAdd, Nat.zero_add, Act.put, List.setIfInBounds_toArray, List.set_cons_succ, List.set_cons_zero]
      refine WT.take 19 (v := _) (by simp only [List.getElem?_toArray, List.getElem?_cons_succ, List.getElem?_cons_zero]; rfl) (by kernel_rfl) (by exact fun _ _ _ h => h) (by rfl) (by intro w hS; have C1 := hS.stake; clear hS; go_simp; with_reducible rfl) HS.out ?_
      simp only [Nat.reduceAdd, Nat.zero_add, Act.put, List.setIfInBounds_toArray, List.set_cons_succ, List.set_cons_zero]
      refine WT.take 20 (v := _) (by simp only [List.getElem?_toArray, List.getElem?_cons_succ, List.getElem?_cons_zero]; rfl) (by kernel_rfl) (by exact fun _ _ _ h => h) (by rfl) (by intro w hS; have C1 := hS.stake; clear hS; go_simp; with_reducible rfl) HS.out ?_
      simp only [Nat.reduceAdd, Nat.zero_add, Act.put, List.setIfInBounds_toArray, List.set_cons_succ, List.set_cons_zero]
      refine WT.take 21 (v := _) (by simp only [List.getElem?_toArray, List.getElem?_cons_succ, List.getElem?_cons_zero]; rfl) (by kernel_rfl) (by exact fun _ _ _ h => h) (by rfl) (by intro w hS; have C1 := hS.stake; clear hS; go_simp; with_reducible rfl) HS.out ?_
      simp only [Nat.reduceAdd, Nat.zero_add, Act.put, List.setIfInBounds_toArray, List.set_cons_succ, List.set_cons_zero]
      refine WT.stop (by kernel_rfl) (WP.done (by kernel_rfl) ?_)
      clear HS
      clear D2
      go_wp2_with fail
      have hS := VV.out _ D3.k
      have HS : Hid (VoteAt w3.drew Rl b (off + k * 101) c s1) := hS.nb ((Keeps.refl Nb _).drew)
      refine WT.region (fun u => VoteAt u Rl b (off + k * 101) c s1) 22 22 [0, 1, 2, 3, 4, 5, 6, 7, 8, 9, 10, 11, 12, 13, 14, 15, 16, 17, 18, 19, 20, 21] (by kernel_rfl) rfl ?_
      refine WT.take 0 (v := _) (by simp only [List.getElem?_toArray, List.getElem?_cons_succ, List.getElem?_cons_zero]; rfl) (by kernel_rfl) (by exact fun _ _ _ h => h) (by rfl) (by intro w hS; have C1 := hS.stake; clear hS; go_simp; with_reducible rfl) HS.out ?_
      simp only [Nat.reduceAdd, Nat.zero_add, Act.put, List.setIfInBounds_toArray, List.set_cons_succ, List.set_cons_zero]
      refine WT.take 1 (v := _) (by simp only [List.getElem?_toArray, List.getElem?_cons_succ, List.getElem?_cons_zero]; rfl) (by kernel_rfl) (by exact fun _ _ _ h => h) (by rfl) (by intro w hS; have C1 := hS.stake; clear hS; go_simp; with_reducible rfl) HS.out ?_
      simp only [Nat.reduceAdd, Nat.zero_add, Act.put, List.setIfInBounds_toArray, List.set_cons_succ, List.set_cons_zero]
      refine WT.take 2 (v := _) (by simp only [List.getElem?_toArray, List.getElem?_cons_succ, List.getElem?_cons_zero]; rfl) (by kernel_rfl) (by exact fun _ _ _ h => h) (by rfl) (by intro w hS; have C1 := hS.stake; clear hS; go_simp; with_reducible rfl) HS.out ?_
      simp only [Nat.reduceAdd, Nat.zero_add, Act.put, List.setIfInBounds_toArray, List.set_cons_succ, List.set_cons_zero]
      refine WT.take 3 (v := _) (by simp only [List.getElem?_toArray, List.getElem?_cons_succ, List.getElem?_cons_zero]; rfl) (by kernel_rfl) (by exact fun _ _ _ h => h) (by rfl) (by intro w hS; have C1 := hS.stake; clear hS; go_simp; with_reducible rfl) HS.out ?_
      simp only [Nat.reduceAdd, Nat.zero_add, Act.put, List.setIfInBounds_toArray, List.set_cons_succ, List.set_cons_zero]
      refine WT.take 4 (v := _) (by simp only [List.getElem?_toArray, List.getElem?_cons_succ, List.getElem?_cons_zero]; rfl) (by kernel_rfl) (by exact fun _ _ _ h => h) (by rfl) (by intro w hS; have C1 := hS.stake; clear hS; go_simp; with_reducible rfl) HS.out ?_
      simp only [Nat.reduceAdd, Nat.zero_add, Act.put, List.setIfInBounds_toArray, List.set_cons_succ, List.set_cons_zero]
      refine WT.take 5 (v := .agg (vc c s1).toArray) (by simp only [List.getElem?_toArray, List.getElem?_cons_succ, List.getElem?_cons_zero]; rfl) (by kernel_rfl) (by exact fun _ _ _ h => h) (by rfl) (by intro w hS; exact rn_loadH aggV (by rfl) hS.vote lv1) HS.out ?_
      simp only [Nat.reduceAdd, Nat.zero_add, Act.put, List.setIfInBounds_toArray, List.set_cons_succ, List.set_cons_zero]
      refine WT.take 6 (v := _) (by simp only [List.getElem?_toArray, List.getElem?_cons_succ, List.getElem?_cons_zero]; rfl) (by kernel_rfl) (by exact fun _ _ _ h => h) (by rfl) (by intro w hS; have C1 := hS.stake; clear hS; go_simp; with_reducible rfl) HS.out ?_
      simp only [Nat.reduceAdd, Nat.zero_add, Act.put, List.setIfInBounds_toArray, List.set_cons_succ, List.set_cons_zero]
      refine WT.take 7 (v := _) (by simp only [List.getElem?_toArray, List.getElem?_cons_succ, List.getElem?_cons_zero]; rfl) (by kernel_rfl) (by exact fun _ _ _ h => h) (by rfl) (by intro w hS; have C1 := hS.stake; clear hS; go_simp; with_reducible rfl) HS.out ?_
      simp only [Nat.reduceAdd, Nat.zero_add, Act.put, List.setIfInBounds_toArray, List.set_cons_succ, List.set_cons_zero]
      refine WT.take 8 (v := _) (by simp only [List.getElem?_toArray, List.getElem?_cons_succ, List.getElem?_cons_zero]; rfl) (by kernel_rfl) (by exact fun _ _ _ h => h) (by rfl) (by intro w hS; have C1 := hS.stake; clear hS; go_simp; with_reducible rfl) HS.out ?_
      simp only [Nat.reduceAdd, Nat.zero_add, Act.put, List.setIfInBounds_toArray, List.set_cons_succ, List.set_cons_zero]
      refine WT.take 9 (v := _) (by simp only [List.getElem?_toArray, List.getElem?_cons_succ, List.getElem?_cons_zero]; rfl) (by kernel_rfl) (by exact fun _ _ _ h => h) (by rfl) (by intro w hS; have C1 := hS.stake; clear hS; go_simp; with_reducible rfl) HS.out ?_
      simp only [Nat.reduceAdd, Nat.zero_add, Act.put, List.setIfInBounds_toArray, List.set_cons_succ, List.set_cons_zero]
      refine WT.take 10 (v := kv HK c.key) (by simp only [List.getElem?_toArray, List.getElem?_cons_succ, List.getElem?_cons_zero]; rfl) (by kernel_rfl) (by exact fun _ _ _ h => h) (by rfl) (by intro w hS; exact rn_loadH aggH (by rfl) hS.key lk1) HS.out ?_
      simp only [Nat.reduceAdd, Nat.zero_add, Act.put, List.setIfInBounds_toArray, List.set_cons_succ, List.set_cons_zero]
      refine WT.take 11 (v := _) (by simp only [List.getElem?_toArray, List.getElem?_cons_succ, List.getElem?_cons_zero]; rfl) (by kernel_rfl) (by exact fun _ _ _ h => h) (by rfl) (by intro w hS; have C1 := hS.stake; clear hS; go_simp; with_reducible rfl) HS.out ?_
      simp only [Nat.reduceAdd, Nat.zero_add, Act.put, List.setIfInBounds_toArray, List.set_cons_succ, List.set_cons_zero]
      refine WT.take 12 (v := _) (by simp only [List.getElem?_toArray, List.getElem?_cons_succ, List.getElem?_cons_zero]; rfl) (by kernel_rfl) (by exact fun _ _ _ h => h) (by rfl) (by intro w hS; have C1 := hS.stake; clear hS; go_simp; with_reducible rfl) HS.out ?_
      simp only [Nat.reduceAdd, Nat.zero_add, Act.put, List.setIfInBounds_toArray, List.set_cons_succ, List.set_cons_zero]
      refine WT.take 13 (v := _) (by simp only [List.getElem?_toArray, List.getElem?_cons_succ, List.getElem?_cons_zero]; rfl) (by kernel_rfl) (by exact fun _ _ _ h => h) (by rfl) (by intro w hS; have C1 := hS.stake; clear hS; go_simp; with_reducible rfl) HS.out ?_
      simp only [Nat.reduceAdd, Nat.zero_add, Act.put, List.setIfInBounds_toArray, List.set_cons_succ, List.set_cons_zero]
      refine WT.take 14 (v := _) (by simp only [List.getElem?_toArray, List.getElem?_cons_succ, List.getElem?_cons_zero]; rfl) (by kernel_rfl) (by exact fun _ _ _ h => h) (by rfl) (by intro w hS; have C1 := hS.stake; clear hS; go_simp; with_reducible rfl) HS.out ?_
      simp only [Nat.reduceAdd, Nat.zero_add, Act.put, List.setIfInBounds_toArray, List.set_cons_succ, List.set_cons_zero]
      refine WT.take 15 (v := _) (by simp only [List.getElem?_toArray, List.getElem?_cons_succ, List.getElem?_cons_zero]; rfl) (by kernel_rfl) (by exact fun _ _ _ h => h) (by rfl) (by intro w hS; have C1 := hS.stake; clear hS; go_simp; with_reducible rfl) HS.out ?_
      simp only [Nat.reduceAdd, Nat.zero_add, Act.put, List.setIfInBounds_toArray, List.set_cons_succ, List.set_cons_zero]
      refine WT.call (R := fun e w' => e = .returned (.tuple #[.int .u64 (told A c : Nat), .int .i64 (chk A c : Nat)]) ∧ DuoR w w' p q F R (fun k => Q k ∨ Rl k) (addTo A c) (addTo A c)) 16 (by simp only [List.getElem?_toArray, List.getElem?_cons_succ, List.getElem?_cons_zero]; rfl) (by kernel_rfl) (by rfl) (by go_simp) ((D3.nb (Keeps.refl Nb _).drew).addR HR.out (fun k hk => .inr hk) OK1.out HS.out.sig hA) ?_
      rintro _ w4 ⟨rfl, D4⟩
      have hS5 : VoteAt w4 Rl b (off + k * 101) c s1 := VV.out _ D4.k
      refine ⟨_, rfl, hS5, ?_⟩
      replace HS := Lib.hid hS5
      clear hS hS5
      simp only [Nat.reduceAdd, Nat.zero_add, Act.put, List.setIfInBounds_toArray, List.set_cons_succ, List.set_cons_zero]
      refine WT.take 17 (v := _) (by simp only [List.getElem?_toArray, List.getElem?_cons_succ, List.getElem?_cons_zero]; rfl) (by kernel_rfl) (by exact fun _ _ _ h => h) (by rfl) (by intro w hS; have C1 := hS.stake; clear hS; go_simp; with_reducible rfl) HS.out ?_
      simp only [Nat.reduceAdd, Nat.zero_add, Act.put, List.setIfInBounds_toArray, List.set_cons_succ, List.set_cons_zero]
      refine WT.take 18 (v := _) (by simp only [List.getElem?_toArray, List.getElem?_cons_succ, List.getElem?_cons_zero]; rfl) (by kernel_rfl) (by exact fun _ _ _ h => h) (by rfl) (by intro w hS; have C1 := hS.stake; clear hS; go_simp; with_reducible rfl) HS.out ?_
      simp only [Nat.reduceAdd, Nat.zero_add, Act.put, List.setIfInBounds_toArray, List.set_cons_succ, List.set_cons_zero]
      refine WT.take 19 (v := _) (by simp only [List.getElem?_toArray, List.getElem?_cons_succ, List.getElem?_cons_zero]; rfl) (by kernel_rfl) (by exact fun _ _ _ h => h) (by rfl) (by intro w hS; have C1 := hS.stake; clear hS; go_simp; with_reducible rfl) HS.out ?_
      simp only [Nat.reduceAdd, Nat.zero_add, Act.put, List.setIfInBounds_toArray, List.set_cons_succ, List.set_cons_zero]
      refine WT.take 20 (v := _) (by simp only [List.getElem?_toArray, List.getElem?_cons_succ, List.getElem?_cons_zero]; rfl) (by kernel_rfl) (by exact fun _ _ _ h => h) (by rfl) (by intro w hS; have C1 := hS.stake; clear hS; go_simp; with_reducible rfl) HS.out ?_
      simp only [Nat.reduceAdd, Nat.zero_add, Act.put, List.setIfInBounds_toArray, List.set_cons_succ, List.set_cons_zero]
      refine WT.take 21 (v := _) (by simp only [List.getElem?_toArray, List.getElem?_cons_succ, List.getElem?_cons_zero]; rfl) (by kernel_rfl) (by exact fun _ _ _ h => h) (by rfl) (by intro w hS; have C1 := hS.stake; clear hS; go_simp; with_reducible rfl) HS.out ?_
      simp only [Nat.reduceAdd, Nat.zero_add, Act.put, List.setIfInBounds_toArray, List.set_cons_succ, List.set_cons_zero]
      refine WT.stop (by kernel_rfl) (WP.done (by kernel_rfl) ?_)
      clear HS
      clear D3
      have HD4 := Lib.hid D4; clear D4
      go_wp2
      go_roundw
      case rel => exact ⟨k + 1, by omega, by go_num, by rw [HTK.out]; exact HD4.out⟩
      case measure => simp [intOf]; omega
    · have hkl : k = l.length := by omega
      subst hkl
      rw [List.take_of_length_le (Nat.le_refl _)] at hD
      have HD := Lib.hid hD; clear hD
      go_wp2
      go_ret
      exact ⟨rfl, HD.out⟩
end Go.Proofs.Ytffnaigkdocpmac
