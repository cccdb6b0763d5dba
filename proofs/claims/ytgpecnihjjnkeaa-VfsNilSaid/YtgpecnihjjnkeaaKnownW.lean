/- known: the chapter's rows. -/
import Derived.Test.YtgpecnihjjnkeaaKnownL
import Derived.Test.YtgpecnihjjnkeaaMark
set_option linter.unusedVariables false
set_option linter.unusedSimpArgs false
namespace Go.Proofs.Ytgpecnihjjnkeaa
open Go.RowKit Go.Lk Go.Vfs
theorem str_beq (x : ByteArray) : (x == x) = true := by
  first
  | exact beq_self_eq_true x
  | (show decide (x = x) = true; simp)
  | (cases x with | mk d => show (d == d) = true; simp)
theorem str_bne (x : ByteArray) : (x != x) = false := by unfold bne; rw [str_beq]; rfl
theorem el32 : ElemT Try.prog 32 3 1 8 (.int .i64 0) := ⟨Try.underlying32, by kernel_rfl, rfl, by decide⟩
theorem new_bytes {w w2 w' : World} {g n : Nat} {cs : Array Value} {l : List Nat} {u v : Value} (h : NewAt w w2 g (.cells cs 5)) (hm : IsMark g cs 5 u w2 v w') (hu : u = .slice (some ⟨g, 0, none⟩) n n) (hcs : cs = (l.map fun x => Value.int .u8 (x : Nat)).toArray) (hn : l.length = n) (hl : ∀ z ∈ l, z < 256) (hb : n ≤ 1000) :
    v = .slice (some ⟨g, 0, none⟩) n n ∧ Bytes w' (fun k => w.heap.size ≤ k) v l ∧ Keeps Nb w w' := by
  obtain ⟨rfl, h1, h2⟩ := hm
  subst hn; subst hu; subst hcs
  refine ⟨rfl, ⟨_, _, rfl, Nat.le_refl _, by unfold maxLen; omega, .inr ⟨g, 0, rfl, fun i hi => ?_⟩, hl, fun b off e _ => by cases e; exact h.ge⟩, h.k.own h.ge h2⟩
  rw [Nat.zero_add, cell_of_block h1]
  simp [List.getElem?_eq_getElem hi, ntn_eq hi]
theorem new_picks {w w' : World} {g n : Nat} {l : List Int} (h : NewAt w w' g (.cells (l.map fun x => Value.int .i64 x).toArray 3)) (hn : l.length = n) (hl : ∀ z ∈ l, I64 z) (hm : n ≤ 1000) : PicksV w' (.slice (some ⟨g, 0, none⟩) n n) l := by
  subst hn
  refine ⟨_, _, rfl, Nat.le_refl _, by unfold maxLen; omega, .inr ⟨g, 0, rfl, fun i hi => ?_⟩, hl⟩
  rw [Nat.zero_add, cell_of_block h.blk]
  simp [List.getElem?_eq_getElem hi, nth_eq hi]
theorem picks_nil (w : World) : PicksV w (.slice none 0 0) [] := ⟨none, 0, rfl, Nat.le_refl _, Nat.zero_le _, .inl rfl, by simp⟩
set_option maxHeartbeats 8000000 in
set_option maxRecDepth 100000 in
theorem known_at (w : World) : Calls Try.prog 8 #[] w fun e w' => e = .returned (.bool true) ∧ Keeps Nb w w' := by
  have sa : sA.size ≤ maxLen := mnB_max mnA
  have sb' : sB.size ≤ maxLen := mnB_max mnBb
  have SA := Lib.hid sa
  have SB := Lib.hid sb'
  clear sa sb'
  go_enter Try.func8, Try.ntmps8
  go_wp2_with fail
  refine (new_at 99 w (by omega)).mono ?_
  rintro _ w1 ⟨d, rfl, -, hd⟩
  have D1 := Lib.hid hd
  clear hd
  go_wp2_with fail
  refine (num_at 0 w1).mono ?_; rintro _ _ ⟨rfl, rfl⟩
  go_wp2_with fail
  refine (dmake D1.out sA SA.out (by show (0 : Int) < 1000000; omega)).mono ?_
  rintro _ w2 ⟨er, D', fc2, rfl, hd, hr, -⟩
  obtain ⟨rfl, b, -, rfl, hf⟩ := k1 hr
  have D2 := Lib.hid hd
  have F2 := Lib.hid hf
  clear hd hf hr D1
  go_wp2_with fail
  refine (num_at 0 w2).mono ?_; rintro _ _ ⟨rfl, rfl⟩
  go_wp2_with (first | go_skip | (with_reducible refine stop_buildSlice ?_) | fail)
  refine at_out (wpList_valE rfl (re_buildSlice el31 [.int .u8 120, .int .u8 121, .int .u8 122] rfl (by simp [List.range'_succ]; first | done | rfl | exact ⟨rfl, rfl, rfl⟩) (by simp [Value.cells]) (by simp)) ?_)
  rintro _ w3 ⟨g, rfl, n3⟩
  simp only [Nat.reduceAdd, Nat.zero_add, Act.put, List.setIfInBounds_toArray, List.set_cons_succ, List.set_cons_zero]
  go_wp2_with (first | go_skip | (with_reducible refine stop_buildSlice ?_) | (with_reducible refine stop_convert (s := 31) ?_) | fail)
  refine at_out (wpList_valE rfl (re_mark Try.underlying31 Try.underlying5 (by rfl) n3.blk) ?_)
  rintro _ w4 hm
  obtain ⟨rfl, hby, k4⟩ := new_bytes (n := 3) (l := [120, 121, 122]) n3 hm rfl (by simp [Value.cells]) rfl (by simp) (by omega)
  have HBY := Lib.hid hby
  have K4 := Lib.hid k4
  clear n3 hm hby k4
  simp only [Nat.reduceAdd, Nat.zero_add, Act.put, List.setIfInBounds_toArray, List.set_cons_succ, List.set_cons_zero]
  go_wp2_with fail
  refine (dapp' D2.out sA _ _ SA.out HBY.out K4.out (by show (1 : Int) < 1000000; omega)).mono ?_
  rintro _ w5 ⟨⟨er, D', fc5, rfl, hd, hr⟩, -⟩
  obtain ⟨rfl, rfl, hf⟩ := k2 mnA (by rw [F2.out]; simp) hr
  rw [F2.out] at hf
  have D5 := Lib.hid hd
  have F5 : Hid (fc5 b = ⟨[120, 121, 122], 0⟩) := hf
  clear hd hf hr D2 F2 HBY K4
  go_wp2_with fail
  refine (num_at 0 w5).mono ?_; rintro _ _ ⟨rfl, rfl⟩
  go_wp2_with fail
  refine (dsync D5.out sA SA.out (by show (2 : Int) < 1000000; omega)).mono ?_
  rintro _ w6 ⟨er, D', fc6, rfl, hd, hr⟩
  obtain ⟨rfl, rfl, hf⟩ := k3 mnA hr
  rw [F5.out] at hf
  have D6 := Lib.hid hd
  have F6 : Hid (fc6 b = ⟨[120, 121, 122], 3⟩) := hf
  clear hd hf hr D5 F5
  go_wp2_with fail
  refine (num_at 0 w6).mono ?_; rintro _ _ ⟨rfl, rfl⟩
  go_wp2_with fail
  refine (dcrash D6.out _ [] (picks_nil w6) (by simp [kD])).mono ?_
  rintro _ w7 ⟨d7, D7, fc7, φ, l2, bs, rfl, hd7, hd, hr⟩
  have R7 := Lib.hid (c1 hr)
  have E7 := Lib.hid hd7
  have D7' := Lib.hid hd
  clear hd7 hd hr D6
  go_wp2_with fail
  refine (lread E7.out sA SA.out).mono ?_
  rintro _ w8 ⟨rfl, k8⟩
  rw [R7.out]
  have D8 := Lib.hid (D7'.out.nb k8)
  clear k8 R7 E7 D7'
  have q1 : (bstr [45, 54]).toList = ([45, 54] : List UInt8) := by first | rfl | decide | decide +kernel
  go_wp2_with (first | go_skip | (with_reducible refine stop_load (t := 72) ?_) | (with_reducible refine stop_load (t := 61) ?_) | (with_reducible refine stop_alloc ?_) | (with_reducible refine stop_store ?_) | (with_reducible refine stop_makeMap ?_) | (with_reducible refine stop_rangem ?_) | (with_reducible refine stop_next ?_) | (with_reducible refine stop_entry ?_) | (with_reducible refine stop_buildSlice ?_) | (with_reducible refine stop_app ?_) | (with_reducible refine stop_mapUpdate ?_) | (with_reducible refine stop_lookup ?_) | (with_reducible refine stop_delete ?_) | (with_reducible refine stop_box ?_))
  refine at_out (wpList_valE rfl (re_buildSlice el32 [.int .i64 1] rfl (by simp [List.range'_succ]; first | done | rfl) (by simp [Value.cells]) (by simp)) ?_)
  rintro _ w9 ⟨g9, rfl, n9⟩
  simp only [Nat.reduceAdd, Nat.zero_add, Act.put, List.setIfInBounds_toArray, List.set_cons_succ, List.set_cons_zero]
  have P9 := Lib.hid (new_picks (n := 1) (l := [1]) n9 rfl (by simp [I64]) (by omega))
  have D9 := Lib.hid (D8.out.nb n9.k)
  clear n9 D8 q1
  go_wp2_with fail
  refine (dcrash D9.out _ [1] P9.out (by simp [kD])).mono ?_
  rintro _ w10 ⟨d10, D10, fc10, φ, l2, bs, rfl, hd10, hd, hr⟩
  have R10 := Lib.hid (c2 F6.out hr)
  have E10 := Lib.hid hd10
  have D10' := Lib.hid hd
  clear hd10 hd hr D9 P9
  go_wp2_with fail
  refine (lread E10.out sA SA.out).mono ?_
  rintro _ w11 ⟨rfl, k11⟩
  rw [R10.out]
  have D11 := Lib.hid (D10'.out.nb k11)
  clear k11 R10 E10 D10'
  have q2 : (bstr [120, 121, 122]).toList = ([120, 121, 122] : List UInt8) := by first | rfl | decide | decide +kernel
  go_wp2_with fail
  refine (dsdir D11.out (by show (3 : Int) < 1000000; omega)).mono ?_
  rintro _ w12 ⟨er, D', fc12, rfl, hd, hr, hf⟩
  obtain ⟨rfl, rfl⟩ := k4 hr
  have D12 := Lib.hid hd
  have F12 : Hid (fc12 b = ⟨[120, 121, 122], 3⟩) := by rw [hf]; exact F6.out
  clear hd hr hf D11 F6 q2
  go_wp2_with fail
  refine (num_at 0 w12).mono ?_; rintro _ _ ⟨rfl, rfl⟩
  go_wp2_with (first | go_skip | (with_reducible refine stop_buildSlice ?_) | fail)
  refine at_out (wpList_valE rfl (re_buildSlice el31 [.int .u8 117, .int .u8 118] rfl (by simp [List.range'_succ]; first | done | rfl | exact ⟨rfl, rfl⟩) (by simp [Value.cells]) (by simp)) ?_)
  rintro _ w13 ⟨g13, rfl, n13⟩
  simp only [Nat.reduceAdd, Nat.zero_add, Act.put, List.setIfInBounds_toArray, List.set_cons_succ, List.set_cons_zero]
  go_wp2_with (first | go_skip | (with_reducible refine stop_buildSlice ?_) | (with_reducible refine stop_convert (s := 31) ?_) | fail)
  refine at_out (wpList_valE rfl (re_mark Try.underlying31 Try.underlying5 (by rfl) n13.blk) ?_)
  rintro _ w14 hm
  obtain ⟨rfl, hby, k14⟩ := new_bytes (n := 2) (l := [117, 118]) n13 hm rfl (by simp [Value.cells]) rfl (by simp) (by omega)
  have HBY := Lib.hid hby
  have K14 := Lib.hid k14
  clear n13 hm hby k14
  simp only [Nat.reduceAdd, Nat.zero_add, Act.put, List.setIfInBounds_toArray, List.set_cons_succ, List.set_cons_zero]
  go_wp2_with fail
  refine (dapp' D12.out sA _ _ SA.out HBY.out K14.out (by show (4 : Int) < 1000000; omega)).mono ?_
  rintro _ w15 ⟨⟨er, D', fc15, rfl, hd, hr⟩, -⟩
  obtain ⟨rfl, rfl, hf⟩ := k2 mnA (by rw [F12.out]; simp) hr
  rw [F12.out] at hf
  have D15 := Lib.hid hd
  have F15 : Hid (fc15 b = ⟨[120, 121, 122, 117, 118], 3⟩) := hf
  clear hd hf hr D12 F12 HBY K14
  go_wp2_with fail
  refine (num_at 0 w15).mono ?_; rintro _ _ ⟨rfl, rfl⟩
  go_wp2_with fail
  refine (dren D15.out sA sB SA.out SB.out (by show (5 : Int) < 1000000; omega)).mono ?_
  rintro _ w16 ⟨er, D', fc16, rfl, hd, hr, hf⟩
  obtain ⟨rfl, rfl⟩ := k5 hr
  have D16 := Lib.hid hd
  have F16 : Hid (fc16 b = ⟨[120, 121, 122, 117, 118], 3⟩) := by rw [hf]; exact F15.out
  clear hd hr hf D15 F15
  go_wp2_with fail
  refine (num_at 0 w16).mono ?_; rintro _ _ ⟨rfl, rfl⟩
  go_wp2_with (first | go_skip | (with_reducible refine stop_load (t := 72) ?_) | (with_reducible refine stop_load (t := 61) ?_) | (with_reducible refine stop_alloc ?_) | (with_reducible refine stop_store ?_) | (with_reducible refine stop_makeMap ?_) | (with_reducible refine stop_rangem ?_) | (with_reducible refine stop_next ?_) | (with_reducible refine stop_entry ?_) | (with_reducible refine stop_buildSlice ?_) | (with_reducible refine stop_app ?_) | (with_reducible refine stop_mapUpdate ?_) | (with_reducible refine stop_lookup ?_) | (with_reducible refine stop_delete ?_) | (with_reducible refine stop_box ?_))
  refine at_out (wpList_valE rfl (re_buildSlice el32 [.int .i64 0, .int .i64 1] rfl (by simp [List.range'_succ]; first | done | rfl | exact ⟨rfl, rfl⟩) (by simp [Value.cells]) (by simp)) ?_)
  rintro _ w17 ⟨g17, rfl, n17⟩
  simp only [Nat.reduceAdd, Nat.zero_add, Act.put, List.setIfInBounds_toArray, List.set_cons_succ, List.set_cons_zero]
  have P17 := Lib.hid (new_picks (n := 2) (l := [0, 1]) n17 rfl (by simp [I64]) (by omega))
  have D17 := Lib.hid (D16.out.nb n17.k)
  clear n17 D16
  go_wp2_with fail
  refine (dcrash D17.out _ [0, 1] P17.out (by simp [kD])).mono ?_
  rintro _ w18 ⟨d18, D18, fc18, φ, l2, bs, rfl, hd18, hd, hr⟩
  have R18 : Hid (rdS D18 fc18 sA = bstr [120, 121, 122, 117]) := c3 (m := 1) mnA F16.out rfl (fun l2 e => by subst e; rfl) hr
  have E18 := Lib.hid hd18
  have D18' := Lib.hid hd
  clear hd18 hd hr D17 P17
  go_wp2_with fail
  refine (lread E18.out sA SA.out).mono ?_
  rintro _ w19 ⟨rfl, k19⟩
  rw [R18.out]
  have D19 := Lib.hid (D18'.out.nb k19)
  clear k19 R18 E18 D18'
  have q3 : (bstr [120, 121, 122, 117]).toList = ([120, 121, 122, 117] : List UInt8) := by first | rfl | decide | decide +kernel
  go_wp2_with (first | go_skip | (with_reducible refine stop_load (t := 72) ?_) | (with_reducible refine stop_load (t := 61) ?_) | (with_reducible refine stop_alloc ?_) | (with_reducible refine stop_store ?_) | (with_reducible refine stop_makeMap ?_) | (with_reducible refine stop_rangem ?_) | (with_reducible refine stop_next ?_) | (with_reducible refine stop_entry ?_) | (with_reducible refine stop_buildSlice ?_) | (with_reducible refine stop_app ?_) | (with_reducible refine stop_mapUpdate ?_) | (with_reducible refine stop_lookup ?_) | (with_reducible refine stop_delete ?_) | (with_reducible refine stop_box ?_))
  refine at_out (wpList_valE rfl (re_buildSlice el32 [.int .i64 1, .int .i64 2] rfl (by simp [List.range'_succ]; first | done | rfl | exact ⟨rfl, rfl⟩) (by simp [Value.cells]) (by simp)) ?_)
  rintro _ w20 ⟨g20, rfl, n20⟩
  simp only [Nat.reduceAdd, Nat.zero_add, Act.put, List.setIfInBounds_toArray, List.set_cons_succ, List.set_cons_zero]
  have P20 := Lib.hid (new_picks (n := 2) (l := [1, 2]) n20 rfl (by simp [I64]) (by omega))
  have D20 := Lib.hid (D19.out.nb n20.k)
  clear n20 D19 q3
  go_wp2_with fail
  refine (dcrash D20.out _ [1, 2] P20.out (by simp [kD])).mono ?_
  rintro _ w21 ⟨d21, D21, fc21, φ, l2, bs, rfl, hd21, hd, hr⟩
  have R21 : Hid (rdS D21 fc21 sB = bstr [120, 121, 122, 117, 118]) := c3 (m := 2) mnBb F16.out rfl (fun l2 e => by subst e; simp [replay, bsOf, pkn, againL, ren1, flook, fput, fdel, List.range_succ]) hr
  have E21 := Lib.hid hd21
  have D21' := Lib.hid hd
  clear hd21 hd hr D20 P20
  go_wp2_with fail
  refine (lread E21.out sB SB.out).mono ?_
  rintro _ w22 ⟨rfl, k22⟩
  rw [R21.out]
  have D22 := Lib.hid (D21'.out.nb k22)
  clear k22 R21 E21 D21'
  have q4 : (bstr [120, 121, 122, 117, 118]).toList = ([120, 121, 122, 117, 118] : List UInt8) := by first | rfl | decide | decide +kernel
  go_wp2_with fail
  refine (dlay D22.out 0 9 (by omega) (by omega)).mono ?_
  rintro _ w23 ⟨rfl, hd⟩
  have D23 := Lib.hid hd
  clear hd D22 q4
  go_wp2_with fail
  refine (num_at 0 w23).mono ?_; rintro _ _ ⟨rfl, rfl⟩
  go_wp2_with (first | go_skip | (with_reducible refine stop_buildSlice ?_) | fail)
  refine at_out (wpList_valE rfl (re_buildSlice el31 [.int .u8 119, .int .u8 119, .int .u8 119, .int .u8 119] rfl (by simp [List.range'_succ]; first | done | rfl | exact ⟨rfl, rfl, rfl, rfl⟩) (by simp [Value.cells]) (by simp)) ?_)
  rintro _ w24 ⟨g24, rfl, n24⟩
  simp only [Nat.reduceAdd, Nat.zero_add, Act.put, List.setIfInBounds_toArray, List.set_cons_succ, List.set_cons_zero]
  go_wp2_with (first | go_skip | (with_reducible refine stop_buildSlice ?_) | (with_reducible refine stop_convert (s := 31) ?_) | fail)
  refine at_out (wpList_valE rfl (re_mark Try.underlying31 Try.underlying5 (by rfl) n24.blk) ?_)
  rintro _ w25 hm
  obtain ⟨rfl, hby, k25⟩ := new_bytes (n := 4) (l := [119, 119, 119, 119]) n24 hm rfl (by simp [Value.cells]) rfl (by simp) (by omega)
  have HBY := Lib.hid hby
  have K25 := Lib.hid k25
  clear n24 hm hby k25
  simp only [Nat.reduceAdd, Nat.zero_add, Act.put, List.setIfInBounds_toArray, List.set_cons_succ, List.set_cons_zero]
  go_wp2_with fail
  refine (dapp' D23.out sB _ _ SB.out HBY.out K25.out (by show (6 : Int) < 1000000; omega)).mono ?_
  rintro _ w26 ⟨⟨er, D', fc26, rfl, hd, hr⟩, -⟩
  obtain ⟨rfl, rfl, hf⟩ := k6 (by rw [F16.out]; simp) hr
  rw [F16.out] at hf
  have D26 := Lib.hid hd
  have F26 : Hid (fc26 b = ⟨[120, 121, 122, 117, 118, 119, 119], 3⟩) := hf
  clear hd hf hr D23 F16 HBY K25
  go_wp2_with fail
  refine (num_at 9 w26).mono ?_; rintro _ _ ⟨rfl, rfl⟩
  go_wp2_with fail
  refine (lread D26.out sB SB.out).mono ?_
  rintro _ w27 ⟨rfl, k27⟩
  rw [rdK mnBb, F26.out]
  have D27 := Lib.hid (D26.out.nb k27)
  clear k27 D26
  have q5 : (bstr [120, 121, 122, 117, 118, 119, 119]).toList = ([120, 121, 122, 117, 118, 119, 119] : List UInt8) := by first | rfl | decide | decide +kernel
  simp only
  go_wp2_with fail
  refine (dfuse D27.out 0 (by unfold I64; omega)).mono ?_
  rintro _ w28 ⟨⟨v, rfl⟩, hd⟩
  have D28 := Lib.hid hd
  clear hd D27
  go_wp2_with fail
  refine (drem D28.out sB SB.out (by show (7 : Int) < 1000000; omega)).mono ?_
  rintro _ w29 ⟨er, D', fc29, rfl, hd, hr, hf⟩
  obtain ⟨rfl, rfl⟩ := k7 hr
  have D29 := Lib.hid hd
  have F29 : Hid (fc29 b = ⟨[120, 121, 122, 117, 118, 119, 119], 3⟩) := by rw [hf]; exact F26.out
  clear hd hr hf D28 F26
  go_wp2_with fail
  refine (num_at 8 w29).mono ?_; rintro _ _ ⟨rfl, rfl⟩
  go_wp2_with fail
  refine (lread D29.out sB SB.out).mono ?_
  rintro _ w30 ⟨rfl, k30⟩
  rw [rdK mnBb, F29.out]
  have K30 := Lib.hid (D29.out.nb k30).k
  clear k30 D29
  simp only
  go_wp2
  go_ret
  exact ⟨rfl, K30.out⟩
end Go.Proofs.Ytgpecnihjjnkeaa
