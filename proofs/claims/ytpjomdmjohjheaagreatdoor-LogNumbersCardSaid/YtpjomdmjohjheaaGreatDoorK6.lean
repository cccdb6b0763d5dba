import Derived.Test.YtpjomdmjohjheaaGreatDoorK5
set_option linter.unusedVariables false
set_option linter.unusedSimpArgs false
set_option maxRecDepth 100000
set_option maxHeartbeats 8000000
section
namespace Go.Proofs.YtpjomdmjohjheaaGreatDoor
open Go.RowKit Go.Lk Go.Vfs Go.Log
variable {W0 w w' w2 : World} {l d : Nat} {L L' : Lg} {X Y : Ds} {O O' S N : Nat -> Prop}
theorem z3g {g n : Nat} {cs : Array Value} {l : List Nat} {u v : Value} (h : NewAt w w2 g (.cells cs 5)) (hm : IsMark g cs 5 u w2 v w') (hu : u = .slice (some ⟨g, 0, none⟩) n n) (hcs : cs = (l.map fun x => Value.int .u8 (x : Nat)).toArray) (hn : l.length = n) (hl : ∀ z ∈ l, z < 256) (hx : n <= 1000) :
  v = .slice (some ⟨g, 0, none⟩) n n /\ Bytes w' (· = g) v l /\ Keeps Nb w w' /\ w.heap.size <= g /\ g < w'.heap.size := by
 obtain ⟨rfl, h1, h2⟩ := hm
 subst hn; subst hu; subst hcs
 refine ⟨rfl, ⟨_, _, rfl, Nat.le_refl _, by unfold maxLen; omega, .inr ⟨g, 0, rfl, fun i hi => ?_⟩, hl, fun b off e _ => by cases e; rfl⟩, h.k.own h.ge h2, h.ge, lt_of_block h1⟩
 rw [Nat.zero_add, cell_of_block h1]
 simp [List.getElem?_eq_getElem hi, z0z hi]
theorem zd3 {g n : Nat} {l : List Int} (h : NewAt w w' g (.cells (l.map fun x => Value.int .i64 x).toArray 3)) (hn : l.length = n) (hl : ∀ z ∈ l, I64 z) (hm : n <= 1000) : PicksV w' (.slice (some ⟨g, 0, none⟩) n n) l := by
 subst hn
 refine ⟨_, _, rfl, Nat.le_refl _, by unfold maxLen; omega, .inr ⟨g, 0, rfl, fun i hi => ?_⟩, hl⟩
 rw [Nat.zero_add, cell_of_block h.blk]
 simp [List.getElem?_eq_getElem hi, z92 hi]
theorem ze0 {g x : Nat} (h : NewAt w w' g (.cells #[.int .u8 (x : Nat)] 5)) (hx : x < 256) : Bytes w' (· = g) (.slice (some ⟨g, 0, none⟩) 1 1) [x] := by
 refine ⟨_, _, rfl, Nat.le_refl _, by unfold maxLen; omega, .inr ⟨g, 0, rfl, fun i hi => ?_⟩, fun z hz => by rw [List.mem_singleton.1 hz]; exact hx, fun b off e _ => by cases e; rfl⟩
 rw [Nat.zero_add, cell_of_block h.blk]
 have : i = 0 := by have : i < 1 := hi; omega
 subst this; rfl
theorem zh3 {g : Nat} {v : Value} {x : List Nat} {a : Option Addr} {n c : Nat} (h : NewAt w w' g (.cells #[v] 22)) (hv : v = .slice a n c) (hb : Bytes w (fun k => k < w.heap.size) v x) :
  RowS w' (fun k => k < w'.heap.size) (fun _ => False) 22 1 (.slice (some ⟨g, 0, none⟩) 1 1) 1 [v] /\ BytesL w' (fun k => k < w'.heap.size) [v] [x] := by
 have z := h.k.size
 refine ⟨⟨rfl, fun u hu => by rw [List.mem_singleton.1 hu, hv]; rfl, some ⟨g, 0, none⟩, 1, rfl, Nat.le_refl _, by unfold maxLen; omega, zt h.blk, fun b off e _ => by cases e; exact ⟨.inl h.lt, ⟨_, _, h.blk⟩⟩, .inl rfl⟩, ?_⟩
 exact .cons ((hb.keeps h.k (fun _ _ e => e)).mono fun k e => by omega) (.nil _ _)
theorem LS.lit {g : Nat} {v : Value} {x : List Nat} (h : LS W0 w l d L X fun _ => False) (hk : Keeps Nb w w') (h1 : w.heap.size <= g) (h2 : g < w'.heap.size) (hb : Bytes w' (· = g) v x) :
  LS W0 w' l d L X (· = g) /\ Bytes w' (Own W0 (· = g)) v x :=
 ⟨(h.add (N := (· = g)) hk fun k e => by omega).mono fun k e => .inr e, hb.mono fun k e => .inr e⟩
theorem z96 {l d g11 g12 x : Nat} {w11 w12 wx : World} (h : LS W0 w12 l d L X O) (hr : L.recs = [[x]]) (n12 : NewAt w11 w12 g12 (.cells #[.slice (some ⟨g11, 0, none⟩) 1 1] 22)) (n11 : NewAt wx w11 g11 (.cells #[.int .u8 (x : Nat)] 5)) (hx : x < 256) :
  Calls Tryz.prog 34 #[.pointer (some ⟨l, 0, none⟩), .slice (some ⟨g12, 0, none⟩) 1 1, .int .i64 0] w12 fun e w' => e = .returned (.bool true) /\ Keeps Nb w12 w' := by
 obtain ⟨h1, h2⟩ := zh3 n12 rfl ((ze0 n11 hx).mono fun k e => by have := n11.lt; omega)
 have h3 := zgc (wa := some ⟨g12, 0, none⟩) (wc := 1) (vs := [.slice (some ⟨g11, 0, none⟩) 1 1]) h (by rw [hr]; exact h1) (by rw [hr]; exact h2)
 rw [hr] at h3; exact h3
theorem z1b (w : World) (hv : Vars w) (h6 : 6 <= w.heap.size) : Calls Tryz.prog 10 #[] w fun e w' => e = .returned (.bool true) /\ Keeps Nb w w' := by
 have HV := qq hv
 have H6 := qq h6
 clear hv h6
 go_enter Tryz.func10, Tryz.ntmps10
 go_wp2_with fail
 refine (zcm (W0 := w) (O := fun _ => False) (Keeps.refl _ _) HV.out H6.out (fun _ e => e.elim) 9999 (by omega)).mono ?_
 rintro _ w1 ⟨d, rfl, hd, -⟩
 have OP := qq (z3s hd sa 99 z1q z1p (by omega) (by omega) (by show pot ⟨newD 9999, _⟩ + 12 <= _; unfold pot; simp [newD]))
 clear hd
 go_wp2_with fail
 refine OP.out.mono ?_
 rintro _ w2 ⟨er, L, X, hr, hp, -, hc⟩
 obtain ⟨rfl, ka⟩ := ka_new hr
 obtain ⟨-, l, rfl, hls⟩ := hc.resolve_right fun h => h.1 rfl
 have P : Hid (pot X <= 12) := qq hp
 have KA := qq ka
 have H := qq hls
 clear hr hp ka hls OP
 go_wp2_with fail
 refine (z1c 0 w2).mono ?_; rintro _ _ ⟨rfl, rfl⟩
 go_wp2_with fail
 refine (ls_len H.out).mono ?_; rintro _ _ ⟨rfl, rfl⟩
 rw [KA.out.lrecs]
 go_wp2_with fail
 refine (z30 H.out).mono ?_; rintro _ _ ⟨rfl, rfl⟩
 rw [KA.out.seg]
 go_wp2_with (first | go_skip | (with_reducible refine zo ?_) | (with_reducible refine zy (s := 22) ?_) | fail)
 refine za (zj rfl (zl el31 [.int .u8 120] rfl (by simp [List.range'_succ]; first | done | rfl) (by simp [Value.cells]) (by simp)) ?_)
 rintro _ w3 ⟨g, rfl, n3⟩
 simp only [Nat.reduceAdd, qn]
 go_wp2_with (first | go_skip | (with_reducible refine zo ?_) | (with_reducible refine zy (s := 22) ?_) | fail)
 refine za (zj rfl (z5j Tryz.underlying22 Tryz.underlying5 (by rfl) n3.blk) ?_)
 rintro _ w4 hm
 obtain ⟨rfl, hby, k4, hg1, hg2⟩ := z3g (n := 1) (l := [120]) n3 hm rfl (by simp [Value.cells]) rfl (by simp) (by omega)
 obtain ⟨hl4, hb4⟩ := LS.lit H.out k4 hg1 hg2 hby
 have H4 := qq hl4
 have B4 := qq hb4
 clear n3 hm hby k4 hl4 hb4 H
 simp only [Nat.reduceAdd, qn]
 have AP := qq (z3f H4.out B4.out (by have := P.out; omega) (by rw [KA.out.lsegs]; omega) (by rw [KA.out.lrecs]; simp) (by rw [KA.out.lsize]; simp [enc]))
 clear H4 B4
 go_wp2_with fail
 refine AP.out.mono ?_
 rintro _ w5 ⟨er, L5, X5, rfl, hl5, hr5, hp5, -⟩
 obtain ⟨rfl, ka5⟩ := zcx KA.out (by simp [Recs, mxr]) (by omega) (by decide) (by decide) (by simp [enc]) hr5
 have P5 : Hid (pot X5 <= 18) := qq (by have := P.out; omega)
 have KA5 := qq ka5
 have H5 := qq (hl5.mono (O' := fun _ => False) (fun _ e => e.elim))
 clear hl5 hr5 hp5 ka5 KA P AP
 go_wp2_with fail
 refine (z1c 0 w5).mono ?_; rintro _ _ ⟨rfl, rfl⟩
 have SY := qq (z7c H5.out (by have := P5.out; omega))
 clear H5
 go_wp2_with fail
 refine SY.out.mono ?_
 rintro _ w6 ⟨er, L6, X6, rfl, hl6, hr6, hp6, -⟩
 obtain ⟨rfl, ka6⟩ := ka_syn KA5.out hr6
 have P6 : Hid (pot X6 <= 19) := qq (by have := P5.out; omega)
 have KA6 := qq ka6
 have H := qq hl6
 clear hl6 hr6 hp6 ka6 KA5 P5 SY
 go_wp2_with fail
 refine (z1c 0 w6).mono ?_; rintro _ _ ⟨rfl, rfl⟩
 go_wp2_with (first | go_skip | (with_reducible refine zo ?_) | (with_reducible refine zy (s := 22) ?_) | fail)
 refine za (zj rfl (zl el31 [.int .u8 121] rfl (by simp [List.range'_succ]; first | done | rfl) (by simp [Value.cells]) (by simp)) ?_)
 rintro _ w3 ⟨g, rfl, n3⟩
 simp only [Nat.reduceAdd, qn]
 go_wp2_with (first | go_skip | (with_reducible refine zo ?_) | (with_reducible refine zy (s := 22) ?_) | fail)
 refine za (zj rfl (z5j Tryz.underlying22 Tryz.underlying5 (by rfl) n3.blk) ?_)
 rintro _ w4 hm
 obtain ⟨rfl, hby, k4, hg1, hg2⟩ := z3g (n := 1) (l := [121]) n3 hm rfl (by simp [Value.cells]) rfl (by simp) (by omega)
 obtain ⟨hl4, hb4⟩ := LS.lit H.out k4 hg1 hg2 hby
 have H4 := qq hl4
 have B4 := qq hb4
 clear n3 hm hby k4 hl4 hb4 H
 simp only [Nat.reduceAdd, qn]
 have AP := qq (z3f H4.out B4.out (by have := P6.out; omega) (by rw [KA6.out.lsegs]; omega) (by rw [KA6.out.lrecs]; simp) (by rw [KA6.out.lsize]; simp [enc, zu]))
 clear H4 B4
 go_wp2_with fail
 refine AP.out.mono ?_
 rintro _ w7 ⟨er, L7, X7, rfl, hl7, hr7, hp7, -⟩
 obtain ⟨rfl, ka7⟩ := zcx KA6.out (by simp [Recs, mxr]) (by omega) (by decide) (by decide) (by simp [enc, zu]) hr7
 have KA7 := qq ka7
 have D7 := qq (LS.disk (hl7.mono (O' := fun _ => False) (fun _ e => e.elim)))
 clear hl7 hr7 hp7 ka7 KA6 P6 AP
 go_wp2_with fail
 refine (z1c 0 w7).mono ?_; rintro _ _ ⟨rfl, rfl⟩
 go_wp2_with (first | go_skip | (with_reducible refine qv (by decide) ?_))
 refine za (zj rfl (zl el35 [.int .i64 3] rfl (by simp [List.range'_succ]; first | done | rfl) (by simp [Value.cells]) (by simp)) ?_)
 rintro _ w8 ⟨g8, rfl, n8⟩
 simp only [Nat.reduceAdd, qn]
 have CR := qq (z8o (D7.out.nb n8.k) _ [3] (zd3 (n := 1) (l := [3]) n8 rfl (by simp [I64]) (by omega)) (by rw [KA7.out.st, KA7.out.la]; obtain ⟨g, hg, -⟩ := KA7.out.ex; have := hg.qt.bd.nf; simp; omega))
 clear n8 D7
 go_wp2_with fail
 refine CR.out.mono ?_
 rintro _ w9 ⟨c, D9, fc9, φ, l2, bs, rfl, hd9, -, hr9⟩
 obtain ⟨i9, q9, f9, e9, p9⟩ := zef KA7.out hr9
 have I9 := qq i9; have Q9 := qq q9; have F9 := qq f9; have E9 := qq e9
 have OP := qq (z3s hd9 sa 99 z1q z1p (by omega) (by omega) (by omega))
 have P9 : Hid (pot ⟨D9, fc9⟩ <= 8) := qq (by omega)
 clear hd9 hr9 i9 q9 f9 e9 p9 KA7 CR
 go_wp2_with fail
 refine OP.out.mono ?_
 rintro _ w10 ⟨er, L, X, hr, hp, -, hc⟩
 obtain ⟨rfl, fe10, r10, s10, m10, g10, gs10⟩ := zg9 I9.out F9.out E9.out Q9.out hr
 obtain ⟨-, l, rfl, hls⟩ := hc.resolve_right fun h => h.1 rfl
 have P10 : Hid (pot X <= 20) := qq (by have := P9.out; omega)
 have FE := qq fe10; have RS := qq r10; have SG := qq s10; have GS10 := qq gs10
 have H := qq hls
 clear hr hp hls hc fe10 r10 s10 m10 gs10 OP I9 Q9 F9 E9 P9
 go_wp2_with fail
 refine (z1c 0 w10).mono ?_; rintro _ _ ⟨rfl, rfl⟩
 go_wp2_with (first | go_skip | (with_reducible refine zo ?_) | (with_reducible refine zy (s := 22) ?_) | fail)
 refine za (zj rfl (zl el31 [.int .u8 120] rfl (by simp [List.range'_succ]; first | done | rfl) (by simp [Value.cells]) (by simp)) ?_)
 rintro _ w11 ⟨g11, rfl, n11⟩
 simp only [Nat.reduceAdd, qn]
 go_wp2_with (first | go_skip | (with_reducible refine zo ?_) | (with_reducible refine zy (s := 22) ?_) | fail)
 refine za (zj rfl (zl el27 [.slice (some ⟨g11, 0, none⟩) 1 1] rfl (by simp [List.range'_succ]; first | done | rfl) (by simp [Value.cells]) (by simp)) ?_)
 rintro _ w12 ⟨g12, rfl, n12⟩
 simp only [Nat.reduceAdd, qn]
 have HL := qq (H.out.nb (n11.k.trans_nb n12.k))
 have ON := qq (z96 HL.out RS.out n12 n11 (by omega))
 clear n11 n12 H
 go_wp2_with fail
 refine ON.out.mono ?_
 rintro _ w13 ⟨rfl, k13⟩
 have H := qq (HL.out.nb k13)
 clear k13 ON HL
 go_wp2_with fail
 refine (z30 H.out).mono ?_; rintro _ _ ⟨rfl, rfl⟩
 rw [SG.out]
 go_wp2_with (first | go_skip | (with_reducible refine zo ?_) | (with_reducible refine zy (s := 22) ?_) | fail)
 refine za (zj rfl (zl el31 [.int .u8 115] rfl (by simp [List.range'_succ]; first | done | rfl) (by simp [Value.cells]) (by simp)) ?_)
 rintro _ w3 ⟨g, rfl, n3⟩
 simp only [Nat.reduceAdd, qn]
 go_wp2_with (first | go_skip | (with_reducible refine zo ?_) | (with_reducible refine zy (s := 22) ?_) | fail)
 refine za (zj rfl (z5j Tryz.underlying22 Tryz.underlying5 (by rfl) n3.blk) ?_)
 rintro _ w4 hm
 obtain ⟨rfl, hby, k4, hg1, hg2⟩ := z3g (n := 1) (l := [115]) n3 hm rfl (by simp [Value.cells]) rfl (by simp) (by omega)
 obtain ⟨hl4, hb4⟩ := LS.lit H.out k4 hg1 hg2 hby
 have H4 := qq hl4
 have B4 := qq hb4
 clear n3 hm hby k4 hl4 hb4 H
 simp only [Nat.reduceAdd, qn]
 have TN := qq (zal H4.out B4.out (by have := P10.out; omega))
 clear H4 B4
 go_wp2_with fail
 refine TN.out.mono ?_
 rintro _ w14 ⟨er, L14, X14, rfl, hl14, hr14, hp14, -⟩
 obtain ⟨rfl, fe14, r14, z14, s14, g14, gs14, sn14⟩ := zga GS10.out FE.out (by simp [Recs, mxr]) (by omega) (by decide) (by decide) (by decide) hr14
 have P14 : Hid (pot X14 <= 39) := qq (by have := P10.out; omega)
 have H := qq (hl14.mono (O' := fun _ => False) (fun _ e => e.elim))
 have FE14 := qq fe14; have R14 := qq r14; have Z14 := qq z14; have S14 := qq s14; have GS14 := qq gs14; have SN14 := qq sn14
 clear hl14 hr14 hp14 fe14 r14 z14 s14 gs14 sn14 TN GS10 FE RS SG P10
 go_wp2_with fail
 refine (z1c 0 w14).mono ?_; rintro _ _ ⟨rfl, rfl⟩
 go_wp2_with (first | go_skip | (with_reducible refine zo ?_) | (with_reducible refine zy (s := 22) ?_) | fail)
 refine za (zj rfl (zl el31 [.int .u8 122] rfl (by simp [List.range'_succ]; first | done | rfl) (by simp [Value.cells]) (by simp)) ?_)
 rintro _ w3 ⟨g, rfl, n3⟩
 simp only [Nat.reduceAdd, qn]
 go_wp2_with (first | go_skip | (with_reducible refine zo ?_) | (with_reducible refine zy (s := 22) ?_) | fail)
 refine za (zj rfl (z5j Tryz.underlying22 Tryz.underlying5 (by rfl) n3.blk) ?_)
 rintro _ w4 hm
 obtain ⟨rfl, hby, k4, hg1, hg2⟩ := z3g (n := 1) (l := [122]) n3 hm rfl (by simp [Value.cells]) rfl (by simp) (by omega)
 obtain ⟨hl4, hb4⟩ := LS.lit H.out k4 hg1 hg2 hby
 have H4 := qq hl4
 have B4 := qq hb4
 clear n3 hm hby k4 hl4 hb4 H
 simp only [Nat.reduceAdd, qn]
 have AP := qq (z3f H4.out B4.out (by have := P14.out; omega) (by rw [S14.out]; omega) (by rw [R14.out]; simp) (by rw [Z14.out]; omega))
 clear H4 B4
 go_wp2_with fail
 refine AP.out.mono ?_
 rintro _ w15 ⟨er, L15, X15, rfl, hl15, hr15, hp15, -⟩
 obtain ⟨rfl, fe15, r15, g15, gs15, sn15⟩ := kb_app GS14.out FE14.out (by simp [Recs, mxr]) (by omega) (by decide) (by decide) hr15
 have P15 : Hid (pot X15 <= 45) := qq (by have := P14.out; omega)
 have H := qq (hl15.mono (O' := fun _ => False) (fun _ e => e.elim))
 have FE15 := qq fe15; have GS15 := qq gs15; have SN15 := qq (sn15.trans SN14.out); have R15 := qq (r15.trans (by rw [R14.out]; rfl : _ = [[122]]))
 clear hl15 hr15 hp15 fe15 r15 gs15 sn15 AP GS14 FE14 R14 Z14 S14 SN14 P14
 go_wp2_with fail
 refine (z1c 0 w15).mono ?_; rintro _ _ ⟨rfl, rfl⟩
 have SY := qq (z7c H.out (by have := P15.out; omega))
 clear H
 go_wp2_with fail
 refine SY.out.mono ?_
 rintro _ w16 ⟨er, L16, X16, rfl, hl16, hr16, hp16, -⟩
 obtain ⟨rfl, i16, f16, e16, q16⟩ := kb_syn GS15.out FE15.out SN15.out R15.out hr16
 have OP := qq (z3s hl16.disk sa 99 z1q z1p (by omega) (by omega) (by have := P15.out; omega))
 have I16 := qq i16; have F16 := qq f16; have E16 := qq e16; have Q16 := qq q16
 clear hl16 hr16 hp16 i16 f16 e16 q16 SY GS15 FE15 SN15 R15 P15
 go_wp2_with fail
 refine (z1c 0 w16).mono ?_; rintro _ _ ⟨rfl, rfl⟩
 go_wp2_with fail
 refine OP.out.mono ?_
 rintro _ w17 ⟨er, L, X, hr, hp, -, hc⟩
 obtain ⟨rfl, r17, h17, s17⟩ := zgb I16.out F16.out E16.out Q16.out hr
 obtain ⟨-, l, rfl, hls⟩ := hc.resolve_right fun h => h.1 rfl
 have H := qq hls; have RS := qq r17
 have SP := qq (zgd hls)
 rw [h17, s17] at SP
 clear hr hp hls hc r17 h17 s17 OP I16 F16 E16 Q16
 go_wp2_with fail
 refine (z1c 0 w17).mono ?_; rintro _ _ ⟨rfl, rfl⟩
 go_wp2_with fail
 refine SP.out.mono ?_
 rintro _ w18 ⟨v, rfl, hb, k18⟩
 obtain ⟨ad, c, rfl, -, -, hrd, -⟩ := id hb
 have HH := qq hrd.has
 have H := qq (H.out.nb k18)
 clear hb k18 hrd SP
 go_wp2_with (first | go_skip | (with_reducible refine zo ?_) | (with_reducible refine zy (s := 22) ?_) | fail)
 refine za (zw (v := .string (bstr [115])) rfl (z9f Tryz.underlying22 Tryz.underlying5 Tryz.underlying9 (by rfl) HH.out rfl) ?_)
 simp only [Nat.reduceAdd, qn]
 have q1 : (bstr [115]).toList = ([115] : List UInt8) := by first | rfl | decide | decide +kernel
 go_wp2_with (first | go_skip | (with_reducible refine zo ?_) | (with_reducible refine zy (s := 22) ?_) | fail)
 refine za (zj rfl (zl el31 [.int .u8 122] rfl (by simp [List.range'_succ]; first | done | rfl) (by simp [Value.cells]) (by simp)) ?_)
 rintro _ w11 ⟨g11, rfl, n11⟩
 simp only [Nat.reduceAdd, qn]
 go_wp2_with (first | go_skip | (with_reducible refine zo ?_) | (with_reducible refine zy (s := 22) ?_) | fail)
 refine za (zj rfl (zl el27 [.slice (some ⟨g11, 0, none⟩) 1 1] rfl (by simp [List.range'_succ]; first | done | rfl) (by simp [Value.cells]) (by simp)) ?_)
 rintro _ w12 ⟨g12, rfl, n12⟩
 simp only [Nat.reduceAdd, qn]
 have HL := qq (H.out.nb (n11.k.trans_nb n12.k))
 have ON := qq (z96 HL.out RS.out n12 n11 (by omega))
 clear n11 n12 H
 go_wp2_with fail
 refine ON.out.mono ?_
 rintro _ w19 ⟨rfl, k19⟩
 have HK := qq (HL.out.nb k19).k
 clear k19 ON HL HH q1
 go_wp2
 go_ret
 exact ⟨rfl, HK.out⟩
end Go.Proofs.YtpjomdmjohjheaaGreatDoor
end
section
namespace Go.Log
open Go.Lk Go.RowKit Go.Vfs
variable {W0 w w' w2 : World} {l d : Nat} {L L' : Lg} {X Y : Ds} {O O' B : Nat -> Prop}
def sw : ByteArray := ⟨#[119]⟩
theorem z8j : mnB sw = true := by decide
theorem z8i : sw.size <= 16 := by decide
end Go.Log
namespace Go.Proofs.YtpjomdmjohjheaaGreatDoor
open Go.RowKit Go.Lk Go.Vfs Go.Log
variable {W0 w w' w2 : World} {l d : Nat} {L L' : Lg} {X Y : Ds} {O O' : Nat -> Prop} {e : Int} {c : Int} {most : Nat}
theorem zbk (hc : 24 <= c) (hr : openR sw most ⟨newD c, fun _ => ⟨[], 0⟩⟩ e L Y) : e = 0 /\ L = { lg0 sw most with first := 1, segment := 1, segments := 1 } /\ Y.D.fe = 0 /\ ∃ g, GS sw L Y g 2 24 1 c /\ g.sn = none /\ (∀ t b, Y.dir t = some b -> t = manf sw \/ t = sgf sw 1) := by
 obtain ⟨h1, h2, h3, h4, h5, g, h6, h7, h8⟩ := z8w z8j z8i (zd5 c) (zao c) rfl (zd4 sw c) (by decide) (by omega) rfl hr
 refine ⟨h1, h2, h3, g, h6, h7, fun t b hb => ?_⟩
 rcases (h8 t).2 ⟨b, hb⟩ with h | h | ⟨-, b', h⟩
 ·
  exact .inl h
 ·
  exact .inr h
 ·
  exact absurd (show (none : Option Nat) = some b' from h) nofun
end Go.Proofs.YtpjomdmjohjheaaGreatDoor
end
section
namespace Go.Proofs.YtpjomdmjohjheaaGreatDoor
open Go.Vfs Go.Log
variable {nm : ByteArray} {L L' : Lg} {X Y : Ds} {g h : Sh} {x : List Nat} {e : Int} {most m j n : Nat}
structure NP (g h : Sh) : Prop where
 m : h.m = g.m
 cl : h.cl.length = g.cl.length
 closed : h.closed.length = g.closed.length
 rs : h.rs <+: g.rs
theorem zem (g : Sh) : Trims (NP g) := fun h j hp _ _ _ => ⟨hp.m, hp.cl, hp.closed, (List.take_prefix _ _).trans hp.rs⟩
theorem zgj (g : Sh) (v : Nat -> Nat) (n : Nat) : NP g (g.move v n) := ⟨rfl, by unfold Sh.move; simp, by rw [z5r], List.prefix_rfl⟩
theorem zfy {a b : List (List Nat)} (h : a <+: b) : (enc a).length <= (enc b).length := by
 obtain ⟨t, rfl⟩ := h
 rw [z0w, List.length_append]; omega
structure NBd (k t : Nat) (L : Lg) (X : Ds) : Prop where
 pot : Go.Log.pot X <= 1000 + 19 * (k : Int)
 segs : L.segments <= 1 + k
 recs : L.recs.length <= k
 size : L.size <= 8 * k + t
 wt : Wt (2 + 3 * k) (4 + 200 * k) X
variable {k t : Nat}
theorem NBd.mono_t {t' : Nat} (h : NBd k t L X) (ht : t <= t') : NBd k t' L X := ⟨h.pot, h.segs, h.recs, by have := h.size; omega, h.wt⟩
theorem NBd.skip (h : NBd k t L X) (u : Nat) : NBd (k + 1) (t + u) L X := ⟨by have := h.pot; omega, by have := h.segs; omega, by have := h.recs; omega, by have := h.size; omega, h.wt.mono (by omega) (by omega)⟩
theorem NBd.app (h : NBd k t L X) (hl : x.length <= mxr) (hb : L.bad = false) (hn : L'.bad = false) (hr : appR L x X e L' Y) (hp : Go.Log.pot Y <= Go.Log.pot X + 6) : NBd (k + 1) (t + x.length) L' Y := by
 have h1 := h.pot; have h2 := h.segs; have h3 := h.recs; have h4 := h.size
 rcases zdx hl hb hr with h0 | ⟨-, -, a1, -, -, -, -, a2⟩
 ·
  rw [h0] at hn; cases hn
 ·
  exact ⟨by omega, by omega, by rw [a1]; simp; omega, by omega, (wt_app h.wt hr).mono (by omega) (by omega)⟩
theorem NBd.syn (h : NBd k t L X) (hb : L.bad = false) (hn : L'.bad = false) (hr : synR L X e L' Y) (hp : Go.Log.pot Y <= Go.Log.pot X + 1) (u : Nat) : NBd (k + 1) (t + u) L' Y := by
 have h1 := h.pot; have h2 := h.segs; have h3 := h.recs; have h4 := h.size
 rcases zf8 hb hr with ⟨-, rfl⟩ | ⟨-, rfl⟩
 ·
  cases hn
 ·
  exact ⟨by omega, by show L.segments <= _; omega, by show L.recs.length <= _; omega, by show L.size <= _; omega, (wt_syn h.wt hr).mono (by omega) (by omega)⟩
theorem NBd.turn (h : NBd k t L X) (hl : x.length <= mxr) (hb : L.bad = false) (hn : L'.bad = false) (hr : turnR L x X e L' Y) (hp : Go.Log.pot Y <= Go.Log.pot X + 19) (hk : k <= 60) (u : Nat) : NBd (k + 1) (t + u) L' Y := by
 have h1 := h.pot
 rcases zdu hl hb hr with ⟨-, rfl⟩ | ⟨-, -, a1, -, -, -, a2, a3⟩
 ·
  cases hn
 ·
  exact ⟨by omega, by omega, by rw [a1]; simp, by omega, (zhi h.wt hr).mono (by omega) (by omega)⟩
theorem z8d {zs : List Int} {D' : Dk} {fc' : Nat -> Fl} {φ : Nat -> Option Nat} {l2 : List (ByteArray × Nat)} {bs : List Bool} (hl : LI nm L X g) (hn : (X.D.lasting.map Prod.fst).Nodup) (hc : CrashR zs X.D X.fc D' fc' φ l2 bs) : In nm ⟨D', fc'⟩ (NP g) := by
 obtain ⟨f, q, v, n, -, rfl, -, h4, -⟩ := z5o hl.inn hn hc
 exact h4.mono fun h e => by subst e; exact zgj _ _ _
theorem z94 (hm : mnB nm = true) (h16 : nm.size <= 16) (hi : In nm X (NP g)) (hF : Fau X.D) (hfe : X.D.fe = 0) (hnd : (X.D.files.map Prod.fst).Nodup) (hr : openR nm most X e L' Y) :
  e = 0 /\ ∃ g', LI nm L' Y g' /\ L'.segment = g.m /\ L'.segments = g.cl.length + 1 /\ L'.recs.length <= g.closed.length + g.rs.length /\ L'.size <= (enc g.rs).length := by
 obtain ⟨h, j, h1, h2, h3, h4, h5, h7, ⟨en, e1, e2, e3, e4, e5⟩, h8⟩ := z6l hm h16 hnd hi (zem g) hr
 have f := zaf hm h16 hF h2.m1.2 e4 e1 e3 e5
 have e0 := (f.calm hfe).1
 obtain ⟨g1, -, -⟩ := h8 e0
 refine ⟨e0, _, g1, ?_, ?_, ?_, ?_⟩
 ·
  exact g1.seg.trans h1.m
 ·
  have : L'.segments = h.cl.length + 1 := g1.segs
  rw [this, h1.cl]
 ·
  have : L'.recs = h.closed ++ h.rs.take j := g1.recs
  rw [this, List.length_append, List.length_take, h1.closed]
  have := h1.rs.length_le
  omega
 ·
  have : L'.size = (enc (h.rs.take j)).length := g1.size
  rw [this]
  exact zfy ((List.take_prefix _ _).trans h1.rs)
theorem NBd.crash {zs : List Int} {D' : Dk} {fc' : Nat -> Fl} {φ : Nat -> Option Nat} {l2 : List (ByteArray × Nat)} {bs : List Bool} (h : NBd k t L X) (hl : LI nm L X g) (hc : CrashR zs X.D X.fc D' fc' φ l2 bs) (hr : openR nm most ⟨D', fc'⟩ e L' Y) (hp : Go.Log.pot Y <= Go.Log.pot ⟨D', fc'⟩ + 12) (hk : k <= 60)
  (h1 : L'.segments = g.cl.length + 1) (h2 : L'.recs.length <= g.closed.length + g.rs.length) (h3 : L'.size <= (enc g.rs).length) (u : Nat) : NBd (k + 1) (t + u) L' Y := by
 obtain ⟨w1, w2, -, -⟩ := z9p h.wt hc
 have a1 := h.segs; have a2 := h.recs; have a3 := h.size
 rw [hl.segs] at a1
 rw [hl.recs, List.length_append] at a2
 rw [hl.size, hl.full] at a3
 exact ⟨by omega, by omega, by omega, by omega, (zbc w1 hr).mono (by omega) (by omega)⟩
theorem NBd.new (hr : openR sw most ⟨newD 200000, fun _ => ⟨[], 0⟩⟩ e L Y) (hp : Go.Log.pot Y <= 12) : e = 0 /\ NBd 0 0 L Y /\ L.segment = 1 /\ ∃ g, LI sw L Y g := by
 obtain ⟨h1, h2, -, g, h3, -⟩ := zbk (by omega) hr
 refine ⟨h1, ?_, by rw [h2], g, h3.li⟩
 subst h2
 exact ⟨by omega, Nat.le_refl _, Nat.le_refl _, Nat.le_refl _, (zbc (new_wt 200000) hr).mono (by omega) (by omega)⟩
end Go.Proofs.YtpjomdmjohjheaaGreatDoor
end
section
namespace Go.Proofs.YtpjomdmjohjheaaGreatDoor.logNumbers
open Go.RowKit Go.Lk Go.Vfs Go.Log Go.Proofs.YtpjomdmjohjheaaGreatDoor
def NI (W0 : World) (steps : List StepD) (k : Nat) (wr : World) (dv xv lv : Value) : Prop :=
 ∃ l d L X g, dv = .pointer (some ⟨d, 0, none⟩) /\ xv = .pointer (some ⟨l, 0, none⟩) /\ lv = .int .i64 (L.segment : Nat) /\ LS W0 wr l d L X (fun _ => False) /\ LI sw L X g /\ NBd k ((steps.take k).map wgt).sum L X
theorem body (w : World) (hv : Vars w) (h6 : 6 <= w.heap.size) (a : Option Addr) (m c : Nat) (steps : List StepD) (hs : StepsAt w w a m c steps) (most : Int) (pv : Value) (zs : List Int) (hpv : PicksV w pv zs) : Calls Tryz.prog 4 #[.slice a m c, .int .i64 most, pv] w fun e w' => e = .returned (.bool true) /\ Keeps Nb w w' := by
 have HV := qq hv; have H6 := qq h6; have HST := qq hs; have HPV := qq hpv
 obtain ⟨hl, hmc, hcm, -⟩ := hs
 have hcm2 : m <= c /\ c <= 9223372036854775807 := by unfold maxLen at hcm; exact ⟨hmc, hcm⟩
 obtain ⟨pa, pc, rfl, hpc1, hpc2, -⟩ := hpv
 have hpc3 : zs.length <= pc /\ pc <= 9223372036854775807 := by unfold maxLen at hpc2; exact ⟨hpc1, hpc2⟩
 have HL := qq hl
 obtain ⟨pn, hpn⟩ : ∃ n, zs.length = n := ⟨_, rfl⟩
 rw [hpn] at HPV hpc3 ⊢
 clear hmc hcm hv h6 hl hpc1 hpc2 hpn
 go_enter Tryz.func4, Tryz.ntmps4
 go_wp2_with fail
 refine (zgi 40 a m c steps w w HST.out (by omega)).mono ?_
 rintro _ w1 ⟨r, rfl, hf, k1⟩
 have HF := qq hf
 have K1 := qq k1
 clear hf k1
 cases r with
 | true =>
  go_wp2_with fail
  refine (z1b w1 (HV.out.nb K1.out) (Nat.le_trans H6.out K1.out.size)).mono ?_
  rintro _ wk ⟨rfl, kk⟩
  go_wp2
  go_ret
  exact ⟨rfl, K1.out.trans_nb kk⟩
 | false =>
  have HFEW := qq (HF.out rfl)
  have hm : m <= 40 := by have := HFEW.out.1; rw [HL.out] at this; omega
  clear HF
  by_cases c1 : most < 20
  ·
   go_wp2_with fail
   refine (z1b w1 (HV.out.nb K1.out) (Nat.le_trans H6.out K1.out.size)).mono ?_
   rintro _ wk ⟨rfl, kk⟩
   go_wp2
   go_ret
   exact ⟨rfl, K1.out.trans_nb kk⟩
  by_cases c2 : most > 1048576
  ·
   go_wp2_with fail
   refine (z1b w1 (HV.out.nb K1.out) (Nat.le_trans H6.out K1.out.size)).mono ?_
   rintro _ wk ⟨rfl, kk⟩
   go_wp2
   go_ret
   exact ⟨rfl, K1.out.trans_nb kk⟩
  by_cases c3 : (pn : Int) > 100
  ·
   go_wp2_with fail
   refine (z1b w1 (HV.out.nb K1.out) (Nat.le_trans H6.out K1.out.size)).mono ?_
   rintro _ wk ⟨rfl, kk⟩
   go_wp2
   go_ret
   exact ⟨rfl, K1.out.trans_nb kk⟩
  obtain ⟨mo, rfl⟩ := Int.eq_ofNat_of_zero_le (show 0 <= most by omega)
  go_wp2_with fail
  refine (zcm (W0 := w) (O := fun _ => False) K1.out HV.out H6.out (fun _ e => e.elim) 200000 (by omega)).mono ?_
  rintro _ w2 ⟨d, rfl, hd, -⟩
  have OP := qq (z3s hd sw mo z8j z8i (by omega) (by omega) (by show pot ⟨newD 200000, _⟩ + 12 <= _; unfold pot; simp [newD]))
  clear hd
  go_wp2_with fail
  refine OP.out.mono ?_
  rintro _ w3 ⟨er, A, X, hr, hp, -, hc⟩
  obtain ⟨rfl, nb, hseg, g, hg⟩ := NBd.new hr hp
  obtain ⟨-, x, rfl, hls⟩ := hc.resolve_right fun h => h.1 rfl
  have H := qq hls
  have I0 : Hid (NI w steps 0 w3 (.pointer (some ⟨d, 0, none⟩)) (.pointer (some ⟨x, 0, none⟩)) (.int .i64 (1 : Nat))) := qq ⟨x, d, A, X, g, rfl, rfl, by rw [hseg], hls, hg, by simpa using nb⟩
  have SG := z30 hls
  rw [hseg] at SG
  replace SG := qq SG
  clear hr hp hc nb hseg hg hls OP
  go_wp2_with fail
  refine (z1c 0 w3).mono ?_; rintro _ _ ⟨rfl, rfl⟩
  go_wp2_with fail
  refine SG.out.mono ?_; rintro _ _ ⟨rfl, rfl⟩
  clear SG
  go_wp2
  go_loopw [7, 9, 11, 12] (fun dv xv lv i wr => ∃ k : Nat, k <= m /\ i = .int .i64 k /\ NI w steps k wr dv xv lv) (fun _ _ _ i _ => m - (intOf i).toNat)
  case atStart => exact ⟨0, Nat.zero_le _, rfl, I0.out⟩
  case round =>
   obtain ⟨k, hk, rfl, l, d, L, X, g, rfl, rfl, rfl, q1, q2, q3⟩ := hrel
   have HS := qq q1; have HLI := qq q2; have HNB := qq q3
   clear q1 q2 q3 I0 H
   by_cases hlt : k < m
   ·
    have i1 : (k : Int) < (m : Int) := by omega
    obtain ⟨s, hs⟩ : ∃ s, steps[k]? = some s := ⟨_, List.getElem?_eq_getElem (by rw [HL.out]; exact hlt)⟩
    have htake : ((steps.take (k + 1)).map wgt).sum = ((steps.take k).map wgt).sum + wgt s := by
     rw [List.take_succ_eq_append_getElem (List.getElem?_eq_some_iff.1 hs).1, (List.getElem?_eq_some_iff.1 hs).2]; simp
    have HTK := qq htake
    have HRX : Hid (Recs [s.b]) := qq (zbz HST.out HFEW.out s (List.mem_of_getElem? hs))
    have HT0 : Hid (((steps.take k).map wgt).sum <= 20000) := qq (Nat.le_trans (z9k steps k) HFEW.out.2)
    have HBL : Hid (s.b.length <= wgt s) := qq (by unfold wgt; omega)
    obtain ⟨sb, so, cs, rfl, ⟨vb, vp, rfl, hvb, -⟩, hh⟩ := HST.out.2.2.2 k s hs
    have HVB := qq hvb
    obtain ⟨ba, bc, rfl, -⟩ := hvb.rows
    have cs0 : ∀ j u, (stc s (.slice ba s.b.length bc) vp)[j]? = some u -> ∀ wx, Keeps Nb w wx -> wx.cell? ⟨sb, so + k * 6 + j, none⟩ = some u := fun j u hj wx kx => by
     rcases hh with h | ⟨b', o', e, hc⟩
     ·
      cases h
     ·
      cases e; exact (kx.cell (lt_of_cell (hc j u hj)) (fun e => e)).trans (hc j u hj)
    have CS := qq cs0
    have c0 : wr.cell? ⟨sb, so + k * 6, none⟩ = some (.int .i64 s.kind) := cs0 0 _ rfl wr HS.out.k
    have i64 : IntKind.i64.wrap ((k : Int) + 1) = ((k + 1 : Nat) : Int) := by rw [IntWalk.i64_in _ (by omega)]; rfl
    obtain ⟨kd, hkd⟩ : ∃ n, s.kind = n := ⟨_, rfl⟩
    rw [hkd] at c0
    obtain ⟨sg, hsg⟩ : ∃ n, L.segment = n := ⟨_, rfl⟩
    have HSEG := qq hsg
    rw [hsg]
    clear hs htake hh hvb cs0 hkd hsg
    by_cases hk1 : kd = 1
    ·
     subst hk1
     have c4 : wr.cell? ⟨sb, so + k * 6 + 4, none⟩ = some (.slice ba s.b.length bc) := CS.out 4 _ rfl wr HS.out.k
     have AP := qq (z3f HS.out (v := .slice ba s.b.length bc) (bs := s.b) ((HVB.out.keeps HS.out.k (fun _ _ e => e)).mono fun k e => .inl e) (by have := HNB.out.pot; omega) (by have := HNB.out.segs; omega) (by have := HNB.out.recs; omega) (by have := HNB.out.size; have := HT0.out; omega))
     obtain ⟨bn, hbn⟩ : ∃ n, s.b.length = n := ⟨_, rfl⟩
     rw [hbn] at c4 AP
     clear hbn
     go_wp2_with fail
     refine AP.out.mono ?_
     rintro _ w7 ⟨er, L7, X7, rfl, hls, hr, hp7, -⟩
     have H7 := qq hls
     have HSG : Hid (sg <= L7.segment) := qq (by
      rw [<- HSEG.out]
      rcases z4i HLI.out HRX.out hr with ⟨-, -, h3, -⟩ | ⟨-, -, h3, -⟩
      ·
       exact h3
      ·
       exact Nat.le_of_eq h3.symm)
     have HOK : Hid (L7.bad = false -> ∃ g7, LI sw L7 X7 g7 /\ NBd (k + 1) (((steps.take k).map wgt).sum + wgt s) L7 X7) := qq fun hb => by
      rcases z4i HLI.out HRX.out hr with ⟨-, -, -, -, g7, h5, -⟩ | ⟨h1, -⟩
      ·
       exact ⟨g7, h5, (HNB.out.app (HRX.out _ (by simp)).1 HLI.out.nob hb hr hp7).mono_t (by have := HBL.out; omega)⟩
      ·
       rw [h1] at hb; cases hb
     clear hls hr hp7 AP c4 c0
     have SG := z30 H7.out
     obtain ⟨p, hp⟩ : ∃ n, L7.segment = n := ⟨_, rfl⟩
     rw [hp] at SG HSG
     have HP := qq hp
     replace SG := qq SG
     have hge : ¬ ((p : Int) < (sg : Int)) := by have := HSG.out; omega
     have hge2 : (sg : Int) <= (p : Int) := by omega
     clear hp
     go_wp2_with fail
     refine SG.out.mono ?_; rintro _ _ ⟨rfl, rfl⟩
     obtain ⟨bd, hbd⟩ : ∃ b, L7.bad = b := ⟨_, rfl⟩
     have HBD := qq hbd
     have RO := z8f H7.out
     rw [hbd] at RO
     replace RO := qq RO
     clear hbd
     go_wp2_with fail
     refine RO.out.mono ?_; rintro _ _ ⟨rfl, rfl⟩
     cases bd with
     | true =>
      go_wp2_with fail
      refine (z1b w7 (HV.out.nb H7.out.k) (Nat.le_trans H6.out H7.out.k.size)).mono ?_
      rintro _ wk ⟨rfl, kk⟩
      go_wp2
      go_ret
      exact ⟨rfl, H7.out.k.trans_nb kk⟩
     | false =>
      have HI : Hid (NI w steps (k + 1) w7 (.pointer (some ⟨d, 0, none⟩)) (.pointer (some ⟨l, 0, none⟩)) (.int .i64 (p : Nat))) := qq (by
       obtain ⟨g7, hg7, hnb7⟩ := HOK.out HBD.out
       exact ⟨l, d, L7, X7, g7, rfl, rfl, by rw [HP.out], H7.out, hg7, by rw [HTK.out]; exact hnb7⟩)
      clear hge hge2
      go_wp2
      go_roundw
      case rel => exact ⟨k + 1, by omega, by go_num, HI.out⟩
      case measure => simp [intOf]; omega
    ·
     by_cases hk2 : kd = 2
     ·
      subst hk2
      have n1 : ((2 : Int) == 1) = false := rfl
      have SY := qq (z7c HS.out (by have := HNB.out.pot; omega))
      clear hk1
      go_wp2_with fail
      refine SY.out.mono ?_
      rintro _ w7 ⟨er, L7, X7, rfl, hls, hr, hp7, -⟩
      have H7 := qq hls
      have HSG : Hid (sg <= L7.segment) := qq (by
       rw [<- HSEG.out]
       rcases z4c HLI.out hr with ⟨-, rfl, -⟩ | ⟨-, rfl, -⟩ <;> exact Nat.le_refl _)
      have HOK : Hid (L7.bad = false -> ∃ g7, LI sw L7 X7 g7 /\ NBd (k + 1) (((steps.take k).map wgt).sum + wgt s) L7 X7) := qq fun hb => by
       have h0 := HNB.out.syn HLI.out.nob hb hr hp7 (wgt s)
       rcases z4c HLI.out hr with ⟨-, rfl, h3⟩ | ⟨-, rfl, -⟩
       ·
        exact ⟨_, h3, h0⟩
       ·
        cases hb
      clear hls hr hp7 SY c0
      have SG := z30 H7.out
      obtain ⟨p, hp⟩ : ∃ n, L7.segment = n := ⟨_, rfl⟩
      rw [hp] at SG HSG
      have HP := qq hp
      replace SG := qq SG
      have hge : ¬ ((p : Int) < (sg : Int)) := by have := HSG.out; omega
      have hge2 : (sg : Int) <= (p : Int) := by omega
      clear hp
      go_wp2_with fail
      refine SG.out.mono ?_; rintro _ _ ⟨rfl, rfl⟩
      obtain ⟨bd, hbd⟩ : ∃ b, L7.bad = b := ⟨_, rfl⟩
      have HBD := qq hbd
      have RO := z8f H7.out
      rw [hbd] at RO
      replace RO := qq RO
      clear hbd
      go_wp2_with fail
      refine RO.out.mono ?_; rintro _ _ ⟨rfl, rfl⟩
      cases bd with
      | true =>
       go_wp2_with fail
       refine (z1b w7 (HV.out.nb H7.out.k) (Nat.le_trans H6.out H7.out.k.size)).mono ?_
       rintro _ wk ⟨rfl, kk⟩
       go_wp2
       go_ret
       exact ⟨rfl, H7.out.k.trans_nb kk⟩
      | false =>
       have HI : Hid (NI w steps (k + 1) w7 (.pointer (some ⟨d, 0, none⟩)) (.pointer (some ⟨l, 0, none⟩)) (.int .i64 (p : Nat))) := qq (by
        obtain ⟨g7, hg7, hnb7⟩ := HOK.out HBD.out
        exact ⟨l, d, L7, X7, g7, rfl, rfl, by rw [HP.out], H7.out, hg7, by rw [HTK.out]; exact hnb7⟩)
       clear hge hge2
       go_wp2
       go_roundw
       case rel => exact ⟨k + 1, by omega, by go_num, HI.out⟩
       case measure => simp [intOf]; omega
     ·
      by_cases hk3 : kd = 3
      ·
       subst hk3
       have n1 : ((3 : Int) == 1) = false := rfl
       have c4 : wr.cell? ⟨sb, so + k * 6 + 4, none⟩ = some (.slice ba s.b.length bc) := CS.out 4 _ rfl wr HS.out.k
       have TN := qq (zal HS.out (v := .slice ba s.b.length bc) (bs := s.b) ((HVB.out.keeps HS.out.k (fun _ _ e => e)).mono fun k e => .inl e) (by have := HNB.out.pot; omega))
       obtain ⟨bn, hbn⟩ : ∃ n, s.b.length = n := ⟨_, rfl⟩
       rw [hbn] at c4 TN
       clear hbn hk1 hk2
       go_wp2_with fail
       refine TN.out.mono ?_
       rintro _ w7 ⟨er, L7, X7, rfl, hls, hr, hp7, -⟩
       have H7 := qq hls
       have HSG : Hid (sg <= L7.segment) := qq (by
        rw [<- HSEG.out]
        rcases z4d HLI.out HRX.out hr with ⟨-, s', n', bm, bs, b', rfl, -, h4⟩ | ⟨-, rfl, -⟩
        ·
         exact h4
        ·
         exact Nat.le_refl _)
       have HOK : Hid (L7.bad = false -> ∃ g7, LI sw L7 X7 g7 /\ NBd (k + 1) (((steps.take k).map wgt).sum + wgt s) L7 X7) := qq fun hb => by
        have h0 := HNB.out.turn (HRX.out _ (by simp)).1 HLI.out.nob hb hr hp7 (by omega) (wgt s)
        rcases z4d HLI.out HRX.out hr with ⟨-, s', n', bm, bs, b', rfl, h3, -⟩ | ⟨-, rfl, -⟩
        ·
         exact ⟨_, h3, h0⟩
        ·
         cases hb
       clear hls hr hp7 TN c4 c0
       have SG := z30 H7.out
       obtain ⟨p, hp⟩ : ∃ n, L7.segment = n := ⟨_, rfl⟩
       rw [hp] at SG HSG
       have HP := qq hp
       replace SG := qq SG
       have hge : ¬ ((p : Int) < (sg : Int)) := by have := HSG.out; omega
       have hge2 : (sg : Int) <= (p : Int) := by omega
       clear hp
       go_wp2_with fail
       refine SG.out.mono ?_; rintro _ _ ⟨rfl, rfl⟩
       obtain ⟨bd, hbd⟩ : ∃ b, L7.bad = b := ⟨_, rfl⟩
       have HBD := qq hbd
       have RO := z8f H7.out
       rw [hbd] at RO
       replace RO := qq RO
       clear hbd
       go_wp2_with fail
       refine RO.out.mono ?_; rintro _ _ ⟨rfl, rfl⟩
       cases bd with
       | true =>
        go_wp2_with fail
        refine (z1b w7 (HV.out.nb H7.out.k) (Nat.le_trans H6.out H7.out.k.size)).mono ?_
        rintro _ wk ⟨rfl, kk⟩
        go_wp2
        go_ret
        exact ⟨rfl, H7.out.k.trans_nb kk⟩
       | false =>
        have HI : Hid (NI w steps (k + 1) w7 (.pointer (some ⟨d, 0, none⟩)) (.pointer (some ⟨l, 0, none⟩)) (.int .i64 (p : Nat))) := qq (by
         obtain ⟨g7, hg7, hnb7⟩ := HOK.out HBD.out
         exact ⟨l, d, L7, X7, g7, rfl, rfl, by rw [HP.out], H7.out, hg7, by rw [HTK.out]; exact hnb7⟩)
        clear hge hge2
        go_wp2
        go_roundw
        case rel => exact ⟨k + 1, by omega, by go_num, HI.out⟩
        case measure => simp [intOf]; omega
      ·
       by_cases hk6 : kd = 6
       ·
        subst hk6
        have n1 : ((6 : Int) == 1) = false := rfl
        have n2 : ((6 : Int) == 2) = false := rfl
        have n3 : ((6 : Int) == 3) = false := rfl
        have DD := HS.out.disk
        have CR := z8o DD _ zs (HPV.out.nb HS.out.k) (by have h1 := HNB.out.wt.l; have h2 := HNB.out.wt.s; omega)
        replace CR := qq CR
        have ND := qq DD.nodups.2
        clear hk1 hk2 hk3 DD
        go_wp2_with fail
        refine CR.out.mono ?_
        rintro _ w5 ⟨d5, D5, fc5, φ, l2, bs, rfl, hd5, -, hcr⟩
        have HIN := qq (z8d HLI.out ND.out hcr)
        have HCR := qq hcr
        have HWC := qq (z9p HNB.out.wt hcr)
        have ND5 := qq hd5.nodups.1
        have OP := qq (z3s hd5 sw mo z8j z8i (by omega) (by omega) (by have := HWC.out.2.1; omega))
        clear hd5 hcr CR
        go_wp2_with fail
        refine OP.out.mono ?_
        rintro _ w7 ⟨er, L7, X7, hr, hp7, -, hc⟩
        obtain ⟨rfl, g7, h1, h2, h3, h4, h5⟩ := z94 z8j z8i HIN.out HWC.out.2.2.1 HWC.out.2.2.2 ND5.out hr
        obtain ⟨-, y, rfl, hls⟩ := hc.resolve_right fun h => h.1 rfl
        have hsy : L7.segment = sg := by rw [h2, <- HSEG.out, HLI.out.seg]
        have HI : Hid (NI w steps (k + 1) w7 (.pointer (some ⟨d5, 0, none⟩)) (.pointer (some ⟨y, 0, none⟩)) (.int .i64 (sg : Nat))) := qq ⟨y, d5, L7, X7, g7, rfl, rfl, by rw [hsy], hls, h1, by rw [HTK.out]; exact HNB.out.crash HLI.out HCR.out hr hp7 (by omega) h3 h4 h5 _⟩
        have SG := z30 hls
        rw [hsy] at SG
        have RO := z8f hls
        rw [h1.nob] at RO
        replace SG := qq SG
        replace RO := qq RO
        clear hr hp7 hc h1 h2 h3 h4 h5 hsy hls OP HIN HCR HWC ND5 c0
        go_wp2_with fail
        refine (z1c 0 w7).mono ?_; rintro _ _ ⟨rfl, rfl⟩
        go_wp2_with fail
        refine SG.out.mono ?_; rintro _ _ ⟨rfl, rfl⟩
        go_wp2_with fail
        refine SG.out.mono ?_; rintro _ _ ⟨rfl, rfl⟩
        go_wp2_with fail
        refine SG.out.mono ?_; rintro _ _ ⟨rfl, rfl⟩
        go_wp2_with fail
        refine RO.out.mono ?_; rintro _ _ ⟨rfl, rfl⟩
        clear SG RO
        go_wp2
        go_roundw
        case rel => exact ⟨k + 1, by omega, by go_num, HI.out⟩
        case measure => simp [intOf]; omega
       ·
        have n1 : (kd == 1) = false := by simpa using hk1
        have n2 : (kd == 2) = false := by simpa using hk2
        have n3 : (kd == 3) = false := by simpa using hk3
        have n6 : (kd == 6) = false := by simpa using hk6
        have HI : Hid (NI w steps (k + 1) wr (.pointer (some ⟨d, 0, none⟩)) (.pointer (some ⟨l, 0, none⟩)) (.int .i64 (sg : Nat))) := qq ⟨l, d, L, X, g, rfl, rfl, by rw [HSEG.out], HS.out, HLI.out, by rw [HTK.out]; exact HNB.out.skip _⟩
        clear hk1 hk2 hk3 hk6
        go_wp2
        go_roundw
        case rel => exact ⟨k + 1, by omega, by go_num, HI.out⟩
        case measure => simp [intOf]; omega
   ·
    have hkm : k = m := by omega
    subst hkm
    go_wp2_with fail
    refine (z1b wr (HV.out.nb HS.out.k) (Nat.le_trans H6.out HS.out.k.size)).mono ?_
    rintro _ wk ⟨rfl, kk⟩
    go_wp2
    go_ret
    exact ⟨rfl, HS.out.k.trans_nb kk⟩
theorem walk {H : Type} {enc : TypeId × Value -> H} {base : Nat} (w : World) (hv : Vars w) (h6 : 6 <= w.heap.size) {v0 : Value} {d0 : DataW H} {p0 : List MemPlace} (kv0 : Value.okWide Tryz.prog w .any base 34 v0) (k0 : DataW.Trod enc Tryz.prog w 0 (fun _ => true) true 34 v0 d0 p0) {a1 : Int} (w1 : (Lit.int .i64 a1).wf = true) {v2 : Value} {d2 : DataW H} {p2 : List MemPlace} (kv2 : Value.okWide Tryz.prog w .any base 35 v2) (k2 : DataW.Trod enc Tryz.prog w 0 (fun _ => true) true 35 v2 d2 p2) :
  Calls Tryz.prog 4 #[v0, .int .i64 a1, v2] w fun e w' => e = .returned (.bool true) /\ Below w.heap.size w w' := by
 obtain ⟨a, c, L, rfl, hs⟩ := zf2 kv0 k0
 obtain ⟨b, n, cc, rfl⟩ := Go.WideShapes.okWide_slice Tryz.underlying35 kv2
 obtain ⟨fuel, hf⟩ := k2
 obtain ⟨vp, zs, e, hP⟩ := z99 hf
 simp [Value.cells] at e
 subst e
 refine (body w hv h6 a L.length c L hs a1 _ zs hP).mono ?_
 rintro e w' ⟨h1, h2⟩
 exact ⟨h1, h2.below⟩
end Go.Proofs.YtpjomdmjohjheaaGreatDoor.logNumbers
end
