/- The walk of ClockPlays: it returns true and writes nothing that was there. -/
import Derived.Test.YtffnaigkdocpmaaPartsW
import Derived.Test.YtffnaigkdocpmaaGreatestW
import Derived.StillTailTactics
set_option linter.unusedVariables false
namespace Go.Proofs.Ytffnaigkdocpmaa
open Go.RowKit Go.Lk

theorem greatest_cons (x : Int) (l : List Int) : greatest (x :: l) = mxs x l := by
  show mxs x (x :: l) = mxs x l
  simp [mxs, mx]
theorem tk_cons (x : Int) (l : List Int) : tk (x :: l) = ups x l := by
  show ups x (x :: l) = ups x l
  simp [ups, mx]

namespace clockPlays
set_option maxRecDepth 100000 in
set_option maxHeartbeats 4000000 in
theorem walk (a0 : Int) (a1 : Option Addr) (len1 cap1 : Nat) (z1 : List Int) (w : World) (w0 : (Lit.int .u64 a0).wf = true) (w1 : IsRow .u64 w a1 len1 cap1 z1) :
    Calls Try.prog 6 #[.int .u64 a0, .slice a1 len1 cap1] w fun e w' => e = .returned (.bool true) ∧ Below w.heap.size w w' := by
  obtain ⟨l, rfl, hcap, hcm, hr, -⟩ := w1.reads
  clear w0 w1
  unfold maxLen at hcm
  by_cases hlong : 300 < l.length
  · go_enter Try.func6, Try.ntmps6
    go_wp2_with fail
    refine (known_at _).mono ?_
    rintro e w1 ⟨rfl, K⟩
    go_wp2
    go_ret
    exact ⟨rfl, K.below⟩
  have hl : l.length ≤ 300 := by omega
  clear hlong
  have hs0 : (a0 != a0) = false := by simp
  go_enter Try.func6, Try.ntmps6
  go_wp2_with fail
  refine (new_at _ _).mono ?_; rintro e w1 ⟨b1, hb1, rfl, H1, K1⟩
  have hbl : b1 < w1.heap.size := H1.lt
  have hown : (w1.alloc (.cells #[.int .u64 a0] 24)).ownsRow (b1 + 1) 24 1 (.slice (some ⟨w1.heap.size, 0, none⟩) 1 1) 1 ([a0].map (.int .u64)) :=
    ⟨rfl, .inr ⟨_, 1, _, rfl, hbl, block_alloc _ _, by omega, by decide, rfl, rfl⟩⟩
  replace H1 := H1.keeps ((Keeps.refl Nb w1).alloc (.cells #[.int .u64 a0] 24)) (fun e => e)
  replace K1 := K1.alloc (.cells #[.int .u64 a0] 24)
  go_wp2_with fail
  refine (at_at _ _ _ _ H1).mono ?_; rintro e w' ⟨rfl, rfl⟩
  go_wp2_with fail
  refine (taken_at _ _ _ _ H1).mono ?_; rintro e w' ⟨rfl, rfl⟩
  generalize hww : w1.alloc (.cells #[.int .u64 a0] 24) = w2 at *
  have HW := Lib.hid hww; clear hww
  have hv : Hid (Value.slice (some ⟨w1.heap.size, 0, none⟩) 1 1 = Value.slice (some ⟨w1.heap.size, 0, none⟩) 1 1) := rfl
  go_wp2
  go_loopw [6, 7] (fun v i wr => ∃ k : Nat, k ≤ l.length ∧ i = .int .i64 k ∧ ClockAt wr b1 (mxs a0 (l.take k)) (ups a0 (l.take k)) ∧ Keeps Nb w wr ∧ (∃ a c, v = .slice a (k + 1) c ∧ wr.ownsRow (b1 + 1) 24 1 (.slice a (k + 1) c) (k + 1) ((a0 :: l.take k).map (.int .u64)))) (fun _ i _ => l.length - (intOf i).toNat)
  case atStart => exact ⟨0, by omega, rfl, H1, K1, _, _, rfl, hown⟩
  case round =>
    clear H1 K1 hown hv HW hbl
    obtain ⟨k, hk, rfl, H1, K1, a, c, rfl, hown⟩ := hrel
    by_cases hlt : k < l.length
    · rcases hr with rfl | ⟨b, off, rfl, hc⟩
      · simp at hlt
      have hck := (K1.cell (p := ⟨b, off + k, none⟩) (lt_of_cell (hc k hlt)) (fun e => e)).trans (hc k hlt)
      have hbb : b < w.heap.size := lt_of_cell (hc k hlt)
      have HM := Lib.hid (mxs_take (x := a0) hlt)
      have HU := Lib.hid (ups_take (x := a0) hlt)
      have HT := Lib.hid (take_snoc hlt)
      have hu := ups_le a0 l k (by omega)
      have hgr := greatest_cons a0 (l.take k)
      have htk := tk_cons a0 (l.take k)
      have hgr' := greatest_cons a0 (l.take (k + 1))
      have htk' := tk_cons a0 (l.take (k + 1))
      rw [mxs_take hlt] at hgr'
      rw [ups_take hlt] at htk'
      have HG := Lib.hid hgr; have HK := Lib.hid htk; have HG' := Lib.hid hgr'; have HK' := Lib.hid htk'
      clear hgr htk hgr' htk' hc
      generalize mxs a0 (l.take k) = x at *
      generalize ups a0 (l.take k) = n at *
      generalize nth l k = r at *
      have hlen : (a0 :: l.take k).length = k + 1 := by simp; omega
      have HLEN := Lib.hid hlen; clear hlen
      -- what the round needs of the two ways
      obtain ⟨y, n', lt, eq, t1, t2, t3, t4, t5⟩ : ∃ (y n' : Int) (lt eq : Bool), Hid (mx x r = y) ∧ Hid (up x r n = n') ∧ Hid (decide (x < r) = lt) ∧ Hid ((x == y) = eq ∧ (y == x) = eq) ∧ ((eq == lt) = false ∧ (lt != lt) = false ∧ (x != x) = false ∧ (n != n) = false ∧ (y != y) = false ∧ (n' != n') = false ∧ decide (y < r) = false) := by
        refine ⟨mx x r, up x r n, decide (x < r), x == mx x r, rfl, rfl, rfl, ⟨rfl, ?_⟩, ?_, by simp, by simp, by simp, by simp, by simp, ?_⟩
        · rw [Bool.eq_iff_iff, beq_iff_eq, beq_iff_eq]; exact eq_comm
        · by_cases h : x < r
          · have : ¬ x = r := by omega
            simp [mx, h, this]
          · simp [mx, h]
        · by_cases h : x < r
          · simp [mx, h]
          · simp [mx, h] <;> omega
      obtain ⟨t51, t52, t53, t54, t55, t56, t57⟩ := t5
      rw [t1.out] at HM HG'
      rw [t2.out] at HU
      rw [t2.out] at HK'
      go_wp2_with fail
      refine (copy_at _ _ _ _ H1).mono ?_; rintro e w3 ⟨bo, hbo, rfl, H3, K3⟩
      have hne : b1 < bo := Nat.lt_of_lt_of_le H1.lt hbo
      replace hbo : w.heap.size ≤ bo := Nat.le_trans K1.size hbo
      replace H1 := H1.keeps K3 (fun e => e)
      replace hown := owns_keeps hown K3 (fun _ _ e => e)
      replace hck := (K3.cell (p := ⟨b, off + k, none⟩) (Nat.lt_of_lt_of_le hbb K1.size) (fun e => e)).trans hck
      replace K1 := K1.trans_nb K3
      clear K3
      have hO := owns_reads' hown
      have C := fun (c d : Nat) => ref_at a (k + 1) c (a0 :: l.take k) (w3.drewN d) (by rw [HLEN.out]) (hO.1.drew ⟨d, rfl⟩) (by simp) (by rw [HLEN.out]; omega)
      rw [HG.out] at C
      have C := Lib.hid C
      have HO := Lib.hid hown; clear hown hO
      go_wp2
      go_quiet ((go_at_call 10; exact quiet_same (C.out _ _)))
      clear C
      have hd : Drew w3 (w3.drewN nq) := ⟨nq, rfl⟩
      replace H1 := H1.keeps (S := Nb) hd.keeps (fun e => e)
      replace H3 := H3.keeps (S := Nb) hd.keeps (fun e => e)
      replace HO := Lib.hid (owns_keeps HO.out (hd.keeps (S := Nb)) (fun _ _ e => e))
      replace hck := (hd.cell _).trans hck
      replace K1 := K1.trans_nb hd.keeps
      clear hd
      rw [t3.out]
      generalize w3.drewN nq = w4 at *
      go_wp2_with fail
      refine (asks_at _ _ _ _ _ H1).mono ?_; rintro e w' ⟨rfl, rfl⟩
      rw [t3.out]
      go_wp2_with fail
      refine (take_at _ _ _ _ _ H1 hu.1 hu.2).mono ?_; rintro e w5 ⟨rfl, H5, K5⟩
      rw [t3.out]
      rw [t1.out, t2.out] at H5
      replace H3 := H3.keeps K5 (by omega)
      replace HO := Lib.hid (owns_keeps HO.out K5 (fun k hk => by omega))
      replace hck := (K5.cell (p := ⟨b, off + k, none⟩) (Nat.lt_of_lt_of_le hbb K1.size) (by show ¬ b = b1; omega)).trans hck
      replace K1 := K1.own hb1 K5
      clear K5 H1
      have hO := owns_reads' HO.out
      have C10 := fun (c : Nat) => ref_at a (k + 1) c (a0 :: l.take k) w5 (by rw [HLEN.out]) hO.1 (by simp) (by rw [HLEN.out]; omega)
      have C19 := ref_taken a (k + 1) c (a0 :: l.take k) w5 (by rw [HLEN.out]) hO.1 (by simp) (by rw [HLEN.out]; omega) hO.2.2.1
      rw [HG.out] at C10
      rw [HK.out] at C19
      replace C10 := Lib.hid C10; replace C19 := Lib.hid C19
      clear hO
      go_wp2_with fail
      refine (num_at _ _).mono ?_; rintro e w' ⟨rfl, rfl⟩
      go_wp2_with fail
      refine (at_at _ _ _ _ H3).mono ?_; rintro e w' ⟨rfl, rfl⟩
      go_wp2_with fail
      refine (C10.out _).mono ?_; rintro e w' ⟨rfl, rfl⟩
      go_wp2_with fail
      refine (taken_at _ _ _ _ H3).mono ?_; rintro e w' ⟨rfl, rfl⟩
      go_wp2_with fail
      refine C19.out.mono ?_; rintro e w6 ⟨rfl, hd⟩
      replace H5 := H5.keeps (S := Nb) hd.keeps (fun e => e)
      replace H3 := H3.keeps (S := Nb) hd.keeps (fun e => e)
      replace HO := Lib.hid (owns_keeps HO.out (hd.keeps (S := Nb)) (fun _ _ e => e))
      replace hck := (hd.cell _).trans hck
      replace K1 := K1.trans_nb hd.keeps
      clear hd C10 C19
      go_wp2_with fail
      refine (same_at _ _ _ _ _ _ _ H3 H5).mono ?_; rintro e w' ⟨rfl, rfl⟩
      rw [t4.out.1]
      go_wp2_with fail
      refine (same_at _ _ _ _ _ _ _ H5 H3).mono ?_; rintro e w' ⟨rfl, rfl⟩
      rw [t4.out.2]
      have hO := owns_reads' HO.out
      obtain ⟨g, rfl⟩ : ∃ g, a = some ⟨g, 0, none⟩ := by
        rcases HO.out.2 with ⟨h, -⟩ | ⟨g, _, _, h, -⟩
        · simp at h
        · exact ⟨g, by simp at h; exact h.1⟩
      have hkc : ((k : Int) + 1) ≤ (c : Int) := by have := hO.2.2.1; omega
      have hk0 : (0 : Int) ≤ (k : Int) + 1 := by omega
      have hHas := hO.1.has
      have hgb := hO.2.2.2 g 0 rfl
      clear hO HO
      go_wp2
      have hfin : ∀ (v' : Value) (w0 w' : World), w0 = (w6.alloc (.cells #[.int .u64 r] 24)).drew → w'.ownsRow w0.heap.size 24 1 v' (k + 1 + 1) ((a0 :: l.take k).map (.int .u64) ++ [.int .u64 r]) → w0.grownBy w' none → Hid (∃ a' c', v' = .slice a' (k + 1 + 1) c' ∧ Drew w' w' ∧ w'.ownsRow (bo + 1) 24 1 (.slice a' (k + 1 + 1) c') (k + 1 + 1) ((a0 :: l.take (k + 1)).map (.int .u64)) ∧ Keeps Nb w6 w') := by
        rintro v' w0 w' rfl h1 h2
        rw [show (a0 :: l.take k).map (Value.int .u64) ++ [.int .u64 r] = (a0 :: l.take (k + 1)).map (.int .u64) by rw [HT.out]; simp] at h1
        have K : Keeps Nb w6 w' := (((Keeps.refl Nb w6).alloc _).drew).grown h2 (fun k h _ => by cases h)
        obtain ⟨a', c', rfl, -⟩ := owns_reads h1
        exact ⟨a', c', rfl, Drew.refl _, owns_mono h1 (by have := H3.lt; show bo + 1 ≤ (w6.heap.push _).size; simp; omega), K⟩
      have HF := Lib.hid hfin; clear hfin
      have hnew := (has_new w6 #[.int .u64 r] 24 (0, 0)).drew'
      replace hHas := (hHas.nb ((Keeps.refl Nb w6).alloc (.cells #[.int .u64 r] 24))).drew'
      go_region_law (refine step_grow el22 (k + 1) ((a0 :: l.take k).map (.int .u64)) [.int .u64 r] rfl (.tmp 114) (.tmp 119) rfl rfl rfl hHas (by rw [List.length_map, HLEN.out, Nat.mul_one]) hnew rfl (by intro u hu; simp at hu; subst hu; rfl) (by omega) (by unfold maxLen; omega) (by omega) ?_; intro v7 w7 hown7 hg7)
      have hf := HF.out v7 _ w7 rfl hown7 hg7
      clear hown7 hg7 hnew hHas HF
      obtain ⟨a7, c7, hv7, -, hown7, K7⟩ := hf.out
      rw [hv7]
      clear hf hv7 v7
      replace H5 := H5.keeps K7 (fun e => e)
      replace H3 := H3.keeps K7 (fun e => e)
      replace hck := (K7.cell (p := ⟨b, off + k, none⟩) (lt_of_cell hck) (fun e => e)).trans hck
      replace K1 := K1.trans_nb K7
      clear K7 hgb
      have hlen7 : (a0 :: l.take (k + 1)).length = k + 1 + 1 := by simp; omega
      have HLEN7 := Lib.hid hlen7; clear hlen7
      have hO := owns_reads' hown7
      have C10 := fun (c : Nat) => ref_at a7 (k + 1 + 1) c (a0 :: l.take (k + 1)) w7 (by rw [HLEN7.out]) hO.1 (by simp) (by rw [HLEN7.out]; omega)
      have C19 := ref_taken a7 (k + 1 + 1) c7 (a0 :: l.take (k + 1)) w7 (by rw [HLEN7.out]) hO.1 (by simp) (by rw [HLEN7.out]; omega) hO.2.2.1
      rw [HG'.out] at C10
      rw [HK'.out] at C19
      replace C10 := Lib.hid C10; replace C19 := Lib.hid C19
      have HO := Lib.hid hown7; clear hO hown7
      go_wp2_with fail
      refine (at_at _ _ _ _ H5).mono ?_; rintro e w' ⟨rfl, rfl⟩
      go_wp2_with fail
      refine (C10.out _).mono ?_; rintro e w' ⟨rfl, rfl⟩
      go_wp2_with fail
      refine (taken_at _ _ _ _ H5).mono ?_; rintro e w' ⟨rfl, rfl⟩
      go_wp2_with fail
      refine C19.out.mono ?_; rintro e w8 ⟨rfl, hd⟩
      replace H5 := H5.keeps (S := Nb) hd.keeps (fun e => e)
      replace H3 := H3.keeps (S := Nb) hd.keeps (fun e => e)
      replace HO := Lib.hid (owns_keeps HO.out (hd.keeps (S := Nb)) (fun _ _ e => e))
      replace hck := (hd.cell _).trans hck
      replace K1 := K1.trans_nb hd.keeps
      clear hd C10 C19
      go_wp2_with fail
      refine (asks_at _ _ _ _ _ H5).mono ?_; rintro e w' ⟨rfl, rfl⟩
      rw [t57]
      go_wp2_with fail
      refine (take_at _ _ _ _ _ H3 hu.1 hu.2).mono ?_; rintro e w9 ⟨rfl, H9, K9⟩
      replace H5 := H5.keeps K9 (by omega)
      replace HO := Lib.hid (owns_keeps HO.out K9 (fun k hk => by omega))
      replace K1 := K1.own hbo K9
      clear H9 K9 H3 hck
      have hO := owns_reads' HO.out
      have C10 := fun (c : Nat) => ref_at a7 (k + 1 + 1) c (a0 :: l.take (k + 1)) w9 (by rw [HLEN7.out]) hO.1 (by simp) (by rw [HLEN7.out]; omega)
      rw [HG'.out] at C10
      replace C10 := Lib.hid C10
      clear hO
      go_wp2_with fail
      refine (at_at _ _ _ _ H5).mono ?_; rintro e w' ⟨rfl, rfl⟩
      go_wp2_with fail
      refine (C10.out _).mono ?_; rintro e w' ⟨rfl, rfl⟩
      go_wp2
      go_roundw
      case rel => exact ⟨k + 1, by omega, by go_num, by rw [HM.out, HU.out]; exact H5, K1, _, _, rfl, owns_mono HO.out (by omega)⟩
      case measure => simp [intOf]; omega
    · go_wp2_with fail
      refine (known_at _).mono ?_
      rintro e w3 ⟨rfl, K3⟩
      go_wp2
      go_ret
      exact ⟨rfl, (K1.trans_nb K3).below⟩
end clockPlays
end Go.Proofs.Ytffnaigkdocpmaa
