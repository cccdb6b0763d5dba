/- The walk of ClockMeans: it returns true and writes nothing that was there. -/
import Derived.Test.YtffnaigkdocpmaaPartsW
import Derived.Test.YtffnaigkdocpmaaGreatestW
set_option linter.unusedVariables false
namespace Go.Proofs.Ytffnaigkdocpmaa
open Go.RowKit Go.Lk

/-- v is the beginning, or one of the list, and not below the beginning. -/
def Mid (x : Int) (L : List Int) (v : Int) : Prop := (v = x ∨ v ∈ L) ∧ x ≤ v
theorem Mid.start (x : Int) (L : List Int) : Mid x L x := ⟨.inl rfl, Int.le_refl _⟩
theorem Mid.take {x v r : Int} {L : List Int} (h : Mid x L v) (hr : r ∈ L) : Mid x L (mx v r) := by
  unfold mx; split
  · exact ⟨.inr hr, by have := h.2; omega⟩
  · exact h
theorem mxs_mem (x : Int) (L : List Int) : mxs x L = x ∨ mxs x L ∈ L := by
  induction L generalizing x with
  | nil => exact .inl rfl
  | cons a L ih =>
    rcases ih (mx x a) with h | h
    · have e : mxs x (a :: L) = mx x a := h
      rw [e]; unfold mx; split
      · exact .inr (by simp)
      · exact .inl rfl
    · exact .inr (List.mem_cons_of_mem _ h)
theorem Mid.eq {x v : Int} {L : List Int} (h : Mid x L v) (ht : ∀ y ∈ L, y ≤ v) : v = mxs x L := by
  have h1 := mxs_lo x L
  have h2 := mxs_mem x L
  have a : v ≤ mxs x L := by rcases h.1 with e | e; · omega
                             · exact h1.2 _ e
  have b : mxs x L ≤ v := by rcases h2 with e | e; · have := h.2; omega
                             · exact ht _ e
  omega
theorem greatest_snoc (x : Int) (L : List Int) : greatest (L ++ [x]) = mxs x L := by
  refine Mid.eq ?_ ?_
  · have h1 := mxs_lo (nth (L ++ [x]) 0) (L ++ [x])
    refine ⟨?_, h1.2 x (by simp)⟩
    rcases mxs_mem (nth (L ++ [x]) 0) (L ++ [x]) with h | h
    · unfold greatest; rw [h]
      rcases L with _ | ⟨a, L⟩
      · exact .inl rfl
      · exact .inr (by simp [nth])
    · unfold greatest
      simp only [List.mem_append, List.mem_singleton] at h
      exact h.symm
  · intro y hy
    exact (mxs_lo (nth (L ++ [x]) 0) (L ++ [x])).2 y (by simp [hy])
theorem mem_nth {L : List Int} {i : Nat} (h : i < L.length) : nth L i ∈ L := by rw [nth_eq h]; exact List.getElem_mem h
theorem up_bd (x r n : Int) : n ≤ up x r n ∧ up x r n ≤ n + 1 := by unfold up; split <;> omega

namespace clockMeans
set_option maxRecDepth 100000 in
set_option maxHeartbeats 4000000 in
theorem walk (a0 : Int) (a1 : Option Addr) (len1 cap1 : Nat) (z1 : List Int) (a2 : Option Addr) (len2 cap2 : Nat) (z2 : List Int) (a3 : Option Addr) (len3 cap3 : Nat) (z3 : List Int) (w : World) (w0 : (Lit.int .u64 a0).wf = true) (w1 : IsRow .u64 w a1 len1 cap1 z1) (w2 : IsRow .u64 w a2 len2 cap2 z2) (w3 : IsRow .i64 w a3 len3 cap3 z3) :
    Calls Try.prog 4 #[.int .u64 a0, .slice a1 len1 cap1, .slice a2 len2 cap2, .slice a3 len3 cap3] w fun e w' => e = .returned (.bool true) ∧ Below w.heap.size w w' := by
  obtain ⟨l, rfl, hcap, hcm, hr, -⟩ := w1.reads
  obtain ⟨m, rfl, hcap2, hcm2, hr2, -⟩ := w2.reads
  obtain ⟨p, rfl, hcap3, hcm3, hr3, hp⟩ := w3.reads
  clear w0 w1 w2 w3
  unfold maxLen at hcm hcm2 hcm3
  go_enter Try.func4, Try.ntmps4
  go_wp2_with fail
  refine (known_at _).mono ?_
  rintro e w1 ⟨rfl, K⟩
  by_cases c1 : 300 < l.length
  · go_wp2
    go_ret
    exact ⟨rfl, K.below⟩
  by_cases c2 : 300 < m.length
  · go_wp2
    go_ret
    exact ⟨rfl, K.below⟩
  by_cases c3 : 300 < p.length
  · go_wp2
    go_ret
    exact ⟨rfl, K.below⟩
  replace hr := hr.nb K
  replace hr2 := hr2.nb K
  replace hr3 := hr3.nb K
  have hw := K.size
  have HK := Lib.hid K; clear K
  have hsrc := hr.has
  have hsrc2 := hr2.has
  clear hr hr2
  go_wp2_with fail
  refine (new_at _ _).mono ?_; rintro e w2 ⟨b1, hb1, rfl, H1, K1⟩
  go_wp2_with fail
  refine (new_at _ _).mono ?_; rintro e w3 ⟨b2, hb2, rfl, H2, K2⟩
  have hne : b1 < b2 := Nat.lt_of_lt_of_le H1.lt hb2
  replace H1 := H1.keeps K2 (fun e => e)
  replace hb2 : w1.heap.size ≤ b2 := Nat.le_trans K1.size hb2
  replace K1 := K1.trans_nb K2
  replace hsrc := hsrc.nb K1
  replace hsrc2 := hsrc2.nb K1
  clear K2
  have hown0 := World.ownsRow_nil w3 w3.heap.size 24 1
  have l1 : l.length ≤ 300 := by omega
  have l2 : m.length ≤ 300 := by omega
  have l3 : p.length ≤ 300 := by omega
  clear c1 c2 c3
  have hb3 : b2 < w3.heap.size := H2.lt
  go_wp2_with (at_builtin; refine at_in ?_)
  refine at_out (wp_app el22 w3.heap.size 0 [] (l.map (.int .u64)) hown0 rfl rfl hsrc (by simp) one_ints (by unfold maxLen; omega) (by omega) (Nat.le_refl _) ?_); intro v4 w4 hown hg hnil
  clear hnil hown0 hsrc
  simp only [Nat.zero_add, List.nil_append] at hown
  have K4 := (Keeps.refl Nb w3).grown hg (fun k h _ => by cases h)
  have hg4 := hown.lt
  clear hg
  replace hsrc2 := hsrc2.nb K4
  have hb4 := K4.size
  go_wp2_with (at_builtin; refine at_in ?_)
  refine at_out (wp_app el22 w3.heap.size l.length (l.map (.int .u64)) (m.map (.int .u64)) hown rfl rfl hsrc2 (by simp) one_ints (by unfold maxLen; omega) (by omega) (by omega) ?_); intro v5 w5 hown5 hg5 hnil
  clear hnil hown hsrc2
  have K5 : Keeps Nb w3 w5 := K4.grown hg5 (fun k h hk => absurd (hg4 k h).1 (by omega))
  rw [← List.map_append] at hown5
  have hL : (l ++ m).length = l.length + m.length := by simp
  obtain ⟨L, HL⟩ : ∃ L, Hid (L = l ++ m) := ⟨_, rfl⟩
  rw [← hL] at hown5
  rw [← HL.out] at hown5 hL
  have hL' : L.length ≤ 600 := by omega
  clear hL hg5 hg4 K4
  replace H1 := H1.keeps K5 (fun e => e)
  replace H2 := H2.keeps K5 (fun e => e)
  replace K1 := K1.trans_nb K5
  clear K5
  obtain ⟨a5, c5, rfl, -, hc51, hc52, -, -⟩ := owns_reads hown5
  unfold maxLen at hc52
  replace hown5 := owns_mono hown5 (show b2 + 1 ≤ w3.heap.size from hb3)
  have hbase : ∀ k, b2 + 1 ≤ k → ¬ (k = b1) ∧ ¬ (k = b2) := fun k hk => by omega
  have HB := Lib.hid hbase; clear hbase
  clear hb4 hb3
  go_wp2
  -- the first loop
  go_loopw [12] (fun i wr => ∃ k : Nat, k ≤ L.length ∧ i = .int .i64 k ∧ ClockAt wr b1 (mxs a0 (L.take k)) (ups a0 (L.take k)) ∧ ClockAt wr b2 a0 0 ∧ Keeps Nb w1 wr ∧ wr.ownsRow (b2 + 1) 24 1 (.slice a5 L.length c5) L.length (L.map (.int .u64))) (fun i _ => L.length - (intOf i).toNat)
  case atStart => exact ⟨0, by omega, rfl, H1, H2, K1, hown5⟩
  case round =>
    clear H1 H2 K1 hown5
    obtain ⟨k, hk, rfl, H1, H2, Kr, hown⟩ := hrel
    by_cases hlt : k < L.length
    · have HRk := (owns_reads' hown).1
      have HO := Lib.hid hown; clear hown
      rcases HRk with h0 | ⟨b, off, rfl, hc⟩
      · rw [h0] at hlt; simp at hlt
      have hck1 := hc k hlt
      have hbb := HB.out b ((owns_reads' HO.out).2.2.2 b off rfl).1
      have hbw : b < wr.heap.size := lt_of_cell hck1
      have HM := Lib.hid (mxs_take (x := a0) hlt)
      have HU := Lib.hid (ups_take (x := a0) hlt)
      have hu := ups_le a0 L k (by omega)
      clear hc
      generalize mxs a0 (L.take k) = x at *
      generalize nth L k = r at *
      go_wp2_with fail
      refine (at_at _ _ _ _ H1).mono ?_; rintro e w' ⟨rfl, rfl⟩
      go_wp2_with fail
      refine (take_at _ _ _ _ _ H1 hu.1 hu.2).mono ?_; rintro e w6 ⟨rfl, H6, K6⟩
      have hck2 := (K6.cell (p := ⟨b, off + k, none⟩) hbw hbb.1).trans hck1
      have C := Lib.hid (fun (d : Nat) => at_at _ _ _ (w6.drewN d) H6)
      replace H2 := H2.keeps K6 (by omega)
      replace Kr := Kr.own hb1 K6
      have HO := Lib.hid (owns_keeps HO.out K6 (fun k hk => (HB.out k hk).1))
      clear hck1 K6 H1
      by_cases hg : x < r
      · have hx : mx x r = r := by simp [mx, hg]
        have HX := Lib.hid hx; clear hx
        rw [HX.out] at C
        have t1 : decide (r < x) = false := by simp; omega
        have t2 : decide (r < r) = false := by simp
        have t3 : (r != x) = true := by rw [bne_iff_ne]; omega
        have t4 : (r != r) = false := by simp
        go_wp2
        go_quiet ((go_at_call 12; exact quiet_same (C.out _)))
        go_wp2
        go_roundw
        case rel => exact ⟨k + 1, by omega, by go_num, by rw [HM.out, HU.out]; exact H6, H2, Kr.drewN _, owns_keeps HO.out ((Keeps.refl Nb _).drewN _) (fun _ _ e => e)⟩
        case measure => simp [intOf]; omega
      · have hx : mx x r = x := by simp [mx, hg]
        have HX := Lib.hid hx; clear hx
        rw [HX.out] at C
        have t1 : decide (x < x) = false := by simp
        have t2 : decide (x < r) = false := by simp; omega
        have t3 : (x != x) = false := by simp
        go_wp2
        go_quiet ((go_at_call 12; exact quiet_same (C.out _)))
        go_wp2
        go_roundw
        case rel => exact ⟨k + 1, by omega, by go_num, by rw [HM.out, HU.out]; exact H6, H2, Kr.drewN _, owns_keeps HO.out ((Keeps.refl Nb _).drewN _) (fun _ _ e => e)⟩
        case measure => simp [intOf]; omega
    · rw [List.take_of_length_le (by omega)] at H1
      go_wp2
      -- the second loop
      go_loopw [14] (fun i wr => ∃ (k : Nat) (v n : Int), k ≤ p.length ∧ i = .int .i64 k ∧ Mid a0 L v ∧ 0 ≤ n ∧ n ≤ k ∧ ClockAt wr b1 (mxs a0 L) (ups a0 L) ∧ ClockAt wr b2 v n ∧ Keeps Nb w1 wr ∧ wr.ownsRow (b2 + 1) 24 1 (.slice a5 L.length c5) L.length (L.map (.int .u64))) (fun i _ => p.length - (intOf i).toNat)
      case atStart => exact ⟨0, a0, 0, by omega, rfl, Mid.start _ _, by omega, by omega, H1, H2, Kr, hown⟩
      case round =>
        clear H1 H2 Kr hown
        obtain ⟨k, v, n, hk, rfl, hmid, hn0, hn1, H1, H2, Kr, hown⟩ := hrel
        have HMID := Lib.hid hmid; clear hmid
        by_cases hlt : k < p.length
        · have HRk := (owns_reads' hown).1
          have HO := Lib.hid hown; clear hown
          rcases hr3 with h0 | ⟨bp, offp, rfl, hcp⟩
          · rw [h0] at hlt; simp at hlt
          have hcpk := (Kr.cell (p := ⟨bp, offp + k, none⟩) (lt_of_cell (hcp k hlt)) (fun e => e)).trans (hcp k hlt)
          clear hcp
          generalize nth p k = o at *
          by_cases ho : 0 ≤ o ∧ o < L.length
          · obtain ⟨j, rfl⟩ := Int.eq_ofNat_of_zero_le ho.1
            have hj : j < L.length := by omega
            clear ho
            rcases HRk with h0 | ⟨b, off, rfl, hc⟩
            · rw [h0] at hj; simp at hj
            have hcj := hc j hj
            clear hc
            have hmm := mem_nth hj
            generalize nth L j = r at *
            go_wp2_with fail
            refine (take_at _ _ _ _ _ H2 hn0 (by omega)).mono ?_; rintro e w6 ⟨rfl, H6, K6⟩
            replace H1 := H1.keeps K6 (by omega)
            replace Kr := Kr.own hb2 K6
            have HO := Lib.hid (owns_keeps HO.out K6 (fun k hk => (HB.out k hk).2))
            have hup := up_bd v r n
            clear hcpk hcj K6 H2
            go_wp2
            go_roundw
            case rel => exact ⟨k + 1, _, _, by omega, by go_num, HMID.out.take hmm, by omega, by omega, H1, H6, Kr, HO.out⟩
            case measure => simp [intOf]; omega
          · clear HRk
            by_cases ho1 : 0 ≤ o
            · have ho2 : (L.length : Int) ≤ o := by omega
              clear ho
              go_wp2
              go_roundw
              case rel => exact ⟨k + 1, v, n, by omega, by go_num, HMID.out, by omega, by omega, H1, H2, Kr, HO.out⟩
              case measure => simp [intOf]; omega
            · clear ho
              go_wp2
              go_roundw
              case rel => exact ⟨k + 1, v, n, by omega, by go_num, HMID.out, by omega, by omega, H1, H2, Kr, HO.out⟩
              case measure => simp [intOf]; omega
        · go_wp2
          -- the third loop
          go_loopw [15] (fun i wr => ∃ (k : Nat) (v n : Int), k ≤ L.length ∧ i = .int .i64 ((k : Int) - 1) ∧ Mid a0 L v ∧ (∀ j, k ≤ j → j < L.length → nth L j ≤ v) ∧ 0 ≤ n ∧ n ≤ 300 + (L.length - k) ∧ ClockAt wr b1 (mxs a0 L) (ups a0 L) ∧ ClockAt wr b2 v n ∧ Keeps Nb w1 wr ∧ wr.ownsRow (b2 + 1) 24 1 (.slice a5 L.length c5) L.length (L.map (.int .u64))) (fun i _ => (intOf i + 1).toNat)
          case atStart => exact ⟨L.length, v, n, Nat.le_refl _, rfl, HMID.out, fun j h1 h2 => by omega, by omega, by omega, H1, H2, Kr, hown⟩
          case round =>
            clear H1 H2 Kr hown HMID
            obtain ⟨k, v, n, hk, rfl, hmid, htop, hn0, hn1, H1, H2, Kr, hown⟩ := hrel
            have HMID := Lib.hid hmid; clear hmid
            have HTOP := Lib.hid htop; clear htop
            by_cases h0 : 0 < k
            · obtain ⟨j, rfl⟩ : ∃ j, k = j + 1 := ⟨k - 1, by omega⟩
              have hj : j < L.length := by omega
              have HRk := (owns_reads' hown).1
              have HO := Lib.hid hown; clear hown
              rcases HRk with h0 | ⟨b, off, rfl, hc⟩
              · rw [h0] at hj; simp at hj
              have hcj := hc j hj
              clear hc
              have hmm := mem_nth hj
              rw [show (((j + 1 : Nat) : Int) - 1) = (j : Int) by omega]
              go_wp2_with fail
              refine (take_at _ _ _ _ _ H2 hn0 (by omega)).mono ?_; rintro e w6 ⟨rfl, H6, K6⟩
              replace H1 := H1.keeps K6 (by omega)
              replace Kr := Kr.own hb2 K6
              have HO := Lib.hid (owns_keeps HO.out K6 (fun k hk => (HB.out k hk).2))
              have hup := up_bd v (nth L j) n
              have hml := mx_lo v (nth L j)
              clear hcj K6 H2
              go_wp2
              go_roundw
              case rel =>
                refine ⟨j, _, _, by omega, rfl, HMID.out.take hmm, fun i h1 h2 => ?_, by omega, by omega, H1, H6, Kr, HO.out⟩
                by_cases e : i = j
                · subst e; omega
                · have := HTOP.out i (by omega) h2; omega
              case measure => simp [intOf]
            · obtain rfl : k = 0 := by omega
              have hv : v = mxs a0 L := HMID.out.eq fun y hy => by
                obtain ⟨i, hi, rfl⟩ := List.getElem_of_mem hy
                have := HTOP.out i (by omega) hi
                rwa [nth_eq hi] at this
              subst hv
              clear HTOP HMID h0 hn0 hn1
              have hbl := (owns_reads' hown).2.2.2
              have hob := hown.lt
              have HS : Has (wr.alloc (.cells #[.int .u64 a0] 24)) (some ⟨wr.heap.size, 0, none⟩) [.int .u64 a0] :=
                .inr ⟨_, _, rfl, fun i v h => by
                  rw [cell_of_block (block_alloc _ _)]
                  match i, h with
                  | 0, h => simpa using h
                  | i + 1, h => simp at h⟩
              have hown' := owns_keeps hown ((Keeps.refl Nb wr).alloc (.cells #[.int .u64 a0] 24)) (fun _ _ e => e)
              have Ka := (Keeps.refl Nb wr).alloc (.cells #[.int .u64 a0] 24)
              have hsz := Ka.size
              have HKa := Lib.hid Ka; clear Ka
              have hlt2 := H2.lt
              clear hr3 hown
              go_wp2_with (at_builtin; refine at_in ?_)
              refine at_out (wp_app el22 (b2 + 1) L.length (L.map (.int .u64)) [.int .u64 a0] hown' rfl rfl HS rfl (by intro u hu; simp at hu; subst hu; rfl) (by unfold maxLen; omega) (by omega) (by simp; omega) ?_); intro v9 w9 hown9 hg9 hnil
              clear hnil hown' HS
              have K9 : Keeps (b2 + 1 ≤ ·) wr w9 := HKa.out.of_nb.grown hg9 (fun k h _ => (hob k h).1)
              rw [show L.map (Value.int .u64) ++ [.int .u64 a0] = (L ++ [a0]).map (.int .u64) by simp] at hown9
              obtain ⟨a9, c9, rfl, hn9, hc91, hc92, hr9, -⟩ := owns_reads hown9
              have HN := Lib.hid hn9; clear hn9
              replace H1 := H1.keeps K9 (by omega)
              replace H2 := H2.keeps K9 (by omega)
              have K10 : Keeps Nb w1 w9 := Kr.trans K9 (fun i hi h => absurd h (by omega))
              clear K9 hg9 hob hown9 Kr
              go_wp2_with fail
              refine (greatest_some _ _ _ _ _ HN.out hr9 (by simp) (by simp; omega)).mono ?_; rintro e w' ⟨rfl, rfl⟩
              rw [greatest_snoc]
              have hs : (mxs a0 L == mxs a0 L) = true := by simp
              go_wp2_with fail
              refine (at_at _ _ _ _ H1).mono ?_; rintro e w' ⟨rfl, rfl⟩
              go_wp2_with fail
              refine (at_at _ _ _ _ H2).mono ?_; rintro e w' ⟨rfl, rfl⟩
              go_wp2_with fail
              refine (same_at _ _ _ _ _ _ _ H1 H2).mono ?_; rintro e w' ⟨rfl, rfl⟩
              go_wp2_with fail
              refine (same_at _ _ _ _ _ _ _ H2 H1).mono ?_; rintro e w' ⟨rfl, rfl⟩
              go_wp2
              go_ret
              exact ⟨rfl, (HK.out.trans_nb K10).below⟩
end clockMeans
end Go.Proofs.Ytffnaigkdocpmaa
