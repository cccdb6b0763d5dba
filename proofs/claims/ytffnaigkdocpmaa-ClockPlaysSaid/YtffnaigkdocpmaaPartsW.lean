/- The walk of ClockParts: it returns true and writes nothing that was there. -/
import Derived.Test.YtffnaigkdocpmaaKnown
namespace Go.Proofs.Ytffnaigkdocpmaa
open Go.RowKit Go.Lk

/-- What is asked of the clocks of a law: block b is new, and holds this. -/
theorem nonil (b : Nat) : ((some (⟨b, 0, none⟩ : Addr)) == none) = false := rfl
theorem ups_le (x : Int) (l : List Int) (k : Nat) (hl : l.length ≤ 100000) : 0 ≤ ups x (l.take k) ∧ ups x (l.take k) < 1000000 := by
  have := ups_bd x (l.take k); simp only [List.length_take] at this; omega
theorem mxs_append (x : Int) (l m : List Int) : mxs x (l ++ m) = mxs (mxs x l) m := by simp [mxs]
theorem ups_append (x : Int) (l m : List Int) : ups x (l ++ m) = ups x l + ups (mxs x l) m := by
  induction l generalizing x with
  | nil => simp [ups, mxs]
  | cons a l ih => simp only [List.cons_append, ups, ih, mxs, List.foldl_cons]; omega

set_option linter.unusedVariables false
namespace clockParts
set_option maxHeartbeats 1000000 in
theorem walk (a0 : Int) (a1 : Option Addr) (len1 cap1 : Nat) (z1 : List Int) (a2 : Int) (w : World) (w0 : (Lit.int .u64 a0).wf = true) (w1 : IsRow .u64 w a1 len1 cap1 z1) (w2 : (Lit.int .i64 a2).wf = true) :
    Calls Try.prog 5 #[.int .u64 a0, .slice a1 len1 cap1, .int .i64 a2] w fun e w' => e = .returned (.bool true) ∧ Below w.heap.size w w' := by
  obtain ⟨l, rfl, hcap, hcm, hr, -⟩ := w1.reads
  clear w1 w0 w2
  unfold maxLen at hcm
  by_cases hout : 300 < l.length ∨ a2 < 0 ∨ (l.length : Int) < a2
  · have hk := known_at
    have HK := Lib.hid hk; clear hk
    by_cases c1 : 300 < l.length
    · clear hout
      go_enter Try.func5, Try.ntmps5
      go_wp2_with fail
      refine (HK.out _).mono ?_
      rintro e w1 ⟨rfl, K⟩
      go_wp2
      go_ret
      exact ⟨rfl, K.below⟩
    by_cases c2 : a2 < 0
    · clear hout
      go_enter Try.func5, Try.ntmps5
      go_wp2_with fail
      refine (HK.out _).mono ?_
      rintro e w1 ⟨rfl, K⟩
      go_wp2
      go_ret
      exact ⟨rfl, K.below⟩
    have c3 : (l.length : Int) < a2 := by omega
    clear hout
    go_enter Try.func5, Try.ntmps5
    go_wp2_with fail
    refine (HK.out _).mono ?_
    rintro e w1 ⟨rfl, K⟩
    go_wp2
    go_ret
    exact ⟨rfl, K.below⟩
  obtain ⟨cut, rfl⟩ := Int.eq_ofNat_of_zero_le (a := a2) (by omega)
  have hl : l.length ≤ 300 := by omega
  have hcut : cut ≤ l.length := by omega
  clear hout
  go_enter Try.func5, Try.ntmps5
  go_wp2_with fail
  refine (new_at _ _).mono ?_; rintro e w1 ⟨b1, hb1, rfl, H1, K1⟩
  go_wp2_with fail
  refine (new_at _ _).mono ?_; rintro e w2 ⟨b2, hb2, rfl, H2, K2⟩
  have hne : b1 < b2 := Nat.lt_of_lt_of_le H1.lt hb2
  replace H1 := H1.keeps K2 (fun e => e)
  replace hb2 : w.heap.size ≤ b2 := Nat.le_trans K1.size hb2
  replace K1 := K1.trans_nb K2
  clear K2
  go_wp2
  go_loopw [9] (fun i wr => ∃ k : Nat, k ≤ l.length ∧ i = .int .i64 k ∧ ClockAt wr b1 (mxs a0 (l.take k)) (ups a0 (l.take k)) ∧ ClockAt wr b2 (mxs a0 ((l.take cut).take k)) (ups a0 ((l.take cut).take k)) ∧ Keeps Nb w wr) (fun i _ => l.length - (intOf i).toNat)
  case atStart => exact ⟨0, by omega, rfl, H1, H2, K1⟩
  case round =>
    clear H1 H2 K1
    obtain ⟨k, hk, rfl, H1, H2, K1⟩ := hrel
    by_cases hlt : k < l.length
    · rcases hr with rfl | ⟨b, off, rfl, hc⟩
      · simp at hlt
      have hck := (hc k hlt)
      have hbb : b < w.heap.size := lt_of_cell hck
      have hck1 := (K1.cell (p := ⟨b, off + k, none⟩) hbb (fun e => e)).trans hck
      have HM := Lib.hid (mxs_take (x := a0) hlt)
      have HU := Lib.hid (ups_take (x := a0) hlt)
      have hu := ups_le a0 l k (by omega)
      have hu2 := ups_le a0 (l.take cut) k (by simp; omega)
      clear hc hck
      by_cases hkc : k < cut
      · have e : ∀ j, j ≤ cut → (l.take cut).take j = l.take j := fun j hj => by rw [List.take_take, Nat.min_eq_left hj]
        have E := Lib.hid e; clear e
        rw [E.out k (by omega)] at H2 hu2
        go_wp2_with fail
        refine (take_at _ _ _ _ _ H1 hu.1 hu.2).mono ?_; rintro e w3 ⟨rfl, H1', K3⟩
        replace H2 := H2.keeps K3 (by omega)
        have hck2 := (K3.cell (p := ⟨b, off + k, none⟩) (Nat.lt_of_lt_of_le hbb K1.size) (by show ¬ b = b1; omega)).trans hck1
        have K4 := K1.own hb1 K3
        clear H1 hck1 K1 K3
        go_wp2_with fail
        refine (take_at _ _ _ _ _ H2 hu.1 hu.2).mono ?_; rintro e w4 ⟨rfl, H2', K5⟩
        replace H1' := H1'.keeps K5 (by omega)
        have K6 := K4.own hb2 K5
        clear H2 hck2 K4 K5
        go_wp2
        go_roundw
        case rel => exact ⟨k + 1, by omega, by go_num, by rw [HM.out, HU.out]; exact H1', by rw [E.out (k + 1) (by omega), HM.out, HU.out]; exact H2', K6⟩
        case measure => simp [intOf]; omega
      · have e : (l.take cut).take (k + 1) = (l.take cut).take k := by rw [List.take_of_length_le (l := l.take cut) (by simp; omega), List.take_of_length_le (l := l.take cut) (by simp; omega)]
        have E := Lib.hid e; clear e
        go_wp2_with fail
        refine (take_at _ _ _ _ _ H1 hu.1 hu.2).mono ?_; rintro e w3 ⟨rfl, H1', K3⟩
        replace H2 := H2.keeps K3 (by omega)
        have K4 := K1.own hb1 K3
        clear H1 hck1 K1 K3
        go_wp2
        go_roundw
        case rel => exact ⟨k + 1, by omega, by go_num, by rw [HM.out, HU.out]; exact H1', by rw [E.out]; exact H2, K4⟩
        case measure => simp [intOf]; omega
    · rw [List.take_of_length_le (by omega)] at H1
      rw [List.take_of_length_le (by simp; omega)] at H2
      go_wp2_with fail
      refine (at_at _ _ _ _ H2).mono ?_; rintro e w' ⟨rfl, rfl⟩
      go_wp2_with fail
      refine (new_at _ _).mono ?_; rintro e w3 ⟨b3, hb3, rfl, H3, K3⟩
      have hne3 : b2 < b3 := Nat.lt_of_lt_of_le H2.lt hb3
      replace H1 := H1.keeps K3 (fun e => e)
      replace H2 := H2.keeps K3 (fun e => e)
      replace hb3 : w.heap.size ≤ b3 := Nat.le_trans K1.size hb3
      replace K1 := K1.trans_nb K3
      clear K3
      go_wp2_with fail
      refine (same_at _ _ _ _ _ _ _ H3 H2).mono ?_; rintro e w' ⟨rfl, rfl⟩
      have hs : (mxs a0 (l.take cut) == mxs a0 (l.take cut)) = true := by simp
      generalize hx : mxs a0 (l.take cut) = x at *
      have HX := Lib.hid hx; clear hx
      go_wp2
      go_loopw [11] (fun i wr => ∃ k : Nat, cut ≤ k ∧ k ≤ l.length ∧ i = .int .i64 k ∧ ClockAt wr b1 (mxs a0 l) (ups a0 l) ∧ ClockAt wr b2 x (ups a0 (l.take cut)) ∧ ClockAt wr b3 (mxs x ((l.take k).drop cut)) (ups x ((l.take k).drop cut)) ∧ Keeps Nb w wr) (fun i _ => l.length - (intOf i).toNat)
      case atStart =>
        refine ⟨cut, Nat.le_refl _, by omega, rfl, H1, H2, ?_, K1⟩
        rw [List.drop_of_length_le (by simp; omega)]; exact H3
      case round =>
        clear H1 H2 H3 K1
        obtain ⟨k, hkc, hk, rfl, H1, H2, H3, K1⟩ := hrel
        have eD : (l.take (k + 1)).drop cut = ((l.take k).drop cut) ++ (if k < l.length then [nth l k] else []) := by
          by_cases hlt : k < l.length
          · rw [take_snoc hlt, if_pos hlt, List.drop_append_of_le_length (by simp; omega)]
          · rw [List.take_of_length_le (by omega), List.take_of_length_le (by omega), if_neg hlt, List.append_nil]
        have ED := Lib.hid eD; clear eD
        by_cases hlt : k < l.length
        · rcases hr with rfl | ⟨b, off, rfl, hc⟩
          · simp at hlt
          have hck := (hc k hlt)
          have hbb : b < w.heap.size := lt_of_cell hck
          have hck1 := (K1.cell (p := ⟨b, off + k, none⟩) hbb (fun e => e)).trans hck
          have hu : 0 ≤ ups x ((l.take k).drop cut) ∧ ups x ((l.take k).drop cut) < 1000000 := by
            have := ups_bd x ((l.take k).drop cut); simp only [List.length_drop, List.length_take] at this; omega
          clear hc hck
          go_wp2_with fail
          refine (take_at _ _ _ _ _ H3 hu.1 hu.2).mono ?_; rintro e w4 ⟨rfl, H4, K4⟩
          replace H1 := H1.keeps K4 (by omega)
          replace H2 := H2.keeps K4 (by omega)
          replace K1 := K1.own hb3 K4
          clear K4 hck1 H3
          go_wp2
          go_roundw
          case rel =>
            refine ⟨k + 1, by omega, by omega, by go_num, H1, H2, ?_, K1⟩
            rw [ED.out, if_pos hlt, mxs_snoc, ups_snoc]; exact H4
          case measure => simp [intOf]; omega
        · rw [List.take_of_length_le (by omega)] at H3
          have e1 : l = l.take cut ++ l.drop cut := (List.take_append_drop cut l).symm
          have e2 : mxs a0 l = mxs x (l.drop cut) := by rw [← HX.out, ← mxs_append, ← e1]
          have e3 : ups a0 l = ups a0 (l.take cut) + ups x (l.drop cut) := by rw [← HX.out, ← ups_append, ← e1]
          rw [e2, e3] at H1
          have b1 := ups_bd a0 (l.take cut)
          have b2 := ups_bd x (l.drop cut)
          rw [List.length_take] at b1
          rw [List.length_drop] at b2
          generalize ups a0 (l.take cut) = u at *
          generalize ups x (l.drop cut) = v at *
          clear e1 e2 e3 ED HX
          go_wp2_with fail
          refine (same_at _ _ _ _ _ _ _ H3 H1).mono ?_; rintro e w' ⟨rfl, rfl⟩
          have hs : (mxs x (l.drop cut) == mxs x (l.drop cut)) = true := by simp
          have hsum : (v + u == u + v) = true := by rw [beq_iff_eq]; omega
          go_wp2_with fail
          refine (taken_at _ _ _ _ H3).mono ?_; rintro e w' ⟨rfl, rfl⟩
          go_wp2_with fail
          refine (taken_at _ _ _ _ H2).mono ?_; rintro e w' ⟨rfl, rfl⟩
          go_wp2_with fail
          refine (taken_at _ _ _ _ H1).mono ?_; rintro e w' ⟨rfl, rfl⟩
          go_wp2_with fail
          refine (known_at _).mono ?_; rintro e w5 ⟨rfl, K5⟩
          go_wp2
          go_ret
          exact ⟨rfl, (K1.trans_nb K5).below⟩
end clockParts
end Go.Proofs.Ytffnaigkdocpmaa
