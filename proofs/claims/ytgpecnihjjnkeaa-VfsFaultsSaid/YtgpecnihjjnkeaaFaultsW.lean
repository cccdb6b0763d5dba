/- VfsFaults: the walk. -/
import Derived.Test.YtgpecnihjjnkeaaFaultsL
import Derived.Below
set_option linter.unusedVariables false
set_option linter.unusedSimpArgs false
namespace Go.Proofs.Ytgpecnihjjnkeaa.vfsFaults
open Go.RowKit Go.Lk Go.Vfs Go.Proofs.Ytgpecnihjjnkeaa Go.ChangeShapes Go.WideShapes
theorem agg34 : AggT Try.prog 34 7 := ⟨by kernel_rfl, by kernel_rfl⟩
set_option maxHeartbeats 8000000 in
set_option maxRecDepth 100000 in
theorem body (w : World) (a : Option Addr) (m c : Nat) (L : List StepD) (n : Int) (full : Bool) (hs : StepsAt w w a m c L) (hn : I64 n) : Calls Try.prog 3 #[.slice a m c, .int .i64 n, .bool full] w fun e w' => e = .returned (.bool true) ∧ Keeps Nb w w' := by
  have HS := Lib.hid hs
  have HN := Lib.hid hn
  obtain ⟨hl, hmc, hcm, -⟩ := hs
  have hcm2 : m ≤ c ∧ c ≤ 9223372036854775807 := by unfold maxLen at hcm; exact ⟨hmc, hcm⟩
  have HL := Lib.hid hl
  clear hmc hcm hn hl
  go_enter Try.func3, Try.ntmps3
  go_wp2_with fail
  refine (much_at 60 a m c L w w HS.out (by omega)).mono ?_
  rintro _ w1 ⟨r, rfl, hf, k1⟩
  have HF := Lib.hid hf
  have K1 := Lib.hid k1
  clear hf k1
  cases r with
  | true =>
    go_wp2_with fail
    refine (known_at w1).mono ?_
    rintro _ w2 ⟨rfl, k2⟩
    go_wp2
    go_ret
    exact ⟨rfl, K1.out.trans_nb k2⟩
  | false =>
    have hfew := HF.out rfl
    have HFEW := Lib.hid hfew
    have hm60 : m ≤ 60 := by have := hfew.1; rw [HL.out] at this; omega
    clear hfew HF
    by_cases hneg : n < 0
    · go_wp2_with fail
      refine (known_at w1).mono ?_
      rintro _ w2 ⟨rfl, k2⟩
      go_wp2
      go_ret
      exact ⟨rfl, K1.out.trans_nb k2⟩
    · have h0 : 0 ≤ n := by omega
      have H0 := Lib.hid h0
      obtain ⟨E, hE⟩ : ∃ E : Int, E = if full = true then 5 else 9 := ⟨_, rfl⟩
      have HE : Hid (E = 5 ∨ E = 9) := by refine Lib.hid ?_; rw [hE]; split <;> omega
      have HEF : Hid (full = true → E = 5) := fun e => by rw [hE, if_pos e]
      have HEF2 : Hid (full = false → E = 9) := fun e => by rw [hE, e]; rfl
      clear h0 hE
      go_wp2_with fail
      refine (new_at 30000 w1 (by omega)).mono ?_
      rintro _ w2 ⟨d, rfl, -, hd⟩
      obtain ⟨F0, R0, hdb⟩ := hd
      have D2 : Hid (Db w w2 d (newD 30000) fun _ => ⟨[], 0⟩) := ⟨F0, R0, K1.out.trans_nb hdb.k, hdb.at_, fun k hk => Nat.le_trans K1.out.size (hdb.gF k hk), fun k hk => Nat.le_trans K1.out.size (hdb.gR k hk)⟩
      clear hdb
      obtain ⟨EV, hEV⟩ : ∃ EV, EV = E := ⟨_, rfl⟩
      cases full with
      | true =>
        have e5 := HEF.out rfl
        subst e5
        clear hEV
        go_wp2_with fail
        refine (dlay D2.out n 5 ⟨H0.out, HN.out.2⟩ (by omega)).mono ?_
        rintro _ w3 ⟨rfl, hd⟩
        have D3 := Lib.hid hd
        clear hd D2
        go_wp2_with fail
        refine (num_at 0 w3).mono ?_; rintro _ _ ⟨rfl, rfl⟩
        go_wp2
        go_loopw [10] (fun i wr => ∃ (k : Nat) (D : Dk) (fc : Nat → Fl), k ≤ m ∧ i = .int .i64 k ∧ Db w wr d D fc ∧ FInv n 5 D ∧ D.changes ≤ k ∧ D.files.length ≤ k ∧ D.lasting.length + D.steps.length ≤ 100 * k) (fun i _ => m - (intOf i).toNat)
        case atStart => exact ⟨0, _, _, Nat.zero_le _, rfl, D3.out, ⟨rfl, rfl, rfl, Int.le_refl _, .inl ⟨H0.out, rfl, by simp [layD, newD]⟩⟩, Int.le_refl _, Nat.le_refl _, Nat.le_refl _⟩
        case round =>
          obtain ⟨k, D, fc, hk, rfl, hd, hi, hch, hfl, hll⟩ := hrel
          have HD := Lib.hid hd
          have HI := Lib.hid hi
          have HB := Lib.hid (And.intro hch (And.intro hfl hll))
          clear hd hi hch hfl hll D3
          by_cases hlt : k < m
          · have i1 : (k : Int) < (m : Int) := by omega
            obtain ⟨s, hs⟩ : ∃ s, L[k]? = some s := ⟨_, List.getElem?_eq_getElem (by rw [HL.out]; exact hlt)⟩
            obtain ⟨b, off, cs, rfl, hv, hh⟩ := HS.out.2.2.2 k s hs
            have HV := Lib.hid (hv.nb HD.out.k)
            have HH := Lib.hid (hh.nb HD.out.k)
            have hbl : Hid (s.b.length ≤ 20000) := (HFEW.out.2 s (List.mem_of_getElem? hs)).1
            have hcl : cs.length = 7 := by obtain ⟨vb, vp, rfl, -⟩ := hv; rfl
            have c0 : wr.cell? ⟨b, off + k * 7, none⟩ = some (.int .i64 s.kind) := by
              obtain ⟨vb, vp, rfl, -⟩ := hv
              rcases HH.out with h | ⟨b', off', e, hc⟩
              · cases h
              · cases e; exact hc 0 _ rfl
            have HCL := Lib.hid hcl
            clear hs hv hh hcl
            by_cases hk1 : s.kind < 1
            · go_wp2
              go_roundw
              case rel => exact ⟨k + 1, D, fc, by omega, by go_num, HD.out, HI.out, by have := HB.out; omega, by have := HB.out; omega, by have := HB.out; omega⟩
              case measure => simp [intOf]; omega
            · by_cases hk7 : 7 < s.kind
              · go_wp2
                go_roundw
                case rel => exact ⟨k + 1, D, fc, by omega, by go_num, HD.out, HI.out, by have := HB.out; omega, by have := HB.out; omega, by have := HB.out; omega⟩
                case measure => simp [intOf]; omega
              · obtain ⟨C, hC⟩ : ∃ C : Int, C = D.changes := ⟨_, rfl⟩
                have HC := Lib.hid hC
                have hCb : 0 ≤ C ∧ C ≤ k := by rw [hC]; exact ⟨HI.out.c0, HB.out.1⟩
                have HKK : Hid (1 ≤ s.kind ∧ s.kind ≤ 7) := by refine Lib.hid ?_; omega
                clear hC
                go_wp2_with fail
                refine (dchanges HD.out).mono ?_
                rintro _ _ ⟨rfl, rfl⟩
                rw [← HC.out]
                go_wp2_with fail
                refine (droom HD.out).mono ?_
                rintro _ w4 ⟨rfl, k4⟩
                have HD4 := Lib.hid (HD.out.nb k4)
                have HV4 := Lib.hid (HV.out.nb k4)
                have HH4 := Lib.hid (HH.out.nb k4)
                obtain ⟨RM, hRM⟩ : ∃ RM : Int, RM = D.cap - (tot D.files fc : Nat) := ⟨_, rfl⟩
                have HRM := Lib.hid hRM
                rw [← hRM]
                clear k4 hRM c0
                go_wp2_with (first | go_skip | (with_reducible refine stop_load (t := 34) ?_) | fail)
                refine at_out (wpList_val (v := .agg cs.toArray) rfl (rn_loadH agg34 (by rfl) HH4.out HCL.out) ?_)
                simp only [Nat.reduceAdd, Nat.zero_add, Act.put, List.setIfInBounds_toArray, List.set_cons_succ, List.set_cons_zero]
                go_wp2_with fail
                refine (do_at HD4.out s cs HV4.out (by rw [← HC.out]; omega) hbl.out (by have := HB.out; omega)).mono ?_
                rintro _ w5 ⟨er, d', D', fc', rfl, hd', hdd, hr⟩
                obtain rfl : d' = d := hdd (by have := HKK.out; omega)
                obtain ⟨hi', hcase, hl1, hl2⟩ := met_do HI.out (by omega) HKK.out hr
                have HD' := Lib.hid hd'
                have HI' := Lib.hid hi'
                have HL' := Lib.hid (And.intro hl1 hl2)
                clear hd' hi' hl1 hl2 hr hdd
                rcases hcase with ⟨hch, her⟩ | ⟨hch, hcn, her, hsame⟩ | ⟨hch, hcn, her⟩
                · have HCH : Hid (D'.changes = C) := by refine Lib.hid ?_; rw [hch, HC.out]
                  have q1 : (C == C + 1) = false := beq_eq_false_iff_ne.2 (by omega)
                  have q3 : (er == 0) = false := beq_eq_false_iff_ne.2 her
                  clear hch her
                  by_cases he : er = 5
                  · have q2 : (er == 5) = true := beq_iff_eq.2 he
                    have HER := Lib.hid he
                    clear he
                    go_wp2_with fail
                    refine (dchanges HD'.out).mono ?_
                    rintro _ _ ⟨rfl, rfl⟩
                    rw [HCH.out]
                    go_wp2_with fail
                    refine (num_at 5 w5).mono ?_; rintro _ _ ⟨rfl, rfl⟩
                    go_wp2_with fail
                    refine (dchanges HD'.out).mono ?_
                    rintro _ _ ⟨rfl, rfl⟩
                    rw [HCH.out]
                    go_wp2_with fail
                    refine (dchanges HD'.out).mono ?_
                    rintro _ _ ⟨rfl, rfl⟩
                    rw [HCH.out]
                    go_wp2_with fail
                    refine (dchanges HD'.out).mono ?_
                    rintro _ _ ⟨rfl, rfl⟩
                    rw [HCH.out]
                    go_wp2
                    go_roundw
                    case rel => exact ⟨k + 1, D', fc', by omega, by go_num, HD'.out, HI'.out, by have := HB.out; have := HCH.out; have := HC.out; omega, by have := HB.out; have := HL'.out; omega, by have := HB.out; have := HL'.out; omega⟩
                    case measure => simp [intOf]; omega
                  · have q2 : (er == 5) = false := beq_eq_false_iff_ne.2 he
                    clear he
                    go_wp2_with fail
                    refine (dchanges HD'.out).mono ?_
                    rintro _ _ ⟨rfl, rfl⟩
                    rw [HCH.out]
                    go_wp2_with fail
                    refine (num_at 5 w5).mono ?_; rintro _ _ ⟨rfl, rfl⟩
                    go_wp2_with fail
                    refine (dchanges HD'.out).mono ?_
                    rintro _ _ ⟨rfl, rfl⟩
                    rw [HCH.out]
                    go_wp2_with fail
                    refine (dchanges HD'.out).mono ?_
                    rintro _ _ ⟨rfl, rfl⟩
                    rw [HCH.out]
                    go_wp2
                    go_roundw
                    case rel => exact ⟨k + 1, D', fc', by omega, by go_num, HD'.out, HI'.out, by have := HB.out; have := HCH.out; have := HC.out; omega, by have := HB.out; have := HL'.out; omega, by have := HB.out; have := HL'.out; omega⟩
                    case measure => simp [intOf]; omega
                · have HCH : Hid (D'.changes = C + 1) := by refine Lib.hid ?_; rw [hch, HC.out]
                  have q1 : (C + 1 == C) = false := beq_eq_false_iff_ne.2 (by omega)
                  have q2 : (C == n) = true := beq_iff_eq.2 (by rw [HC.out]; exact hcn)
                  have HSAME := Lib.hid hsame
                  subst her
                  clear hch hcn hsame
                  go_wp2_with fail
                  refine (dchanges HD'.out).mono ?_
                  rintro _ _ ⟨rfl, rfl⟩
                  rw [HCH.out]
                  go_wp2_with fail
                  refine (num_at 5 w5).mono ?_; rintro _ _ ⟨rfl, rfl⟩
                  go_wp2_with fail
                  refine (dchanges HD'.out).mono ?_
                  rintro _ _ ⟨rfl, rfl⟩
                  rw [HCH.out]
                  go_wp2_with fail
                  refine (dchanges HD'.out).mono ?_
                  rintro _ _ ⟨rfl, rfl⟩
                  rw [HCH.out]
                  go_wp2_with fail
                  refine (dchanges HD'.out).mono ?_
                  rintro _ _ ⟨rfl, rfl⟩
                  rw [HCH.out]
                  go_wp2_with fail
                  refine (droom HD'.out).mono ?_
                  rintro _ w6 ⟨rfl, k6⟩
                  have HD9 := Lib.hid (HD'.out.nb k6)
                  obtain ⟨f1, f2⟩ := HSAME.out (by trivial)
                  rw [show D'.cap - ((tot D'.files fc' : Nat) : Int) = RM by rw [f1, f2, HRM.out, HI'.out.cap, HI.out.cap]]
                  clear k6 f1 f2
                  go_wp2
                  go_roundw
                  case rel => exact ⟨k + 1, D', fc', by omega, by go_num, HD9.out, HI'.out, by have := HB.out; have := HCH.out; have := HC.out; omega, by have := HB.out; have := HL'.out; omega, by have := HB.out; have := HL'.out; omega⟩
                  case measure => simp [intOf]; omega
                · have HCH : Hid (D'.changes = C + 1) := by refine Lib.hid ?_; rw [hch, HC.out]
                  have q1 : (C + 1 == C) = false := beq_eq_false_iff_ne.2 (by omega)
                  have q2 : (C == n) = false := beq_eq_false_iff_ne.2 (by rw [HC.out]; exact hcn)
                  subst her
                  clear hch hcn
                  go_wp2_with fail
                  refine (dchanges HD'.out).mono ?_
                  rintro _ _ ⟨rfl, rfl⟩
                  rw [HCH.out]
                  go_wp2_with fail
                  refine (num_at 5 w5).mono ?_; rintro _ _ ⟨rfl, rfl⟩
                  go_wp2_with fail
                  refine (dchanges HD'.out).mono ?_
                  rintro _ _ ⟨rfl, rfl⟩
                  rw [HCH.out]
                  go_wp2_with fail
                  refine (dchanges HD'.out).mono ?_
                  rintro _ _ ⟨rfl, rfl⟩
                  rw [HCH.out]
                  go_wp2
                  go_roundw
                  case rel => exact ⟨k + 1, D', fc', by omega, by go_num, HD'.out, HI'.out, by have := HB.out; have := HCH.out; have := HC.out; omega, by have := HB.out; have := HL'.out; omega, by have := HB.out; have := HL'.out; omega⟩
                  case measure => simp [intOf]; omega
          · go_wp2_with fail
            refine (known_at wr).mono ?_
            rintro _ w2 ⟨rfl, k2⟩
            go_wp2
            go_ret
            exact ⟨rfl, HD.out.k.trans_nb k2⟩
      | false =>
        have e9 := HEF2.out rfl
        subst e9
        clear hEV
        go_wp2_with fail
        refine (dlay D2.out n 9 ⟨H0.out, HN.out.2⟩ (by omega)).mono ?_
        rintro _ w3 ⟨rfl, hd⟩
        have D3 := Lib.hid hd
        clear hd D2
        go_wp2_with fail
        refine (num_at 0 w3).mono ?_; rintro _ _ ⟨rfl, rfl⟩
        go_wp2
        go_loopw [10] (fun i wr => ∃ (k : Nat) (D : Dk) (fc : Nat → Fl), k ≤ m ∧ i = .int .i64 k ∧ Db w wr d D fc ∧ FInv n 9 D ∧ D.changes ≤ k ∧ D.files.length ≤ k ∧ D.lasting.length + D.steps.length ≤ 100 * k) (fun i _ => m - (intOf i).toNat)
        case atStart => exact ⟨0, _, _, Nat.zero_le _, rfl, D3.out, ⟨rfl, rfl, rfl, Int.le_refl _, .inl ⟨H0.out, rfl, by simp [layD, newD]⟩⟩, Int.le_refl _, Nat.le_refl _, Nat.le_refl _⟩
        case round =>
          obtain ⟨k, D, fc, hk, rfl, hd, hi, hch, hfl, hll⟩ := hrel
          have HD := Lib.hid hd
          have HI := Lib.hid hi
          have HB := Lib.hid (And.intro hch (And.intro hfl hll))
          clear hd hi hch hfl hll D3
          by_cases hlt : k < m
          · have i1 : (k : Int) < (m : Int) := by omega
            obtain ⟨s, hs⟩ : ∃ s, L[k]? = some s := ⟨_, List.getElem?_eq_getElem (by rw [HL.out]; exact hlt)⟩
            obtain ⟨b, off, cs, rfl, hv, hh⟩ := HS.out.2.2.2 k s hs
            have HV := Lib.hid (hv.nb HD.out.k)
            have HH := Lib.hid (hh.nb HD.out.k)
            have hbl : Hid (s.b.length ≤ 20000) := (HFEW.out.2 s (List.mem_of_getElem? hs)).1
            have hcl : cs.length = 7 := by obtain ⟨vb, vp, rfl, -⟩ := hv; rfl
            have c0 : wr.cell? ⟨b, off + k * 7, none⟩ = some (.int .i64 s.kind) := by
              obtain ⟨vb, vp, rfl, -⟩ := hv
              rcases HH.out with h | ⟨b', off', e, hc⟩
              · cases h
              · cases e; exact hc 0 _ rfl
            have HCL := Lib.hid hcl
            clear hs hv hh hcl
            by_cases hk1 : s.kind < 1
            · go_wp2
              go_roundw
              case rel => exact ⟨k + 1, D, fc, by omega, by go_num, HD.out, HI.out, by have := HB.out; omega, by have := HB.out; omega, by have := HB.out; omega⟩
              case measure => simp [intOf]; omega
            · by_cases hk7 : 7 < s.kind
              · go_wp2
                go_roundw
                case rel => exact ⟨k + 1, D, fc, by omega, by go_num, HD.out, HI.out, by have := HB.out; omega, by have := HB.out; omega, by have := HB.out; omega⟩
                case measure => simp [intOf]; omega
              · obtain ⟨C, hC⟩ : ∃ C : Int, C = D.changes := ⟨_, rfl⟩
                have HC := Lib.hid hC
                have hCb : 0 ≤ C ∧ C ≤ k := by rw [hC]; exact ⟨HI.out.c0, HB.out.1⟩
                have HKK : Hid (1 ≤ s.kind ∧ s.kind ≤ 7) := by refine Lib.hid ?_; omega
                clear hC
                go_wp2_with fail
                refine (dchanges HD.out).mono ?_
                rintro _ _ ⟨rfl, rfl⟩
                rw [← HC.out]
                go_wp2_with fail
                refine (droom HD.out).mono ?_
                rintro _ w4 ⟨rfl, k4⟩
                have HD4 := Lib.hid (HD.out.nb k4)
                have HV4 := Lib.hid (HV.out.nb k4)
                have HH4 := Lib.hid (HH.out.nb k4)
                obtain ⟨RM, hRM⟩ : ∃ RM : Int, RM = D.cap - (tot D.files fc : Nat) := ⟨_, rfl⟩
                have HRM := Lib.hid hRM
                rw [← hRM]
                clear k4 hRM c0
                go_wp2_with (first | go_skip | (with_reducible refine stop_load (t := 34) ?_) | fail)
                refine at_out (wpList_val (v := .agg cs.toArray) rfl (rn_loadH agg34 (by rfl) HH4.out HCL.out) ?_)
                simp only [Nat.reduceAdd, Nat.zero_add, Act.put, List.setIfInBounds_toArray, List.set_cons_succ, List.set_cons_zero]
                go_wp2_with fail
                refine (do_at HD4.out s cs HV4.out (by rw [← HC.out]; omega) hbl.out (by have := HB.out; omega)).mono ?_
                rintro _ w5 ⟨er, d', D', fc', rfl, hd', hdd, hr⟩
                obtain rfl : d' = d := hdd (by have := HKK.out; omega)
                obtain ⟨hi', hcase, hl1, hl2⟩ := met_do HI.out (by omega) HKK.out hr
                have HD' := Lib.hid hd'
                have HI' := Lib.hid hi'
                have HL' := Lib.hid (And.intro hl1 hl2)
                clear hd' hi' hl1 hl2 hr hdd
                rcases hcase with ⟨hch, her⟩ | ⟨hch, hcn, her, hsame⟩ | ⟨hch, hcn, her⟩
                · have HCH : Hid (D'.changes = C) := by refine Lib.hid ?_; rw [hch, HC.out]
                  have q1 : (C == C + 1) = false := beq_eq_false_iff_ne.2 (by omega)
                  have q3 : (er == 0) = false := beq_eq_false_iff_ne.2 her
                  clear hch her
                  by_cases he : er = 9
                  · have q2 : (er == 9) = true := beq_iff_eq.2 he
                    have HER := Lib.hid he
                    clear he
                    go_wp2_with fail
                    refine (dchanges HD'.out).mono ?_
                    rintro _ _ ⟨rfl, rfl⟩
                    rw [HCH.out]
                    go_wp2_with fail
                    refine (num_at 9 w5).mono ?_; rintro _ _ ⟨rfl, rfl⟩
                    go_wp2_with fail
                    refine (dchanges HD'.out).mono ?_
                    rintro _ _ ⟨rfl, rfl⟩
                    rw [HCH.out]
                    go_wp2_with fail
                    refine (dchanges HD'.out).mono ?_
                    rintro _ _ ⟨rfl, rfl⟩
                    rw [HCH.out]
                    go_wp2_with fail
                    refine (dchanges HD'.out).mono ?_
                    rintro _ _ ⟨rfl, rfl⟩
                    rw [HCH.out]
                    go_wp2
                    go_roundw
                    case rel => exact ⟨k + 1, D', fc', by omega, by go_num, HD'.out, HI'.out, by have := HB.out; have := HCH.out; have := HC.out; omega, by have := HB.out; have := HL'.out; omega, by have := HB.out; have := HL'.out; omega⟩
                    case measure => simp [intOf]; omega
                  · have q2 : (er == 9) = false := beq_eq_false_iff_ne.2 he
                    clear he
                    go_wp2_with fail
                    refine (dchanges HD'.out).mono ?_
                    rintro _ _ ⟨rfl, rfl⟩
                    rw [HCH.out]
                    go_wp2_with fail
                    refine (num_at 9 w5).mono ?_; rintro _ _ ⟨rfl, rfl⟩
                    go_wp2_with fail
                    refine (dchanges HD'.out).mono ?_
                    rintro _ _ ⟨rfl, rfl⟩
                    rw [HCH.out]
                    go_wp2_with fail
                    refine (dchanges HD'.out).mono ?_
                    rintro _ _ ⟨rfl, rfl⟩
                    rw [HCH.out]
                    go_wp2
                    go_roundw
                    case rel => exact ⟨k + 1, D', fc', by omega, by go_num, HD'.out, HI'.out, by have := HB.out; have := HCH.out; have := HC.out; omega, by have := HB.out; have := HL'.out; omega, by have := HB.out; have := HL'.out; omega⟩
                    case measure => simp [intOf]; omega
                · have HCH : Hid (D'.changes = C + 1) := by refine Lib.hid ?_; rw [hch, HC.out]
                  have q1 : (C + 1 == C) = false := beq_eq_false_iff_ne.2 (by omega)
                  have q2 : (C == n) = true := beq_iff_eq.2 (by rw [HC.out]; exact hcn)
                  have HSAME := Lib.hid hsame
                  subst her
                  clear hch hcn hsame
                  go_wp2_with fail
                  refine (dchanges HD'.out).mono ?_
                  rintro _ _ ⟨rfl, rfl⟩
                  rw [HCH.out]
                  go_wp2_with fail
                  refine (num_at 9 w5).mono ?_; rintro _ _ ⟨rfl, rfl⟩
                  go_wp2_with fail
                  refine (dchanges HD'.out).mono ?_
                  rintro _ _ ⟨rfl, rfl⟩
                  rw [HCH.out]
                  go_wp2_with fail
                  refine (dchanges HD'.out).mono ?_
                  rintro _ _ ⟨rfl, rfl⟩
                  rw [HCH.out]
                  go_wp2_with fail
                  refine (dchanges HD'.out).mono ?_
                  rintro _ _ ⟨rfl, rfl⟩
                  rw [HCH.out]
                  have HD9 := HD'
                  go_wp2
                  go_roundw
                  case rel => exact ⟨k + 1, D', fc', by omega, by go_num, HD9.out, HI'.out, by have := HB.out; have := HCH.out; have := HC.out; omega, by have := HB.out; have := HL'.out; omega, by have := HB.out; have := HL'.out; omega⟩
                  case measure => simp [intOf]; omega
                · have HCH : Hid (D'.changes = C + 1) := by refine Lib.hid ?_; rw [hch, HC.out]
                  have q1 : (C + 1 == C) = false := beq_eq_false_iff_ne.2 (by omega)
                  have q2 : (C == n) = false := beq_eq_false_iff_ne.2 (by rw [HC.out]; exact hcn)
                  subst her
                  clear hch hcn
                  go_wp2_with fail
                  refine (dchanges HD'.out).mono ?_
                  rintro _ _ ⟨rfl, rfl⟩
                  rw [HCH.out]
                  go_wp2_with fail
                  refine (num_at 9 w5).mono ?_; rintro _ _ ⟨rfl, rfl⟩
                  go_wp2_with fail
                  refine (dchanges HD'.out).mono ?_
                  rintro _ _ ⟨rfl, rfl⟩
                  rw [HCH.out]
                  go_wp2_with fail
                  refine (dchanges HD'.out).mono ?_
                  rintro _ _ ⟨rfl, rfl⟩
                  rw [HCH.out]
                  go_wp2
                  go_roundw
                  case rel => exact ⟨k + 1, D', fc', by omega, by go_num, HD'.out, HI'.out, by have := HB.out; have := HCH.out; have := HC.out; omega, by have := HB.out; have := HL'.out; omega, by have := HB.out; have := HL'.out; omega⟩
                  case measure => simp [intOf]; omega
          · go_wp2_with fail
            refine (known_at wr).mono ?_
            rintro _ w2 ⟨rfl, k2⟩
            go_wp2
            go_ret
            exact ⟨rfl, HD.out.k.trans_nb k2⟩
set_option maxRecDepth 100000 in
theorem walk {H : Type} {enc : TypeId × Value → H} {base : Nat} (w : World) {v0 : Value} {d0 : DataW H} {p0 : List MemPlace} (kv0 : Value.okWide Try.prog w .any base 22 v0) (k0 : DataW.Trod enc Try.prog w 0 (fun _ => true) true 22 v0 d0 p0) {a1 : Int} (w1 : (Lit.int .i64 a1).wf = true) {a2 : Bool} :
    Calls Try.prog 3 #[v0, .int .i64 a1, .bool a2] w fun e w' => e = .returned (.bool true) ∧ Below w.heap.size w w' := by
  obtain ⟨a, c, L, rfl, hs⟩ := steps_of kv0 k0
  refine (body w a L.length c L a1 a2 hs (i64_of w1)).mono ?_
  rintro e w' ⟨h1, h2⟩
  exact ⟨h1, h2.below⟩
end Go.Proofs.Ytgpecnihjjnkeaa.vfsFaults
