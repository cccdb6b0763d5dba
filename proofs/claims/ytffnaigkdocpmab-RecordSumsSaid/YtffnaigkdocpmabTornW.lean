/- The walk of SumsTorn: it returns true and writes nothing that was there. -/
import Derived.Test.YtffnaigkdocpmabTellW
set_option linter.unusedVariables false
namespace Go.Proofs.Ytffnaigkdocpmab
open Go.RowKit Go.Lk Go.Crc

instance (w0 : World) : Nonempty (Sub w0) := ⟨⟨w0, Keeps.refl _ _⟩⟩

/-- The text of bytes. -/
def strN (l : List Nat) : ByteArray := ⟨(l.map UInt8.ofNat).toArray⟩
theorem strN_inj {a b : List Nat} (ha : Bytes a) (hb : Bytes b) (h : strN a = strN b) : a = b := by
  have h1 : a.map UInt8.ofNat = b.map UInt8.ofNat := by
    have := congrArg (fun s : ByteArray => s.data.toList) h
    simpa [strN] using this
  have h2 : ∀ {l : List Nat}, Bytes l → (l.map UInt8.ofNat).map UInt8.toNat = l := fun {l} hl => by
    rw [List.map_map]
    conv => rhs; rw [← List.map_id l]
    exact List.map_congr_left (fun x hx => by simp; have := hl x hx; omega)
  rw [← h2 ha, h1, h2 hb]
theorem run_str {w : World} {a : Option Addr} {c : Nat} {l : List Nat} (h : ReadsN .u8 w a l) (hne : l ≠ []) : (convert 24 9 (.slice a l.length c)).run Try.prog w = .ok (.string (strN l)) w := by
  rcases h with h | ⟨b, off, rfl, hc⟩
  · exact absurd h hne
  have := run_convert_bytes_arg (P := Try.prog) w 24 5 Try.underlying24 Try.underlying5 b off l.length c (l.map fun x : Nat => (x : Int)) (by simp) (fun i hi => by rw [hc i hi, ntn_eq hi]; simp [List.getD, hi]) 9 Try.underlying9
  rw [this]
  congr 2
  simp [strOfNums, strN]

/-- What the torn record's law says of the sums. -/
theorem torn_law {l z : List Nat} {p : Nat} (hl : Bytes l) (hz : Bytes z) :
    (mor 0 (l.take p ++ z) = mor 0 l ↔ les (mor 0 l) (l.drop p) = les (mor 0 l) z) := by
  have e : mor 0 l = mor (mor 0 (l.take p)) (l.drop p) := by rw [← mor_append (hl.take p), List.take_append_drop]
  rw [mor_append (hl.take p)]
  have e1 : les (mor 0 l) (l.drop p) = mor 0 (l.take p) := by rw [e, les_mor (mor_lt _ _) (hl.drop p)]
  rw [e1]
  constructor
  · intro h; rw [← h, les_mor (mor_lt _ _) hz]
  · intro h; rw [h, mor_les (mor_lt _ _) hz]
theorem torn_tell {l z : List Nat} {p : Nat} (hl : Bytes l) (hz : Bytes z) (hlen : z.length = (l.drop p).length) (h4 : z.length ≤ 4) (h : mor 0 (l.take p ++ z) = mor 0 l) : l.take p ++ z = l := by
  have e : mor 0 l = mor (mor 0 (l.take p)) (l.drop p) := by rw [← mor_append (hl.take p), List.take_append_drop]
  rw [mor_append (hl.take p), e] at h
  have h1 := cpl_inj (inns_lt (cpl_lt _) hz) (inns_lt (cpl_lt _) (hl.drop p)) h
  rw [inns_tell (cpl_lt _) hz (hl.drop p) hlen h4 h1, List.take_append_drop]

/-- j noughts are laid from p on. -/
def torn (l : List Nat) (p j : Nat) : List Nat := l.take p ++ (List.replicate j 0 ++ l.drop (p + j))
theorem torn_zero (l : List Nat) (p : Nat) : torn l p 0 = l := by simp [torn]
theorem torn_len {l : List Nat} {p j : Nat} (h : p + j ≤ l.length) : (torn l p j).length = l.length := by simp [torn]; omega
theorem torn_set {l : List Nat} {p j : Nat} (h : p + j < l.length) : (torn l p j).set (p + j) 0 = torn l p (j + 1) := by
  unfold torn
  rw [List.set_append_right _ _ (by simp; omega), List.set_append_right _ _ (by simp; omega)]
  congr 1
  rw [List.length_take, List.length_replicate, show p + j - min p l.length - j = 0 by omega, List.drop_eq_getElem_cons h, List.set_cons_zero, List.replicate_succ', List.append_assoc]
  rfl
theorem torn_full {l : List Nat} {p t : Nat} (h : p + t = l.length) : torn l p t = l.take p ++ List.replicate t 0 := by
  unfold torn; rw [List.drop_of_length_le (by omega), List.append_nil]
theorem zeros_bytes (t : Nat) : Bytes (List.replicate t 0) := fun x hx => by rw [List.eq_of_mem_replicate hx]; decide

namespace sumsTorn
set_option maxRecDepth 100000 in
set_option maxHeartbeats 4000000 in
theorem walk (a0 : Option Addr) (len0 cap0 : Nat) (z0 : List Int) (a1 : Int) (w : World) (w0 : IsRow .u8 w a0 len0 cap0 z0) (w1 : (Lit.int .i64 a1).wf = true) :
    Calls Try.prog 6 #[.slice a0 len0 cap0, .int .i64 a1] w fun e w' => e = .returned (.bool true) ∧ Below w.heap.size w w' := by
  obtain ⟨l, rfl, hcap, hcm, hl, hb⟩ := w0.bytes
  clear w0 w1
  unfold maxLen at hcm
  by_cases hgood : 4 ≤ l.length ∧ l.length ≤ 3000 ∧ 1 ≤ a1 ∧ a1 ≤ l.length
  · obtain ⟨g1, g2, g4, g5⟩ := hgood
    obtain ⟨t, rfl⟩ := Int.eq_ofNat_of_zero_le (show 0 ≤ a1 by omega)
    obtain ⟨p, hp⟩ : ∃ p, p + t = l.length := ⟨l.length - t, by omega⟩
    have hpl : p < l.length := by omega
    have e1 : (l.length : Int) - t = (p : Int) := by omega
    have HP := Lib.hid hp; clear hp
    have hown0 := World.ownsRow_nil w w.heap.size 5 1
    have hsrc := hl.has
    have hne : l ≠ [] := by rintro rfl; simp at g1
    have HNE := Lib.hid hne; clear hne
    go_enter Try.func6, Try.ntmps6
    go_wp2_with (at_builtin; refine at_in ?_)
    refine at_out (wp_app el24 w.heap.size 0 [] (l.map fun x => .int .u8 (x : Nat)) hown0 rfl rfl hsrc (by simp) one_nats (by unfold maxLen; omega) (by omega) (Nat.le_refl _) ?_); intro v1 w1 hown hg hnil
    have K := (Keeps.refl Nb w).grown hg (fun k h _ => by cases h)
    simp only [Nat.zero_add, List.nil_append] at hown
    obtain ⟨g, c, rfl, -, hc1, hc2, hgb, ho⟩ := own_of_row hown HNE.out
    clear hown0 hsrc hnil hown hg
    unfold maxLen at hc2
    have HL := Lib.hid hl; clear hl
    go_wp2
    go_loopw [6] (fun i wr => ∃ j : Nat, p + j ≤ l.length ∧ i = .int .i64 ((p + j : Nat) : Int) ∧ OwnB .u8 5 wr g (torn l p j) ∧ Keeps Nb w wr) (fun i _ => l.length - (intOf i).toNat)
    case atStart => exact ⟨0, by omega, rfl, by rw [torn_zero]; exact ho, K⟩
    case round =>
      clear K ho
      obtain ⟨j, hj, rfl, ho, K⟩ := hrel
      have HTL := Lib.hid (torn_len hj)
      by_cases hlt : p + j < l.length
      · have hcell := ho.cell (i := p + j) (by rw [HTL.out]; exact hlt)
        have hfr := ho.free (p + j)
        have HS := Lib.hid (ho.set (p + j) 0)
        rw [torn_set hlt] at HS
        generalize ntn (torn l p j) (p + j) = x at *
        obtain ⟨q, hq⟩ : ∃ q, p + j = q := ⟨_, rfl⟩
        rw [hq] at hcell hfr HS hlt hj ⊢
        have HQ := Lib.hid hq; clear hq
        go_wp2
        go_roundw
        case rel => exact ⟨j + 1, by have := HQ.out; omega, val_int (by have := HQ.out; omega), HS.out, K.setCell (p := ⟨g, q, none⟩) (fun h => absurd h (by show ¬ g < _; omega)) _⟩
        case measure => simp [intOf]; omega
      · have hjt : j = t := by have := HP.out; omega
        subst hjt
        have hpj : ((p + j : Nat) : Int) = (l.length : Int) := by omega
        rw [hpj]
        have R1 := Lib.hid ho.reads
        have R2 := Lib.hid (ho.readsFrom p)
        rw [torn_full HP.out] at R1 R2
        have hdp : (l.take p ++ List.replicate j 0).drop p = List.replicate j 0 := by rw [List.drop_append_of_le_length (by rw [List.length_take]; omega), List.drop_of_length_le (by rw [List.length_take]; omega), List.nil_append]
        rw [hdp] at R2
        have hz := zeros_bytes j
        have hmb : Bytes (l.take p ++ List.replicate j 0) := (Bytes.take hb p).append hz
        have hlaw := torn_law (p := p) hb hz
        have htell := torn_tell (p := p) hb hz (by simp; have := HP.out; omega)
        have hlenm : (l.take p ++ List.replicate j 0).length = l.length := by simp; have := HP.out; omega
        have LEN := Lib.hid hlenm; clear hlenm
        generalize l.take p ++ List.replicate j 0 = m at *
        have C1 := Lib.hid (fun (u : World) (h : RowsN (u.alloc (.cells #[.slice a0 l.length cap0] 24)) (some ⟨u.heap.size, 0, none⟩) [l]) => sum_at 1 1 (some ⟨u.heap.size, 0, none⟩) [l] _ rfl h (by intro x hx; simp at hx; subst hx; exact hb) (by simp) (by simp; omega))
        rw [one_flat] at C1
        have C2 := Lib.hid (fun (u : World) (h : RowsN (u.alloc (.cells #[.slice (some ⟨g, 0, none⟩) l.length c] 24)) (some ⟨u.heap.size, 0, none⟩) [m]) => sum_at 1 1 (some ⟨u.heap.size, 0, none⟩) [m] _ rfl h (by intro x hx; simp at hx; subst hx; exact hmb) (by simp) (by simp; have := LEN.out; omega))
        rw [one_flat] at C2
        have HL2 := Lib.hid (HL.out.nb K)
        clear ho hdp
        go_wp2_with fail
        refine (C1.out _ (row_one rfl hcap HL2.out)).mono ?_; rintro e w4 ⟨rfl, K4⟩
        replace K := (K.alloc (.cells #[.slice a0 l.length cap0] 24)).trans_nb K4
        have KK := (Keeps.refl Nb wr).alloc (.cells #[.slice a0 l.length cap0] 24)
        replace R1 := Lib.hid (R1.out.nb (KK.trans_nb K4))
        replace R2 := Lib.hid (R2.out.nb (KK.trans_nb K4))
        replace HL2 := Lib.hid (HL2.out.nb (KK.trans_nb K4))
        clear KK K4
        obtain ⟨b, off, rfl⟩ : ∃ b off, a0 = some ⟨b, off, none⟩ := by
          rcases HL2.out with h | ⟨b, off, h, -⟩
          · exact absurd h HNE.out
          · exact ⟨b, off, h⟩
        have HD := Lib.hid (HL2.out.drop p)
        have hbd : Bytes (l.drop p) := Bytes.drop hb p
        have C3 := Lib.hid (fun (u : World) (h : Keeps Nb w4 u) => less_at (mor 0 l) (l.length - p) (cap0 - p) (some ⟨b, off + p, none⟩) (l.drop p) u (mor_lt _ _) (by simp) (HD.out.nb h) hbd (by simp; omega))
        have C4 := Lib.hid (fun (u : World) (h : Keeps Nb w4 u) => less_at (mor 0 l) (l.length - p) (c - p) (some ⟨g, p, none⟩) (List.replicate j 0) u (mor_lt _ _) (by simp; have := HP.out; omega) (R2.out.nb h) hz (by simp; have := HP.out; omega))
        have hq1 : ¬ cap0 = p := by omega
        have hq2 : ¬ c = p := by omega
        have hq3 : (p : Int) ≤ l.length := by omega
        have LAW := Lib.hid hlaw; have TELL := Lib.hid htell; clear hlaw htell
        generalize les (mor 0 l) (l.drop p) = x1 at *
        generalize les (mor 0 l) (List.replicate j 0) = x2 at *
        go_wp2
        refine region_sub (by kernel_rfl) (by kernel_rfl) ?_
        repeat (go_big_quiet_step ((go_at_call 12; first | (with_reducible exact quiet_sub (C3.out _ (Sub.k _))) | (with_reducible exact quiet_sub (C4.out _ (Sub.k _))))))
        refine wpQuiet_nil ?_
        rintro w9 ⟨u9, hu9⟩
        have K9 : Keeps Nb w4 w9 := hu9 ▸ u9.k
        clear hu9 u9
        replace K := K.trans_nb K9
        replace R1 := Lib.hid (R1.out.nb K9)
        replace HL2 := Lib.hid (HL2.out.nb K9)
        clear K9 C3 C4 HD R2
        go_wp2_with fail
        refine (C2.out _ (row_one LEN.out.symm hc1 R1.out)).mono ?_; rintro e w5 ⟨rfl, K5⟩
        replace K := (K.alloc (.cells #[.slice (some ⟨g, 0, none⟩) l.length c] 24)).trans_nb K5
        have KK := (Keeps.refl Nb w9).alloc (.cells #[.slice (some ⟨g, 0, none⟩) l.length c] 24)
        replace R1 := Lib.hid (R1.out.nb (KK.trans_nb K5))
        replace HL2 := Lib.hid (HL2.out.nb (KK.trans_nb K5))
        clear KK K5
        obtain ⟨same, hsame⟩ : ∃ same : Bool, same = ((x1 : Int) == x2) := ⟨_, rfl⟩
        rw [← hsame]
        have hsm : (((mor 0 m : Nat) : Int) == ((mor 0 l : Nat) : Int)) = same := by
          rw [hsame, Bool.eq_iff_iff, beq_iff_eq, beq_iff_eq]
          have := LAW.out
          omega
        have hne2 : (same != same) = false := by simp
        by_cases h4 : 4 < j
        · clear hsame
          go_wp2_with fail
          refine (known_at _).mono ?_; rintro e w6 ⟨rfl, K6⟩
          go_wp2
          go_ret
          exact ⟨rfl, (K.trans_nb K6).below⟩
        · have hmne : m ≠ [] := by rintro rfl; have := LEN.out; simp at this; omega
          have hcv1 := run_str (c := c) R1.out hmne
          have hcv2 := run_str (c := cap0) HL2.out HNE.out
          rw [LEN.out] at hcv1
          have hst : ((strN m).toList == (strN l).toList) = same := by
            rw [hsame, Bool.eq_iff_iff, beq_iff_eq, beq_iff_eq]
            constructor
            · intro h
              have hml := strN_inj hmb hb (by rw [Go.ByteArray.toList_eq, Go.ByteArray.toList_eq] at h; exact ByteArray.ext (Array.toList_inj.1 h))
              have := LAW.out.1 (by rw [hml]); omega
            · intro h
              rw [TELL.out (by simp; omega) (LAW.out.2 (by omega))]
          clear hsame hmne
          generalize strN m = s1 at *
          generalize strN l = s2 at *
          go_wp2_with fail
          refine (known_at _).mono ?_; rintro e w6 ⟨rfl, K6⟩
          go_wp2
          go_ret
          exact ⟨rfl, (K.trans_nb K6).below⟩
  · have hbad : l.length < 4 ∨ (4 ≤ l.length ∧ 3000 < l.length) ∨ (4 ≤ l.length ∧ l.length ≤ 3000 ∧ a1 < 1) ∨ (4 ≤ l.length ∧ l.length ≤ 3000 ∧ 1 ≤ a1 ∧ (l.length : Int) < a1) := by omega
    clear hgood
    rcases hbad with h1 | ⟨h1, h2⟩ | ⟨h1, h2, h3⟩ | ⟨h1, h2, h3, h4⟩
    all_goals
      go_enter Try.func6, Try.ntmps6
      go_wp2_with fail
      refine (known_at _).mono ?_; rintro e w1 ⟨rfl, K⟩
      go_wp2; go_ret; exact ⟨rfl, K.below⟩
end sumsTorn
end Go.Proofs.Ytffnaigkdocpmab
