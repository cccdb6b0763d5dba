/- The walk of SumsTell: it returns true and writes nothing that was there. -/
import Derived.Test.YtffnaigkdocpmabBackW
import Derived.Test.YtffnaigkdocpmabMath2
set_option linter.unusedVariables false
namespace Go.Proofs.Ytffnaigkdocpmab
open Go.RowKit Go.Lk Go.Crc

theorem el24 : ElemT Try.prog 24 5 1 1 (.int .u8 0) := ⟨Try.underlying24, by kernel_rfl, rfl, by decide⟩
theorem row_one {w : World} {a : Option Addr} {n c : Nat} {l : List Nat} {e' : TypeId} {fr : Nat × Nat} (hn : n = l.length) (hc : n ≤ c) (h : ReadsN .u8 w a l) : RowsN (w.alloc (.cells #[.slice a n c] e' fr)) (some ⟨w.heap.size, 0, none⟩) [l] := by
  subst hn
  refine .inr ⟨_, _, rfl, fun i hi => ?_⟩
  obtain rfl : i = 0 := by simpa using hi
  exact ⟨a, c, by rw [cell_of_block (block_alloc _ _)]; rfl, hc, h.nb ((Keeps.refl Nb _).alloc _)⟩
theorem one_flat {l : List Nat} : [l].flatten = l := by simp

namespace sumsTell
set_option maxRecDepth 100000 in
set_option maxHeartbeats 4000000 in
theorem walk (a0 : Option Addr) (len0 cap0 : Nat) (z0 : List Int) (a1 : Int) (a2 : Int) (w : World) (w0 : IsRow .u8 w a0 len0 cap0 z0) (w1 : (Lit.int .i64 a1).wf = true) (w2 : (Lit.int .u32 a2).wf = true) :
    Calls Try.prog 5 #[.slice a0 len0 cap0, .int .i64 a1, .int .u32 a2] w fun e w' => e = .returned (.bool true) ∧ Below w.heap.size w w' := by
  obtain ⟨l, rfl, hcap, hcm, hl, hb⟩ := w0.bytes
  obtain ⟨f, rfl, hf⟩ := u32_nat w2
  clear w0 w1 w2
  unfold maxLen at hcm
  by_cases hgood : 4 ≤ l.length ∧ l.length ≤ 5000 ∧ f ≠ 0 ∧ 0 ≤ a1 ∧ a1 ≤ 8 * l.length - 32
  · obtain ⟨g1, g2, g3, g4, g5⟩ := hgood
    obtain ⟨at', rfl⟩ := Int.eq_ofNat_of_zero_le g4
    have g3' : ((f : Int) == 0) = false := by rw [beq_eq_false_iff_ne]; omega
    have G3 := Lib.hid g3; clear g3
    have hown0 := World.ownsRow_nil w w.heap.size 5 1
    have hsrc := hl.has
    have hne : l ≠ [] := by rintro rfl; simp at g1
    have HNE := Lib.hid hne; clear hne
    go_enter Try.func5, Try.ntmps5
    go_wp2_with (at_builtin; refine at_in ?_)
    refine at_out (wp_app el24 w.heap.size 0 [] (l.map fun x => .int .u8 (x : Nat)) hown0 rfl rfl hsrc (by simp) one_nats (by unfold maxLen; omega) (by omega) (Nat.le_refl _) ?_); intro v1 w1 hown hg hnil
    have K := (Keeps.refl Nb w).grown hg (fun k h _ => by cases h)
    simp only [Nat.zero_add, List.nil_append] at hown
    obtain ⟨g, c, rfl, -, hc1, hc2, hgb, ho⟩ := own_of_row hown HNE.out
    clear hown0 hsrc hnil hown hg
    unfold maxLen at hc2
    have HL := Lib.hid hl; clear hl
    go_wp2
    go_loopw [8] (fun i wr => ∃ (k : Nat) (m : List Nat), k ≤ 32 ∧ i = .int .i64 k ∧ m.length = l.length ∧ OwnB .u8 5 wr g m ∧ Bytes m ∧ le m = le l ^^^ (2 ^ at' * (f % 2 ^ k)) ∧ Keeps Nb w wr) (fun i _ => 32 - (intOf i).toNat)
    case atStart => exact ⟨0, l, by omega, rfl, rfl, ho, hb, by rw [Nat.pow_zero, Nat.mod_one, Nat.mul_zero, Nat.xor_zero], K⟩
    case round =>
      clear K ho
      obtain ⟨k, m, hk, rfl, hml, ho, hmb, hle, K⟩ := hrel
      have HML := Lib.hid hml
      by_cases hlt : k < 32
      · by_cases hbit : f / 2 ^ k % 2 = 1
        · have hj : (at' + k) / 8 < m.length := by omega
          obtain ⟨j, hj0⟩ : ∃ j, (at' + k) / 8 = j := ⟨_, rfl⟩
          obtain ⟨t, ht0⟩ : ∃ t, (at' + k) % 8 = t := ⟨_, rfl⟩
          have ht : t < 8 := by omega
          have hjt : 8 * j + t = at' + k := by omega
          rw [hj0] at hj
          have e1 : ((at' : Int) + k) / 8 = (j : Int) := by omega
          have e2 : ((at' : Int) + k) % 8 = (t : Int) := by omega
          have HLE := Lib.hid (burst_step hle hbit hjt hj)
          have hbt : (((f : Int) / 2 ^ k).tmod 2 == 1) = true := by
            rw [beq_iff_eq, show (((f : Int) / 2 ^ k).tmod 2) = ((f / 2 ^ k % 2 : Nat) : Int) by push_cast; rfl, hbit]; rfl
          have hjl : j < l.length := by omega
          clear hle hbit hjt hj0 ht0 hml
          have hcell := ho.cell hj
          have hfr := ho.free j
          have hx : ntn m j < 256 := hmb _ (ntn_mem hj)
          have HO := Lib.hid ho; have HB := Lib.hid hmb; clear ho hmb
          have hp : 2 ^ t < 256 := Nat.lt_of_le_of_lt (Nat.pow_le_pow_right (by decide) (show t ≤ 7 by omega)) (by decide)
          have e3 : bits .xor .u8 ((ntn m j : Nat) : Int) (2 ^ t % 256) = ((ntn m j ^^^ 2 ^ t : Nat) : Int) := by
            have hp2 : ((2 : Int) ^ t % 256) = ((2 ^ t : Nat) : Int) := by
              have h : ((2 ^ t : Nat) : Int) = (2 : Int) ^ t := by push_cast; rfl
              rw [← h]; exact Int.emod_eq_of_lt (Int.natCast_nonneg _) (Int.ofNat_lt.2 hp)
            rw [hp2, xor8 hx hp]
          have hy : ntn m j ^^^ 2 ^ t < 256 := Nat.xor_lt_two_pow (n := 8) hx hp
          have HS := Lib.hid (HO.out.set j (ntn m j ^^^ 2 ^ t))
          have HB2 := Lib.hid (Bytes.set HB.out hy (j := j))
          generalize ntn m j ^^^ 2 ^ t = y at *
          generalize ntn m j = x at *
          clear hp
          go_wp2
          go_roundw
          case rel => exact ⟨k + 1, _, by omega, by go_num, by rw [List.length_set]; exact HML.out, HS.out, HB2.out, HLE.out, K.setCell (p := ⟨g, j, none⟩) (fun h => absurd h (by show ¬ g < _; omega)) _⟩
          case measure => simp [intOf]; omega
        · have hbt : (((f : Int) / 2 ^ k).tmod 2 == 1) = false := by
            rw [beq_eq_false_iff_ne, show (((f : Int) / 2 ^ k).tmod 2) = ((f / 2 ^ k % 2 : Nat) : Int) by push_cast; rfl]; omega
          have HLE : Hid (le m = le l ^^^ (2 ^ at' * (f % 2 ^ (k + 1)))) := by show _ = _; rw [burst_skip hbit]; exact hle
          clear hbit hle hml
          go_wp2
          go_roundw
          case rel => exact ⟨k + 1, m, by omega, by go_num, HML.out, ho, hmb, HLE.out, K⟩
          case measure => simp [intOf]; omega
      · obtain rfl : k = 32 := by omega
        have hne2 : mor 0 m ≠ mor 0 l := mor_burst hb hmb hml (at' := at') hf G3.out (by omega) (by rw [hle, Nat.mod_eq_of_lt hf])
        have hbn : ((mor 0 m : Nat) : Int) != ((mor 0 l : Nat) : Int) := by rw [bne_iff_ne]; omega
        have R1 := Lib.hid ho.reads
        clear hne2 hle hml
        have hl1 : l.length = m.length := HML.out.symm
        have HL1 := Lib.hid hl1; clear hl1
        have C1 := Lib.hid (fun (u : World) (h : RowsN (u.alloc (.cells #[.slice (some ⟨g, 0, none⟩) l.length c] 24)) (some ⟨u.heap.size, 0, none⟩) [m]) => sum_at 1 1 (some ⟨u.heap.size, 0, none⟩) [m] _ rfl h (by intro x hx; simp at hx; subst hx; exact hmb) (by simp) (by simp; have := HL1.out; omega))
        rw [one_flat] at C1
        have C2 := Lib.hid (fun (u : World) (h : RowsN (u.alloc (.cells #[.slice a0 l.length cap0] 24)) (some ⟨u.heap.size, 0, none⟩) [l]) => sum_at 1 1 (some ⟨u.heap.size, 0, none⟩) [l] _ rfl h (by intro x hx; simp at hx; subst hx; exact hb) (by simp) (by simp; omega))
        rw [one_flat] at C2
        generalize mor 0 m = x at *
        generalize mor 0 l = y at *
        go_wp2_with fail
        refine (C1.out _ (row_one HL1.out (by omega) R1.out)).mono ?_; rintro e w4 ⟨rfl, K4⟩
        have hk4 := (K.alloc (.cells #[.slice (some ⟨g, 0, none⟩) l.length c] 24)).trans_nb K4
        have HL4 := Lib.hid (HL.out.nb hk4)
        go_wp2_with fail
        refine (C2.out _ (row_one rfl (by omega) HL4.out)).mono ?_; rintro e w5 ⟨rfl, K5⟩
        replace hk4 := (hk4.alloc (.cells #[.slice a0 l.length cap0] 24)).trans_nb K5
        go_wp2_with fail
        refine (known_at _).mono ?_; rintro e w6 ⟨rfl, K6⟩
        go_wp2
        go_ret
        exact ⟨rfl, (hk4.trans_nb K6).below⟩
  · have hbad : l.length < 4 ∨ (4 ≤ l.length ∧ 5000 < l.length) ∨ (4 ≤ l.length ∧ l.length ≤ 5000 ∧ f = 0) ∨ (4 ≤ l.length ∧ l.length ≤ 5000 ∧ f ≠ 0 ∧ a1 < 0) ∨ (4 ≤ l.length ∧ l.length ≤ 5000 ∧ f ≠ 0 ∧ 0 ≤ a1 ∧ 8 * (l.length : Int) - 32 < a1) := by omega
    clear hgood
    have f0 : f = 0 → ((f : Int) == 0) = true := fun h => by rw [beq_iff_eq]; omega
    have f1 : f ≠ 0 → ((f : Int) == 0) = false := fun h => by rw [beq_eq_false_iff_ne]; omega
    rcases hbad with h1 | ⟨h1, h2⟩ | ⟨h1, h2, h3⟩ | ⟨h1, h2, h3, h4⟩ | ⟨h1, h2, h3, h4, h5⟩
    · clear f0 f1
      go_enter Try.func5, Try.ntmps5
      go_wp2_with fail
      refine (known_at _).mono ?_; rintro e w1 ⟨rfl, K⟩
      go_wp2; go_ret; exact ⟨rfl, K.below⟩
    · clear f0 f1
      go_enter Try.func5, Try.ntmps5
      go_wp2_with fail
      refine (known_at _).mono ?_; rintro e w1 ⟨rfl, K⟩
      go_wp2; go_ret; exact ⟨rfl, K.below⟩
    · subst h3; clear f0 f1
      go_enter Try.func5, Try.ntmps5
      go_wp2_with fail
      refine (known_at _).mono ?_; rintro e w1 ⟨rfl, K⟩
      go_wp2; go_ret; exact ⟨rfl, K.below⟩
    · replace f1 := f1 h3; clear f0 h3
      go_enter Try.func5, Try.ntmps5
      go_wp2_with fail
      refine (known_at _).mono ?_; rintro e w1 ⟨rfl, K⟩
      go_wp2; go_ret; exact ⟨rfl, K.below⟩
    · replace f1 := f1 h3; clear f0 h3
      go_enter Try.func5, Try.ntmps5
      go_wp2_with fail
      refine (known_at _).mono ?_; rintro e w1 ⟨rfl, K⟩
      go_wp2; go_ret; exact ⟨rfl, K.below⟩
end sumsTell
end Go.Proofs.Ytffnaigkdocpmab
