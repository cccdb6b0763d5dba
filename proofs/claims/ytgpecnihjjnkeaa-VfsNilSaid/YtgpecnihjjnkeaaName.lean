/- Names: which may be. -/
import Derived.Test.YtgpecnihjjnkeaaBase
import Derived.Lib.ConvBytes
set_option linter.unusedVariables false
set_option linter.unusedSimpArgs false
namespace Go.Vfs
open Go.Lk Go.RowKit
/-- A string's bytes. -/
def sb (s : ByteArray) : List Nat := s.data.toList.map UInt8.toNat
theorem sb_len (s : ByteArray) : (sb s).length = s.size := by simp [sb]
/-- May a byte stand in a name? -/
def okc (c : Nat) : Bool := (decide (97 ≤ c) && decide (c ≤ 122)) || (decide (48 ≤ c) && decide (c ≤ 57)) || decide (c = 46) || decide (c = 45)
def mnB (s : ByteArray) : Bool := (sb s).all okc && (decide (1 ≤ s.size) && decide (s.size ≤ 32))
/-- A string turned to bytes: a new row. -/
def IsBytes (w : World) (s : ByteArray) (v : Value) (w' : World) : Prop := ∃ g c, v = .slice (some ⟨g, 0, none⟩) s.size c ∧ w.heap.size ≤ g ∧ (∀ i, i < s.size → w'.cell? ⟨g, i, none⟩ = some (.int .u8 (ntn (sb s) i : Nat))) ∧ Keeps Nb w w'
theorem re_bytes {P : Program} {w : World} {dst : Option Tmp} {x : Operand} {src t e ty : TypeId} {pos : String} {aft : Array Edge} {gd : Option (Nat × Bool)} {a : Act} {s : ByteArray} (hs : P.underlying src = some .string) (hd : P.underlying t = some (.slice e)) (he : P.underlying e = some (.int .u8)) (hx : a.eval x = .string s) :
    ∃ v w', (execOp a.eval ⟨dst, .convert src t x, ty, pos, aft, gd⟩).run P w = .ok (.value v) w' ∧ IsBytes w s v w' := by
  refine ⟨.slice (some ⟨w.heap.size, 0, none⟩) s.size (grownCap w s.size 0 e), Lib.bytesWorld w e s, ?_, w.heap.size, grownCap w s.size 0 e, rfl, Nat.le_refl _, fun i hi => ?_, ?_⟩
  · unfold execOp
    simp only [hx, Sem.run_bind, Lib.run_convert_string_bytes w src t e s hs hd he, Result.andThen_ok, Sem.run_pure]
  · have := Lib.bytesWorld_cell w e s i hi
    rw [this]
    have : i < s.data.toList.length := by simpa using hi
    simp [ntn, sb, List.getD_eq_getElem?_getD, this]
    cases s.data[i]? <;> rfl
  · exact ⟨rfl, rfl, rfl, by rw [Lib.bytesWorld_size]; omega, fun k hk _ => Lib.bytesWorld_at_old w e s k hk⟩
end Go.Vfs
namespace Go.Proofs.Ytgpecnihjjnkeaa
open Go.RowKit Go.Lk Go.Vfs
theorem stop_convert {P : Program} {ops : Array Oper} {rest : List Oper} {dst : Option Tmp} {x : Operand} {s t ty : TypeId} {pos : String} {aft : Array Edge} {gd : Option (Nat × Bool)} {a : Act} {w : World} {Q : Exit → Act → World → Prop}
    (h : At (wpList P ops Q (⟨dst, .convert s t x, ty, pos, aft, gd⟩ :: rest) a w)) : wpList P ops Q (⟨dst, .convert s t x, ty, pos, aft, gd⟩ :: rest) a w := h
set_option maxHeartbeats 2000000 in
theorem name_at (s : ByteArray) (hs : s.size ≤ maxLen) (w : World) : Calls Try.prog 43 #[.string s] w fun e w' => e = .returned (.bool (mnB s)) ∧ Keeps Nb w w' := by
  unfold maxLen at hs
  have hl := sb_len s
  obtain ⟨n, hn⟩ : ∃ n, s.size = n := ⟨_, rfl⟩
  have hmn : mnB s = ((sb s).all okc && (decide (1 ≤ n) && decide (n ≤ 32))) := by rw [← hn]; rfl
  have HM := Lib.hid hmn
  clear hmn
  have hsn : s.data.size = n := hn
  rw [hn] at hs hl
  have HN := Lib.hid hn
  go_enter Try.func43, Try.ntmps43
  go_wp2_with (first | go_skip | (with_reducible refine stop_convert ?_))
  refine at_out (wpList_valE rfl (re_bytes (s := s) Try.underlying9 Try.underlying31 Try.underlying5 (by rfl)) ?_)
  rintro _ w1 ⟨g, c, rfl, hg, hc, k1⟩
  simp only [Nat.reduceAdd, Nat.zero_add, Act.put, List.setIfInBounds_toArray, List.set_cons_succ, List.set_cons_zero]
  rw [HN.out] at hc ⊢
  have HC := Lib.hid hc
  have HL := Lib.hid hl
  clear hc hn hl
  go_wp2
  go_loop [8] (fun i => ∃ k : Nat, k ≤ n ∧ i = .int .i64 k ∧ ((sb s).take k).all okc = true) (fun i => n - (intOf i).toNat)
  case atStart => exact ⟨0, Nat.zero_le _, rfl, by simp⟩
  case round =>
    obtain ⟨k, hk, rfl, hall⟩ := hrel
    have HA := Lib.hid hall
    clear hall
    by_cases hlt : k < n
    · have i1 : (k : Int) < (n : Int) := by omega
      have ck := HC.out k hlt
      have HT := Lib.hid (show ((sb s).take (k + 1)).all okc = (((sb s).take k).all okc && okc (ntn (sb s) k)) by
        have h : k < (sb s).length := by rw [HL.out]; exact hlt
        rw [List.take_succ_eq_append_getElem h, List.all_append, ntn_eq h]; simp)
      have HF := Lib.hid (show okc (ntn (sb s) k) = false → mnB s = false from fun h => by
        rw [HM.out]
        have : (sb s).all okc = false := by
          rw [List.all_eq_false]
          exact ⟨_, ntn_mem (by rw [HL.out]; exact hlt), by simpa using h⟩
        rw [this]; rfl)
      have hxb : ntn (sb s) k < 256 := by
        rw [ntn_eq (by rw [HL.out]; exact hlt)]
        simp only [sb, List.getElem_map]
        exact UInt8.toNat_lt _
      generalize ntn (sb s) k = x at *
      have hx : (x < 45) ∨ (x = 45) ∨ (x = 46) ∨ (x = 47) ∨ (48 ≤ x ∧ x ≤ 57) ∨ (58 ≤ x ∧ x ≤ 96) ∨ (97 ≤ x ∧ x ≤ 122) ∨ (122 < x) := by omega
      rcases hx with hx | hx | hx | hx | hx | hx | hx | hx
      · have t1 : decide ((x : Int) < 97) = true := by simp; omega
        have t2 : decide ((122 : Int) < (x : Int)) = false := by simp; omega
        have t3 : decide ((x : Int) < 48) = true := by simp; omega
        have t4 : decide ((57 : Int) < (x : Int)) = false := by simp; omega
        have t5 : ((x : Int) != 46) = true := by simp; omega
        have t6 : ((x : Int) != 45) = true := by simp; omega
        have ok : okc x = false := by unfold okc; simp; omega
        have HO := Lib.hid ok
        clear ok hx
        go_wp2
        go_ret
        exact ⟨by rw [HF.out HO.out]; rfl, k1⟩
      · have t1 : decide ((x : Int) < 97) = true := by simp; omega
        have t2 : decide ((122 : Int) < (x : Int)) = false := by simp; omega
        have t3 : decide ((x : Int) < 48) = true := by simp; omega
        have t4 : decide ((57 : Int) < (x : Int)) = false := by simp; omega
        have t5 : ((x : Int) != 46) = true := by simp; omega
        have t6 : ((x : Int) != 45) = false := by simp; omega
        have ok : okc x = true := by unfold okc; simp; omega
        have HO := Lib.hid ok
        clear ok hx
        go_wp2
        go_round
        case rel => exact ⟨k + 1, by omega, by go_num, by rw [HT.out, HA.out, HO.out]; rfl⟩
        case measure => simp [intOf]; omega
      · have t1 : decide ((x : Int) < 97) = true := by simp; omega
        have t2 : decide ((122 : Int) < (x : Int)) = false := by simp; omega
        have t3 : decide ((x : Int) < 48) = true := by simp; omega
        have t4 : decide ((57 : Int) < (x : Int)) = false := by simp; omega
        have t5 : ((x : Int) != 46) = false := by simp; omega
        have t6 : ((x : Int) != 45) = true := by simp; omega
        have ok : okc x = true := by unfold okc; simp; omega
        have HO := Lib.hid ok
        clear ok hx
        go_wp2
        go_round
        case rel => exact ⟨k + 1, by omega, by go_num, by rw [HT.out, HA.out, HO.out]; rfl⟩
        case measure => simp [intOf]; omega
      · have t1 : decide ((x : Int) < 97) = true := by simp; omega
        have t2 : decide ((122 : Int) < (x : Int)) = false := by simp; omega
        have t3 : decide ((x : Int) < 48) = true := by simp; omega
        have t4 : decide ((57 : Int) < (x : Int)) = false := by simp; omega
        have t5 : ((x : Int) != 46) = true := by simp; omega
        have t6 : ((x : Int) != 45) = true := by simp; omega
        have ok : okc x = false := by unfold okc; simp; omega
        have HO := Lib.hid ok
        clear ok hx
        go_wp2
        go_ret
        exact ⟨by rw [HF.out HO.out]; rfl, k1⟩
      · have t1 : decide ((x : Int) < 97) = true := by simp; omega
        have t2 : decide ((122 : Int) < (x : Int)) = false := by simp; omega
        have t3 : decide ((x : Int) < 48) = false := by simp; omega
        have t4 : decide ((57 : Int) < (x : Int)) = false := by simp; omega
        have t5 : ((x : Int) != 46) = true := by simp; omega
        have t6 : ((x : Int) != 45) = true := by simp; omega
        have ok : okc x = true := by unfold okc; simp; omega
        have HO := Lib.hid ok
        clear ok hx
        go_wp2
        go_round
        case rel => exact ⟨k + 1, by omega, by go_num, by rw [HT.out, HA.out, HO.out]; rfl⟩
        case measure => simp [intOf]; omega
      · have t1 : decide ((x : Int) < 97) = true := by simp; omega
        have t2 : decide ((122 : Int) < (x : Int)) = false := by simp; omega
        have t3 : decide ((x : Int) < 48) = false := by simp; omega
        have t4 : decide ((57 : Int) < (x : Int)) = true := by simp; omega
        have t5 : ((x : Int) != 46) = true := by simp; omega
        have t6 : ((x : Int) != 45) = true := by simp; omega
        have ok : okc x = false := by unfold okc; simp; omega
        have HO := Lib.hid ok
        clear ok hx
        go_wp2
        go_ret
        exact ⟨by rw [HF.out HO.out]; rfl, k1⟩
      · have t1 : decide ((x : Int) < 97) = false := by simp; omega
        have t2 : decide ((122 : Int) < (x : Int)) = false := by simp; omega
        have t3 : decide ((x : Int) < 48) = false := by simp; omega
        have t4 : decide ((57 : Int) < (x : Int)) = true := by simp; omega
        have t5 : ((x : Int) != 46) = true := by simp; omega
        have t6 : ((x : Int) != 45) = true := by simp; omega
        have ok : okc x = true := by unfold okc; simp; omega
        have HO := Lib.hid ok
        clear ok hx
        go_wp2
        go_round
        case rel => exact ⟨k + 1, by omega, by go_num, by rw [HT.out, HA.out, HO.out]; rfl⟩
        case measure => simp [intOf]; omega
      · have t1 : decide ((x : Int) < 97) = false := by simp; omega
        have t2 : decide ((122 : Int) < (x : Int)) = true := by simp; omega
        have t3 : decide ((x : Int) < 48) = false := by simp; omega
        have t4 : decide ((57 : Int) < (x : Int)) = true := by simp; omega
        have t5 : ((x : Int) != 46) = true := by simp; omega
        have t6 : ((x : Int) != 45) = true := by simp; omega
        have ok : okc x = false := by unfold okc; simp; omega
        have HO := Lib.hid ok
        clear ok hx
        go_wp2
        go_ret
        exact ⟨by rw [HF.out HO.out]; rfl, k1⟩
    · have hkn : k = n := by omega
      subst hkn
      rw [List.take_of_length_le (by rw [HL.out]; exact Nat.le_refl _)] at HA
      have hm2 : mnB s = (decide (1 ≤ k) && decide (k ≤ 32)) := by rw [HM.out, HA.out]; rfl
      have HM2 := Lib.hid hm2
      clear hm2
      have hsz : s.size = k := HN.out
      by_cases h1 : 1 ≤ k
      · by_cases h2 : k ≤ 32
        · have t7 : decide ((k : Int) ≤ 32) = true := by simp; omega
          have e : mnB s = true := by rw [HM2.out]; simp; omega
          have HE := Lib.hid e
          clear e
          go_wp2
          go_ret
          exact ⟨by rw [HE.out]; rfl, k1⟩
        · have t7 : decide ((k : Int) ≤ 32) = false := by simp; omega
          have e : mnB s = false := by rw [HM2.out]; simp; omega
          have HE := Lib.hid e
          clear e
          go_wp2
          go_ret
          exact ⟨by rw [HE.out]; rfl, k1⟩
      · have e : mnB s = false := by rw [HM2.out]; simp; omega
        have HE := Lib.hid e
        clear e
        go_wp2
        go_ret
        exact ⟨by rw [HE.out]; rfl, k1⟩
end Go.Proofs.Ytgpecnihjjnkeaa
