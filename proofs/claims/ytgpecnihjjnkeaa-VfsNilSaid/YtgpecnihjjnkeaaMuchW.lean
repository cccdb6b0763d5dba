/- Much; a new disk; a disk seen from a law. -/
import Derived.Test.YtgpecnihjjnkeaaArgsV
set_option linter.unusedVariables false
set_option linter.unusedSimpArgs false
namespace Go.Vfs
open Go.Lk Go.RowKit
/-- The steps are few, and short. -/
def Few (L : List StepD) (n : Int) : Prop := (L.length : Int) ≤ n ∧ ∀ s ∈ L, s.b.length ≤ 20000 ∧ s.picks.length ≤ 20000
end Go.Vfs
namespace Go.Proofs.Ytgpecnihjjnkeaa
open Go.RowKit Go.Lk Go.Vfs
set_option maxHeartbeats 4000000 in
set_option maxRecDepth 100000 in
theorem much_at (most : Nat) (a : Option Addr) (n c : Nat) (L : List StepD) (w0 w : World) (h : StepsAt w0 w a n c L) (hm : most ≤ 1000) :
    Calls Try.prog 7 #[.slice a n c, .int .i64 most] w fun e w' => ∃ r : Bool, e = .returned (.bool r) ∧ (r = false → Few L most) ∧ Keeps Nb w w' := by
  obtain ⟨hl, hnc, hcm, hst⟩ := h
  have HST := Lib.hid hst
  have HL := Lib.hid hl
  unfold maxLen at hcm
  clear hst hl
  go_enter Try.func7, Try.ntmps7
  go_wp2
  go_loopw [5, 6] (fun m i wr => ∃ (k : Nat) (t : Nat), k ≤ n ∧ k ≤ most + 1 ∧ i = .int .i64 k ∧ m = .int .i64 t ∧ t ≤ 20000 ∧ Hid (∀ s ∈ L.take k, s.b.length ≤ t ∧ s.picks.length ≤ t) ∧ Keeps Nb w wr) (fun _ i _ => n - (intOf i).toNat)
  case atStart => exact ⟨0, 0, Nat.zero_le _, Nat.zero_le _, rfl, rfl, by omega, Lib.hid (by simp), Keeps.refl _ _⟩
  case round =>
    obtain ⟨k, t, hk, hkm, rfl, rfl, ht, HT, kr⟩ := hrel
    have KR := Lib.hid kr
    clear kr
    by_cases hlt : k < n
    · by_cases hle : k ≤ most
      · have i1 : (k : Int) < (n : Int) := by omega
        have i2 : (k : Int) ≤ (most : Int) := by omega
        obtain ⟨s, hs⟩ : ∃ s, L[k]? = some s := ⟨_, List.getElem?_eq_getElem (by rw [HL.out]; exact hlt)⟩
        have HS := Lib.hid hs
        obtain ⟨b, off, cs, rfl, hv, hh⟩ := HST.out k s hs
        obtain ⟨vb, vp, rfl, hB, hP, -⟩ := hv
        obtain ⟨ba, bc, rfl, -⟩ := hB.rows
        obtain ⟨pa, pc, rfl, -⟩ := hP
        have C5 : ∀ u : Sub wr, u.wd.cell? ⟨b, off + k * 7 + 5, none⟩ = some (.slice ba s.b.length bc) := fun u => by
          have h1 := (hh.nb KR.out).nb u.k
          rcases h1 with h1 | ⟨b', off', e, hc⟩
          · cases h1
          · cases e; exact hc 5 _ rfl
        have C3 : ∀ u : Sub wr, u.wd.cell? ⟨b, off + k * 7 + 3, none⟩ = some (.string s.name) := fun u => by
          have h1 := (hh.nb KR.out).nb u.k
          rcases h1 with h1 | ⟨b', off', e, hc⟩
          · cases h1
          · cases e; exact hc 3 _ rfl
        have C4 : ∀ u : Sub wr, u.wd.cell? ⟨b, off + k * 7 + 4, none⟩ = some (.string s.to) := fun u => by
          have h1 := (hh.nb KR.out).nb u.k
          rcases h1 with h1 | ⟨b', off', e, hc⟩
          · cases h1
          · cases e; exact hc 4 _ rfl
        have C6 : ∀ u : Sub wr, u.wd.cell? ⟨b, off + k * 7 + 6, none⟩ = some (.slice pa s.picks.length pc) := fun u => by
          have h1 := (hh.nb KR.out).nb u.k
          rcases h1 with h1 | ⟨b', off', e, hc⟩
          · cases h1
          · cases e; exact hc 6 _ rfl
        clear hh hs hB
        go_wp2
        refine region_sub (by kernel_rfl) (by kernel_rfl) ?_
        repeat (go_big_quiet_step (fail))
        refine wpQuiet_nil ?_
        rintro w2 ⟨u2, hu2⟩
        have K2 : Hid (Keeps Nb wr w2) := hu2 ▸ u2.k
        clear hu2 C3 C4 C5 C6
        go_wp2
        · go_ret
          exact ⟨true, rfl, (fun e => by cases e), KR.out.trans_nb K2.out⟩
        · have hle20 : t + min s.b.length 20001 + min s.name.size 20001 + min s.to.size 20001 + min s.picks.length 20001 ≤ 20000 := by
            rename_i hq
            omega
          refine ⟨⟨k + 1, t + min s.b.length 20001 + min s.name.size 20001 + min s.to.size 20001 + min s.picks.length 20001, by omega, by omega, by go_num, val_int (by omega), hle20, ?_, KR.out.trans_nb K2.out⟩, by simp [intOf]; omega⟩
          refine Lib.hid fun s' hs' => ?_
          rw [take_snocA HS.out] at hs'
          rcases List.mem_append.1 hs' with hs' | hs'
          · have := HT.out s' hs'; omega
          · rw [List.mem_singleton.1 hs']; omega
      · go_wp2
        go_ret
        exact ⟨_, rfl, fun e => (by
          have e1 := HL.out
          simp at e
          omega), KR.out⟩
    · go_wp2
      go_ret
      have hk2 : k = L.length := by rw [HL.out]; omega
      exact ⟨_, rfl, fun e => (by
        simp at e
        refine ⟨by have := HL.out; omega, fun s hs => ?_⟩
        have := HT.out s (by rw [hk2, List.take_length]; exact hs)
        omega), KR.out⟩
end Go.Proofs.Ytgpecnihjjnkeaa
