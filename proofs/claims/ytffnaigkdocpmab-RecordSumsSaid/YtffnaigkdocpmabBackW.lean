/- The walk of SumsBack: it returns true and writes nothing that was there. -/
import Derived.Test.YtffnaigkdocpmabKnown
set_option linter.unusedVariables false
namespace Go.Proofs.Ytffnaigkdocpmab
open Go.RowKit Go.Lk Go.Crc

theorem u32_nat {a : Int} (h : (Lit.int .u32 a).wf = true) : ∃ s : Nat, a = s ∧ s < 2 ^ 32 := by
  simp [Lit.wf] at h
  rw [show IntKind.u32.min = 0 from rfl, show IntKind.u32.max = 4294967295 from rfl] at h
  exact ⟨a.toNat, by omega, by omega⟩

namespace sumsBack
set_option maxRecDepth 100000 in
set_option maxHeartbeats 1000000 in
theorem walk (a0 : Int) (a1 : Option Addr) (len1 cap1 : Nat) (z1 : List Int) (w : World) (w0 : (Lit.int .u32 a0).wf = true) (w1 : IsRow .u8 w a1 len1 cap1 z1) :
    Calls Try.prog 4 #[.int .u32 a0, .slice a1 len1 cap1] w fun e w' => e = .returned (.bool true) ∧ Below w.heap.size w w' := by
  obtain ⟨s, rfl, hs⟩ := u32_nat w0
  obtain ⟨l, rfl, hcap, hcm, hl, hb⟩ := w1.bytes
  clear w0 w1
  by_cases hlong : 5000 < l.length
  · go_enter Try.func4, Try.ntmps4
    go_wp2_with fail
    refine (known_at _).mono ?_
    rintro e w1 ⟨rfl, K⟩
    go_wp2
    go_ret
    exact ⟨rfl, K.below⟩
  have hm : l.length ≤ 1000000 := by omega
  have hll : l.length ≤ 5000 := by omega
  clear hlong
  have E1 := Lib.hid (les_mor hs hb)
  have E2 := Lib.hid (mor_les hs hb)
  have L1 := les_lt s l
  have L2 := mor_lt s l
  have C1 := Lib.hid (fun u (h : ReadsN .u8 u a1 l) => less_at s l.length cap1 a1 l u hs rfl h hb hm)
  have C2 := Lib.hid (fun u (h : ReadsN .u8 u a1 l) => more_at s l.length cap1 a1 l u hs rfl h hb hm)
  have C3 := Lib.hid (fun u (h : ReadsN .u8 u a1 l) => less_at (mor s l) l.length cap1 a1 l u L2 rfl h hb hm)
  have C4 := Lib.hid (fun u (h : ReadsN .u8 u a1 l) => more_at (les s l) l.length cap1 a1 l u L1 rfl h hb hm)
  have C5 := Lib.hid (fun u (h : ReadsN .u8 u a1 l) => refless_at s l.length cap1 a1 l u hs rfl h hb hm)
  rw [E1.out] at C3
  rw [E2.out] at C4
  generalize les s l = x at *
  generalize mor s l = y at *
  have HL := Lib.hid hl; clear hl
  have t1 : ((s : Int) == s) = true := by simp
  have t2 : ((x : Int) == x) = true := by simp
  go_enter Try.func4, Try.ntmps4
  go_wp2_with fail
  refine (C1.out _ HL.out).mono ?_; rintro e w1 ⟨rfl, K1⟩
  replace HL := Lib.hid (HL.out.nb K1)
  go_wp2_with fail
  refine (C2.out _ HL.out).mono ?_; rintro e w2 ⟨rfl, K2⟩
  replace HL := Lib.hid (HL.out.nb K2)
  replace K1 := K1.trans_nb K2; clear K2
  go_wp2_with fail
  refine (C3.out _ HL.out).mono ?_; rintro e w3 ⟨rfl, K2⟩
  replace HL := Lib.hid (HL.out.nb K2)
  replace K1 := K1.trans_nb K2; clear K2
  go_wp2_with fail
  refine (C4.out _ HL.out).mono ?_; rintro e w4 ⟨rfl, K2⟩
  replace HL := Lib.hid (HL.out.nb K2)
  replace K1 := K1.trans_nb K2; clear K2
  go_wp2_with fail
  refine (C5.out _ HL.out).mono ?_; rintro e w5 ⟨rfl, rfl⟩
  go_wp2_with fail
  refine (known_at _).mono ?_
  rintro e w6 ⟨rfl, K⟩
  go_wp2
  go_ret
  exact ⟨rfl, (K1.trans_nb K).below⟩
end sumsBack
end Go.Proofs.Ytffnaigkdocpmab
