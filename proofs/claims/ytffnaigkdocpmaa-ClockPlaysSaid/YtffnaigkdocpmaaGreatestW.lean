/- The walk of ClockGreatest: it returns true and writes nothing that was there. -/
import Derived.Test.YtffnaigkdocpmaaKnown
namespace Go.Proofs.Ytffnaigkdocpmaa
open Go.RowKit Go.Lk

theorem el22 : ElemT Try.prog 22 24 1 8 (.int .u64 0) := ⟨Try.underlying22, by kernel_rfl, rfl, by decide⟩

namespace clockGreatest
set_option maxHeartbeats 1000000 in
theorem walk (a0 : Option Addr) (len0 cap0 : Nat) (z0 : List Int) (w : World) (w0 : IsRow .u64 w a0 len0 cap0 z0) :
    Calls Try.prog 3 #[.slice a0 len0 cap0] w fun e w' => e = .returned (.bool true) ∧ Below w.heap.size w w' := by
  obtain ⟨l, rfl, hcap, hcm, hr, -⟩ := w0.reads
  clear w0
  unfold maxLen at hcm
  by_cases hlong : 300 < l.length
  · go_enter Try.func3, Try.ntmps3
    go_wp2_with fail
    refine (known_at _).mono ?_
    rintro e w1 ⟨rfl, K⟩
    go_wp2
    go_ret
    exact ⟨rfl, K.below⟩
  have hown0 := World.ownsRow_nil w w.heap.size 24 1
  have hsrc := hr.has
  by_cases h0 : l = []
  · subst h0
    go_enter Try.func3, Try.ntmps3
    go_wp2_with (at_builtin; refine wp_app el22 w.heap.size 0 [] [] hown0 rfl rfl (.inl rfl) rfl (fun _ h => by cases h) (by decide) (by decide) (Nat.le_refl _) ?_; intro v' w1 hown hg hnil)
    obtain rfl : v' = .slice none 0 0 := by simpa using hnil
    have K := (Keeps.refl Nb w).grown hg (fun k h _ => by cases h)
    clear hnil hown hg hown0 hsrc hr
    go_wp2_with (first | (go_at_call 9; refine (greatest_none _ _ _).mono ?_; rintro e w' ⟨rfl, rfl⟩))
    refine (known_at _).mono ?_
    rintro e w2 ⟨rfl, K2⟩
    go_wp2
    go_ret
    exact ⟨rfl, (K.trans_nb K2).below⟩
  · have hz : 0 < l.length := List.length_pos_iff.2 h0
    go_enter Try.func3, Try.ntmps3
    go_wp2_with (at_builtin; refine wp_app el22 w.heap.size 0 [] (l.map (.int .u64)) hown0 rfl rfl hsrc (by simp) one_ints (by unfold maxLen; omega) (by omega) (Nat.le_refl _) ?_; intro v' w1 hown hg hnil)
    have K := (Keeps.refl Nb w).grown hg (fun k h _ => by cases h)
    simp only [Nat.zero_add, List.nil_append] at hown
    obtain ⟨a', c', rfl, -, hc1, hc2, hr', hb'⟩ := owns_reads hown
    replace hr := hr.nb K
    clear hnil hown hg hown0 hsrc
    have hn0 : ((l.length : Int) == 0) = false := by rw [beq_eq_false_iff_ne]; omega
    go_wp2_with fail
    refine (greatest_some _ _ _ l _ rfl hr' hz (by omega)).mono ?_
    rintro e w' ⟨rfl, rfl⟩
    have HR := Lib.hid hr
    rcases hr with rfl | ⟨b, off, rfl, hc⟩
    · simp at hz
    rcases hr' with rfl | ⟨b', off', rfl, hc'⟩
    · simp at hz
    unfold maxLen at hc2
    have hh := Lib.hid hn0; clear hn0
    go_wp2
    go_loopw [6] (fun i wr => ∃ k : Nat, k ≤ l.length ∧ i = .int .i64 k ∧ Drew w1 wr) (fun i _ => l.length - (intOf i).toNat)
    case atStart => exact ⟨0, by omega, rfl, Drew.refl _⟩
    case round =>
      obtain ⟨k, hk, rfl, hd⟩ := hrel
      by_cases hlt : k < l.length
      · have h1 := (hd.cell _).trans (hc k hlt)
        have h2 := (hd.cell _).trans (hc' k hlt)
        clear hc hc'
        go_wp2
        go_quiet (fail)
        go_wp2
        go_roundw
        case rel => exact ⟨k + 1, by omega, by go_num, hd.drewN _⟩
        case measure => simp [intOf]; omega
      · have C := Lib.hid (fun c => ref_at _ _ c l wr rfl (HR.out.drew hd) hz (by omega))
        clear hc hc'
        go_wp2_with (go_at_call 10; refine (C.out _).mono ?_; rintro e w' ⟨rfl, rfl⟩)
        refine (known_at _).mono ?_
        rintro e w2 ⟨rfl, K2⟩
        go_wp2
        go_ret
        exact ⟨rfl, ((K.trans_nb hd.keeps).trans_nb K2).below⟩
end clockGreatest
end Go.Proofs.Ytffnaigkdocpmaa
