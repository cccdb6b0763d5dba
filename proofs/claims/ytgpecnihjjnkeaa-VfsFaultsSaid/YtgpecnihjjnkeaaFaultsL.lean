/- A fault that is laid: what each change makes of it. -/
import Derived.Test.YtgpecnihjjnkeaaKnownW
set_option linter.unusedVariables false
set_option linter.unusedSimpArgs false
namespace Go.Proofs.Ytgpecnihjjnkeaa
open Go.RowKit Go.Lk Go.Vfs
/-- The fault E at the change n, seen from a disk behind some changes. -/
structure FInv (n E : Int) (D : Dk) : Prop where
  cap : D.cap = 30000
  dead : D.dead = false
  fuse : D.fuse = -1
  c0 : 0 ≤ D.changes
  f : (D.changes ≤ n ∧ D.fe = E ∧ D.fn = n - D.changes) ∨ (n < D.changes ∧ D.fe = 0)
variable {n E : Int} {D D' : Dk} {fc fc' : Nat → Fl} {er : Int} {sz : Nat} {s : StepD}
theorem chgF (h : FInv n E D) (hE : E = 5 ∨ E = 9) : (chg D).1.changes = D.changes + 1 ∧ (chg D).1.files = D.files ∧ FInv n E (chg D).1 ∧
    ((D.changes = n ∧ (chg D).2.2 = E ∧ (chg D).2.1 = if E = 9 then 2 else 0) ∨ (D.changes ≠ n ∧ (chg D).2.2 = 0 ∧ (chg D).2.1 = 1)) := by
  obtain ⟨h1, h2, h3, h4, h5⟩ := h
  obtain ⟨g1, g2, g3, g4, g5⟩ := chg_same D
  refine ⟨g4, g1, ?_, ?_⟩
  · refine ⟨g5.trans h1, ?_, ?_, by rw [g4]; omega, ?_⟩
    · unfold chg
      simp only [h3, show ¬ ((-1 : Int) = 0) by omega, if_false]
      split
      · exact h2
      · split <;> exact h2
    · unfold chg
      simp only [h3, show ¬ ((-1 : Int) = 0) by omega, show ¬ (0 < (-1 : Int)) by omega, if_false]
      split
      · rfl
      · split <;> rfl
    · rw [g4]
      unfold chg
      simp only [h3, show ¬ ((-1 : Int) = 0) by omega, if_false]
      by_cases hf : D.fe ≠ 0 ∧ ¬ 0 < D.fn
      · rw [if_pos hf]
        refine .inr ⟨?_, rfl⟩
        rcases h5 with ⟨h6, h7, h8⟩ | ⟨h6, h7⟩
        · omega
        · exact absurd h7 hf.1
      · rw [if_neg hf]
        by_cases he : D.fe ≠ 0
        · rw [if_pos he]
          rcases h5 with ⟨h6, h7, h8⟩ | ⟨h6, h7⟩
          · exact .inl ⟨by omega, h7, by simp only; omega⟩
          · exact absurd h7 he
        · rw [if_neg he]
          refine .inr ⟨?_, by simpa using he⟩
          rcases h5 with ⟨h6, h7, h8⟩ | ⟨h6, h7⟩
          · exact absurd (by omega) he
          · omega
  · unfold chg
    simp only [h3, show ¬ ((-1 : Int) = 0) by omega, if_false]
    by_cases hf : D.fe ≠ 0 ∧ ¬ 0 < D.fn
    · rw [if_pos hf]
      rcases h5 with ⟨h6, h7, h8⟩ | ⟨h6, h7⟩
      · exact .inl ⟨by omega, h7, by rw [h7]⟩
      · exact absurd h7 hf.1
    · rw [if_neg hf]
      refine .inr ⟨?_, rfl, rfl⟩
      rcases h5 with ⟨h6, h7, h8⟩ | ⟨h6, h7⟩
      · intro e; exact hf ⟨by omega, by omega⟩
      · omega
/-- What a change does under a fault. -/
def Met (n E : Int) (D : Dk) (fc : Nat → Fl) (er : Int) (D' : Dk) (fc' : Nat → Fl) : Prop :=
  FInv n E D' ∧ ((D'.changes = D.changes ∧ er ≠ 0) ∨ (D'.changes = D.changes + 1 ∧ D.changes = n ∧ er = E ∧ (E = 5 → D'.files = D.files ∧ fc' = fc)) ∨ (D'.changes = D.changes + 1 ∧ D.changes ≠ n ∧ er = 0)) ∧ D'.lasting.length + D'.steps.length ≤ D.lasting.length + D.steps.length + D.files.length + 1 ∧ D'.files.length ≤ D.files.length + 1
theorem met_same (h : FInv n E D) (he : er ≠ 0) : Met n E D fc er D fc := ⟨h, .inl ⟨rfl, he⟩, by omega, by omega⟩
/-- Of a change: D1 is what it makes of the disk's directory where it is done. -/
theorem met_chg (h : FInv n E D) (hE : E = 5 ∨ E = 9) (he : er = (chg D).2.2) (h1 : (chg D).2.1 = 1 → FInv n E D' ∧ D'.changes = (chg D).1.changes) (h2 : (chg D).2.1 ≠ 1 → D' = (chg D).1 ∧ ((chg D).2.1 = 0 → fc' = fc))
    (hl : D'.lasting.length + D'.steps.length ≤ D.lasting.length + D.steps.length + D.files.length + 1) (hl2 : D'.files.length ≤ D.files.length + 1) : Met n E D fc er D' fc' := by
  obtain ⟨g1, g2, g3, g4⟩ := chgF h hE
  rcases g4 with ⟨k1, k2, k3⟩ | ⟨k1, k2, k3⟩
  · have hn1 : (chg D).2.1 ≠ 1 := by rw [k3]; split <;> omega
    obtain ⟨rfl, h4⟩ := h2 hn1
    exact ⟨g3, .inr (.inl ⟨g1, k1, by rw [he, k2], fun e => ⟨g2, h4 (by rw [k3, if_neg (by omega)])⟩⟩), hl, hl2⟩
  · obtain ⟨h4, h5⟩ := h1 k3
    exact ⟨h4, .inr (.inr ⟨by rw [h5, g1], k1, by rw [he, k2]⟩), hl, hl2⟩
theorem fput_len (l : List (ByteArray × Nat)) (t : ByteArray) (b : Nat) : (fput l t b).length ≤ l.length + 1 := by
  unfold fput; split
  · rw [List.length_map]; omega
  · rw [List.length_append]; simp
theorem fdel_len (l : List (ByteArray × Nat)) (t : ByteArray) : (fdel l t).length ≤ l.length := List.length_filter_le _ _
/-- Each change keeps to it. -/
theorem met_do (h : FInv n E D) (hE : E = 5 ∨ E = 9) (hk : 1 ≤ s.kind ∧ s.kind ≤ 7) (hd : DoR sz D fc s er D' fc') : Met n E D fc er D' fc' := by
  obtain ⟨q1, q2, q3, q4, q5⟩ := chg_same D
  obtain ⟨g1, g2, g3, g4⟩ := chgF h hE
  have hg3 := g3
  obtain ⟨a1, a2, a3, a4, a5⟩ := g3
  rcases hd with ⟨-, hr, -⟩ | ⟨-, hr⟩ | ⟨-, hr⟩ | ⟨-, hr⟩ | ⟨-, hr, rfl⟩ | ⟨-, hr, rfl⟩ | ⟨-, hr, rfl⟩ | ⟨h0, -⟩ | ⟨h0, -⟩ | ⟨h0, -⟩ | ⟨h0, -⟩
  · rcases hr with ⟨-, he, rfl, rfl⟩ | ⟨-, -, he, rfl, rfl⟩ | ⟨-, -, -, he, rfl, rfl⟩ | ⟨-, -, -, hdd, -⟩ | ⟨-, -, -, -, he, hr⟩
    · exact met_same h (by omega)
    · exact met_same h (by omega)
    · exact met_same h (by omega)
    · rw [h.dead] at hdd; cases hdd
    · rcases hr with ⟨hc, b, -, rfl, rfl⟩ | ⟨hc, rfl, rfl⟩
      · exact met_chg h hE he (fun _ => ⟨⟨a1, a2, a3, a4, a5⟩, rfl⟩) (fun e => absurd hc e) (by simp [Dk.make, q2, q3]; omega) (by simp [Dk.make, q1])
      · exact met_chg h hE he (fun e => absurd e hc) (fun _ => ⟨rfl, fun _ => rfl⟩) (by rw [q2, q3]; omega) (by rw [q1]; omega)
  · rcases hr with ⟨-, he, rfl, rfl⟩ | ⟨-, -, he, rfl, rfl⟩ | ⟨b, -, -, ⟨-, he, rfl, rfl⟩ | ⟨-, hdd, -⟩ | ⟨-, -, he, rfl, hf⟩⟩
    · exact met_same h (by omega)
    · exact met_same h (by omega)
    · exact met_same h (by omega)
    · rw [h.dead] at hdd; cases hdd
    · exact met_chg h hE he (fun _ => ⟨hg3, rfl⟩) (fun _ => ⟨rfl, fun e0 => by rw [hf, if_pos e0]⟩) (by rw [q2, q3]; omega) (by rw [q1]; omega)
  · rcases hr with ⟨-, he, rfl, rfl⟩ | ⟨-, -, he, rfl, rfl⟩ | ⟨b, -, -, ⟨hdd, -⟩ | ⟨-, he, rfl, hf⟩⟩
    · exact met_same h (by omega)
    · exact met_same h (by omega)
    · rw [h.dead] at hdd; cases hdd
    · exact met_chg h hE he (fun _ => ⟨hg3, rfl⟩) (fun _ => ⟨rfl, fun e0 => by rw [hf, if_neg (by omega)]⟩) (by rw [q2, q3]; omega) (by rw [q1]; omega)
  · rcases hr with ⟨-, he, rfl, rfl⟩ | ⟨-, -, he, rfl, rfl⟩ | ⟨-, -, -, he, rfl, rfl⟩ | ⟨b, -, -, -, ⟨-, he, rfl, rfl⟩ | ⟨-, hdd, -⟩ | ⟨-, -, he, rfl, hf⟩⟩
    · exact met_same h (by omega)
    · exact met_same h (by omega)
    · exact met_same h (by omega)
    · exact met_same h (by omega)
    · rw [h.dead] at hdd; cases hdd
    · exact met_chg h hE he (fun _ => ⟨hg3, rfl⟩) (fun _ => ⟨rfl, fun e0 => by rw [hf, if_neg (by omega)]⟩) (by rw [q2, q3]; omega) (by rw [q1]; omega)
  · rcases hr with ⟨-, he, rfl⟩ | ⟨-, -, he, rfl⟩ | ⟨-, -, -, he, rfl⟩ | ⟨b, -, -, -, ⟨hdd, -⟩ | ⟨-, he, hf⟩⟩
    · exact met_same h (by omega)
    · exact met_same h (by omega)
    · exact met_same h (by omega)
    · rw [h.dead] at hdd; cases hdd
    · by_cases h1 : (chg D).2.1 = 1
      · rw [if_pos h1] at hf
        have f1 := fput_len (fdel (chg D).1.files s.name) s.to b
        have f2 := fdel_len (chg D).1.files s.name
        exact met_chg h hE he (fun _ => ⟨by rw [hf]; exact ⟨a1, a2, a3, a4, a5⟩, by rw [hf]; rfl⟩) (fun e => absurd h1 e) (by rw [hf]; simp [Dk.ren, Dk.step, q2, q3]; omega) (by rw [hf]; simp only [Dk.ren, Dk.step]; rw [q1] at f1 f2 ⊢; omega)
      · rw [if_neg h1] at hf
        exact met_chg h hE he (fun e => absurd e h1) (fun _ => ⟨hf, fun _ => rfl⟩) (by rw [hf, q2, q3]; omega) (by rw [hf, q1]; omega)
  · rcases hr with ⟨-, he, rfl⟩ | ⟨-, -, he, rfl⟩ | ⟨b, -, -, ⟨hdd, -⟩ | ⟨-, he, hf⟩⟩
    · exact met_same h (by omega)
    · exact met_same h (by omega)
    · rw [h.dead] at hdd; cases hdd
    · by_cases h1 : (chg D).2.1 = 1
      · rw [if_pos h1] at hf
        have f2 := fdel_len (chg D).1.files s.name
        exact met_chg h hE he (fun _ => ⟨by rw [hf]; exact ⟨a1, a2, a3, a4, a5⟩, by rw [hf]; rfl⟩) (fun e => absurd h1 e) (by rw [hf]; simp [Dk.rem, Dk.step, q2, q3]; omega) (by rw [hf]; simp only [Dk.rem, Dk.step]; rw [q1] at f2 ⊢; omega)
      · rw [if_neg h1] at hf
        exact met_chg h hE he (fun e => absurd e h1) (fun _ => ⟨hf, fun _ => rfl⟩) (by rw [hf, q2, q3]; omega) (by rw [hf, q1]; omega)
  · rcases hr with ⟨hdd, -⟩ | ⟨-, he, hf⟩
    · rw [h.dead] at hdd; cases hdd
    · by_cases h1 : (chg D).2.1 = 1
      · rw [if_pos h1] at hf
        exact met_chg h hE he (fun _ => ⟨by rw [hf]; exact ⟨a1, a2, a3, a4, a5⟩, by rw [hf]; rfl⟩) (fun e => absurd h1 e) (by rw [hf]; simp [Dk.sdir, q1]; omega) (by rw [hf]; simp [Dk.sdir, q1])
      · rw [if_neg h1] at hf
        exact met_chg h hE he (fun e => absurd e h1) (fun _ => ⟨hf, fun _ => rfl⟩) (by rw [hf, q2, q3]; omega) (by rw [hf, q1]; omega)
  · omega
  · omega
  · omega
  · omega
end Go.Proofs.Ytgpecnihjjnkeaa
