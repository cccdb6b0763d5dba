/- The chapter's rows: what comes of them. -/
import Derived.Test.YtgpecnihjjnkeaaDo2W
set_option linter.unusedVariables false
set_option linter.unusedSimpArgs false
namespace Go.Proofs.Ytgpecnihjjnkeaa
open Go.RowKit Go.Lk Go.Vfs
def sA : ByteArray := ⟨#[97]⟩
def sB : ByteArray := ⟨#[98]⟩
theorem mnA : mnB sA = true := by decide
theorem mnBb : mnB sB = true := by decide
theorem hAB : sA ≠ sB := by decide
def kD (files lasting : List (ByteArray × Nat)) (steps : List Stp) (fuse fe : Int) (dead : Bool) (ch : Int) : Dk := ⟨files, lasting, steps, 99, fuse, 0, fe, dead, ch⟩
theorem chgK (files lasting : List (ByteArray × Nat)) (steps : List Stp) (ch : Int) : chg (kD files lasting steps (-1) 0 false ch) = (kD files lasting steps (-1) 0 false (ch + 1), 1, 0) := by simp [chg, kD]
theorem flook1 (s : ByteArray) (b : Nat) : flook [(s, b)] s = some b := by simp [flook]
theorem flook1n {s t : ByteArray} (h : t ≠ s) (b : Nat) : flook [(t, b)] s = none := by simp [flook, h]
variable {er : Int} {D' : Dk} {fc fc' : Nat → Fl} {b n : Nat}
theorem k1 (h : MakeR n (newD 99) fc sA er D' fc') : er = 0 ∧ ∃ b, n ≤ b ∧ D' = kD [(sA, b)] [] [⟨0, sA, ByteArray.empty, some b⟩] (-1) 0 false 1 ∧ fc' b = ⟨[], 0⟩ := by
  have e : newD 99 = kD [] [] [] (-1) 0 false 0 := rfl
  rw [e] at h
  unfold MakeR at h
  rw [mnA, chgK] at h
  rcases h with ⟨h, -⟩ | ⟨-, ⟨b, h⟩, -⟩ | ⟨-, -, h, -⟩ | ⟨-, -, -, h, -⟩ | ⟨-, -, -, -, h1, ⟨-, b, h2, h3, h4⟩ | ⟨h, -⟩⟩
  · cases h
  · cases h
  · simp [kD] at h
  · cases h
  · exact ⟨h1, b, h2, h3, by rw [h4]; simp⟩
  · exact absurd rfl h
theorem k2 {s : ByteArray} {lasting : List (ByteArray × Nat)} {steps : List Stp} {ch : Int} {bs : List Nat} (hs : mnB s = true) (hb : ((fc b).b.length : Int) + bs.length ≤ 99) (h : AppR (kD [(s, b)] lasting steps (-1) 0 false ch) fc s bs er D' fc') : er = 0 ∧ D' = kD [(s, b)] lasting steps (-1) 0 false (ch + 1) ∧ fc' b = ⟨(fc b).b ++ bs, (fc b).lasts⟩ := by
  unfold AppR at h
  rw [hs, chgK] at h
  have ht : (tot (kD [(s, b)] lasting steps (-1) 0 false ch).files fc : Int) = (fc b).b.length := by simp [tot, kD]
  rcases h with ⟨h, -⟩ | ⟨-, h, -⟩ | ⟨b', -, h, h2⟩
  · cases h
  · rw [show (kD [(s, b)] lasting steps (-1) 0 false ch).files = [(s, b)] from rfl, flook1] at h; cases h
  · rw [show (kD [(s, b)] lasting steps (-1) 0 false ch).files = [(s, b)] from rfl, flook1] at h
    cases h
    rcases h2 with ⟨h, -⟩ | ⟨-, h, -⟩ | ⟨-, -, h1, h2, h3⟩
    · have : (kD [(s, b)] lasting steps (-1) 0 false ch).cap = 99 := rfl
      omega
    · cases h
    · exact ⟨h1, h2, by rw [h3]; simp [setf]⟩
theorem k3 {s : ByteArray} {lasting : List (ByteArray × Nat)} {steps : List Stp} {ch : Int} (hs : mnB s = true) (h : SyncR (kD [(s, b)] lasting steps (-1) 0 false ch) fc s er D' fc') : er = 0 ∧ D' = kD [(s, b)] lasting steps (-1) 0 false (ch + 1) ∧ fc' b = ⟨(fc b).b, (fc b).b.length⟩ := by
  unfold SyncR at h
  rw [hs, chgK] at h
  rcases h with ⟨h, -⟩ | ⟨-, h, -⟩ | ⟨b', -, h, h2⟩
  · cases h
  · rw [show (kD [(s, b)] lasting steps (-1) 0 false ch).files = [(s, b)] from rfl, flook1] at h; cases h
  · rw [show (kD [(s, b)] lasting steps (-1) 0 false ch).files = [(s, b)] from rfl, flook1] at h
    cases h
    rcases h2 with ⟨h, -⟩ | ⟨-, h1, h2, h3⟩
    · cases h
    · exact ⟨h1, h2, by rw [h3]; simp [setf]⟩
theorem k4 {files lasting : List (ByteArray × Nat)} {steps : List Stp} {ch : Int} (h : SdirR (kD files lasting steps (-1) 0 false ch) er D') : er = 0 ∧ D' = kD files files [] (-1) 0 false (ch + 1) := by
  unfold SdirR at h
  rw [chgK] at h
  rcases h with ⟨h, -⟩ | ⟨-, h1, h2⟩
  · cases h
  · exact ⟨h1, by rw [h2]; rfl⟩
theorem k5 {lasting : List (ByteArray × Nat)} {ch : Int} (h : RenR (kD [(sA, b)] lasting [] (-1) 0 false ch) sA sB er D') : er = 0 ∧ D' = kD [(sB, b)] lasting [⟨1, sA, sB, none⟩] (-1) 0 false (ch + 1) := by
  unfold RenR at h
  rw [mnA, mnBb, chgK] at h
  rcases h with ⟨h, -⟩ | ⟨-, h, -⟩ | ⟨-, -, h, -⟩ | ⟨b', -, -, h, h2⟩
  · cases h
  · cases h
  · rw [show (kD [(sA, b)] lasting [] (-1) 0 false ch).files = [(sA, b)] from rfl, flook1] at h; cases h
  · rw [show (kD [(sA, b)] lasting [] (-1) 0 false ch).files = [(sA, b)] from rfl, flook1] at h
    cases h
    rcases h2 with ⟨h, -⟩ | ⟨-, h1, h2⟩
    · cases h
    · exact ⟨h1, by rw [h2]; simp [Dk.ren, Dk.step, kD, fput, fdel]⟩
theorem k6 {lasting : List (ByteArray × Nat)} {steps : List Stp} {ch : Int} {bs : List Nat} (hb : ((fc b).b.length : Int) + bs.length ≤ 99) (h : AppR (layD (kD [(sB, b)] lasting steps (-1) 0 false ch) 0 9) fc sB bs er D' fc') : er = 9 ∧ D' = kD [(sB, b)] lasting steps (-1) 0 false (ch + 1) ∧ fc' b = ⟨(fc b).b ++ bs.take (bs.length / 2), (fc b).lasts⟩ := by
  have hc : chg (layD (kD [(sB, b)] lasting steps (-1) 0 false ch) 0 9) = (kD [(sB, b)] lasting steps (-1) 0 false (ch + 1), 2, 9) := by simp [chg, kD, layD]
  unfold AppR at h
  rw [mnBb, hc] at h
  have ht : (tot (layD (kD [(sB, b)] lasting steps (-1) 0 false ch) 0 9).files fc : Int) = (fc b).b.length := by simp [tot, kD, layD]
  rcases h with ⟨h, -⟩ | ⟨-, h, -⟩ | ⟨b', -, h, h2⟩
  · cases h
  · rw [show (layD (kD [(sB, b)] lasting steps (-1) 0 false ch) 0 9).files = [(sB, b)] from rfl, flook1] at h; cases h
  · rw [show (layD (kD [(sB, b)] lasting steps (-1) 0 false ch) 0 9).files = [(sB, b)] from rfl, flook1] at h
    cases h
    rcases h2 with ⟨h, -⟩ | ⟨-, h, -⟩ | ⟨-, -, h1, h2, h3⟩
    · have : (layD (kD [(sB, b)] lasting steps (-1) 0 false ch) 0 9).cap = 99 := rfl
      omega
    · cases h
    · exact ⟨h1, h2, by rw [h3]; simp [setf]⟩
theorem k7 {lasting : List (ByteArray × Nat)} {steps : List Stp} {ch : Int} (h : RemR (fuseD (kD [(sB, b)] lasting steps (-1) 0 false ch) 0) sB er D') : er = 8 ∧ D' = kD [(sB, b)] lasting steps 0 0 true (ch + 1) := by
  have hc : chg (fuseD (kD [(sB, b)] lasting steps (-1) 0 false ch) 0) = (kD [(sB, b)] lasting steps 0 0 true (ch + 1), 3, 8) := by simp [chg, kD, fuseD]
  unfold RemR at h
  rw [mnBb, hc] at h
  rcases h with ⟨h, -⟩ | ⟨-, h, -⟩ | ⟨b', -, h, h2⟩
  · cases h
  · rw [show (fuseD (kD [(sB, b)] lasting steps (-1) 0 false ch) 0).files = [(sB, b)] from rfl, flook1] at h; cases h
  · rcases h2 with ⟨h, -⟩ | ⟨-, h1, h2⟩
    · cases h
    · exact ⟨h1, by rw [h2]; rfl⟩
theorem rdK {s : ByteArray} {lasting : List (ByteArray × Nat)} {steps : List Stp} {fuse fe : Int} {dead : Bool} {ch : Int} (hs : mnB s = true) : rdS (kD [(s, b)] lasting steps fuse fe dead ch) fc s = bstr (fc b).b := by
  have : readOf (kD [(s, b)] lasting steps fuse fe dead ch) fc s = ((fc b).b, 0) := by
    unfold readOf found
    rw [if_pos hs, show (kD [(s, b)] lasting steps fuse fe dead ch).files = [(s, b)] from rfl, flook1]
  unfold rdS
  rw [this]; rfl
/-- A disk of one file, behind a loss of power. -/
theorem rdC {D : Dk} {s : ByteArray} {b c : Nat} (hs : mnB s = true) (hf : D.files = [(s, c)]) : rdS D fc s = bstr (fc c).b := by
  have : readOf D fc s = ((fc c).b, 0) := by
    unfold readOf found
    rw [if_pos hs, hf, flook1]
  unfold rdS
  rw [this]; rfl
/-- The loss of power takes the file away. -/
theorem c1 {ch : Int} {φ : Nat → Option Nat} {l2 : List (ByteArray × Nat)} {bs : List Bool} (h : CrashR [] (kD [(sA, b)] [] [⟨0, sA, ByteArray.empty, some b⟩] (-1) 0 false ch) fc D' fc' φ l2 bs) : rdS D' fc' sA = bstr [45, 54] := by
  have hb : bs = [false] := h.bsEq
  have hl : l2 = [] := h.p2.eq_nil
  subst hb; subst hl
  have hf : D'.files = [] := by rw [h.eq]; rfl
  unfold rdS readOf found
  rw [if_pos mnA, hf]; rfl
theorem replay1 {φ : Nat → Option Nat} {x : Bool} {L : List (ByteArray × Nat)} {s : Stp} : replay [x] [s] L = if x then againL L s else L := by cases x <;> rfl
theorem c2 {ch : Int} {φ : Nat → Option Nat} {l2 : List (ByteArray × Nat)} {bs : List Bool} (hfc : fc b = ⟨[120, 121, 122], 3⟩) (h : CrashR [1] (kD [(sA, b)] [] [⟨0, sA, ByteArray.empty, some b⟩] (-1) 0 false ch) fc D' fc' φ l2 bs) : rdS D' fc' sA = bstr [120, 121, 122] := by
  have hb : bs = [true] := h.bsEq
  have hl : l2 = [] := h.p2.eq_nil
  subst hb; subst hl
  have hL : replay [true] (kD [(sA, b)] [] [⟨0, sA, ByteArray.empty, some b⟩] (-1) 0 false ch).steps [] = [(sA, b)] := by
    show replay [true] [_] [] = _
    rw [replay1 (φ := φ)]; rfl
  have hq := h.fc
  have he := h.eq
  rw [hL] at hq he
  obtain ⟨n, h1, h2, h3⟩ := hq (sA, b) (by simp)
  simp only [hfc] at h1 h2 h3
  have : n = 3 := by simp at h2; omega
  subst this
  rw [rdC (b := b) (c := (φ b).getD 0) mnA (by rw [he]; rfl), h3]; rfl
/-- A loss of power with one file that has loose bytes, one change that waits. -/
theorem c3 {zs : List Int} {s : ByteArray} {ch : Int} {φ : Nat → Option Nat} {l2 : List (ByteArray × Nat)} {bs : List Bool} {m : Nat} (hs : mnB s = true) (hfc : fc b = ⟨[120, 121, 122, 117, 118], 3⟩) (hm : pkn zs 1 % 3 = m)
    (hL : ∀ l2, l2 = [(sA, b)] → replay (bsOf zs 1) [⟨1, sA, sB, none⟩] l2 = [(s, b)])
    (h : CrashR zs (kD [(sB, b)] [(sA, b)] [⟨1, sA, sB, none⟩] (-1) 0 false ch) fc D' fc' φ l2 bs) : rdS D' fc' s = bstr ([120, 121, 122, 117, 118].take (3 + m)) := by
  have hb : bs = bsOf zs 1 := h.bsEq
  have hl : l2 = [(sA, b)] := List.perm_singleton.1 h.p2
  subst hb; subst hl
  have he := h.eq
  rw [show (kD [(sB, b)] [(sA, b)] [⟨1, sA, sB, none⟩] (-1) 0 false ch).steps = [⟨1, sA, sB, none⟩] from rfl, hL _ rfl] at he
  obtain ⟨c, hc⟩ : ∃ c, φ b = some c := by
    cases e : φ b with
    | none => exact absurd e (h.all b (.inl ⟨(sB, b), by simp [kD], rfl⟩))
    | some c => exact ⟨c, rfl⟩
  have hf : D'.files = [(s, c)] := by rw [he]; simp [crashD, mv, hc]
  obtain ⟨nms, fc1, hn, h1, h2⟩ := h.tr
  rw [hf] at hn h2
  have hn2 : nms = [s] := List.perm_singleton.1 hn
  subst hn2
  rw [rdC (b := b) (c := c) hs hf, h2]
  show bstr ((tr1 zs [(s, c)] (fc1, 1) s).1 c).b = _
  rw [tr1_some (flook1 s c), h1 b c hc, hfc]
  simp only [List.length_cons, List.length_nil]
  rw [if_pos (by omega)]
  simp only [setf, if_true]
  rw [show 0 + 1 + 1 + 1 + 1 + 1 - 3 + 1 = 3 by omega, hm]
end Go.Proofs.Ytgpecnihjjnkeaa
