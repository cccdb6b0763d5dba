/- A disk, whole: its maps, its files, the changes that wait. -/
import Derived.Test.YtgpecnihjjnkeaaFind
set_option linter.unusedVariables false
set_option linter.unusedSimpArgs false
namespace Go.Vfs
open Go.Lk Go.RowKit
variable {w w' : World} {R R' S F F' : Nat → Prop} {d b : Nat} {x : Fl} {D : Dk} {fc : Nat → Fl}
/-- A file's bytes, where a slice has them. -/
def Bytes (w : World) (R : Nat → Prop) (v : Value) (l : List Nat) : Prop :=
  ∃ a c, v = .slice a l.length c ∧ l.length ≤ c ∧ c ≤ maxLen ∧ ReadsN .u8 w a l ∧ (∀ z ∈ l, z < 256) ∧ ∀ b off, a = some ⟨b, off, none⟩ → l ≠ [] → R b
theorem Bytes.keeps {v : Value} {l : List Nat} (h : Bytes w R v l) (hk : Keeps S w w') (hn : ∀ k, R k → ¬ S k) : Bytes w' R v l := by
  obtain ⟨a, c, h1, h2, h3, h4, h5, h6⟩ := h
  exact ⟨a, c, h1, h2, h3, h4.keeps hk (fun b off e hz => hn b (h6 b off e hz)), h5, h6⟩
theorem Bytes.mono {v : Value} {l : List Nat} (h : Bytes w R v l) (hn : ∀ k, R k → R' k) : Bytes w R' v l := by
  obtain ⟨a, c, h1, h2, h3, h4, h5, h6⟩ := h
  exact ⟨a, c, h1, h2, h3, h4, h5, fun b off e hz => hn b (h6 b off e hz)⟩
theorem Bytes.nil (w : World) (R : Nat → Prop) : Bytes w R (.slice none 0 0) [] := ⟨none, 0, rfl, Nat.le_refl _, Nat.zero_le _, .inl rfl, by simp, fun _ _ e => by cases e⟩
/-- A file in block b. -/
def FileAt (w : World) (R : Nat → Prop) (b : Nat) (x : Fl) : Prop :=
  ∃ v, w.heap[b]? = some (.cells #[v, .int .i64 (x.lasts : Nat)] 65 (0, 0)) ∧ Bytes w R v x.b ∧ x.lasts ≤ x.b.length ∧ x.b.length ≤ 16777216
theorem FileAt.keeps (h : FileAt w R b x) (hk : Keeps S w w') (hb : ¬ S b) (hn : ∀ k, R k → ¬ S k) : FileAt w' R b x := by
  obtain ⟨v, h1, h2, h3⟩ := h
  exact ⟨v, hk.at h1 hb, h2.keeps hk hn, h3⟩
theorem FileAt.mono (h : FileAt w R b x) (hn : ∀ k, R k → R' k) : FileAt w R' b x := by
  obtain ⟨v, h1, h2, h3⟩ := h
  exact ⟨v, h1, h2.mono hn, h3⟩
/-- Is a block one of the disk's files? -/
def Ref (D : Dk) (b : Nat) : Prop := (∃ p ∈ D.files, p.2 = b) ∨ (∃ p ∈ D.lasting, p.2 = b) ∨ ∃ s ∈ D.steps, s.f = some b
/-- The disk's numbers are in bounds. -/
structure Nums (D : Dk) : Prop where
  cap : 1 ≤ D.cap ∧ D.cap ≤ 16777216
  ch : 0 ≤ D.changes ∧ D.changes ≤ 1000000
  fu : -1 ≤ D.fuse ∧ D.fuse ≤ 9223372036854775807
  fn : -1 ≤ D.fn ∧ D.fn ≤ 9223372036854775807
  fe : D.fe = 0 ∨ D.fe = 5 ∨ D.fe = 9
  nf : D.files.length ≤ 1000000
  nl : D.lasting.length ≤ 1000000
  ns : (D.steps.length : Int) ≤ D.changes
/-- A change that waits is one of the three. -/
def GoodS (s : Stp) : Prop := (s.act = 0 ∧ mnB s.name = true ∧ ∃ b, s.f = some b) ∨ (s.act = 1 ∧ mnB s.name = true ∧ mnB s.to = true ∧ s.f = none) ∨ (s.act = 2 ∧ mnB s.name = true ∧ s.f = none)
/-- The names are names. -/
structure Good (D : Dk) : Prop where
  files : ∀ p ∈ D.files, mnB p.1 = true
  lasting : ∀ p ∈ D.lasting, mnB p.1 = true
  steps : ∀ s ∈ D.steps, GoodS s
structure DiskAt (w : World) (d : Nat) (F R : Nat → Prop) (D : Dk) (fc : Nat → Fl) : Prop where
  ex : ∃ m1 m2 sv, w.heap[d]? = some (.cells (dcs m1 m2 sv D) 61 (0, 0)) ∧ SMap w m1 (vals D.files) ∧ SMap w m2 (vals D.lasting) ∧ m1 ≠ m2 ∧ RowS w F R 72 4 sv D.steps.length (D.steps.flatMap stp) ∧ F m1 ∧ F m2
  fd : F d
  file : ∀ b, Ref D b → FileAt w R b (fc b) ∧ F b
  nums : Nums D
  names : Good D
  apart : ∀ k, F k → ¬ R k
  ltF : ∀ k, F k → k < w.heap.size
  ltR : ∀ k, R k → k < w.heap.size
theorem DiskAt.keeps (h : DiskAt w d F R D fc) (hk : Keeps S w w') (hF : ∀ k, F k → ¬ S k) (hR : ∀ k, R k → ¬ S k) : DiskAt w' d F R D fc := by
  obtain ⟨⟨m1, m2, sv, h1, h2, h3, h4, h5, h6, h7⟩, g1, g2, g3, g3b, g4, g5, g6⟩ := h
  have hn : ∀ k, (F k ∨ R k) → ¬ S k := fun k h => h.elim (hF k) (hR k)
  exact ⟨⟨m1, m2, sv, hk.at h1 (hF d g1), h2.keeps hk (hF _ h6), h3.keeps hk (hF _ h7), h4, h5.keeps hk (fun k h _ => hn k h), h6, h7⟩, g1, fun b hb => ⟨(g2 b hb).1.keeps hk (hF b (g2 b hb).2) hR, (g2 b hb).2⟩, g3, g3b, g4,
    fun k hk' => Nat.lt_of_lt_of_le (g5 k hk') hk.size, fun k hk' => Nat.lt_of_lt_of_le (g6 k hk') hk.size⟩
theorem DiskAt.nb (h : DiskAt w d F R D fc) (hk : Keeps Nb w w') : DiskAt w' d F R D fc := h.keeps hk (fun _ _ e => e) (fun _ _ e => e)
/-- What a disk has become since w. -/
def Now (w w' : World) (d : Nat) (F R : Nat → Prop) (D : Dk) (fc : Nat → Fl) : Prop :=
  ∃ F' R', DiskAt w' d F' R' D fc ∧ (∀ k, F' k → F k ∨ w.heap.size ≤ k) ∧ (∀ k, R' k → R k ∨ w.heap.size ≤ k) ∧ Keeps F w w'
theorem Now.nb {w2 : World} (h : Now w w' d F R D fc) (hk : Keeps Nb w' w2) : Now w w2 d F R D fc := by
  obtain ⟨F', R', h1, h2, h3, h4⟩ := h
  exact ⟨F', R', h1.nb hk, h2, h3, h4.trans_nb hk⟩
theorem Now.of (h : DiskAt w' d F R D fc) (hk : Keeps F w w') : Now w w' d F R D fc := ⟨F, R, h, fun k hk => .inl hk, fun k hk => .inl hk, hk⟩
/-- Two blocks of different kinds are two. -/
theorem ne_of_obj {a c : Nat} {o o' : Obj} (h : w.heap[a]? = some o) (h' : w.heap[c]? = some o') (hne : o ≠ o') : a ≠ c := by
  rintro rfl
  rw [h] at h'
  exact hne (Option.some.inj h')
theorem DiskAt.ne_file (h : DiskAt w d F R D fc) {b : Nat} (hb : Ref D b) : b ≠ d := by
  obtain ⟨⟨v, h2, -⟩, -⟩ := h.file b hb
  obtain ⟨⟨m1, m2, sv, h1, -⟩, -⟩ := h
  exact ne_of_obj h2 h1 (by intro e; cases e)
/-- The numbers alone are written. -/
theorem DiskAt.renum (h : DiskAt w d F R D fc) {m1 m2 : Nat} {sv : Value} {D' : Dk} (hd : w.heap[d]? = some (.cells (dcs m1 m2 sv D) 61 (0, 0))) (hb : w'.heap[d]? = some (.cells (dcs m1 m2 sv D') 61 (0, 0))) (hk : Keeps (· = d) w w')
    (e1 : D'.files = D.files) (e2 : D'.lasting = D.lasting) (e3 : D'.steps = D.steps) (hn : Nums D') : DiskAt w' d F R D' fc := by
  have hne : ∀ b, Ref D b → b ≠ d := fun b hb => h.ne_file hb
  obtain ⟨⟨n1, n2, nv, h1, h2, h3, h4, h5, h6, h7⟩, g1, g2, g3, g3b, g4, g5, g6⟩ := h
  rw [hd] at h1
  have e : m1 = n1 ∧ m2 = n2 ∧ sv = nv := by simpa [dcs] using h1
  obtain ⟨rfl, rfl, rfl⟩ := e
  have q1 : m1 ≠ d := by obtain ⟨es, cl, hm, -⟩ := h2; exact ne_of_obj hm hd (by intro e; cases e)
  have q2 : m2 ≠ d := by obtain ⟨es, cl, hm, -⟩ := h3; exact ne_of_obj hm hd (by intro e; cases e)
  have hRd : ∀ k, R k → ¬ k = d := fun k hr e => by subst e; exact g4 _ g1 hr
  refine ⟨⟨m1, m2, sv, hb, e1 ▸ h2.keeps hk q1, e2 ▸ h3.keeps hk q2, h4, e3 ▸ h5.keeps hk (fun k hk ht e => by
      obtain ⟨cur, fr, hh⟩ := ht
      rw [e, hd] at hh; cases hh), h6, h7⟩, g1, fun b hb => ?_, hn, ⟨by rw [e1]; exact g3b.files, by rw [e2]; exact g3b.lasting, by rw [e3]; exact g3b.steps⟩, g4, fun k hk' => Nat.lt_of_lt_of_le (g5 k hk') hk.size, fun k hk' => Nat.lt_of_lt_of_le (g6 k hk') hk.size⟩
  have hb' : Ref D b := by unfold Ref at hb ⊢; rw [e1, e2, e3] at hb; exact hb
  exact ⟨(g2 b hb').1.keeps hk (hne b hb') hRd, (g2 b hb').2⟩
end Go.Vfs
