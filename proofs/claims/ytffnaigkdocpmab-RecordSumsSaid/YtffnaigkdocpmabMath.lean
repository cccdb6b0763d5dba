/- The mathematics of the sums: a register of 32 bits, a bit in, a bit out; no program in sight. -/
import Derived.WalkKit
set_option linter.unusedVariables false
namespace Go.Crc

/-- The polynomial, turned about (a name that is not laid open). -/
def P : Nat := 2197175160
theorem P_lt : P < 2 ^ 32 := by decide
theorem P_hi : 2 ^ 31 ≤ P := by decide
/-- One step of the register. -/
def stp (r : Nat) : Nat := (r / 2) ^^^ (if r % 2 = 1 then P else 0)
/-- As many steps. -/
def stps : Nat → Nat → Nat
  | 0, r => r
  | n + 1, r => stps n (stp r)
theorem stps_succ (n r : Nat) : stps (n + 1) r = stp (stps n r) := by
  induction n generalizing r with
  | zero => rfl
  | succ n ih => show stps (n + 1) (stp r) = _; rw [ih]; rfl
theorem stps_add (m n r : Nat) : stps (m + n) r = stps n (stps m r) := by
  induction m generalizing r with
  | zero => rw [Nat.zero_add]; rfl
  | succ m ih => rw [Nat.succ_add]; show stps (m + n) (stp r) = _; rw [ih]; rfl

theorem xor_div2 (a b : Nat) : (a ^^^ b) / 2 = (a / 2) ^^^ (b / 2) := by
  have := Nat.shiftRight_xor_distrib (a := a) (b := b) (i := 1)
  simpa [Nat.shiftRight_eq_div_pow] using this
theorem xor_mod2 (a b : Nat) : (a ^^^ b) % 2 = (a % 2 + b % 2) % 2 := by
  have h := Nat.testBit_xor a b 0
  rw [Nat.testBit_zero, Nat.testBit_zero, Nat.testBit_zero] at h
  have h1 := Nat.mod_two_eq_zero_or_one (a ^^^ b)
  rcases Nat.mod_two_eq_zero_or_one a with ha | ha <;> rcases Nat.mod_two_eq_zero_or_one b with hb | hb <;> rw [ha, hb] at h ⊢ <;> rcases h1 with h1 | h1 <;> rw [h1] at h ⊢ <;> simp at h ⊢
theorem xor4 (a b c d : Nat) : (a ^^^ b) ^^^ (c ^^^ d) = (a ^^^ c) ^^^ (b ^^^ d) := by
  rw [Nat.xor_assoc, ← Nat.xor_assoc b, Nat.xor_comm b c, Nat.xor_assoc c, ← Nat.xor_assoc]
theorem xor_cancel (a b : Nat) : (a ^^^ b) ^^^ b = a := by rw [Nat.xor_assoc, Nat.xor_self, Nat.xor_zero]
theorem xor_cancel' (a b : Nat) : b ^^^ (b ^^^ a) = a := by rw [← Nat.xor_assoc, Nat.xor_self, Nat.zero_xor]
theorem xor_eq_zero {a b : Nat} (h : a ^^^ b = 0) : a = b := by
  have := xor_cancel a b; rw [h, Nat.zero_xor] at this; exact this.symm

theorem stp_xor (a b : Nat) : stp (a ^^^ b) = stp a ^^^ stp b := by
  unfold stp
  rw [xor_div2, xor_mod2]
  rcases Nat.mod_two_eq_zero_or_one a with ha | ha <;> rcases Nat.mod_two_eq_zero_or_one b with hb | hb <;> rw [ha, hb]
  · simp
  · simp [Nat.xor_assoc]
  · simp only [Nat.add_zero, Nat.one_mod, ↓reduceIte, Nat.zero_ne_one, Nat.xor_zero]
    rw [Nat.xor_assoc, Nat.xor_comm (b / 2), ← Nat.xor_assoc]
  · simp only [Nat.reduceAdd, Nat.mod_self, Nat.zero_ne_one, ↓reduceIte, Nat.xor_zero]
    rw [xor4, Nat.xor_self, Nat.xor_zero]
theorem stps_xor (n a b : Nat) : stps n (a ^^^ b) = stps n a ^^^ stps n b := by
  induction n generalizing a b with
  | zero => rfl
  | succ n ih => show stps n (stp _) = stps n (stp _) ^^^ stps n (stp _); rw [stp_xor, ih]
theorem stp_two (q : Nat) : stp (2 * q) = q := by
  unfold stp
  rw [if_neg (by omega), Nat.xor_zero]; omega
theorem stps_two (n q : Nat) : stps n (2 ^ n * q) = q := by
  induction n with
  | zero => simp [stps]
  | succ n ih =>
    show stps n (stp _) = q
    rw [Nat.pow_succ, Nat.mul_comm (2 ^ n) 2, Nat.mul_assoc, stp_two, ih]
theorem stp_zero : stp 0 = 0 := stp_two 0
theorem stps_zero (n : Nat) : stps n 0 = 0 := stps_two n 0
theorem stp_lt {r : Nat} (h : r < 2 ^ 32) : stp r < 2 ^ 32 := by
  unfold stp
  refine Nat.xor_lt_two_pow (by omega) ?_
  split
  · exact P_lt
  · decide
theorem stps_lt (n : Nat) {r : Nat} (h : r < 2 ^ 32) : stps n r < 2 ^ 32 := by
  induction n generalizing r with
  | zero => exact h
  | succ n ih => exact ih (stp_lt h)

/-- The step back. -/
def uns (s : Nat) : Nat := if 2 ^ 31 ≤ s then 2 * (s ^^^ P) + 1 else 2 * s
theorem testBit31 {s : Nat} (h : s < 2 ^ 32) : s.testBit 31 = decide (2 ^ 31 ≤ s) := by
  rw [Nat.testBit_eq_decide_div_mod_eq]
  have : s / 2 ^ 31 % 2 = 1 ↔ 2 ^ 31 ≤ s := by omega
  simp only [this]
theorem xor_hi {a b : Nat} (ha : a < 2 ^ 32) (hb : b < 2 ^ 32) : (2 ^ 31 ≤ a ^^^ b) ↔ (decide (2 ^ 31 ≤ a) ^^ decide (2 ^ 31 ≤ b)) = true := by
  rw [← testBit31 ha, ← testBit31 hb, ← Nat.testBit_xor, testBit31 (Nat.xor_lt_two_pow ha hb), decide_eq_true_eq]
theorem uns_stp {r : Nat} (h : r < 2 ^ 32) : uns (stp r) = r := by
  unfold uns stp
  rcases Nat.mod_two_eq_zero_or_one r with h0 | h0
  · rw [h0]
    simp only [Nat.zero_ne_one, ↓reduceIte, Nat.xor_zero]
    rw [if_neg (by omega)]; omega
  · rw [h0]
    simp only [↓reduceIte]
    have := (xor_hi (a := r / 2) (b := P) (by omega) P_lt).2 (by
      rw [decide_eq_false (by omega : ¬ 2 ^ 31 ≤ r / 2), decide_eq_true P_hi]; rfl)
    rw [if_pos this, xor_cancel]; omega
theorem uns_lt {s : Nat} (h : s < 2 ^ 32) : uns s < 2 ^ 32 := by
  unfold uns
  split
  · rename_i hi
    have h1 : s ^^^ P < 2 ^ 32 := Nat.xor_lt_two_pow h P_lt
    have h2 : ¬ 2 ^ 31 ≤ s ^^^ P := by rw [xor_hi h P_lt, decide_eq_true hi, decide_eq_true P_hi]; decide
    omega
  · omega
theorem stp_uns {s : Nat} (h : s < 2 ^ 32) : stp (uns s) = s := by
  unfold uns
  split
  · unfold stp
    rw [if_pos (by omega), show (2 * (s ^^^ P) + 1) / 2 = s ^^^ P by omega, xor_cancel]
  · exact stp_two s
theorem stp_inj {a b : Nat} (ha : a < 2 ^ 32) (hb : b < 2 ^ 32) (h : stp a = stp b) : a = b := by rw [← uns_stp ha, ← uns_stp hb, h]
theorem stps_inj (n : Nat) {a b : Nat} (ha : a < 2 ^ 32) (hb : b < 2 ^ 32) (h : stps n a = stps n b) : a = b := by
  induction n generalizing a b with
  | zero => exact h
  | succ n ih => exact stp_inj ha hb (ih (stp_lt ha) (stp_lt hb) h)
/-- As many steps back. -/
def unss : Nat → Nat → Nat
  | 0, r => r
  | n + 1, r => uns (unss n r)
theorem unss_lt (n : Nat) {s : Nat} (h : s < 2 ^ 32) : unss n s < 2 ^ 32 := by
  induction n with
  | zero => exact h
  | succ n ih => exact uns_lt ih
theorem stps_unss (n : Nat) {s : Nat} (h : s < 2 ^ 32) : stps n (unss n s) = s := by
  induction n with
  | zero => rfl
  | succ n ih => show stps n (stp (uns _)) = s; rw [stp_uns (unss_lt n h), ih]

/-- A byte goes in; bytes go in. -/
def inn (r x : Nat) : Nat := stps 8 (r ^^^ x)
def inns (r : Nat) (l : List Nat) : Nat := l.foldl inn r
/-- A byte goes out. -/
def out (r x : Nat) : Nat := unss 8 r ^^^ x
/-- Bytes go out, the latest first. -/
def outs (r : Nat) (l : List Nat) : Nat := l.foldr (fun x r => out r x) r
/-- Bytes. -/
def Bytes (l : List Nat) : Prop := ∀ x ∈ l, x < 256
theorem inn_lt {r x : Nat} (hr : r < 2 ^ 32) (hx : x < 256) : inn r x < 2 ^ 32 := stps_lt 8 (Nat.xor_lt_two_pow hr (by omega))
theorem out_lt {r x : Nat} (hr : r < 2 ^ 32) (hx : x < 256) : out r x < 2 ^ 32 := Nat.xor_lt_two_pow (unss_lt 8 hr) (by omega)
theorem Bytes.cons {x : Nat} {l : List Nat} (h : Bytes (x :: l)) : x < 256 ∧ Bytes l := ⟨h x (by simp), fun y hy => h y (by simp [hy])⟩
theorem Bytes.append {a b : List Nat} (ha : Bytes a) (hb : Bytes b) : Bytes (a ++ b) := by
  intro x hx; rcases List.mem_append.1 hx with h | h
  · exact ha x h
  · exact hb x h
theorem Bytes.take {l : List Nat} (h : Bytes l) (n : Nat) : Bytes (l.take n) := fun x hx => h x (List.mem_of_mem_take hx)
theorem Bytes.drop {l : List Nat} (h : Bytes l) (n : Nat) : Bytes (l.drop n) := fun x hx => h x (List.mem_of_mem_drop hx)
theorem inns_lt {r : Nat} {l : List Nat} (hr : r < 2 ^ 32) (hl : Bytes l) : inns r l < 2 ^ 32 := by
  induction l generalizing r with
  | nil => exact hr
  | cons x l ih => exact ih (inn_lt hr hl.cons.1) hl.cons.2
theorem outs_lt {r : Nat} {l : List Nat} (hr : r < 2 ^ 32) (hl : Bytes l) : outs r l < 2 ^ 32 := by
  induction l with
  | nil => exact hr
  | cons x l ih => exact out_lt (ih hl.cons.2) hl.cons.1
theorem inn_out {r x : Nat} (hr : r < 2 ^ 32) : inn (out r x) x = r := by
  unfold inn out; rw [xor_cancel, stps_unss 8 hr]
theorem out_inn {r x : Nat} (hr : r < 2 ^ 32) (hx : x < 256) : out (inn r x) x = r := by
  have h1 : inn (out (inn r x) x) x = inn r x := inn_out (inn_lt hr hx)
  have h2 := stps_inj 8 (Nat.xor_lt_two_pow (out_lt (inn_lt hr hx) hx) (by omega)) (Nat.xor_lt_two_pow hr (by omega : x < 2 ^ 32)) h1
  rw [← xor_cancel (out (inn r x) x) x, h2, xor_cancel]
theorem inns_append (r : Nat) (a b : List Nat) : inns r (a ++ b) = inns (inns r a) b := by simp [inns]
theorem outs_append (r : Nat) (a b : List Nat) : outs r (a ++ b) = outs (outs r b) a := by simp [outs]
theorem inns_outs {r : Nat} {l : List Nat} (hr : r < 2 ^ 32) (hl : Bytes l) : inns (outs r l) l = r := by
  induction l with
  | nil => rfl
  | cons x l ih =>
    have e : inns (outs r (x :: l)) (x :: l) = inns (inn (out (outs r l) x) x) l := by simp only [inns, outs, List.foldl_cons, List.foldr_cons]
    rw [e, inn_out (outs_lt hr hl.cons.2), ih hl.cons.2]
theorem outs_inns {r : Nat} {l : List Nat} (hr : r < 2 ^ 32) (hl : Bytes l) : outs (inns r l) l = r := by
  induction l generalizing r with
  | nil => rfl
  | cons x l ih =>
    have e : outs (inns r (x :: l)) (x :: l) = out (outs (inns (inn r x) l) l) x := by simp only [inns, outs, List.foldl_cons, List.foldr_cons]
    rw [e, ih (inn_lt hr hl.cons.1) hl.cons.2, out_inn hr hl.cons.1]

/-- Bytes as a number, the first the lowest. -/
def le : List Nat → Nat
  | [] => 0
  | x :: l => x ^^^ (256 * le l)
theorem inns_le (r : Nat) (l : List Nat) : inns r l = stps (8 * l.length) (r ^^^ le l) := by
  induction l generalizing r with
  | nil => simp [inns, le, stps]
  | cons x l ih =>
    have e : inns r (x :: l) = inns (inn r x) l := by simp only [inns, List.foldl_cons]
    rw [e, ih, List.length_cons, show 8 * (l.length + 1) = 8 + 8 * l.length by omega, stps_add]
    congr 1
    show stps 8 (r ^^^ x) ^^^ le l = stps 8 (r ^^^ (x ^^^ 256 * le l))
    rw [← Nat.xor_assoc, stps_xor 8 (r ^^^ x), show 256 * le l = 2 ^ 8 * le l by rfl, stps_two]
theorem add_xor {x q : Nat} (n : Nat) (h : x < 2 ^ n) : x ^^^ (2 ^ n * q) = x + 2 ^ n * q := by
  have h1 := Nat.two_pow_add_eq_or_of_lt h q
  rw [Nat.add_comm x, h1]
  apply Nat.eq_of_testBit_eq
  intro i
  rw [Nat.testBit_xor, Nat.testBit_or, Nat.testBit_two_pow_mul]
  by_cases hi : n ≤ i
  · rw [Nat.testBit_lt_two_pow (Nat.lt_of_lt_of_le h (Nat.pow_le_pow_right (by decide) hi))]; simp
  · simp [hi]
theorem le_cons {x : Nat} (l : List Nat) (h : x < 256) : le (x :: l) = x + 256 * le l := add_xor 8 h
theorem le_lt {l : List Nat} (h : Bytes l) : le l < 2 ^ (8 * l.length) := by
  induction l with
  | nil => simp [le]
  | cons x l ih =>
    have := ih h.cons.2; have hx := h.cons.1
    rw [le_cons l hx, List.length_cons, show 8 * (l.length + 1) = 8 * l.length + 8 by omega, Nat.pow_add]
    generalize 2 ^ (8 * l.length) = p at *
    omega
theorem le_inj {a b : List Nat} (ha : Bytes a) (hb : Bytes b) (hl : a.length = b.length) (h : le a = le b) : a = b := by
  induction a generalizing b with
  | nil => cases b with
    | nil => rfl
    | cons _ _ => simp at hl
  | cons x a ih => cases b with
    | nil => simp at hl
    | cons y b =>
      rw [le_cons a ha.cons.1, le_cons b hb.cons.1] at h
      have hx := ha.cons.1; have hy := hb.cons.1
      have h1 : x = y := by omega
      have h2 : le a = le b := by omega
      rw [h1, ih ha.cons.2 hb.cons.2 (by simpa using hl) h2]
theorem inns_inj {r s : Nat} {l : List Nat} (hr : r < 2 ^ 32) (hs : s < 2 ^ 32) (hl : Bytes l) (h : inns r l = inns s l) : r = s := by
  rw [← outs_inns hr hl, ← outs_inns hs hl, h]
/-- Four bytes at most are told. -/
theorem inns_tell {r : Nat} {a b : List Nat} (hr : r < 2 ^ 32) (ha : Bytes a) (hb : Bytes b) (hl : a.length = b.length) (h4 : a.length ≤ 4) (h : inns r a = inns r b) : a = b := by
  refine le_inj ha hb hl ?_
  rw [inns_le, inns_le, ← hl] at h
  have h32 : ∀ {l : List Nat}, Bytes l → l.length ≤ 4 → le l < 2 ^ 32 := fun {l} h h4 => Nat.lt_of_lt_of_le (le_lt h) (Nat.pow_le_pow_right (by decide) (by omega))
  have h1 := stps_inj _ (Nat.xor_lt_two_pow hr (h32 ha h4)) (Nat.xor_lt_two_pow hr (h32 hb (by omega))) h
  rw [← xor_cancel' (le a) r, h1, xor_cancel']
/-- Some bits within 32 that follow one another are told. -/
theorem inns_burst {r f at' : Nat} {a b : List Nat} (hl : a.length = b.length) (hf : f < 2 ^ 32) (h0 : f ≠ 0) (hat : at' ≤ 8 * a.length) (h : le b = le a ^^^ (2 ^ at' * f)) : inns r b ≠ inns r a := by
  intro e
  rw [inns_le, inns_le, h, ← hl, ← Nat.xor_assoc, stps_xor _ (r ^^^ le a)] at e
  have e2 : stps (8 * a.length) (2 ^ at' * f) = 0 := by
    have := xor_cancel' (stps (8 * a.length) (2 ^ at' * f)) (stps (8 * a.length) (r ^^^ le a))
    rw [e, Nat.xor_self] at this; exact this.symm
  obtain ⟨m, hm⟩ : ∃ m, 8 * a.length = at' + m := ⟨8 * a.length - at', by omega⟩
  rw [hm, stps_add, stps_two] at e2
  exact h0 (stps_inj m hf (by decide) (e2.trans (stps_zero m).symm))

/-- All bits turned. -/
def cpl (r : Nat) : Nat := 4294967295 - r
theorem cpl_lt (r : Nat) : cpl r < 2 ^ 32 := by unfold cpl; omega
theorem cpl_cpl {r : Nat} (h : r < 2 ^ 32) : cpl (cpl r) = r := by unfold cpl; omega
theorem cpl_inj {a b : Nat} (ha : a < 2 ^ 32) (hb : b < 2 ^ 32) (h : cpl a = cpl b) : a = b := by rw [← cpl_cpl ha, ← cpl_cpl hb, h]
/-- The sum with more bytes, with fewer. -/
def mor (s : Nat) (l : List Nat) : Nat := cpl (inns (cpl s) l)
def les (s : Nat) (l : List Nat) : Nat := cpl (outs (cpl s) l)
theorem mor_lt (s : Nat) (l : List Nat) : mor s l < 2 ^ 32 := cpl_lt _
theorem les_lt (s : Nat) (l : List Nat) : les s l < 2 ^ 32 := cpl_lt _
theorem mor_append {s : Nat} {a b : List Nat} (ha : Bytes a) : mor s (a ++ b) = mor (mor s a) b := by
  unfold mor; rw [cpl_cpl (inns_lt (cpl_lt _) ha), inns_append]
theorem les_mor {s : Nat} {l : List Nat} (hs : s < 2 ^ 32) (hl : Bytes l) : les (mor s l) l = s := by
  unfold mor les; rw [cpl_cpl (inns_lt (cpl_lt _) hl), outs_inns (cpl_lt _) hl, cpl_cpl hs]
theorem mor_les {s : Nat} {l : List Nat} (hs : s < 2 ^ 32) (hl : Bytes l) : mor (les s l) l = s := by
  unfold mor les; rw [cpl_cpl (outs_lt (cpl_lt _) hl), inns_outs (cpl_lt _) hl, cpl_cpl hs]

/-- A bit in, as the reference has it. -/
theorem bit_ref {r b : Nat} (hr : r < 2 ^ 32) (hb : b < 2) : (if r % 2 = b then r / 2 else (r / 2) ^^^ P) = stp (r ^^^ b) := by
  unfold stp
  rw [xor_div2, xor_mod2, show b / 2 = 0 by omega, Nat.xor_zero]
  rcases Nat.mod_two_eq_zero_or_one r with h | h <;> rcases (show b = 0 ∨ b = 1 by omega) with rfl | rfl <;> simp [h]
theorem gone_hi {r b : Nat} (hr : r < 2 ^ 32) (hb : b < 2) (h : 2 ^ 31 ≤ r) : r ^^^ P < 2 ^ 31 ∧ (r ^^^ P) * 2 + 1 - b = uns r ^^^ b := by
  have h1 : r ^^^ P < 2 ^ 32 := Nat.xor_lt_two_pow hr P_lt
  have h2 : ¬ 2 ^ 31 ≤ r ^^^ P := by rw [xor_hi hr P_lt, decide_eq_true h, decide_eq_true P_hi]; decide
  refine ⟨by omega, ?_⟩
  unfold uns; rw [if_pos h]
  generalize r ^^^ P = q at *
  rcases (show b = 0 ∨ b = 1 by omega) with rfl | rfl
  · rw [Nat.xor_zero]; omega
  · have : (2 * q + 1) ^^^ 1 = 2 * q := by
      have e : 2 * q + 1 = 1 ^^^ (2 ^ 1 * q) := by rw [add_xor 1 (by decide)]; omega
      rw [e, Nat.xor_comm 1, xor_cancel]
    omega
theorem gone_lo {r b : Nat} (hb : b < 2) (h : ¬ 2 ^ 31 ≤ r) : r * 2 + b = uns r ^^^ b := by
  unfold uns; rw [if_neg h]
  have := add_xor 1 (x := b) (q := r) hb
  rw [Nat.xor_comm]
  have e : 2 * r = 2 ^ 1 * r := rfl
  rw [e, this]; omega
theorem uns_xor {a b : Nat} (ha : a < 2 ^ 32) (hb : b < 2 ^ 32) : uns (a ^^^ b) = uns a ^^^ uns b :=
  stp_inj (uns_lt (Nat.xor_lt_two_pow ha hb)) (Nat.xor_lt_two_pow (uns_lt ha) (uns_lt hb)) (by rw [stp_uns (Nat.xor_lt_two_pow ha hb), stp_xor, stp_uns ha, stp_uns hb])
theorem uns_small {q : Nat} (h : q < 2 ^ 31) : uns q = 2 * q := by unfold uns; rw [if_neg (by omega)]
/-- The reference's round: r behind i bits. -/
theorem in_round {r x i : Nat} (hi : i < 8) : stps (i + 1) (r ^^^ x) ^^^ (x / 2 ^ (i + 1)) = stp ((stps i (r ^^^ x) ^^^ (x / 2 ^ i)) ^^^ (x / 2 ^ i % 2)) := by
  have h1 : x / 2 ^ i = (x / 2 ^ i % 2) ^^^ (2 ^ 1 * (x / 2 ^ i / 2)) := by rw [add_xor 1 (Nat.mod_lt _ (by decide))]; omega
  have h2 : x / 2 ^ i / 2 = x / 2 ^ (i + 1) := by rw [Nat.div_div_eq_div_mul, Nat.pow_succ]
  rw [stps_succ]
  rw [h2] at h1
  have h3 : x / 2 ^ i ^^^ (x / 2 ^ i % 2) = 2 * (x / 2 ^ (i + 1)) := by
    have : x / 2 ^ i ^^^ (x / 2 ^ i % 2) = (x / 2 ^ i % 2 ^^^ 2 ^ 1 * (x / 2 ^ (i + 1))) ^^^ (x / 2 ^ i % 2) := by rw [← h1]
    rw [this, Nat.xor_comm (x / 2 ^ i % 2), xor_cancel]
  rw [Nat.xor_assoc, h3, stp_xor, stp_two]
theorem in_end {r x : Nat} (hx : x < 256) : stps 8 (r ^^^ x) ^^^ (x / 2 ^ 8) = inn r x := by
  rw [show x / 2 ^ 8 = 0 by omega, Nat.xor_zero]; rfl
/-- .. and back: r ahead of the i highest bits. -/
theorem out_round {r x i : Nat} (hr : r < 2 ^ 32) (hx : x < 256) (hi : i < 8) : unss (i + 1) r ^^^ (x / 2 ^ (7 - i)) = uns (unss i r ^^^ (x / 2 ^ (8 - i))) ^^^ (x / 2 ^ (7 - i) % 2) := by
  have hq : x / 2 ^ (8 - i) < 2 ^ 31 := Nat.lt_of_le_of_lt (Nat.div_le_self _ _) (by omega)
  rw [uns_xor (unss_lt i hr) (by omega), uns_small hq]
  have h2 : x / 2 ^ (8 - i) = x / 2 ^ (7 - i) / 2 := by rw [Nat.div_div_eq_div_mul, ← Nat.pow_succ]; congr 2; omega
  rw [h2, Nat.xor_assoc, Nat.xor_comm (2 * _)]
  have h1 := add_xor 1 (x := x / 2 ^ (7 - i) % 2) (q := x / 2 ^ (7 - i) / 2) (Nat.mod_lt _ (by decide))
  rw [show 2 * (x / 2 ^ (7 - i) / 2) = 2 ^ 1 * (x / 2 ^ (7 - i) / 2) by rfl, h1]
  show uns (unss i r) ^^^ _ = uns (unss i r) ^^^ _
  congr 1; omega

/-- A byte goes in by the table. -/
theorem inn_tab {r x : Nat} : inn r x = stps 8 ((r % 256) ^^^ x) ^^^ (r / 256) := by
  have h1 : r = (r % 256) ^^^ (2 ^ 8 * (r / 256)) := by rw [add_xor 8 (Nat.mod_lt _ (by decide))]; omega
  unfold inn
  conv => lhs; rw [h1]
  rw [Nat.xor_assoc, Nat.xor_comm _ x, ← Nat.xor_assoc, stps_xor, stps_two]
theorem div_xor (n a b : Nat) : (a ^^^ b) / 2 ^ n = (a / 2 ^ n) ^^^ (b / 2 ^ n) := by
  have := Nat.shiftRight_xor_distrib (a := a) (b := b) (i := n)
  simpa [Nat.shiftRight_eq_div_pow] using this
/-- The highest byte of a byte's step. -/
def hib (n : Nat) : Nat := stps 8 n / 2 ^ 24
theorem hib_zero : ∀ d, d < 256 → hib d = 0 → d = 0 := by decide +kernel
theorem hib_lt {n : Nat} (h : n < 256) : hib n < 256 := by
  have := stps_lt 8 (show n < 2 ^ 32 by omega)
  unfold hib; omega
theorem hib_inj {a b : Nat} (ha : a < 256) (hb : b < 256) (h : hib a = hib b) : a = b := by
  have h1 : a ^^^ b < 2 ^ 8 := Nat.xor_lt_two_pow ha hb
  have h2 : hib (a ^^^ b) = 0 := by
    unfold hib at *
    rw [stps_xor, div_xor, h, Nat.xor_self]
  exact xor_eq_zero (hib_zero _ h1 h2)
/-- The register ahead of a byte: its low byte, and the rest. -/
theorem out_tab {r : Nat} (hr : r < 2 ^ 32) : ∃ n q : Nat, n < 256 ∧ q < 2 ^ 24 ∧ r / 2 ^ 24 = hib n ∧ r ^^^ stps 8 n = q ∧ ∀ x, x < 256 → out r x = (q * 256) ||| (n ^^^ x) := by
  have hu := unss_lt 8 hr
  have hs := stps_unss 8 hr
  generalize hue : unss 8 r = u at *
  have h1 : u = (u % 256) ^^^ (2 ^ 8 * (u / 256)) := by rw [add_xor 8 (Nat.mod_lt _ (by decide))]; omega
  have h2 : r = stps 8 (u % 256) ^^^ (u / 256) := by
    rw [← hs]; conv => lhs; rw [h1]
    rw [stps_xor, stps_two]
  refine ⟨u % 256, u / 256, by omega, by omega, ?_, ?_, fun x hx => ?_⟩
  · rw [h2, div_xor, show u / 256 / 2 ^ 24 = 0 by omega, Nat.xor_zero]; rfl
  · conv => lhs; rw [h2]
    rw [Nat.xor_comm (stps 8 _), xor_cancel]
  · have hx8 : u % 256 ^^^ x < 2 ^ 8 := Nat.xor_lt_two_pow (by omega) (by omega)
    unfold out
    rw [hue]
    conv => lhs; rw [h1]
    rw [Nat.xor_assoc, Nat.xor_comm _ x, ← Nat.xor_assoc, add_xor 8 hx8, Nat.mul_comm (u / 256), ← Nat.add_comm]
    exact Nat.two_pow_add_eq_or_of_lt hx8 _
end Go.Crc
