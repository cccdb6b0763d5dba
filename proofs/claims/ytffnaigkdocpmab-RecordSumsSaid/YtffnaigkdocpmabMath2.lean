/- More mathematics of the sums: bits that are turned, bytes that are noughts. -/
import Derived.Test.YtffnaigkdocpmabMath
import Derived.Test.YtffnaigkdocpmabOwn
set_option linter.unusedVariables false
namespace Go.Crc
open Go.Lk
theorem mul_xor (n a b : Nat) : 2 ^ n * (a ^^^ b) = (2 ^ n * a) ^^^ (2 ^ n * b) := by
  have := Nat.shiftLeft_xor_distrib (a := a) (b := b) (i := n)
  simpa [Nat.shiftLeft_eq, Nat.mul_comm] using this
theorem le_set {m : List Nat} {j : Nat} (y : Nat) (hj : j < m.length) : le (m.set j (ntn m j ^^^ y)) = le m ^^^ (2 ^ (8 * j) * y) := by
  induction m generalizing j with
  | nil => simp at hj
  | cons x m ih =>
    cases j with
    | zero =>
      show (ntn (x :: m) 0 ^^^ y) ^^^ (256 * le m) = (x ^^^ 256 * le m) ^^^ (2 ^ (8 * 0) * y)
      rw [show ntn (x :: m) 0 = x from rfl, Nat.mul_zero, Nat.pow_zero, Nat.one_mul, Nat.xor_assoc, Nat.xor_comm y, ← Nat.xor_assoc]
    | succ j =>
      have h := ih (j := j) (by simpa using hj)
      show x ^^^ (256 * le (m.set j (ntn m j ^^^ y))) = (x ^^^ 256 * le m) ^^^ (2 ^ (8 * (j + 1)) * y)
      rw [h, show 256 = 2 ^ 8 from rfl, mul_xor, ← Nat.xor_assoc, ← Nat.mul_assoc, ← Nat.pow_add]
      congr 3; omega
theorem Bytes.set {m : List Nat} {j x : Nat} (h : Bytes m) (hx : x < 256) : Bytes (m.set j x) := by
  intro y hy
  rcases List.mem_or_eq_of_mem_set hy with h' | rfl
  · exact h y h'
  · exact hx
/-- One more bit turned. -/
theorem burst_step {L f at' k j t : Nat} {m : List Nat} (hm : le m = L ^^^ (2 ^ at' * (f % 2 ^ k))) (h1 : f / 2 ^ k % 2 = 1) (hjt : 8 * j + t = at' + k) (hj : j < m.length) :
    le (m.set j (ntn m j ^^^ 2 ^ t)) = L ^^^ (2 ^ at' * (f % 2 ^ (k + 1))) := by
  rw [le_set _ hj, hm, ← Nat.pow_add, hjt, Nat.pow_add, Nat.xor_assoc, ← mul_xor]
  congr 2
  have h2 : f % 2 ^ (k + 1) = f % 2 ^ k + 2 ^ k * (f / 2 ^ k % 2) := by
    rw [Nat.pow_succ, Nat.mod_mul]
  rw [h2, h1]
  have := add_xor k (x := f % 2 ^ k) (q := 1) (Nat.mod_lt _ (Nat.two_pow_pos _))
  rwa [Nat.mul_one] at this ⊢
theorem burst_skip {f k : Nat} (h1 : ¬ f / 2 ^ k % 2 = 1) : f % 2 ^ (k + 1) = f % 2 ^ k := by
  rw [Nat.pow_succ, Nat.mod_mul]
  rw [show f / 2 ^ k % 2 = 0 by omega]; omega
theorem mor_burst {f at' : Nat} {a b : List Nat} (ha : Bytes a) (hb : Bytes b) (hl : b.length = a.length) (hf : f < 2 ^ 32) (h0 : f ≠ 0) (hat : at' ≤ 8 * a.length) (h : le b = le a ^^^ (2 ^ at' * f)) : mor 0 b ≠ mor 0 a := by
  intro e
  exact inns_burst hl.symm hf h0 hat h (cpl_inj (inns_lt (cpl_lt 0) hb) (inns_lt (cpl_lt 0) ha) e)
end Go.Crc
