/- Two operations that both may come up next, in either order; appends onto a row that the region made. -/
import Derived.Test.YtgpecnihjjnkeaaOrd
namespace Go.Lk
open Go.RowKit
set_option linter.unusedVariables false
section
variable {P : Program} {ops : Array Oper} {Q : Exit → Act → World → Prop} {S : World → Prop} {k n m : Nat} {plan : List Nat}
def mayFork (ops : Array Oper) (k n : Nat) (plan plan2 : List Nat) (m i j : Nat) : Bool :=
  decide (m < n) && (plan[m]? == some i) && ((plan2[m]? == some j) && (plan2.take m == plan.take m) && ((Region.ready .any ops (Lst n plan m) == [i, j]) && !stopK k (Lst n plan m)))
theorem WT.fork (i j : Nat) (plan2 : List Nat) {oi oj : Oper} {a : Act} {w : World} (hi : ops[i]? = some oi) (hj : ops[j]? = some oj) (hok : mayFork ops k n plan plan2 m i j = true)
    (hw : Region.wanted oi (yielded ops a.tmps) = true) (hw2 : Region.wanted oj (yielded ops a.tmps) = true)
    (h1 : oi.wp P a w (fun a' w' => S w' ∧ WT P ops Q S k n plan (m + 1) a' w') Q) (h2 : oj.wp P a w (fun a' w' => S w' ∧ WT P ops Q S k n plan2 (m + 1) a' w') Q) : WT P ops Q S k n plan m a w := by
  unfold mayFork at hok
  simp only [Bool.and_eq_true, decide_eq_true_eq, beq_iff_eq, Bool.not_eq_true'] at hok
  obtain ⟨⟨h0, hp⟩, ⟨hp2, he⟩, hr, hk⟩ := hok
  have e0 : Lst n plan2 m = Lst n plan m := by unfold Lst; rw [he]
  have l1 := Lst_succ (n := n) hp
  have l2 := Lst_succ (n := n) hp2
  rw [e0] at l2
  have g1 : oi.wp P a w (fun a' w' => S w' ∧ wpAnyT P .any ops Q S k (n - (m + 1)) ((Lst n plan m).setIfInBounds i true) a' w') Q := Oper.wp_mono (fun a' w' hh => ⟨hh.1, l1 ▸ hh.2.h⟩) h1
  have g2 : oj.wp P a w (fun a' w' => S w' ∧ wpAnyT P .any ops Q S k (n - (m + 1)) ((Lst n plan m).setIfInBounds j true) a' w') Q := Oper.wp_mono (fun a' w' hh => ⟨hh.1, l2 ▸ hh.2.h⟩) h2
  refine ⟨?_⟩
  rw [show n - m = (n - (m + 1)) + 1 by omega]
  unfold wpAnyT
  rw [if_neg (by rw [hk]; exact Bool.false_ne_true)]
  refine ⟨fun h0 => (by rw [hr] at h0; cases h0), fun x hx => ?_⟩
  rw [hr] at hx
  have e : x = i ∨ x = j := by simpa using hx
  rcases e with rfl | rfl
  · unfold wpOp
    simp only [hi, hw, if_true]
    exact .inl g1
  · unfold wpOp
    simp only [hj, hw2, if_true]
    exact .inl g2
theorem WT.forkE (i j : Nat) (plan2 : List Nat) {oi oj : Oper} {Φ Ψ : Value → World → Prop} {a : Act} {w : World} (hi : ops[i]? = some oi) (hj : ops[j]? = some oj) (hok : mayFork ops k n plan plan2 m i j = true)
    (hw : Region.wanted oi (yielded ops a.tmps) = true) (hw2 : Region.wanted oj (yielded ops a.tmps) = true)
    (hy : ∃ v w', (execOp a.eval oi).run P w = .ok (.value v) w' ∧ Φ v w') (hy2 : ∃ v w', (execOp a.eval oj).run P w = .ok (.value v) w' ∧ Ψ v w')
    (h1 : ∀ v w', Φ v w' → S w' ∧ WT P ops Q S k n plan (m + 1) (a.put oi.dst v) w') (h2 : ∀ v w', Ψ v w' → S w' ∧ WT P ops Q S k n plan2 (m + 1) (a.put oj.dst v) w') : WT P ops Q S k n plan m a w := by
  obtain ⟨v, w', e1, f1⟩ := hy
  obtain ⟨v2, w2, e2, f2⟩ := hy2
  exact WT.fork i j plan2 hi hj hok hw hw2 (by unfold Oper.wp; rw [e1]; exact h1 v w' f1) (by unfold Oper.wp; rw [e2]; exact h2 v2 w2 f2)
end
section
variable {P : Program} {w wx w' : World} {t e : TypeId} {size bytes n : Nat} {z v : Value} {xs news : List Value}
/-- A row that was made behind wx, nothing that was there having changed. -/
def AppO (wx : World) (e size n : Nat) (xs : List Value) (v : Value) (w' : World) : Prop := w'.ownsRow wx.heap.size e size v n xs ∧ Keeps Nb wx w'
theorem re_appO {a : Act} {dst : Option Tmp} {ty : TypeId} {pos : String} {aft : Array Edge} {gd : Option (Nat × Bool)} {s x : Operand} (E : ElemT P t e size bytes z) {ad : Option Addr} {m c2 : Nat} (hk : Keeps Nb wx w) (hown : w.ownsRow wx.heap.size e size v n xs)
    (hs : a.eval s = v) (hx : a.eval x = .slice ad m c2) (hsrc : Has w ad news) (hl : news.length = m * size) (h1 : ∀ u ∈ news, u.oneCell' = true) (h63 : n + m ≤ maxLen) (hbytes : (n + m) * bytes ≤ 140737488355328) :
    ∃ v' w', (execOp a.eval ⟨dst, .call ⟨.builtin .append, #[s, x], #[t, t]⟩, ty, pos, aft, gd⟩).run P w = .ok (.value v') w' ∧ AppO wx e size (n + m) (xs ++ news) v' w' := by
  obtain ⟨v', w', h2, h3, h4, -⟩ := run_app_at (P := P) (c := c2) ty E wx.heap.size n xs news hown hsrc hl h1 h63 hbytes hk.size
  refine ⟨v', w', rn_app hs hx h2, h3, hk.grown h4 (fun g hg hlt => ?_)⟩
  obtain ⟨ad', c', rfl, -, -, -, hb⟩ := owns_has hown
  rcases ad' with _ | ⟨b, off, sp⟩
  · cases hg
  · rcases sp with _ | sp
    · have := hb b off rfl
      rw [this.1] at hg
      cases hg
      have := this.2.2.1
      show False
      omega
    · rcases hown.2 with ⟨hv, _⟩ | ⟨_, _, _, hv, _⟩ <;> cases hv
end
end Go.Lk
