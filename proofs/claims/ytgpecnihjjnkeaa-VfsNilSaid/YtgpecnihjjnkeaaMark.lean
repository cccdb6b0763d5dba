/- A literal of bytes: a row gets its mark. -/
import Derived.Test.YtgpecnihjjnkeaaRows3
import Derived.Laws.IdiomStrings
namespace Go.Lk
open Go.RowKit
variable {P : Program} {w : World} {t e : TypeId}
def IsMark (g : Nat) (cs : Array Value) (e : TypeId) (u : Value) (w : World) (v : Value) (w' : World) : Prop := v = u ∧ w'.heap[g]? = some (.cells cs e (cs.size, cs.size + 1)) ∧ Keeps (· = g) w w'
theorem run_mark {g n c : Nat} {cs : Array Value} (ht : P.underlying t = some (.slice e)) (he : P.underlying e = some (.int .u8)) (hg : w.heap[g]? = some (.cells cs e (0, 0))) :
    ∃ w', (convert t t (.slice (some ⟨g, 0, none⟩) n c)).run P w = .ok (.slice (some ⟨g, 0, none⟩) n c) w' ∧ w'.heap[g]? = some (.cells cs e (cs.size, cs.size + 1)) ∧ Keeps (· = g) w w' := by
  have hsh : w.shape? g = some (e, cs.size) := by unfold World.shape?; rw [hg]
  refine ⟨w.freeze ⟨g, cs.size, none⟩ 1, ?_, ?_, ?_⟩
  · simp [convert, run_underlying ht, run_underlying he, markStringish, hsh]
  · have hl := lt_of_block hg
    unfold World.freeze
    rw [if_neg (by decide)]
    simp [Array.getElem?_modify, hg]
  · unfold World.freeze
    rw [if_neg (by decide)]
    exact ⟨rfl, rfl, rfl, by simp, fun i hi hn => by simp [Array.getElem?_modify, Ne.symm hn]⟩
theorem re_mark {dst : Option Tmp} {x : Operand} {ty : TypeId} {pos : String} {aft : Array Edge} {gd : Option (Nat × Bool)} {a : Act} {g n c : Nat} {cs : Array Value} (ht : P.underlying t = some (.slice e)) (he : P.underlying e = some (.int .u8)) (hx : a.eval x = .slice (some ⟨g, 0, none⟩) n c) (hg : w.heap[g]? = some (.cells cs e (0, 0))) :
    ∃ v w', (execOp a.eval ⟨dst, .convert t t x, ty, pos, aft, gd⟩).run P w = .ok (.value v) w' ∧ IsMark g cs e (.slice (some ⟨g, 0, none⟩) n c) w v w' := by
  obtain ⟨w', h1, h2, h3⟩ := run_mark (n := n) (c := c) ht he hg
  exact ⟨_, w', by unfold execOp; simp only [hx, Sem.run_bind, h1, Result.andThen_ok, Sem.run_pure], rfl, h2, h3⟩
end Go.Lk
