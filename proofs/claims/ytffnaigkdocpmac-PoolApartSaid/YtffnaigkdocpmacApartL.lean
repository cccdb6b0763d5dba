/- What PoolApart needs: a new row of votes, got at, and its bytes, which may be written. -/
import Derived.Test.YtffnaigkdocpmacCopyW
import Derived.Test.YtffnaigkdocpmacPlaysL
set_option linter.unusedVariables false
set_option linter.unusedSimpArgs false
namespace Go.Proofs.Ytffnaigkdocpmac
open Go.RowKit Go.Lk Go.Pool
theorem splice_one {cur : Array Value} {v : Value} {i : Nat} (hi : i < cur.size) : splice cur #[v] i = cur.setIfInBounds i v := by
  unfold splice
  apply Array.ext'
  simp [List.set_eq_take_append_cons_drop, hi]
theorem has_set {w w' : World} {g i b off : Nat} {cur : Array Value} {T : TypeId} {v : Value} {L : List Value} (h : Has w (some ⟨b, off, none⟩) L) (hg : w.heap[g]? = some (.cells cur T (0, 0))) (hi : i < cur.size) (hs : SetAt w w' g (.cells (splice cur #[v] i) T)) (hd : i < off ∨ off + L.length ≤ i) : Has w' (some ⟨b, off, none⟩) L := by
  rcases h with h | ⟨b', off', e, hc⟩
  · exact .inl h
  · cases e
    refine .inr ⟨b, off, rfl, fun j u hj => ?_⟩
    have hjl := (List.getElem?_eq_some_iff.1 hj).1
    have h1 := hc j u hj
    by_cases hbg : b = g
    · subst hbg
      rw [cell_of_block hg] at h1
      rw [cell_of_block hs.blk, splice_one hi, Array.getElem?_setIfInBounds, if_neg (by omega)]
      exact h1
    · exact (hs.k.cell (p := ⟨b, off + j, none⟩) (lt_of_cell h1) hbg).trans h1
/-- The first byte of these bytes may be written; they lie in R. -/
def Byte (w : World) (R : Nat → Prop) (n : Nat) (s : Value) : Prop :=
  ∃ a c, s = .slice a n c ∧ n ≤ c ∧ c ≤ maxLen ∧ (0 < n → ∃ b off cur z, a = some ⟨b, off, none⟩ ∧ R b ∧ w.heap[b]? = some (.cells cur 5 (0, 0)) ∧ cur[off]? = some (.int .u8 z))
theorem Byte.keeps {w w' : World} {R S : Nat → Prop} {n : Nat} {s : Value} (h : Byte w R n s) (hk : Keeps S w w') (hn : ∀ k, R k → ¬ S k) : Byte w' R n s := by
  obtain ⟨a, c, h1, h2, h3, h4⟩ := h
  refine ⟨a, c, h1, h2, h3, fun h0 => ?_⟩
  obtain ⟨b, off, cur, z, e, hr, hb, hc⟩ := h4 h0
  exact ⟨b, off, cur, z, e, hr, hk.at hb (hn b hr), hc⟩
/-- A store of a byte keeps them all so. -/
theorem Byte.set {w w' : World} {R : Nat → Prop} {n g i : Nat} {s : Value} {z : Int} {cur : Array Value} (h : Byte w R n s) (hg : w.heap[g]? = some (.cells cur 5 (0, 0))) (hi : i < cur.size) (hs : SetAt w w' g (.cells (splice cur #[.int .u8 z] i) 5)) : Byte w' R n s := by
  obtain ⟨a, c, h1, h2, h3, h4⟩ := h
  refine ⟨a, c, h1, h2, h3, fun h0 => ?_⟩
  obtain ⟨b, off, cur', z', e, hr, hb, hc⟩ := h4 h0
  by_cases hbg : b = g
  · subst hbg
    rw [hg] at hb
    cases hb
    have e2 := splice_one (v := .int .u8 z) hi
    refine ⟨b, off, _, if i = off then z else z', e, hr, hs.blk, ?_⟩
    rw [e2, Array.getElem?_setIfInBounds]
    by_cases hio : i = off
    · subst hio; simp [hi]
    · rw [if_neg hio, if_neg hio]; exact hc
  · exact ⟨b, off, cur', z', e, hr, hs.k.at hb hbg, hc⟩
theorem byte_of {w : World} {R : Nat → Prop} {c : Ct} {s : Value} (h : SigAt w R c s) (hR : ∀ k, R k → ∃ cur, w.heap[k]? = some (.cells cur 5 (0, 0))) : Byte w R c.sig.length s := by
  obtain ⟨a, cap, h1, h2, h3, h4, h5, h6⟩ := h
  refine ⟨a, cap, h1, h2, h3, fun h0 => ?_⟩
  rcases h4 with h4 | ⟨b, off, e, h4⟩
  · rw [h4] at h0; simp at h0
  · have hr := h6 b off e (by intro e2; rw [e2] at h0; simp at h0)
    obtain ⟨cur, hb⟩ := hR b hr
    have hc := h4 0 h0
    rw [cell_of_block hb] at hc
    exact ⟨b, off, cur, _, e, hr, hb, hc⟩
theorem link_head {x : List Int} (h : Fits LK x) : ∃ e, (valsK LK x)[0]? = some (.int .u64 e) := by
  rcases x with _ | ⟨e, x⟩
  · exact h.elim
  · exact ⟨e, rfl⟩
/-- A new row of votes, got at. -/
theorem fresh_get {w w' : World} {v : Value} {ds : List Ct} (h : Fresh w w' v ds) (hok : ∀ c ∈ ds, c.Ok) :
    ∃ a c b off R, v = .slice a ds.length c ∧ ds.length ≤ c ∧ c ≤ maxLen ∧ (∀ k, R k → w.heap.size ≤ k) ∧ (ds ≠ [] → a = some ⟨b, off, none⟩ ∧ ¬ R b) ∧
      ∀ i c, ds[i]? = some c → ∃ s, Byte w' R c.sig.length s ∧ w'.cell? ⟨b, off + i * 101 + 67, none⟩ = some s := by
  obtain ⟨xs, R, h1, h2, h3⟩ := h
  obtain ⟨a, c, rfl, j1, j2, j3, j4⟩ := owns_has h1
  by_cases h0 : ds = []
  · subst h0; exact ⟨a, c, 0, 0, R, rfl, j1, j2, fun k hk => (h3 k hk).1, fun h => absurd rfl h, by simp⟩
  · have hl := h2.len hok
    have hd := List.length_pos_iff.2 h0
    have hne : xs ≠ [] := by rintro rfl; simp at hl; omega
    rcases j3 with j3 | ⟨b, off, rfl, hc⟩
    · exact absurd j3 hne
    · refine ⟨_, c, b, off, R, rfl, j1, j2, fun k hk => (h3 k hk).1, fun _ => ⟨rfl, fun hr => (h3 b hr).2.2.1 (j4 b off rfl).1⟩, fun i c hi => ?_⟩
      obtain ⟨s, A, B, e, hA, hs⟩ := h2.get hok hi
      refine ⟨s, byte_of hs (fun k hk => (h3 k hk).2.2.2), ?_⟩
      have okc := hok c (List.mem_of_getElem? hi)
      have hw : Has w' (some ⟨b, off + i * 101, none⟩) (sc c s) := .inr ⟨b, off + i * 101, rfl, fun j u hj => by
        have := hc (A.length + j) u (by rw [e, List.getElem?_append_right (by omega), Nat.add_sub_cancel_left, List.getElem?_append_left (List.getElem?_eq_some_iff.1 hj).1]; exact hj)
        rwa [hA, show off + (i * 101 + j) = off + i * 101 + j by omega] at this⟩
      exact (sc_has okc hw).2.2.2
end Go.Proofs.Ytffnaigkdocpmac
namespace Go.Lk
open Go.RowKit
/-- Ways that meet again: what is left to show is found on the first way. -/
theorem via {α β : Type} {Φ : α → β → World → Prop} {G : α → β → World → Prop} {goal : Prop} (main : (∀ a b w, Φ a b w → G a b w) → goal) (key : ∀ a b w, Φ a b w → G a b w) : goal := main key
section
variable {P : Program} {ops : Array Oper} {Q : Exit → Act → World → Prop} {S : World → Prop} {k n m : Nat} {plan : List Nat}
/-- A call and another operation may come up, in either order. -/
theorem WT.forkC (i j : Nat) (plan2 : List Nat) {oi oj : Oper} {f : FuncId} {args : Array Value} {R : Ending → World → Prop} {Ψ : Value → World → Prop} {a : Act} {w w' : World} (hi : ops[i]? = some oi) (hj : ops[j]? = some oj) (hok : mayFork ops k n plan plan2 m i j = true)
    (hw : Region.wanted oi (yielded ops a.tmps) = true) (hw2 : Region.wanted oj (yielded ops a.tmps) = true)
    (hy : (execOp a.eval oi).run P w = .ok (.enter f args) w') (hc : Calls P f args w' R) (hy2 : ∃ v w', (execOp a.eval oj).run P w = .ok (.value v) w' ∧ Ψ v w')
    (h1 : ∀ e w'', R e w'' → ∃ v, e = .returned v ∧ S w'' ∧ WT P ops Q S k n plan (m + 1) (a.put oi.dst v) w'') (h2 : ∀ v w', Ψ v w' → S w' ∧ WT P ops Q S k n plan2 (m + 1) (a.put oj.dst v) w') : WT P ops Q S k n plan m a w := by
  obtain ⟨v2, w2, e2, f2⟩ := hy2
  exact WT.fork i j plan2 hi hj hok hw hw2 (by unfold Oper.wp; rw [hy]; exact hc.mono fun e w'' hR => by obtain ⟨v, rfl, h3, h4⟩ := h1 e w'' hR; exact ⟨h3, h4⟩) (by unfold Oper.wp; rw [e2]; exact h2 v2 w2 f2)
end
end Go.Lk
