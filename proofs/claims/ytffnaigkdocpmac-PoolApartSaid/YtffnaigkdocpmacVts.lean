/- A row of votes (no key, no stake): what Of answers. -/
import Derived.Test.YtffnaigkdocpmacAllW
set_option linter.unusedVariables false
set_option linter.unusedSimpArgs false
namespace Go.Pool
open Go.Lk Go.RowKit
/-- The cells xs are those of these votes. -/
def Vts (w : World) (R : Nat → Prop) : List Ct → List Value → Prop
  | [], xs => xs = []
  | c :: cs, xs => ∃ s rest, xs = vc c s ++ rest ∧ SigAt w R c s ∧ Vts w R cs rest
variable {w w' : World} {R R' S : Nat → Prop}
theorem Vts.keeps : ∀ {cs : List Ct} {xs : List Value}, Vts w R cs xs → Keeps S w w' → (∀ b, R b → ¬ S b) → Vts w' R cs xs
  | [], _, h, _, _ => h
  | _ :: _, _, ⟨s, rest, h1, h2, h3⟩, hk, hn => ⟨s, rest, h1, h2.keeps hk hn, h3.keeps hk hn⟩
theorem Vts.mono : ∀ {cs : List Ct} {xs : List Value}, Vts w R cs xs → (∀ b, R b → R' b) → Vts w R' cs xs
  | [], _, h, _ => h
  | _ :: _, _, ⟨s, rest, h1, h2, h3⟩, hn => ⟨s, rest, h1, h2.mono hn, h3.mono hn⟩
theorem Vts.snoc : ∀ {cs : List Ct} {xs : List Value}, Vts w R cs xs → ∀ {c : Ct} {s : Value}, SigAt w R c s → Vts w R (cs ++ [c]) (xs ++ vc c s)
  | [], _, h, c, s, hs => by subst h; exact ⟨s, [], by simp, hs, rfl⟩
  | _ :: _, _, ⟨s', rest, h1, h2, h3⟩, c, s, hs => ⟨s', rest ++ vc c s, by rw [h1, List.append_assoc], h2, h3.snoc hs⟩
theorem Vts.len : ∀ {cs : List Ct} {xs : List Value}, Vts w R cs xs → (∀ c ∈ cs, c.Ok) → xs.length = cs.length * 68
  | [], _, h, _ => by subst h; rfl
  | c :: cs, _, ⟨s, rest, h1, h2, h3⟩, hok => by
    rw [h1, List.length_append, vc_len (hok c (by simp)), h3.len (fun c hc => hok c (by simp [hc])), List.length_cons]; omega
/-- The i-th vote's cells. -/
theorem Vts.get : ∀ {cs : List Ct} {xs : List Value}, Vts w R cs xs → (∀ c ∈ cs, c.Ok) → ∀ {i : Nat} {c : Ct}, cs[i]? = some c →
    ∃ s A B, xs = A ++ (vc c s ++ B) ∧ A.length = i * 68 ∧ SigAt w R c s
  | [], _, _, _, i, c, hi => by simp at hi
  | x :: cs, _, ⟨s, rest, h1, h2, h3⟩, hok, 0, c, hi => by
    simp at hi; subst hi; exact ⟨s, [], rest, by simpa using h1, by simp, h2⟩
  | x :: cs, _, ⟨s, rest, h1, h2, h3⟩, hok, i + 1, c, hi => by
    obtain ⟨s', A, B, h4, h5, h6⟩ := h3.get (fun c hc => hok c (by simp [hc])) (i := i) (c := c) (by simpa using hi)
    exact ⟨s', vc x s ++ A, B, by rw [h1, h4, List.append_assoc], by rw [List.length_append, vc_len (hok x (by simp)), h5]; omega, h6⟩
theorem vc_one (c : Ct) (s : Value) (hs : s.oneCell' = true) : ∀ u ∈ vc c s, u.oneCell' = true := by
  intro u hu
  exact sc_one c s hs u (by unfold sc; exact List.mem_append_left _ hu)
end Go.Pool
namespace Go.Proofs.Ytffnaigkdocpmac
open Go.RowKit Go.Lk Go.Pool
theorem el56 : ∃ z, ElemT Try.prog 56 33 68 112 z := by
  have h : ((Try.prog.info? 33).map (fun i => (i.zero.isSome, (i.zero.map (·.cells.size)), i.size, i.bytes))) = some (true, some 68, 68, 112) := by kernel_rfl
  obtain ⟨i, hi, h2⟩ := Option.map_eq_some_iff.1 h
  simp only [Prod.mk.injEq] at h2
  obtain ⟨z, hz⟩ := Option.isSome_iff_exists.1 h2.1
  have h3 := h2.2.1
  rw [hz, Option.map_some, Option.some.injEq] at h3
  exact ⟨z, Try.underlying56, by rw [hi, Option.map_some, hz, h2.2.2.1, h2.2.2.2], h3, by omega⟩
/-- A new row of these votes. -/
def FreshV (w : World) (w' : World) (v : Value) (ds : List Ct) : Prop :=
  ∃ xs R, w'.ownsRow w.heap.size 33 68 v ds.length xs ∧ Vts w' R ds xs ∧ ∀ k, R k → w.heap.size ≤ k ∧ k < w'.heap.size ∧ v.ownBlock ≠ some k
theorem FreshV.nb {w w' w2 : World} {v : Value} {ds : List Ct} (h : FreshV w w' v ds) (hk : Keeps Nb w' w2) : FreshV w w2 v ds := by
  obtain ⟨xs, R, h1, h2, h3⟩ := h
  exact ⟨xs, R, owns_keeps h1 hk (fun _ _ e => e), h2.keeps hk (fun _ _ e => e), fun k h => ⟨(h3 k h).1, Nat.lt_of_lt_of_le (h3 k h).2.1 hk.size, (h3 k h).2.2⟩⟩
end Go.Proofs.Ytffnaigkdocpmac
