/- What a pool, a reference's pool, a list of votes hold in memory. -/
import Derived.Test.YtffnaigkdocpmacRows3
import Derived.Test.YtffnaigkdocpmacSpec
set_option linter.unusedVariables false
namespace Go.Pool
open Go.Lk Go.RowKit
variable {w w' : World} {F R F' R' S : Nat → Prop}

/-- The cells xs are those of these votes. -/
def Votes (w : World) (R : Nat → Prop) : List Ct → List Value → Prop
  | [], xs => xs = []
  | c :: cs, xs => ∃ s rest, xs = sc c s ++ rest ∧ SigAt w R c s ∧ Votes w R cs rest
theorem Votes.keeps : ∀ {cs : List Ct} {xs : List Value}, Votes w R cs xs → Keeps S w w' → (∀ b, R b → ¬ S b) → Votes w' R cs xs
  | [], _, h, _, _ => h
  | _ :: _, _, ⟨s, rest, h1, h2, h3⟩, hk, hn => ⟨s, rest, h1, h2.keeps hk hn, h3.keeps hk hn⟩
theorem Votes.mono : ∀ {cs : List Ct} {xs : List Value}, Votes w R cs xs → (∀ b, R b → R' b) → Votes w R' cs xs
  | [], _, h, _ => h
  | _ :: _, _, ⟨s, rest, h1, h2, h3⟩, hn => ⟨s, rest, h1, h2.mono hn, h3.mono hn⟩
theorem Votes.snoc : ∀ {cs : List Ct} {xs : List Value}, Votes w R cs xs → ∀ {c : Ct} {s : Value}, SigAt w R c s → Votes w R (cs ++ [c]) (xs ++ sc c s)
  | [], _, h, c, s, hs => by subst h; exact ⟨s, [], by simp, hs, rfl⟩
  | _ :: _, _, ⟨s', rest, h1, h2, h3⟩, c, s, hs => ⟨s', rest ++ sc c s, by rw [h1, List.append_assoc], h2, h3.snoc hs⟩
theorem Votes.len : ∀ {cs : List Ct} {xs : List Value}, Votes w R cs xs → (∀ c ∈ cs, c.Ok) → xs.length = cs.length * 101
  | [], _, h, _ => by subst h; rfl
  | c :: cs, _, ⟨s, rest, h1, h2, h3⟩, hok => by
    rw [h1, List.length_append, sc_len (hok c (by simp)), h3.len (fun c hc => hok c (by simp [hc])), List.length_cons]; omega
/-- The i-th vote's cells. -/
theorem Votes.get : ∀ {cs : List Ct} {xs : List Value}, Votes w R cs xs → (∀ c ∈ cs, c.Ok) → ∀ {i : Nat} {c : Ct}, cs[i]? = some c →
    ∃ s A B, xs = A ++ (sc c s ++ B) ∧ A.length = i * 101 ∧ SigAt w R c s
  | [], _, _, _, i, c, hi => by simp at hi
  | x :: cs, _, ⟨s, rest, h1, h2, h3⟩, hok, 0, c, hi => by
    simp at hi; subst hi; exact ⟨s, [], rest, by simpa using h1, by simp, h2⟩
  | x :: cs, _, ⟨s, rest, h1, h2, h3⟩, hok, i + 1, c, hi => by
    obtain ⟨s', A, B, h4, h5, h6⟩ := h3.get (fun c hc => hok c (by simp [hc])) (i := i) (c := c) (by simpa using hi)
    exact ⟨s', sc x s ++ A, B, by rw [h1, h4, List.append_assoc], by rw [List.length_append, sc_len (hok x (by simp)), h5]; omega, h6⟩
theorem sc_one (c : Ct) (s : Value) (hs : s.oneCell' = true) : ∀ u ∈ sc c s, u.oneCell' = true := by
  intro u hu
  simp only [sc, vc, List.mem_append, List.mem_cons, List.mem_singleton, List.not_mem_nil, or_false] at hu
  rcases hu with (rfl | hu | hu | rfl) | hu | rfl
  · rfl
  · exact valsK_one _ _ u hu
  · exact valsK_one _ _ u hu
  · exact hs
  · exact valsK_one _ _ u hu
  · rfl
theorem SigAt.one {c : Ct} {s : Value} (h : SigAt w R c s) : s.oneCell' = true := by obtain ⟨a, cap, rfl, -⟩ := h; rfl

/-- A list of votes. -/
def ListAt (w : World) (R : Nat → Prop) (a : Option Addr) (n c : Nat) (cs : List Ct) : Prop :=
  n = cs.length ∧ n ≤ c ∧ c ≤ maxLen ∧ (∀ k, R k → k < w.heap.size) ∧ ∃ xs, Has w a xs ∧ Votes w R cs xs ∧ ∀ b off, a = some ⟨b, off, none⟩ → xs ≠ [] → R b
theorem ListAt.keeps {a : Option Addr} {n c : Nat} {cs : List Ct} (h : ListAt w R a n c cs) (hk : Keeps S w w') (hn : ∀ b, R b → ¬ S b) : ListAt w' R a n c cs := by
  obtain ⟨h1, h2, h3, h0, xs, h4, h5, h6⟩ := h
  exact ⟨h1, h2, h3, fun k hk' => Nat.lt_of_lt_of_le (h0 k hk') hk.size, xs, h4.keeps hk (fun b off e hz => hn b (h6 b off e hz)), h5.keeps hk hn, h6⟩

/-- A row of votes (a field of a pool). -/
def VRow (w : World) (F R : Nat → Prop) (v : Value) (cs : List Ct) : Prop := ∃ xs, RowS w F R 35 101 v cs.length xs ∧ Votes w R cs xs
theorem VRow.keeps {v : Value} {cs : List Ct} (h : VRow w F R v cs) (hk : Keeps S w w') (hn : ∀ k, (F k ∨ R k) → IsT w 35 k → ¬ S k) (hR : ∀ k, R k → ¬ S k) : VRow w' F R v cs := by
  obtain ⟨xs, h1, h2⟩ := h
  exact ⟨xs, h1.keeps hk hn, h2.keeps hk hR⟩
theorem VRow.mono {v : Value} {cs : List Ct} (h : VRow w F R v cs) (hF : ∀ k, F k → F' k) (hR : ∀ k, R k → R' k) : VRow w F' R' v cs := by
  obtain ⟨xs, h1, h2⟩ := h
  exact ⟨xs, h1.mono hF hR, h2.mono hR⟩

/-- A pool at block p: it may write in F, and reads in R besides. -/
structure PoolAt (w : World) (p : Nat) (F R : Nat → Prop) (cs : List Ct) : Prop where
  ex : ∃ va vl mh mw, w.heap[p]? = some (.cells #[va, vl, .map (some mh), .map (some mw)] 68 (0, 0)) ∧ VRow w F R va cs ∧
    RowS w F R 40 66 vl (lks cs).length ((lks cs).flatMap (valsK LK)) ∧ MapAt MK w mh (hasF cs) ∧ MapAt LK w mw (wF cs) ∧ mh ≠ mw ∧ F p ∧ F mh ∧ F mw
  good : Good cs
  len : cs.length ≤ 1000
  apart : ∀ k, F k → ¬ R k
  ltF : ∀ k, F k → k < w.heap.size
  ltR : ∀ k, R k → k < w.heap.size
theorem PoolAt.keeps {p : Nat} {cs : List Ct} (h : PoolAt w p F R cs) (hk : Keeps S w w') (hF : ∀ k, F k → ¬ S k) (hR : ∀ k, R k → ¬ S k) : PoolAt w' p F R cs := by
  obtain ⟨⟨va, vl, mh, mw, h1, h2, h3, h4, h5, h6, h7, h8, h9⟩, g, l, s, t, r⟩ := h
  have hn : ∀ k, (F k ∨ R k) → ¬ S k := fun k h => h.elim (hF k) (hR k)
  exact ⟨⟨va, vl, mh, mw, hk.at h1 (hF p h7), h2.keeps hk (fun k h _ => hn k h) hR, h3.keeps hk (fun k h _ => hn k h), h4.keeps hk (hF _ h8), h5.keeps hk (hF _ h9), h6, h7, h8, h9⟩, g, l, s,
    fun k hk' => Nat.lt_of_lt_of_le (t k hk') hk.size, fun k hk' => Nat.lt_of_lt_of_le (r k hk') hk.size⟩
theorem PoolAt.nb {p : Nat} {cs : List Ct} (h : PoolAt w p F R cs) (hk : Keeps Nb w w') : PoolAt w' p F R cs := h.keeps hk (fun _ _ e => e) (fun _ _ e => e)

/-- The reference's pool at block q: it writes there alone, and reads in R. -/
structure RefAt (w : World) (q : Nat) (R : Nat → Prop) (cs : List Ct) : Prop where
  ex : ∃ a c, w.heap[q]? = some (.cells #[.slice a cs.length c] 52 (0, 0)) ∧ ListAt w R a cs.length c cs
  good : Good cs
  len : cs.length ≤ 1000
  apart : ¬ R q
theorem RefAt.lt {q : Nat} {cs : List Ct} (h : RefAt w q R cs) : q < w.heap.size := by obtain ⟨⟨a, c, h1, -⟩, -⟩ := h; exact lt_of_block h1
theorem RefAt.keeps {p : Nat} {cs : List Ct} (h : RefAt w p R cs) (hk : Keeps S w w') (hp : ¬ S p) (hn : ∀ k, R k → ¬ S k) : RefAt w' p R cs := by
  obtain ⟨⟨a, c, h1, h2⟩, g, l, s⟩ := h
  exact ⟨⟨a, c, hk.at h1 hp, h2.keeps hk hn⟩, g, l, s⟩
theorem RefAt.nb {p : Nat} {cs : List Ct} (h : RefAt w p R cs) (hk : Keeps Nb w w') : RefAt w' p R cs := h.keeps hk (fun e => e) (fun _ _ e => e)
end Go.Pool
namespace Go.Proofs.Ytffnaigkdocpmac
open Go.RowKit Go.Lk Go.Pool
theorem el22 : ∃ z, ElemT Try.prog 22 35 101 152 z := by
  have h : ((Try.prog.info? 35).map (fun i => (i.zero.isSome, (i.zero.map (·.cells.size)), i.size, i.bytes))) = some (true, some 101, 101, 152) := by kernel_rfl
  obtain ⟨i, hi, h2⟩ := Option.map_eq_some_iff.1 h
  simp only [Prod.mk.injEq] at h2
  obtain ⟨z, hz⟩ := Option.isSome_iff_exists.1 h2.1
  have h3 := h2.2.1
  rw [hz, Option.map_some, Option.some.injEq] at h3
  exact ⟨z, Try.underlying22, by rw [hi, Option.map_some, hz, h2.2.2.1, h2.2.2.2], h3, by omega⟩
theorem el47 : ∃ z, ElemT Try.prog 47 40 66 80 z := by
  have h : ((Try.prog.info? 40).map (fun i => (i.zero.isSome, (i.zero.map (·.cells.size)), i.size, i.bytes))) = some (true, some 66, 66, 80) := by kernel_rfl
  obtain ⟨i, hi, h2⟩ := Option.map_eq_some_iff.1 h
  simp only [Prod.mk.injEq] at h2
  obtain ⟨z, hz⟩ := Option.isSome_iff_exists.1 h2.1
  have h3 := h2.2.1
  rw [hz, Option.map_some, Option.some.injEq] at h3
  exact ⟨z, Try.underlying47, by rw [hi, Option.map_some, hz, h2.2.2.1, h2.2.2.2], h3, by omega⟩
theorem el31 : ElemT Try.prog 31 5 1 1 (.int .u8 0) := ⟨Try.underlying31, by kernel_rfl, rfl, by decide⟩
theorem zero72 (w : World) : (zeroValue 72).run Try.prog w = .ok (.agg #[.int .u64 0, .int .i64 0]) w := by kernel_rfl
theorem zero75 (w : World) : (zeroValue 75).run Try.prog w = .ok (.agg #[.bool false]) w := by kernel_rfl
end Go.Proofs.Ytffnaigkdocpmac
