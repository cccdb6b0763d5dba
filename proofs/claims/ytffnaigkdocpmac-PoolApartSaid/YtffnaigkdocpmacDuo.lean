/- A pool and a reference's pool beside each other; votes put into both ('do'). -/
import Derived.Test.YtffnaigkdocpmacRefA
set_option linter.unusedVariables false
set_option linter.unusedSimpArgs false
namespace Go.Proofs.Ytffnaigkdocpmac
open Go.RowKit Go.Lk Go.Pool

theorem refAdd_at (q : Nat) (R R' : Nat → Prop) (cs : List Ct) (c : Ct) (s : Value) (w : World) (h : RefAt w q R cs) (hc : c.Ok) (hs : SigAt w R' c s) (hn : cs.length < 1000) (hq : ¬ R' q) (hlt : ∀ k, R' k → k < w.heap.size) :
    Calls Try.prog 29 #[.pointer (some ⟨q, 0, none⟩), .agg (vc c s).toArray, kv HK c.key, .int .u64 (c.stake : Nat)] w fun e w' => e = .returned (.tuple #[.int .u64 (told cs c : Nat), .int .i64 (chk cs c : Nat)]) ∧ RGrew w q R R' (addTo cs c) w' ∧ Keeps (· = q) w w' := by
  unfold told addTo
  by_cases h0 : chk cs c = 0
  · rw [if_pos h0, if_pos h0, h0]
    exact refAdd_yes q R R' cs c s w h hc hs hn hq hlt h0
  · rw [if_neg h0, if_neg h0]
    exact (refAdd_no q R R' cs c s w h hc hs h0).mono fun e w' ⟨h1, h2⟩ => ⟨h1, ⟨R, h.nb h2, fun k hk => .inl (.inl hk)⟩, h2.of_nb⟩

/-- The votes of a list, whatever else is written. -/
theorem VoteAt.keeps {w w' : World} {R S : Nat → Prop} {b o : Nat} {c : Ct} {s : Value} (h : VoteAt w R b o c s) (hk : Keeps S w w') (hn : ∀ k, R k → ¬ S k) (hb : R b) : VoteAt w' R b o c s :=
  ⟨h.sig.keeps hk hn, h.whole.keeps hk (fun _ _ e _ => by cases e; exact hn _ hb), h.vote.keeps hk (fun _ _ e _ => by cases e; exact hn _ hb), h.key.keeps hk (fun _ _ e _ => by cases e; exact hn _ hb), (hk.cell (p := ⟨b, o + 100, none⟩) (lt_of_cell h.stake) (hn _ hb)).trans h.stake⟩
theorem votes_at' {w : World} {R : Nat → Prop} {a : Option Addr} {n cp : Nat} {cs : List Ct} (h : ListAt w R a n cp cs) (hok : ∀ c ∈ cs, c.Ok) :
    ∃ b off, (cs ≠ [] → a = some ⟨b, off, none⟩ ∧ R b) ∧ ∀ i c, cs[i]? = some c → ∃ s, VoteAt w R b (off + i * 101) c s := by
  obtain ⟨b, off, h1, h2⟩ := votes_at h hok
  refine ⟨b, off, fun hne => ⟨h1 hne, ?_⟩, h2⟩
  obtain ⟨-, -, -, -, xs, -, hv, hb⟩ := h
  refine hb b off (h1 hne) ?_
  rintro rfl
  have := hv.len hok
  have hl := List.length_pos_iff.2 hne
  simp at this
  omega

structure DuoAt (w : World) (p q : Nat) (F R Q : Nat → Prop) (c1 c2 : List Ct) : Prop where
  pool : PoolAt w p F R c1
  ref : RefAt w q Q c2
  fq : ¬ F q
  rq : ¬ R q
  ff : ∀ k, F k → ¬ Q k
  lq : ∀ k, Q k → k < w.heap.size
theorem DuoAt.nb {w w' : World} {p q : Nat} {F R Q : Nat → Prop} {c1 c2 : List Ct} (h : DuoAt w p q F R Q c1 c2) (hk : Keeps Nb w w') : DuoAt w' p q F R Q c1 c2 :=
  ⟨h.pool.nb hk, h.ref.nb hk, h.fq, h.rq, h.ff, fun k hk' => Nat.lt_of_lt_of_le (h.lq k hk') hk.size⟩
/-- .. as they have become since w0. -/
def DuoR (w0 w : World) (p q : Nat) (F0 R0 Q0 : Nat → Prop) (c1 c2 : List Ct) : Prop :=
  ∃ F R Q, DuoAt w p q F R Q c1 c2 ∧ (∀ k, F k → F0 k ∨ w0.heap.size ≤ k) ∧ (∀ k, R k → R0 k ∨ w0.heap.size ≤ k) ∧ (∀ k, Q k → Q0 k ∨ w0.heap.size ≤ k) ∧ Keeps (fun k => F0 k ∨ k = q) w0 w
variable {w0 w w' : World} {p q : Nat} {F0 R0 Q0 Rl : Nat → Prop} {c1 c2 : List Ct}
theorem DuoR.nb (h : DuoR w0 w p q F0 R0 Q0 c1 c2) (hk : Keeps Nb w w') : DuoR w0 w' p q F0 R0 Q0 c1 c2 := by
  obtain ⟨F, R, Q, h1, h2, h3, h4, h5⟩ := h
  exact ⟨F, R, Q, h1.nb hk, h2, h3, h4, h5.trans_nb hk⟩
theorem DuoR.k (h : DuoR w0 w p q F0 R0 Q0 c1 c2) : Keeps (fun k => F0 k ∨ k = q) w0 w := by obtain ⟨_, _, _, -, -, -, -, h⟩ := h; exact h
theorem DuoR.addP (h : DuoR w0 w p q F0 R0 Q0 c1 c2) (hRl : ∀ k, Rl k → ¬ (F0 k ∨ k = q) ∧ k < w0.heap.size) {c : Ct} {s : Value} (hc : c.Ok) (hs : SigAt w Rl c s) (hn : c1.length < 1000) :
    Calls Try.prog 13 #[.pointer (some ⟨p, 0, none⟩), .agg (vc c s).toArray, kv HK c.key, .int .u64 (c.stake : Nat)] w fun e w' => e = .returned (.tuple #[.int .u64 (told c1 c : Nat), .int .i64 (chk c1 c : Nat)]) ∧ DuoR w0 w' p q F0 R0 Q0 (addTo c1 c) c2 := by
  obtain ⟨F, R, Q, ⟨h1, h2, h3, h4, h5, h6⟩, g1, g2, g3, g4⟩ := h
  have hw := g4.size
  have hql := h2.lt
  refine (add_at p F R Rl c1 c s w h1 hc hs hn (fun k hk hf => by
    rcases g1 k hf with h | h
    · exact (hRl k hk).1 (.inl h)
    · have := (hRl k hk).2; omega)).mono ?_
  rintro e w' ⟨he, ⟨F', R', hp, hu, hr⟩, hk⟩
  refine ⟨he, F', R', Q, ⟨hp, h2.keeps hk h3 (fun k hq hf => h5 k hf hq), fun h => ?_, fun h => ?_, fun k hf hq => ?_, fun k hq => Nat.lt_of_lt_of_le (h6 k hq) hk.size⟩, fun k hf => ?_, fun k hf => ?_, g3, g4.trans hk (fun i hi hf => ?_)⟩
  · rcases hu q h with h | h
    · exact h3 h
    · omega
  · rcases hr q h with h | h
    · exact h4 h
    · omega
  · rcases hu k hf with h | h
    · exact h5 k h hq
    · have := h6 k hq; omega
  · rcases hu k hf with h | h
    · exact g1 k h
    · exact .inr (by omega)
  · rcases hr k hf with h | h
    · exact g2 k h
    · exact .inr (by omega)
  · rcases g1 i hf with h | h
    · exact .inl h
    · omega
theorem DuoR.addR (h : DuoR w0 w p q F0 R0 Q0 c1 c2) (hRl : ∀ k, Rl k → ¬ (F0 k ∨ k = q) ∧ k < w0.heap.size) (hQ : ∀ k, Rl k → Q0 k) {c : Ct} {s : Value} (hc : c.Ok) (hs : SigAt w Rl c s) (hn : c2.length < 1000) :
    Calls Try.prog 29 #[.pointer (some ⟨q, 0, none⟩), .agg (vc c s).toArray, kv HK c.key, .int .u64 (c.stake : Nat)] w fun e w' => e = .returned (.tuple #[.int .u64 (told c2 c : Nat), .int .i64 (chk c2 c : Nat)]) ∧ DuoR w0 w' p q F0 R0 Q0 c1 (addTo c2 c) := by
  obtain ⟨F, R, Q, ⟨h1, h2, h3, h4, h5, h6⟩, g1, g2, g3, g4⟩ := h
  have hw := g4.size
  refine (refAdd_at q Q Rl c2 c s w h2 hc hs hn (fun hk => (hRl q hk).1 (.inr rfl)) (fun k hk => by have := (hRl k hk).2; omega)).mono ?_
  rintro e w' ⟨he, ⟨Q', hp, hu⟩, hk⟩
  refine ⟨he, F, R, Q', ⟨h1.keeps hk (fun k hf e => by subst e; exact h3 hf) (fun k hf e => by subst e; exact h4 hf), hp, h3, h4, fun k hf hq => ?_, fun k hq => ?_⟩, g1, g2, fun k hq => ?_, g4.trans hk (fun i _ e => .inr e)⟩
  · rcases hu k hq with (h | h) | h
    · exact h5 k hf h
    · rcases g1 k hf with h' | h'
      · exact (hRl k h).1 (.inl h')
      · have := (hRl k h).2; omega
    · have := h1.ltF k hf; omega
  · obtain ⟨⟨_, _, -, hl⟩, -⟩ := hp
    exact hl.2.2.2.1 k hq
  · rcases hu k hq with (h | h) | h
    · exact g3 k h
    · exact .inl (hQ k h)
    · exact .inr (by omega)
end Go.Proofs.Ytffnaigkdocpmac
