/- Two pools beside each other; the votes of a list that came in. -/
import Derived.Test.YtffnaigkdocpmacArgs
import Derived.Test.YtffnaigkdocpmacKnown
import Derived.Test.YtffnaigkdocpmacOrderL
set_option linter.unusedVariables false
set_option linter.unusedSimpArgs false
namespace Go.Proofs.Ytffnaigkdocpmac
open Go.RowKit Go.Lk Go.Pool
variable {w0 w w' : World} {pa pb : Nat} {ca cb : List Ct}

/-- Two pools of the call's own (w0: where it began). -/
def Two (w0 w : World) (pa : Nat) (ca : List Ct) (pb : Nat) (cb : List Ct) : Prop :=
  ∃ Fa Ra Fb Rb, PoolAt w pa Fa Ra ca ∧ PoolAt w pb Fb Rb cb ∧ (∀ k, Fa k → ¬ Fb k ∧ ¬ Rb k) ∧ (∀ k, Fb k → ¬ Ra k) ∧ (∀ k, (Fa k ∨ Ra k) ∨ (Fb k ∨ Rb k) → w0.heap.size ≤ k) ∧ Keeps Nb w0 w
theorem Two.k (h : Two w0 w pa ca pb cb) : Keeps Nb w0 w := by obtain ⟨_, _, _, _, -, -, -, -, -, h⟩ := h; exact h
theorem Two.a (h : Two w0 w pa ca pb cb) : ∃ F R, PoolAt w pa F R ca := by obtain ⟨F, R, _, _, h, -⟩ := h; exact ⟨F, R, h⟩
theorem Two.b (h : Two w0 w pa ca pb cb) : ∃ F R, PoolAt w pb F R cb := by obtain ⟨_, _, F, R, -, h, -⟩ := h; exact ⟨F, R, h⟩
theorem Two.swap (h : Two w0 w pa ca pb cb) : Two w0 w pb cb pa ca := by
  obtain ⟨Fa, Ra, Fb, Rb, h1, h2, h3, h4, h5, h6⟩ := h
  exact ⟨Fb, Rb, Fa, Ra, h2, h1, fun k hb => ⟨fun ha => (h3 k ha).1 hb, h4 k hb⟩, fun k ha => (h3 k ha).2, fun k h => h5 k h.symm, h6⟩
theorem Two.nb (h : Two w0 w pa ca pb cb) (hk : Keeps Nb w w') : Two w0 w' pa ca pb cb := by
  obtain ⟨Fa, Ra, Fb, Rb, h1, h2, h3, h4, h5, h6⟩ := h
  exact ⟨Fa, Ra, Fb, Rb, h1.nb hk, h2.nb hk, h3, h4, h5, h6.trans_nb hk⟩
theorem Two.add (h : Two w0 w pa ca pb cb) {c : Ct} {s : Value} (hc : c.Ok) (hs : SigAt w (Was w0) c s) (hn : ca.length < 1000) :
    Calls Try.prog 13 #[.pointer (some ⟨pa, 0, none⟩), .agg (vc c s).toArray, kv HK c.key, .int .u64 (c.stake : Nat)] w fun e w' => e = .returned (.tuple #[.int .u64 (told ca c : Nat), .int .i64 (chk ca c : Nat)]) ∧ Two w0 w' pa (addTo ca c) pb cb := by
  obtain ⟨Fa, Ra, Fb, Rb, h1, h2, h3, h4, h5, h6⟩ := h
  refine (add_at pa Fa Ra (Was w0) ca c s w h1 hc hs hn (fun k hk hf => by have := h5 k (.inl (.inl hf)); unfold Was at hk; omega)).mono ?_
  rintro e w' ⟨he, ⟨F', R', hp, hu, hr⟩, hk⟩
  have hw := h6.size
  refine ⟨he, F', R', Fb, Rb, hp, h2.keeps hk (fun k hb ha => (h3 k ha).1 hb) (fun k hb ha => (h3 k ha).2 hb), fun k hf => ?_, fun k hb hr' => ?_, ?_, h6.trans hk (fun i hi hf => by have := h5 i (.inl (.inl hf)); omega)⟩
  · rcases hu k hf with h | h
    · exact h3 k h
    · exact ⟨fun hb => by have := h2.ltF k hb; omega, fun hb => by have := h2.ltR k hb; omega⟩
  · rcases hr k hr' with h | h
    · exact h4 k hb h
    · have := h2.ltF k hb; omega
  · rintro k ((hf | hr') | hb)
    · rcases hu k hf with h | h
      · exact h5 k (.inl (.inl h))
      · omega
    · rcases hr k hr' with h | h
      · exact h5 k (.inl (.inr h))
      · omega
    · exact h5 k (.inr hb)
theorem two_new {w0 w1 w2 : World} (k0 : Keeps Nb w0 w) (h1 : PoolAt w1 pa (Up Nb w w1) Nb []) (k1 : Keeps Nb w w1) (h2 : PoolAt w2 pb (Up Nb w1 w2) Nb []) (k2 : Keeps Nb w1 w2) : Two w0 w2 pa [] pb [] := by
  have s0 := k0.size; have s1 := k1.size; have s2 := k2.size
  refine ⟨_, _, _, _, h1.nb k2, h2, fun k hf => ⟨fun hb => ?_, fun e => e⟩, fun _ _ e => e, ?_, (k0.trans_nb k1).trans_nb k2⟩
  · rcases hf with h | h
    · exact h
    · rcases hb with h' | h'
      · exact h'
      · omega
  · rintro k ((h | h) | (h | h))
    · rcases h with h | h
      · exact h.elim
      · omega
    · exact h.elim
    · rcases h with h | h
      · exact h.elim
      · omega
    · exact h.elim

/-- A vote's cells at ⟨b, o⟩. -/
structure VoteAt (w : World) (R : Nat → Prop) (b o : Nat) (c : Ct) (s : Value) : Prop where
  sig : SigAt w R c s
  whole : Has w (some ⟨b, o, none⟩) (sc c s)
  vote : Has w (some ⟨b, o, none⟩) (vc c s)
  key : Has w (some ⟨b, o + 68, none⟩) (valsK HK c.key)
  stake : w.cell? ⟨b, o + 100, none⟩ = some (.int .u64 (c.stake : Nat))
theorem VoteAt.nb {R : Nat → Prop} {b o : Nat} {c : Ct} {s : Value} (h : VoteAt w R b o c s) (hk : Keeps Nb w w') : VoteAt w' R b o c s :=
  ⟨h.sig.keeps hk (fun _ _ e => e), h.whole.nb hk, h.vote.nb hk, h.key.nb hk, (hk.cell (p := ⟨b, o + 100, none⟩) (lt_of_cell h.stake) (fun e => e)).trans h.stake⟩
theorem votes_at {R : Nat → Prop} {a : Option Addr} {n cp : Nat} {cs : List Ct} (h : ListAt w R a n cp cs) (hok : ∀ c ∈ cs, c.Ok) :
    ∃ b off, (cs ≠ [] → a = some ⟨b, off, none⟩) ∧ ∀ i c, cs[i]? = some c → ∃ s, VoteAt w R b (off + i * 101) c s := by
  by_cases h0 : cs = []
  · subst h0; exact ⟨0, 0, fun h => absurd rfl h, by simp⟩
  · obtain ⟨b, off, s, ha, -⟩ := h.vote hok (i := 0) (c := cs[0]'(List.length_pos_iff.2 h0)) (List.getElem?_eq_getElem _)
    refine ⟨b, off, fun _ => ha, fun i c hi => ?_⟩
    obtain ⟨b', off', s', ha', hs, hh⟩ := h.vote hok hi
    rw [ha] at ha'
    cases ha'
    have hx := sc_has (hok c (List.mem_of_getElem? hi)) hh
    exact ⟨s', hs, hh, hx.1, hx.2.1, hx.2.2.1⟩
end Go.Proofs.Ytffnaigkdocpmac
