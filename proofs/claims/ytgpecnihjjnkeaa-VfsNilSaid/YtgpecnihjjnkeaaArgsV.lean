/- What a law is told of its arguments: steps, picks, names, bytes. -/
import Derived.Test.YtgpecnihjjnkeaaCrashW
import Derived.Test.YtgpecnihjjnkeaaTrodk
import Derived.ProofKit
import Derived.ChangeArms
set_option linter.unusedVariables false
namespace Go.Vfs
open Go.Lk Go.RowKit
/-- A step that a law is given. -/
structure StepD where
  kind : Int
  n : Int
  e : Int
  name : ByteArray
  to : ByteArray
  b : List Nat
  picks : List Int
def stc (s : StepD) (vb vp : Value) : List Value := [.int .i64 s.kind, .int .i64 s.n, .int .i64 s.e, .string s.name, .string s.to, vb, vp]
def Was (w : World) : Nat → Prop := fun k => k < w.heap.size
def I64 (z : Int) : Prop := -9223372036854775808 ≤ z ∧ z ≤ 9223372036854775807
/-- Integers, where a slice has them. -/
def PicksV (w : World) (v : Value) (zs : List Int) : Prop := ∃ a c, v = .slice a zs.length c ∧ zs.length ≤ c ∧ c ≤ maxLen ∧ Reads .i64 w a zs ∧ ∀ z ∈ zs, I64 z
variable {w w' w0 : World}
theorem PicksV.nb {v : Value} {zs : List Int} (h : PicksV w v zs) (hk : Keeps Nb w w') : PicksV w' v zs := by
  obtain ⟨a, c, h1, h2, h3, h4, h5⟩ := h
  exact ⟨a, c, h1, h2, h3, h4.nb hk, h5⟩
/-- A step in memory (of what was there at w0). -/
def StepV (w0 w : World) (s : StepD) (cs : List Value) : Prop := ∃ vb vp, cs = stc s vb vp ∧ Bytes w (Was w0) vb s.b ∧ PicksV w vp s.picks ∧ s.name.size ≤ maxLen ∧ s.to.size ≤ maxLen ∧ I64 s.kind ∧ I64 s.n ∧ I64 s.e
theorem StepV.nb {s : StepD} {cs : List Value} (h : StepV w0 w s cs) (hk : Keeps Nb w w') : StepV w0 w' s cs := by
  obtain ⟨vb, vp, h1, h2, h3, h4⟩ := h
  exact ⟨vb, vp, h1, h2.keeps hk (fun _ _ e => e), h3.nb hk, h4⟩
/-- A row of steps. -/
def StepsAt (w0 w : World) (a : Option Addr) (n c : Nat) (L : List StepD) : Prop :=
  L.length = n ∧ n ≤ c ∧ c ≤ maxLen ∧ ∀ (i : Nat) (s : StepD), L[i]? = some s → ∃ b off cs, a = some ⟨b, off, none⟩ ∧ StepV w0 w s cs ∧ Has w (some ⟨b, off + i * 7, none⟩) cs
theorem StepsAt.nb {a : Option Addr} {n c : Nat} {L : List StepD} (h : StepsAt w0 w a n c L) (hk : Keeps Nb w w') : StepsAt w0 w' a n c L := by
  obtain ⟨h1, h2, h3, h4⟩ := h
  refine ⟨h1, h2, h3, fun i s hs => ?_⟩
  obtain ⟨b, off, cs, e, h5, h6⟩ := h4 i s hs
  exact ⟨b, off, cs, e, h5.nb hk, h6.nb hk⟩
end Go.Vfs
namespace Go.Proofs.Ytgpecnihjjnkeaa
open Go.RowKit Go.Lk Go.Vfs Go.WideShapes Go.ChangeShapes
variable {w : World} {base : Nat} {H : Type} {enc : TypeId × Value → H}
theorem cut_one {α : Type} {l : List α} {a : Nat} {x : α} (h : (l.drop a).take 1 = [x]) : l.drop a = x :: l.drop (a + 1) := by
  have hl : a < l.length := by
    rcases Nat.lt_or_ge a l.length with h' | h'
    · exact h'
    · rw [List.drop_of_length_le h'] at h; simp at h
  have := Go.Lk.cut_at (l := l) (a := a) (b := 1) (by omega)
  rw [h] at this
  exact this
theorem i64_of {z : Int} (h : (Lit.int .i64 z).wf = true) : I64 z := by
  simp [Lit.wf] at h
  exact h
theorem bytes_of {n : Nat} {cs : List Value} {x : DataW H × List MemPlace} (h : DataW.trod enc Try.prog w 0 (fun _ => true) true n 31 cs = some x) : ∃ vb l, cs = [vb] ∧ Bytes w (Was w) vb l := by
  rcases open_ints Try.underlying31 Try.underlying5 (by kernel_rfl) h with ⟨hc, _⟩ | ⟨y, l, c, zs, hc, _, hl, hm, hz, hd, hcell, hwz⟩
  · exact ⟨_, [], hc, Bytes.nil _ _⟩
  · have hr : IsRow .u8 w (some y) l c zs := .inr ⟨_, rfl, hl, hm, by simpa using hz, hcell, hwz⟩
    obtain ⟨b, rfl, hlc, hcm, hrd, hb⟩ := hr.bytes
    refine ⟨_, b, hc, some y, c, rfl, hlc, hcm, hrd, hb, fun k off ea hne => ?_⟩
    rcases hrd with h | ⟨b', off', ea', hc'⟩
    · exact absurd h hne
    · rw [ea'] at ea; cases ea
      exact lt_of_cell (p := ⟨k, off + 0, none⟩) (hc' 0 (List.length_pos_iff.2 hne))
theorem picks_of {n : Nat} {cs : List Value} {x : DataW H × List MemPlace} (h : DataW.trod enc Try.prog w 0 (fun _ => true) true n 32 cs = some x) : ∃ vp zs, cs = [vp] ∧ PicksV w vp zs := by
  rcases open_ints Try.underlying32 Try.underlying3 (by kernel_rfl) h with ⟨hc, _⟩ | ⟨y, l, c, zs, hc, _, hl, hm, hz, hd, hcell, hwz⟩
  · exact ⟨_, [], hc, none, 0, rfl, Nat.le_refl _, Nat.zero_le _, .inl rfl, by simp⟩
  · have hr : IsRow .i64 w (some y) l c zs := .inr ⟨_, rfl, hl, hm, by simpa using hz, hcell, hwz⟩
    obtain ⟨b, rfl, hlc, hcm, hrd, hb⟩ := hr.reads
    exact ⟨_, b, hc, some y, c, rfl, hlc, hcm, hrd, fun z hz => i64_of (hb z hz)⟩
theorem step_of {n : Nat} {cs : List Value} {x : DataW H × List MemPlace} (h : DataW.trod enc Try.prog w 0 (fun _ => true) true n 34 cs = some x) : ∃ s, StepV w w s cs := by
  obtain ⟨xs, m, -, -, hl, hx, hi⟩ := DataW.trod_struct Try.underlying34 h
  have c34 : Try.prog.cellsOf 34 = 7 := by kernel_rfl
  rw [c34] at hl
  have get : ∀ (i t o : Nat), ((Try.prog.underlying 34).bind fun d => match d with | .struct fs => fs[i]?.map (fun f => (f.type, f.offset, Try.prog.cellsOf f.type)) | _ => none) = some (t, o, 1) →
      ∃ y, DataW.trod enc Try.prog w 0 (fun _ => true) true m t ((cs.drop o).take 1) = some y := by
    intro i t o hf
    rw [Try.underlying34] at hf
    simp only [Option.bind_some] at hf
    obtain ⟨f, hf2, e⟩ := Option.map_eq_some_iff.1 hf
    simp only [Prod.mk.injEq] at e
    obtain ⟨rfl, rfl, e3⟩ := e
    have h1 := hi i f hf2
    have : i < xs.length := by rw [hx]; exact (Array.getElem?_eq_some_iff.1 hf2).1
    rw [List.getElem?_eq_getElem this, e3] at h1
    exact ⟨_, h1⟩
  obtain ⟨y0, h0⟩ := get 0 3 0 (by kernel_rfl)
  obtain ⟨y1, h1⟩ := get 1 3 1 (by kernel_rfl)
  obtain ⟨y2, h2⟩ := get 2 3 2 (by kernel_rfl)
  obtain ⟨y3, h3⟩ := get 3 9 3 (by kernel_rfl)
  obtain ⟨y4, h4⟩ := get 4 9 4 (by kernel_rfl)
  obtain ⟨y5, h5⟩ := get 5 31 5 (by kernel_rfl)
  obtain ⟨y6, h6⟩ := get 6 32 6 (by kernel_rfl)
  obtain ⟨z0, e0, -, w0⟩ := DataW.trod_int Try.underlying3 h0
  obtain ⟨z1, e1, -, w1⟩ := DataW.trod_int Try.underlying3 h1
  obtain ⟨z2, e2, -, w2⟩ := DataW.trod_int Try.underlying3 h2
  obtain ⟨s3, e3, -, w3⟩ := DataW.trod_string Try.underlying9 h3
  obtain ⟨s4, e4, -, w4⟩ := DataW.trod_string Try.underlying9 h4
  obtain ⟨vb, l, e5, hB⟩ := bytes_of h5
  obtain ⟨vp, zs, e6, hP⟩ := picks_of h6
  refine ⟨⟨z0, z1, z2, s3, s4, l, zs⟩, vb, vp, ?_, hB, hP, w3, w4, i64_of w0, i64_of w1, i64_of w2⟩
  have d0 := cut_one e0
  rw [cut_one e1, cut_one e2, cut_one e3, cut_one e4, cut_one e5, cut_one e6, List.drop_of_length_le (show cs.length ≤ 6 + 1 by omega), List.drop_zero] at d0
  exact d0
theorem add_of_add' (a : Addr) (i j : Nat) : (a.add i).add j = a.add (i + j) := by
  unfold Addr.add
  by_cases hi : i = 0 <;> by_cases hj : j = 0 <;> simp [hi, hj, Nat.add_assoc]
theorem pick_list {α : Type} {p : Nat → α → Prop} (n : Nat) (h : ∀ i, i < n → ∃ x, p i x) : ∃ L : List α, L.length = n ∧ ∀ (i : Nat) (x : α), L[i]? = some x → p i x := by
  induction n with
  | zero => exact ⟨[], rfl, by simp⟩
  | succ n ih =>
    obtain ⟨L, h1, hp⟩ := ih (fun i hi => h i (by omega))
    obtain ⟨x, hc⟩ := h n (by omega)
    refine ⟨L ++ [x], by simp [h1], fun i y hy => ?_⟩
    rcases Nat.lt_or_ge i n with hi | hi
    · rw [List.getElem?_append_left (by omega)] at hy; exact hp i y hy
    · have hin : i = n := by
        have := (List.getElem?_eq_some_iff.1 hy).1
        simp at this; omega
      subst hin
      rw [List.getElem?_append_right (by omega)] at hy
      simp [h1] at hy
      subst hy; exact hc
set_option maxRecDepth 100000 in
theorem steps_of {v : Value} {d : DataW H} {p : List MemPlace} (kv : Value.okWide Try.prog w .any base 22 v) (k : DataW.Trod enc Try.prog w 0 (fun _ => true) true 22 v d p) :
    ∃ (a : Option Addr) (c : Nat) (L : List StepD), v = .slice a L.length c ∧ StepsAt w w a L.length c L := by
  obtain ⟨a, n, c, rfl⟩ := okWide_slice Try.underlying22 kv
  obtain ⟨fuel, hf⟩ := k
  rcases DataW.trod_slice Try.underlying22 hf with ⟨h, -⟩ | ⟨x, len, cap, elems, rest, m, -, hcs, hx, -, hl, hm, hlen, hel, -, -⟩
  · simp [Value.cells] at h
    obtain ⟨rfl, rfl, rfl⟩ := h
    exact ⟨none, 0, [], rfl, rfl, Nat.le_refl _, Nat.zero_le _, by simp⟩
  · simp [Value.cells] at hcs
    obtain ⟨rfl, rfl, rfl⟩ := hcs
    have h1 : Try.prog.cellsOf 34 = 7 := by kernel_rfl
    rw [h1] at hel
    have spot0 : 0 < n → x.spot = none := fun h0 => by
      have h := hel 0 h0
      rw [List.getElem?_eq_getElem (by omega)] at h
      obtain ⟨cs, hcs, ht⟩ := Option.bind_eq_some_iff.1 h
      obtain ⟨-, hlen', hget⟩ := World.cells?_some hcs
      obtain ⟨s, hs⟩ := step_of ht
      have hlc : cs.length = 7 := by obtain ⟨vb, vp, rfl, -⟩ := hs; rfl
      have h1 := hget 0 (by omega)
      obtain ⟨u, hu⟩ : ∃ u, cs[0]? = some u := ⟨_, List.getElem?_eq_getElem (by omega)⟩
      rw [hu] at h1
      simpa [Addr.add] using spot_of_cell h1
    have each : ∀ i, i < n → ∃ s : StepD, ∃ b off cs, x = ⟨b, off, none⟩ ∧ StepV w w s cs ∧ Has w (some ⟨b, off + i * 7, none⟩) cs := by
      intro i hi
      have h := hel i hi
      rw [List.getElem?_eq_getElem (by omega)] at h
      obtain ⟨cs, hcs, ht⟩ := Option.bind_eq_some_iff.1 h
      obtain ⟨s, hs⟩ := step_of ht
      obtain ⟨-, hlen', hget⟩ := World.cells?_some hcs
      have hlc : cs.length = 7 := by obtain ⟨vb, vp, rfl, -⟩ := hs; rfl
      have hsp := spot0 (by omega)
      obtain ⟨b, off, sp⟩ := x
      have hsp : sp = none := hsp
      subst hsp
      refine ⟨s, b, off, cs, rfl, hs, .inr ⟨b, off + i * 7, rfl, fun j u hu => ?_⟩⟩
      have hj := (List.getElem?_eq_some_iff.1 hu).1
      have h2 := hget j (by omega)
      rw [add_of_add', Addr.add_lit, hu] at h2
      rw [Nat.add_assoc]; exact h2
    obtain ⟨L, e1, hp⟩ := pick_list n each
    subst e1
    refine ⟨some x, c, L, rfl, rfl, hl, hm, fun i s hs => ?_⟩
    obtain ⟨b, off, cs, rfl, h2, h3⟩ := hp i s hs
    exact ⟨b, off, cs, rfl, h2, h3⟩
end Go.Proofs.Ytgpecnihjjnkeaa
