/- What a law is told of its arguments: votes, keys. -/
import Derived.Test.YtffnaigkdocpmacFew
import Derived.Test.YtffnaigkdocpmacTrodk
import Derived.ProofKit
set_option linter.unusedVariables false
namespace Go.Proofs.Ytffnaigkdocpmac
open Go.RowKit Go.Lk Go.Pool Go.WideShapes Go.ChangeShapes
variable {w : World} {base : Nat} {H : Type} {enc : TypeId × Value → H}

/-- The blocks that were there when the call began. -/
def Was (w : World) : Nat → Prop := fun k => k < w.heap.size
theorem cut_one {α : Type} {l : List α} {a : Nat} {x : α} (h : (l.drop a).take 1 = [x]) : l.drop a = x :: l.drop (a + 1) := by
  have hl : a < l.length := by
    rcases Nat.lt_or_ge a l.length with h' | h'
    · exact h'
    · rw [List.drop_of_length_le h'] at h; simp at h
  have := cut_at (l := l) (a := a) (b := 1) (by omega)
  rw [h] at this
  exact this
theorem vote_of {n : Nat} {cs : List Value} {x : DataW H × List MemPlace} (h : DataW.trod enc Try.prog w 0 (fun _ => true) true n 33 cs = some x) :
    ∃ who src tgt s sig, (Lit.int .i64 who).wf = true ∧ Fits PK src ∧ Fits PK tgt ∧ cs = .int .i64 who :: (valsK PK src ++ (valsK PK tgt ++ [s])) ∧
      ∀ c : Ct, c.sig = sig → SigAt w (Was w) c s := by
  obtain ⟨xs, m, -, -, hl, hx, hi⟩ := DataW.trod_struct Try.underlying33 h
  have c3 : Try.prog.cellsOf 3 = 1 := by kernel_rfl
  have c30 : Try.prog.cellsOf 30 = 33 := by kernel_rfl
  have c31 : Try.prog.cellsOf 31 = 1 := by kernel_rfl
  have c33 : Try.prog.cellsOf 33 = 68 := by kernel_rfl
  have get : ∀ (i : Nat) (f : Field), (#[{ name := "Validator", type := 3, offset := 0, embedded := false, tag := "", pkgPath := "", byteOffset := 0 },
        { name := "Source", type := 30, offset := 1, embedded := false, tag := "", pkgPath := "", byteOffset := 8 },
        { name := "Target", type := 30, offset := 34, embedded := false, tag := "", pkgPath := "", byteOffset := 48 },
        { name := "Sig", type := 31, offset := 67, embedded := false, tag := "", pkgPath := "", byteOffset := 88 }] : Array Field)[i]? = some f →
      ∃ y, DataW.trod enc Try.prog w 0 (fun _ => true) true m f.type ((cs.drop f.offset).take (Try.prog.cellsOf f.type)) = some y := by
    intro i f hf
    have h1 := hi i f hf
    have : i < xs.length := by rw [hx]; exact (Array.getElem?_eq_some_iff.1 hf).1
    rw [List.getElem?_eq_getElem this] at h1
    exact ⟨_, h1⟩
  obtain ⟨y0, h0⟩ := get 0 _ rfl
  obtain ⟨y1, h1⟩ := get 1 _ rfl
  obtain ⟨y2, h2⟩ := get 2 _ rfl
  obtain ⟨y3, h3⟩ := get 3 _ rfl
  change DataW.trod enc Try.prog w 0 (fun _ => true) true m 3 ((cs.drop 0).take (Try.prog.cellsOf 3)) = some y0 at h0
  change DataW.trod enc Try.prog w 0 (fun _ => true) true m 30 ((cs.drop 1).take (Try.prog.cellsOf 30)) = some y1 at h1
  change DataW.trod enc Try.prog w 0 (fun _ => true) true m 30 ((cs.drop 34).take (Try.prog.cellsOf 30)) = some y2 at h2
  change DataW.trod enc Try.prog w 0 (fun _ => true) true m 31 ((cs.drop 67).take (Try.prog.cellsOf 31)) = some y3 at h3
  rw [c3] at h0; rw [c30] at h1 h2; rw [c31] at h3; rw [c33] at hl
  obtain ⟨who, e0, -, hw⟩ := DataW.trod_int Try.underlying3 h0
  obtain ⟨src, f1, e1⟩ := trod_kinds _ _ _ _ _ _ kkP.kinds h1
  obtain ⟨tgt, f2, e2⟩ := trod_kinds _ _ _ _ _ _ kkP.kinds h2
  have d0 := cut_one e0
  have d1 := cut_at (l := cs) (a := 1) (b := 33) (by omega)
  have d2 := cut_at (l := cs) (a := 34) (b := 33) (by omega)
  have hs : ∃ s sig, (cs.drop 67).take 1 = [s] ∧ ∀ c : Ct, c.sig = sig → SigAt w (Was w) c s := by
    rcases open_ints Try.underlying31 Try.underlying5 (by kernel_rfl) h3 with ⟨hc, _⟩ | ⟨y, l, c, zs, hc, _, hl, hm, hz, hd, hcell, hwz⟩
    · exact ⟨_, [], hc, fun c e => sig_nil' e⟩
    · have hr : IsRow .u8 w (some y) l c zs := .inr ⟨_, rfl, hl, hm, by simpa using hz, hcell, hwz⟩
      obtain ⟨sig, rfl, hlc, hcm, hrd, hb⟩ := hr.bytes
      refine ⟨_, sig, hc, fun c' e => ⟨some y, c, by rw [e], by rw [e]; exact hlc, hcm, by rw [e]; exact hrd, by rw [e]; exact hb, fun b off ea hne => ?_⟩⟩
      rw [e] at hne
      rcases hrd with h | ⟨b', off', ea', hc'⟩
      · exact absurd h hne
      · rw [ea'] at ea; cases ea
        exact lt_of_cell (p := ⟨b, off + 0, none⟩) (hc' 0 (List.length_pos_iff.2 hne))
  obtain ⟨s, sig, es, hsig⟩ := hs
  have d3 := cut_one es
  rw [List.drop_of_length_le (show cs.length ≤ 67 + 1 by omega)] at d3
  refine ⟨who, src, tgt, s, sig, hw, f1, f2, ?_, hsig⟩
  rw [e1] at d1; rw [e2] at d2
  rw [← d3, ← d2, ← d1]
  simpa using d0
where
  sig_nil' {c : Ct} (h : c.sig = []) : SigAt w (Was w) c (.slice none 0 0) := ⟨none, 0, by rw [h]; rfl, by rw [h]; exact Nat.le_refl _, Nat.zero_le _, .inl h, by rw [h]; simp, fun _ _ e => by cases e⟩

theorem signed_of {n : Nat} {cs : List Value} {x : DataW H × List MemPlace} (h : DataW.trod enc Try.prog w 0 (fun _ => true) true n 35 cs = some x) :
    ∃ c : Ct, ∃ s, c.Ok ∧ cs = sc c s ∧ SigAt w (Was w) c s := by
  obtain ⟨xs, m, -, -, hl, hx, hi⟩ := DataW.trod_struct Try.underlying35 h
  have c33 : Try.prog.cellsOf 33 = 68 := by kernel_rfl
  have c28 : Try.prog.cellsOf 28 = 32 := by kernel_rfl
  have c26 : Try.prog.cellsOf 26 = 1 := by kernel_rfl
  have c35 : Try.prog.cellsOf 35 = 101 := by kernel_rfl
  have get : ∀ (i : Nat) (f : Field), (#[{ name := "Vote", type := 33, offset := 0, embedded := false, tag := "", pkgPath := "", byteOffset := 0 },
        { name := "Key", type := 28, offset := 68, embedded := false, tag := "", pkgPath := "", byteOffset := 112 },
        { name := "Stake", type := 26, offset := 100, embedded := false, tag := "", pkgPath := "", byteOffset := 144 }] : Array Field)[i]? = some f →
      ∃ y, DataW.trod enc Try.prog w 0 (fun _ => true) true m f.type ((cs.drop f.offset).take (Try.prog.cellsOf f.type)) = some y := by
    intro i f hf
    have h1 := hi i f hf
    have : i < xs.length := by rw [hx]; exact (Array.getElem?_eq_some_iff.1 hf).1
    rw [List.getElem?_eq_getElem this] at h1
    exact ⟨_, h1⟩
  obtain ⟨y0, h0⟩ := get 0 _ rfl
  obtain ⟨y1, h1⟩ := get 1 _ rfl
  obtain ⟨y2, h2⟩ := get 2 _ rfl
  change DataW.trod enc Try.prog w 0 (fun _ => true) true m 33 ((cs.drop 0).take (Try.prog.cellsOf 33)) = some y0 at h0
  change DataW.trod enc Try.prog w 0 (fun _ => true) true m 28 ((cs.drop 68).take (Try.prog.cellsOf 28)) = some y1 at h1
  change DataW.trod enc Try.prog w 0 (fun _ => true) true m 26 ((cs.drop 100).take (Try.prog.cellsOf 26)) = some y2 at h2
  rw [c33] at h0; rw [c28] at h1; rw [c26] at h2; rw [c35] at hl
  obtain ⟨who, src, tgt, s, sig, hw, f1, f2, e0, hsig⟩ := vote_of h0
  obtain ⟨key, f3, e1⟩ := trod_kinds _ _ _ _ _ _ kkH.kinds h1
  obtain ⟨st, e2, -, hst⟩ := DataW.trod_int Try.underlying26 h2
  simp [Lit.wf] at hst
  rw [show IntKind.u64.min = 0 from rfl, show IntKind.u64.max = 18446744073709551615 from rfl] at hst
  have d0 := cut_at (l := cs) (a := 0) (b := 68) (by omega)
  have d1 := cut_at (l := cs) (a := 68) (b := 32) (by omega)
  have d2 := cut_one e2
  rw [List.drop_of_length_le (show cs.length ≤ 100 + 1 by omega)] at d2
  refine ⟨⟨who, src, tgt, sig, key, st.toNat⟩, s, ⟨hw, f1, f2, f3, by show st.toNat < _; omega⟩, ?_, hsig _ rfl⟩
  rw [e0] at d0
  rw [e1, show 68 + 32 = 100 from rfl, d2] at d1
  rw [show 0 + 68 = 68 from rfl, d1] at d0
  rw [List.drop_zero] at d0
  rw [d0]
  simp only [sc, vc]
  rw [show ((st.toNat : Nat) : Int) = st by omega]

theorem add_of_add' (a : Addr) (i j : Nat) : (a.add i).add j = a.add (i + j) := by
  unfold Addr.add
  by_cases hi : i = 0 <;> by_cases hj : j = 0 <;> simp [hi, hj, Nat.add_assoc]
theorem pick_votes {p : Nat → Ct → Value → Prop} (n : Nat) (h : ∀ i, i < n → ∃ c s, p i c s) : ∃ cs : List Ct, ∃ ss : List Value, cs.length = n ∧ ss.length = n ∧ ∀ (i : Nat) (c : Ct) (s : Value), cs[i]? = some c → ss[i]? = some s → p i c s := by
  induction n with
  | zero => exact ⟨[], [], rfl, rfl, by simp⟩
  | succ n ih =>
    obtain ⟨cs, ss, h1, h2, hp⟩ := ih (fun i hi => h i (by omega))
    obtain ⟨c, s, hc⟩ := h n (by omega)
    refine ⟨cs ++ [c], ss ++ [s], by simp [h1], by simp [h2], fun i x y hx hy => ?_⟩
    rcases Nat.lt_or_ge i n with hi | hi
    · rw [List.getElem?_append_left (by omega)] at hx hy; exact hp i x y hx hy
    · have hin : i = n := by
        have := (List.getElem?_eq_some_iff.1 hx).1
        simp at this; omega
      subst hin
      rw [List.getElem?_append_right (by omega)] at hx hy
      simp [h1] at hx; simp [h2] at hy
      subst hx; subst hy; exact hc
theorem votes_flat {R : Nat → Prop} : ∀ (cs : List Ct) (ss : List Value), cs.length = ss.length → (∀ (i : Nat) (c : Ct) (s : Value), cs[i]? = some c → ss[i]? = some s → SigAt w R c s) → Votes w R cs (List.zipWith sc cs ss).flatten
  | [], [], _, _ => rfl
  | c :: cs, s :: ss, h, hs => ⟨s, _, rfl, hs 0 c s rfl rfl, votes_flat cs ss (by simpa using h) (fun i x y hx hy => hs (i + 1) x y (by simpa using hx) (by simpa using hy))⟩
  | [], _ :: _, h, _ => by simp at h
  | _ :: _, [], h, _ => by simp at h
theorem flat_get {L : List (List Value)} {m : Nat} (hm : ∀ l ∈ L, l.length = m) {j : Nat} {v : Value} (h : L.flatten[j]? = some v) : ∃ i k l, j = i * m + k ∧ k < m ∧ L[i]? = some l ∧ l[k]? = some v := by
  induction L generalizing j with
  | nil => simp at h
  | cons l L ih =>
    have hl := hm l (by simp)
    rw [List.flatten_cons] at h
    rcases Nat.lt_or_ge j m with hj | hj
    · rw [List.getElem?_append_left (by omega)] at h
      exact ⟨0, j, l, by omega, hj, rfl, h⟩
    · rw [List.getElem?_append_right (by omega), hl] at h
      obtain ⟨i, k, l', h1, h2, h3, h4⟩ := ih (fun l hl => hm l (by simp [hl])) h
      exact ⟨i + 1, k, l', by rw [Nat.succ_mul]; omega, h2, by simpa using h3, h4⟩

theorem list_of {v : Value} {d : DataW H} {p : List MemPlace} (kv : Value.okWide Try.prog w .any base 22 v) (k : DataW.Trod enc Try.prog w 0 (fun _ => true) true 22 v d p) :
    ∃ (a : Option Addr) (c : Nat) (cs : List Ct), v = .slice a cs.length c ∧ ListAt w (Was w) a cs.length c cs ∧ ∀ c ∈ cs, c.Ok := by
  obtain ⟨a, n, c, rfl⟩ := okWide_slice Try.underlying22 kv
  obtain ⟨fuel, hf⟩ := k
  rcases DataW.trod_slice Try.underlying22 hf with ⟨h, -⟩ | ⟨x, len, cap, elems, rest, m, -, hcs, hx, -, hl, hm, hlen, hel, -, -⟩
  · simp [Value.cells] at h
    obtain ⟨rfl, rfl, rfl⟩ := h
    exact ⟨none, 0, [], rfl, ⟨rfl, Nat.le_refl _, Nat.zero_le _, fun _ h => h, [], .inl rfl, rfl, fun _ _ e => by cases e⟩, by simp⟩
  · simp [Value.cells] at hcs
    obtain ⟨rfl, rfl, rfl⟩ := hcs
    have h1 : Try.prog.cellsOf 35 = 101 := by kernel_rfl
    rw [h1] at hel
    have each : ∀ i, i < n → ∃ c : Ct, ∃ s, c.Ok ∧ SigAt w (Was w) c s ∧ ∀ j u, (sc c s)[j]? = some u → w.cell? (x.add (i * 101 + j)) = some u := by
      intro i hi
      have h := hel i hi
      rw [List.getElem?_eq_getElem (by omega)] at h
      obtain ⟨cs, hcs, ht⟩ := Option.bind_eq_some_iff.1 h
      obtain ⟨c, s, hc, rfl, hs⟩ := signed_of ht
      obtain ⟨-, hlen', hget⟩ := World.cells?_some hcs
      refine ⟨c, s, hc, hs, fun j u hu => ?_⟩
      have hj := (List.getElem?_eq_some_iff.1 hu).1
      rw [← add_of_add', hget j (by omega)]
      exact hu
    obtain ⟨cs, ss, e1, e2, hp⟩ := pick_votes n each
    have hok : ∀ c ∈ cs, c.Ok := fun c hc => by
      obtain ⟨i, hi, rfl⟩ := List.getElem_of_mem hc
      exact (hp i _ _ (List.getElem?_eq_getElem hi) (List.getElem?_eq_getElem (by omega))).1
    subst e1
    have hvotes := votes_flat (w := w) (R := Was w) cs ss e2.symm (fun i c s h1 h2 => (hp i c s h1 h2).2.1)
    have hcells : ∀ j u, (List.zipWith sc cs ss).flatten[j]? = some u → w.cell? (x.add j) = some u := by
      intro j u hu
      obtain ⟨i, k, l, rfl, hk, hl, hkl⟩ := flat_get (m := 101) (fun l hl => by
        obtain ⟨i, hi, rfl⟩ := List.getElem_of_mem hl
        rw [List.getElem_zipWith]
        exact sc_len (hok _ (List.getElem_mem _)) _) hu
      obtain ⟨hi, hl⟩ := List.getElem?_eq_some_iff.1 hl
      rw [List.getElem_zipWith] at hl
      rw [List.length_zipWith] at hi
      subst hl
      exact (hp i _ _ (List.getElem?_eq_getElem (by omega)) (List.getElem?_eq_getElem (by omega))).2.2 k u hkl
    refine ⟨some x, c, cs, rfl, ⟨rfl, hl, hm, fun _ h => h, _, ?_, hvotes, ?_⟩, hok⟩
    · by_cases h0 : (List.zipWith sc cs ss).flatten = []
      · exact .inl h0
      · obtain ⟨v, hv⟩ : ∃ v, (List.zipWith sc cs ss).flatten[0]? = some v := ⟨_, List.getElem?_eq_getElem (List.length_pos_iff.2 h0)⟩
        obtain ⟨b, off, sp⟩ := x
        have hs : sp = none := spot_of_cell (by simpa [Addr.add] using hcells 0 v hv)
        subst hs
        refine .inr ⟨b, off, rfl, fun i v hi => ?_⟩
        have := hcells i v hi
        rwa [Addr.add_lit] at this
    · rintro b off e hne
      cases e
      obtain ⟨v, hv⟩ : ∃ v, (List.zipWith sc cs ss).flatten[0]? = some v := ⟨_, List.getElem?_eq_getElem (List.length_pos_iff.2 hne)⟩
      have := hcells 0 v hv
      rw [Addr.add_lit] at this
      exact lt_of_cell this
theorem hash_of {v : Value} {d : DataW H} {p : List MemPlace} (kv : Value.okWide Try.prog w .any base 28 v) (k : DataW.Trod enc Try.prog w 0 (fun _ => true) true 28 v d p) : ∃ l, Fits HK l ∧ v = Lk.kv HK l := by
  unfold Value.okWide at kv
  rw [Try.underlying28] at kv
  obtain ⟨cs, rfl, hsz, -⟩ := kv
  obtain ⟨fuel, hf⟩ := k
  obtain ⟨l, h1, h2⟩ := trod_kinds _ _ _ _ _ _ kkH.kinds hf
  refine ⟨l, h1, ?_⟩
  have : cs.toList = valsK HK l := h2
  rw [Lk.kv, ← this]
end Go.Proofs.Ytffnaigkdocpmac
