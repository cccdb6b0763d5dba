/- A loss of power: what becomes of the directory and of the files. -/
import Derived.Test.YtgpecnihjjnkeaaIterW
set_option linter.unusedVariables false
set_option linter.unusedSimpArgs false
namespace Go.Vfs
open Go.Lk Go.RowKit
variable {w w' : World} {R R' S F F' : Nat → Prop} {d b : Nat} {x : Fl} {D : Dk} {fc : Nat → Fl} {φ : Nat → Option Nat}
theorem flook_map (l : List (ByteArray × Nat)) (s : ByteArray) : flook (l.map (mv φ)) s = (flook l s).map fun b => (φ b).getD 0 := by
  unfold flook
  induction l with
  | nil => rfl
  | cons p l ih =>
    rw [List.map_cons, List.find?_cons, List.find?_cons]
    by_cases h : p.1 = s
    · simp [h, mv]
    · simp only [show (mv φ p).1 = p.1 from rfl, h, decide_false]; exact ih
theorem fdel_map (l : List (ByteArray × Nat)) (s : ByteArray) : fdel (l.map (mv φ)) s = (fdel l s).map (mv φ) := by
  unfold fdel
  rw [List.filter_map]; rfl
theorem fput_map (l : List (ByteArray × Nat)) (s : ByteArray) (b : Nat) : fput (l.map (mv φ)) s ((φ b).getD 0) = (fput l s b).map (mv φ) := by
  unfold fput
  rw [List.any_map, show ((fun p : ByteArray × Nat => decide (p.1 = s)) ∘ mv φ) = fun p => decide (p.1 = s) from rfl]
  split
  · rw [List.map_map, List.map_map]
    refine List.map_congr_left fun p hp => ?_
    simp only [Function.comp]
    by_cases h : p.1 = s
    · simp [h, mv]
    · simp [h, mv]
  · rw [List.map_append]; rfl
theorem againL_mv (L : List (ByteArray × Nat)) {s : Stp} (h : GoodS s) : againL (L.map (mv φ)) (ms φ s) = (againL L s).map (mv φ) := by
  unfold againL
  have e1 : (ms φ s).act = s.act := rfl
  have e2 : (ms φ s).name = s.name := rfl
  have e3 : (ms φ s).to = s.to := rfl
  rw [e1, e2, e3, flook_map]
  rcases h with ⟨h1, -, b, h3⟩ | ⟨h1, -, -, h3⟩ | ⟨h1, -, h3⟩
  · rw [if_pos h1, if_pos h1]
    have : (ms φ s).f.getD 0 = (φ b).getD 0 := by simp [ms, h3]
    rw [this, h3, Option.isSome_map, fput_map]
    split <;> rfl
  · have a0 : ¬ s.act = 0 := by omega
    rw [if_neg a0, if_neg a0, if_pos h1, if_pos h1]
    cases flook L s.name with
    | none => rfl
    | some b => simp only [Option.map_some, ren1]; rw [fdel_map, fput_map]
  · have a0 : ¬ s.act = 0 := by omega
    have a1 : ¬ s.act = 1 := by omega
    rw [if_neg a0, if_neg a0, if_neg a1, if_neg a1, fdel_map]
/-- The changes that last, one by one. -/
def replay : List Bool → List Stp → List (ByteArray × Nat) → List (ByteArray × Nat)
  | b :: bs, s :: ss, L => replay bs ss (if b then againL L s else L)
  | _, _, L => L
theorem replay_nil (ss : List Stp) (L : List (ByteArray × Nat)) : replay [] ss L = L := by cases ss <;> rfl
theorem replay_snoc (b : Bool) : ∀ (bs : List Bool) (ss : List Stp) (L : List (ByteArray × Nat)) (s : Stp), ss[bs.length]? = some s → replay (bs ++ [b]) ss L = if b then againL (replay bs ss L) s else replay bs ss L
  | [], ss, L, s, h => by
    cases ss with
    | nil => cases h
    | cons y ss => cases h; rw [List.nil_append, replay_nil]; show replay [] ss _ = _; exact replay_nil _ _
  | c :: bs, ss, L, s, h => by
    cases ss with
    | nil => cases h
    | cons y ss => exact replay_snoc b bs ss _ s (by simpa using h)
theorem replay_mv : ∀ (bs : List Bool) (ss : List Stp) (L : List (ByteArray × Nat)), (∀ s ∈ ss, GoodS s) → replay bs (ss.map (ms φ)) (L.map (mv φ)) = (replay bs ss L).map (mv φ)
  | [], ss, L, _ => by rw [replay_nil, replay_nil]
  | b :: bs, [], L, _ => rfl
  | b :: bs, s :: ss, L, h => by
    show replay bs (ss.map (ms φ)) (if b then againL (L.map (mv φ)) (ms φ s) else L.map (mv φ)) = (replay bs ss (if b then againL L s else L)).map (mv φ)
    rw [againL_mv L (h s (by simp)), ← replay_mv bs ss _ (fun s' hs' => h s' (by simp [hs']))]
    cases b <;> rfl
theorem againL_mem {L : List (ByteArray × Nat)} {s : Stp} (hs : GoodS s) {p : ByteArray × Nat} (hp : p ∈ againL L s) : ((∃ q ∈ L, q.2 = p.2) ∨ s.f = some p.2) ∧ (p ∈ L ∨ mnB p.1 = true) := by
  unfold againL at hp
  rcases hs with ⟨h1, h2, b, h3⟩ | ⟨h1, h2, h4, h3⟩ | ⟨h1, h2, h3⟩
  · rw [if_pos h1, h3] at hp
    split at hp
    · exact ⟨.inl ⟨p, hp, rfl⟩, .inl hp⟩
    · rcases mem_fput hp with h | rfl
      · exact ⟨.inl ⟨p, h, rfl⟩, .inl h⟩
      · exact ⟨.inr (by rw [h3]; rfl), .inr h2⟩
  · rw [if_neg (by omega), if_pos h1] at hp
    cases e : flook L s.name with
    | none => rw [e] at hp; exact ⟨.inl ⟨p, hp, rfl⟩, .inl hp⟩
    | some b =>
      rw [e] at hp
      rcases mem_fput hp with h | rfl
      · exact ⟨.inl ⟨p, (List.mem_filter.1 h).1, rfl⟩, .inl (List.mem_filter.1 h).1⟩
      · exact ⟨.inl ⟨_, flook_some e, rfl⟩, .inr h4⟩
  · rw [if_neg (by omega), if_neg (by omega)] at hp
    exact ⟨.inl ⟨p, (List.mem_filter.1 hp).1, rfl⟩, .inl (List.mem_filter.1 hp).1⟩
theorem replay_mem : ∀ (bs : List Bool) (ss : List Stp) (L : List (ByteArray × Nat)), (∀ s ∈ ss, GoodS s) → ∀ p ∈ replay bs ss L, ((∃ q ∈ L, q.2 = p.2) ∨ ∃ s ∈ ss, s.f = some p.2) ∧ (p ∈ L ∨ mnB p.1 = true)
  | [], ss, L, _, p, hp => by rw [replay_nil] at hp; exact ⟨.inl ⟨p, hp, rfl⟩, .inl hp⟩
  | b :: bs, [], L, _, p, hp => ⟨.inl ⟨p, hp, rfl⟩, .inl hp⟩
  | b :: bs, s :: ss, L, h, p, hp => by
    have hs := h s (by simp)
    obtain ⟨h1, h2⟩ := replay_mem bs ss _ (fun s' hs' => h s' (by simp [hs'])) p hp
    cases b with
    | false => exact ⟨h1.imp id (fun ⟨s', hs', e⟩ => ⟨s', by simp [hs'], e⟩), h2⟩
    | true =>
      refine ⟨?_, ?_⟩
      · rcases h1 with ⟨q, hq, e⟩ | ⟨s', hs', e⟩
        · rcases (againL_mem hs hq).1 with ⟨q', hq', e'⟩ | e'
          · exact .inl ⟨q', hq', e'.trans e⟩
          · exact .inr ⟨s, by simp, e'.trans (by rw [e])⟩
        · exact .inr ⟨s', by simp [hs'], e⟩
      · rcases h2 with h2 | h2
        · exact (againL_mem hs h2).2
        · exact .inr h2
theorem againL_len {L : List (ByteArray × Nat)} (s : Stp) : (againL L s).length ≤ L.length + 1 := by
  have hf : ∀ (l : List (ByteArray × Nat)) (t : ByteArray) (b : Nat), (fput l t b).length ≤ l.length + 1 := fun l t b => by
    unfold fput; split
    · rw [List.length_map]; omega
    · rw [List.length_append]; simp
  have hd : ∀ (l : List (ByteArray × Nat)) (t : ByteArray), (fdel l t).length ≤ l.length := fun l t => List.length_filter_le _ _
  unfold againL
  split
  · split
    · omega
    · exact hf _ _ _
  · split
    · cases flook L s.name with
      | none => simp [ren1]
      | some b => simp only [ren1]; have h1 := hf (fdel L s.name) s.to b; have h2 := hd L s.name; omega
    · have := hd L s.name; omega
theorem replay_len : ∀ (bs : List Bool) (ss : List Stp) (L : List (ByteArray × Nat)), (replay bs ss L).length ≤ L.length + ss.length
  | [], ss, L => by rw [replay_nil]; omega
  | b :: bs, [], L => Nat.le_refl _
  | b :: bs, s :: ss, L => by
    have h1 := replay_len bs ss (if b then againL L s else L)
    have h2 := againL_len (L := L) s
    show (replay bs ss (if b then againL L s else L)).length ≤ _
    rw [List.length_cons]
    cases b
    · simp only [Bool.false_eq_true, if_false] at h1 ⊢; omega
    · simp only [if_true] at h1 ⊢; omega
/-- A disk that has its power anew. -/
def crashD (D : Dk) (X : List (ByteArray × Nat)) : Dk := { D with files := X, lasting := X, steps := [], fuse := -1, fn := 0, fe := 0, dead := false, changes := 0 }
theorem DiskAt.crashed (h : DiskAt w d F R D fc) {m1 m2 g : Nat} {sv : Value} {X : List (ByteArray × Nat)} (hd : w.heap[d]? = some (.cells (dcs m1 m2 sv D) 61 (0, 0))) (hb : w'.heap[d]? = some (.cells (dcs g m2 (.slice none 0 0) (crashD D X)) 61 (0, 0)))
    (hk : Keeps (fun k => k = d ∨ k = m2) w w') (hg : w.heap.size ≤ g) (s1 : SMap w' g (vals X)) (s2 : SMap w' m2 (vals X)) (hr : ∀ p ∈ X, Ref D p.2) (hn : ∀ p ∈ X, mnB p.1 = true) (hl : X.length ≤ 1000000) :
    ∃ F', DiskAt w' d F' R (crashD D X) fc ∧ (∀ k, F' k → F k ∨ k = g) := by
  have H := h
  obtain ⟨⟨n1, n2, nv, h3, h4, h5, h6, h7, h8, h9⟩, g1, g2, g3, g3b, g4, g5, g6⟩ := h
  rw [hd] at h3
  have e : m1 = n1 ∧ m2 = n2 ∧ sv = nv := by simpa [dcs] using h3
  obtain ⟨rfl, rfl, rfl⟩ := e
  have hm2 := h5.lt
  have hRS : ∀ k, R k → ¬ (k = d ∨ k = m2) := fun k hr e => e.elim (fun e => g4 k (e ▸ g1) hr) (fun e => g4 k (e ▸ h9) hr)
  refine ⟨(fun k => F k ∨ k = g), ⟨⟨g, m2, _, hb, s1, s2, by omega, RowS.nil _ _ _ _ _, .inr rfl, .inl h9⟩, .inl g1, ?_, ?_, ?_, ?_, fun k hk' => hk'.elim (fun h => Nat.lt_of_lt_of_le (g5 k h) hk.size) (fun e => e ▸ s1.lt), fun k hk' => Nat.lt_of_lt_of_le (g6 k hk') hk.size⟩, fun k hk => hk⟩
  · intro b hb
    have hb' : Ref D b := by
      rcases hb with ⟨p, hp, rfl⟩ | ⟨p, hp, rfl⟩ | ⟨s, hs, -⟩
      · exact hr p hp
      · exact hr p hp
      · cases hs
    have hbS : ¬ (b = d ∨ b = m2) := fun e => e.elim (H.ne_file hb') (fun e => by obtain ⟨es, cl, q, -⟩ := h5; exact (g2 b hb').1.isT.map q e)
    exact ⟨(g2 b hb').1.keeps hk hbS hRS, .inl (g2 b hb').2⟩
  · obtain ⟨z1, z2, z3, z4, z5, z6, z7, z8⟩ := g3
    exact ⟨z1, ⟨Int.le_refl _, by simp [crashD]⟩, by simp [crashD], by simp [crashD], .inl rfl, hl, hl, by simp [crashD]⟩
  · exact ⟨hn, hn, fun s hs => by cases hs⟩
  · rintro k (hk | hk) hr
    · exact g4 k hk hr
    · have := g6 k hr; omega
/-- Of a file its beginning is left, with all that lasted. -/
def Tr (x y : Fl) : Prop := y = x ∨ ∃ n, x.lasts ≤ n ∧ n ≤ x.b.length ∧ y = ⟨x.b.take n, n⟩
theorem Tr.full {x y : Fl} (h : Tr x y) (hl : y.lasts = y.b.length) : ∃ n, x.lasts ≤ n ∧ n ≤ x.b.length ∧ y = ⟨x.b.take n, n⟩ := by
  rcases h with rfl | h
  · exact ⟨y.lasts, Nat.le_refl _, by omega, by rw [hl, List.take_length]; cases y; simp_all⟩
  · exact h
theorem Tr.step {x y : Fl} (h : Tr x y) {n : Nat} (h1 : y.lasts ≤ n) (h2 : n ≤ y.b.length) : Tr x ⟨y.b.take n, n⟩ := by
  rcases h with rfl | ⟨m, h3, h4, rfl⟩
  · exact .inr ⟨n, h1, h2, rfl⟩
  · simp only [List.length_take] at h1 h2
    have : n = m := by omega
    subst this
    exact .inr ⟨n, h3, h4, by simp [List.take_take]⟩
theorem flook_in {l : List (ByteArray × Nat)} {s : ByteArray} (h : s ∈ l.map Prod.fst) : ∃ b, flook l s = some b := by
  obtain ⟨p, hp, rfl⟩ := List.mem_map.1 h
  cases e : flook l p.1 with
  | none => exact absurd rfl (flook_none e p hp)
  | some b => exact ⟨b, rfl⟩
/-- Which changes last. -/
def bsOf (zs : List Int) (k : Nat) : List Bool := (List.range k).map fun i => decide (pkn zs i % 2 = 1)
theorem bsOf_succ (zs : List Int) (k : Nat) : bsOf zs (k + 1) = bsOf zs k ++ [decide (pkn zs k % 2 = 1)] := by
  unfold bsOf
  rw [List.range_succ, List.map_append]; rfl
/-- What is kept of a file's loose bytes; the next pick. -/
def tr1 (zs : List Int) (X : List (ByteArray × Nat)) (st : (Nat → Fl) × Nat) (s : ByteArray) : (Nat → Fl) × Nat :=
  match flook X s with
  | none => st
  | some b => if (st.1 b).lasts < (st.1 b).b.length then
      (setf st.1 b ⟨(st.1 b).b.take ((st.1 b).lasts + pkn zs st.2 % ((st.1 b).b.length - (st.1 b).lasts + 1)), (st.1 b).lasts + pkn zs st.2 % ((st.1 b).b.length - (st.1 b).lasts + 1)⟩, st.2 + 1)
    else st
theorem tr1_some {zs : List Int} {X : List (ByteArray × Nat)} {fcr : Nat → Fl} {j : Nat} {s : ByteArray} {b : Nat} (h : flook X s = some b) : tr1 zs X (fcr, j) s = if (fcr b).lasts < (fcr b).b.length then
      (setf fcr b ⟨(fcr b).b.take ((fcr b).lasts + pkn zs j % ((fcr b).b.length - (fcr b).lasts + 1)), (fcr b).lasts + pkn zs j % ((fcr b).b.length - (fcr b).lasts + 1)⟩, j + 1) else (fcr, j) := by
  unfold tr1; rw [h]
/-- What Crash comes to. -/
structure CrashR (zs : List Int) (D : Dk) (fc : Nat → Fl) (D' : Dk) (fc' : Nat → Fl) (φ : Nat → Option Nat) (l2 : List (ByteArray × Nat)) (bs : List Bool) : Prop where
  p2 : l2.Perm D.lasting
  len : bs.length = D.steps.length
  bsEq : bs = bsOf zs D.steps.length
  tr : ∃ (nms : List ByteArray) (fc1 : Nat → Fl), nms.Perm (D'.files.map Prod.fst) ∧ (∀ b c, φ b = some c → fc1 c = fc b) ∧ fc' = (nms.foldl (tr1 zs D'.files) (fc1, D.steps.length)).1
  inj : ∀ b b' c, φ b = some c → φ b' = some c → b = b'
  all : ∀ b, Ref D b → φ b ≠ none
  eq : D' = crashD D ((replay bs D.steps l2).map (mv φ))
  fc : ∀ p ∈ replay bs D.steps l2, ∃ n, (fc p.2).lasts ≤ n ∧ n ≤ (fc p.2).b.length ∧ fc' ((φ p.2).getD 0) = ⟨(fc p.2).b.take n, n⟩
end Go.Vfs
