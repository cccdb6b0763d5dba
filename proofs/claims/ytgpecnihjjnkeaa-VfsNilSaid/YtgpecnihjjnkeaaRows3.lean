/- Slices with a row of their own, or full; pushes onto them; sets of blocks. -/
import Derived.Test.YtgpecnihjjnkeaaVw
import Derived.Maps.AppendAt
namespace Go.Lk
open Go.RowKit
set_option linter.unusedVariables false
variable {P : Program} {S F R F' R' : Nat → Prop} {w w' w2 : World}

/-- F, and what is new from w to w'. -/
def Up (F : Nat → Prop) (w w' : World) : Nat → Prop := fun k => F k ∨ (w.heap.size ≤ k ∧ k < w'.heap.size)
theorem Up.old {k : Nat} (h : F k) : Up F w w' k := .inl h
theorem Up.new {k : Nat} {o : Obj} (h : NewAt w w' k o) : Up F w w' k := .inr ⟨h.ge, h.lt⟩
theorem Up.mono (h : ∀ k, F k → F' k) {k : Nat} (hk : Up F w w' k) : Up F' w w' k := hk.imp (h k) id
theorem Up.trans (h1 : w.heap.size ≤ w'.heap.size) (h2 : w'.heap.size ≤ w2.heap.size) {k : Nat} (hk : Up (Up F w w') w' w2 k) : Up F w w2 k := by
  rcases hk with (h | ⟨a, b⟩) | ⟨a, b⟩
  · exact .inl h
  · exact .inr ⟨a, by omega⟩
  · exact .inr ⟨by omega, b⟩
theorem Up.step (h1 : w.heap.size ≤ w'.heap.size) (h2 : w'.heap.size ≤ w2.heap.size) {k : Nat} (hk : Up F w' w2 k) : Up F w w2 k := hk.imp id fun ⟨a, b⟩ => ⟨by omega, b⟩
theorem Up.wide (h2 : w'.heap.size ≤ w2.heap.size) {k : Nat} (hk : Up F w w' k) : Up F w w2 k := hk.imp id fun ⟨a, b⟩ => ⟨a, by omega⟩
theorem Up.lt (h : ∀ k, F k → k < w.heap.size) (h1 : w.heap.size ≤ w'.heap.size) {k : Nat} (hk : Up F w w' k) : k < w'.heap.size := by
  rcases hk with h2 | h2
  · have := h k h2; omega
  · exact h2.2

/-- Block k is a row of elements of type e. -/
def IsT (w : World) (e : TypeId) (k : Nat) : Prop := ∃ cur fr, w.heap[k]? = some (.cells cur e fr)
theorem IsT.keeps {e : TypeId} {k : Nat} (h : IsT w e k) (hk : Keeps S w w') (hn : ¬ S k) : IsT w' e k := by obtain ⟨cur, fr, h⟩ := h; exact ⟨cur, fr, hk.at h hn⟩
theorem IsT.ne {e e' : TypeId} {k k' : Nat} (h : IsT w e k) (h' : IsT w e' k') (hne : e ≠ e') : k ≠ k' := by
  rintro rfl
  obtain ⟨c, f, h⟩ := h; obtain ⟨c', f', h'⟩ := h'
  rw [h] at h'
  cases h'
  exact hne rfl
theorem IsT.map {e : TypeId} {k k' : Nat} {es : Array MapEntry} {cl : Nat} (h : IsT w e k) (h' : w.heap[k']? = some (.map es cl)) : k ≠ k' := by
  rintro rfl
  obtain ⟨c, f, h⟩ := h
  rw [h] at h'
  cases h'
/-- A slice of n elements (of 'size' cells) holds the cells xs; its row lies in F or R; it is full, or the row is one's own (in F). -/
def RowS (w : World) (F R : Nat → Prop) (e : TypeId) (size : Nat) (v : Value) (n : Nat) (xs : List Value) : Prop :=
  xs.length = n * size ∧ (∀ u ∈ xs, u.oneCell' = true) ∧ ∃ a c, v = .slice a n c ∧ n ≤ c ∧ c ≤ maxLen ∧ Has w a xs ∧ (∀ b off, a = some ⟨b, off, none⟩ → xs ≠ [] → (F b ∨ R b) ∧ IsT w e b) ∧
    (c = n ∨ (w.ownsRow 0 e size v n xs ∧ ∀ g, v.ownBlock = some g → F g))
theorem RowS.mono {e : TypeId} {size n : Nat} {v : Value} {xs : List Value} (h : RowS w F R e size v n xs) (hF : ∀ k, F k → F' k) (hR : ∀ k, R k → R' k) : RowS w F' R' e size v n xs := by
  obtain ⟨h1, h2, a, c, h3, h4, h5, h6, h7, h8⟩ := h
  exact ⟨h1, h2, a, c, h3, h4, h5, h6, fun b off e hz => ⟨(h7 b off e hz).1.imp (hF b) (hR b), (h7 b off e hz).2⟩, h8.imp id fun ⟨x, y⟩ => ⟨x, fun g hg => hF g (y g hg)⟩⟩
theorem RowS.keeps {e : TypeId} {size n : Nat} {v : Value} {xs : List Value} (h : RowS w F R e size v n xs) (hk : Keeps S w w') (hn : ∀ k, (F k ∨ R k) → IsT w e k → ¬ S k) : RowS w' F R e size v n xs := by
  obtain ⟨h1, h2, a, c, h3, h4, h5, h6, h7, h8⟩ := h
  refine ⟨h1, h2, a, c, h3, h4, h5, h6.keeps hk (fun b off e hz => hn b (h7 b off e hz).1 (h7 b off e hz).2), fun b off e hz => ⟨(h7 b off e hz).1, (h7 b off e hz).2.keeps hk (hn b (h7 b off e hz).1 (h7 b off e hz).2)⟩, h8.imp id fun ⟨x, y⟩ => ⟨?_, y⟩⟩
  obtain ⟨x1, x2⟩ := x
  refine ⟨x1, ?_⟩
  rcases x2 with x2 | ⟨g, cap, cur, hv, hg, hh, r⟩
  · exact .inl x2
  · exact .inr ⟨g, cap, cur, hv, hg, (hk.block g (lt_of_block hh) (hn g (.inl (y g (by rw [hv]; rfl))) ⟨_, _, hh⟩)).trans hh, r⟩
theorem RowS.nil (w : World) (F R : Nat → Prop) (e : TypeId) (size : Nat) : RowS w F R e size (.slice none 0 0) 0 [] :=
  ⟨by simp, by simp, none, 0, rfl, Nat.le_refl _, Nat.zero_le _, .inl rfl, (fun _ _ h => by cases h), .inl rfl⟩

theorem owns_has {base n e size : Nat} {v : Value} {xs : List Value} (h : w.ownsRow base e size v n xs) :
    ∃ a c, v = .slice a n c ∧ n ≤ c ∧ c ≤ maxLen ∧ Has w a xs ∧ (∀ b off, a = some ⟨b, off, none⟩ → v.ownBlock = some b ∧ b < w.heap.size ∧ base ≤ b ∧ IsT w e b) := by
  obtain ⟨h1, h2⟩ := h
  rcases h2 with ⟨rfl, h2⟩ | ⟨g, cap, cur, rfl, hbg, hg, hnc, hcm, hcs, htake⟩
  · subst h2
    exact ⟨none, 0, rfl, Nat.le_refl _, Nat.zero_le _, .inl (List.eq_nil_of_length_eq_zero (by simpa using h1)), fun _ _ h => by cases h⟩
  · refine ⟨_, cap, rfl, hnc, hcm, .inr ⟨g, 0, rfl, fun i v hv => ?_⟩, fun b off h => by cases h; exact ⟨rfl, lt_of_block hg, hbg, _, _, hg⟩⟩
    rw [Nat.zero_add, cell_of_block hg, ← Array.getElem?_toList]
    rw [← htake] at hv
    rw [List.getElem?_take] at hv
    split at hv
    · exact hv
    · cases hv

section
variable {t e : TypeId} {size bytes : Nat} {z : Value}
theorem run_app_at (ty : TypeId) (E : ElemT P t e size bytes z) {v : Value} {ad : Option Addr} {m c : Nat} (base n : Nat) (xs : List Value) (news : List Value) (hown : w.ownsRow base e size v n xs)
    (hsrc : Has w ad news) (hl : news.length = m * size) (h1 : ∀ u ∈ news, u.oneCell' = true)
    (h63 : n + m ≤ maxLen) (hbytes : (n + m) * bytes ≤ 140737488355328) (hbase : base ≤ w.heap.size) :
    ∃ v' w', (Builtin.append_ #[t, t] ty #[v, .slice ad m c]).run P w = .ok v' w' ∧ w'.ownsRow base e size v' (n + m) (xs ++ news) ∧ w.grownBy w' v.ownBlock ∧ (v'.ownBlock = v.ownBlock ∨ v'.ownBlock = some w.heap.size) := by
  rcases ad with _ | ⟨b, off, sp⟩
  · obtain ⟨v', w', h2, h3, h4, h5⟩ := run_app (c := c) ty E base n xs news hown hsrc hl h1 h63 hbytes hbase
    have hnews : news = [] := by rcases hsrc with h | ⟨_, _, h, _⟩; exact h; cases h
    subst hnews
    have hm : m = 0 := by
      rcases Nat.eq_zero_or_pos m with h | h
      · exact h
      · have := Nat.mul_pos h E.pos; simp at hl; omega
    subst hm
    obtain ⟨i, hi, h6⟩ := Option.map_eq_some_iff.1 E.hi
    have key : (Builtin.append_ #[t, t] ty #[v, .slice none 0 c]).run P w = .ok v w := by
      rcases hown.2 with ⟨rfl, rfl⟩ | ⟨g, cap, cur, rfl, hbg, hg, hnc, hcm, hcs, htake⟩
      · simp [Builtin.append_, run_underlying E.ht, sizeOf, typeInfo, hi, Builtin.lenOf, Builtin.firstCells]
      · have := run_append_room_src (P := P) w t t ty e i E.ht hi g 0 n cap (.slice none 0 c) 0 [] (Src.ofNil w E.ht c) (by omega) (fun _ h => by cases h) (fun _ h => by cases h)
        rw [this]; rfl
    rw [key] at h2
    cases h2
    exact ⟨v, w, key, h3, h4, .inl rfl⟩
  · obtain ⟨i, hi, h4⟩ := Option.map_eq_some_iff.1 E.hi
    simp only [Prod.mk.injEq] at h4
    obtain ⟨hz, hsz, hby⟩ := h4
    obtain ⟨v', w', h2, h3, h5, -, h6⟩ := run_append_own_at w base t ty e i z size bytes E.ht hi hz hsz hby E.hz E.pos v n xs hown ⟨b, off, sp⟩ m c news hl (by
      intro j u hj
      rcases hsrc with rfl | ⟨b', off', he, hh⟩
      · simp at hj
      · cases he; rw [Addr.add_lit]; exact hh j u hj) h1 h63 hbytes hbase
    exact ⟨v', w', h2, h3, h5, h6⟩

/-- A push: whatever room there is. -/
theorem run_push (ty : TypeId) (E : ElemT P t e size bytes z) {v : Value} {ad : Option Addr} {m c2 n : Nat} {xs news : List Value} (hv : RowS w F R e size v n xs)
    (hsrc : Has w ad news) (hl : news.length = m * size) (h1 : ∀ u ∈ news, u.oneCell' = true) (hm : 0 < m)
    (h63 : n + m ≤ maxLen) (hbytes : (n + m) * bytes ≤ 140737488355328) :
    ∃ v' w' S, (Builtin.append_ #[t, t] ty #[v, .slice ad m c2]).run P w = .ok v' w' ∧ RowS w' (Up F w w') R e size v' (n + m) (xs ++ news) ∧ Keeps S w w' ∧ ∀ k, S k → F k ∧ IsT w e k := by
  obtain ⟨k1, k2, a, c, rfl, k4, k5, k6, k7, k8⟩ := hv
  have hone : ∀ u ∈ xs ++ news, u.oneCell' = true := fun u hu => (List.mem_append.1 hu).elim (k2 u) (h1 u)
  have spot : ∀ {w : World} {base n : Nat} {b off : Nat} {sp : Option Nat} {c' : Nat} {ys : List Value}, w.ownsRow base e size (.slice (some ⟨b, off, sp⟩) n c') n ys → sp = none := by
    intro w base n b off sp c' ys h
    rcases h.2 with ⟨h, _⟩ | ⟨_, _, _, h, _⟩
    · cases h
    · cases h; rfl
  rcases k8 with rfl | ⟨x, y⟩
  · obtain ⟨v', w', h2, h3, h4⟩ := run_grow (c := c) (c2 := c2) ty E c xs news k6 k1 hsrc hl h1 (by omega) h63 hbytes
    obtain ⟨a', c', rfl, j1, j2, j3, j4⟩ := owns_has h3
    refine ⟨_, w', Nb, h2, ⟨h3.1, hone, a', c', rfl, j1, j2, j3, fun b off e _ => ⟨.inl (.inr ⟨(j4 b off e).2.2.1, (j4 b off e).2.1⟩), (j4 b off e).2.2.2⟩, .inr ⟨owns_mono h3 (Nat.zero_le _), fun g hg => ?_⟩⟩, (Keeps.refl Nb w).grown h4 (fun k h => by cases h), fun k h => h.elim⟩
    rcases a' with _ | ⟨b, off, sp⟩
    · cases hg
    · cases hg
      have hs := spot h3
      subst hs
      exact .inr ⟨(j4 b off rfl).2.2.1, (j4 b off rfl).2.1⟩
  · obtain ⟨v', w', h2, h3, h4, h5⟩ := run_app_at (c := c2) ty E 0 n xs news x hsrc hl h1 h63 hbytes (Nat.zero_le _)
    obtain ⟨a', c', rfl, j1, j2, j3, j4⟩ := owns_has h3
    have hF' : ∀ g, (Value.slice a' (n + m) c').ownBlock = some g → Up F w w' g := fun g hg => by
      rcases h5 with h5 | h5
      · rw [h5] at hg; exact .inl (y g hg)
      · rw [h5] at hg
        cases hg
        refine .inr ⟨Nat.le_refl _, ?_⟩
        rcases a' with _ | ⟨b, off, sp⟩
        · cases h5
        · have hs := spot h3
          subst hs
          have := (j4 b off rfl)
          rw [h5] at this
          have e := this.1
          cases e
          exact this.2.1
    refine ⟨_, w', fun k => (Value.slice a n c).ownBlock = some k, h2, ⟨h3.1, hone, a', c', rfl, j1, j2, j3, fun b off e _ => ⟨.inl (hF' b (j4 b off e).1), (j4 b off e).2.2.2⟩, .inr ⟨h3, hF'⟩⟩, (Keeps.refl _ w).grown h4 (fun k h _ => h), fun k hk => ⟨y k hk, ?_⟩⟩
    obtain ⟨a2, c3, e3, -, -, -, j5⟩ := owns_has x
    cases e3
    rcases a with _ | ⟨b, off, sp⟩
    · cases hk
    · have hs := spot x
      subst hs
      cases hk
      exact (j5 b off rfl).2.2.2
end
section
variable {t e : TypeId} {size bytes : Nat} {z : Value}
theorem run_buildSliceV (E : ElemT P t e size bytes z) {parts : Array (Nat × Value)} {vs : List Value} (hp : parts.toList = (List.range' 0 vs.length).zip vs) (hs : ∀ v ∈ vs, v.cells.size = size) (hn : vs.length * size ≤ 16777216) (w : World) :
    (Instr.buildSlice t vs.length parts).run P w = .ok (.slice (some ⟨w.heap.size, 0, none⟩) vs.length vs.length) (w.alloc (.cells (vs.flatMap (·.cells.toList)).toArray e)) := by
  obtain ⟨i, hi, h4⟩ := Option.map_eq_some_iff.1 E.hi
  simp only [Prod.mk.injEq] at h4
  obtain ⟨hz, hsz, hby⟩ := h4
  have hlen : ∀ (vs : List Value), (∀ v ∈ vs, v.cells.size = size) → (vs.map (·.cells.size)).sum = vs.length * size := by
    intro vs
    induction vs with
    | nil => simp
    | cons v vs ih =>
      intro h
      rw [List.map_cons, List.sum_cons, ih (fun v hv => h v (by simp [hv])), h v (by simp), List.length_cons, Nat.succ_mul]; omega
  have hf : ∀ (B : Array Value), B.size = vs.length * size → Instr.fill (fun i => some (i * size, size)) B parts.toList = some (vs.flatMap (·.cells.toList)).toArray := by
    intro B hB
    rw [hp]
    have := fill_seq (fun i => some (i * size, size)) vs 0 [] B.toList (fun j v hj => by
      have hv := hs v (List.mem_of_getElem? hj)
      have hl := hlen (vs.take j) (fun v hv => hs v (List.mem_of_mem_take hv))
      rw [hl, hv, List.length_take, Nat.min_eq_left (Nat.le_of_lt (List.getElem?_eq_some_iff.1 hj).1)]; simp) (by rw [hlen vs hs]; simpa using hB.symm)
    simpa using this
  have hsz2 : ¬ vs.length * size > 2 ^ 24 := by omega
  unfold Instr.buildSlice
  by_cases h0 : vs.length * size = 0
  · simp [run_underlying E.ht, sizeOf, typeInfo, hi, hsz, hsz2, h0, Result.andThen]
    rw [hf (Array.map (fun x => default) (Array.range 0)) (by simp [h0])]
    rfl
  · have hzv : (zeroValue e).run P w = .ok z w := by simp [zeroValue, typeInfo, hi, hz]
    simp [run_underlying E.ht, sizeOf, typeInfo, hi, hsz, hsz2, h0, Result.andThen, hzv]
    rw [hf _ (by simp)]
    rfl
end

/-- The news that a buildSlice lays. -/
theorem newAt_has {g : Nat} {cs : Array Value} {T : TypeId} (h : NewAt w w' g (.cells cs T)) : Has w' (some ⟨g, 0, none⟩) cs.toList := has_block h.blk
section
variable {ops : Array Oper} {rest : List Oper} {dst : Option Tmp} {s x : Operand} {t ty e : TypeId} {pos : String} {aft : Array Edge} {gd : Option (Nat × Bool)} {a : Act} {Q : Exit → Act → World → Prop} {size bytes : Nat} {z : Value}
theorem rn_buildSlice (E : ElemT P t e size bytes z) {m : Nat} {parts : Array (Nat × Operand)} (vs : List Value) (hm : m = vs.length) (hp : (parts.map fun (i, x) => (i, a.eval x)).toList = (List.range' 0 vs.length).zip vs) (hs : ∀ v ∈ vs, v.cells.size = size)
    (hn : vs.length * size ≤ 16777216) : (execOp a.eval ⟨dst, .buildSlice t m parts, ty, pos, aft, gd⟩).run P w = .ok (.value (.slice (some ⟨w.heap.size, 0, none⟩) m m)) (w.alloc (.cells (vs.flatMap (·.cells.toList)).toArray e)) := by
  subst hm
  unfold execOp
  simp only [Sem.run_bind, run_buildSliceV E hp hs hn, Result.andThen_ok, Sem.run_pure]
theorem rn_app {v v' : Value} {ad : Option Addr} {m c : Nat} (hs : a.eval s = v) (hx : a.eval x = .slice ad m c) (h : (Builtin.append_ #[t, t] ty #[v, .slice ad m c]).run P w = .ok v' w') :
    (execOp a.eval ⟨dst, .call ⟨.builtin .append, #[s, x], #[t, t]⟩, ty, pos, aft, gd⟩).run P w = .ok (.value v') w' := by
  unfold execOp
  simp only [resolve, invoke, builtin, Sem.run_bind, Sem.run_pure, Result.andThen_ok, List.map_toArray, List.map_cons, List.map_nil, hs, hx, h]
end
end Go.Lk
