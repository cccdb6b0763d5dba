/- A small library of one's own: 'Keeps S w w'': what was there in w and lies in no block of S is in w' as it was; slices of integers that are read. -/
import Derived.WalkKit
import Derived.WalkSpells
import Derived.WalkLawsBesides
import Derived.Lib.Hide
import Derived.Deep.Draws
import Derived.BigQuiet
import Derived.Deep.AppendSrc
import Derived.Deep.RegionLawGrows
namespace Go.Lk
open Go.RowKit

/-- From w to w' nothing that was there has turned but in blocks of S. -/
structure Keeps (S : Nat → Prop) (w w' : World) : Prop where
  os : w'.os = w.os
  tape : w'.tape = w.tape
  output : w'.output = w.output
  size : w.heap.size ≤ w'.heap.size
  block : ∀ k, k < w.heap.size → ¬ S k → w'.heap[k]? = w.heap[k]?

/-- No block at all. -/
def Nb : Nat → Prop := fun _ => False

variable {S S' : Nat → Prop} {a b c w w' : World}

theorem Keeps.refl (S : Nat → Prop) (w : World) : Keeps S w w := ⟨rfl, rfl, rfl, Nat.le_refl _, fun _ _ _ => rfl⟩

theorem Keeps.trans (h : Keeps S a b) (k : Keeps S' b c) (hs : ∀ i, i < a.heap.size → S' i → S i) : Keeps S a c :=
  ⟨k.os.trans h.os, k.tape.trans h.tape, k.output.trans h.output, Nat.le_trans h.size k.size, fun i hi hn =>
    (k.block i (Nat.lt_of_lt_of_le hi h.size) (fun e => hn (hs i hi e))).trans (h.block i hi hn)⟩

theorem Keeps.trans_nb (h : Keeps S a b) (k : Keeps Nb b c) : Keeps S a c := h.trans k (fun _ _ e => e.elim)

/-- A step that writes in a block of the call's own. -/
theorem Keeps.own (h : Keeps S a b) {k : Nat} (hb : a.heap.size ≤ k) (hk : Keeps (· = k) b c) : Keeps S a c := h.trans hk (fun i hi e => absurd hi (by omega))

theorem Keeps.mono (h : Keeps S a b) (hs : ∀ i, i < a.heap.size → S i → S' i) : Keeps S' a b :=
  ⟨h.os, h.tape, h.output, h.size, fun i hi hn => h.block i hi (fun e => hn (hs i hi e))⟩

theorem Keeps.of_nb (h : Keeps Nb a b) : Keeps S a b := h.mono fun _ _ e => e.elim

theorem Keeps.drew (h : Keeps S a w) : Keeps S a w.drew := ⟨h.os, h.tape, h.output, h.size, h.block⟩
theorem Keeps.drewN (h : Keeps S a w) (n : Nat) : Keeps S a (w.drewN n) := ⟨h.os, h.tape, h.output, h.size, h.block⟩

theorem Keeps.alloc (h : Keeps S a w) (o : Obj) : Keeps S a (w.alloc o) :=
  h.trans_nb ⟨rfl, rfl, rfl, by simp, fun k hk _ => Below.heap_alloc _ _ _ hk⟩

theorem Keeps.setCell (h : Keeps S a w) {p : Addr} (hp : p.block < a.heap.size → S p.block) (u : Value) : Keeps S a (w.setCell p u) :=
  ⟨h.os, h.tape, h.output, by simpa [World.setCell] using h.size, fun k hk hn => by
    rw [Below.heap_setCell _ _ _ _ (by rintro rfl; exact hn (hp hk))]; exact h.block k hk hn⟩

theorem Keeps.grown (h : Keeps S a w) {row : Option Nat} (hg : w.grownBy w' row) (hr : ∀ k, row = some k → k < a.heap.size → S k) : Keeps S a w' :=
  ⟨hg.os.trans h.os, hg.tape.trans h.tape, hg.output.trans h.output, Nat.le_trans h.size hg.size, fun k hk hn => by
    rw [hg.block k (Nat.lt_of_lt_of_le hk h.size) (fun e => hn (hr k e.symm hk))]; exact h.block k hk hn⟩

theorem Keeps.below (h : Keeps Nb w w') : Below w.heap.size w w' :=
  ⟨h.os, h.tape, h.output, h.size, fun k hk => h.block k hk (fun e => e)⟩

theorem keeps_of_below (h : Below w.heap.size w w') : Keeps S w w' :=
  ⟨h.os, h.tape, h.output, h.size, fun k hk _ => h.block k hk⟩

theorem Keeps.cell (h : Keeps S w w') {p : Addr} (hp : p.block < w.heap.size) (hn : ¬ S p.block) : w'.cell? p = w.cell? p :=
  World.cell?_of_block (w := w) (h.block p.block hp hn)
theorem Keeps.frozen (h : Keeps S w w') {p : Addr} (hp : p.block < w.heap.size) (hn : ¬ S p.block) : w'.frozen? p = w.frozen? p :=
  World.frozen?_of_block (w := w) (h.block p.block hp hn)

/-- Draws alone. -/
def Drew (w w' : World) : Prop := ∃ n, w' = w.drewN n
theorem Drew.refl (w : World) : Drew w w := ⟨0, rfl⟩
theorem Drew.trans (h : Drew a b) (k : Drew b c) : Drew a c := by
  obtain ⟨n, rfl⟩ := h; obtain ⟨m, rfl⟩ := k; exact ⟨n + m, by rw [World.drewN_drewN]⟩
theorem Drew.drewN (h : Drew a b) (n : Nat) : Drew a (b.drewN n) := h.trans ⟨n, rfl⟩
theorem Drew.drew (h : Drew a b) : Drew a b.drew := h.trans ⟨1, rfl⟩
theorem Drew.cell (h : Drew w w') (p : Addr) : w'.cell? p = w.cell? p := by obtain ⟨n, rfl⟩ := h; rfl
theorem Drew.frozen (h : Drew w w') (p : Addr) : w'.frozen? p = w.frozen? p := by obtain ⟨n, rfl⟩ := h; rfl
theorem Drew.heap (h : Drew w w') : w'.heap = w.heap := by obtain ⟨n, rfl⟩ := h; rfl
theorem Drew.keeps (h : Drew w w') : Keeps S w w' := by obtain ⟨n, rfl⟩ := h; exact (Keeps.refl _ _).drewN n
theorem quiet_drew {P : Program} {f : FuncId} {args : Array Value} {n : Nat} {v : Value}
    (h : Calls P f args (w.drewN n) fun e w' => e = .returned v ∧ Drew (w.drewN n) w') : Calls P f args (w.drewN n) fun e w'' => e = .returned v ∧ ∃ m, w'' = w.drewN m :=
  h.mono fun _ _ ⟨he, m, hm⟩ => ⟨he, n + m, by rw [hm, World.drewN_drewN]⟩
theorem quiet_same {P : Program} {f : FuncId} {args : Array Value} {n : Nat} {v : Value}
    (h : Calls P f args (w.drewN n) fun e w' => e = .returned v ∧ w.drewN n = w') : Calls P f args (w.drewN n) fun e w'' => e = .returned v ∧ ∃ m, w'' = w.drewN m :=
  h.mono fun _ _ ⟨he, hm⟩ => ⟨he, n, hm.symm⟩

/-- The worlds that keep what is there: for a region that draws its order and calls what makes memory: 'refine region_sub (by kernel_rfl) (by kernel_rfl) ?_', 'repeat (quiet_step (..))', 'refine wpQuiet_nil ?_; rintro _ ⟨⟨w9, K9⟩, rfl⟩'. -/
structure Sub (w0 : World) where
  wd : World
  k : Keeps Nb w0 wd
theorem region_sub {P : Program} {id : Nat} {Q : Exit → Act → World → Prop} {a : Act} {l : List Oper} (hm : P.follows .mixedOrders = true) (hB : Region.lexB .any l.toArray = true)
    (h : wpQuiet P l.toArray (fun w' => ∃ u : Sub w, w' = u.wd) (fun a' => ∀ w', (∃ u : Sub w, w' = u.wd) → Q .normal a' w') l a) : (Code.region id l.toArray true).wp P Q a w :=
  wp_region_quiet (C := fun w' => ∃ u : Sub w, w' = u.wd) hm hB ⟨⟨_, (Keeps.refl Nb w).drewN 1⟩, rfl⟩ (by simpa using h)
theorem quiet_sub {P : Program} {f : FuncId} {args : Array Value} {u : Sub w} {v : Value}
    (h : Calls P f args u.wd fun e w' => e = .returned v ∧ Keeps Nb u.wd w') : Calls P f args u.wd fun e w'' => e = .returned v ∧ ∃ u' : Sub w, w'' = u'.wd :=
  h.mono fun _ w'' ⟨he, hk⟩ => ⟨he, ⟨w'', u.k.trans_nb hk⟩, rfl⟩

/-- A cell is there: its block is. -/
theorem lt_of_cell {p : Addr} {v : Value} (h : w.cell? p = some v) : p.block < w.heap.size := by
  unfold World.cell? at h
  rcases Nat.lt_or_ge p.block w.heap.size with g | g
  · exact g
  · rw [Array.getElem?_eq_none g] at h; cases h

theorem lt_of_block {k : Nat} {o : Obj} (h : w.heap[k]? = some o) : k < w.heap.size := by
  rcases Nat.lt_or_ge k w.heap.size with g | g
  · exact g
  · rw [Array.getElem?_eq_none g] at h; cases h

theorem spot_of_cell {p : Addr} {v : Value} (h : w.cell? p = some v) : p.spot = none := by
  unfold World.cell? at h
  split at h
  · split at h
    · cases h
    · rename_i h'; simpa using h'
  · cases h

/-- A block of cells, told whole. -/
theorem cell_of_block {k i : Nat} {cs : Array Value} {T : TypeId} {f : Nat × Nat} (h : w.heap[k]? = some (.cells cs T f)) : w.cell? ⟨k, i, none⟩ = cs[i]? := by
  simp [World.cell?, h]
theorem free_of_block {k i : Nat} {cs : Array Value} {T : TypeId} (h : w.heap[k]? = some (.cells cs T (0, 0))) : w.frozen? ⟨k, i, none⟩ = false := by
  simp [World.frozen?, h]
theorem block_setCell {k i : Nat} {cs : Array Value} {T : TypeId} {f : Nat × Nat} (h : w.heap[k]? = some (.cells cs T f)) (v : Value) :
    (w.setCell ⟨k, i, none⟩ v).heap[k]? = some (.cells (cs.setIfInBounds i v) T f) := by
  simp [World.setCell, Array.getElem?_modify, h]
theorem block_alloc (w : World) (o : Obj) : (w.alloc o).heap[w.heap.size]? = some o := by
  show (w.heap.push o)[w.heap.size]? = _
  simp

theorem ret_int {k : IntKind} {a b : Int} (h : a = b) : Ending.returned (.int k a) = .returned (.int k b) := by rw [h]
theorem val_int {k : IntKind} {a b : Int} (h : a = b) : Value.int k a = .int k b := by rw [h]

/-- The i-th of a list (a name that the walk does not lay open). -/
def nth (l : List Int) (i : Nat) : Int := l.getD i 0
theorem nth_eq {l : List Int} {i : Nat} (h : i < l.length) : nth l i = l[i] := by simp [nth, h]
theorem take_snoc {l : List Int} {k : Nat} (h : k < l.length) : l.take (k + 1) = l.take k ++ [nth l k] := by
  rw [List.take_succ_eq_append_getElem h, nth_eq h]

/-- A slice (its array, its length) reads as these integers. -/
def Reads (k : IntKind) (w : World) (a : Option Addr) (zs : List Int) : Prop :=
  zs = [] ∨ ∃ b off, a = some ⟨b, off, none⟩ ∧ ∀ i, i < zs.length → w.cell? ⟨b, off + i, none⟩ = some (.int k (nth zs i))

theorem Reads.keeps {k : IntKind} {a : Option Addr} {zs : List Int} (h : Reads k w a zs) (hk : Keeps S w w') (hn : ∀ b off, a = some ⟨b, off, none⟩ → zs ≠ [] → ¬ S b) : Reads k w' a zs := by
  rcases h with h | ⟨b, off, ha, h⟩
  · exact .inl h
  · by_cases hz : zs = []
    · exact .inl hz
    · refine .inr ⟨b, off, ha, fun i hi => ?_⟩
      rw [hk.cell (p := ⟨b, off + i, none⟩) (lt_of_cell (h i hi)) (hn b off ha hz)]
      exact h i hi
theorem Reads.nb {k : IntKind} {a : Option Addr} {zs : List Int} (h : Reads k w a zs) (hk : Keeps Nb w w') : Reads k w' a zs := h.keeps hk (fun _ _ _ _ e => e)

theorem Reads.drew {k : IntKind} {a : Option Addr} {zs : List Int} (h : Reads k w a zs) (hk : Drew w w') : Reads k w' a zs := h.nb hk.keeps
theorem Reads.take {k : IntKind} {a : Option Addr} {zs : List Int} (h : Reads k w a zs) (n : Nat) : Reads k w a (zs.take n) := by
  rcases h with rfl | ⟨b, off, ha, h⟩
  · exact .inl (by simp)
  · refine .inr ⟨b, off, ha, fun i hi => ?_⟩
    rw [List.length_take] at hi
    have := h i (by omega)
    rw [this]; simp [nth, List.getD, show i < n by omega]

/-- What a law is told of a slice of integers that came in. -/
def IsRow (k : IntKind) (w : World) (a : Option Addr) (len cap : Nat) (zs : List Int) : Prop :=
  (a = none ∧ len = 0 ∧ cap = 0 ∧ zs = []) ∨
  ∃ x, a = some x ∧ len ≤ cap ∧ cap ≤ maxLen ∧ zs.length = cap ∧ (∀ i, i < zs.length → w.cell? (x.add i) = some (.int k (zs.getD i 0))) ∧ ∀ n ∈ zs, (Lit.int k n).wf = true

/-- .. it reads as a list of as many. -/
theorem IsRow.reads {k : IntKind} {a : Option Addr} {len cap : Nat} {zs : List Int} (h : IsRow k w a len cap zs) :
    ∃ l : List Int, l.length = len ∧ len ≤ cap ∧ cap ≤ maxLen ∧ Reads k w a l ∧ ∀ n ∈ l, (Lit.int k n).wf = true := by
  rcases h with ⟨rfl, rfl, rfl, rfl⟩ | ⟨x, rfl, h1, h2, h3, h4, h5⟩
  · exact ⟨[], rfl, Nat.le_refl _, Nat.zero_le _, .inl rfl, by simp⟩
  · refine ⟨zs.take len, by simp; omega, h1, h2, ?_, fun n hn => h5 n (List.mem_of_mem_take hn)⟩
    by_cases h0 : zs.take len = []
    · exact .inl h0
    · have hl : 0 < zs.length := by
        rcases zs with _ | ⟨z, zs⟩
        · simp at h0
        · simp
      obtain ⟨b, off, sp⟩ := x
      have hs : sp = none := spot_of_cell (h4 0 hl)
      subst hs
      refine .inr ⟨b, off, rfl, fun i hi => ?_⟩
      rw [List.length_take] at hi
      have := h4 i (by omega)
      rw [Addr.add_lit] at this
      rw [this]; simp [nth, List.getD, show i < len by omega]

/-- The i-th of a list of numbers (a name that the walk does not lay open). -/
def ntn (l : List Nat) (i : Nat) : Nat := l.getD i 0
theorem ntn_eq {l : List Nat} {i : Nat} (h : i < l.length) : ntn l i = l[i] := by simp [ntn, h]
theorem ntn_mem {l : List Nat} {i : Nat} (h : i < l.length) : ntn l i ∈ l := by rw [ntn_eq h]; exact List.getElem_mem h
theorem takeN_snoc {l : List Nat} {k : Nat} (h : k < l.length) : l.take (k + 1) = l.take k ++ [ntn l k] := by
  rw [List.take_succ_eq_append_getElem h, ntn_eq h]
theorem dropN_cons {l : List Nat} {k : Nat} (h : k < l.length) : l.drop k = ntn l k :: l.drop (k + 1) := by
  rw [ntn_eq h, List.drop_eq_getElem_cons h]
/-- A slice (its array) reads as these numbers. -/
def ReadsN (k : IntKind) (w : World) (a : Option Addr) (l : List Nat) : Prop :=
  l = [] ∨ ∃ b off, a = some ⟨b, off, none⟩ ∧ ∀ i, i < l.length → w.cell? ⟨b, off + i, none⟩ = some (.int k (ntn l i : Nat))
theorem ReadsN.keeps {k : IntKind} {a : Option Addr} {l : List Nat} (h : ReadsN k w a l) (hk : Keeps S w w') (hn : ∀ b off, a = some ⟨b, off, none⟩ → l ≠ [] → ¬ S b) : ReadsN k w' a l := by
  rcases h with h | ⟨b, off, ha, h⟩
  · exact .inl h
  · by_cases hz : l = []
    · exact .inl hz
    · refine .inr ⟨b, off, ha, fun i hi => ?_⟩
      rw [hk.cell (p := ⟨b, off + i, none⟩) (lt_of_cell (h i hi)) (hn b off ha hz)]
      exact h i hi
theorem ReadsN.nb {k : IntKind} {a : Option Addr} {l : List Nat} (h : ReadsN k w a l) (hk : Keeps Nb w w') : ReadsN k w' a l := h.keeps hk (fun _ _ _ _ e => e)
theorem ReadsN.drew {k : IntKind} {a : Option Addr} {l : List Nat} (h : ReadsN k w a l) (hk : Drew w w') : ReadsN k w' a l := h.nb hk.keeps
theorem ReadsN.take {k : IntKind} {a : Option Addr} {l : List Nat} (h : ReadsN k w a l) (n : Nat) : ReadsN k w a (l.take n) := by
  rcases h with rfl | ⟨b, off, ha, h⟩
  · exact .inl (by simp)
  · refine .inr ⟨b, off, ha, fun i hi => ?_⟩
    rw [List.length_take] at hi
    rw [h i (by omega)]; simp [ntn, List.getD, show i < n by omega]
/-- As integers. -/
theorem Reads.toN {k : IntKind} {a : Option Addr} {zs : List Int} (h : Reads k w a zs) (h0 : ∀ z ∈ zs, 0 ≤ z) : ReadsN k w a (zs.map Int.toNat) := by
  rcases h with rfl | ⟨b, off, ha, h⟩
  · exact .inl rfl
  · refine .inr ⟨b, off, ha, fun i hi => ?_⟩
    rw [List.length_map] at hi
    have := h0 zs[i] (List.getElem_mem hi)
    rw [h i hi, nth_eq hi]
    congr 2
    simp only [ntn, List.getD, List.getElem?_map, List.getElem?_eq_getElem hi, Option.map_some, Option.getD_some]
    omega
theorem IsRow.bytes {a : Option Addr} {len cap : Nat} {zs : List Int} (h : IsRow .u8 w a len cap zs) :
    ∃ l : List Nat, l.length = len ∧ len ≤ cap ∧ cap ≤ maxLen ∧ ReadsN .u8 w a l ∧ ∀ n ∈ l, n < 256 := by
  obtain ⟨l, h1, h2, h3, h4, h5⟩ := h.reads
  have hb : ∀ z ∈ l, 0 ≤ z ∧ z < 256 := fun z hz => by
    have := h5 z hz
    simp [Lit.wf] at this
    rw [show IntKind.u8.min = 0 from rfl, show IntKind.u8.max = 255 from rfl] at this
    omega
  refine ⟨l.map Int.toNat, by simpa using h1, h2, h3, h4.toN (fun z hz => (hb z hz).1), fun n hn => ?_⟩
  obtain ⟨z, hz, rfl⟩ := List.mem_map.1 hn
  have := hb z hz
  omega

/-- The cells that a slice (its array) begins with. -/
def Has (w : World) (a : Option Addr) (xs : List Value) : Prop :=
  xs = [] ∨ ∃ b off, a = some ⟨b, off, none⟩ ∧ ∀ i v, xs[i]? = some v → w.cell? ⟨b, off + i, none⟩ = some v
theorem Has.keeps {a : Option Addr} {xs : List Value} (h : Has w a xs) (hk : Keeps S w w') (hn : ∀ b off, a = some ⟨b, off, none⟩ → xs ≠ [] → ¬ S b) : Has w' a xs := by
  rcases h with h | ⟨b, off, ha, h⟩
  · exact .inl h
  · by_cases hz : xs = []
    · exact .inl hz
    · refine .inr ⟨b, off, ha, fun i v hi => ?_⟩
      rw [hk.cell (p := ⟨b, off + i, none⟩) (lt_of_cell (h i v hi)) (hn b off ha hz)]
      exact h i v hi
theorem Has.nb {a : Option Addr} {xs : List Value} (h : Has w a xs) (hk : Keeps Nb w w') : Has w' a xs := h.keeps hk (fun _ _ _ _ e => e)
theorem has_new (w : World) (vs : Array Value) (e : TypeId) (f : Nat × Nat) : Has (w.alloc (.cells vs e f)) (some ⟨w.heap.size, 0, none⟩) vs.toList :=
  .inr ⟨_, _, rfl, fun i v h => by rw [cell_of_block (block_alloc _ _), Nat.zero_add, ← Array.getElem?_toList]; exact h⟩
theorem Has.drew' {a : Option Addr} {xs : List Value} (h : Has w a xs) : Has w.drew a xs := h
theorem Reads.has {k : IntKind} {a : Option Addr} {zs : List Int} (h : Reads k w a zs) : Has w a (zs.map (.int k)) := by
  rcases h with rfl | ⟨b, off, ha, h⟩
  · exact .inl rfl
  · refine .inr ⟨b, off, ha, fun i v hi => ?_⟩
    rw [List.getElem?_map] at hi
    by_cases hl : i < zs.length
    · rw [List.getElem?_eq_getElem hl] at hi
      simp only [Option.map_some, Option.some.injEq] at hi
      rw [h i hl, nth_eq hl, hi]
    · rw [List.getElem?_eq_none (by omega)] at hi; simp at hi

/-- A goal under a name at which the walk stands: 'go_wp2_with (at_builtin; refine at_in ?_)', then 'refine at_out ?_'. -/
def At (p : Prop) : Prop := p
theorem at_in {p : Prop} (h : At p) : p := h
theorem at_out {p : Prop} (h : p) : At p := h

/-- What is asked of a slice's type t (of elements e, each 'size' cells, 'bytes' bytes). -/
structure ElemT (P : Program) (t e : TypeId) (size bytes : Nat) (z : Value) : Prop where
  ht : P.underlying t = some (.slice e)
  hi : (P.info? e).map (fun i => (i.zero, i.size, i.bytes)) = some (some z, size, bytes)
  hz : z.cells.size = size
  pos : 0 < size

section
variable {P : Program} {ops : Array Oper} {rest : List Oper} {dst : Option Tmp} {s x : Operand} {t ty e : TypeId} {pos : String} {aft : Array Edge} {a : Act} {Q : Exit → Act → World → Prop} {size bytes : Nat} {z : Value}

theorem has_src (hk : P.underlying t = some (.slice e)) (hpos : 0 < size) {ad : Option Addr} {m c : Nat} {news : List Value} (h : Has w ad news) (hl : news.length = m * size) (h1 : ∀ u ∈ news, u.oneCell' = true) :
    Src P size t (.slice ad m c) m news w := by
  rcases ad with _ | ad
  · have hnews : news = [] := by rcases h with h | ⟨_, _, h, _⟩; exact h; cases h
    subst hnews
    have hm : m = 0 := by
      rcases Nat.eq_zero_or_pos m with h | h
      · exact h
      · have := Nat.mul_pos h hpos; simp at hl; omega
    subst hm
    exact Src.ofNil w hk c
  · refine Src.ofSlice w hk ad m c news hl ?_ h1
    intro j u hj
    rcases h with rfl | ⟨b', off', he, hh⟩
    · simp at hj
    · cases he; rw [Addr.add_lit]; exact hh j u hj

/-- An append onto a slice of the call's own, whatever slice is appended. -/
theorem run_app (ty : TypeId) (E : ElemT P t e size bytes z) {v : Value} {ad : Option Addr} {m c : Nat} (base n : Nat) (xs : List Value) (news : List Value) (hown : w.ownsRow base e size v n xs)
    (hsrc : Has w ad news) (hl : news.length = m * size) (h1 : ∀ u ∈ news, u.oneCell' = true)
    (h63 : n + m ≤ maxLen) (hbytes : (n + m) * bytes ≤ 140737488355328) (hbase : base ≤ w.heap.size) :
    ∃ v' w', (Builtin.append_ #[t, t] ty #[v, .slice ad m c]).run P w = .ok v' w' ∧ w'.ownsRow base e size v' (n + m) (xs ++ news) ∧ w.grownBy w' v.ownBlock ∧ (v' = .slice none 0 0 ↔ v = .slice none 0 0 ∧ m = 0) := by
  obtain ⟨i, hi, h4⟩ := Option.map_eq_some_iff.1 E.hi
  simp only [Prod.mk.injEq] at h4
  obtain ⟨hz, hsz, hby⟩ := h4
  rcases ad with _ | ⟨b, off, sp⟩
  · have hnews : news = [] := by rcases hsrc with h | ⟨_, _, h, _⟩; exact h; cases h
    subst hnews
    have hm : m = 0 := by
      rcases Nat.eq_zero_or_pos m with h | h
      · exact h
      · have := Nat.mul_pos h E.pos; simp at hl; omega
    subst hm
    have key : (Builtin.append_ #[t, t] ty #[v, .slice none 0 c]).run P w = .ok v w := by
      rcases hown.2 with ⟨rfl, rfl⟩ | ⟨g, cap, cur, rfl, hbg, hg, hnc, hcm, hcs, htake⟩
      · simp [Builtin.append_, run_underlying E.ht, sizeOf, typeInfo, hi, Builtin.lenOf, Builtin.firstCells]
      · have := run_append_room_src (P := P) w t t ty e i E.ht hi g 0 n cap (.slice none 0 c) 0 [] (Src.ofNil w E.ht c) (by omega) (fun _ h => by cases h) (fun _ h => by cases h)
        rw [this]; rfl
    exact ⟨v, w, key, by simpa using hown, ⟨rfl, rfl, rfl, Nat.le_refl _, fun _ _ _ => rfl⟩, by simp⟩
  · refine run_append_own w base t ty e i z size bytes E.ht hi hz hsz hby E.hz E.pos v n xs hown ⟨b, off, sp⟩ m c news hl ?_ h1 h63 hbytes hbase
    intro j u hj
    rcases hsrc with rfl | ⟨b', off', he, hh⟩
    · simp at hj
    · cases he; rw [Addr.add_lit]; exact hh j u hj

theorem wp_app (E : ElemT P t e size bytes z) {v : Value} {ad : Option Addr} {m c : Nat} (base n : Nat) (xs : List Value) (news : List Value) (hown : w.ownsRow base e size v n xs) (hs : a.eval s = v) (hx : a.eval x = .slice ad m c)
    (hsrc : Has w ad news) (hl : news.length = m * size) (h1 : ∀ u ∈ news, u.oneCell' = true)
    (h63 : n + m ≤ maxLen) (hbytes : (n + m) * bytes ≤ 140737488355328) (hbase : base ≤ w.heap.size)
    (h : ∀ v' w', w'.ownsRow base e size v' (n + m) (xs ++ news) → w.grownBy w' v.ownBlock → (v' = .slice none 0 0 ↔ v = .slice none 0 0 ∧ m = 0) → wpList P ops Q rest (a.put dst v') w') :
    wpList P ops Q (⟨dst, .call ⟨.builtin .append, #[s, x], #[t, t]⟩, ty, pos, aft, none⟩ :: rest) a w := by
  refine wpList_plain rfl fun K hK => ?_
  obtain ⟨v', w', key, h2, h3, h4⟩ := run_app (c := c) ty E base n xs news hown hsrc hl h1 h63 hbytes hbase
  unfold Oper.wp execOp
  simp only [resolve, invoke, builtin, Sem.run_bind, Sem.run_pure, Result.andThen_ok, List.map_toArray, List.map_cons, List.map_nil, hs, hx, key]
  exact hK _ _ (h v' w' h2 h3 h4)

/-- The same as a step of a region that draws: 'go_region_law (refine step_app ..)'. -/
theorem step_app {o : Oper} {K : Act → World → Prop} {X : Prop} (E : ElemT P t e size bytes z) {v : Value} {ad : Option Addr} {m c : Nat} (base n : Nat) (xs : List Value) (news : List Value) (hown : w.ownsRow base e size v n xs)
    (hg0 : o.guard = none) (s x : Operand) (hop : o.op = Op.call { callee := Callee.builtin Builtin.append, args := #[s, x], argTypes := #[t, t] }) (hs : a.eval s = v) (hx : a.eval x = .slice ad m c)
    (hsrc : Has w ad news) (hl : news.length = m * size) (h1 : ∀ u ∈ news, u.oneCell' = true)
    (h63 : n + m ≤ maxLen) (hbytes : (n + m) * bytes ≤ 140737488355328) (hbase : base ≤ w.heap.size)
    (h : ∀ v' w', w'.ownsRow base e size v' (n + m) (xs ++ news) → w.grownBy w' v.ownBlock → (v' = .slice none 0 0 ↔ v = .slice none 0 0 ∧ m = 0) → K (a.put o.dst v') w') :
    if Region.wanted o (yielded ops a.tmps) = true then Oper.wp P o a w K Q else X := by
  have hw : Region.wanted o (yielded ops a.tmps) = true := by simp [Region.wanted, hg0]
  rw [if_pos hw]
  obtain ⟨v', w', key, h2, h3, h4⟩ := run_app (c := c) o.type E base n xs news hown hsrc hl h1 h63 hbytes hbase
  unfold Oper.wp execOp
  simp only [hop, resolve, invoke, builtin, Sem.run_bind, Sem.run_pure, Result.andThen_ok, List.map_toArray, List.map_cons, List.map_nil, hs, hx, key]
  exact h v' w' h2 h3 h4

/-- An append for which there is no room: a new row. -/
theorem run_grow (ty : TypeId) (E : ElemT P t e size bytes z) {ad ad2 : Option Addr} {m c c2 : Nat} (n : Nat) (xs : List Value) (news : List Value) (hd : Has w ad xs) (hdl : xs.length = n * size)
    (hsrc : Has w ad2 news) (hl : news.length = m * size) (h1 : ∀ u ∈ news, u.oneCell' = true) (hg : c < n + m)
    (h63 : n + m ≤ maxLen) (hbytes : (n + m) * bytes ≤ 140737488355328) :
    ∃ v' w', (Builtin.append_ #[t, t] ty #[.slice ad n c, .slice ad2 m c2]).run P w = .ok v' w' ∧ w'.ownsRow w.heap.size e size v' (n + m) (xs ++ news) ∧ w.grownBy w' none := by
  obtain ⟨i, hi, h4⟩ := Option.map_eq_some_iff.1 E.hi
  simp only [Prod.mk.injEq] at h4
  obtain ⟨hz, hsz, hby⟩ := h4
  have hsrc' := has_src (c := c2) E.ht E.pos hsrc hl h1
  have hold : (Builtin.firstCells i.size n (.slice ad n c)).run P w.drew = .ok xs.toArray w.drew := by
    rcases ad with _ | ad
    · have hxs : xs = [] := by rcases hd with h | ⟨_, _, h, _⟩; exact h; cases h
      subst hxs
      exact run_firstCells_none w.drew i.size n n c
    · refine run_firstCells_some w.drew i.size n ad n c xs (by rw [hsz]; exact hdl) ?_
      intro j u hj
      rcases hd with rfl | ⟨b', off', he, hh⟩
      · simp at hj
      · cases he; rw [Addr.add_lit]; exact hh j u hj
  have key := run_append_grow_src (P := P) w t t ty e i z E.ht hi hz ad n c xs hold (.slice ad2 m c2) m news (by rw [hsz]; exact hsrc') hg (by simp only [maxLen] at h63; omega) (growslice_fits (by omega) (by rw [hby]; exact hbytes))
  refine ⟨_, _, key, ⟨by simp [hdl, hl, Nat.add_mul], .inr ⟨_, _, _, rfl, Nat.le_refl _, block_alloc w.drew _, grownCap_ge _ _ _ _, grownCap_le_maxLen _ _ _ _ h63, ?_, ?_⟩⟩, ⟨rfl, rfl, rfl, by simp, fun k hk _ => Below.heap_alloc w.drew _ k hk⟩⟩
  · simp only [Array.size_append, List.size_toArray, size_zeroCells, E.hz, List.length_append, hdl, hl, ← Nat.add_mul]
    congr 1
    have := grownCap_ge w (n + m) c e
    omega
  · rw [Array.toList_append]
    simp only []
    rw [show (n + m) * size = (xs ++ news).length by simp [hdl, hl, Nat.add_mul]]
    exact List.take_left

theorem wp_grow (E : ElemT P t e size bytes z) {ad ad2 : Option Addr} {m c c2 : Nat} (n : Nat) (xs : List Value) (news : List Value) (hs : a.eval s = .slice ad n c) (hx : a.eval x = .slice ad2 m c2) (hd : Has w ad xs) (hdl : xs.length = n * size)
    (hsrc : Has w ad2 news) (hl : news.length = m * size) (h1 : ∀ u ∈ news, u.oneCell' = true) (hg : c < n + m)
    (h63 : n + m ≤ maxLen) (hbytes : (n + m) * bytes ≤ 140737488355328)
    (h : ∀ v' w', w'.ownsRow w.heap.size e size v' (n + m) (xs ++ news) → w.grownBy w' none → wpList P ops Q rest (a.put dst v') w') :
    wpList P ops Q (⟨dst, .call ⟨.builtin .append, #[s, x], #[t, t]⟩, ty, pos, aft, none⟩ :: rest) a w := by
  refine wpList_plain rfl fun K hK => ?_
  obtain ⟨v', w', key, h2, h3⟩ := run_grow (c := c) (c2 := c2) ty E n xs news hd hdl hsrc hl h1 hg h63 hbytes
  unfold Oper.wp execOp
  simp only [resolve, invoke, builtin, Sem.run_bind, Sem.run_pure, Result.andThen_ok, List.map_toArray, List.map_cons, List.map_nil, hs, hx, key]
  exact hK _ _ (h v' w' h2 h3)

theorem step_grow {o : Oper} {K : Act → World → Prop} {X : Prop} (E : ElemT P t e size bytes z) {ad ad2 : Option Addr} {m c c2 : Nat} (n : Nat) (xs : List Value) (news : List Value) (hg0 : o.guard = none) (s x : Operand)
    (hop : o.op = Op.call { callee := Callee.builtin Builtin.append, args := #[s, x], argTypes := #[t, t] }) (hs : a.eval s = .slice ad n c) (hx : a.eval x = .slice ad2 m c2) (hd : Has w ad xs) (hdl : xs.length = n * size)
    (hsrc : Has w ad2 news) (hl : news.length = m * size) (h1 : ∀ u ∈ news, u.oneCell' = true) (hg : c < n + m)
    (h63 : n + m ≤ maxLen) (hbytes : (n + m) * bytes ≤ 140737488355328)
    (h : ∀ v' w', w'.ownsRow w.heap.size e size v' (n + m) (xs ++ news) → w.grownBy w' none → K (a.put o.dst v') w') :
    if Region.wanted o (yielded ops a.tmps) = true then Oper.wp P o a w K Q else X := by
  have hw : Region.wanted o (yielded ops a.tmps) = true := by simp [Region.wanted, hg0]
  rw [if_pos hw]
  obtain ⟨v', w', key, h2, h3⟩ := run_grow (c := c) (c2 := c2) o.type E n xs news hd hdl hsrc hl h1 hg h63 hbytes
  unfold Oper.wp execOp
  simp only [hop, resolve, invoke, builtin, Sem.run_bind, Sem.run_pure, Result.andThen_ok, List.map_toArray, List.map_cons, List.map_nil, hs, hx, key]
  exact h v' w' h2 h3
end

/-- A slice of the call's own, of integers: it reads as they do. -/
theorem owns_reads {base n : Nat} {e : TypeId} {k : IntKind} {v : Value} {zs : List Int} (h : w.ownsRow base e 1 v n (zs.map (.int k))) :
    ∃ a c, v = .slice a n c ∧ n = zs.length ∧ n ≤ c ∧ c ≤ maxLen ∧ Reads k w a zs ∧ (∀ b off, a = some ⟨b, off, none⟩ → base ≤ b ∧ b < w.heap.size) := by
  obtain ⟨h1, h2⟩ := h
  rw [List.length_map, Nat.mul_one] at h1
  rcases h2 with ⟨rfl, rfl⟩ | ⟨g, cap, cur, rfl, hbg, hg, hnc, hcm, hcs, htake⟩
  · exact ⟨none, 0, rfl, h1.symm, Nat.le_refl _, Nat.zero_le _, .inl (List.eq_nil_of_length_eq_zero h1), fun _ _ h => by cases h⟩
  · refine ⟨_, cap, rfl, h1.symm, hnc, hcm, .inr ⟨g, 0, rfl, fun i hi => ?_⟩, fun b off h => by cases h; exact ⟨hbg, lt_of_block hg⟩⟩
    rw [Nat.zero_add, cell_of_block hg, ← Array.getElem?_toList]
    have : (cur.toList.take (n * 1))[i]? = some (.int k (nth zs i)) := by rw [htake, List.getElem?_map, List.getElem?_eq_getElem hi, nth_eq hi]; rfl
    rw [List.getElem?_take, if_pos (by omega)] at this
    exact this

theorem owns_reads' {base n n' : Nat} {e : TypeId} {k : IntKind} {a : Option Addr} {c : Nat} {zs : List Int} (h : w.ownsRow base e 1 (.slice a n c) n' (zs.map (.int k))) :
    Reads k w a zs ∧ n = zs.length ∧ n ≤ c ∧ (∀ b off, a = some ⟨b, off, none⟩ → base ≤ b ∧ b < w.heap.size) := by
  obtain ⟨a', c', h1, h2, h3, h4, h5, h6⟩ := owns_reads h
  simp only [Value.slice.injEq] at h1
  obtain ⟨rfl, rfl, rfl⟩ := h1
  exact ⟨h5, h2, h3, h6⟩

/-- What is owned from base on stays owned where nothing from there on is written. -/
theorem owns_keeps {base n : Nat} {e : TypeId} {size : Nat} {v : Value} {xs : List Value} (h : w.ownsRow base e size v n xs) (hk : Keeps S w w') (hn : ∀ k, base ≤ k → ¬ S k) : w'.ownsRow base e size v n xs := by
  obtain ⟨h1, h2⟩ := h
  refine ⟨h1, ?_⟩
  rcases h2 with h2 | ⟨g, cap, cur, hv, hg, hh, r⟩
  · exact .inl h2
  · exact .inr ⟨g, cap, cur, hv, hg, by rw [hk.block g (lt_of_block hh) (hn g hg)]; exact hh, r⟩

theorem owns_mono {base base' n : Nat} {e : TypeId} {size : Nat} {v : Value} {xs : List Value} (h : w.ownsRow base e size v n xs) (hb : base' ≤ base) : w.ownsRow base' e size v n xs := by
  obtain ⟨h1, h2⟩ := h
  refine ⟨h1, ?_⟩
  rcases h2 with h2 | ⟨g, cap, cur, hv, hg, r⟩
  · exact .inl h2
  · exact .inr ⟨g, cap, cur, hv, Nat.le_trans hb hg, r⟩

theorem one_ints {k : IntKind} {zs : List Int} : ∀ u ∈ zs.map (Value.int k), u.oneCell' = true := by
  intro u hu
  obtain ⟨_, _, rfl⟩ := List.mem_map.1 hu
  rfl

end Go.Lk
