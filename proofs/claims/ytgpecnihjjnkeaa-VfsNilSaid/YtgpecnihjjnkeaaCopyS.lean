/- Copy of a disk: the state of the copy under way. -/
import Derived.Test.YtgpecnihjjnkeaaCopyC
set_option linter.unusedVariables false
set_option linter.unusedSimpArgs false
namespace Go.Lk
open Go.RowKit
section
variable {P : Program} {ops : Array Oper} {rest : List Oper} {dst : Option Tmp} {t ty : TypeId} {pos : String} {aft : Array Edge} {gd : Option (Nat × Bool)} {a : Act} {w w' : World} {Q : Exit → Act → World → Prop}
theorem stop_makeMap (h : At (wpList P ops Q (⟨dst, .makeMap t none, ty, pos, aft, gd⟩ :: rest) a w)) : wpList P ops Q (⟨dst, .makeMap t none, ty, pos, aft, gd⟩ :: rest) a w := h
def IsMapNew (w : World) (v : Value) (w' : World) : Prop := ∃ g, v = .map (some g) ∧ NewAt w w' g (.map #[] 0)
theorem re_makeMap : ∃ v w', (execOp a.eval ⟨dst, .makeMap t none, ty, pos, aft, gd⟩).run P w = .ok (.value v) w' ∧ IsMapNew w v w' :=
  ⟨_, w.alloc (.map #[] 0), by unfold execOp; simp [Instr.makeMap, newObj, Sem.run_bind, Sem.run_pure, Result.andThen_ok, Sem.run], _, rfl, newAt _ _⟩
end
theorem RowS.tight {F R F' : Nat → Prop} {w : World} {e : TypeId} {size n : Nat} {v : Value} {xs : List Value} (h : RowS w F R e size v n xs) (hF : ∀ k, F k → IsT w e k → F' k) : RowS w F' R e size v n xs := by
  obtain ⟨h1, h2, a, c, h3, h4, h5, h6, h7, h8⟩ := h
  refine ⟨h1, h2, a, c, h3, h4, h5, h6, fun b off e hz => ⟨(h7 b off e hz).1.imp (fun x => hF b x (h7 b off e hz).2) id, (h7 b off e hz).2⟩, h8.imp id fun ⟨x, y⟩ => ⟨x, fun g hg => hF g (y g hg) ?_⟩⟩
  obtain ⟨-, ⟨rfl, -⟩ | ⟨g', cap, cur, rfl, -, hh, -⟩⟩ := x
  · cases hg
  · cases hg; exact ⟨_, _, hh⟩
theorem has_nth {α : Type} {w : World} {f : α → List Value} {m : Nat} (hf : ∀ x, (f x).length = m) {b off : Nat} : ∀ {L : List α} {k : Nat} {x : α}, Has w (some ⟨b, off, none⟩) (L.flatMap f) → L[k]? = some x → Has w (some ⟨b, off + k * m, none⟩) (f x) := by
  intro L
  induction L generalizing off with
  | nil => intro k x _ h; cases h
  | cons y L ih =>
    intro k x hh hk
    rw [List.flatMap_cons] at hh
    cases k with
    | zero =>
      cases hk
      simpa using hh.left
    | succ k =>
      have := ih (hh.right (hf y)) (by simpa using hk)
      rw [show off + (k + 1) * m = off + m + k * m by rw [Nat.add_mul]; omega]
      exact this
end Go.Lk
namespace Go.Vfs
open Go.Lk Go.RowKit
variable {w w' wr : World} {R R' S F F' : Nat → Prop} {d b : Nat} {x : Fl} {D : Dk} {fc : Nat → Fl}
theorem pk_one (x : Option Nat) : (pk x).cells = #[pk x] ∧ (pk x).oneCell' = true := by cases x <;> exact ⟨rfl, rfl⟩
def mv (φ : Nat → Option Nat) (p : ByteArray × Nat) : ByteArray × Nat := (p.1, (φ p.2).getD 0)
def ms (φ : Nat → Option Nat) (s : Stp) : Stp := { s with f := s.f.bind φ }
/-- The copy under way: what is laid of it, and that all that was there stays. -/
structure CpSt (w wr : World) (d' a3 mo mf ml : Nat) (sv : Value) (D : Dk) (fc : Nat → Fl) (φ : Nat → Option Nat) (l1 l2 : List (ByteArray × Nat)) (k : Nat) : Prop where
  dk : wr.heap[d']? = some (.cells (dcs mf ml sv D) 61 (0, 0))
  bx : wr.heap[a3]? = some (.cells #[.map (some mo)] 93 (0, 0))
  cp : Copies w.heap.size wr mo D fc φ
  m1 : SMap wr mf (vals (l1.map (mv φ)))
  m2 : SMap wr ml (vals (l2.map (mv φ)))
  in1 : ∀ p ∈ l1, φ p.2 ≠ none
  in2 : ∀ p ∈ l2, φ p.2 ≠ none
  row : RowS wr (fun j => w.heap.size ≤ j) Nb 72 4 sv k (((D.steps.take k).map (ms φ)).flatMap stp)
  in3 : ∀ s ∈ D.steps.take k, ∀ b, s.f = some b → φ b ≠ none
  k : Keeps Nb w wr
  gd : w.heap.size ≤ d'
  gf : w.heap.size ≤ mf
  gl : w.heap.size ≤ ml
  go : w.heap.size ≤ mo
  n1 : mf ≠ ml
  n2 : mf ≠ mo
  n3 : ml ≠ mo
variable {d' a3 mo mf ml k : Nat} {sv : Value} {φ φ' : Nat → Option Nat} {l1 l2 : List (ByteArray × Nat)}
/-- A file was copied. -/
theorem CpSt.copied (h : CpSt w wr d' a3 mo mf ml sv D fc φ l1 l2 k) (hc : Copies w.heap.size w' mo D fc φ') (hle : ∀ b c, φ b = some c → φ' b = some c) (hk : Keeps (· = mo) wr w') : CpSt w w' d' a3 mo mf ml sv D fc φ' l1 l2 k := by
  have hmo : ∀ (T : TypeId) (j : Nat), IsT wr T j → ¬ j = mo := fun T j hj e => by obtain ⟨es, cl, q, -⟩ := h.cp.map; exact hj.map q e
  have emv : ∀ l : List (ByteArray × Nat), (∀ p ∈ l, φ p.2 ≠ none) → l.map (mv φ') = l.map (mv φ) := fun l hl => List.map_congr_left fun p hp => by
    cases e : φ p.2 with
    | none => exact absurd e (hl p hp)
    | some c => simp [mv, e, hle _ _ e]
  have hne : ∀ b, φ b ≠ none → φ' b ≠ none := fun b hb => by
    cases e : φ b with
    | none => exact absurd e hb
    | some c => rw [hle _ _ e]; simp
  have ems : (D.steps.take k).map (ms φ') = (D.steps.take k).map (ms φ) := List.map_congr_left fun s hs => by
    unfold ms
    cases e : s.f with
    | none => rfl
    | some b =>
      cases e2 : φ b with
      | none => exact absurd e2 (h.in3 s hs b e)
      | some c => simp [e2, hle _ _ e2]
  refine ⟨hk.at h.dk (hmo _ _ ⟨_, _, h.dk⟩), hk.at h.bx (hmo _ _ ⟨_, _, h.bx⟩), hc, ?_, ?_, fun p hp => hne _ (h.in1 p hp), fun p hp => hne _ (h.in2 p hp), ?_, fun s hs b e => hne _ (h.in3 s hs b e), h.k.own h.go hk, h.gd, h.gf, h.gl, h.go, h.n1, h.n2, h.n3⟩
  · rw [emv l1 h.in1]; exact h.m1.keeps hk h.n2
  · rw [emv l2 h.in2]; exact h.m2.keeps hk h.n3
  · rw [ems]; exact h.row.keeps hk (fun j _ ht => hmo _ _ ht)
theorem CpSt.nb (h : CpSt w wr d' a3 mo mf ml sv D fc φ l1 l2 k) (hk : Keeps Nb wr w') : CpSt w w' d' a3 mo mf ml sv D fc φ l1 l2 k :=
  ⟨hk.nb h.dk, hk.nb h.bx, h.cp.nb hk, h.m1.nb hk, h.m2.nb hk, h.in1, h.in2, h.row.keeps hk (fun _ _ _ e => e), h.in3, h.k.trans_nb hk, h.gd, h.gf, h.gl, h.go, h.n1, h.n2, h.n3⟩
theorem CpSt.own (h : CpSt w wr d' a3 mo mf ml sv D fc φ l1 l2 k) {g : Nat} (hg : wr.heap.size ≤ g) (hk : Keeps (· = g) wr w') : CpSt w w' d' a3 mo mf ml sv D fc φ l1 l2 k := h.nb (hk.mono fun i hi e => by omega)
/-- An entry of the first map. -/
theorem CpSt.put1 (h : CpSt w wr d' a3 mo mf ml sv D fc φ l1 l2 k) {q : ByteArray × Nat} (hq : φ q.2 ≠ none) (hm : SMap w' mf (vals ((l1 ++ [q]).map (mv φ)))) (hk : Keeps (· = mf) wr w') (ho : ∀ b, Ref D b → b < w.heap.size) : CpSt w w' d' a3 mo mf ml sv D fc φ (l1 ++ [q]) l2 k := by
  have hmf : ∀ (T : TypeId) (j : Nat), IsT wr T j → ¬ j = mf := fun T j hj e => by obtain ⟨es, cl, q, -⟩ := h.m1; exact hj.map q e
  refine ⟨hk.at h.dk (hmf _ _ ⟨_, _, h.dk⟩), hk.at h.bx (hmf _ _ ⟨_, _, h.bx⟩), h.cp.keeps hk (fun e => h.n2 e.symm) (fun j hj => hmf _ _ hj) (fun j hj => hmf _ _ hj.2.2) (fun b hb e => by have := ho b hb; have := h.gf; omega), hm, h.m2.keeps hk (fun e => h.n1 e.symm), fun p hp => ?_, h.in2, h.row.keeps hk (fun j _ ht => hmf _ _ ht), h.in3, h.k.own h.gf hk, h.gd, h.gf, h.gl, h.go, h.n1, h.n2, h.n3⟩
  rcases List.mem_append.1 hp with hp | hp
  · exact h.in1 p hp
  · rw [List.mem_singleton.1 hp]; exact hq
/-- An entry of the second map. -/
theorem CpSt.put2 (h : CpSt w wr d' a3 mo mf ml sv D fc φ l1 l2 k) {q : ByteArray × Nat} (hq : φ q.2 ≠ none) (hm : SMap w' ml (vals ((l2 ++ [q]).map (mv φ)))) (hk : Keeps (· = ml) wr w') (ho : ∀ b, Ref D b → b < w.heap.size) : CpSt w w' d' a3 mo mf ml sv D fc φ l1 (l2 ++ [q]) k := by
  have hml : ∀ (T : TypeId) (j : Nat), IsT wr T j → ¬ j = ml := fun T j hj e => by obtain ⟨es, cl, q, -⟩ := h.m2; exact hj.map q e
  refine ⟨hk.at h.dk (hml _ _ ⟨_, _, h.dk⟩), hk.at h.bx (hml _ _ ⟨_, _, h.bx⟩), h.cp.keeps hk (fun e => h.n3 e.symm) (fun j hj => hml _ _ hj) (fun j hj => hml _ _ hj.2.2) (fun b hb e => by have := ho b hb; have := h.gl; omega), h.m1.keeps hk h.n1, hm, h.in1, fun p hp => ?_, h.row.keeps hk (fun j _ ht => hml _ _ ht), h.in3, h.k.own h.gl hk, h.gd, h.gf, h.gl, h.go, h.n1, h.n2, h.n3⟩
  rcases List.mem_append.1 hp with hp | hp
  · exact h.in2 p hp
  · rw [List.mem_singleton.1 hp]; exact hq
theorem _root_.Go.Lk.SRng.notT {m r : Nat} {l vs : List (ByteArray × Value)} (h : SRng wr m r l vs) {T : TypeId} {j : Nat} (hj : IsT wr T j) : ¬ j = r := by
  obtain ⟨es, clock, since, seen, c0, -, -, -, -, hr, -⟩ := h
  obtain ⟨cur, fr, hh⟩ := hj
  intro e; subst e; rw [hr] at hh; cases hh
theorem _root_.Go.Lk.SRng.notM {m r m' : Nat} {l vs l' : List (ByteArray × Value)} (h : SRng wr m r l vs) (hm : SMap wr m' l') : ¬ m' = r := by
  obtain ⟨es, clock, since, seen, c0, -, -, -, -, hr, -⟩ := h
  obtain ⟨es', cl', hh, -⟩ := hm
  intro e; subst e; rw [hr] at hh; cases hh
theorem _root_.Go.Lk.SRng.notPM {m r m' : Nat} {l vs : List (ByteArray × Value)} {f : Option Nat → Option Value} (h : SRng wr m r l vs) (hm : PMap wr m' f) : ¬ m' = r := by
  obtain ⟨es, clock, since, seen, c0, -, -, -, -, hr, -⟩ := h
  obtain ⟨es', cl', hh, -⟩ := hm
  intro e; subst e; rw [hr] at hh; cases hh
theorem flook_mv {us : List (ByteArray × Nat)} {s : ByteArray} (h : flook us s = none) (φ : Nat → Option Nat) : flook (us.map (mv φ)) s = none := by
  unfold flook at h ⊢
  rw [Option.map_eq_none_iff, List.find?_eq_none] at h ⊢
  intro p hp
  obtain ⟨q, hq, rfl⟩ := List.mem_map.1 hp
  exact h q hq
/-- The range goes on. -/
theorem CpSt.rng (h : CpSt w wr d' a3 mo mf ml sv D fc φ l1 l2 k) {m r : Nat} {l vs : List (ByteArray × Value)} (hg : w.heap.size ≤ r) (hr : SRng wr m r l vs) (hk : Keeps (· = r) wr w') (ho : ∀ b, Ref D b → b < w.heap.size) : CpSt w w' d' a3 mo mf ml sv D fc φ l1 l2 k := by
  have hT : ∀ (T : TypeId) (j : Nat), IsT wr T j → ¬ j = r := fun T j hj => hr.notT hj
  have hmo : ¬ mo = r := fun e => by
    obtain ⟨es, clock, since, seen, c0, -, -, -, -, hh, -⟩ := hr
    obtain ⟨es', cl', hh', -⟩ := h.cp.map
    rw [e, hh] at hh'; cases hh'
  exact ⟨hk.at h.dk (hT _ _ ⟨_, _, h.dk⟩), hk.at h.bx (hT _ _ ⟨_, _, h.bx⟩), h.cp.keeps hk hmo (fun j hj => hT _ _ hj) (fun j hj => hT _ _ hj.2.2) (fun b hb e => by have := ho b hb; omega), h.m1.keeps hk (hr.notM h.m1), h.m2.keeps hk (hr.notM h.m2), h.in1, h.in2, h.row.keeps hk (fun j _ ht => hT _ _ ht), h.in3, h.k.own hg hk, h.gd, h.gf, h.gl, h.go, h.n1, h.n2, h.n3⟩
/-- The next name is a new one. -/
theorem fresh_name {m r : Nat} {l us : List (ByteArray × Nat)} (hd : ((vals l).map Prod.fst).Nodup) (h : SRng wr m r (vals l) (vals us)) {q : ByteArray × Nat} (hq : q ∈ l) (hn : (q.1, Value.pointer (some ⟨q.2, 0, none⟩)) ∉ vals us) : flook us q.1 = none := by
  obtain ⟨es, clock, since, seen, c0, -, -, -, -, -, -, -, -, hnd, hsub, -⟩ := h
  unfold flook
  rw [Option.map_eq_none_iff, List.find?_eq_none]
  intro p hp e
  have e' : p.1 = q.1 := by simpa using e
  have h1 := hsub _ (List.mem_map.2 ⟨p, hp, rfl⟩)
  have h2 : (q.1, Value.pointer (some ⟨q.2, 0, none⟩)) ∈ vals l := List.mem_map.2 ⟨q, hq, rfl⟩
  obtain ⟨i, hi⟩ := List.mem_iff_getElem?.1 h1
  obtain ⟨j, hj⟩ := List.mem_iff_getElem?.1 h2
  have hij := nodup_at hd (i := i) (j := j) (x := q.1) (by rw [List.getElem?_map, hi]; simp [e']) (by rw [List.getElem?_map, hj]; rfl)
  subst hij
  rw [hi] at hj
  have hv : (p.1, Value.pointer (some ⟨p.2, 0, none⟩)) = (q.1, Value.pointer (some ⟨q.2, 0, none⟩)) := by simpa using hj
  exact hn (hv ▸ List.mem_map.2 ⟨p, hp, rfl⟩)
theorem take_snocA {α : Type} {l : List α} {k : Nat} {x : α} (h : l[k]? = some x) : l.take (k + 1) = l.take k ++ [x] := by
  obtain ⟨h1, h2⟩ := List.getElem?_eq_some_iff.1 h
  rw [List.take_succ_eq_append_getElem h1, h2]
/-- A step more. -/
theorem CpSt.push {sv' : Value} {s : Stp} {w2 w3 : World} {S4 : Nat → Prop} (h : CpSt w wr d' a3 mo mf ml sv D fc φ l1 l2 k) (hs : D.steps[k]? = some s) (hin : ∀ b, s.f = some b → φ b ≠ none) (k12 : Keeps S4 wr w2) (hS : ∀ j, S4 j → w.heap.size ≤ j ∧ IsT wr 72 j)
    (hr : RowS w2 (Up (fun j => w.heap.size ≤ j) wr w2) Nb 72 4 sv' (k + 1) (((D.steps.take k).map (ms φ)).flatMap stp ++ stp (ms φ s))) (k23 : Keeps (· = d') w2 w3) (hb : w3.heap[d']? = some (.cells (dcs mf ml sv' D) 61 (0, 0))) (ho : ∀ b, Ref D b → b < w.heap.size) :
    CpSt w w3 d' a3 mo mf ml sv' D fc φ l1 l2 (k + 1) := by
  have hkw := h.k.size
  have t1 : ∀ (T : TypeId) (j : Nat), IsT wr T j → T ≠ 72 → ¬ S4 j := fun T j hj hT hs => (hS j hs).2.ne hj (fun e => hT e.symm) rfl
  have t2 : ∀ (T : TypeId) (j : Nat), IsT w2 T j → T ≠ 61 → ¬ j = d' := fun T j hj hT e => (hj.keeps k23 (fun e2 => by
    subst e2
    exact (hj.ne ((show IsT wr 61 j from ⟨_, _, h.dk⟩).keeps k12 (t1 61 j ⟨_, _, h.dk⟩ (by decide))) hT rfl))).ne (show IsT w3 61 j from ⟨_, _, e ▸ hb⟩) hT rfl
  have mp : ∀ {m : Nat} {l : List (ByteArray × Value)}, SMap wr m l → SMap w3 m l := fun {m l} hm => by
    have e1 : ¬ S4 m := fun e => by obtain ⟨es, cl, q, -⟩ := hm; exact (hS m e).2.map q rfl
    refine (hm.keeps k12 e1).keeps k23 (fun e => ?_)
    obtain ⟨es, cl, q, -⟩ := hm
    subst e; rw [h.dk] at q; cases q
  have hd2 := k12.at h.dk (t1 61 d' ⟨_, _, h.dk⟩ (by decide))
  have ebx : w2.heap[a3]? = some (.cells #[.map (some mo)] 93 (0, 0)) := k12.at h.bx (t1 93 a3 ⟨_, _, h.bx⟩ (by decide))
  have emo : ¬ S4 mo := fun e => by obtain ⟨es, cl, q, -⟩ := h.cp.map; exact (hS mo e).2.map q rfl
  have c2 : Copies w.heap.size w2 mo D fc φ := h.cp.keeps k12 emo (fun j hj => t1 65 j hj (by decide)) (fun j hj => t1 5 j hj.2.2 (by decide)) (fun b hb e => by have := ho b hb; have := (hS b e).1; omega)
  refine ⟨hb, k23.at ebx (t2 93 a3 ⟨_, _, ebx⟩ (by decide)), c2.keeps k23 (fun e => by obtain ⟨es, cl, q, -⟩ := c2.map; rw [e, hd2] at q; cases q) (fun j hj => t2 65 j hj (by decide)) (fun j hj => t2 5 j hj.2.2 (by decide)) (fun b hb e => by have := ho b hb; have := h.gd; omega), mp h.m1, mp h.m2, h.in1, h.in2, ?_, ?_, (h.k.trans k12 (fun i hi e => by have := (hS i e).1; omega)).own h.gd k23, h.gd, h.gf, h.gl, h.go, h.n1, h.n2, h.n3⟩
  · rw [take_snocA hs, List.map_append, List.flatMap_append, List.map_singleton, List.flatMap_singleton]
    refine (hr.keeps k23 (fun j _ ht => t2 72 j ht (by decide))).mono (fun j hj => hj.elim id fun ⟨x, y⟩ => by omega) (fun _ h => h)
  · intro s' hs' b e
    rw [take_snocA hs] at hs'
    rcases List.mem_append.1 hs' with hs' | hs'
    · exact h.in3 s' hs' b e
    · rw [List.mem_singleton.1 hs'] at e; exact hin b e
theorem ms_eq {L : List Stp} (h : ∀ s ∈ L, ∀ b, s.f = some b → φ b ≠ none) (hle : ∀ b c, φ b = some c → φ' b = some c) : L.map (ms φ') = L.map (ms φ) := List.map_congr_left fun s hs => by
  unfold ms
  cases e : s.f with
  | none => rfl
  | some b =>
    cases e2 : φ b with
    | none => exact absurd e2 (h s hs b e)
    | some c => simp [e2, hle _ _ e2]
/-- A cell of one's own beside the copy is written. -/
theorem CpSt.cell (h : CpSt w wr d' a3 mo mf ml sv D fc φ l1 l2 k) {g : Nat} (hg : IsT wr 72 g) (hge : w.heap.size ≤ g) (hk : Keeps (· = g) wr w') (hr : RowS w' (fun j => w.heap.size ≤ j) Nb 72 4 sv k (((D.steps.take k).map (ms φ)).flatMap stp)) (ho : ∀ b, Ref D b → b < w.heap.size) :
    CpSt w w' d' a3 mo mf ml sv D fc φ l1 l2 k := by
  have hT : ∀ (T : TypeId) (j : Nat), IsT wr T j → T ≠ 72 → ¬ j = g := fun T j hj hne e => (e ▸ hj).ne hg hne rfl
  have hM : ∀ {m : Nat} {l : List (ByteArray × Value)}, SMap wr m l → ¬ m = g := fun {m l} hm e => by obtain ⟨es, cl, q, -⟩ := hm; exact hg.map q e.symm
  exact ⟨hk.at h.dk (hT 61 _ ⟨_, _, h.dk⟩ (by decide)), hk.at h.bx (hT 93 _ ⟨_, _, h.bx⟩ (by decide)), h.cp.keeps hk (fun e => by obtain ⟨es, cl, q, -⟩ := h.cp.map; exact hg.map q e.symm) (fun j hj => hT 65 j hj (by decide)) (fun j hj => hT 5 j hj.2.2 (by decide)) (fun b hb e => by have := ho b hb; omega), h.m1.keeps hk (hM h.m1), h.m2.keeps hk (hM h.m2), h.in1, h.in2, hr, h.in3, h.k.own hge hk, h.gd, h.gf, h.gl, h.go, h.n1, h.n2, h.n3⟩
/-- What Copy comes to. -/
structure CopyR (D : Dk) (fc : Nat → Fl) (D' : Dk) (fc' : Nat → Fl) (φ : Nat → Option Nat) (l1 l2 : List (ByteArray × Nat)) : Prop where
  p1 : l1.Perm D.files
  p2 : l2.Perm D.lasting
  eq : D' = { D with files := l1.map (mv φ), lasting := l2.map (mv φ), steps := D.steps.map (ms φ) }
  fc : ∀ b c, φ b = some c → fc' c = fc b
  inj : ∀ b b' c, φ b = some c → φ b' = some c → b = b'
  all : ∀ b, Ref D b → φ b ≠ none
noncomputable def fcOf (φ : Nat → Option Nat) (fc : Nat → Fl) (c : Nat) : Fl := open Classical in if h : ∃ b, φ b = some c then fc h.choose else ⟨[], 0⟩
theorem fcOf_eq (hi : ∀ b b' c, φ b = some c → φ b' = some c → b = b') {b c : Nat} (h : φ b = some c) : fcOf φ fc c = fc b := by
  unfold fcOf
  rw [dif_pos ⟨b, h⟩]
  exact congrArg fc (hi _ _ c (Exists.choose_spec (⟨b, h⟩ : ∃ b, φ b = some c)) h)
/-- The copy is done. -/
theorem CpSt.done (h : CpSt w wr d' a3 mo mf ml sv D fc φ l1 l2 D.steps.length) (hD : DiskAt w d F R D fc) (p1 : l1.Perm D.files) (p2 : l2.Perm D.lasting) :
    ∃ D' fc' F' R', DiskAt wr d' F' R' D' fc' ∧ (∀ k, F' k → w.heap.size ≤ k) ∧ (∀ k, R' k → w.heap.size ≤ k) ∧ CopyR D fc D' fc' φ l1 l2 := by
  have hall : ∀ b, Ref D b → φ b ≠ none := by
    rintro b (⟨p, hp, rfl⟩ | ⟨p, hp, rfl⟩ | ⟨s, hs, e⟩)
    · exact h.in1 p (p1.mem_iff.2 hp)
    · exact h.in2 p (p2.mem_iff.2 hp)
    · exact h.in3 s (by rw [List.take_length]; exact hs) b e
  have hrow := h.row
  rw [List.take_length] at hrow
  have hlt : ∀ {T : TypeId} {k : Nat}, IsT wr T k → k < wr.heap.size := fun {T k} ht => by obtain ⟨cur, fr, q⟩ := ht; exact lt_of_block q
  have hmt : ∀ {m : Nat} {l : List (ByteArray × Value)}, SMap wr m l → ¬ IsT wr 5 m := fun {m l} hm ht => by obtain ⟨es, cl, q, -⟩ := hm; exact ht.map q rfl
  have hnt : ∀ {T : TypeId} {k : Nat}, IsT wr T k → T ≠ 5 → ¬ IsT wr 5 k := fun {T k} ht hT h5 => ht.ne h5 hT rfl
  have hmem : ∀ (l : List (ByteArray × Nat)), (∀ p ∈ l, φ p.2 ≠ none) → ∀ q ∈ l.map (mv φ), ∃ p ∈ l, q.1 = p.1 ∧ φ p.2 = some q.2 := fun l hl q hq => by
    obtain ⟨p, hp, rfl⟩ := List.mem_map.1 hq
    refine ⟨p, hp, rfl, ?_⟩
    cases e : φ p.2 with
    | none => exact absurd e (hl p hp)
    | some c => simp [mv, e]
  obtain ⟨z1, z2, z3, z4, z5, z6, z7, z8⟩ := hD.nums
  refine ⟨{ D with files := l1.map (mv φ), lasting := l2.map (mv φ), steps := D.steps.map (ms φ) }, fcOf φ fc, (fun k => w.heap.size ≤ k ∧ k < wr.heap.size ∧ ¬ IsT wr 5 k), Rn wr w.heap.size, ⟨⟨mf, ml, sv, h.dk, h.m1, h.m2, h.n1, ?_, ⟨h.gf, h.m1.lt, hmt h.m1⟩, ⟨h.gl, h.m2.lt, hmt h.m2⟩⟩, ⟨h.gd, lt_of_block h.dk, hnt ⟨_, _, h.dk⟩ (by decide)⟩, ?_, ?_, ?_, fun k hF hR => hF.2.2 hR.2.2, fun k hk => hk.2.1, fun k hk => hk.2.1⟩, fun k hk => hk.1, fun k hk => hk.1, ⟨p1, p2, rfl, fun b c e => fcOf_eq h.cp.inj e, h.cp.inj, hall⟩⟩
  · simp only [List.length_map]
    exact (hrow.tight (fun k hk ht => ⟨hk, hlt ht, hnt ht (by decide)⟩)).mono (fun _ h => h) (fun _ h => h.elim)
  · intro c hc
    obtain ⟨b, hb⟩ : ∃ b, φ b = some c := by
      rcases hc with ⟨q, hq, rfl⟩ | ⟨q, hq, rfl⟩ | ⟨s, hs, e⟩
      · obtain ⟨p, -, -, e⟩ := hmem l1 h.in1 q hq; exact ⟨_, e⟩
      · obtain ⟨p, -, -, e⟩ := hmem l2 h.in2 q hq; exact ⟨_, e⟩
      · obtain ⟨s0, hs0, rfl⟩ := List.mem_map.1 hs
        unfold ms at e
        cases e0 : s0.f with
        | none => rw [e0] at e; cases e
        | some b => rw [e0] at e; exact ⟨b, e⟩
    obtain ⟨g1, g2, -⟩ := h.cp.new b c hb
    rw [fcOf_eq h.cp.inj hb]
    exact ⟨g2, g1, g2.lt, hnt g2.isT (by decide)⟩
  · refine ⟨z1, z2, z3, z4, z5, ?_, ?_, ?_⟩
    · simp only [List.length_map]; rw [p1.length_eq]; exact z6
    · simp only [List.length_map]; rw [p2.length_eq]; exact z7
    · simp only [List.length_map]; exact z8
  · refine ⟨fun q hq => ?_, fun q hq => ?_, fun s hs => ?_⟩
    · obtain ⟨p, hp, e, -⟩ := hmem l1 h.in1 q hq; rw [e]; exact hD.names.files p (p1.mem_iff.1 hp)
    · obtain ⟨p, hp, e, -⟩ := hmem l2 h.in2 q hq; rw [e]; exact hD.names.lasting p (p2.mem_iff.1 hp)
    · obtain ⟨s0, hs0, rfl⟩ := List.mem_map.1 hs
      rcases hD.names.steps s0 hs0 with ⟨e1, e2, b, e3⟩ | ⟨e1, e2, e4, e3⟩ | ⟨e1, e2, e3⟩
      · refine .inl ⟨e1, e2, ?_⟩
        cases e : φ b with
        | none => exact absurd e (hall b (.inr (.inr ⟨s0, hs0, e3⟩)))
        | some c => exact ⟨c, by simp [ms, e3, e]⟩
      · exact .inr (.inl ⟨e1, e2, e4, by simp [ms, e3]⟩)
      · exact .inr (.inr ⟨e1, e2, by simp [ms, e3]⟩)
end Go.Vfs
