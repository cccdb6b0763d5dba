/- A range over a function, told by what the caller's worlds keep; the iterator may say what lies in the world that it hands a round. -/
import Derived.Test.YtgpecnihjjnkeaaInr
import Derived.RangeFuncLeaves
import Derived.RangeFuncSeq
namespace Go.Lk
open Go.RowKit
set_option linter.unusedVariables false
variable {P : Program} {n : Nat}

theorem keeps_putObj (W : World) (l : Nat) (o : Obj) : Keeps (· = l) W (W.putObj l o) :=
  ⟨rfl, rfl, rfl, by simp, fun k _ hn => World.putObj_heap_other hn⟩
/-- The two blocks of book-keeping of a loop that begins at w. -/
def Book (w : World) : Nat → Prop := fun b => b = w.heap.size ∨ b = w.heap.size + 1
/-- An iterator of N rounds: what it hands is Φ's; between two rounds the caller's J abides new blocks. -/
def Iter (P : Program) (n g : Nat) (lb : Array Value) (N : Nat) (Φ : Nat → Array Value → World → Prop) (S : Nat → Prop) (w : World) : Prop :=
  ∀ (l : Nat) (J : Nat → World → Prop) (Jx : World → Prop) (W : World), Keeps Nb w W → w.heap.size + 2 ≤ W.heap.size →
    (∀ i A B, J i A → Keeps Nb A B → J i B) → (∀ A B, Jx A → Keeps Nb A B → Jx B) →
    (∀ i args W1, J i W1 → i < N → Φ i args W1 → YieldAt Fence.wide (n - 1) P l args W1 fun e W' =>
      (e = .returned (.bool true) ∧ J (i + 1) W' ∧ Keeps S W1 W') ∨ (e = .returned (.bool false) ∧ Jx W')) →
    J 0 W → CallsIn Fence.wide n P g (#[.func (.yield l) #[] #[]] ++ lb) W fun e W' => (∃ v, e = .returned v) ∧ (J N W' ∨ Jx W')
/-- How a round's body may be left. -/
def roundEnd (w : World) (S : Nat → Prop) (I : Nat → World → Prop) (Ix : Code → World → Prop) (i : Nat) (W : World) : Exit → Act → World → Prop
  | .normal, _, W' => Keeps (fun b => S b ∧ ¬ Book w b) W W' ∧ I (i + 1) W'
  | .ret, _, W' => Keeps (fun b => S b ∧ ¬ Book w b) W W' ∧ Ix .ret W'
  | .exit id, _, W' => Keeps (fun b => S b ∧ ¬ Book w b) W W' ∧ Ix (.exit id) W'
  | .goto t, _, W' => Keeps (fun b => S b ∧ ¬ Book w b) W W' ∧ Ix (.goto t) W'
  | .panic _, _, _ => False
  | .outgrown, _, _ => False
theorem roundEnd_shut {w W : World} {S : Nat → Prop} {I : Nat → World → Prop} {Ix : Code → World → Prop} {i : Nat} : ¬ LetsOut (roundEnd w S I Ix i W) := by
  rintro ⟨a, w', h⟩
  exact h

theorem wp_range {g : Operand} {ps : Array Tmp} {assign body : Code} {Q : Exit → Act → World → Prop} {a : Act} {w : World} {gf : Nat} {lb : Array Value}
    (hg : a.eval g = .func (.func gf) #[] lb) (eg : ∀ args w, (callFunc gf args).run P w = .ok (.enter gf args) w)
    {N : Nat} {Φ : Nat → Array Value → World → Prop} {S : Nat → Prop} (hit : Iter P (n - 1) gf lb N Φ S w) (hS : ∀ b, Book w b → S b)
    (hps : ∀ i args W, Φ i args W → args.size = ps.size)
    (I : Nat → World → Prop) (Ix : Code → World → Prop) (hI : ∀ i A B, I i A → Keeps (Book w) A B → I i B) (hIx : ∀ c A B, Ix c A → Keeps (Book w) A B → Ix c B) (h0 : I 0 w)
    (hround : ∀ (l i : Nat) (args : Array Value) (W : World), l = w.heap.size + 1 → w.heap.size + 1 < W.heap.size → I i W → i < N → Φ i args W →
      assign.wpIn (Fence.wide.inRound l) (n - 1 - 1) P (Exit.then (fun a1 W1 => Keeps Nb W W1 ∧ ∀ W2, Keeps (· = l) W1 W2 → body.wpIn (Fence.wide.inRound l) (n - 1 - 1) P (roundEnd w S I Ix i W2) a1 W2) (fun _ _ _ => False))
        { tmps := (ps.zip args).foldl (fun t (p, v) => t.setIfInBounds p v) a.tmps, defers := [] } W)
    (hdone : ∀ W, I N W → W.heap[w.heap.size]? = some (.deferred (some [])) → Q .normal { a with defers := { target := .collected w.heap.size, args := #[] } :: a.defers } W)
    (hstop : ∀ c W, Ix c W → W.heap[w.heap.size]? = some (.deferred (some [])) → c.wpIn Fence.wide n P Q { a with defers := { target := .collected w.heap.size, args := #[] } :: a.defers } W) :
    (Code.rangeFunc g ps assign body).wpIn Fence.wide n P Q a w := by
  refine wpIn_rangeFunc fun fn _ => ?_
  -- the record, in each of its states
  let rec' : LoopState → Option Code → Loop := fun st pe => { state := st, pending := pe, fn, tmps := a.tmps, params := ps, assign, body, defers := w.heap.size }
  let W1 := (w.alloc (.deferred (some []))).alloc (.loop (rec' .ready none))
  have K1 : Keeps Nb w W1 := ((Keeps.refl Nb w).alloc _).alloc _
  have L1 : W1.heap[w.heap.size + 1]? = some (.loop (rec' .ready none)) := by
    have := World.alloc_heap_new (w.alloc (.deferred (some []))) (.loop (rec' .ready none))
    rwa [World.size_alloc] at this
  have D1 : W1.heap[w.heap.size]? = some (.deferred (some [])) := (Below.heap_alloc _ _ _ (by simp)).trans (World.alloc_heap_new w _)
  have hnb : ∀ {A B : World}, Keeps Nb A B → Keeps (Book w) A B := fun h => h.of_nb
  have hl : ∀ (W : World) (o : Obj), Keeps (Book w) W (W.putObj (w.heap.size + 1) o) := fun W o => (keeps_putObj W _ o).mono fun i _ e => .inr e
  refine ⟨w.heap.size + 1, [{ target := .collected w.heap.size, args := #[] }], W1, { target := .fn (.func gf) lb, args := #[.func (.yield (w.heap.size + 1)) #[] #[]] }, W1, gf,
    #[.func (.yield (w.heap.size + 1)) #[] #[]] ++ lb, W1, run_enterLoop_outer _ _ _ _ _, ?_, fun _ _ => trivial, ?_, ?_, ?_⟩
  · simp only [resolve, hg]
    simp [go_sem]
  · simp [invoke, go_sem, eg]
  · intro h; cases h
  have key := hit (w.heap.size + 1) (fun i W => I i W ∧ W.heap[w.heap.size + 1]? = some (.loop (rec' .ready none)) ∧ W.heap[w.heap.size]? = some (.deferred (some [])))
    (fun W => ∃ c, Ix c W ∧ W.heap[w.heap.size + 1]? = some (.loop (rec' .done (some c))) ∧ W.heap[w.heap.size]? = some (.deferred (some []))) W1 K1 (by simp [W1])
    (fun i A B ⟨h1, h2, h3⟩ k => ⟨hI i A B h1 (hnb k), k.nb h2, k.nb h3⟩)
    (fun A B ⟨c, h1, h2, h3⟩ k => ⟨c, hIx c A B h1 (hnb k), k.nb h2, k.nb h3⟩) ?_ ⟨hI _ _ _ h0 (hnb K1), L1, D1⟩
  · refine key.mono ?_
    rintro e W2 ⟨⟨v, rfl⟩, ⟨h1, h2, h3⟩ | ⟨c, h1, h2, h3⟩⟩
    · exact ⟨none, _, run_endLoop h2 (by simp [rec']), hdone _ (hI _ _ _ h1 (hl _ _)) ((World.putObj_heap_other (by omega)).trans h3)⟩
    · exact ⟨some c, _, run_endLoop h2 (by simp [rec']), hstop c _ (hIx _ _ _ h1 (hl _ _)) ((World.putObj_heap_other (by omega)).trans h3)⟩
  · rintro i args W ⟨h1, h2, h3⟩ hN hφ
    have hlt := lt_of_block h2
    refine ⟨fn, _, assign, body, run_yield h2 (hps i args W hφ), roundIn_of_wpIn trivial (wpIn_mono (hround _ i args W rfl hlt h1 hN hφ) ?_)⟩
    rintro e a1 W2 h
    cases e with
    | normal =>
      obtain ⟨k2, hb⟩ := h
      have l2 := k2.nb h2
      have d2 := k2.nb h3
      refine ⟨_, run_beginRound l2 rfl, ?_⟩
      obtain ⟨W3, hW3⟩ : ∃ W3, W2.putObj (w.heap.size + 1) (.loop { rec' .ready none with state := .busy }) = W3 := ⟨_, rfl⟩
      have l3 : W3.heap[w.heap.size + 1]? = some (.loop (rec' .busy none)) := hW3 ▸ World.putObj_heap_same (lt_of_block l2)
      have d3 : W3.heap[w.heap.size]? = some (.deferred (some [])) := hW3 ▸ (World.putObj_heap_other (by omega)).trans d2
      have k3 : Keeps (· = w.heap.size + 1) W2 W3 := hW3 ▸ keeps_putObj _ _ _
      have kS : Keeps S W W3 := (k2.of_nb).trans k3 (fun i _ e => hS i (.inr e))
      refine wpIn_mono (show body.wpIn _ _ P (roundEnd w S I Ix i W3) a1 _ from hW3 ▸ hb W3 k3) ?_
      have fin : ∀ (jump : Option Code) (W4 : World), Keeps (fun b => S b ∧ ¬ Book w b) W3 W4 →
          (Instr.endRound (w.heap.size + 1) jump).run P W4 = .ok (.bool jump.isNone) (W4.putObj (w.heap.size + 1) (.loop (rec' (if jump.isNone then .ready else .done) jump))) ∧
          (W4.putObj (w.heap.size + 1) (.loop (rec' (if jump.isNone then .ready else .done) jump))).heap[w.heap.size + 1]? = some (.loop (rec' (if jump.isNone then .ready else .done) jump)) ∧
          (W4.putObj (w.heap.size + 1) (.loop (rec' (if jump.isNone then .ready else .done) jump))).heap[w.heap.size]? = some (.deferred (some [])) := fun jump W4 k4 => by
        have l4 : W4.heap[w.heap.size + 1]? = some (.loop (rec' .busy none)) := (k4.block _ (lt_of_block l3) (fun h => h.2 (.inr rfl))).trans l3
        have d4 : W4.heap[w.heap.size]? = some (.deferred (some [])) := (k4.block _ (lt_of_block d3) (fun h => h.2 (.inl rfl))).trans d3
        exact ⟨run_endRound jump l4, World.putObj_heap_same (lt_of_block l4), (World.putObj_heap_other (by omega)).trans d4⟩
      rintro e2 a2 W4 hp
      cases e2 with
      | normal =>
        obtain ⟨k4, hi⟩ := hp
        obtain ⟨hr, hl4, hd4⟩ := fin none W4 k4
        exact ⟨_, _, hr, .inl ⟨rfl, ⟨hI _ _ _ hi (hl _ _), hl4, hd4⟩, (kS.trans k4 (fun i _ e => e.1)).trans (keeps_putObj _ _ _) (fun i _ e => hS i (.inr e))⟩⟩
      | ret =>
        obtain ⟨k4, hi⟩ := hp
        obtain ⟨hr, hl4, hd4⟩ := fin (some .ret) W4 k4
        exact ⟨_, _, hr, .inr ⟨rfl, .ret, hIx _ _ _ hi (hl _ _), hl4, hd4⟩⟩
      | exit id =>
        obtain ⟨k4, hi⟩ := hp
        obtain ⟨hr, hl4, hd4⟩ := fin (some (.exit id)) W4 k4
        exact ⟨_, _, hr, .inr ⟨rfl, .exit id, hIx _ _ _ hi (hl _ _), hl4, hd4⟩⟩
      | goto t =>
        obtain ⟨k4, hi⟩ := hp
        obtain ⟨hr, hl4, hd4⟩ := fin (some (.goto t)) W4 k4
        exact ⟨_, _, hr, .inr ⟨rfl, .goto t, hIx _ _ _ hi (hl _ _), hl4, hd4⟩⟩
      | panic ch => exact hp.elim
      | outgrown => exact hp.elim
    | exit id => exact h.elim
    | goto t => exact h.elim
    | ret => exact h.elim
    | panic chain => exact h.elim
    | outgrown => exact h.elim

theorem shut_then {K : Act → World → Prop} {Q : Exit → Act → World → Prop} (h : ¬ LetsOut Q) : ¬ LetsOut (Exit.then K Q) := fun ⟨a, w, e⟩ => h ⟨a, w, e⟩
theorem shut_block {id : Nat} {Q : Exit → Act → World → Prop} (h : ¬ LetsOut Q) : ¬ LetsOut (Exit.inBlock id Q) := fun ⟨a, w, e⟩ => h ⟨a, w, e⟩
/-- No way out by a panic. -/
def ends (Q : Exit → Act → World → Prop) : Exit → Act → World → Prop
  | .panic _, _, _ => False
  | .outgrown, _, _ => False
  | e, a, w => Q e a w
theorem ends_of {Q : Exit → Act → World → Prop} (e : Exit) (a : Act) (w : World) (h : ends Q e a w) : Q e a w := by
  cases e <;> first | exact h | exact h.elim
theorem calls_marks {f : FuncId} {fn : Func} {c : Code} {args : Array Value} {w : World} {R : Ending → World → Prop} (hf : P.funcs[f]? = some fn) (hb : fn.body = some c)
    (h : c.wp P (ends (bodyPostM Fence.wide 9 P fn R)) { tmps := args ++ Array.replicate (fn.ntmps - args.size) undef, defers := [] } w) : Calls P f args w R :=
  callsIn_wide.1 (callsIn_of_wp_marks (n := 9) hf hb trivial (wpIn_wide.2 (wp_mono h ends_of)) rfl)
/-! Stops of the fenced walk, and an operation by its run. -/
section
variable {F : Fence} {ops : Array Oper} {rest : List Oper} {dst : Option Tmp} {s x : Operand} {t ty : TypeId} {pos : String} {aft : Array Edge} {gd : Option (Nat × Bool)} {a : Act} {w w' : World} {Q : Exit → Act → World → Prop}
theorem stop_region {id : Nat} {draw : Bool} (h : At ((Code.region id ops draw).wpIn F n P Q a w)) : (Code.region id ops draw).wpIn F n P Q a w := h
theorem stop_range {g : Operand} {ps : Array Tmp} {c c2 : Code} (h : At ((Code.rangeFunc g ps c c2).wpIn F n P Q a w)) : (Code.rangeFunc g ps c c2).wpIn F n P Q a w := h
theorem stop_range0 {g : Operand} {ps : Array Tmp} {c c2 : Code} (h : At ((Code.rangeFunc g ps c c2).wp P Q a w)) : (Code.rangeFunc g ps c c2).wp P Q a w := h
theorem stopi_load (h : At (wpListIn F n P ops Q (⟨dst, .load t x, ty, pos, aft, gd⟩ :: rest) a w)) : wpListIn F n P ops Q (⟨dst, .load t x, ty, pos, aft, gd⟩ :: rest) a w := h
theorem wide_val {o : Oper} {v : Value} {l : Option Nat} (hd : ∀ c, o.op ≠ .defer c) (hw : Region.wanted o (yielded ops a.tmps) = true) (hr : (execOp a.eval o).run P w = .ok (.value v) w')
    (h : wpListIn { Fence.wide with round := l } n P ops Q rest (a.put o.dst v) w') : wpListIn { Fence.wide with round := l } n P ops Q (o :: rest) a w :=
  wpListIn_step fun K hK => by
    rw [if_pos hw]
    refine ⟨fun _ _ => trivial, ?_⟩
    rw [Oper.semAt_eq _ _ _ hd, hr]
    exact hK _ _ h
theorem re_box {v : Value} (hx : a.eval x = v) : ∃ v' w', (execOp a.eval ⟨dst, .box t x, ty, pos, aft, gd⟩).run P w = .ok (.value v') w' ∧ IsNew w (.cells v.cells t) v' w' :=
  ⟨_, w.alloc (.cells v.cells t), by unfold execOp; simp only [hx, Instr.box, newVar, newRow, Sem.run_bind, Sem.run_pure, Result.andThen_ok, Sem.run, newObj]; rfl, _, rfl, newAt _ _⟩
end
end Go.Lk
