/- Operations, lists, drawn regions of a plain walk serve in a round of a range over a function too (the fence: the wide one, in a round). -/
import Derived.Test.YtgpecnihjjnkeaaOrd2
import Derived.RangeFuncNested
import Derived.OrdersIn
import Derived.TacticsIn
namespace Go.Lk
open Go.RowKit
set_option linter.unusedVariables false
variable {P : Program} {l n : Nat}

theorem callsIn_round {f : FuncId} {args : Array Value} {w : World} {R : Ending → World → Prop} (h : Calls P f args w R) : CallsIn (Fence.wide.inRound l) n P f args w R :=
  CallsIn.inRound l (callsIn_wide.2 h)
theorem rowsIn_round {row : String} {args : Array Value} {w : World} {R : Value → World → Prop} (h : Rows P row args w R) : RowsIn (Fence.wide.inRound l) n P row args w R :=
  fun c cs _ => let ⟨v, w', r, s⟩ := h c cs; ⟨v, w', r, stepsIn_wide.2 s⟩
/-- An operation that is no defer. -/
theorem operIn {o : Oper} {a : Act} {w : World} {K : Act → World → Prop} {Q : Exit → Act → World → Prop} (hd : ∀ c, o.op ≠ .defer c) (h : o.wp P a w K Q) : o.wpIn (Fence.wide.inRound l) n P a w K Q := by
  unfold Oper.wp at h
  refine ⟨fun _ _ => trivial, ?_⟩
  rw [Oper.semAt_eq _ _ _ hd]
  generalize (execOp a.eval o).run P w = r at *
  cases r with
  | ok x w' =>
    cases x <;> simp only [Oper.upon, Oper.uponIn] at h ⊢ <;> first
      | exact h
      | exact ⟨fun hh => (by cases hh), callsIn_round h⟩
      | exact ⟨fun hh => (by cases hh), rowsIn_round h⟩
  | halt x w' => cases x <;> simp only [Oper.upon, Oper.uponIn] at h ⊢ <;> exact h
def noDefer (ops : Array Oper) : Bool := ops.all fun o => match o.op with | .defer _ => false | _ => true
theorem noDefer_at {ops : Array Oper} (h : noDefer ops = true) {i : Nat} {o : Oper} (hi : ops[i]? = some o) : ∀ c, o.op ≠ .defer c := by
  intro c hc
  unfold noDefer at h
  rw [Array.all_eq_true] at h
  obtain ⟨hl, he⟩ := Array.getElem?_eq_some_iff.1 hi
  have := h i hl
  rw [he, hc] at this
  cases this
theorem anyIn {ops : Array Oper} {md : Region.Mode} {Q : Exit → Act → World → Prop} (hd : noDefer ops = true) (hQ : ¬ LetsOut Q) : ∀ (fuel : Nat) (L : Array Bool) (a : Act) (w : World), wpAny P md ops Q fuel L a w → wpAnyIn (Fence.wide.inRound l) n P md ops Q fuel L a w
  | 0, _, _, _, h => h
  | fuel + 1, L, a, w, h => by
    refine ⟨h.1, fun i hi => ?_⟩
    have h2 := h.2 i hi
    unfold wpOp at h2
    unfold wpOpIn
    cases ho : ops[i]? with
    | none => simp only [ho] at h2 ⊢; exact anyIn hd hQ fuel _ a w h2
    | some o =>
      simp only [ho] at h2 ⊢
      split
      · rename_i hw; rw [if_pos hw] at h2; exact operIn (noDefer_at hd ho) (Oper.wp_mono (fun a' w' h' => anyIn hd hQ fuel _ a' w' h') (h2.resolve_right fun h => hQ h.2))
      · rename_i hw; rw [if_neg hw] at h2; exact ⟨fun _ _ => trivial, anyIn hd hQ fuel _ _ _ h2⟩
theorem listIn {ops : Array Oper} {Q : Exit → Act → World → Prop} (hQ : ¬ LetsOut Q) : ∀ (rest : List Oper) (hd : noDefer rest.toArray = true) (a : Act) (w : World), wpList P ops Q rest a w → wpListIn (Fence.wide.inRound l) n P ops Q rest a w
  | [], _, _, _, h => h
  | o :: rest, hd, a, w, h => by
    have hd1 : ∀ c, o.op ≠ .defer c := noDefer_at hd (i := 0) (by simp)
    have hd2 : noDefer rest.toArray = true := by
      unfold noDefer at hd ⊢
      simp only [List.all_toArray, List.all_cons, Bool.and_eq_true] at hd ⊢
      exact hd.2
    unfold wpList at h
    unfold wpListIn
    split
    · rename_i hw; rw [if_pos hw] at h; exact operIn hd1 (Oper.wp_mono (fun a' w' h' => listIn hQ rest hd2 a' w' h') (h.resolve_right fun h => hQ h.2))
    · rename_i hw; rw [if_neg hw] at h; exact ⟨fun _ _ => trivial, listIn hQ rest hd2 _ _ h⟩
theorem regionIn_quiet {ops : Array Oper} {C : World → Prop} {id : Nat} {Q : Exit → Act → World → Prop} {a : Act} {w : World} (hd : noDefer ops = true) (hQ : ¬ LetsOut Q) (hm : P.follows .mixedOrders = true) (hB : Region.lexB .any ops = true) (hC : C { w with drawn := w.drawn + 1 })
    (h : wpQuiet P ops C (fun a' => ∀ w', C w' → Q .normal a' w') ops.toList a) : (Code.region id ops true).wpIn (Fence.wide.inRound l) n P Q a w := by
  simp only [Region.lexB, Bool.and_eq_true] at hB
  refine wpIn_region_any hm (anyIn hd hQ _ _ _ _ (wpAny_of_quiet (Q := fun a' => ∀ w', C w' → Q .normal a' w') (fun _ w' hw' h => h w' hw') _ _ _ _ hC ?_))
  have := wpAnyQ_lex (C := C) (md := .any) hB.1 ops.toList 0 (Array.replicate ops.size false) a (by simp) (by simpa using hB.2) h
  simpa using this
theorem regionIn_sub {id : Nat} {Q : Exit → Act → World → Prop} {a : Act} {w : World} {os : List Oper} (hd : noDefer os.toArray = true) (hQ : ¬ LetsOut Q) (hm : P.follows .mixedOrders = true) (hB : Region.lexB .any os.toArray = true)
    (h : wpQuiet P os.toArray (fun w' => ∃ u : Sub w, w' = u.wd) (fun a' => ∀ w', (∃ u : Sub w, w' = u.wd) → Q .normal a' w') os a) : (Code.region id os.toArray true).wpIn (Fence.wide.inRound l) n P Q a w :=
  regionIn_quiet (C := fun w' => ∃ u : Sub w, w' = u.wd) hd hQ hm hB ⟨⟨_, (Keeps.refl Nb w).drewN 1⟩, rfl⟩ (by simpa using h)
/-- A region that draws nothing. -/
theorem regionIn_list {id : Nat} {Q : Exit → Act → World → Prop} {a : Act} {w : World} {os : List Oper} (hd : noDefer os.toArray = true) (hQ : ¬ LetsOut Q) (h : wpList P os.toArray Q os a w) : (Code.region id os.toArray false).wpIn (Fence.wide.inRound l) n P Q a w :=
  wpIn_region_list (listIn hQ os hd a w h)
/-- A region in two phases. -/
theorem WT.regionIn {ops : Array Oper} {Q : Exit → Act → World → Prop} {id m : Nat} {a : Act} {w : World} (S : World → Prop) (k : Nat) (plan : List Nat) (hd : noDefer ops = true) (hQ : ¬ LetsOut Q) (hm : P.follows .mixedOrders = true) (hn : ops.size = m) (h : WT P ops Q S k m plan 0 a w.drew) :
    (Code.region id ops true).wpIn (Fence.wide.inRound l) n P Q a w := by
  subst hn
  exact wpIn_region_any hm (anyIn hd hQ _ _ _ _ (wpAny_of_T _ _ _ _ h.h))
end Go.Lk
