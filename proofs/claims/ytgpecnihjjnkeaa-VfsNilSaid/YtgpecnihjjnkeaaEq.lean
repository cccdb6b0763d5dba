/- Two arrays of numbers, compared. -/
import Derived.Test.YtgpecnihjjnkeaaArr
import Derived.DeepKeys
namespace Go.Lk
open Go.RowKit
set_option linter.unusedVariables false
variable {P : Program} {t e : TypeId} {len : Nat} {k : IntKind}

/-- What is asked of a type that is an array of numbers. -/
structure ArrT (P : Program) (t e : TypeId) (len : Nat) (k : IntKind) : Prop where
  hu : P.underlying t = some (.array len e)
  he : P.underlying e = some (.int k)
  ce : P.cellsOf e = 1
  ct : P.cellsOf t = len
  key : P.keyTypeAt 2 t = true
  guard : P.eqGuardType P.depth t = false

theorem keyLits_arr (A : ArrT P t e len k) {m : List Nat} (hm : m.length = len) (hw : ∀ x ∈ m, (Lit.int k (x : Nat)).wf = true) (d : Nat) :
    P.keyLits (d + 2) t (arrV k m).toList = some (m.map fun x => Lit.int k (x : Nat)) := by
  unfold Program.keyLits
  rw [A.hu]
  have hl : (arrV k m).toList.length = P.cellsOf t := by rw [A.ct, Array.length_toList, arrV_size, hm]
  simp only [hl, if_true]
  have h : (List.range len).mapM (fun i => P.keyLits (d + 1) e (((arrV k m).toList.drop (i * P.cellsOf e)).take (P.cellsOf e))) = some (m.map fun x => [Lit.int k (x : Nat)]) := by
    have h2 : ∀ (l : List Nat) (off : Nat), (∀ i, i < l.length → (arrV k m).toList[off + i]? = some (.int k (ntn l i : Nat))) → (∀ x ∈ l, (Lit.int k (x : Nat)).wf = true) →
        (List.range' off l.length).mapM (fun i => P.keyLits (d + 1) e (((arrV k m).toList.drop (i * P.cellsOf e)).take (P.cellsOf e))) = some (l.map fun x => [Lit.int k (x : Nat)]) := by
      intro l
      induction l with
      | nil => intro off _ _; simp
      | cons x l ih =>
        intro off h1 h3
        rw [List.length_cons, List.range'_succ, List.mapM_cons]
        have hx : (((arrV k m).toList.drop (off * P.cellsOf e)).take (P.cellsOf e)) = [.int k (x : Nat)] := by
          rw [A.ce, Nat.mul_one]
          have := h1 0 (by simp)
          rw [Nat.add_zero] at this
          have hlt : off < (arrV k m).toList.length := by
            rcases Nat.lt_or_ge off (arrV k m).toList.length with h | h
            · exact h
            · rw [List.getElem?_eq_none h] at this; cases this
          rw [List.drop_eq_getElem_cons hlt, List.take_succ_cons, List.take_zero]
          rw [List.getElem?_eq_getElem hlt] at this
          simp only [Option.some.injEq] at this
          rw [this]; rfl
        have hk : P.keyLits (d + 1) e [.int k (x : Nat)] = some [Lit.int k (x : Nat)] := by
          unfold Program.keyLits
          rw [A.he]
          simp [h3 x (by simp)]
        rw [hx, hk, ih (off + 1) (fun i hi => by
          have := h1 (i + 1) (by simpa using hi)
          rw [show off + 1 + i = off + (i + 1) by omega, this]; rfl) (fun y hy => h3 y (by simp [hy]))]
        rfl
    have := h2 m 0 (fun i hi => by
      rw [Nat.zero_add, arrV]
      simp only [List.getElem?_map, List.getElem?_eq_getElem hi, Option.map_some, ntn_eq hi]) hw
    rw [List.range_eq_range', ← hm]; exact this
  rw [h]
  simp only [Option.map_some, Option.some.injEq]
  clear h hm hw hl
  induction m with
  | nil => rfl
  | cons x m ih => simp [ih]

theorem run_equal_arr (A : ArrT P t e len k) {a b : List Nat} (ha : a.length = len) (hb : b.length = len) (wa : ∀ x ∈ a, (Lit.int k (x : Nat)).wf = true) (wb : ∀ x ∈ b, (Lit.int k (x : Nat)).wf = true) (w : World) :
    (Op.equal t (.agg (arrV k a)) (.agg (arrV k b))).run P w = .ok (decide (a = b)) w := by
  have fa : ∀ {m : List Nat}, m.length = len → (Value.agg (arrV k m)).formed P t = true := fun {m} h => by simp [Value.formed, A.hu, arrV_size, h, A.ct]
  obtain ⟨r, h1, h2⟩ := run_equalIn_deep (P := P) 9998 2 t A.key w 2 2 (.agg (arrV k a)) (.agg (arrV k b)) _ _ (fa ha) (fa hb) (keyLits_arr A ha wa 0) (keyLits_arr A hb wb 0)
  have hinj : (a.map fun x => Lit.int k (x : Nat)) = (b.map fun x => Lit.int k (x : Nat)) ↔ a = b := by
    constructor
    · intro h
      exact List.map_inj_right (fun x y h => by simp at h; omega) |>.1 h
    · rintro rfl; rfl
  rw [hinj] at h2
  show (Op.equalIn (9998 + 2) t (.agg (arrV k a)) (.agg (arrV k b))).run P w = _
  rw [h1]
  congr 1
  rw [Bool.eq_iff_iff, h2]; simp

/-- '==' of two such arrays: as an operation of a region that draws its order. -/
theorem quiet_eql {C : World → Prop} {K : Act → Prop} {a : Act} {dst : Option Tmp} {x y : Operand} {ty t2 : TypeId} {pos : String} {aft : Array Edge} {gd : Option (Nat × Bool)} (A : ArrT P t e len k) {m n : List Nat} (hx : a.eval x = .agg (arrV k m)) (hy : a.eval y = .agg (arrV k n))
    (hm : m.length = len) (hn : n.length = len) (wm : ∀ x ∈ m, (Lit.int k (x : Nat)).wf = true) (wn : ∀ x ∈ n, (Lit.int k (x : Nat)).wf = true) (h : K (a.put dst (.bool (decide (m = n))))) :
    Oper.quiet P ⟨dst, .binOp .eql t x y t2, ty, pos, aft, gd⟩ a C K := by
  refine ⟨_, fun w _ => ?_, h⟩
  unfold Oper.quietAt execOp
  simp [hx, hy, eqGuard, A.guard, binOp, run_equal_arr A hm hn wm wn]
  exact ⟨rfl, rfl⟩

theorem quiet_loadAll {C : World → Prop} {K : Act → Prop} {a : Act} {dst : Option Tmp} {x : Operand} {ty T : TypeId} {pos : String} {aft : Array Edge} {gd : Option (Nat × Bool)} {n g : Nat} {cs : Array Value} {fr : Nat × Nat} (A : AggT P t n)
    (hx : a.eval x = .pointer (some ⟨g, 0, none⟩)) (hg : ∀ w, C w → w.heap[g]? = some (.cells cs T fr)) (hn : cs.size = n) (h : K (a.put dst (.agg cs))) :
    Oper.quiet P ⟨dst, .load t x, ty, pos, aft, gd⟩ a C K := by
  refine ⟨_, fun w hw => ?_, h⟩
  have hl := run_loadAgg (w := w) (off := 0) A (hg w hw) (by omega)
  rw [Nat.zero_add, ← hn, Array.extract_size] at hl
  unfold Oper.quietAt execOp
  simp only [hx, Instr.loadAt, Instr.sureAddr, Sem.run_bind, Sem.run_pure, Result.andThen_ok, hl]
  exact ⟨rfl, rfl⟩

/-- The two as steps of a quiet walk. -/
theorem wpq_loadAll {ops : Array Oper} {rest : List Oper} {C : World → Prop} {Q : Act → Prop} {a : Act} {dst : Option Tmp} {x : Operand} {ty T : TypeId} {pos : String} {aft : Array Edge} {n g : Nat} {cs : Array Value} {fr : Nat × Nat} (A : AggT P t n)
    (hx : a.eval x = .pointer (some ⟨g, 0, none⟩)) (hg : ∀ w, C w → w.heap[g]? = some (.cells cs T fr)) (hn : cs.size = n) (h : wpQuiet P ops C Q rest (a.put dst (.agg cs))) :
    wpQuiet P ops C Q (⟨dst, .load t x, ty, pos, aft, none⟩ :: rest) a :=
  wpQuiet_step fun _ hK => by rw [if_pos (by simp [Region.wanted])]; exact quiet_loadAll A hx hg hn (hK _ h)
theorem wpq_eql {ops : Array Oper} {rest : List Oper} {C : World → Prop} {Q : Act → Prop} {a : Act} {dst : Option Tmp} {x y : Operand} {ty t2 : TypeId} {pos : String} {aft : Array Edge} (A : ArrT P t e len k) {m n : List Nat} (hx : a.eval x = .agg (arrV k m)) (hy : a.eval y = .agg (arrV k n))
    (hm : m.length = len) (hn : n.length = len) (wm : ∀ x ∈ m, (Lit.int k (x : Nat)).wf = true) (wn : ∀ x ∈ n, (Lit.int k (x : Nat)).wf = true) (h : wpQuiet P ops C Q rest (a.put dst (.bool (decide (m = n))))) :
    wpQuiet P ops C Q (⟨dst, .binOp .eql t x y t2, ty, pos, aft, none⟩ :: rest) a :=
  wpQuiet_step fun _ hK => by rw [if_pos (by simp [Region.wanted])]; exact quiet_eql A hx hy hm hn wm wn (hK _ h)
end Go.Lk
