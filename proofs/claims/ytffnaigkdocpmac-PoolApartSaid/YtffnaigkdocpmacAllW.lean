/- All of a pool: the closure over a new row of all its votes. -/
import Derived.Test.YtffnaigkdocpmacClos
set_option linter.unusedVariables false
set_option linter.unusedSimpArgs false
namespace Go.Proofs.Ytffnaigkdocpmac
open Go.RowKit Go.Lk Go.Pool

theorem zero22 : (Try.prog.info? 22).map (·.zero) = some (some (.slice none 0 0)) := by kernel_rfl
/-- What All answers: the closure, over the variable g that holds the row v. -/
def Overs (w : World) (cs : List Ct) (e : Ending) (w' : World) : Prop :=
  ∃ g v, e = .returned (.func (.func 41) #[] #[.pointer (some ⟨g, 0, none⟩)]) ∧ w.heap.size ≤ g ∧ w'.heap[g]? = some (.cells #[v] 22 (0, 0)) ∧ Fresh w w' v cs ∧ Keeps Nb w w'
set_option maxRecDepth 100000 in
set_option maxHeartbeats 1000000 in
theorem all_at (p : Nat) (F R : Nat → Prop) (cs : List Ct) (w : World) (h : PoolAt w p F R cs) (hsg : ∀ c ∈ cs, c.sig.length ≤ 1000000) :
    Calls Try.prog 22 #[.pointer (some ⟨p, 0, none⟩)] w (Overs w cs) := by
  have hmf : ∀ (fn : Fn) (first cap : Array Value) (w : World), (Instr.makeFunc fn first cap).run Try.prog w = .ok (.func fn first cap) w := fun _ _ _ _ => rfl
  have HX := Lib.hid (those_at p F R cs (fun _ => true) 40 #[] _ w h hsg (.inr (.inr ⟨rfl, rfl, rfl⟩)) (wants_all w _ cs))
  rw [show cs.filter (fun _ => true) = cs from List.filter_eq_self.2 (fun _ _ => rfl)] at HX
  clear h hsg
  go_enter Try.func22, Try.ntmps22
  go_wp2_with fail
  refine HX.out.mono ?_
  rintro _ w2 ⟨v, rfl, hf, k2⟩
  obtain ⟨a, c, rfl, -⟩ := hf.list
  go_wp2_with (first | go_skip | (with_reducible refine stop_alloc (t := 22) ?_) | (with_reducible refine stop_store (t := 22) ?_))
  refine at_out (valloc zero22 ?_); intro g w3 n3
  simp only [Nat.reduceAdd, Nat.zero_add, Act.put, List.setIfInBounds_toArray, List.set_cons_succ, List.set_cons_zero]
  go_wp2_with (first | go_skip | (with_reducible refine stop_alloc (t := 22) ?_) | (with_reducible refine stop_store (t := 22) ?_))
  refine at_out (wpList_skipE rfl (re_store (v := .slice a cs.length c) (n := 1) (by kernel_rfl) (by rfl) (by rfl) n3.blk (by rfl) (by simp [Value.cells]) (by simp [Value.cells, Value.oneCell'])) ?_)
  intro w4 s4
  simp only [Nat.reduceAdd, Nat.zero_add, Act.put, List.setIfInBounds_toArray, List.set_cons_succ, List.set_cons_zero]
  have K4 := (k2.trans_nb n3.k).own (k := g) (Nat.le_trans k2.size n3.ge) s4.k
  have K24 := n3.k.own (k := g) n3.ge s4.k
  have hb := s4.blk
  rw [show splice (Value.slice none 0 0).cells (Value.slice a cs.length c).cells 0 = #[.slice a cs.length c] from rfl] at hb
  have HF := Lib.hid (hf.nb K24)
  have hg : w.heap.size ≤ g := Nat.le_trans k2.size n3.ge
  clear hf n3 s4
  go_wp2
  go_ret
  exact ⟨g, _, rfl, hg, hb, HF.out, K4⟩
end Go.Proofs.Ytffnaigkdocpmac
