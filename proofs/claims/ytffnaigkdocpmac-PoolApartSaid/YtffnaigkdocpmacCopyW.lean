/- Copy of a pool: rows that are shared, and full; maps of its own. -/
import Derived.Test.YtffnaigkdocpmacSameW
import Derived.Laws.Externs
import Derived.MapKept
set_option linter.unusedVariables false
set_option linter.unusedSimpArgs false
namespace Go.Pool
open Go.Lk Go.RowKit
theorem RowS.clip {w : World} {F R F2 : Nat → Prop} {e size n c : Nat} {a : Option Addr} {xs : List Value} (h : RowS w F R e size (.slice a n c) n xs) : RowS w F2 (fun k => F k ∨ R k) e size (.slice a n n) n xs := by
  obtain ⟨h1, h2, a', c', e3, h4, h5, h6, h7, -⟩ := h
  cases e3
  exact ⟨h1, h2, a, n, rfl, Nat.le_refl _, Nat.le_trans h4 h5, h6, fun b off e hz => ⟨.inr (h7 b off e hz).1, (h7 b off e hz).2⟩, .inl rfl⟩
end Go.Pool
namespace Go.Proofs.Ytffnaigkdocpmac
open Go.RowKit Go.Lk Go.Pool
theorem clip36 (a : Option Addr) (n c : Nat) (w : World) (h : n ≤ c) (hm : c ≤ maxLen) : Calls Try.prog 36 #[.slice a n c] w fun e w' => e = .returned (.slice a n n) ∧ w = w' := by
  unfold maxLen at hm
  go_enter Try.func36, Try.ntmps36
  go_wp2
  go_ret
  exact ⟨rfl, rfl⟩
theorem clip37 (a : Option Addr) (n c : Nat) (w : World) (h : n ≤ c) (hm : c ≤ maxLen) : Calls Try.prog 37 #[.slice a n c] w fun e w' => e = .returned (.slice a n n) ∧ w = w' := by
  unfold maxLen at hm
  go_enter Try.func37, Try.ntmps37
  go_wp2
  go_ret
  exact ⟨rfl, rfl⟩
theorem run_clone {P : Program} {w : World} {r : Nat} {es : Array MapEntry} {clock : Nat} (t : TypeId) (hb : w.heap[r]? = some (.map es clock)) :
    (Extern.MapsClone.clone #[.iface t (.map (some r))]).run P w = .ok (.iface t (.map (some w.heap.size))) (w.alloc (.map es clock)) := by
  have e : Extern.MapsClone.clone #[.iface t (.map (some r))] = (getObj r >>= fun o => match o with
      | .map entries clock => (newObj (.map entries clock) >>= fun n => pure (.iface t (.map (some n))))
      | _ => stuck "maps.clone: a map expected") := rfl
  rw [e]
  simp [MapKept.run_getObj_map hb, Result.andThen, go_sem]
theorem run_assertMap {P : Program} {w : World} (t xT k e : TypeId) (v : Value) (h : P.underlying t = some (.map k e)) : (Instr.typeAssert (.iface t v) xT t false).run P w = .ok v w := by
  simp [Instr.typeAssert, run_underlying h, go_sem, Result.andThen]
/-- A map's copy. -/
def Cloned2 (es : Array MapEntry) (clock : Nat) (w : World) (e : Ending) (w' : World) : Prop := ∃ g, e = .returned (.map (some g)) ∧ NewAt w w' g (.map es clock)
theorem clone38 (b : Nat) (es : Array MapEntry) (clock : Nat) (w : World) (hb : w.heap[b]? = some (.map es clock)) : Calls Try.prog 38 #[.map (some b)] w (Cloned2 es clock w) := by
  have q : ∀ (w : World) (r : Option Nat), (binOp .eql 65 (.map r) (.map none)).run Try.prog w = .ok (.bool r.isNone) w := fun w r => run_eql_map_nil w _ _ _ r Try.underlying65
  go_enter Try.func38, Try.ntmps38
  go_wp2
  rw [run_callFunc_extern Try.func45 (by kernel_rfl) (by kernel_rfl) (by kernel_rfl) (e := Extern.MapsClone.clone) (by kernel_rfl), run_clone 65 hb]
  simp only [Result.andThen]
  rw [Oper.upon_value]
  go_wp2
  rw [run_assertMap 65 _ _ _ _ Try.underlying65]
  simp only [Result.andThen]
  rw [Oper.upon_value]
  go_wp2
  go_ret
  exact ⟨_, rfl, newAt _ _⟩
theorem clone39 (b : Nat) (es : Array MapEntry) (clock : Nat) (w : World) (hb : w.heap[b]? = some (.map es clock)) : Calls Try.prog 39 #[.map (some b)] w (Cloned2 es clock w) := by
  have q : ∀ (w : World) (r : Option Nat), (binOp .eql 66 (.map r) (.map none)).run Try.prog w = .ok (.bool r.isNone) w := fun w r => run_eql_map_nil w _ _ _ r Try.underlying66
  go_enter Try.func39, Try.ntmps39
  go_wp2
  rw [run_callFunc_extern Try.func45 (by kernel_rfl) (by kernel_rfl) (by kernel_rfl) (e := Extern.MapsClone.clone) (by kernel_rfl), run_clone 66 hb]
  simp only [Result.andThen]
  rw [Oper.upon_value]
  go_wp2
  rw [run_assertMap 66 _ _ _ _ Try.underlying66]
  simp only [Result.andThen]
  rw [Oper.upon_value]
  go_wp2
  go_ret
  exact ⟨_, rfl, newAt _ _⟩
theorem rn_b4 {P : Program} {w : World} {dst : Option Tmp} {t ty : TypeId} {pos : String} {aft : Array Edge} {gd : Option (Nat × Bool)} {a : Act} {x y z o : Operand} {u1 u2 u3 u4 v : Value} (hx : a.eval x = u1) (hy : a.eval y = u2) (hz : a.eval z = u3) (ho : a.eval o = u4) (h : (Instr.build t #[(0, u1), (1, u2), (2, u3), (3, u4)]).run P w = .ok v w) :
    (execOp a.eval ⟨dst, .build t #[(0, x), (1, y), (2, z), (3, o)], ty, pos, aft, gd⟩).run P w = .ok (.value v) w := by
  unfold execOp
  simp [Sem.run_bind, hx, hy, hz, ho, h, Result.andThen_ok]
theorem st68c : StructT Try.prog 68 [(0, 1), (1, 1), (2, 1), (3, 1)] 4 := ⟨by kernel_rfl, by kernel_rfl⟩
/-- What Copy answers: a pool of its own, that reads what the other one has. -/
def Copied (w : World) (F R : Nat → Prop) (cs : List Ct) (e : Ending) (w' : World) : Prop :=
  ∃ p2 F2, e = .returned (.pointer (some ⟨p2, 0, none⟩)) ∧ PoolAt w' p2 F2 (fun k => F k ∨ R k) cs ∧ (∀ k, F2 k → w.heap.size ≤ k) ∧ Keeps Nb w w'
set_option maxRecDepth 100000 in
set_option maxHeartbeats 2000000 in
theorem copy_at (p : Nat) (F R : Nat → Prop) (cs : List Ct) (w : World) (h : PoolAt w p F R cs) : Calls Try.prog 21 #[.pointer (some ⟨p, 0, none⟩)] w (Copied w F R cs) := by
  obtain ⟨⟨va, vl, mh, mw, hb, ⟨xs, hr, hvt⟩, hl, hmh, hmw, hne, hp, hh, hw⟩, hg, hlen, hap, hF, hR⟩ := h
  obtain ⟨esh, clh, hbh, hmh'⟩ := hmh
  obtain ⟨esw, clw, hbw, hmw'⟩ := hmw
  have hr' := hr
  have hl' := hl
  obtain ⟨-, -, a, ca, rfl, ha1, ha2, -⟩ := hr'
  obtain ⟨-, -, b, cb, rfl, hb1, hb2, -⟩ := hl'
  have HC := Lib.hid (fun (va vl : Value) (mh mw : Nat) (w2 w3 w4 w5 : World) (m1 m2 p2 : Nat) (kk : Keeps Nb w w2) (n1 : NewAt w2 w3 m1 (.map esh clh)) (n2 : NewAt w3 w4 m2 (.map esw clw)) (n3 : NewAt w4 w5 p2 (.cells #[.slice a cs.length cs.length, .slice b (lks cs).length (lks cs).length, .map (some m1), .map (some m2)] 68)) =>
    (show PoolAt w5 p2 (fun k => k = p2 ∨ k = m1 ∨ k = m2) (fun k => F k ∨ R k) cs from by
      have k1 := kk.size; have k2 := n1.k.size; have k3 := n2.k.size; have k4 := n3.k.size
      have l1 := n1.lt; have l2 := n2.lt; have l3 := n3.lt
      have g1 := n1.ge; have g2 := n2.ge; have g3 := n3.ge
      have K : Keeps Nb w w5 := kk.trans_nb (n1.k.trans_nb (n2.k.trans_nb n3.k))
      refine ⟨⟨_, _, m1, m2, n3.blk, ⟨xs, RowS.keeps (RowS.clip hr) K (fun _ _ _ e => e), (hvt.keeps K (fun _ _ e => e)).mono (fun k h => .inr h)⟩, RowS.keeps (RowS.clip hl) K (fun _ _ _ e => e),
        ⟨esh, clh, n3.k.nb (n2.k.nb n1.blk), hmh'⟩, ⟨esw, clw, n3.k.nb n2.blk, hmw'⟩, by omega, .inl rfl, .inr (.inl rfl), .inr (.inr rfl)⟩, hg, hlen, fun k h e => ?_, fun k h => ?_, fun k h => ?_⟩
      · have h1 : k < w.heap.size := e.elim (hF k) (hR k)
        rcases h with h | h | h <;> omega
      · rcases h with h | h | h <;> omega
      · have h1 : k < w.heap.size := h.elim (hF k) (hR k)
        have := K.size
        omega))
  have C0 : ∀ u : Sub w, u.wd.cell? ⟨p, 0, none⟩ = some (.slice a cs.length ca) := (four hb).1
  have C1 : ∀ u : Sub w, u.wd.cell? ⟨p, 1, none⟩ = some (.slice b (lks cs).length cb) := (four hb).2.1
  have C2 : ∀ u : Sub w, u.wd.cell? ⟨p, 2, none⟩ = some (.map (some mh)) := (four hb).2.2.1
  have C3 : ∀ u : Sub w, u.wd.cell? ⟨p, 3, none⟩ = some (.map (some mw)) := (four hb).2.2.2
  have T := Lib.hid (there_at p (.slice a cs.length ca) (.slice b (lks cs).length cb) (.map (some mw)) mh w hb)
  have HBH := Lib.hid hbh; have HBW := Lib.hid hbw
  clear hr hvt hl hmh' hmw' hb hbh hbw hne hp hh hw hg hap hF hR
  generalize (lks cs).length = n2 at *
  generalize hcl : cs.length = n1 at *
  have HCL := Lib.hid hcl
  clear hcl
  go_enter Try.func21, Try.ntmps21
  go_wp2_with fail
  refine T.out.mono ?_; rintro e w' ⟨rfl, rfl⟩
  have HS : Hid (∃ u : Sub w, w.drew = u.wd) := ⟨⟨w.drew, (Keeps.refl Nb w).drew⟩, rfl⟩
  go_wp2
  refine WT.region (fun u : World => ∃ v : Sub w, u = v.wd) 23 23 [0, 1, 2, 3, 5, 6, 7, 8, 10, 11, 12, 13, 15, 16, 17, 18, 4, 9, 14, 19, 20, 21, 22] (by kernel_rfl) rfl ?_
  refine WT.take 0 (v := _) (by simp only [List.getElem?_toArray, List.getElem?_cons_succ, List.getElem?_cons_zero]; rfl) (by kernel_rfl) (by exact fun _ _ _ h => h) (by rfl) (by rintro w ⟨u, rfl⟩; go_simp; with_reducible rfl) HS.out ?_
  simp only [Nat.reduceAdd, Nat.zero_add, Act.put, List.setIfInBounds_toArray, List.set_cons_succ, List.set_cons_zero]
  refine WT.take 1 (v := _) (by simp only [List.getElem?_toArray, List.getElem?_cons_succ, List.getElem?_cons_zero]; rfl) (by kernel_rfl) (by exact fun _ _ _ h => h) (by rfl) (by rintro w ⟨u, rfl⟩; go_simp; with_reducible rfl) HS.out ?_
  simp only [Nat.reduceAdd, Nat.zero_add, Act.put, List.setIfInBounds_toArray, List.set_cons_succ, List.set_cons_zero]
  refine WT.take 2 (v := _) (by simp only [List.getElem?_toArray, List.getElem?_cons_succ, List.getElem?_cons_zero]; rfl) (by kernel_rfl) (by exact fun _ _ _ h => h) (by rfl) (by rintro w ⟨u, rfl⟩; go_simp; with_reducible rfl) HS.out ?_
  simp only [Nat.reduceAdd, Nat.zero_add, Act.put, List.setIfInBounds_toArray, List.set_cons_succ, List.set_cons_zero]
  refine WT.take 3 (v := _) (by simp only [List.getElem?_toArray, List.getElem?_cons_succ, List.getElem?_cons_zero]; rfl) (by kernel_rfl) (by exact fun _ _ _ h => h) (by rfl) (by rintro w ⟨u, rfl⟩; go_simp; with_reducible rfl) HS.out ?_
  simp only [Nat.reduceAdd, Nat.zero_add, Act.put, List.setIfInBounds_toArray, List.set_cons_succ, List.set_cons_zero]
  refine WT.take 5 (v := _) (by simp only [List.getElem?_toArray, List.getElem?_cons_succ, List.getElem?_cons_zero]; rfl) (by kernel_rfl) (by exact fun _ _ _ h => h) (by rfl) (by rintro w ⟨u, rfl⟩; go_simp; with_reducible rfl) HS.out ?_
  simp only [Nat.reduceAdd, Nat.zero_add, Act.put, List.setIfInBounds_toArray, List.set_cons_succ, List.set_cons_zero]
  refine WT.take 6 (v := _) (by simp only [List.getElem?_toArray, List.getElem?_cons_succ, List.getElem?_cons_zero]; rfl) (by kernel_rfl) (by exact fun _ _ _ h => h) (by rfl) (by rintro w ⟨u, rfl⟩; go_simp; with_reducible rfl) HS.out ?_
  simp only [Nat.reduceAdd, Nat.zero_add, Act.put, List.setIfInBounds_toArray, List.set_cons_succ, List.set_cons_zero]
  refine WT.take 7 (v := _) (by simp only [List.getElem?_toArray, List.getElem?_cons_succ, List.getElem?_cons_zero]; rfl) (by kernel_rfl) (by exact fun _ _ _ h => h) (by rfl) (by rintro w ⟨u, rfl⟩; go_simp; with_reducible rfl) HS.out ?_
  simp only [Nat.reduceAdd, Nat.zero_add, Act.put, List.setIfInBounds_toArray, List.set_cons_succ, List.set_cons_zero]
  refine WT.take 8 (v := _) (by simp only [List.getElem?_toArray, List.getElem?_cons_succ, List.getElem?_cons_zero]; rfl) (by kernel_rfl) (by exact fun _ _ _ h => h) (by rfl) (by rintro w ⟨u, rfl⟩; go_simp; with_reducible rfl) HS.out ?_
  simp only [Nat.reduceAdd, Nat.zero_add, Act.put, List.setIfInBounds_toArray, List.set_cons_succ, List.set_cons_zero]
  refine WT.take 10 (v := _) (by simp only [List.getElem?_toArray, List.getElem?_cons_succ, List.getElem?_cons_zero]; rfl) (by kernel_rfl) (by exact fun _ _ _ h => h) (by rfl) (by rintro w ⟨u, rfl⟩; go_simp; with_reducible rfl) HS.out ?_
  simp only [Nat.reduceAdd, Nat.zero_add, Act.put, List.setIfInBounds_toArray, List.set_cons_succ, List.set_cons_zero]
  refine WT.take 11 (v := _) (by simp only [List.getElem?_toArray, List.getElem?_cons_succ, List.getElem?_cons_zero]; rfl) (by kernel_rfl) (by exact fun _ _ _ h => h) (by rfl) (by rintro w ⟨u, rfl⟩; go_simp; with_reducible rfl) HS.out ?_
  simp only [Nat.reduceAdd, Nat.zero_add, Act.put, List.setIfInBounds_toArray, List.set_cons_succ, List.set_cons_zero]
  refine WT.take 12 (v := _) (by simp only [List.getElem?_toArray, List.getElem?_cons_succ, List.getElem?_cons_zero]; rfl) (by kernel_rfl) (by exact fun _ _ _ h => h) (by rfl) (by rintro w ⟨u, rfl⟩; go_simp; with_reducible rfl) HS.out ?_
  simp only [Nat.reduceAdd, Nat.zero_add, Act.put, List.setIfInBounds_toArray, List.set_cons_succ, List.set_cons_zero]
  refine WT.take 13 (v := _) (by simp only [List.getElem?_toArray, List.getElem?_cons_succ, List.getElem?_cons_zero]; rfl) (by kernel_rfl) (by exact fun _ _ _ h => h) (by rfl) (by rintro w ⟨u, rfl⟩; go_simp; with_reducible rfl) HS.out ?_
  simp only [Nat.reduceAdd, Nat.zero_add, Act.put, List.setIfInBounds_toArray, List.set_cons_succ, List.set_cons_zero]
  refine WT.take 15 (v := _) (by simp only [List.getElem?_toArray, List.getElem?_cons_succ, List.getElem?_cons_zero]; rfl) (by kernel_rfl) (by exact fun _ _ _ h => h) (by rfl) (by rintro w ⟨u, rfl⟩; go_simp; with_reducible rfl) HS.out ?_
  simp only [Nat.reduceAdd, Nat.zero_add, Act.put, List.setIfInBounds_toArray, List.set_cons_succ, List.set_cons_zero]
  refine WT.take 16 (v := _) (by simp only [List.getElem?_toArray, List.getElem?_cons_succ, List.getElem?_cons_zero]; rfl) (by kernel_rfl) (by exact fun _ _ _ h => h) (by rfl) (by rintro w ⟨u, rfl⟩; go_simp; with_reducible rfl) HS.out ?_
  simp only [Nat.reduceAdd, Nat.zero_add, Act.put, List.setIfInBounds_toArray, List.set_cons_succ, List.set_cons_zero]
  refine WT.take 17 (v := _) (by simp only [List.getElem?_toArray, List.getElem?_cons_succ, List.getElem?_cons_zero]; rfl) (by kernel_rfl) (by exact fun _ _ _ h => h) (by rfl) (by rintro w ⟨u, rfl⟩; go_simp; with_reducible rfl) HS.out ?_
  simp only [Nat.reduceAdd, Nat.zero_add, Act.put, List.setIfInBounds_toArray, List.set_cons_succ, List.set_cons_zero]
  refine WT.take 18 (v := _) (by simp only [List.getElem?_toArray, List.getElem?_cons_succ, List.getElem?_cons_zero]; rfl) (by kernel_rfl) (by exact fun _ _ _ h => h) (by rfl) (by rintro w ⟨u, rfl⟩; go_simp; with_reducible rfl) HS.out ?_
  simp only [Nat.reduceAdd, Nat.zero_add, Act.put, List.setIfInBounds_toArray, List.set_cons_succ, List.set_cons_zero]
  refine WT.call 4 (by simp only [List.getElem?_toArray, List.getElem?_cons_succ, List.getElem?_cons_zero]; rfl) (by kernel_rfl) (by rfl) (by go_simp; first | done | rfl | exact ⟨⟨rfl, rfl⟩, rfl⟩) (clip36 a n1 ca w.drew ha1 ha2) ?_
  rintro _ w1 ⟨rfl, rfl⟩
  refine ⟨_, rfl, HS.out, ?_⟩
  simp only [Nat.reduceAdd, Nat.zero_add, Act.put, List.setIfInBounds_toArray, List.set_cons_succ, List.set_cons_zero]
  refine WT.call 9 (by simp only [List.getElem?_toArray, List.getElem?_cons_succ, List.getElem?_cons_zero]; rfl) (by kernel_rfl) (by rfl) (by go_simp; first | done | rfl | exact ⟨⟨rfl, rfl⟩, rfl⟩) (clip37 b n2 cb w.drew hb1 hb2) ?_
  rintro _ w1 ⟨rfl, rfl⟩
  refine ⟨_, rfl, HS.out, ?_⟩
  simp only [Nat.reduceAdd, Nat.zero_add, Act.put, List.setIfInBounds_toArray, List.set_cons_succ, List.set_cons_zero]
  refine WT.call 14 (by simp only [List.getElem?_toArray, List.getElem?_cons_succ, List.getElem?_cons_zero]; rfl) (by kernel_rfl) (by rfl) (by go_simp; first | done | rfl | exact ⟨⟨rfl, rfl⟩, rfl⟩) (clone38 mh esh clh _ ((Keeps.refl Nb w).drew.nb HBH.out)) ?_
  rintro _ w3 ⟨m1, rfl, n1'⟩
  have q3 := (Keeps.refl Nb w).drew.trans_nb n1'.k
  replace HS : Hid (∃ u : Sub w, w3 = u.wd) := ⟨⟨w3, q3⟩, rfl⟩
  refine ⟨_, rfl, HS.out, ?_⟩
  simp only [Nat.reduceAdd, Nat.zero_add, Act.put, List.setIfInBounds_toArray, List.set_cons_succ, List.set_cons_zero]
  refine WT.call 19 (by simp only [List.getElem?_toArray, List.getElem?_cons_succ, List.getElem?_cons_zero]; rfl) (by kernel_rfl) (by rfl) (by go_simp; first | done | rfl | exact ⟨⟨rfl, rfl⟩, rfl⟩) (clone39 mw esw clw _ (q3.nb HBW.out)) ?_
  rintro _ w4 ⟨m2, rfl, n2'⟩
  have q4 := q3.trans_nb n2'.k
  replace HS : Hid (∃ u : Sub w, w4 = u.wd) := ⟨⟨w4, q4⟩, rfl⟩
  refine ⟨_, rfl, HS.out, ?_⟩
  simp only [Nat.reduceAdd, Nat.zero_add, Act.put, List.setIfInBounds_toArray, List.set_cons_succ, List.set_cons_zero]
  have hb68 : ∀ (W : World) (a b : Option Addr) (k1 c1 k2 c2 : Nat) (x y : Option Nat), (Instr.build 68 #[(0, .slice a k1 c1), (1, .slice b k2 c2), (2, .map x), (3, .map y)]).run Try.prog W = .ok (.agg #[.slice a k1 c1, .slice b k2 c2, .map x, .map y]) W := fun _ _ _ _ _ _ _ _ _ => by kernel_rfl
  refine WT.take 20 (v := .agg #[.slice a n1 n1, .slice b n2 n2, .map (some m1), .map (some m2)]) (by simp only [List.getElem?_toArray, List.getElem?_cons_succ, List.getElem?_cons_zero]; rfl) (by kernel_rfl) (by exact fun _ _ _ h => h) (by rfl) (by rintro W ⟨u, rfl⟩; exact rn_b4 (by rfl) (by rfl) (by rfl) (by rfl) (hb68 _ _ _ _ _ _ _ _ _)) HS.out ?_
  simp only [Nat.reduceAdd, Nat.zero_add, Act.put, List.setIfInBounds_toArray, List.set_cons_succ, List.set_cons_zero]
  refine WT.onlyE 21 (by simp only [List.getElem?_toArray, List.getElem?_cons_succ, List.getElem?_cons_zero]; rfl) (by kernel_rfl) (by rfl) (re_box (by rfl)) ?_
  rintro _ w5 ⟨p2, rfl, n3'⟩
  replace HS : Hid (∃ u : Sub w, w5 = u.wd) := ⟨⟨w5, q4.trans_nb n3'.k⟩, rfl⟩
  refine ⟨HS.out, ?_⟩
  simp only [Nat.reduceAdd, Nat.zero_add, Act.put, List.setIfInBounds_toArray, List.set_cons_succ, List.set_cons_zero]
  refine WT.take 22 (v := _) (by simp only [List.getElem?_toArray, List.getElem?_cons_succ, List.getElem?_cons_zero]; rfl) (by kernel_rfl) (by exact fun _ _ _ h => h) (by rfl) (by rintro w ⟨u, rfl⟩; go_simp; with_reducible rfl) HS.out ?_
  simp only [Nat.reduceAdd, Nat.zero_add, Act.put, List.setIfInBounds_toArray, List.set_cons_succ, List.set_cons_zero]
  refine WT.stop (by kernel_rfl) (WP.done (by kernel_rfl) ?_)
  have hfin := HC.out (.slice a n1 ca) (.slice b n2 cb) mh mw w.drew w3 w4 w5 m1 m2 p2 (Keeps.refl Nb w).drew n1' n2' n3'
  have HFIN := Lib.hid hfin
  have HK := Lib.hid (q4.trans_nb n3'.k)
  have g1 := n1'.ge; have g2 := n2'.ge; have g3 := n3'.ge
  have z3 := q3.size; have z4 := q4.size
  clear hfin n1' n2' n3' C0 C1 C2 C3 HS q3 q4 hb68
  go_wp2
  go_ret
  have g1' : w.heap.size ≤ m1 := g1
  exact ⟨p2, _, rfl, HFIN.out, fun k h => by rcases h with h | h | h <;> omega, HK.out⟩
end Go.Proofs.Ytffnaigkdocpmac
