/- 'those': the votes that a closure wants, each with bytes of its own. -/
import Derived.Test.YtffnaigkdocpmacRefL
set_option linter.unusedVariables false
set_option linter.unusedSimpArgs false
namespace Go.Proofs.Ytffnaigkdocpmac
open Go.RowKit Go.Lk Go.Pool

theorem zero35t : ∃ z : Value, (Try.prog.info? 35).map (·.zero) = some (some z) ∧ z.cells.size = 101 := by
  have h : (Try.prog.info? 35).map (fun i => (i.zero.isSome, i.zero.map (·.cells.size))) = some (true, some 101) := by kernel_rfl
  obtain ⟨i, hi, h2⟩ := Option.map_eq_some_iff.1 h
  simp only [Prod.mk.injEq] at h2
  obtain ⟨z, hz⟩ := Option.isSome_iff_exists.1 h2.1
  have h3 := h2.2
  rw [hz, Option.map_some, Option.some.injEq] at h3
  exact ⟨z, by rw [hi, Option.map_some, hz], h3⟩
theorem splice_sc {c : Ct} (hc : c.Ok) (s v : Value) : splice (sc c s).toArray #[v] 67 = (sc c v).toArray := by
  have l1 : (valsK PK c.src).length = 33 := by rw [valsK_length hc.src.length]; rfl
  have l2 : (valsK PK c.tgt).length = 33 := by rw [valsK_length hc.tgt.length]; rfl
  have e : ∀ x : Value, sc c x = (.int .i64 c.who :: (valsK PK c.src ++ valsK PK c.tgt)) ++ (x :: (valsK HK c.key ++ [.int .u64 (c.stake : Nat)])) := fun x => by simp [sc, vc]
  have hl : (Value.int .i64 c.who :: (valsK PK c.src ++ valsK PK c.tgt)).length = 67 := by simp [l1, l2]
  unfold splice
  rw [e s, e v]
  generalize (Value.int .i64 c.who :: (valsK PK c.src ++ valsK PK c.tgt)) = Z at *
  generalize (valsK HK c.key ++ [.int .u64 (c.stake : Nat)]) = Y at *
  simp [← hl]

theorem owns_blk {w : World} {base n : Nat} {e : TypeId} {size k : Nat} {v : Value} {xs : List Value} (h : w.ownsRow base e size v n xs) (hk : v.ownBlock = some k) : base ≤ k ∧ k < w.heap.size ∧ ∃ cur, w.heap[k]? = some (.cells cur e (0, 0)) := by
  rcases h.2 with ⟨hv, _⟩ | ⟨g, cap, cur, hv, hg, hh, _⟩
  · rw [hv] at hk; cases hk
  · rw [hv] at hk; cases hk; exact ⟨hg, lt_of_block hh, cur, hh⟩
/-- A new row of these votes, each with new bytes. -/
def Fresh (w : World) (w' : World) (v : Value) (ds : List Ct) : Prop :=
  ∃ xs R, w'.ownsRow w.heap.size 35 101 v ds.length xs ∧ Votes w' R ds xs ∧ ∀ k, R k → w.heap.size ≤ k ∧ k < w'.heap.size ∧ v.ownBlock ≠ some k ∧ ∃ cur, w'.heap[k]? = some (.cells cur 5 (0, 0))
theorem Fresh.nb {w w' w2 : World} {v : Value} {ds : List Ct} (h : Fresh w w' v ds) (hk : Keeps Nb w' w2) : Fresh w w2 v ds := by
  obtain ⟨xs, R, h1, h2, h3⟩ := h
  exact ⟨xs, R, owns_keeps h1 hk (fun _ _ e => e), h2.keeps hk (fun _ _ e => e), fun k h => ⟨(h3 k h).1, Nat.lt_of_lt_of_le (h3 k h).2.1 hk.size, (h3 k h).2.2.1, (h3 k h).2.2.2.imp fun _ hc => hk.nb hc⟩⟩
theorem Fresh.list {w w' : World} {v : Value} {ds : List Ct} (h : Fresh w w' v ds) : ∃ a c, v = .slice a ds.length c ∧ ListAt w' (fun k => w.heap.size ≤ k ∧ k < w'.heap.size) a ds.length c ds := by
  obtain ⟨xs, R, h1, h2, h3⟩ := h
  obtain ⟨a, c, rfl, h4, h5, h6, h7⟩ := owns_has h1
  exact ⟨a, c, rfl, rfl, h4, h5, fun k hk => hk.2, xs, h6, h2.mono (fun k h => ⟨(h3 k h).1, (h3 k h).2.1⟩), fun b off e _ => ⟨(h7 b off e).2.2.1, (h7 b off e).2.1⟩⟩
def AppB (we : World) (base e size n : Nat) (xs : List Value) (v v' : Value) (wf : World) : Prop :=
  wf.ownsRow base e size v' n xs ∧ Keeps (fun k => v.ownBlock = some k) we wf ∧ (v'.ownBlock = v.ownBlock ∨ v'.ownBlock = some we.heap.size)
theorem re_appB {P : Program} {w : World} {t e : TypeId} {size bytes n base : Nat} {z v : Value} {xs news : List Value} {a : Act} {dst : Option Tmp} {ty : TypeId} {pos : String} {aft : Array Edge} {gd : Option (Nat × Bool)} {s x : Operand} (E : ElemT P t e size bytes z) {ad : Option Addr} {m c2 : Nat} (hbase : base ≤ w.heap.size) (hown : w.ownsRow base e size v n xs)
    (hs : a.eval s = v) (hx : a.eval x = .slice ad m c2) (hsrc : Has w ad news) (hl : news.length = m * size) (h1 : ∀ u ∈ news, u.oneCell' = true) (h63 : n + m ≤ maxLen) (hbytes : (n + m) * bytes ≤ 140737488355328) :
    ∃ v' w', (execOp a.eval ⟨dst, .call ⟨.builtin .append, #[s, x], #[t, t]⟩, ty, pos, aft, gd⟩).run P w = .ok (.value v') w' ∧ AppB w base e size (n + m) (xs ++ news) v v' w' := by
  obtain ⟨v', w', h2, h3, h4, h5⟩ := run_app_at (P := P) (c := c2) ty E base n xs news hown hsrc hl h1 h63 hbytes hbase
  exact ⟨v', w', rn_app hs hx h2, h3, (Keeps.refl _ w).grown h4 (fun g hg _ => hg), h5⟩
theorem _root_.Go.Pool.PoolAt.list {w : World} {p : Nat} {F R : Nat → Prop} {cs : List Ct} (h : PoolAt w p F R cs) : ∃ a c, w.cell? ⟨p, 0, none⟩ = some (.slice a cs.length c) ∧ ListAt w (fun k => F k ∨ R k) a cs.length c cs := by
  obtain ⟨⟨va, vl, mh, mw, hb, ⟨xs, ⟨h1, h2, a, c, rfl, h3, h4, h5, h6, -⟩, h7⟩, -⟩, -, -, -, hF, hR⟩ := h
  exact ⟨a, c, by rw [cell_of_block hb]; rfl, rfl, h3, h4, fun k hk => hk.elim (hF k) (hR k), xs, h5, h7.mono (fun k h => .inr h), fun b off e hz => (h6 b off e hz).1⟩
theorem filter_take {cs : List Ct} {k : Nat} (h : k < cs.length) (f : Ct → Bool) : (cs.take (k + 1)).filter f = if f cs[k] then (cs.take k).filter f ++ [cs[k]] else (cs.take k).filter f := by
  rw [List.take_succ_eq_append_getElem h, List.filter_append]
  by_cases hf : f cs[k] <;> simp [hf]

/-- What a closure that is handed to 'those' answers. -/
def Wants (w : World) (fn : Nat) (args : Value → Array Value) (R : Nat → Prop) (cs : List Ct) (f : Ct → Bool) : Prop :=
  ∀ (w' : World) (c : Ct) (s : Value), Keeps Nb w w' → c ∈ cs → c.Ok → SigAt w' R c s → Calls Try.prog fn (args (.agg (sc c s).toArray)) w' fun e w'' => e = .returned (.bool (f c)) ∧ Keeps Nb w' w''

set_option maxRecDepth 100000 in
set_option maxHeartbeats 2000000 in
theorem those_at (p : Nat) (F R : Nat → Prop) (cs : List Ct) (f : Ct → Bool) (fn : Nat) (cap : Array Value) (args : Value → Array Value) (w : World) (h : PoolAt w p F R cs) (hsg : ∀ c ∈ cs, c.sig.length ≤ 1000000)
    (hfn : (fn = 35 ∧ ∃ g, cap = #[.pointer (some ⟨g, 0, none⟩)] ∧ args = fun v => #[v, .pointer (some ⟨g, 0, none⟩)]) ∨ (fn = 42 ∧ ∃ g, cap = #[.pointer (some ⟨g, 0, none⟩)] ∧ args = fun v => #[v, .pointer (some ⟨g, 0, none⟩)]) ∨ (fn = 40 ∧ cap = #[] ∧ args = fun v => #[v])) (hw : Wants w fn args (fun k => F k ∨ R k) cs f) :
    Calls Try.prog 34 #[.pointer (some ⟨p, 0, none⟩), .func (.func fn) #[] cap] w fun e w' => ∃ v, e = .returned v ∧ Fresh w w' v (cs.filter f) ∧ Keeps Nb w w' := by
  obtain ⟨a, cp, hc0, hla⟩ := h.list
  have hlen := h.len
  have hgood := h.good
  obtain ⟨⟨va, vl, mh, mw, hb, -⟩, -⟩ := h
  have hc1 := hla.2.1
  have hm1 := hla.2.2.1
  unfold maxLen at hm1
  obtain ⟨b, off, ha, hv⟩ := votes_at hla hgood.ok
  have HB := Lib.hid hb; have HA := Lib.hid ha; have HV := Lib.hid hv; have HG := Lib.hid hgood; have HSG := Lib.hid hsg; have HC := Lib.hid hw
  clear hb ha hv hgood hla hsg hw
  obtain ⟨z, hz0, hz1⟩ := zero35t
  obtain ⟨z22, E22⟩ := el22
  rcases hfn with ⟨rfl, g0, rfl, rfl⟩ | ⟨rfl, g0, rfl, rfl⟩ | ⟨rfl, rfl, rfl⟩
  · skip
    skip
    go_enter Try.func34, Try.ntmps34
    go_wp2_with fail
    refine (there_at p _ vl _ mh _ HB.out).mono ?_; rintro e w' ⟨rfl, rfl⟩
    go_wp2_with fail
    go_loopw [5, 16] (fun v i wr => ∃ k : Nat, k ≤ cs.length ∧ i = .int .i64 k ∧ Fresh w wr v ((cs.take k).filter f) ∧ Keeps Nb w wr) (fun _ i _ => cs.length - (intOf i).toNat)
    case atStart => exact ⟨0, Nat.zero_le _, rfl, ⟨[], Nb, World.ownsRow_nil _ _ _ _, rfl, fun _ h => h.elim⟩, Keeps.refl _ _⟩
    case round =>
      obtain ⟨k, hk, rfl, hfr, kw⟩ := hrel
      by_cases hlt : k < cs.length
      · have i1 : (k : Int) < (cs.length : Int) := by omega
        have hne : cs ≠ [] := by rintro rfl; simp at hlt
        have ha := HA.out hne
        subst ha
        obtain ⟨s1, hv1⟩ := HV.out k cs[k] (List.getElem?_eq_getElem hlt)
        have hin := List.getElem_mem hlt
        have ok1 := HG.out.ok _ hin
        have hsl := HSG.out _ hin
        have HT := Lib.hid (filter_take hlt f)
        have CC := Lib.hid (fun (u : World) (s : Value) (hk : Keeps Nb w u) (hs : SigAt u (fun k => F k ∨ R k) cs[k] s) => HC.out u cs[k] s hk hin ok1 hs)
        have hfl : ((cs.take k).filter f).length ≤ k := by have := List.length_filter_le f (cs.take k); rw [List.length_take] at this; omega
        generalize (cs.take k).filter f = D at *
        clear hin
        generalize cs[k] = c at *
        have lw1 := sc_len ok1 s1
        have one1 := Lib.hid (sc_one c s1 hv1.sig.one)
        have VV := Lib.hid (fun (u : World) (h : Keeps Nb w u) => hv1.nb h)
        have OK1 := Lib.hid ok1; have HFR := Lib.hid hfr; have KW := Lib.hid kw
        obtain ⟨a3, c3, rfl, hl3⟩ := hfr.list
        have hl31 := hl3.2.1
        have hl32 := hl3.2.2.1
        unfold maxLen at hl32
        clear hv1 ok1 hfr kw hl3
        go_wp2_with (first | go_skip | (with_reducible refine stop_load (t := 27) ?_) | (with_reducible refine stop_load (t := 28) ?_) | (with_reducible refine stop_load (t := 30) ?_) | (with_reducible refine stop_load (t := 33) ?_) | (with_reducible refine stop_load (t := 35) ?_) | (with_reducible refine stop_load (t := 40) ?_) | (with_reducible refine stop_load (t := 76) ?_) | (with_reducible refine stop_load (t := 77) ?_) | (with_reducible refine stop_box (t := 27) ?_) | (with_reducible refine stop_box (t := 28) ?_) | (with_reducible refine stop_box (t := 30) ?_) | (with_reducible refine stop_box (t := 33) ?_) | (with_reducible refine stop_box (t := 35) ?_) | (with_reducible refine stop_box (t := 40) ?_) | (with_reducible refine stop_box (t := 76) ?_) | (with_reducible refine stop_box (t := 77) ?_) | (with_reducible refine stop_alloc (t := 27) ?_) | (with_reducible refine stop_alloc (t := 28) ?_) | (with_reducible refine stop_alloc (t := 30) ?_) | (with_reducible refine stop_alloc (t := 33) ?_) | (with_reducible refine stop_alloc (t := 35) ?_) | (with_reducible refine stop_alloc (t := 40) ?_) | (with_reducible refine stop_alloc (t := 76) ?_) | (with_reducible refine stop_alloc (t := 77) ?_) | (with_reducible refine stop_alloc (t := 52) ?_) | (with_reducible refine stop_alloc (t := 68) ?_) | (with_reducible refine stop_alloc (t := 72) ?_) | (with_reducible refine stop_build (t := 27) ?_) | (with_reducible refine stop_build (t := 28) ?_) | (with_reducible refine stop_build (t := 30) ?_) | (with_reducible refine stop_build (t := 33) ?_) | (with_reducible refine stop_build (t := 35) ?_) | (with_reducible refine stop_build (t := 40) ?_) | (with_reducible refine stop_build (t := 76) ?_) | (with_reducible refine stop_build (t := 77) ?_) | (with_reducible refine stop_build (t := 52) ?_) | (with_reducible refine stop_build (t := 68) ?_) | (with_reducible refine stop_store (t := 27) ?_) | (with_reducible refine stop_store (t := 28) ?_) | (with_reducible refine stop_store (t := 30) ?_) | (with_reducible refine stop_store (t := 33) ?_) | (with_reducible refine stop_store (t := 35) ?_) | (with_reducible refine stop_store (t := 40) ?_) | (with_reducible refine stop_store (t := 76) ?_) | (with_reducible refine stop_store (t := 77) ?_) | (with_reducible refine stop_store (t := 22) ?_) | (with_reducible refine stop_store (t := 31) ?_) | (with_reducible refine stop_store (t := 47) ?_) | (with_reducible refine stop_store (t := 52) ?_) | (with_reducible refine stop_store (t := 68) ?_) | (with_reducible refine stop_store (t := 72) ?_) | (with_reducible refine stop_lookup ?_) | (with_reducible refine stop_buildSlice ?_) | (with_reducible refine stop_app ?_) | (with_reducible refine stop_mapEntry ?_) | (with_reducible refine stop_eql (t := 28) ?_) | (with_reducible refine stop_eql (t := 40) ?_) | (with_reducible refine stop_neq (t := 28) ?_) | (with_reducible refine stop_neq (t := 40) ?_))
        refine at_out (wpList_val (v := .agg (sc c s1).toArray) rfl (rn_loadH aggS (by rfl) (VV.out _ KW.out).whole lw1) ?_)
        simp only [Nat.reduceAdd, Nat.zero_add, Act.put, List.setIfInBounds_toArray, List.set_cons_succ, List.set_cons_zero]
        go_wp2_with (first | go_skip | (with_reducible refine stop_load (t := 27) ?_) | (with_reducible refine stop_load (t := 28) ?_) | (with_reducible refine stop_load (t := 30) ?_) | (with_reducible refine stop_load (t := 33) ?_) | (with_reducible refine stop_load (t := 35) ?_) | (with_reducible refine stop_load (t := 40) ?_) | (with_reducible refine stop_load (t := 76) ?_) | (with_reducible refine stop_load (t := 77) ?_) | (with_reducible refine stop_box (t := 27) ?_) | (with_reducible refine stop_box (t := 28) ?_) | (with_reducible refine stop_box (t := 30) ?_) | (with_reducible refine stop_box (t := 33) ?_) | (with_reducible refine stop_box (t := 35) ?_) | (with_reducible refine stop_box (t := 40) ?_) | (with_reducible refine stop_box (t := 76) ?_) | (with_reducible refine stop_box (t := 77) ?_) | (with_reducible refine stop_alloc (t := 27) ?_) | (with_reducible refine stop_alloc (t := 28) ?_) | (with_reducible refine stop_alloc (t := 30) ?_) | (with_reducible refine stop_alloc (t := 33) ?_) | (with_reducible refine stop_alloc (t := 35) ?_) | (with_reducible refine stop_alloc (t := 40) ?_) | (with_reducible refine stop_alloc (t := 76) ?_) | (with_reducible refine stop_alloc (t := 77) ?_) | (with_reducible refine stop_alloc (t := 52) ?_) | (with_reducible refine stop_alloc (t := 68) ?_) | (with_reducible refine stop_alloc (t := 72) ?_) | (with_reducible refine stop_build (t := 27) ?_) | (with_reducible refine stop_build (t := 28) ?_) | (with_reducible refine stop_build (t := 30) ?_) | (with_reducible refine stop_build (t := 33) ?_) | (with_reducible refine stop_build (t := 35) ?_) | (with_reducible refine stop_build (t := 40) ?_) | (with_reducible refine stop_build (t := 76) ?_) | (with_reducible refine stop_build (t := 77) ?_) | (with_reducible refine stop_build (t := 52) ?_) | (with_reducible refine stop_build (t := 68) ?_) | (with_reducible refine stop_store (t := 27) ?_) | (with_reducible refine stop_store (t := 28) ?_) | (with_reducible refine stop_store (t := 30) ?_) | (with_reducible refine stop_store (t := 33) ?_) | (with_reducible refine stop_store (t := 35) ?_) | (with_reducible refine stop_store (t := 40) ?_) | (with_reducible refine stop_store (t := 76) ?_) | (with_reducible refine stop_store (t := 77) ?_) | (with_reducible refine stop_store (t := 22) ?_) | (with_reducible refine stop_store (t := 31) ?_) | (with_reducible refine stop_store (t := 47) ?_) | (with_reducible refine stop_store (t := 52) ?_) | (with_reducible refine stop_store (t := 68) ?_) | (with_reducible refine stop_store (t := 72) ?_) | (with_reducible refine stop_lookup ?_) | (with_reducible refine stop_buildSlice ?_) | (with_reducible refine stop_app ?_) | (with_reducible refine stop_mapEntry ?_) | (with_reducible refine stop_eql (t := 28) ?_) | (with_reducible refine stop_eql (t := 40) ?_) | (with_reducible refine stop_neq (t := 28) ?_) | (with_reducible refine stop_neq (t := 40) ?_))
        refine at_out (valloc hz0 ?_); intro g w3 n3
        simp only [Nat.reduceAdd, Nat.zero_add, Act.put, List.setIfInBounds_toArray, List.set_cons_succ, List.set_cons_zero]
        go_wp2_with (first | go_skip | (with_reducible refine stop_load (t := 27) ?_) | (with_reducible refine stop_load (t := 28) ?_) | (with_reducible refine stop_load (t := 30) ?_) | (with_reducible refine stop_load (t := 33) ?_) | (with_reducible refine stop_load (t := 35) ?_) | (with_reducible refine stop_load (t := 40) ?_) | (with_reducible refine stop_load (t := 76) ?_) | (with_reducible refine stop_load (t := 77) ?_) | (with_reducible refine stop_box (t := 27) ?_) | (with_reducible refine stop_box (t := 28) ?_) | (with_reducible refine stop_box (t := 30) ?_) | (with_reducible refine stop_box (t := 33) ?_) | (with_reducible refine stop_box (t := 35) ?_) | (with_reducible refine stop_box (t := 40) ?_) | (with_reducible refine stop_box (t := 76) ?_) | (with_reducible refine stop_box (t := 77) ?_) | (with_reducible refine stop_alloc (t := 27) ?_) | (with_reducible refine stop_alloc (t := 28) ?_) | (with_reducible refine stop_alloc (t := 30) ?_) | (with_reducible refine stop_alloc (t := 33) ?_) | (with_reducible refine stop_alloc (t := 35) ?_) | (with_reducible refine stop_alloc (t := 40) ?_) | (with_reducible refine stop_alloc (t := 76) ?_) | (with_reducible refine stop_alloc (t := 77) ?_) | (with_reducible refine stop_alloc (t := 52) ?_) | (with_reducible refine stop_alloc (t := 68) ?_) | (with_reducible refine stop_alloc (t := 72) ?_) | (with_reducible refine stop_build (t := 27) ?_) | (with_reducible refine stop_build (t := 28) ?_) | (with_reducible refine stop_build (t := 30) ?_) | (with_reducible refine stop_build (t := 33) ?_) | (with_reducible refine stop_build (t := 35) ?_) | (with_reducible refine stop_build (t := 40) ?_) | (with_reducible refine stop_build (t := 76) ?_) | (with_reducible refine stop_build (t := 77) ?_) | (with_reducible refine stop_build (t := 52) ?_) | (with_reducible refine stop_build (t := 68) ?_) | (with_reducible refine stop_store (t := 27) ?_) | (with_reducible refine stop_store (t := 28) ?_) | (with_reducible refine stop_store (t := 30) ?_) | (with_reducible refine stop_store (t := 33) ?_) | (with_reducible refine stop_store (t := 35) ?_) | (with_reducible refine stop_store (t := 40) ?_) | (with_reducible refine stop_store (t := 76) ?_) | (with_reducible refine stop_store (t := 77) ?_) | (with_reducible refine stop_store (t := 22) ?_) | (with_reducible refine stop_store (t := 31) ?_) | (with_reducible refine stop_store (t := 47) ?_) | (with_reducible refine stop_store (t := 52) ?_) | (with_reducible refine stop_store (t := 68) ?_) | (with_reducible refine stop_store (t := 72) ?_) | (with_reducible refine stop_lookup ?_) | (with_reducible refine stop_buildSlice ?_) | (with_reducible refine stop_app ?_) | (with_reducible refine stop_mapEntry ?_) | (with_reducible refine stop_eql (t := 28) ?_) | (with_reducible refine stop_eql (t := 40) ?_) | (with_reducible refine stop_neq (t := 28) ?_) | (with_reducible refine stop_neq (t := 40) ?_))
        refine at_out (wpList_skipE rfl (re_store (v := .agg (sc c s1).toArray) (n := 101) aggS.size (by rfl) (by rfl) n3.blk (by simpa [Value.cells] using lw1) (by simp [hz1]) (by simpa [Value.cells] using one1.out)) ?_)
        intro w4 s4
        simp only [Nat.reduceAdd, Nat.zero_add, Act.put, List.setIfInBounds_toArray, List.set_cons_succ, List.set_cons_zero]
        rw [splice_all (by rw [hz1]; simpa [Value.cells] using lw1)] at s4
        have hgw : w.heap.size ≤ g := Nat.le_trans KW.out.size n3.ge
        have q4 : Keeps Nb w w4 := KW.out.trans_nb (n3.k.own (k := g) n3.ge s4.k)
        have q4r := n3.k.own (k := g) n3.ge s4.k
        have hgb := s4.blk
        go_wp2_with (first | go_skip | (with_reducible refine stop_load (t := 27) ?_) | (with_reducible refine stop_load (t := 28) ?_) | (with_reducible refine stop_load (t := 30) ?_) | (with_reducible refine stop_load (t := 33) ?_) | (with_reducible refine stop_load (t := 35) ?_) | (with_reducible refine stop_load (t := 40) ?_) | (with_reducible refine stop_load (t := 76) ?_) | (with_reducible refine stop_load (t := 77) ?_) | (with_reducible refine stop_box (t := 27) ?_) | (with_reducible refine stop_box (t := 28) ?_) | (with_reducible refine stop_box (t := 30) ?_) | (with_reducible refine stop_box (t := 33) ?_) | (with_reducible refine stop_box (t := 35) ?_) | (with_reducible refine stop_box (t := 40) ?_) | (with_reducible refine stop_box (t := 76) ?_) | (with_reducible refine stop_box (t := 77) ?_) | (with_reducible refine stop_alloc (t := 27) ?_) | (with_reducible refine stop_alloc (t := 28) ?_) | (with_reducible refine stop_alloc (t := 30) ?_) | (with_reducible refine stop_alloc (t := 33) ?_) | (with_reducible refine stop_alloc (t := 35) ?_) | (with_reducible refine stop_alloc (t := 40) ?_) | (with_reducible refine stop_alloc (t := 76) ?_) | (with_reducible refine stop_alloc (t := 77) ?_) | (with_reducible refine stop_alloc (t := 52) ?_) | (with_reducible refine stop_alloc (t := 68) ?_) | (with_reducible refine stop_alloc (t := 72) ?_) | (with_reducible refine stop_build (t := 27) ?_) | (with_reducible refine stop_build (t := 28) ?_) | (with_reducible refine stop_build (t := 30) ?_) | (with_reducible refine stop_build (t := 33) ?_) | (with_reducible refine stop_build (t := 35) ?_) | (with_reducible refine stop_build (t := 40) ?_) | (with_reducible refine stop_build (t := 76) ?_) | (with_reducible refine stop_build (t := 77) ?_) | (with_reducible refine stop_build (t := 52) ?_) | (with_reducible refine stop_build (t := 68) ?_) | (with_reducible refine stop_store (t := 27) ?_) | (with_reducible refine stop_store (t := 28) ?_) | (with_reducible refine stop_store (t := 30) ?_) | (with_reducible refine stop_store (t := 33) ?_) | (with_reducible refine stop_store (t := 35) ?_) | (with_reducible refine stop_store (t := 40) ?_) | (with_reducible refine stop_store (t := 76) ?_) | (with_reducible refine stop_store (t := 77) ?_) | (with_reducible refine stop_store (t := 22) ?_) | (with_reducible refine stop_store (t := 31) ?_) | (with_reducible refine stop_store (t := 47) ?_) | (with_reducible refine stop_store (t := 52) ?_) | (with_reducible refine stop_store (t := 68) ?_) | (with_reducible refine stop_store (t := 72) ?_) | (with_reducible refine stop_lookup ?_) | (with_reducible refine stop_buildSlice ?_) | (with_reducible refine stop_app ?_) | (with_reducible refine stop_mapEntry ?_) | (with_reducible refine stop_eql (t := 28) ?_) | (with_reducible refine stop_eql (t := 40) ?_) | (with_reducible refine stop_neq (t := 28) ?_) | (with_reducible refine stop_neq (t := 40) ?_))
        refine at_out (wpList_val (v := .agg (sc c s1).toArray) rfl (rn_loadH aggS (by rfl) (by simpa [Value.cells] using has_block hgb) lw1) ?_)
        simp only [Nat.reduceAdd, Nat.zero_add, Act.put, List.setIfInBounds_toArray, List.set_cons_succ, List.set_cons_zero]
        go_wp2_with fail
        refine (CC.out w4 s1 q4 (VV.out _ q4).sig).mono ?_
        rintro e w5 ⟨rfl, k5⟩
        have q5 := q4.trans_nb k5
        have q5r := q4r.trans_nb k5
        cases hf : f c
        · have HT2 := Lib.hid (HT.out.trans (by rw [hf]; rfl) : (cs.take (k + 1)).filter f = D)
          go_wp2
          go_roundw
          case rel => exact ⟨k + 1, by omega, by go_num, by rw [HT2.out]; exact HFR.out.nb q5r, q5⟩
          case measure => simp [intOf]; omega
        · have HT2 := Lib.hid (HT.out.trans (by rw [hf]; rfl) : (cs.take (k + 1)).filter f = D ++ [c])
          have hgb5 := k5.nb hgb
          have hsg := (VV.out _ q5).sig
          obtain ⟨sa, scap, rfl, r1, r2, r3, r4, r5⟩ := hsg
          have h67 : w5.cell? ⟨g, 67, none⟩ = some (.slice sa c.sig.length scap) := by
            have := (sc_has OK1.out (b := g) (off := 0) (s := .slice sa c.sig.length scap) (by simpa [Value.cells] using has_block hgb5)).2.2.2
            simpa using this
          have CB := Lib.hid (cloneB_at sa c.sig.length scap (c.sig.map fun x => .int .u8 (x : Nat)) w5 ⟨r3.has, by simp, one_nats⟩ ⟨r1, r2⟩ hsl)
          have R4 := Lib.hid r4
          clear r3 r4 r5 r2 hgb
          go_wp2_with fail
          refine CB.out.mono ?_
          rintro _ w6 ⟨vs', rfl, hown, k6⟩
          have hgb6 := k6.nb hgb5
          obtain ⟨va5, vc5, hv5, j1, j2, j3, j4⟩ := owns_has hown
          have o5 : vs'.cells = #[vs'] ∧ vs'.oneCell' = true := by rw [hv5]; exact ⟨rfl, rfl⟩
          have HV5 := Lib.hid hv5; clear hv5
          go_wp2_with (first | go_skip | (with_reducible refine stop_load (t := 27) ?_) | (with_reducible refine stop_load (t := 28) ?_) | (with_reducible refine stop_load (t := 30) ?_) | (with_reducible refine stop_load (t := 33) ?_) | (with_reducible refine stop_load (t := 35) ?_) | (with_reducible refine stop_load (t := 40) ?_) | (with_reducible refine stop_load (t := 76) ?_) | (with_reducible refine stop_load (t := 77) ?_) | (with_reducible refine stop_box (t := 27) ?_) | (with_reducible refine stop_box (t := 28) ?_) | (with_reducible refine stop_box (t := 30) ?_) | (with_reducible refine stop_box (t := 33) ?_) | (with_reducible refine stop_box (t := 35) ?_) | (with_reducible refine stop_box (t := 40) ?_) | (with_reducible refine stop_box (t := 76) ?_) | (with_reducible refine stop_box (t := 77) ?_) | (with_reducible refine stop_alloc (t := 27) ?_) | (with_reducible refine stop_alloc (t := 28) ?_) | (with_reducible refine stop_alloc (t := 30) ?_) | (with_reducible refine stop_alloc (t := 33) ?_) | (with_reducible refine stop_alloc (t := 35) ?_) | (with_reducible refine stop_alloc (t := 40) ?_) | (with_reducible refine stop_alloc (t := 76) ?_) | (with_reducible refine stop_alloc (t := 77) ?_) | (with_reducible refine stop_alloc (t := 52) ?_) | (with_reducible refine stop_alloc (t := 68) ?_) | (with_reducible refine stop_alloc (t := 72) ?_) | (with_reducible refine stop_build (t := 27) ?_) | (with_reducible refine stop_build (t := 28) ?_) | (with_reducible refine stop_build (t := 30) ?_) | (with_reducible refine stop_build (t := 33) ?_) | (with_reducible refine stop_build (t := 35) ?_) | (with_reducible refine stop_build (t := 40) ?_) | (with_reducible refine stop_build (t := 76) ?_) | (with_reducible refine stop_build (t := 77) ?_) | (with_reducible refine stop_build (t := 52) ?_) | (with_reducible refine stop_build (t := 68) ?_) | (with_reducible refine stop_store (t := 27) ?_) | (with_reducible refine stop_store (t := 28) ?_) | (with_reducible refine stop_store (t := 30) ?_) | (with_reducible refine stop_store (t := 33) ?_) | (with_reducible refine stop_store (t := 35) ?_) | (with_reducible refine stop_store (t := 40) ?_) | (with_reducible refine stop_store (t := 76) ?_) | (with_reducible refine stop_store (t := 77) ?_) | (with_reducible refine stop_store (t := 22) ?_) | (with_reducible refine stop_store (t := 31) ?_) | (with_reducible refine stop_store (t := 47) ?_) | (with_reducible refine stop_store (t := 52) ?_) | (with_reducible refine stop_store (t := 68) ?_) | (with_reducible refine stop_store (t := 72) ?_) | (with_reducible refine stop_lookup ?_) | (with_reducible refine stop_buildSlice ?_) | (with_reducible refine stop_app ?_) | (with_reducible refine stop_mapEntry ?_) | (with_reducible refine stop_eql (t := 28) ?_) | (with_reducible refine stop_eql (t := 40) ?_) | (with_reducible refine stop_neq (t := 28) ?_) | (with_reducible refine stop_neq (t := 40) ?_))
          refine at_out (wpList_skipE rfl (re_store (v := vs') (n := 1) (by kernel_rfl) (by rfl) (by rfl) hgb6 (by rw [o5.1]; rfl) (by simp [Value.cells, lw1]) (by rw [o5.1]; simpa using o5.2)) ?_)
          intro w7 s7
          rw [o5.1, show (Value.agg (sc c (.slice sa c.sig.length scap)).toArray).cells = (sc c (.slice sa c.sig.length scap)).toArray by simp [Value.cells], splice_sc OK1.out] at s7
          simp only [Nat.reduceAdd, Nat.zero_add, Act.put, List.setIfInBounds_toArray, List.set_cons_succ, List.set_cons_zero]
          have k57 := k6.size
          have kz1 := KW.out.size
          have kz2 := q5r.size
          have k7z := s7.k.size
          have gs : wr.heap.size ≤ g := n3.ge
          have glt : g < w5.heap.size := lt_of_block hgb5
          have q7 : Keeps Nb w w7 := (q5.trans_nb k6).own (k := g) hgw s7.k
          have q7r : Keeps Nb wr w7 := (q5r.trans_nb k6).own (k := g) gs s7.k
          have HB6 := Lib.hid (fun k (hk : vs'.ownBlock = some k) => (have h := owns_blk hown hk; (⟨h.1, h.2.1, h.2.2.imp fun _ hc => s7.k.at hc (fun e => by have := h.1; omega)⟩ : w5.heap.size ≤ k ∧ k < w6.heap.size ∧ ∃ cur, w7.heap[k]? = some (.cells cur 5 (0, 0)))))
          have sg : SigAt w7 (fun k => vs'.ownBlock = some k) c vs' := by
            refine ⟨va5, vc5, HV5.out, j1, j2, ?_, R4.out, fun b off e _ => (j4 b off e).1⟩
            have h5 : ReadsN .u8 w6 va5 c.sig := owns_readsU (HV5.out ▸ hown)
            exact h5.keeps s7.k (fun b off e _ e2 => by have := (j4 b off e).2.2.1; omega)
          have ls' := sc_len OK1.out vs'
          have one' := Lib.hid (sc_one c vs' o5.2)
          have hb7 := has_block s7.blk
          have SG := Lib.hid sg
          clear CB hown j3 j4 s7 hgb5 hgb6 sg k6 k5 h67
          go_wp2_with (first | go_skip | (with_reducible refine stop_load (t := 27) ?_) | (with_reducible refine stop_load (t := 28) ?_) | (with_reducible refine stop_load (t := 30) ?_) | (with_reducible refine stop_load (t := 33) ?_) | (with_reducible refine stop_load (t := 35) ?_) | (with_reducible refine stop_load (t := 40) ?_) | (with_reducible refine stop_load (t := 76) ?_) | (with_reducible refine stop_load (t := 77) ?_) | (with_reducible refine stop_box (t := 27) ?_) | (with_reducible refine stop_box (t := 28) ?_) | (with_reducible refine stop_box (t := 30) ?_) | (with_reducible refine stop_box (t := 33) ?_) | (with_reducible refine stop_box (t := 35) ?_) | (with_reducible refine stop_box (t := 40) ?_) | (with_reducible refine stop_box (t := 76) ?_) | (with_reducible refine stop_box (t := 77) ?_) | (with_reducible refine stop_alloc (t := 27) ?_) | (with_reducible refine stop_alloc (t := 28) ?_) | (with_reducible refine stop_alloc (t := 30) ?_) | (with_reducible refine stop_alloc (t := 33) ?_) | (with_reducible refine stop_alloc (t := 35) ?_) | (with_reducible refine stop_alloc (t := 40) ?_) | (with_reducible refine stop_alloc (t := 76) ?_) | (with_reducible refine stop_alloc (t := 77) ?_) | (with_reducible refine stop_alloc (t := 52) ?_) | (with_reducible refine stop_alloc (t := 68) ?_) | (with_reducible refine stop_alloc (t := 72) ?_) | (with_reducible refine stop_build (t := 27) ?_) | (with_reducible refine stop_build (t := 28) ?_) | (with_reducible refine stop_build (t := 30) ?_) | (with_reducible refine stop_build (t := 33) ?_) | (with_reducible refine stop_build (t := 35) ?_) | (with_reducible refine stop_build (t := 40) ?_) | (with_reducible refine stop_build (t := 76) ?_) | (with_reducible refine stop_build (t := 77) ?_) | (with_reducible refine stop_build (t := 52) ?_) | (with_reducible refine stop_build (t := 68) ?_) | (with_reducible refine stop_store (t := 27) ?_) | (with_reducible refine stop_store (t := 28) ?_) | (with_reducible refine stop_store (t := 30) ?_) | (with_reducible refine stop_store (t := 33) ?_) | (with_reducible refine stop_store (t := 35) ?_) | (with_reducible refine stop_store (t := 40) ?_) | (with_reducible refine stop_store (t := 76) ?_) | (with_reducible refine stop_store (t := 77) ?_) | (with_reducible refine stop_store (t := 22) ?_) | (with_reducible refine stop_store (t := 31) ?_) | (with_reducible refine stop_store (t := 47) ?_) | (with_reducible refine stop_store (t := 52) ?_) | (with_reducible refine stop_store (t := 68) ?_) | (with_reducible refine stop_store (t := 72) ?_) | (with_reducible refine stop_lookup ?_) | (with_reducible refine stop_buildSlice ?_) | (with_reducible refine stop_app ?_) | (with_reducible refine stop_mapEntry ?_) | (with_reducible refine stop_eql (t := 28) ?_) | (with_reducible refine stop_eql (t := 40) ?_) | (with_reducible refine stop_neq (t := 28) ?_) | (with_reducible refine stop_neq (t := 40) ?_))
          refine at_out (wpList_val (v := .agg (sc c vs').toArray) rfl (rn_loadH aggS (by rfl) hb7 ls') ?_)
          simp only [Nat.reduceAdd, Nat.zero_add, Act.put, List.setIfInBounds_toArray, List.set_cons_succ, List.set_cons_zero]
          go_wp2_with (first | go_skip | (with_reducible refine stop_load (t := 27) ?_) | (with_reducible refine stop_load (t := 28) ?_) | (with_reducible refine stop_load (t := 30) ?_) | (with_reducible refine stop_load (t := 33) ?_) | (with_reducible refine stop_load (t := 35) ?_) | (with_reducible refine stop_load (t := 40) ?_) | (with_reducible refine stop_load (t := 76) ?_) | (with_reducible refine stop_load (t := 77) ?_) | (with_reducible refine stop_box (t := 27) ?_) | (with_reducible refine stop_box (t := 28) ?_) | (with_reducible refine stop_box (t := 30) ?_) | (with_reducible refine stop_box (t := 33) ?_) | (with_reducible refine stop_box (t := 35) ?_) | (with_reducible refine stop_box (t := 40) ?_) | (with_reducible refine stop_box (t := 76) ?_) | (with_reducible refine stop_box (t := 77) ?_) | (with_reducible refine stop_alloc (t := 27) ?_) | (with_reducible refine stop_alloc (t := 28) ?_) | (with_reducible refine stop_alloc (t := 30) ?_) | (with_reducible refine stop_alloc (t := 33) ?_) | (with_reducible refine stop_alloc (t := 35) ?_) | (with_reducible refine stop_alloc (t := 40) ?_) | (with_reducible refine stop_alloc (t := 76) ?_) | (with_reducible refine stop_alloc (t := 77) ?_) | (with_reducible refine stop_alloc (t := 52) ?_) | (with_reducible refine stop_alloc (t := 68) ?_) | (with_reducible refine stop_alloc (t := 72) ?_) | (with_reducible refine stop_build (t := 27) ?_) | (with_reducible refine stop_build (t := 28) ?_) | (with_reducible refine stop_build (t := 30) ?_) | (with_reducible refine stop_build (t := 33) ?_) | (with_reducible refine stop_build (t := 35) ?_) | (with_reducible refine stop_build (t := 40) ?_) | (with_reducible refine stop_build (t := 76) ?_) | (with_reducible refine stop_build (t := 77) ?_) | (with_reducible refine stop_build (t := 52) ?_) | (with_reducible refine stop_build (t := 68) ?_) | (with_reducible refine stop_store (t := 27) ?_) | (with_reducible refine stop_store (t := 28) ?_) | (with_reducible refine stop_store (t := 30) ?_) | (with_reducible refine stop_store (t := 33) ?_) | (with_reducible refine stop_store (t := 35) ?_) | (with_reducible refine stop_store (t := 40) ?_) | (with_reducible refine stop_store (t := 76) ?_) | (with_reducible refine stop_store (t := 77) ?_) | (with_reducible refine stop_store (t := 22) ?_) | (with_reducible refine stop_store (t := 31) ?_) | (with_reducible refine stop_store (t := 47) ?_) | (with_reducible refine stop_store (t := 52) ?_) | (with_reducible refine stop_store (t := 68) ?_) | (with_reducible refine stop_store (t := 72) ?_) | (with_reducible refine stop_lookup ?_) | (with_reducible refine stop_buildSlice ?_) | (with_reducible refine stop_app ?_) | (with_reducible refine stop_mapEntry ?_) | (with_reducible refine stop_eql (t := 28) ?_) | (with_reducible refine stop_eql (t := 40) ?_) | (with_reducible refine stop_neq (t := 28) ?_) | (with_reducible refine stop_neq (t := 40) ?_))
          refine at_out (wpList_valE rfl (re_buildSlice1 (v := .agg (sc c vs').toArray) E22 (by rfl) (by simpa [Value.cells] using ls') (by omega)) ?_)
          rintro _ we ⟨g6, rfl, ne⟩
          simp only [Nat.reduceAdd, Nat.zero_add, Act.put, List.setIfInBounds_toArray, List.set_cons_succ, List.set_cons_zero]
          obtain ⟨xs, RR, hx1, hx2, hx3⟩ := HFR.out
          have kre := q7r.trans_nb ne.k
          have krz := kre.size
          have k7e := ne.k.size
          have hob : ∀ b, (Value.slice a3 D.length c3).ownBlock = some b → w.heap.size ≤ b ∧ b < wr.heap.size := by
            intro b hb
            rcases hx1.2 with ⟨hv, _⟩ | ⟨g9, _, _, hv, hg9, hh9, _⟩
            · rw [hv] at hb; cases hb
            · rw [hv] at hb; cases hb; exact ⟨hg9, lt_of_block hh9⟩
          have HOB := Lib.hid hob
          have HX2 := Lib.hid (hx2.keeps kre (fun _ _ e => e)); have HX3 := Lib.hid hx3
          have SGE := Lib.hid (SG.out.keeps ne.k (fun _ _ e => e))
          have QE := Lib.hid (q7.trans_nb ne.k)
          have hx1e := owns_keeps hx1 kre (fun _ _ e => e)
          clear hob hx1 hx2 hx3
          go_wp2_with (first | go_skip | (with_reducible refine stop_load (t := 27) ?_) | (with_reducible refine stop_load (t := 28) ?_) | (with_reducible refine stop_load (t := 30) ?_) | (with_reducible refine stop_load (t := 33) ?_) | (with_reducible refine stop_load (t := 35) ?_) | (with_reducible refine stop_load (t := 40) ?_) | (with_reducible refine stop_load (t := 76) ?_) | (with_reducible refine stop_load (t := 77) ?_) | (with_reducible refine stop_box (t := 27) ?_) | (with_reducible refine stop_box (t := 28) ?_) | (with_reducible refine stop_box (t := 30) ?_) | (with_reducible refine stop_box (t := 33) ?_) | (with_reducible refine stop_box (t := 35) ?_) | (with_reducible refine stop_box (t := 40) ?_) | (with_reducible refine stop_box (t := 76) ?_) | (with_reducible refine stop_box (t := 77) ?_) | (with_reducible refine stop_alloc (t := 27) ?_) | (with_reducible refine stop_alloc (t := 28) ?_) | (with_reducible refine stop_alloc (t := 30) ?_) | (with_reducible refine stop_alloc (t := 33) ?_) | (with_reducible refine stop_alloc (t := 35) ?_) | (with_reducible refine stop_alloc (t := 40) ?_) | (with_reducible refine stop_alloc (t := 76) ?_) | (with_reducible refine stop_alloc (t := 77) ?_) | (with_reducible refine stop_alloc (t := 52) ?_) | (with_reducible refine stop_alloc (t := 68) ?_) | (with_reducible refine stop_alloc (t := 72) ?_) | (with_reducible refine stop_build (t := 27) ?_) | (with_reducible refine stop_build (t := 28) ?_) | (with_reducible refine stop_build (t := 30) ?_) | (with_reducible refine stop_build (t := 33) ?_) | (with_reducible refine stop_build (t := 35) ?_) | (with_reducible refine stop_build (t := 40) ?_) | (with_reducible refine stop_build (t := 76) ?_) | (with_reducible refine stop_build (t := 77) ?_) | (with_reducible refine stop_build (t := 52) ?_) | (with_reducible refine stop_build (t := 68) ?_) | (with_reducible refine stop_store (t := 27) ?_) | (with_reducible refine stop_store (t := 28) ?_) | (with_reducible refine stop_store (t := 30) ?_) | (with_reducible refine stop_store (t := 33) ?_) | (with_reducible refine stop_store (t := 35) ?_) | (with_reducible refine stop_store (t := 40) ?_) | (with_reducible refine stop_store (t := 76) ?_) | (with_reducible refine stop_store (t := 77) ?_) | (with_reducible refine stop_store (t := 22) ?_) | (with_reducible refine stop_store (t := 31) ?_) | (with_reducible refine stop_store (t := 47) ?_) | (with_reducible refine stop_store (t := 52) ?_) | (with_reducible refine stop_store (t := 68) ?_) | (with_reducible refine stop_store (t := 72) ?_) | (with_reducible refine stop_lookup ?_) | (with_reducible refine stop_buildSlice ?_) | (with_reducible refine stop_app ?_) | (with_reducible refine stop_mapEntry ?_) | (with_reducible refine stop_eql (t := 28) ?_) | (with_reducible refine stop_eql (t := 40) ?_) | (with_reducible refine stop_neq (t := 28) ?_) | (with_reducible refine stop_neq (t := 40) ?_))
          refine at_out (wpList_valE rfl (re_appB (base := w.heap.size) (news := sc c vs') (m := 1) E22 QE.out.size hx1e (by rfl) (by rfl) (by simpa [Value.cells] using has_block ne.blk) (by omega) one'.out (by unfold maxLen; omega) (by omega)) ?_)
          rintro v9 wf ⟨hof, kf, hov⟩
          have kfz := kf.size
          have hfin : Fresh w wf v9 (D ++ [c]) := by
            refine ⟨xs ++ sc c vs', fun k => RR k ∨ vs'.ownBlock = some k, by rw [List.length_append]; exact hof, ((HX2.out.keeps kf (fun k hk e => (HX3.out k hk).2.2.1 e)).mono (fun k h => .inl h)).snoc ((SGE.out.keeps kf (fun k hk e => by have := HOB.out k e; have := (HB6.out k hk).1; omega)).mono (fun k h => .inr h)), fun k hk => ?_⟩
            rcases hk with hk | hk
            · have h3 := HX3.out k hk
              refine ⟨h3.1, by omega, fun e => ?_, h3.2.2.2.imp fun _ hc => kf.at (kre.nb hc) (fun e => h3.2.2.1 e)⟩
              rcases hov with h | h
              · rw [h] at e; exact h3.2.2.1 e
              · rw [h] at e; cases e; omega
            · have h6 := HB6.out k hk
              refine ⟨by omega, by omega, fun e => ?_, h6.2.2.imp fun _ hc => kf.at (ne.k.nb hc) (fun e => by have := HOB.out k e; omega)⟩
              rcases hov with h | h
              · rw [h] at e; have := HOB.out k e; omega
              · rw [h] at e; cases e; omega
          have KF : Keeps Nb w wf := QE.out.trans kf (fun i hi e => by have := HOB.out i e; omega)
          obtain ⟨a9, c9, rfl, -⟩ := hfin.list
          have HFIN := Lib.hid hfin
          clear hof kf hov hfin
          rw [List.length_append] at HFIN ⊢
          simp only [Nat.reduceAdd, Nat.zero_add, Act.put, List.setIfInBounds_toArray, List.set_cons_succ, List.set_cons_zero]
          go_wp2
          go_roundw
          case rel => exact ⟨k + 1, by omega, by go_num, by rw [HT2.out]; exact HFIN.out, KF⟩
          case measure => simp [intOf]; omega
      · have hkl : k = cs.length := by omega
        subst hkl
        rw [List.take_length] at hfr
        obtain ⟨a3, c3, rfl, -⟩ := hfr.list
        have HFR := Lib.hid hfr; clear hfr
        go_wp2
        go_ret
        exact ⟨_, rfl, HFR.out, kw⟩
  · skip
    skip
    go_enter Try.func34, Try.ntmps34
    go_wp2_with fail
    refine (there_at p _ vl _ mh _ HB.out).mono ?_; rintro e w' ⟨rfl, rfl⟩
    go_wp2_with fail
    go_loopw [5, 16] (fun v i wr => ∃ k : Nat, k ≤ cs.length ∧ i = .int .i64 k ∧ Fresh w wr v ((cs.take k).filter f) ∧ Keeps Nb w wr) (fun _ i _ => cs.length - (intOf i).toNat)
    case atStart => exact ⟨0, Nat.zero_le _, rfl, ⟨[], Nb, World.ownsRow_nil _ _ _ _, rfl, fun _ h => h.elim⟩, Keeps.refl _ _⟩
    case round =>
      obtain ⟨k, hk, rfl, hfr, kw⟩ := hrel
      by_cases hlt : k < cs.length
      · have i1 : (k : Int) < (cs.length : Int) := by omega
        have hne : cs ≠ [] := by rintro rfl; simp at hlt
        have ha := HA.out hne
        subst ha
        obtain ⟨s1, hv1⟩ := HV.out k cs[k] (List.getElem?_eq_getElem hlt)
        have hin := List.getElem_mem hlt
        have ok1 := HG.out.ok _ hin
        have hsl := HSG.out _ hin
        have HT := Lib.hid (filter_take hlt f)
        have CC := Lib.hid (fun (u : World) (s : Value) (hk : Keeps Nb w u) (hs : SigAt u (fun k => F k ∨ R k) cs[k] s) => HC.out u cs[k] s hk hin ok1 hs)
        have hfl : ((cs.take k).filter f).length ≤ k := by have := List.length_filter_le f (cs.take k); rw [List.length_take] at this; omega
        generalize (cs.take k).filter f = D at *
        clear hin
        generalize cs[k] = c at *
        have lw1 := sc_len ok1 s1
        have one1 := Lib.hid (sc_one c s1 hv1.sig.one)
        have VV := Lib.hid (fun (u : World) (h : Keeps Nb w u) => hv1.nb h)
        have OK1 := Lib.hid ok1; have HFR := Lib.hid hfr; have KW := Lib.hid kw
        obtain ⟨a3, c3, rfl, hl3⟩ := hfr.list
        have hl31 := hl3.2.1
        have hl32 := hl3.2.2.1
        unfold maxLen at hl32
        clear hv1 ok1 hfr kw hl3
        go_wp2_with (first | go_skip | (with_reducible refine stop_load (t := 27) ?_) | (with_reducible refine stop_load (t := 28) ?_) | (with_reducible refine stop_load (t := 30) ?_) | (with_reducible refine stop_load (t := 33) ?_) | (with_reducible refine stop_load (t := 35) ?_) | (with_reducible refine stop_load (t := 40) ?_) | (with_reducible refine stop_load (t := 76) ?_) | (with_reducible refine stop_load (t := 77) ?_) | (with_reducible refine stop_box (t := 27) ?_) | (with_reducible refine stop_box (t := 28) ?_) | (with_reducible refine stop_box (t := 30) ?_) | (with_reducible refine stop_box (t := 33) ?_) | (with_reducible refine stop_box (t := 35) ?_) | (with_reducible refine stop_box (t := 40) ?_) | (with_reducible refine stop_box (t := 76) ?_) | (with_reducible refine stop_box (t := 77) ?_) | (with_reducible refine stop_alloc (t := 27) ?_) | (with_reducible refine stop_alloc (t := 28) ?_) | (with_reducible refine stop_alloc (t := 30) ?_) | (with_reducible refine stop_alloc (t := 33) ?_) | (with_reducible refine stop_alloc (t := 35) ?_) | (with_reducible refine stop_alloc (t := 40) ?_) | (with_reducible refine stop_alloc (t := 76) ?_) | (with_reducible refine stop_alloc (t := 77) ?_) | (with_reducible refine stop_alloc (t := 52) ?_) | (with_reducible refine stop_alloc (t := 68) ?_) | (with_reducible refine stop_alloc (t := 72) ?_) | (with_reducible refine stop_build (t := 27) ?_) | (with_reducible refine stop_build (t := 28) ?_) | (with_reducible refine stop_build (t := 30) ?_) | (with_reducible refine stop_build (t := 33) ?_) | (with_reducible refine stop_build (t := 35) ?_) | (with_reducible refine stop_build (t := 40) ?_) | (with_reducible refine stop_build (t := 76) ?_) | (with_reducible refine stop_build (t := 77) ?_) | (with_reducible refine stop_build (t := 52) ?_) | (with_reducible refine stop_build (t := 68) ?_) | (with_reducible refine stop_store (t := 27) ?_) | (with_reducible refine stop_store (t := 28) ?_) | (with_reducible refine stop_store (t := 30) ?_) | (with_reducible refine stop_store (t := 33) ?_) | (with_reducible refine stop_store (t := 35) ?_) | (with_reducible refine stop_store (t := 40) ?_) | (with_reducible refine stop_store (t := 76) ?_) | (with_reducible refine stop_store (t := 77) ?_) | (with_reducible refine stop_store (t := 22) ?_) | (with_reducible refine stop_store (t := 31) ?_) | (with_reducible refine stop_store (t := 47) ?_) | (with_reducible refine stop_store (t := 52) ?_) | (with_reducible refine stop_store (t := 68) ?_) | (with_reducible refine stop_store (t := 72) ?_) | (with_reducible refine stop_lookup ?_) | (with_reducible refine stop_buildSlice ?_) | (with_reducible refine stop_app ?_) | (with_reducible refine stop_mapEntry ?_) | (with_reducible refine stop_eql (t := 28) ?_) | (with_reducible refine stop_eql (t := 40) ?_) | (with_reducible refine stop_neq (t := 28) ?_) | (with_reducible refine stop_neq (t := 40) ?_))
        refine at_out (wpList_val (v := .agg (sc c s1).toArray) rfl (rn_loadH aggS (by rfl) (VV.out _ KW.out).whole lw1) ?_)
        simp only [Nat.reduceAdd, Nat.zero_add, Act.put, List.setIfInBounds_toArray, List.set_cons_succ, List.set_cons_zero]
        go_wp2_with (first | go_skip | (with_reducible refine stop_load (t := 27) ?_) | (with_reducible refine stop_load (t := 28) ?_) | (with_reducible refine stop_load (t := 30) ?_) | (with_reducible refine stop_load (t := 33) ?_) | (with_reducible refine stop_load (t := 35) ?_) | (with_reducible refine stop_load (t := 40) ?_) | (with_reducible refine stop_load (t := 76) ?_) | (with_reducible refine stop_load (t := 77) ?_) | (with_reducible refine stop_box (t := 27) ?_) | (with_reducible refine stop_box (t := 28) ?_) | (with_reducible refine stop_box (t := 30) ?_) | (with_reducible refine stop_box (t := 33) ?_) | (with_reducible refine stop_box (t := 35) ?_) | (with_reducible refine stop_box (t := 40) ?_) | (with_reducible refine stop_box (t := 76) ?_) | (with_reducible refine stop_box (t := 77) ?_) | (with_reducible refine stop_alloc (t := 27) ?_) | (with_reducible refine stop_alloc (t := 28) ?_) | (with_reducible refine stop_alloc (t := 30) ?_) | (with_reducible refine stop_alloc (t := 33) ?_) | (with_reducible refine stop_alloc (t := 35) ?_) | (with_reducible refine stop_alloc (t := 40) ?_) | (with_reducible refine stop_alloc (t := 76) ?_) | (with_reducible refine stop_alloc (t := 77) ?_) | (with_reducible refine stop_alloc (t := 52) ?_) | (with_reducible refine stop_alloc (t := 68) ?_) | (with_reducible refine stop_alloc (t := 72) ?_) | (with_reducible refine stop_build (t := 27) ?_) | (with_reducible refine stop_build (t := 28) ?_) | (with_reducible refine stop_build (t := 30) ?_) | (with_reducible refine stop_build (t := 33) ?_) | (with_reducible refine stop_build (t := 35) ?_) | (with_reducible refine stop_build (t := 40) ?_) | (with_reducible refine stop_build (t := 76) ?_) | (with_reducible refine stop_build (t := 77) ?_) | (with_reducible refine stop_build (t := 52) ?_) | (with_reducible refine stop_build (t := 68) ?_) | (with_reducible refine stop_store (t := 27) ?_) | (with_reducible refine stop_store (t := 28) ?_) | (with_reducible refine stop_store (t := 30) ?_) | (with_reducible refine stop_store (t := 33) ?_) | (with_reducible refine stop_store (t := 35) ?_) | (with_reducible refine stop_store (t := 40) ?_) | (with_reducible refine stop_store (t := 76) ?_) | (with_reducible refine stop_store (t := 77) ?_) | (with_reducible refine stop_store (t := 22) ?_) | (with_reducible refine stop_store (t := 31) ?_) | (with_reducible refine stop_store (t := 47) ?_) | (with_reducible refine stop_store (t := 52) ?_) | (with_reducible refine stop_store (t := 68) ?_) | (with_reducible refine stop_store (t := 72) ?_) | (with_reducible refine stop_lookup ?_) | (with_reducible refine stop_buildSlice ?_) | (with_reducible refine stop_app ?_) | (with_reducible refine stop_mapEntry ?_) | (with_reducible refine stop_eql (t := 28) ?_) | (with_reducible refine stop_eql (t := 40) ?_) | (with_reducible refine stop_neq (t := 28) ?_) | (with_reducible refine stop_neq (t := 40) ?_))
        refine at_out (valloc hz0 ?_); intro g w3 n3
        simp only [Nat.reduceAdd, Nat.zero_add, Act.put, List.setIfInBounds_toArray, List.set_cons_succ, List.set_cons_zero]
        go_wp2_with (first | go_skip | (with_reducible refine stop_load (t := 27) ?_) | (with_reducible refine stop_load (t := 28) ?_) | (with_reducible refine stop_load (t := 30) ?_) | (with_reducible refine stop_load (t := 33) ?_) | (with_reducible refine stop_load (t := 35) ?_) | (with_reducible refine stop_load (t := 40) ?_) | (with_reducible refine stop_load (t := 76) ?_) | (with_reducible refine stop_load (t := 77) ?_) | (with_reducible refine stop_box (t := 27) ?_) | (with_reducible refine stop_box (t := 28) ?_) | (with_reducible refine stop_box (t := 30) ?_) | (with_reducible refine stop_box (t := 33) ?_) | (with_reducible refine stop_box (t := 35) ?_) | (with_reducible refine stop_box (t := 40) ?_) | (with_reducible refine stop_box (t := 76) ?_) | (with_reducible refine stop_box (t := 77) ?_) | (with_reducible refine stop_alloc (t := 27) ?_) | (with_reducible refine stop_alloc (t := 28) ?_) | (with_reducible refine stop_alloc (t := 30) ?_) | (with_reducible refine stop_alloc (t := 33) ?_) | (with_reducible refine stop_alloc (t := 35) ?_) | (with_reducible refine stop_alloc (t := 40) ?_) | (with_reducible refine stop_alloc (t := 76) ?_) | (with_reducible refine stop_alloc (t := 77) ?_) | (with_reducible refine stop_alloc (t := 52) ?_) | (with_reducible refine stop_alloc (t := 68) ?_) | (with_reducible refine stop_alloc (t := 72) ?_) | (with_reducible refine stop_build (t := 27) ?_) | (with_reducible refine stop_build (t := 28) ?_) | (with_reducible refine stop_build (t := 30) ?_) | (with_reducible refine stop_build (t := 33) ?_) | (with_reducible refine stop_build (t := 35) ?_) | (with_reducible refine stop_build (t := 40) ?_) | (with_reducible refine stop_build (t := 76) ?_) | (with_reducible refine stop_build (t := 77) ?_) | (with_reducible refine stop_build (t := 52) ?_) | (with_reducible refine stop_build (t := 68) ?_) | (with_reducible refine stop_store (t := 27) ?_) | (with_reducible refine stop_store (t := 28) ?_) | (with_reducible refine stop_store (t := 30) ?_) | (with_reducible refine stop_store (t := 33) ?_) | (with_reducible refine stop_store (t := 35) ?_) | (with_reducible refine stop_store (t := 40) ?_) | (with_reducible refine stop_store (t := 76) ?_) | (with_reducible refine stop_store (t := 77) ?_) | (with_reducible refine stop_store (t := 22) ?_) | (with_reducible refine stop_store (t := 31) ?_) | (with_reducible refine stop_store (t := 47) ?_) | (with_reducible refine stop_store (t := 52) ?_) | (with_reducible refine stop_store (t := 68) ?_) | (with_reducible refine stop_store (t := 72) ?_) | (with_reducible refine stop_lookup ?_) | (with_reducible refine stop_buildSlice ?_) | (with_reducible refine stop_app ?_) | (with_reducible refine stop_mapEntry ?_) | (with_reducible refine stop_eql (t := 28) ?_) | (with_reducible refine stop_eql (t := 40) ?_) | (with_reducible refine stop_neq (t := 28) ?_) | (with_reducible refine stop_neq (t := 40) ?_))
        refine at_out (wpList_skipE rfl (re_store (v := .agg (sc c s1).toArray) (n := 101) aggS.size (by rfl) (by rfl) n3.blk (by simpa [Value.cells] using lw1) (by simp [hz1]) (by simpa [Value.cells] using one1.out)) ?_)
        intro w4 s4
        simp only [Nat.reduceAdd, Nat.zero_add, Act.put, List.setIfInBounds_toArray, List.set_cons_succ, List.set_cons_zero]
        rw [splice_all (by rw [hz1]; simpa [Value.cells] using lw1)] at s4
        have hgw : w.heap.size ≤ g := Nat.le_trans KW.out.size n3.ge
        have q4 : Keeps Nb w w4 := KW.out.trans_nb (n3.k.own (k := g) n3.ge s4.k)
        have q4r := n3.k.own (k := g) n3.ge s4.k
        have hgb := s4.blk
        go_wp2_with (first | go_skip | (with_reducible refine stop_load (t := 27) ?_) | (with_reducible refine stop_load (t := 28) ?_) | (with_reducible refine stop_load (t := 30) ?_) | (with_reducible refine stop_load (t := 33) ?_) | (with_reducible refine stop_load (t := 35) ?_) | (with_reducible refine stop_load (t := 40) ?_) | (with_reducible refine stop_load (t := 76) ?_) | (with_reducible refine stop_load (t := 77) ?_) | (with_reducible refine stop_box (t := 27) ?_) | (with_reducible refine stop_box (t := 28) ?_) | (with_reducible refine stop_box (t := 30) ?_) | (with_reducible refine stop_box (t := 33) ?_) | (with_reducible refine stop_box (t := 35) ?_) | (with_reducible refine stop_box (t := 40) ?_) | (with_reducible refine stop_box (t := 76) ?_) | (with_reducible refine stop_box (t := 77) ?_) | (with_reducible refine stop_alloc (t := 27) ?_) | (with_reducible refine stop_alloc (t := 28) ?_) | (with_reducible refine stop_alloc (t := 30) ?_) | (with_reducible refine stop_alloc (t := 33) ?_) | (with_reducible refine stop_alloc (t := 35) ?_) | (with_reducible refine stop_alloc (t := 40) ?_) | (with_reducible refine stop_alloc (t := 76) ?_) | (with_reducible refine stop_alloc (t := 77) ?_) | (with_reducible refine stop_alloc (t := 52) ?_) | (with_reducible refine stop_alloc (t := 68) ?_) | (with_reducible refine stop_alloc (t := 72) ?_) | (with_reducible refine stop_build (t := 27) ?_) | (with_reducible refine stop_build (t := 28) ?_) | (with_reducible refine stop_build (t := 30) ?_) | (with_reducible refine stop_build (t := 33) ?_) | (with_reducible refine stop_build (t := 35) ?_) | (with_reducible refine stop_build (t := 40) ?_) | (with_reducible refine stop_build (t := 76) ?_) | (with_reducible refine stop_build (t := 77) ?_) | (with_reducible refine stop_build (t := 52) ?_) | (with_reducible refine stop_build (t := 68) ?_) | (with_reducible refine stop_store (t := 27) ?_) | (with_reducible refine stop_store (t := 28) ?_) | (with_reducible refine stop_store (t := 30) ?_) | (with_reducible refine stop_store (t := 33) ?_) | (with_reducible refine stop_store (t := 35) ?_) | (with_reducible refine stop_store (t := 40) ?_) | (with_reducible refine stop_store (t := 76) ?_) | (with_reducible refine stop_store (t := 77) ?_) | (with_reducible refine stop_store (t := 22) ?_) | (with_reducible refine stop_store (t := 31) ?_) | (with_reducible refine stop_store (t := 47) ?_) | (with_reducible refine stop_store (t := 52) ?_) | (with_reducible refine stop_store (t := 68) ?_) | (with_reducible refine stop_store (t := 72) ?_) | (with_reducible refine stop_lookup ?_) | (with_reducible refine stop_buildSlice ?_) | (with_reducible refine stop_app ?_) | (with_reducible refine stop_mapEntry ?_) | (with_reducible refine stop_eql (t := 28) ?_) | (with_reducible refine stop_eql (t := 40) ?_) | (with_reducible refine stop_neq (t := 28) ?_) | (with_reducible refine stop_neq (t := 40) ?_))
        refine at_out (wpList_val (v := .agg (sc c s1).toArray) rfl (rn_loadH aggS (by rfl) (by simpa [Value.cells] using has_block hgb) lw1) ?_)
        simp only [Nat.reduceAdd, Nat.zero_add, Act.put, List.setIfInBounds_toArray, List.set_cons_succ, List.set_cons_zero]
        go_wp2_with fail
        refine (CC.out w4 s1 q4 (VV.out _ q4).sig).mono ?_
        rintro e w5 ⟨rfl, k5⟩
        have q5 := q4.trans_nb k5
        have q5r := q4r.trans_nb k5
        cases hf : f c
        · have HT2 := Lib.hid (HT.out.trans (by rw [hf]; rfl) : (cs.take (k + 1)).filter f = D)
          go_wp2
          go_roundw
          case rel => exact ⟨k + 1, by omega, by go_num, by rw [HT2.out]; exact HFR.out.nb q5r, q5⟩
          case measure => simp [intOf]; omega
        · have HT2 := Lib.hid (HT.out.trans (by rw [hf]; rfl) : (cs.take (k + 1)).filter f = D ++ [c])
          have hgb5 := k5.nb hgb
          have hsg := (VV.out _ q5).sig
          obtain ⟨sa, scap, rfl, r1, r2, r3, r4, r5⟩ := hsg
          have h67 : w5.cell? ⟨g, 67, none⟩ = some (.slice sa c.sig.length scap) := by
            have := (sc_has OK1.out (b := g) (off := 0) (s := .slice sa c.sig.length scap) (by simpa [Value.cells] using has_block hgb5)).2.2.2
            simpa using this
          have CB := Lib.hid (cloneB_at sa c.sig.length scap (c.sig.map fun x => .int .u8 (x : Nat)) w5 ⟨r3.has, by simp, one_nats⟩ ⟨r1, r2⟩ hsl)
          have R4 := Lib.hid r4
          clear r3 r4 r5 r2 hgb
          go_wp2_with fail
          refine CB.out.mono ?_
          rintro _ w6 ⟨vs', rfl, hown, k6⟩
          have hgb6 := k6.nb hgb5
          obtain ⟨va5, vc5, hv5, j1, j2, j3, j4⟩ := owns_has hown
          have o5 : vs'.cells = #[vs'] ∧ vs'.oneCell' = true := by rw [hv5]; exact ⟨rfl, rfl⟩
          have HV5 := Lib.hid hv5; clear hv5
          go_wp2_with (first | go_skip | (with_reducible refine stop_load (t := 27) ?_) | (with_reducible refine stop_load (t := 28) ?_) | (with_reducible refine stop_load (t := 30) ?_) | (with_reducible refine stop_load (t := 33) ?_) | (with_reducible refine stop_load (t := 35) ?_) | (with_reducible refine stop_load (t := 40) ?_) | (with_reducible refine stop_load (t := 76) ?_) | (with_reducible refine stop_load (t := 77) ?_) | (with_reducible refine stop_box (t := 27) ?_) | (with_reducible refine stop_box (t := 28) ?_) | (with_reducible refine stop_box (t := 30) ?_) | (with_reducible refine stop_box (t := 33) ?_) | (with_reducible refine stop_box (t := 35) ?_) | (with_reducible refine stop_box (t := 40) ?_) | (with_reducible refine stop_box (t := 76) ?_) | (with_reducible refine stop_box (t := 77) ?_) | (with_reducible refine stop_alloc (t := 27) ?_) | (with_reducible refine stop_alloc (t := 28) ?_) | (with_reducible refine stop_alloc (t := 30) ?_) | (with_reducible refine stop_alloc (t := 33) ?_) | (with_reducible refine stop_alloc (t := 35) ?_) | (with_reducible refine stop_alloc (t := 40) ?_) | (with_reducible refine stop_alloc (t := 76) ?_) | (with_reducible refine stop_alloc (t := 77) ?_) | (with_reducible refine stop_alloc (t := 52) ?_) | (with_reducible refine stop_alloc (t := 68) ?_) | (with_reducible refine stop_alloc (t := 72) ?_) | (with_reducible refine stop_build (t := 27) ?_) | (with_reducible refine stop_build (t := 28) ?_) | (with_reducible refine stop_build (t := 30) ?_) | (with_reducible refine stop_build (t := 33) ?_) | (with_reducible refine stop_build (t := 35) ?_) | (with_reducible refine stop_build (t := 40) ?_) | (with_reducible refine stop_build (t := 76) ?_) | (with_reducible refine stop_build (t := 77) ?_) | (with_reducible refine stop_build (t := 52) ?_) | (with_reducible refine stop_build (t := 68) ?_) | (with_reducible refine stop_store (t := 27) ?_) | (with_reducible refine stop_store (t := 28) ?_) | (with_reducible refine stop_store (t := 30) ?_) | (with_reducible refine stop_store (t := 33) ?_) | (with_reducible refine stop_store (t := 35) ?_) | (with_reducible refine stop_store (t := 40) ?_) | (with_reducible refine stop_store (t := 76) ?_) | (with_reducible refine stop_store (t := 77) ?_) | (with_reducible refine stop_store (t := 22) ?_) | (with_reducible refine stop_store (t := 31) ?_) | (with_reducible refine stop_store (t := 47) ?_) | (with_reducible refine stop_store (t := 52) ?_) | (with_reducible refine stop_store (t := 68) ?_) | (with_reducible refine stop_store (t := 72) ?_) | (with_reducible refine stop_lookup ?_) | (with_reducible refine stop_buildSlice ?_) | (with_reducible refine stop_app ?_) | (with_reducible refine stop_mapEntry ?_) | (with_reducible refine stop_eql (t := 28) ?_) | (with_reducible refine stop_eql (t := 40) ?_) | (with_reducible refine stop_neq (t := 28) ?_) | (with_reducible refine stop_neq (t := 40) ?_))
          refine at_out (wpList_skipE rfl (re_store (v := vs') (n := 1) (by kernel_rfl) (by rfl) (by rfl) hgb6 (by rw [o5.1]; rfl) (by simp [Value.cells, lw1]) (by rw [o5.1]; simpa using o5.2)) ?_)
          intro w7 s7
          rw [o5.1, show (Value.agg (sc c (.slice sa c.sig.length scap)).toArray).cells = (sc c (.slice sa c.sig.length scap)).toArray by simp [Value.cells], splice_sc OK1.out] at s7
          simp only [Nat.reduceAdd, Nat.zero_add, Act.put, List.setIfInBounds_toArray, List.set_cons_succ, List.set_cons_zero]
          have k57 := k6.size
          have kz1 := KW.out.size
          have kz2 := q5r.size
          have k7z := s7.k.size
          have gs : wr.heap.size ≤ g := n3.ge
          have glt : g < w5.heap.size := lt_of_block hgb5
          have q7 : Keeps Nb w w7 := (q5.trans_nb k6).own (k := g) hgw s7.k
          have q7r : Keeps Nb wr w7 := (q5r.trans_nb k6).own (k := g) gs s7.k
          have HB6 := Lib.hid (fun k (hk : vs'.ownBlock = some k) => (have h := owns_blk hown hk; (⟨h.1, h.2.1, h.2.2.imp fun _ hc => s7.k.at hc (fun e => by have := h.1; omega)⟩ : w5.heap.size ≤ k ∧ k < w6.heap.size ∧ ∃ cur, w7.heap[k]? = some (.cells cur 5 (0, 0)))))
          have sg : SigAt w7 (fun k => vs'.ownBlock = some k) c vs' := by
            refine ⟨va5, vc5, HV5.out, j1, j2, ?_, R4.out, fun b off e _ => (j4 b off e).1⟩
            have h5 : ReadsN .u8 w6 va5 c.sig := owns_readsU (HV5.out ▸ hown)
            exact h5.keeps s7.k (fun b off e _ e2 => by have := (j4 b off e).2.2.1; omega)
          have ls' := sc_len OK1.out vs'
          have one' := Lib.hid (sc_one c vs' o5.2)
          have hb7 := has_block s7.blk
          have SG := Lib.hid sg
          clear CB hown j3 j4 s7 hgb5 hgb6 sg k6 k5 h67
          go_wp2_with (first | go_skip | (with_reducible refine stop_load (t := 27) ?_) | (with_reducible refine stop_load (t := 28) ?_) | (with_reducible refine stop_load (t := 30) ?_) | (with_reducible refine stop_load (t := 33) ?_) | (with_reducible refine stop_load (t := 35) ?_) | (with_reducible refine stop_load (t := 40) ?_) | (with_reducible refine stop_load (t := 76) ?_) | (with_reducible refine stop_load (t := 77) ?_) | (with_reducible refine stop_box (t := 27) ?_) | (with_reducible refine stop_box (t := 28) ?_) | (with_reducible refine stop_box (t := 30) ?_) | (with_reducible refine stop_box (t := 33) ?_) | (with_reducible refine stop_box (t := 35) ?_) | (with_reducible refine stop_box (t := 40) ?_) | (with_reducible refine stop_box (t := 76) ?_) | (with_reducible refine stop_box (t := 77) ?_) | (with_reducible refine stop_alloc (t := 27) ?_) | (with_reducible refine stop_alloc (t := 28) ?_) | (with_reducible refine stop_alloc (t := 30) ?_) | (with_reducible refine stop_alloc (t := 33) ?_) | (with_reducible refine stop_alloc (t := 35) ?_) | (with_reducible refine stop_alloc (t := 40) ?_) | (with_reducible refine stop_alloc (t := 76) ?_) | (with_reducible refine stop_alloc (t := 77) ?_) | (with_reducible refine stop_alloc (t := 52) ?_) | (with_reducible refine stop_alloc (t := 68) ?_) | (with_reducible refine stop_alloc (t := 72) ?_) | (with_reducible refine stop_build (t := 27) ?_) | (with_reducible refine stop_build (t := 28) ?_) | (with_reducible refine stop_build (t := 30) ?_) | (with_reducible refine stop_build (t := 33) ?_) | (with_reducible refine stop_build (t := 35) ?_) | (with_reducible refine stop_build (t := 40) ?_) | (with_reducible refine stop_build (t := 76) ?_) | (with_reducible refine stop_build (t := 77) ?_) | (with_reducible refine stop_build (t := 52) ?_) | (with_reducible refine stop_build (t := 68) ?_) | (with_reducible refine stop_store (t := 27) ?_) | (with_reducible refine stop_store (t := 28) ?_) | (with_reducible refine stop_store (t := 30) ?_) | (with_reducible refine stop_store (t := 33) ?_) | (with_reducible refine stop_store (t := 35) ?_) | (with_reducible refine stop_store (t := 40) ?_) | (with_reducible refine stop_store (t := 76) ?_) | (with_reducible refine stop_store (t := 77) ?_) | (with_reducible refine stop_store (t := 22) ?_) | (with_reducible refine stop_store (t := 31) ?_) | (with_reducible refine stop_store (t := 47) ?_) | (with_reducible refine stop_store (t := 52) ?_) | (with_reducible refine stop_store (t := 68) ?_) | (with_reducible refine stop_store (t := 72) ?_) | (with_reducible refine stop_lookup ?_) | (with_reducible refine stop_buildSlice ?_) | (with_reducible refine stop_app ?_) | (with_reducible refine stop_mapEntry ?_) | (with_reducible refine stop_eql (t := 28) ?_) | (with_reducible refine stop_eql (t := 40) ?_) | (with_reducible refine stop_neq (t := 28) ?_) | (with_reducible refine stop_neq (t := 40) ?_))
          refine at_out (wpList_val (v := .agg (sc c vs').toArray) rfl (rn_loadH aggS (by rfl) hb7 ls') ?_)
          simp only [Nat.reduceAdd, Nat.zero_add, Act.put, List.setIfInBounds_toArray, List.set_cons_succ, List.set_cons_zero]
          go_wp2_with (first | go_skip | (with_reducible refine stop_load (t := 27) ?_) | (with_reducible refine stop_load (t := 28) ?_) | (with_reducible refine stop_load (t := 30) ?_) | (with_reducible refine stop_load (t := 33) ?_) | (with_reducible refine stop_load (t := 35) ?_) | (with_reducible refine stop_load (t := 40) ?_) | (with_reducible refine stop_load (t := 76) ?_) | (with_reducible refine stop_load (t := 77) ?_) | (with_reducible refine stop_box (t := 27) ?_) | (with_reducible refine stop_box (t := 28) ?_) | (with_reducible refine stop_box (t := 30) ?_) | (with_reducible refine stop_box (t := 33) ?_) | (with_reducible refine stop_box (t := 35) ?_) | (with_reducible refine stop_box (t := 40) ?_) | (with_reducible refine stop_box (t := 76) ?_) | (with_reducible refine stop_box (t := 77) ?_) | (with_reducible refine stop_alloc (t := 27) ?_) | (with_reducible refine stop_alloc (t := 28) ?_) | (with_reducible refine stop_alloc (t := 30) ?_) | (with_reducible refine stop_alloc (t := 33) ?_) | (with_reducible refine stop_alloc (t := 35) ?_) | (with_reducible refine stop_alloc (t := 40) ?_) | (with_reducible refine stop_alloc (t := 76) ?_) | (with_reducible refine stop_alloc (t := 77) ?_) | (with_reducible refine stop_alloc (t := 52) ?_) | (with_reducible refine stop_alloc (t := 68) ?_) | (with_reducible refine stop_alloc (t := 72) ?_) | (with_reducible refine stop_build (t := 27) ?_) | (with_reducible refine stop_build (t := 28) ?_) | (with_reducible refine stop_build (t := 30) ?_) | (with_reducible refine stop_build (t := 33) ?_) | (with_reducible refine stop_build (t := 35) ?_) | (with_reducible refine stop_build (t := 40) ?_) | (with_reducible refine stop_build (t := 76) ?_) | (with_reducible refine stop_build (t := 77) ?_) | (with_reducible refine stop_build (t := 52) ?_) | (with_reducible refine stop_build (t := 68) ?_) | (with_reducible refine stop_store (t := 27) ?_) | (with_reducible refine stop_store (t := 28) ?_) | (with_reducible refine stop_store (t := 30) ?_) | (with_reducible refine stop_store (t := 33) ?_) | (with_reducible refine stop_store (t := 35) ?_) | (with_reducible refine stop_store (t := 40) ?_) | (with_reducible refine stop_store (t := 76) ?_) | (with_reducible refine stop_store (t := 77) ?_) | (with_reducible refine stop_store (t := 22) ?_) | (with_reducible refine stop_store (t := 31) ?_) | (with_reducible refine stop_store (t := 47) ?_) | (with_reducible refine stop_store (t := 52) ?_) | (with_reducible refine stop_store (t := 68) ?_) | (with_reducible refine stop_store (t := 72) ?_) | (with_reducible refine stop_lookup ?_) | (with_reducible refine stop_buildSlice ?_) | (with_reducible refine stop_app ?_) | (with_reducible refine stop_mapEntry ?_) | (with_reducible refine stop_eql (t := 28) ?_) | (with_reducible refine stop_eql (t := 40) ?_) | (with_reducible refine stop_neq (t := 28) ?_) | (with_reducible refine stop_neq (t := 40) ?_))
          refine at_out (wpList_valE rfl (re_buildSlice1 (v := .agg (sc c vs').toArray) E22 (by rfl) (by simpa [Value.cells] using ls') (by omega)) ?_)
          rintro _ we ⟨g6, rfl, ne⟩
          simp only [Nat.reduceAdd, Nat.zero_add, Act.put, List.setIfInBounds_toArray, List.set_cons_succ, List.set_cons_zero]
          obtain ⟨xs, RR, hx1, hx2, hx3⟩ := HFR.out
          have kre := q7r.trans_nb ne.k
          have krz := kre.size
          have k7e := ne.k.size
          have hob : ∀ b, (Value.slice a3 D.length c3).ownBlock = some b → w.heap.size ≤ b ∧ b < wr.heap.size := by
            intro b hb
            rcases hx1.2 with ⟨hv, _⟩ | ⟨g9, _, _, hv, hg9, hh9, _⟩
            · rw [hv] at hb; cases hb
            · rw [hv] at hb; cases hb; exact ⟨hg9, lt_of_block hh9⟩
          have HOB := Lib.hid hob
          have HX2 := Lib.hid (hx2.keeps kre (fun _ _ e => e)); have HX3 := Lib.hid hx3
          have SGE := Lib.hid (SG.out.keeps ne.k (fun _ _ e => e))
          have QE := Lib.hid (q7.trans_nb ne.k)
          have hx1e := owns_keeps hx1 kre (fun _ _ e => e)
          clear hob hx1 hx2 hx3
          go_wp2_with (first | go_skip | (with_reducible refine stop_load (t := 27) ?_) | (with_reducible refine stop_load (t := 28) ?_) | (with_reducible refine stop_load (t := 30) ?_) | (with_reducible refine stop_load (t := 33) ?_) | (with_reducible refine stop_load (t := 35) ?_) | (with_reducible refine stop_load (t := 40) ?_) | (with_reducible refine stop_load (t := 76) ?_) | (with_reducible refine stop_load (t := 77) ?_) | (with_reducible refine stop_box (t := 27) ?_) | (with_reducible refine stop_box (t := 28) ?_) | (with_reducible refine stop_box (t := 30) ?_) | (with_reducible refine stop_box (t := 33) ?_) | (with_reducible refine stop_box (t := 35) ?_) | (with_reducible refine stop_box (t := 40) ?_) | (with_reducible refine stop_box (t := 76) ?_) | (with_reducible refine stop_box (t := 77) ?_) | (with_reducible refine stop_alloc (t := 27) ?_) | (with_reducible refine stop_alloc (t := 28) ?_) | (with_reducible refine stop_alloc (t := 30) ?_) | (with_reducible refine stop_alloc (t := 33) ?_) | (with_reducible refine stop_alloc (t := 35) ?_) | (with_reducible refine stop_alloc (t := 40) ?_) | (with_reducible refine stop_alloc (t := 76) ?_) | (with_reducible refine stop_alloc (t := 77) ?_) | (with_reducible refine stop_alloc (t := 52) ?_) | (with_reducible refine stop_alloc (t := 68) ?_) | (with_reducible refine stop_alloc (t := 72) ?_) | (with_reducible refine stop_build (t := 27) ?_) | (with_reducible refine stop_build (t := 28) ?_) | (with_reducible refine stop_build (t := 30) ?_) | (with_reducible refine stop_build (t := 33) ?_) | (with_reducible refine stop_build (t := 35) ?_) | (with_reducible refine stop_build (t := 40) ?_) | (with_reducible refine stop_build (t := 76) ?_) | (with_reducible refine stop_build (t := 77) ?_) | (with_reducible refine stop_build (t := 52) ?_) | (with_reducible refine stop_build (t := 68) ?_) | (with_reducible refine stop_store (t := 27) ?_) | (with_reducible refine stop_store (t := 28) ?_) | (with_reducible refine stop_store (t := 30) ?_) | (with_reducible refine stop_store (t := 33) ?_) | (with_reducible refine stop_store (t := 35) ?_) | (with_reducible refine stop_store (t := 40) ?_) | (with_reducible refine stop_store (t := 76) ?_) | (with_reducible refine stop_store (t := 77) ?_) | (with_reducible refine stop_store (t := 22) ?_) | (with_reducible refine stop_store (t := 31) ?_) | (with_reducible refine stop_store (t := 47) ?_) | (with_reducible refine stop_store (t := 52) ?_) | (with_reducible refine stop_store (t := 68) ?_) | (with_reducible refine stop_store (t := 72) ?_) | (with_reducible refine stop_lookup ?_) | (with_reducible refine stop_buildSlice ?_) | (with_reducible refine stop_app ?_) | (with_reducible refine stop_mapEntry ?_) | (with_reducible refine stop_eql (t := 28) ?_) | (with_reducible refine stop_eql (t := 40) ?_) | (with_reducible refine stop_neq (t := 28) ?_) | (with_reducible refine stop_neq (t := 40) ?_))
          refine at_out (wpList_valE rfl (re_appB (base := w.heap.size) (news := sc c vs') (m := 1) E22 QE.out.size hx1e (by rfl) (by rfl) (by simpa [Value.cells] using has_block ne.blk) (by omega) one'.out (by unfold maxLen; omega) (by omega)) ?_)
          rintro v9 wf ⟨hof, kf, hov⟩
          have kfz := kf.size
          have hfin : Fresh w wf v9 (D ++ [c]) := by
            refine ⟨xs ++ sc c vs', fun k => RR k ∨ vs'.ownBlock = some k, by rw [List.length_append]; exact hof, ((HX2.out.keeps kf (fun k hk e => (HX3.out k hk).2.2.1 e)).mono (fun k h => .inl h)).snoc ((SGE.out.keeps kf (fun k hk e => by have := HOB.out k e; have := (HB6.out k hk).1; omega)).mono (fun k h => .inr h)), fun k hk => ?_⟩
            rcases hk with hk | hk
            · have h3 := HX3.out k hk
              refine ⟨h3.1, by omega, fun e => ?_, h3.2.2.2.imp fun _ hc => kf.at (kre.nb hc) (fun e => h3.2.2.1 e)⟩
              rcases hov with h | h
              · rw [h] at e; exact h3.2.2.1 e
              · rw [h] at e; cases e; omega
            · have h6 := HB6.out k hk
              refine ⟨by omega, by omega, fun e => ?_, h6.2.2.imp fun _ hc => kf.at (ne.k.nb hc) (fun e => by have := HOB.out k e; omega)⟩
              rcases hov with h | h
              · rw [h] at e; have := HOB.out k e; omega
              · rw [h] at e; cases e; omega
          have KF : Keeps Nb w wf := QE.out.trans kf (fun i hi e => by have := HOB.out i e; omega)
          obtain ⟨a9, c9, rfl, -⟩ := hfin.list
          have HFIN := Lib.hid hfin
          clear hof kf hov hfin
          rw [List.length_append] at HFIN ⊢
          simp only [Nat.reduceAdd, Nat.zero_add, Act.put, List.setIfInBounds_toArray, List.set_cons_succ, List.set_cons_zero]
          go_wp2
          go_roundw
          case rel => exact ⟨k + 1, by omega, by go_num, by rw [HT2.out]; exact HFIN.out, KF⟩
          case measure => simp [intOf]; omega
      · have hkl : k = cs.length := by omega
        subst hkl
        rw [List.take_length] at hfr
        obtain ⟨a3, c3, rfl, -⟩ := hfr.list
        have HFR := Lib.hid hfr; clear hfr
        go_wp2
        go_ret
        exact ⟨_, rfl, HFR.out, kw⟩
  · skip
    skip
    go_enter Try.func34, Try.ntmps34
    go_wp2_with fail
    refine (there_at p _ vl _ mh _ HB.out).mono ?_; rintro e w' ⟨rfl, rfl⟩
    go_wp2_with fail
    go_loopw [5, 16] (fun v i wr => ∃ k : Nat, k ≤ cs.length ∧ i = .int .i64 k ∧ Fresh w wr v ((cs.take k).filter f) ∧ Keeps Nb w wr) (fun _ i _ => cs.length - (intOf i).toNat)
    case atStart => exact ⟨0, Nat.zero_le _, rfl, ⟨[], Nb, World.ownsRow_nil _ _ _ _, rfl, fun _ h => h.elim⟩, Keeps.refl _ _⟩
    case round =>
      obtain ⟨k, hk, rfl, hfr, kw⟩ := hrel
      by_cases hlt : k < cs.length
      · have i1 : (k : Int) < (cs.length : Int) := by omega
        have hne : cs ≠ [] := by rintro rfl; simp at hlt
        have ha := HA.out hne
        subst ha
        obtain ⟨s1, hv1⟩ := HV.out k cs[k] (List.getElem?_eq_getElem hlt)
        have hin := List.getElem_mem hlt
        have ok1 := HG.out.ok _ hin
        have hsl := HSG.out _ hin
        have HT := Lib.hid (filter_take hlt f)
        have CC := Lib.hid (fun (u : World) (s : Value) (hk : Keeps Nb w u) (hs : SigAt u (fun k => F k ∨ R k) cs[k] s) => HC.out u cs[k] s hk hin ok1 hs)
        have hfl : ((cs.take k).filter f).length ≤ k := by have := List.length_filter_le f (cs.take k); rw [List.length_take] at this; omega
        generalize (cs.take k).filter f = D at *
        clear hin
        generalize cs[k] = c at *
        have lw1 := sc_len ok1 s1
        have one1 := Lib.hid (sc_one c s1 hv1.sig.one)
        have VV := Lib.hid (fun (u : World) (h : Keeps Nb w u) => hv1.nb h)
        have OK1 := Lib.hid ok1; have HFR := Lib.hid hfr; have KW := Lib.hid kw
        obtain ⟨a3, c3, rfl, hl3⟩ := hfr.list
        have hl31 := hl3.2.1
        have hl32 := hl3.2.2.1
        unfold maxLen at hl32
        clear hv1 ok1 hfr kw hl3
        go_wp2_with (first | go_skip | (with_reducible refine stop_load (t := 27) ?_) | (with_reducible refine stop_load (t := 28) ?_) | (with_reducible refine stop_load (t := 30) ?_) | (with_reducible refine stop_load (t := 33) ?_) | (with_reducible refine stop_load (t := 35) ?_) | (with_reducible refine stop_load (t := 40) ?_) | (with_reducible refine stop_load (t := 76) ?_) | (with_reducible refine stop_load (t := 77) ?_) | (with_reducible refine stop_box (t := 27) ?_) | (with_reducible refine stop_box (t := 28) ?_) | (with_reducible refine stop_box (t := 30) ?_) | (with_reducible refine stop_box (t := 33) ?_) | (with_reducible refine stop_box (t := 35) ?_) | (with_reducible refine stop_box (t := 40) ?_) | (with_reducible refine stop_box (t := 76) ?_) | (with_reducible refine stop_box (t := 77) ?_) | (with_reducible refine stop_alloc (t := 27) ?_) | (with_reducible refine stop_alloc (t := 28) ?_) | (with_reducible refine stop_alloc (t := 30) ?_) | (with_reducible refine stop_alloc (t := 33) ?_) | (with_reducible refine stop_alloc (t := 35) ?_) | (with_reducible refine stop_alloc (t := 40) ?_) | (with_reducible refine stop_alloc (t := 76) ?_) | (with_reducible refine stop_alloc (t := 77) ?_) | (with_reducible refine stop_alloc (t := 52) ?_) | (with_reducible refine stop_alloc (t := 68) ?_) | (with_reducible refine stop_alloc (t := 72) ?_) | (with_reducible refine stop_build (t := 27) ?_) | (with_reducible refine stop_build (t := 28) ?_) | (with_reducible refine stop_build (t := 30) ?_) | (with_reducible refine stop_build (t := 33) ?_) | (with_reducible refine stop_build (t := 35) ?_) | (with_reducible refine stop_build (t := 40) ?_) | (with_reducible refine stop_build (t := 76) ?_) | (with_reducible refine stop_build (t := 77) ?_) | (with_reducible refine stop_build (t := 52) ?_) | (with_reducible refine stop_build (t := 68) ?_) | (with_reducible refine stop_store (t := 27) ?_) | (with_reducible refine stop_store (t := 28) ?_) | (with_reducible refine stop_store (t := 30) ?_) | (with_reducible refine stop_store (t := 33) ?_) | (with_reducible refine stop_store (t := 35) ?_) | (with_reducible refine stop_store (t := 40) ?_) | (with_reducible refine stop_store (t := 76) ?_) | (with_reducible refine stop_store (t := 77) ?_) | (with_reducible refine stop_store (t := 22) ?_) | (with_reducible refine stop_store (t := 31) ?_) | (with_reducible refine stop_store (t := 47) ?_) | (with_reducible refine stop_store (t := 52) ?_) | (with_reducible refine stop_store (t := 68) ?_) | (with_reducible refine stop_store (t := 72) ?_) | (with_reducible refine stop_lookup ?_) | (with_reducible refine stop_buildSlice ?_) | (with_reducible refine stop_app ?_) | (with_reducible refine stop_mapEntry ?_) | (with_reducible refine stop_eql (t := 28) ?_) | (with_reducible refine stop_eql (t := 40) ?_) | (with_reducible refine stop_neq (t := 28) ?_) | (with_reducible refine stop_neq (t := 40) ?_))
        refine at_out (wpList_val (v := .agg (sc c s1).toArray) rfl (rn_loadH aggS (by rfl) (VV.out _ KW.out).whole lw1) ?_)
        simp only [Nat.reduceAdd, Nat.zero_add, Act.put, List.setIfInBounds_toArray, List.set_cons_succ, List.set_cons_zero]
        go_wp2_with (first | go_skip | (with_reducible refine stop_load (t := 27) ?_) | (with_reducible refine stop_load (t := 28) ?_) | (with_reducible refine stop_load (t := 30) ?_) | (with_reducible refine stop_load (t := 33) ?_) | (with_reducible refine stop_load (t := 35) ?_) | (with_reducible refine stop_load (t := 40) ?_) | (with_reducible refine stop_load (t := 76) ?_) | (with_reducible refine stop_load (t := 77) ?_) | (with_reducible refine stop_box (t := 27) ?_) | (with_reducible refine stop_box (t := 28) ?_) | (with_reducible refine stop_box (t := 30) ?_) | (with_reducible refine stop_box (t := 33) ?_) | (with_reducible refine stop_box (t := 35) ?_) | (with_reducible refine stop_box (t := 40) ?_) | (with_reducible refine stop_box (t := 76) ?_) | (with_reducible refine stop_box (t := 77) ?_) | (with_reducible refine stop_alloc (t := 27) ?_) | (with_reducible refine stop_alloc (t := 28) ?_) | (with_reducible refine stop_alloc (t := 30) ?_) | (with_reducible refine stop_alloc (t := 33) ?_) | (with_reducible refine stop_alloc (t := 35) ?_) | (with_reducible refine stop_alloc (t := 40) ?_) | (with_reducible refine stop_alloc (t := 76) ?_) | (with_reducible refine stop_alloc (t := 77) ?_) | (with_reducible refine stop_alloc (t := 52) ?_) | (with_reducible refine stop_alloc (t := 68) ?_) | (with_reducible refine stop_alloc (t := 72) ?_) | (with_reducible refine stop_build (t := 27) ?_) | (with_reducible refine stop_build (t := 28) ?_) | (with_reducible refine stop_build (t := 30) ?_) | (with_reducible refine stop_build (t := 33) ?_) | (with_reducible refine stop_build (t := 35) ?_) | (with_reducible refine stop_build (t := 40) ?_) | (with_reducible refine stop_build (t := 76) ?_) | (with_reducible refine stop_build (t := 77) ?_) | (with_reducible refine stop_build (t := 52) ?_) | (with_reducible refine stop_build (t := 68) ?_) | (with_reducible refine stop_store (t := 27) ?_) | (with_reducible refine stop_store (t := 28) ?_) | (with_reducible refine stop_store (t := 30) ?_) | (with_reducible refine stop_store (t := 33) ?_) | (with_reducible refine stop_store (t := 35) ?_) | (with_reducible refine stop_store (t := 40) ?_) | (with_reducible refine stop_store (t := 76) ?_) | (with_reducible refine stop_store (t := 77) ?_) | (with_reducible refine stop_store (t := 22) ?_) | (with_reducible refine stop_store (t := 31) ?_) | (with_reducible refine stop_store (t := 47) ?_) | (with_reducible refine stop_store (t := 52) ?_) | (with_reducible refine stop_store (t := 68) ?_) | (with_reducible refine stop_store (t := 72) ?_) | (with_reducible refine stop_lookup ?_) | (with_reducible refine stop_buildSlice ?_) | (with_reducible refine stop_app ?_) | (with_reducible refine stop_mapEntry ?_) | (with_reducible refine stop_eql (t := 28) ?_) | (with_reducible refine stop_eql (t := 40) ?_) | (with_reducible refine stop_neq (t := 28) ?_) | (with_reducible refine stop_neq (t := 40) ?_))
        refine at_out (valloc hz0 ?_); intro g w3 n3
        simp only [Nat.reduceAdd, Nat.zero_add, Act.put, List.setIfInBounds_toArray, List.set_cons_succ, List.set_cons_zero]
        go_wp2_with (first | go_skip | (with_reducible refine stop_load (t := 27) ?_) | (with_reducible refine stop_load (t := 28) ?_) | (with_reducible refine stop_load (t := 30) ?_) | (with_reducible refine stop_load (t := 33) ?_) | (with_reducible refine stop_load (t := 35) ?_) | (with_reducible refine stop_load (t := 40) ?_) | (with_reducible refine stop_load (t := 76) ?_) | (with_reducible refine stop_load (t := 77) ?_) | (with_reducible refine stop_box (t := 27) ?_) | (with_reducible refine stop_box (t := 28) ?_) | (with_reducible refine stop_box (t := 30) ?_) | (with_reducible refine stop_box (t := 33) ?_) | (with_reducible refine stop_box (t := 35) ?_) | (with_reducible refine stop_box (t := 40) ?_) | (with_reducible refine stop_box (t := 76) ?_) | (with_reducible refine stop_box (t := 77) ?_) | (with_reducible refine stop_alloc (t := 27) ?_) | (with_reducible refine stop_alloc (t := 28) ?_) | (with_reducible refine stop_alloc (t := 30) ?_) | (with_reducible refine stop_alloc (t := 33) ?_) | (with_reducible refine stop_alloc (t := 35) ?_) | (with_reducible refine stop_alloc (t := 40) ?_) | (with_reducible refine stop_alloc (t := 76) ?_) | (with_reducible refine stop_alloc (t := 77) ?_) | (with_reducible refine stop_alloc (t := 52) ?_) | (with_reducible refine stop_alloc (t := 68) ?_) | (with_reducible refine stop_alloc (t := 72) ?_) | (with_reducible refine stop_build (t := 27) ?_) | (with_reducible refine stop_build (t := 28) ?_) | (with_reducible refine stop_build (t := 30) ?_) | (with_reducible refine stop_build (t := 33) ?_) | (with_reducible refine stop_build (t := 35) ?_) | (with_reducible refine stop_build (t := 40) ?_) | (with_reducible refine stop_build (t := 76) ?_) | (with_reducible refine stop_build (t := 77) ?_) | (with_reducible refine stop_build (t := 52) ?_) | (with_reducible refine stop_build (t := 68) ?_) | (with_reducible refine stop_store (t := 27) ?_) | (with_reducible refine stop_store (t := 28) ?_) | (with_reducible refine stop_store (t := 30) ?_) | (with_reducible refine stop_store (t := 33) ?_) | (with_reducible refine stop_store (t := 35) ?_) | (with_reducible refine stop_store (t := 40) ?_) | (with_reducible refine stop_store (t := 76) ?_) | (with_reducible refine stop_store (t := 77) ?_) | (with_reducible refine stop_store (t := 22) ?_) | (with_reducible refine stop_store (t := 31) ?_) | (with_reducible refine stop_store (t := 47) ?_) | (with_reducible refine stop_store (t := 52) ?_) | (with_reducible refine stop_store (t := 68) ?_) | (with_reducible refine stop_store (t := 72) ?_) | (with_reducible refine stop_lookup ?_) | (with_reducible refine stop_buildSlice ?_) | (with_reducible refine stop_app ?_) | (with_reducible refine stop_mapEntry ?_) | (with_reducible refine stop_eql (t := 28) ?_) | (with_reducible refine stop_eql (t := 40) ?_) | (with_reducible refine stop_neq (t := 28) ?_) | (with_reducible refine stop_neq (t := 40) ?_))
        refine at_out (wpList_skipE rfl (re_store (v := .agg (sc c s1).toArray) (n := 101) aggS.size (by rfl) (by rfl) n3.blk (by simpa [Value.cells] using lw1) (by simp [hz1]) (by simpa [Value.cells] using one1.out)) ?_)
        intro w4 s4
        simp only [Nat.reduceAdd, Nat.zero_add, Act.put, List.setIfInBounds_toArray, List.set_cons_succ, List.set_cons_zero]
        rw [splice_all (by rw [hz1]; simpa [Value.cells] using lw1)] at s4
        have hgw : w.heap.size ≤ g := Nat.le_trans KW.out.size n3.ge
        have q4 : Keeps Nb w w4 := KW.out.trans_nb (n3.k.own (k := g) n3.ge s4.k)
        have q4r := n3.k.own (k := g) n3.ge s4.k
        have hgb := s4.blk
        go_wp2_with (first | go_skip | (with_reducible refine stop_load (t := 27) ?_) | (with_reducible refine stop_load (t := 28) ?_) | (with_reducible refine stop_load (t := 30) ?_) | (with_reducible refine stop_load (t := 33) ?_) | (with_reducible refine stop_load (t := 35) ?_) | (with_reducible refine stop_load (t := 40) ?_) | (with_reducible refine stop_load (t := 76) ?_) | (with_reducible refine stop_load (t := 77) ?_) | (with_reducible refine stop_box (t := 27) ?_) | (with_reducible refine stop_box (t := 28) ?_) | (with_reducible refine stop_box (t := 30) ?_) | (with_reducible refine stop_box (t := 33) ?_) | (with_reducible refine stop_box (t := 35) ?_) | (with_reducible refine stop_box (t := 40) ?_) | (with_reducible refine stop_box (t := 76) ?_) | (with_reducible refine stop_box (t := 77) ?_) | (with_reducible refine stop_alloc (t := 27) ?_) | (with_reducible refine stop_alloc (t := 28) ?_) | (with_reducible refine stop_alloc (t := 30) ?_) | (with_reducible refine stop_alloc (t := 33) ?_) | (with_reducible refine stop_alloc (t := 35) ?_) | (with_reducible refine stop_alloc (t := 40) ?_) | (with_reducible refine stop_alloc (t := 76) ?_) | (with_reducible refine stop_alloc (t := 77) ?_) | (with_reducible refine stop_alloc (t := 52) ?_) | (with_reducible refine stop_alloc (t := 68) ?_) | (with_reducible refine stop_alloc (t := 72) ?_) | (with_reducible refine stop_build (t := 27) ?_) | (with_reducible refine stop_build (t := 28) ?_) | (with_reducible refine stop_build (t := 30) ?_) | (with_reducible refine stop_build (t := 33) ?_) | (with_reducible refine stop_build (t := 35) ?_) | (with_reducible refine stop_build (t := 40) ?_) | (with_reducible refine stop_build (t := 76) ?_) | (with_reducible refine stop_build (t := 77) ?_) | (with_reducible refine stop_build (t := 52) ?_) | (with_reducible refine stop_build (t := 68) ?_) | (with_reducible refine stop_store (t := 27) ?_) | (with_reducible refine stop_store (t := 28) ?_) | (with_reducible refine stop_store (t := 30) ?_) | (with_reducible refine stop_store (t := 33) ?_) | (with_reducible refine stop_store (t := 35) ?_) | (with_reducible refine stop_store (t := 40) ?_) | (with_reducible refine stop_store (t := 76) ?_) | (with_reducible refine stop_store (t := 77) ?_) | (with_reducible refine stop_store (t := 22) ?_) | (with_reducible refine stop_store (t := 31) ?_) | (with_reducible refine stop_store (t := 47) ?_) | (with_reducible refine stop_store (t := 52) ?_) | (with_reducible refine stop_store (t := 68) ?_) | (with_reducible refine stop_store (t := 72) ?_) | (with_reducible refine stop_lookup ?_) | (with_reducible refine stop_buildSlice ?_) | (with_reducible refine stop_app ?_) | (with_reducible refine stop_mapEntry ?_) | (with_reducible refine stop_eql (t := 28) ?_) | (with_reducible refine stop_eql (t := 40) ?_) | (with_reducible refine stop_neq (t := 28) ?_) | (with_reducible refine stop_neq (t := 40) ?_))
        refine at_out (wpList_val (v := .agg (sc c s1).toArray) rfl (rn_loadH aggS (by rfl) (by simpa [Value.cells] using has_block hgb) lw1) ?_)
        simp only [Nat.reduceAdd, Nat.zero_add, Act.put, List.setIfInBounds_toArray, List.set_cons_succ, List.set_cons_zero]
        go_wp2_with fail
        refine (CC.out w4 s1 q4 (VV.out _ q4).sig).mono ?_
        rintro e w5 ⟨rfl, k5⟩
        have q5 := q4.trans_nb k5
        have q5r := q4r.trans_nb k5
        cases hf : f c
        · have HT2 := Lib.hid (HT.out.trans (by rw [hf]; rfl) : (cs.take (k + 1)).filter f = D)
          go_wp2
          go_roundw
          case rel => exact ⟨k + 1, by omega, by go_num, by rw [HT2.out]; exact HFR.out.nb q5r, q5⟩
          case measure => simp [intOf]; omega
        · have HT2 := Lib.hid (HT.out.trans (by rw [hf]; rfl) : (cs.take (k + 1)).filter f = D ++ [c])
          have hgb5 := k5.nb hgb
          have hsg := (VV.out _ q5).sig
          obtain ⟨sa, scap, rfl, r1, r2, r3, r4, r5⟩ := hsg
          have h67 : w5.cell? ⟨g, 67, none⟩ = some (.slice sa c.sig.length scap) := by
            have := (sc_has OK1.out (b := g) (off := 0) (s := .slice sa c.sig.length scap) (by simpa [Value.cells] using has_block hgb5)).2.2.2
            simpa using this
          have CB := Lib.hid (cloneB_at sa c.sig.length scap (c.sig.map fun x => .int .u8 (x : Nat)) w5 ⟨r3.has, by simp, one_nats⟩ ⟨r1, r2⟩ hsl)
          have R4 := Lib.hid r4
          clear r3 r4 r5 r2 hgb
          go_wp2_with fail
          refine CB.out.mono ?_
          rintro _ w6 ⟨vs', rfl, hown, k6⟩
          have hgb6 := k6.nb hgb5
          obtain ⟨va5, vc5, hv5, j1, j2, j3, j4⟩ := owns_has hown
          have o5 : vs'.cells = #[vs'] ∧ vs'.oneCell' = true := by rw [hv5]; exact ⟨rfl, rfl⟩
          have HV5 := Lib.hid hv5; clear hv5
          go_wp2_with (first | go_skip | (with_reducible refine stop_load (t := 27) ?_) | (with_reducible refine stop_load (t := 28) ?_) | (with_reducible refine stop_load (t := 30) ?_) | (with_reducible refine stop_load (t := 33) ?_) | (with_reducible refine stop_load (t := 35) ?_) | (with_reducible refine stop_load (t := 40) ?_) | (with_reducible refine stop_load (t := 76) ?_) | (with_reducible refine stop_load (t := 77) ?_) | (with_reducible refine stop_box (t := 27) ?_) | (with_reducible refine stop_box (t := 28) ?_) | (with_reducible refine stop_box (t := 30) ?_) | (with_reducible refine stop_box (t := 33) ?_) | (with_reducible refine stop_box (t := 35) ?_) | (with_reducible refine stop_box (t := 40) ?_) | (with_reducible refine stop_box (t := 76) ?_) | (with_reducible refine stop_box (t := 77) ?_) | (with_reducible refine stop_alloc (t := 27) ?_) | (with_reducible refine stop_alloc (t := 28) ?_) | (with_reducible refine stop_alloc (t := 30) ?_) | (with_reducible refine stop_alloc (t := 33) ?_) | (with_reducible refine stop_alloc (t := 35) ?_) | (with_reducible refine stop_alloc (t := 40) ?_) | (with_reducible refine stop_alloc (t := 76) ?_) | (with_reducible refine stop_alloc (t := 77) ?_) | (with_reducible refine stop_alloc (t := 52) ?_) | (with_reducible refine stop_alloc (t := 68) ?_) | (with_reducible refine stop_alloc (t := 72) ?_) | (with_reducible refine stop_build (t := 27) ?_) | (with_reducible refine stop_build (t := 28) ?_) | (with_reducible refine stop_build (t := 30) ?_) | (with_reducible refine stop_build (t := 33) ?_) | (with_reducible refine stop_build (t := 35) ?_) | (with_reducible refine stop_build (t := 40) ?_) | (with_reducible refine stop_build (t := 76) ?_) | (with_reducible refine stop_build (t := 77) ?_) | (with_reducible refine stop_build (t := 52) ?_) | (with_reducible refine stop_build (t := 68) ?_) | (with_reducible refine stop_store (t := 27) ?_) | (with_reducible refine stop_store (t := 28) ?_) | (with_reducible refine stop_store (t := 30) ?_) | (with_reducible refine stop_store (t := 33) ?_) | (with_reducible refine stop_store (t := 35) ?_) | (with_reducible refine stop_store (t := 40) ?_) | (with_reducible refine stop_store (t := 76) ?_) | (with_reducible refine stop_store (t := 77) ?_) | (with_reducible refine stop_store (t := 22) ?_) | (with_reducible refine stop_store (t := 31) ?_) | (with_reducible refine stop_store (t := 47) ?_) | (with_reducible refine stop_store (t := 52) ?_) | (with_reducible refine stop_store (t := 68) ?_) | (with_reducible refine stop_store (t := 72) ?_) | (with_reducible refine stop_lookup ?_) | (with_reducible refine stop_buildSlice ?_) | (with_reducible refine stop_app ?_) | (with_reducible refine stop_mapEntry ?_) | (with_reducible refine stop_eql (t := 28) ?_) | (with_reducible refine stop_eql (t := 40) ?_) | (with_reducible refine stop_neq (t := 28) ?_) | (with_reducible refine stop_neq (t := 40) ?_))
          refine at_out (wpList_skipE rfl (re_store (v := vs') (n := 1) (by kernel_rfl) (by rfl) (by rfl) hgb6 (by rw [o5.1]; rfl) (by simp [Value.cells, lw1]) (by rw [o5.1]; simpa using o5.2)) ?_)
          intro w7 s7
          rw [o5.1, show (Value.agg (sc c (.slice sa c.sig.length scap)).toArray).cells = (sc c (.slice sa c.sig.length scap)).toArray by simp [Value.cells], splice_sc OK1.out] at s7
          simp only [Nat.reduceAdd, Nat.zero_add, Act.put, List.setIfInBounds_toArray, List.set_cons_succ, List.set_cons_zero]
          have k57 := k6.size
          have kz1 := KW.out.size
          have kz2 := q5r.size
          have k7z := s7.k.size
          have gs : wr.heap.size ≤ g := n3.ge
          have glt : g < w5.heap.size := lt_of_block hgb5
          have q7 : Keeps Nb w w7 := (q5.trans_nb k6).own (k := g) hgw s7.k
          have q7r : Keeps Nb wr w7 := (q5r.trans_nb k6).own (k := g) gs s7.k
          have HB6 := Lib.hid (fun k (hk : vs'.ownBlock = some k) => (have h := owns_blk hown hk; (⟨h.1, h.2.1, h.2.2.imp fun _ hc => s7.k.at hc (fun e => by have := h.1; omega)⟩ : w5.heap.size ≤ k ∧ k < w6.heap.size ∧ ∃ cur, w7.heap[k]? = some (.cells cur 5 (0, 0)))))
          have sg : SigAt w7 (fun k => vs'.ownBlock = some k) c vs' := by
            refine ⟨va5, vc5, HV5.out, j1, j2, ?_, R4.out, fun b off e _ => (j4 b off e).1⟩
            have h5 : ReadsN .u8 w6 va5 c.sig := owns_readsU (HV5.out ▸ hown)
            exact h5.keeps s7.k (fun b off e _ e2 => by have := (j4 b off e).2.2.1; omega)
          have ls' := sc_len OK1.out vs'
          have one' := Lib.hid (sc_one c vs' o5.2)
          have hb7 := has_block s7.blk
          have SG := Lib.hid sg
          clear CB hown j3 j4 s7 hgb5 hgb6 sg k6 k5 h67
          go_wp2_with (first | go_skip | (with_reducible refine stop_load (t := 27) ?_) | (with_reducible refine stop_load (t := 28) ?_) | (with_reducible refine stop_load (t := 30) ?_) | (with_reducible refine stop_load (t := 33) ?_) | (with_reducible refine stop_load (t := 35) ?_) | (with_reducible refine stop_load (t := 40) ?_) | (with_reducible refine stop_load (t := 76) ?_) | (with_reducible refine stop_load (t := 77) ?_) | (with_reducible refine stop_box (t := 27) ?_) | (with_reducible refine stop_box (t := 28) ?_) | (with_reducible refine stop_box (t := 30) ?_) | (with_reducible refine stop_box (t := 33) ?_) | (with_reducible refine stop_box (t := 35) ?_) | (with_reducible refine stop_box (t := 40) ?_) | (with_reducible refine stop_box (t := 76) ?_) | (with_reducible refine stop_box (t := 77) ?_) | (with_reducible refine stop_alloc (t := 27) ?_) | (with_reducible refine stop_alloc (t := 28) ?_) | (with_reducible refine stop_alloc (t := 30) ?_) | (with_reducible refine stop_alloc (t := 33) ?_) | (with_reducible refine stop_alloc (t := 35) ?_) | (with_reducible refine stop_alloc (t := 40) ?_) | (with_reducible refine stop_alloc (t := 76) ?_) | (with_reducible refine stop_alloc (t := 77) ?_) | (with_reducible refine stop_alloc (t := 52) ?_) | (with_reducible refine stop_alloc (t := 68) ?_) | (with_reducible refine stop_alloc (t := 72) ?_) | (with_reducible refine stop_build (t := 27) ?_) | (with_reducible refine stop_build (t := 28) ?_) | (with_reducible refine stop_build (t := 30) ?_) | (with_reducible refine stop_build (t := 33) ?_) | (with_reducible refine stop_build (t := 35) ?_) | (with_reducible refine stop_build (t := 40) ?_) | (with_reducible refine stop_build (t := 76) ?_) | (with_reducible refine stop_build (t := 77) ?_) | (with_reducible refine stop_build (t := 52) ?_) | (with_reducible refine stop_build (t := 68) ?_) | (with_reducible refine stop_store (t := 27) ?_) | (with_reducible refine stop_store (t := 28) ?_) | (with_reducible refine stop_store (t := 30) ?_) | (with_reducible refine stop_store (t := 33) ?_) | (with_reducible refine stop_store (t := 35) ?_) | (with_reducible refine stop_store (t := 40) ?_) | (with_reducible refine stop_store (t := 76) ?_) | (with_reducible refine stop_store (t := 77) ?_) | (with_reducible refine stop_store (t := 22) ?_) | (with_reducible refine stop_store (t := 31) ?_) | (with_reducible refine stop_store (t := 47) ?_) | (with_reducible refine stop_store (t := 52) ?_) | (with_reducible refine stop_store (t := 68) ?_) | (with_reducible refine stop_store (t := 72) ?_) | (with_reducible refine stop_lookup ?_) | (with_reducible refine stop_buildSlice ?_) | (with_reducible refine stop_app ?_) | (with_reducible refine stop_mapEntry ?_) | (with_reducible refine stop_eql (t := 28) ?_) | (with_reducible refine stop_eql (t := 40) ?_) | (with_reducible refine stop_neq (t := 28) ?_) | (with_reducible refine stop_neq (t := 40) ?_))
          refine at_out (wpList_val (v := .agg (sc c vs').toArray) rfl (rn_loadH aggS (by rfl) hb7 ls') ?_)
          simp only [Nat.reduceAdd, Nat.zero_add, Act.put, List.setIfInBounds_toArray, List.set_cons_succ, List.set_cons_zero]
          go_wp2_with (first | go_skip | (with_reducible refine stop_load (t := 27) ?_) | (with_reducible refine stop_load (t := 28) ?_) | (with_reducible refine stop_load (t := 30) ?_) | (with_reducible refine stop_load (t := 33) ?_) | (with_reducible refine stop_load (t := 35) ?_) | (with_reducible refine stop_load (t := 40) ?_) | (with_reducible refine stop_load (t := 76) ?_) | (with_reducible refine stop_load (t := 77) ?_) | (with_reducible refine stop_box (t := 27) ?_) | (with_reducible refine stop_box (t := 28) ?_) | (with_reducible refine stop_box (t := 30) ?_) | (with_reducible refine stop_box (t := 33) ?_) | (with_reducible refine stop_box (t := 35) ?_) | (with_reducible refine stop_box (t := 40) ?_) | (with_reducible refine stop_box (t := 76) ?_) | (with_reducible refine stop_box (t := 77) ?_) | (with_reducible refine stop_alloc (t := 27) ?_) | (with_reducible refine stop_alloc (t := 28) ?_) | (with_reducible refine stop_alloc (t := 30) ?_) | (with_reducible refine stop_alloc (t := 33) ?_) | (with_reducible refine stop_alloc (t := 35) ?_) | (with_reducible refine stop_alloc (t := 40) ?_) | (with_reducible refine stop_alloc (t := 76) ?_) | (with_reducible refine stop_alloc (t := 77) ?_) | (with_reducible refine stop_alloc (t := 52) ?_) | (with_reducible refine stop_alloc (t := 68) ?_) | (with_reducible refine stop_alloc (t := 72) ?_) | (with_reducible refine stop_build (t := 27) ?_) | (with_reducible refine stop_build (t := 28) ?_) | (with_reducible refine stop_build (t := 30) ?_) | (with_reducible refine stop_build (t := 33) ?_) | (with_reducible refine stop_build (t := 35) ?_) | (with_reducible refine stop_build (t := 40) ?_) | (with_reducible refine stop_build (t := 76) ?_) | (with_reducible refine stop_build (t := 77) ?_) | (with_reducible refine stop_build (t := 52) ?_) | (with_reducible refine stop_build (t := 68) ?_) | (with_reducible refine stop_store (t := 27) ?_) | (with_reducible refine stop_store (t := 28) ?_) | (with_reducible refine stop_store (t := 30) ?_) | (with_reducible refine stop_store (t := 33) ?_) | (with_reducible refine stop_store (t := 35) ?_) | (with_reducible refine stop_store (t := 40) ?_) | (with_reducible refine stop_store (t := 76) ?_) | (with_reducible refine stop_store (t := 77) ?_) | (with_reducible refine stop_store (t := 22) ?_) | (with_reducible refine stop_store (t := 31) ?_) | (with_reducible refine stop_store (t := 47) ?_) | (with_reducible refine stop_store (t := 52) ?_) | (with_reducible refine stop_store (t := 68) ?_) | (with_reducible refine stop_store (t := 72) ?_) | (with_reducible refine stop_lookup ?_) | (with_reducible refine stop_buildSlice ?_) | (with_reducible refine stop_app ?_) | (with_reducible refine stop_mapEntry ?_) | (with_reducible refine stop_eql (t := 28) ?_) | (with_reducible refine stop_eql (t := 40) ?_) | (with_reducible refine stop_neq (t := 28) ?_) | (with_reducible refine stop_neq (t := 40) ?_))
          refine at_out (wpList_valE rfl (re_buildSlice1 (v := .agg (sc c vs').toArray) E22 (by rfl) (by simpa [Value.cells] using ls') (by omega)) ?_)
          rintro _ we ⟨g6, rfl, ne⟩
          simp only [Nat.reduceAdd, Nat.zero_add, Act.put, List.setIfInBounds_toArray, List.set_cons_succ, List.set_cons_zero]
          obtain ⟨xs, RR, hx1, hx2, hx3⟩ := HFR.out
          have kre := q7r.trans_nb ne.k
          have krz := kre.size
          have k7e := ne.k.size
          have hob : ∀ b, (Value.slice a3 D.length c3).ownBlock = some b → w.heap.size ≤ b ∧ b < wr.heap.size := by
            intro b hb
            rcases hx1.2 with ⟨hv, _⟩ | ⟨g9, _, _, hv, hg9, hh9, _⟩
            · rw [hv] at hb; cases hb
            · rw [hv] at hb; cases hb; exact ⟨hg9, lt_of_block hh9⟩
          have HOB := Lib.hid hob
          have HX2 := Lib.hid (hx2.keeps kre (fun _ _ e => e)); have HX3 := Lib.hid hx3
          have SGE := Lib.hid (SG.out.keeps ne.k (fun _ _ e => e))
          have QE := Lib.hid (q7.trans_nb ne.k)
          have hx1e := owns_keeps hx1 kre (fun _ _ e => e)
          clear hob hx1 hx2 hx3
          go_wp2_with (first | go_skip | (with_reducible refine stop_load (t := 27) ?_) | (with_reducible refine stop_load (t := 28) ?_) | (with_reducible refine stop_load (t := 30) ?_) | (with_reducible refine stop_load (t := 33) ?_) | (with_reducible refine stop_load (t := 35) ?_) | (with_reducible refine stop_load (t := 40) ?_) | (with_reducible refine stop_load (t := 76) ?_) | (with_reducible refine stop_load (t := 77) ?_) | (with_reducible refine stop_box (t := 27) ?_) | (with_reducible refine stop_box (t := 28) ?_) | (with_reducible refine stop_box (t := 30) ?_) | (with_reducible refine stop_box (t := 33) ?_) | (with_reducible refine stop_box (t := 35) ?_) | (with_reducible refine stop_box (t := 40) ?_) | (with_reducible refine stop_box (t := 76) ?_) | (with_reducible refine stop_box (t := 77) ?_) | (with_reducible refine stop_alloc (t := 27) ?_) | (with_reducible refine stop_alloc (t := 28) ?_) | (with_reducible refine stop_alloc (t := 30) ?_) | (with_reducible refine stop_alloc (t := 33) ?_) | (with_reducible refine stop_alloc (t := 35) ?_) | (with_reducible refine stop_alloc (t := 40) ?_) | (with_reducible refine stop_alloc (t := 76) ?_) | (with_reducible refine stop_alloc (t := 77) ?_) | (with_reducible refine stop_alloc (t := 52) ?_) | (with_reducible refine stop_alloc (t := 68) ?_) | (with_reducible refine stop_alloc (t := 72) ?_) | (with_reducible refine stop_build (t := 27) ?_) | (with_reducible refine stop_build (t := 28) ?_) | (with_reducible refine stop_build (t := 30) ?_) | (with_reducible refine stop_build (t := 33) ?_) | (with_reducible refine stop_build (t := 35) ?_) | (with_reducible refine stop_build (t := 40) ?_) | (with_reducible refine stop_build (t := 76) ?_) | (with_reducible refine stop_build (t := 77) ?_) | (with_reducible refine stop_build (t := 52) ?_) | (with_reducible refine stop_build (t := 68) ?_) | (with_reducible refine stop_store (t := 27) ?_) | (with_reducible refine stop_store (t := 28) ?_) | (with_reducible refine stop_store (t := 30) ?_) | (with_reducible refine stop_store (t := 33) ?_) | (with_reducible refine stop_store (t := 35) ?_) | (with_reducible refine stop_store (t := 40) ?_) | (with_reducible refine stop_store (t := 76) ?_) | (with_reducible refine stop_store (t := 77) ?_) | (with_reducible refine stop_store (t := 22) ?_) | (with_reducible refine stop_store (t := 31) ?_) | (with_reducible refine stop_store (t := 47) ?_) | (with_reducible refine stop_store (t := 52) ?_) | (with_reducible refine stop_store (t := 68) ?_) | (with_reducible refine stop_store (t := 72) ?_) | (with_reducible refine stop_lookup ?_) | (with_reducible refine stop_buildSlice ?_) | (with_reducible refine stop_app ?_) | (with_reducible refine stop_mapEntry ?_) | (with_reducible refine stop_eql (t := 28) ?_) | (with_reducible refine stop_eql (t := 40) ?_) | (with_reducible refine stop_neq (t := 28) ?_) | (with_reducible refine stop_neq (t := 40) ?_))
          refine at_out (wpList_valE rfl (re_appB (base := w.heap.size) (news := sc c vs') (m := 1) E22 QE.out.size hx1e (by rfl) (by rfl) (by simpa [Value.cells] using has_block ne.blk) (by omega) one'.out (by unfold maxLen; omega) (by omega)) ?_)
          rintro v9 wf ⟨hof, kf, hov⟩
          have kfz := kf.size
          have hfin : Fresh w wf v9 (D ++ [c]) := by
            refine ⟨xs ++ sc c vs', fun k => RR k ∨ vs'.ownBlock = some k, by rw [List.length_append]; exact hof, ((HX2.out.keeps kf (fun k hk e => (HX3.out k hk).2.2.1 e)).mono (fun k h => .inl h)).snoc ((SGE.out.keeps kf (fun k hk e => by have := HOB.out k e; have := (HB6.out k hk).1; omega)).mono (fun k h => .inr h)), fun k hk => ?_⟩
            rcases hk with hk | hk
            · have h3 := HX3.out k hk
              refine ⟨h3.1, by omega, fun e => ?_, h3.2.2.2.imp fun _ hc => kf.at (kre.nb hc) (fun e => h3.2.2.1 e)⟩
              rcases hov with h | h
              · rw [h] at e; exact h3.2.2.1 e
              · rw [h] at e; cases e; omega
            · have h6 := HB6.out k hk
              refine ⟨by omega, by omega, fun e => ?_, h6.2.2.imp fun _ hc => kf.at (ne.k.nb hc) (fun e => by have := HOB.out k e; omega)⟩
              rcases hov with h | h
              · rw [h] at e; have := HOB.out k e; omega
              · rw [h] at e; cases e; omega
          have KF : Keeps Nb w wf := QE.out.trans kf (fun i hi e => by have := HOB.out i e; omega)
          obtain ⟨a9, c9, rfl, -⟩ := hfin.list
          have HFIN := Lib.hid hfin
          clear hof kf hov hfin
          rw [List.length_append] at HFIN ⊢
          simp only [Nat.reduceAdd, Nat.zero_add, Act.put, List.setIfInBounds_toArray, List.set_cons_succ, List.set_cons_zero]
          go_wp2
          go_roundw
          case rel => exact ⟨k + 1, by omega, by go_num, by rw [HT2.out]; exact HFIN.out, KF⟩
          case measure => simp [intOf]; omega
      · have hkl : k = cs.length := by omega
        subst hkl
        rw [List.take_length] at hfr
        obtain ⟨a3, c3, rfl, -⟩ := hfr.list
        have HFR := Lib.hid hfr; clear hfr
        go_wp2
        go_ret
        exact ⟨_, rfl, HFR.out, kw⟩
end Go.Proofs.Ytffnaigkdocpmac
