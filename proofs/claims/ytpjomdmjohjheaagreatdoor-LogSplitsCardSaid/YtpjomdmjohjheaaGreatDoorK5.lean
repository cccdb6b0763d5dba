import Derived.Test.YtpjomdmjohjheaaGreatDoorK4
set_option linter.unusedVariables false
set_option linter.unusedSimpArgs false
set_option maxRecDepth 100000
set_option maxHeartbeats 8000000
section
namespace Go.Lk
open Go.RowKit
theorem via {α β : Type} {Φ : α -> β -> World -> Prop} {G : α -> β -> World -> Prop} {goal : Prop} (main : (∀ a b w, Φ a b w -> G a b w) -> goal) (key : ∀ a b w, Φ a b w -> G a b w) : goal := main key
section
variable {P : Program} {ops : Array Oper} {Q : Exit -> Act -> World -> Prop} {S : World -> Prop} {k n m : Nat} {plan : List Nat}
theorem WT.forkC (i j : Nat) (plan2 : List Nat) {oi oj : Oper} {f : FuncId} {args : Array Value} {R : Ending -> World -> Prop} {Ψ : Value -> World -> Prop} {a : Act} {w w' : World} (hi : ops[i]? = some oi) (hj : ops[j]? = some oj) (hok : mayFork ops k n plan plan2 m i j = true)
  (hw : Region.wanted oi (yielded ops a.tmps) = true) (hw2 : Region.wanted oj (yielded ops a.tmps) = true)
  (hy : (execOp a.eval oi).run P w = .ok (.enter f args) w') (hc : Calls P f args w' R) (hy2 : ∃ v w', (execOp a.eval oj).run P w = .ok (.value v) w' /\ Ψ v w')
  (h1 : ∀ e w'', R e w'' -> ∃ v, e = .returned v /\ S w'' /\ WT P ops Q S k n plan (m + 1) (a.put oi.dst v) w'') (h2 : ∀ v w', Ψ v w' -> S w' /\ WT P ops Q S k n plan2 (m + 1) (a.put oj.dst v) w') : WT P ops Q S k n plan m a w := by
 obtain ⟨v2, w2, e2, f2⟩ := hy2
 exact WT.fork i j plan2 hi hj hok hw hw2 (by unfold Oper.wp; rw [hy]; exact hc.mono fun e w'' hR => by obtain ⟨v, rfl, h3, h4⟩ := h1 e w'' hR; exact ⟨h3, h4⟩) (by unfold Oper.wp; rw [e2]; exact h2 v2 w2 f2)
end
end Go.Lk
namespace Go.Proofs.YtpjomdmjohjheaaGreatDoor
open Go.RowKit Go.Lk Go.Vfs Go.Log
theorem el109 : ElemT Tryz.prog 109 9 1 16 (.string ByteArray.empty) := ⟨by kernel_rfl, by kernel_rfl, rfl, by decide⟩
def SwK (w2 : World) (L : Lg) (s n : Nat) (b20 b7 : Nat) (u : World) : Prop :=
 u.heap[b20]? = some (.cells #[.string (manf L.name), .string (snf L.name s), .string (sgf L.name n)] 9 (0, 0)) /\ u.heap[b7]? = some (.cells #[.slice (some ⟨b20, 0, none⟩) 3 3] 109 (0, 0)) /\ Keeps Nb w2 u /\ w2.heap.size <= b20 /\ w2.heap.size <= b7
def SwI (w6 : World) (l d : Nat) (Fd Rd FL RL : Nat -> Prop) (b6 : Nat) (L : Lg) (X : Ds) (s n : Nat) (l0 : List ByteArray) (er : Int) (W : World) : Prop :=
 ∃ X' Fd' Rd' FL' RL', LgAt W l d Fd' Rd' FL' RL' L X' /\ (∀ k, Fd' k -> Fd k \/ w6.heap.size + 2 <= k) /\ (∀ k, Rd' k -> Rd k \/ w6.heap.size + 2 <= k) /\ (∀ k, FL' k -> FL k \/ w6.heap.size + 2 <= k) /\ (∀ k, RL' k -> RL k \/ w6.heap.size + 2 <= k) /\
  askO ((l0.filter (swept L.name s n)).map rmO) X er X' /\ (er = 0 -> pot X' <= pot X) /\ pot X' <= pot X + 1 /\ Keeps (fun b => w6.heap.size <= b \/ Fd b \/ b = b6) w6 W
theorem SwI.book {w6 A B : World} {l d : Nat} {Fd Rd FL RL : Nat -> Prop} {b6 : Nat} {L : Lg} {X : Ds} {s n : Nat} {l0 : List ByteArray} {er : Int} (h : SwI w6 l d Fd Rd FL RL b6 L X s n l0 er A) (k : Keeps (Book w6) A B)
  (h0 : ∀ k, (Fd k \/ Rd k \/ FL k \/ RL k) -> k < w6.heap.size) : SwI w6 l d Fd Rd FL RL b6 L X s n l0 er B := by
 obtain ⟨X', Fd', Rd', FL', RL', h1, h2, h3, h4, h5, h6, h7, h8, h9⟩ := h
 refine ⟨X', Fd', Rd', FL', RL', h1.keeps k (fun j hj e => ?_) (fun j hj e => ?_) (fun j hj e => ?_) (fun j hj e => ?_), h2, h3, h4, h5, h6, h7, h8, h9.trans k (fun j hj e => by unfold Book at e; omega)⟩
 ·
  unfold Book at e; exact (h2 j hj).elim (fun e2 => by have := h0 j (.inl e2); omega) (fun e2 => by omega)
 ·
  unfold Book at e; exact (h3 j hj).elim (fun e2 => by have := h0 j (.inr (.inl e2)); omega) (fun e2 => by omega)
 ·
  unfold Book at e; exact (h4 j hj).elim (fun e2 => by have := h0 j (.inr (.inr (.inl e2))); omega) (fun e2 => by omega)
 ·
  unfold Book at e; exact (h5 j hj).elim (fun e2 => by have := h0 j (.inr (.inr (.inr e2))); omega) (fun e2 => by omega)
theorem SwI.box {w6 A B : World} {l d : Nat} {Fd Rd FL RL : Nat -> Prop} {b6 : Nat} {L : Lg} {X : Ds} {s n : Nat} {l0 : List ByteArray} {er : Int} (h : SwI w6 l d Fd Rd FL RL b6 L X s n l0 er A) (k : Keeps (· = b6) A B)
  (h0 : ∀ k, (Fd k \/ Rd k \/ FL k \/ RL k) -> k < b6) (hb : b6 < w6.heap.size) : SwI w6 l d Fd Rd FL RL b6 L X s n l0 er B := by
 obtain ⟨X', Fd', Rd', FL', RL', h1, h2, h3, h4, h5, h6, h7, h8, h9⟩ := h
 refine ⟨X', Fd', Rd', FL', RL', h1.keeps k (fun j hj e => ?_) (fun j hj e => ?_) (fun j hj e => ?_) (fun j hj e => ?_), h2, h3, h4, h5, h6, h7, h8, h9.trans k (fun j hj e => .inr (.inr e))⟩
 ·
  exact (h2 j hj).elim (fun e2 => by have := h0 j (.inl e2); omega) (fun e2 => by omega)
 ·
  exact (h3 j hj).elim (fun e2 => by have := h0 j (.inr (.inl e2)); omega) (fun e2 => by omega)
 ·
  exact (h4 j hj).elim (fun e2 => by have := h0 j (.inr (.inr (.inl e2))); omega) (fun e2 => by omega)
 ·
  exact (h5 j hj).elim (fun e2 => by have := h0 j (.inr (.inr (.inr e2))); omega) (fun e2 => by omega)
theorem zb4 {ns : List ByteArray} {i : Nat} {nm : ByteArray} (h : ns[i]? = some nm) (p : ByteArray -> Bool) : (ns.take (i + 1)).filter p = (ns.take i).filter p ++ if p nm = true then [nm] else [] := by
 have hil := (List.getElem?_eq_some_iff.1 h).1
 rw [List.take_succ_eq_append_getElem hil, (List.getElem?_eq_some_iff.1 h).2, List.filter_append]
 cases hp : p nm <;> simp [hp]
theorem SwI.skip {w6 A B : World} {l d : Nat} {Fd Rd FL RL : Nat -> Prop} {b6 : Nat} {L : Lg} {X : Ds} {s n i : Nat} {ns : List ByteArray} {nm : ByteArray} (h : SwI w6 l d Fd Rd FL RL b6 L X s n (ns.take i) 0 A) (hi : ns[i]? = some nm) (hsw : swept L.name s n nm = false) (k : Keeps Nb A B) :
  SwI w6 l d Fd Rd FL RL b6 L X s n (ns.take (i + 1)) 0 B := by
 obtain ⟨X', Fd', Rd', FL', RL', h1, h2, h3, h4, h5, h6, h7, h8, h9⟩ := h
 exact ⟨X', Fd', Rd', FL', RL', h1.nb k, h2, h3, h4, h5, by rw [zb4 hi, if_neg (by rw [hsw]; decide), List.append_nil]; exact h6, h7, h8, h9.trans_nb k⟩
theorem SwI.rem {w6 A B : World} {l d : Nat} {Fd Rd FL RL Fd' Rd' FL' RL' : Nat -> Prop} {b6 : Nat} {L : Lg} {X X' : Ds} {s n i : Nat} {ns : List ByteArray} {nm : ByteArray} {er : Int} {D' : Dk} (g1 : LgAt A l d Fd' Rd' FL' RL' L X')
  (g2 : ∀ k, Fd' k -> Fd k \/ w6.heap.size + 2 <= k) (g3 : ∀ k, Rd' k -> Rd k \/ w6.heap.size + 2 <= k) (g4 : ∀ k, FL' k -> FL k \/ w6.heap.size + 2 <= k) (g5 : ∀ k, RL' k -> RL k \/ w6.heap.size + 2 <= k)
  (g6 : askO (((ns.take i).filter (swept L.name s n)).map rmO) X 0 X') (g7 : pot X' <= pot X) (g9 : Keeps (fun b => w6.heap.size <= b \/ Fd b \/ b = b6) w6 A) (hz : w6.heap.size + 2 <= A.heap.size) (hi : ns[i]? = some nm) (hsw : swept L.name s n nm = true)
  (hn : Now A B d Fd' Rd' D' X'.fc) (hr : RemR X'.D nm er D') :
  (er = 0 -> SwI w6 l d Fd Rd FL RL b6 L X s n (ns.take (i + 1)) 0 B) /\ (er ≠ 0 -> SwI w6 l d Fd Rd FL RL b6 L X s n ns er B) /\ Keeps (fun b => Fd b \/ w6.heap.size + 2 <= b) A B := by
 have ho : rmO nm X' er ⟨D', X'.fc⟩ := ⟨hr, rfl⟩
 have hp := z95 ho
 have hk : Keeps Fd' A B := by obtain ⟨_, _, _, _, _, hk⟩ := hn; exact hk
 obtain ⟨Fd2, Rd2, FL2, RL2, h1, h2, h3, h4, h5, h6⟩ := g1.disk_now (Y := ⟨D', X'.fc⟩) hn g1.lt6
 have hkS : Keeps (fun b => w6.heap.size <= b \/ Fd b \/ b = b6) w6 B := g9.trans hk (fun j hj e => (g2 j e).elim (fun e => .inr (.inl e)) (fun e => by omega))
 have c2 : ∀ k, Fd2 k -> Fd k \/ w6.heap.size + 2 <= k := fun k e => (h2 k e).elim (g2 k) (fun e => .inr (by omega))
 have c3 : ∀ k, Rd2 k -> Rd k \/ w6.heap.size + 2 <= k := fun k e => (h3 k e).elim (g3 k) (fun e => .inr (by omega))
 have c4 : ∀ k, FL2 k -> FL k \/ w6.heap.size + 2 <= k := fun k e => (h4 k e).elim (g4 k) (fun e => .inr (by omega))
 have c5 : ∀ k, RL2 k -> RL k \/ w6.heap.size + 2 <= k := fun k e => (h5 k e).elim (g5 k) (fun e => .inr (by omega))
 refine ⟨fun h0 => ?_, fun h0 => ?_, hk.mono (fun k _ e => g2 k e)⟩
 ·
  subst h0
  refine ⟨_, Fd2, Rd2, FL2, RL2, h1, c2, c3, c4, c5, ?_, fun _ => ?_, ?_, hkS⟩
  ·
   rw [zb4 hi, if_pos hsw, List.map_append]
   exact z7j g6 ho
  ·
   have := hp.2 rfl; omega
  ·
   have := hp.1; omega
 ·
  refine ⟨_, Fd2, Rd2, FL2, RL2, h1, c2, c3, c4, c5, ?_, fun h => absurd h h0, ?_, hkS⟩
  ·
   have e : ns = ns.take i ++ nm :: ns.drop (i + 1) := by
    have hil := (List.getElem?_eq_some_iff.1 hi).1
    rw [<- (List.getElem?_eq_some_iff.1 hi).2, <- List.drop_eq_getElem_cons hil, List.take_append_drop]
   rw [e, List.filter_append, List.filter_cons_of_pos hsw, List.map_append, List.map_cons]
   exact z7k g6 ho h0
  ·
   have := hp.1; omega
def SwX (w6 : World) (l d : Nat) (Fd Rd FL RL : Nat -> Prop) (b6 : Nat) (L : Lg) (X : Ds) (s n : Nat) (ns : List ByteArray) (c : Code) (W : World) : Prop :=
 c = .ret /\ ∃ er, er ≠ 0 /\ SwI w6 l d Fd Rd FL RL b6 L X s n ns er W /\ W.heap[b6]? = some (.cells #[.int .i64 er] 24 (0, 0))
theorem SwX.book {w6 A B : World} {l d : Nat} {Fd Rd FL RL : Nat -> Prop} {b6 : Nat} {L : Lg} {X : Ds} {s n : Nat} {ns : List ByteArray} {c : Code} (h : SwX w6 l d Fd Rd FL RL b6 L X s n ns c A) (k : Keeps (Book w6) A B)
  (h0 : ∀ k, (Fd k \/ Rd k \/ FL k \/ RL k) -> k < w6.heap.size) (hb : ¬ Book w6 b6) : SwX w6 l d Fd Rd FL RL b6 L X s n ns c B := by
 obtain ⟨h1, er, h2, h3, h4⟩ := h
 exact ⟨h1, er, h2, h3.book k h0, k.at h4 hb⟩
theorem SwI.fin {w w6 W : World} {l d : Nat} {Fd Rd FL RL : Nat -> Prop} {b6 : Nat} {L : Lg} {X : Ds} {s n : Nat} {ns : List ByteArray} {er : Int} (h : SwI w6 l d Fd Rd FL RL b6 L X s n ns er W) (hk : Keeps Nb w w6) (hb : w.heap.size <= b6) (hp : ns.Perm (X.D.files.map Prod.fst)) :
  OpE w l d Fd Rd FL RL L X 1 (sweepO L.name s n) (.returned (.int .i64 er)) W := by
 obtain ⟨X', Fd', Rd', FL', RL', h1, h2, h3, h4, h5, h6, h7, h8, h9⟩ := h
 have hz := hk.size
 refine ⟨er, X', L, rfl, ⟨Fd', Rd', FL', RL', h1, fun k e => (h2 k e).imp id (fun e => by omega), fun k e => (h3 k e).imp id (fun e => by omega), fun k e => (h4 k e).imp id (fun e => by omega), fun k e => (h5 k e).imp id (fun e => by omega), hk.of_nb.trans h9 (fun j hj e => ?_)⟩, ⟨ns, hp, h6⟩, fun _ => rfl, .inl rfl, h8⟩
 rcases e with e | e | e
 ·
  omega
 ·
  exact .inl e
 ·
  omega
theorem zf7 (l d s n : Nat) (Fd Rd FL RL : Nat -> Prop) (L : Lg) (X : Ds) (w : World) (h : LgAt w l d Fd Rd FL RL L X) (hv : Vars w) (hs : s <= 4294967296) (hn : n <= 4294967296) (hp : pot X + 1 <= 999999) :
  Calls Tryz.prog 79 #[.pointer (some ⟨l, 0, none⟩), .int .i64 s, .int .i64 n] w (OpE w l d Fd Rd FL RL L X 1 (sweepO L.name s n)) := by
 have H := qq h; have HV := qq hv; have HP := qq hp
 have h16 := h.nums.n16
 clear h hv hp
 refine z17 Tryz.func79 rfl ?_
 simp only [Tryz.ntmps79, List.size_toArray, List.length_cons, List.length_nil, Nat.reduceAdd, Nat.reduceSub, Array.replicate_succ, Array.replicate_zero, List.push_toArray, List.append_toArray, List.nil_append, List.cons_append]
 go_wp2_with (first | go_skip | (with_reducible refine zn (t := 40) ?_))
 refine za (vbox1 (v := .pointer (some ⟨l, 0, none⟩)) (by rfl) rfl ?_)
 intro b3 w1 n1
 simp only [Nat.reduceAdd, qn]
 go_wp2_with (first | go_skip | (with_reducible refine qv (by decide) ?_))
 refine za (valloc (z := .int .i64 0) (by kernel_rfl) ?_)
 intro b6 w2 n2
 simp only [Nat.reduceAdd, qn]
 have B3 := qq (n2.k.nb n1.blk)
 have B6 := qq n2.blk
 have K2 := qq (n1.k.trans_nb n2.k)
 have G : Hid (w.heap.size <= b3 /\ b3 < b6 /\ b6 < w2.heap.size) := qq ⟨n1.ge, by have := n1.lt; have := n2.ge; omega, n2.lt⟩
 clear n1 n2
 have H2 := qq (H.out.nb K2.out)
 obtain ⟨sv, lv, hcs⟩ := H2.out.cells
 have HC := qq hcs
 have HV2 := qq (HV.out.nb K2.out)
 clear hcs
 go_wp2
 apply via (Φ := SwK w2 L s n)
 case main =>
  intro key
  refine WT.region (fun u : World => u.cell? ⟨b3, 0, none⟩ = some (.pointer (some ⟨l, 0, none⟩))) 10 11 [0, 2, 3, 5, 6, 1, 4, 7, 8, 9, 10] (by kernel_rfl) rfl ?_
  obtain ⟨x0, hx0⟩ : ∃ u, u = w2.drew := ⟨_, rfl⟩
  have K_x0 : Hid (Keeps Nb w2 x0) := qq (by rw [hx0]; exact (Keeps.refl _ w2).drew)
  rw [<- hx0]
  clear hx0
  have HS : Hid ((fun u : World => u.cell? ⟨b3, 0, none⟩ = some (.pointer (some ⟨l, 0, none⟩))) x0) := qq ((cell_of_block (K_x0.out.nb B3.out)).trans rfl)
  refine WT.t 0 (v := .pointer (some ⟨l, 0, none⟩)) (y := by rintro w C1; exact zb (by kernel_rfl) (by rfl) C1) (s := HS.out) (h := ?_)
  refine WT.t 2 (v := .pointer (some ⟨l, 0, none⟩)) (y := by rintro w C1; exact zb (by kernel_rfl) (by rfl) C1) (s := HS.out) (h := ?_)
  refine WT.t 3 (v := _) (y := by rintro w C1; go_simp; with_reducible rfl) (s := HS.out) (h := ?_)
  refine WT.t 5 (v := .pointer (some ⟨l, 0, none⟩)) (y := by rintro w C1; exact zb (by kernel_rfl) (by rfl) C1) (s := HS.out) (h := ?_)
  refine WT.t 6 (v := _) (y := by rintro w C1; go_simp; with_reducible rfl) (s := HS.out) (h := ?_)
  have FA := qq (z18 l L.name sMan x0 ((cell_of_block (HC.out _ K_x0.out)).trans rfl) (by omega) (by decide))
  refine WT.forkC 1 9 [0, 2, 3, 5, 6, 9, 1, 4, 7, 8, 10] (by simp only [qi]; rfl) (by simp only [qi]; rfl) (by kernel_rfl) (by rfl) (by rfl) (by go_simp; first | done | rfl | exact ⟨⟨rfl, rfl⟩, rfl⟩ | exact ⟨⟨rfl, rfl, rfl⟩, rfl⟩ | exact ⟨⟨rfl, rfl, rfl, rfl⟩, rfl⟩ | exact ⟨⟨rfl, rfl, rfl, rfl, rfl⟩, rfl⟩) FA.out (z38 (z := .slice none 0 0) (by kernel_rfl)) ?_ ?_
  ·
   rintro _ _ ⟨rfl, rfl⟩
   clear FA
   refine ⟨_, rfl, HS.out, ?_⟩
   simp only [Nat.reduceAdd, qn]
   have SA := qq (z3v l L.name s x0 (HV2.out.nb K_x0.out) ((cell_of_block (HC.out _ K_x0.out)).trans rfl) (by omega) (by omega))
   refine WT.forkC 4 9 [0, 2, 3, 5, 6, 1, 9, 4, 7, 8, 10] (by simp only [qi]; rfl) (by simp only [qi]; rfl) (by kernel_rfl) (by rfl) (by rfl) (by go_simp; first | done | rfl | exact ⟨⟨rfl, rfl⟩, rfl⟩ | exact ⟨⟨rfl, rfl, rfl⟩, rfl⟩ | exact ⟨⟨rfl, rfl, rfl, rfl⟩, rfl⟩ | exact ⟨⟨rfl, rfl, rfl, rfl, rfl⟩, rfl⟩) SA.out (z38 (z := .slice none 0 0) (by kernel_rfl)) ?_ ?_
   ·
    skip
    rintro _ x1 ⟨rfl, k_x1⟩
    have K_x1 : Hid (Keeps Nb w2 x1) := qq (K_x0.out.trans_nb k_x1)
    replace HS : Hid ((fun u : World => u.cell? ⟨b3, 0, none⟩ = some (.pointer (some ⟨l, 0, none⟩))) x1) := qq ((cell_of_block (K_x1.out.nb B3.out)).trans rfl)
    clear SA
    refine ⟨_, rfl, HS.out, ?_⟩
    simp only [Nat.reduceAdd, qn]
    have SA := qq (z0o l L.name n x1 (HV2.out.nb K_x1.out) ((cell_of_block (HC.out _ K_x1.out)).trans rfl) (by omega) (by omega))
    refine WT.forkC 7 9 [0, 2, 3, 5, 6, 1, 4, 9, 7, 8, 10] (by simp only [qi]; rfl) (by simp only [qi]; rfl) (by kernel_rfl) (by rfl) (by rfl) (by go_simp; first | done | rfl | exact ⟨⟨rfl, rfl⟩, rfl⟩ | exact ⟨⟨rfl, rfl, rfl⟩, rfl⟩ | exact ⟨⟨rfl, rfl, rfl, rfl⟩, rfl⟩ | exact ⟨⟨rfl, rfl, rfl, rfl, rfl⟩, rfl⟩) SA.out (z38 (z := .slice none 0 0) (by kernel_rfl)) ?_ ?_
    ·
     skip
     rintro _ x2 ⟨rfl, k_x2⟩
     have K_x2 : Hid (Keeps Nb w2 x2) := qq (K_x1.out.trans_nb k_x2)
     replace HS : Hid ((fun u : World => u.cell? ⟨b3, 0, none⟩ = some (.pointer (some ⟨l, 0, none⟩))) x2) := qq ((cell_of_block (K_x2.out.nb B3.out)).trans rfl)
     clear SA
     refine ⟨_, rfl, HS.out, ?_⟩
     simp only [Nat.reduceAdd, qn]
     refine WT.forkE 8 9 [0, 2, 3, 5, 6, 1, 4, 7, 9, 8, 10] (by simp only [qi]; rfl) (by simp only [qi]; rfl) (by kernel_rfl) (by rfl) (by rfl) (zl el109 [.string (manf L.name), .string (snf L.name s), .string (sgf L.name n)] rfl (by simp [List.range'_succ]; first | done | rfl | exact ⟨rfl, rfl⟩ | exact ⟨rfl, rfl, rfl⟩ | exact ⟨rfl, rfl, rfl, rfl⟩ | exact ⟨rfl, rfl, rfl, rfl, rfl⟩ | exact ⟨rfl, rfl, rfl, rfl, rfl, rfl⟩) (by simp [Value.cells]) (by simp)) (z38 (z := .slice none 0 0) (by kernel_rfl)) ?_ ?_
     ·
      skip
      rintro _ x3 ⟨b20, rfl, n_x3⟩
      have K_x3 : Hid (Keeps Nb w2 x3) := qq (K_x2.out.trans_nb n_x3.k)
      have B_x3 : Hid (x3.heap[b20]? = some (.cells #[.string (manf L.name), .string (snf L.name s), .string (sgf L.name n)] 9 (0, 0))) := qq n_x3.blk
      have G_20 : Hid (w2.heap.size <= b20) := qq (by have := n_x3.ge; have := K_x2.out.size; omega)
      replace HS : Hid ((fun u : World => u.cell? ⟨b3, 0, none⟩ = some (.pointer (some ⟨l, 0, none⟩))) x3) := qq ((cell_of_block (K_x3.out.nb B3.out)).trans rfl)
      refine ⟨HS.out, ?_⟩
      simp only [Nat.reduceAdd, qn]
      refine WT.o 9 (y := z38 (z := .slice none 0 0) (by kernel_rfl)) (h := ?_)
      rintro _ x4 ⟨b7, rfl, n7⟩
      have K_x4 : Hid (Keeps Nb w2 x4) := qq (K_x3.out.trans_nb n7.k)
      have A_x4 : Hid (x4.heap[b7]? = some (.cells (Value.slice none 0 0).cells 109 (0, 0))) := qq n7.blk
      have B_x4 := qq (n7.k.nb B_x3.out)
      have G_7 : Hid (w2.heap.size <= b7) := qq (by have := n7.ge; have := K_x3.out.size; omega)
      have h7_20 : b7 ≠ b20 := fun e => by have := lt_of_block B_x3.out; have := n7.ge; omega
      replace HS : Hid ((fun u : World => u.cell? ⟨b3, 0, none⟩ = some (.pointer (some ⟨l, 0, none⟩))) x4) := qq ((cell_of_block (K_x4.out.nb B3.out)).trans rfl)
      refine ⟨HS.out, ?_⟩
      simp only [Nat.reduceAdd, qn]
      refine WT.stop (by kernel_rfl) ?_
      refine WP.onlySkipE 10 (by simp only [qi]; rfl) (by kernel_rfl) (by rfl) (zc (v := .slice (some ⟨b20, 0, none⟩) 3 3) (n := 1) (by kernel_rfl) (by rfl) (by rfl) A_x4.out (by rfl) (by simp [Value.cells]) (by simp [Value.cells, Value.oneCell'])) ?_
      intro wz sz
      simp only [Nat.reduceAdd, qn]
      refine WP.done (by kernel_rfl) ?_
      exact key b20 b7 wz ⟨sz.k.at B_x4.out (fun e => h7_20 e.symm), sz.blk, (K_x4.out.own (k := b7) G_7.out sz.k), G_20.out, G_7.out⟩
     ·
      skip
      rintro _ x3 ⟨b7, rfl, n_x3⟩
      have K_x3 : Hid (Keeps Nb w2 x3) := qq (K_x2.out.trans_nb n_x3.k)
      have A_x3 : Hid (x3.heap[b7]? = some (.cells (Value.slice none 0 0).cells 109 (0, 0))) := qq n_x3.blk
      have G_7 : Hid (w2.heap.size <= b7) := qq (by have := n_x3.ge; have := K_x2.out.size; omega)
      have HS : Hid ((fun u : World => u.cell? ⟨b3, 0, none⟩ = some (.pointer (some ⟨l, 0, none⟩))) x3) := qq ((cell_of_block (K_x3.out.nb B3.out)).trans rfl)
      clear n_x3
      refine ⟨HS.out, ?_⟩
      simp only [Nat.reduceAdd, qn]
      refine WT.o 8 (y := zl el109 [.string (manf L.name), .string (snf L.name s), .string (sgf L.name n)] rfl (by simp [List.range'_succ]; first | done | rfl | exact ⟨rfl, rfl⟩ | exact ⟨rfl, rfl, rfl⟩ | exact ⟨rfl, rfl, rfl, rfl⟩ | exact ⟨rfl, rfl, rfl, rfl, rfl⟩ | exact ⟨rfl, rfl, rfl, rfl, rfl, rfl⟩) (by simp [Value.cells]) (by simp)) (h := ?_)
      rintro _ x4 ⟨b20, rfl, n_x4⟩
      have K_x4 : Hid (Keeps Nb w2 x4) := qq (K_x3.out.trans_nb n_x4.k)
      have B_x4 : Hid (x4.heap[b20]? = some (.cells #[.string (manf L.name), .string (snf L.name s), .string (sgf L.name n)] 9 (0, 0))) := qq n_x4.blk
      have G_20 : Hid (w2.heap.size <= b20) := qq (by have := n_x4.ge; have := K_x3.out.size; omega)
      replace HS : Hid ((fun u : World => u.cell? ⟨b3, 0, none⟩ = some (.pointer (some ⟨l, 0, none⟩))) x4) := qq ((cell_of_block (K_x4.out.nb B3.out)).trans rfl)
      refine ⟨HS.out, ?_⟩
      simp only [Nat.reduceAdd, qn]
      have A_x4 := qq (n_x4.k.nb A_x3.out)
      have h7_20 : b7 ≠ b20 := fun e => by have := lt_of_block A_x3.out; have := n_x4.ge; omega
      refine WT.stop (by kernel_rfl) ?_
      refine WP.onlySkipE 10 (by simp only [qi]; rfl) (by kernel_rfl) (by rfl) (zc (v := .slice (some ⟨b20, 0, none⟩) 3 3) (n := 1) (by kernel_rfl) (by rfl) (by rfl) A_x4.out (by rfl) (by simp [Value.cells]) (by simp [Value.cells, Value.oneCell'])) ?_
      intro wz sz
      simp only [Nat.reduceAdd, qn]
      refine WP.done (by kernel_rfl) ?_
      exact key b20 b7 wz ⟨sz.k.at B_x4.out (fun e => h7_20 e.symm), sz.blk, (K_x4.out.own (k := b7) G_7.out sz.k), G_20.out, G_7.out⟩
    ·
     skip
     rintro _ x2 ⟨b7, rfl, n_x2⟩
     have K_x2 : Hid (Keeps Nb w2 x2) := qq (K_x1.out.trans_nb n_x2.k)
     have A_x2 : Hid (x2.heap[b7]? = some (.cells (Value.slice none 0 0).cells 109 (0, 0))) := qq n_x2.blk
     have G_7 : Hid (w2.heap.size <= b7) := qq (by have := n_x2.ge; have := K_x1.out.size; omega)
     have HS : Hid ((fun u : World => u.cell? ⟨b3, 0, none⟩ = some (.pointer (some ⟨l, 0, none⟩))) x2) := qq ((cell_of_block (K_x2.out.nb B3.out)).trans rfl)
     clear n_x2
     refine ⟨HS.out, ?_⟩
     simp only [Nat.reduceAdd, qn]
     have SA := qq (z0o l L.name n x2 (HV2.out.nb K_x2.out) ((cell_of_block (HC.out _ K_x2.out)).trans rfl) (by omega) (by omega))
     refine WT.call 7 (by simp only [qi]; rfl) (by kernel_rfl) (by rfl) (by go_simp; first | done | rfl | exact ⟨⟨rfl, rfl⟩, rfl⟩ | exact ⟨⟨rfl, rfl, rfl⟩, rfl⟩ | exact ⟨⟨rfl, rfl, rfl, rfl⟩, rfl⟩ | exact ⟨⟨rfl, rfl, rfl, rfl, rfl⟩, rfl⟩) SA.out ?_
     rintro _ x3 ⟨rfl, k_x3⟩
     have K_x3 : Hid (Keeps Nb w2 x3) := qq (K_x2.out.trans_nb k_x3)
     replace HS : Hid ((fun u : World => u.cell? ⟨b3, 0, none⟩ = some (.pointer (some ⟨l, 0, none⟩))) x3) := qq ((cell_of_block (K_x3.out.nb B3.out)).trans rfl)
     clear SA
     refine ⟨_, rfl, HS.out, ?_⟩
     simp only [Nat.reduceAdd, qn]
     have A_x3 := qq (k_x3.nb A_x2.out)
     refine WT.o 8 (y := zl el109 [.string (manf L.name), .string (snf L.name s), .string (sgf L.name n)] rfl (by simp [List.range'_succ]; first | done | rfl | exact ⟨rfl, rfl⟩ | exact ⟨rfl, rfl, rfl⟩ | exact ⟨rfl, rfl, rfl, rfl⟩ | exact ⟨rfl, rfl, rfl, rfl, rfl⟩ | exact ⟨rfl, rfl, rfl, rfl, rfl, rfl⟩) (by simp [Value.cells]) (by simp)) (h := ?_)
     rintro _ x4 ⟨b20, rfl, n_x4⟩
     have K_x4 : Hid (Keeps Nb w2 x4) := qq (K_x3.out.trans_nb n_x4.k)
     have B_x4 : Hid (x4.heap[b20]? = some (.cells #[.string (manf L.name), .string (snf L.name s), .string (sgf L.name n)] 9 (0, 0))) := qq n_x4.blk
     have G_20 : Hid (w2.heap.size <= b20) := qq (by have := n_x4.ge; have := K_x3.out.size; omega)
     replace HS : Hid ((fun u : World => u.cell? ⟨b3, 0, none⟩ = some (.pointer (some ⟨l, 0, none⟩))) x4) := qq ((cell_of_block (K_x4.out.nb B3.out)).trans rfl)
     refine ⟨HS.out, ?_⟩
     simp only [Nat.reduceAdd, qn]
     have A_x4 := qq (n_x4.k.nb A_x3.out)
     have h7_20 : b7 ≠ b20 := fun e => by have := lt_of_block A_x3.out; have := n_x4.ge; omega
     refine WT.stop (by kernel_rfl) ?_
     refine WP.onlySkipE 10 (by simp only [qi]; rfl) (by kernel_rfl) (by rfl) (zc (v := .slice (some ⟨b20, 0, none⟩) 3 3) (n := 1) (by kernel_rfl) (by rfl) (by rfl) A_x4.out (by rfl) (by simp [Value.cells]) (by simp [Value.cells, Value.oneCell'])) ?_
     intro wz sz
     simp only [Nat.reduceAdd, qn]
     refine WP.done (by kernel_rfl) ?_
     exact key b20 b7 wz ⟨sz.k.at B_x4.out (fun e => h7_20 e.symm), sz.blk, (K_x4.out.own (k := b7) G_7.out sz.k), G_20.out, G_7.out⟩
   ·
    skip
    rintro _ x1 ⟨b7, rfl, n_x1⟩
    have K_x1 : Hid (Keeps Nb w2 x1) := qq (K_x0.out.trans_nb n_x1.k)
    have A_x1 : Hid (x1.heap[b7]? = some (.cells (Value.slice none 0 0).cells 109 (0, 0))) := qq n_x1.blk
    have G_7 : Hid (w2.heap.size <= b7) := qq (by have := n_x1.ge; have := K_x0.out.size; omega)
    have HS : Hid ((fun u : World => u.cell? ⟨b3, 0, none⟩ = some (.pointer (some ⟨l, 0, none⟩))) x1) := qq ((cell_of_block (K_x1.out.nb B3.out)).trans rfl)
    clear n_x1
    refine ⟨HS.out, ?_⟩
    simp only [Nat.reduceAdd, qn]
    have SA := qq (z3v l L.name s x1 (HV2.out.nb K_x1.out) ((cell_of_block (HC.out _ K_x1.out)).trans rfl) (by omega) (by omega))
    refine WT.call 4 (by simp only [qi]; rfl) (by kernel_rfl) (by rfl) (by go_simp; first | done | rfl | exact ⟨⟨rfl, rfl⟩, rfl⟩ | exact ⟨⟨rfl, rfl, rfl⟩, rfl⟩ | exact ⟨⟨rfl, rfl, rfl, rfl⟩, rfl⟩ | exact ⟨⟨rfl, rfl, rfl, rfl, rfl⟩, rfl⟩) SA.out ?_
    rintro _ x2 ⟨rfl, k_x2⟩
    have K_x2 : Hid (Keeps Nb w2 x2) := qq (K_x1.out.trans_nb k_x2)
    replace HS : Hid ((fun u : World => u.cell? ⟨b3, 0, none⟩ = some (.pointer (some ⟨l, 0, none⟩))) x2) := qq ((cell_of_block (K_x2.out.nb B3.out)).trans rfl)
    clear SA
    refine ⟨_, rfl, HS.out, ?_⟩
    simp only [Nat.reduceAdd, qn]
    have A_x2 := qq (k_x2.nb A_x1.out)
    have SA := qq (z0o l L.name n x2 (HV2.out.nb K_x2.out) ((cell_of_block (HC.out _ K_x2.out)).trans rfl) (by omega) (by omega))
    refine WT.call 7 (by simp only [qi]; rfl) (by kernel_rfl) (by rfl) (by go_simp; first | done | rfl | exact ⟨⟨rfl, rfl⟩, rfl⟩ | exact ⟨⟨rfl, rfl, rfl⟩, rfl⟩ | exact ⟨⟨rfl, rfl, rfl, rfl⟩, rfl⟩ | exact ⟨⟨rfl, rfl, rfl, rfl, rfl⟩, rfl⟩) SA.out ?_
    rintro _ x3 ⟨rfl, k_x3⟩
    have K_x3 : Hid (Keeps Nb w2 x3) := qq (K_x2.out.trans_nb k_x3)
    replace HS : Hid ((fun u : World => u.cell? ⟨b3, 0, none⟩ = some (.pointer (some ⟨l, 0, none⟩))) x3) := qq ((cell_of_block (K_x3.out.nb B3.out)).trans rfl)
    clear SA
    refine ⟨_, rfl, HS.out, ?_⟩
    simp only [Nat.reduceAdd, qn]
    have A_x3 := qq (k_x3.nb A_x2.out)
    refine WT.o 8 (y := zl el109 [.string (manf L.name), .string (snf L.name s), .string (sgf L.name n)] rfl (by simp [List.range'_succ]; first | done | rfl | exact ⟨rfl, rfl⟩ | exact ⟨rfl, rfl, rfl⟩ | exact ⟨rfl, rfl, rfl, rfl⟩ | exact ⟨rfl, rfl, rfl, rfl, rfl⟩ | exact ⟨rfl, rfl, rfl, rfl, rfl, rfl⟩) (by simp [Value.cells]) (by simp)) (h := ?_)
    rintro _ x4 ⟨b20, rfl, n_x4⟩
    have K_x4 : Hid (Keeps Nb w2 x4) := qq (K_x3.out.trans_nb n_x4.k)
    have B_x4 : Hid (x4.heap[b20]? = some (.cells #[.string (manf L.name), .string (snf L.name s), .string (sgf L.name n)] 9 (0, 0))) := qq n_x4.blk
    have G_20 : Hid (w2.heap.size <= b20) := qq (by have := n_x4.ge; have := K_x3.out.size; omega)
    replace HS : Hid ((fun u : World => u.cell? ⟨b3, 0, none⟩ = some (.pointer (some ⟨l, 0, none⟩))) x4) := qq ((cell_of_block (K_x4.out.nb B3.out)).trans rfl)
    refine ⟨HS.out, ?_⟩
    simp only [Nat.reduceAdd, qn]
    have A_x4 := qq (n_x4.k.nb A_x3.out)
    have h7_20 : b7 ≠ b20 := fun e => by have := lt_of_block A_x3.out; have := n_x4.ge; omega
    refine WT.stop (by kernel_rfl) ?_
    refine WP.onlySkipE 10 (by simp only [qi]; rfl) (by kernel_rfl) (by rfl) (zc (v := .slice (some ⟨b20, 0, none⟩) 3 3) (n := 1) (by kernel_rfl) (by rfl) (by rfl) A_x4.out (by rfl) (by simp [Value.cells]) (by simp [Value.cells, Value.oneCell'])) ?_
    intro wz sz
    simp only [Nat.reduceAdd, qn]
    refine WP.done (by kernel_rfl) ?_
    exact key b20 b7 wz ⟨sz.k.at B_x4.out (fun e => h7_20 e.symm), sz.blk, (K_x4.out.own (k := b7) G_7.out sz.k), G_20.out, G_7.out⟩
  ·
   skip
   rintro _ x1 ⟨b7, rfl, n_x1⟩
   have K_x1 : Hid (Keeps Nb w2 x1) := qq (K_x0.out.trans_nb n_x1.k)
   have A_x1 : Hid (x1.heap[b7]? = some (.cells (Value.slice none 0 0).cells 109 (0, 0))) := qq n_x1.blk
   have G_7 : Hid (w2.heap.size <= b7) := qq (by have := n_x1.ge; have := K_x0.out.size; omega)
   have HS : Hid ((fun u : World => u.cell? ⟨b3, 0, none⟩ = some (.pointer (some ⟨l, 0, none⟩))) x1) := qq ((cell_of_block (K_x1.out.nb B3.out)).trans rfl)
   clear n_x1
   refine ⟨HS.out, ?_⟩
   simp only [Nat.reduceAdd, qn]
   have FA := qq (z18 l L.name sMan x1 ((cell_of_block (HC.out _ K_x1.out)).trans rfl) (by omega) (by decide))
   refine WT.call 1 (by simp only [qi]; rfl) (by kernel_rfl) (by rfl) (by go_simp; first | done | rfl | exact ⟨⟨rfl, rfl⟩, rfl⟩ | exact ⟨⟨rfl, rfl, rfl⟩, rfl⟩ | exact ⟨⟨rfl, rfl, rfl, rfl⟩, rfl⟩ | exact ⟨⟨rfl, rfl, rfl, rfl, rfl⟩, rfl⟩) FA.out ?_
   rintro _ _ ⟨rfl, rfl⟩
   clear FA
   refine ⟨_, rfl, HS.out, ?_⟩
   simp only [Nat.reduceAdd, qn]
   have SA := qq (z3v l L.name s x1 (HV2.out.nb K_x1.out) ((cell_of_block (HC.out _ K_x1.out)).trans rfl) (by omega) (by omega))
   refine WT.call 4 (by simp only [qi]; rfl) (by kernel_rfl) (by rfl) (by go_simp; first | done | rfl | exact ⟨⟨rfl, rfl⟩, rfl⟩ | exact ⟨⟨rfl, rfl, rfl⟩, rfl⟩ | exact ⟨⟨rfl, rfl, rfl, rfl⟩, rfl⟩ | exact ⟨⟨rfl, rfl, rfl, rfl, rfl⟩, rfl⟩) SA.out ?_
   rintro _ x2 ⟨rfl, k_x2⟩
   have K_x2 : Hid (Keeps Nb w2 x2) := qq (K_x1.out.trans_nb k_x2)
   replace HS : Hid ((fun u : World => u.cell? ⟨b3, 0, none⟩ = some (.pointer (some ⟨l, 0, none⟩))) x2) := qq ((cell_of_block (K_x2.out.nb B3.out)).trans rfl)
   clear SA
   refine ⟨_, rfl, HS.out, ?_⟩
   simp only [Nat.reduceAdd, qn]
   have A_x2 := qq (k_x2.nb A_x1.out)
   have SA := qq (z0o l L.name n x2 (HV2.out.nb K_x2.out) ((cell_of_block (HC.out _ K_x2.out)).trans rfl) (by omega) (by omega))
   refine WT.call 7 (by simp only [qi]; rfl) (by kernel_rfl) (by rfl) (by go_simp; first | done | rfl | exact ⟨⟨rfl, rfl⟩, rfl⟩ | exact ⟨⟨rfl, rfl, rfl⟩, rfl⟩ | exact ⟨⟨rfl, rfl, rfl, rfl⟩, rfl⟩ | exact ⟨⟨rfl, rfl, rfl, rfl, rfl⟩, rfl⟩) SA.out ?_
   rintro _ x3 ⟨rfl, k_x3⟩
   have K_x3 : Hid (Keeps Nb w2 x3) := qq (K_x2.out.trans_nb k_x3)
   replace HS : Hid ((fun u : World => u.cell? ⟨b3, 0, none⟩ = some (.pointer (some ⟨l, 0, none⟩))) x3) := qq ((cell_of_block (K_x3.out.nb B3.out)).trans rfl)
   clear SA
   refine ⟨_, rfl, HS.out, ?_⟩
   simp only [Nat.reduceAdd, qn]
   have A_x3 := qq (k_x3.nb A_x2.out)
   refine WT.o 8 (y := zl el109 [.string (manf L.name), .string (snf L.name s), .string (sgf L.name n)] rfl (by simp [List.range'_succ]; first | done | rfl | exact ⟨rfl, rfl⟩ | exact ⟨rfl, rfl, rfl⟩ | exact ⟨rfl, rfl, rfl, rfl⟩ | exact ⟨rfl, rfl, rfl, rfl, rfl⟩ | exact ⟨rfl, rfl, rfl, rfl, rfl, rfl⟩) (by simp [Value.cells]) (by simp)) (h := ?_)
   rintro _ x4 ⟨b20, rfl, n_x4⟩
   have K_x4 : Hid (Keeps Nb w2 x4) := qq (K_x3.out.trans_nb n_x4.k)
   have B_x4 : Hid (x4.heap[b20]? = some (.cells #[.string (manf L.name), .string (snf L.name s), .string (sgf L.name n)] 9 (0, 0))) := qq n_x4.blk
   have G_20 : Hid (w2.heap.size <= b20) := qq (by have := n_x4.ge; have := K_x3.out.size; omega)
   replace HS : Hid ((fun u : World => u.cell? ⟨b3, 0, none⟩ = some (.pointer (some ⟨l, 0, none⟩))) x4) := qq ((cell_of_block (K_x4.out.nb B3.out)).trans rfl)
   refine ⟨HS.out, ?_⟩
   simp only [Nat.reduceAdd, qn]
   have A_x4 := qq (n_x4.k.nb A_x3.out)
   have h7_20 : b7 ≠ b20 := fun e => by have := lt_of_block A_x3.out; have := n_x4.ge; omega
   refine WT.stop (by kernel_rfl) ?_
   refine WP.onlySkipE 10 (by simp only [qi]; rfl) (by kernel_rfl) (by rfl) (zc (v := .slice (some ⟨b20, 0, none⟩) 3 3) (n := 1) (by kernel_rfl) (by rfl) (by rfl) A_x4.out (by rfl) (by simp [Value.cells]) (by simp [Value.cells, Value.oneCell'])) ?_
   intro wz sz
   simp only [Nat.reduceAdd, qn]
   refine WP.done (by kernel_rfl) ?_
   exact key b20 b7 wz ⟨sz.k.at B_x4.out (fun e => h7_20 e.symm), sz.blk, (K_x4.out.own (k := b7) G_7.out sz.k), G_20.out, G_7.out⟩
 case key =>
  rintro b20 b7 w7 ⟨h20, h7, k7, g20, g7⟩
  have K7 := qq k7; have B20 := qq h20; have B7 := qq h7
  have G7 : Hid (w2.heap.size <= b20 /\ w2.heap.size <= b7) := qq ⟨g20, g7⟩
  have H7 := qq (H2.out.nb k7)
  have B37 := qq (k7.nb B3.out)
  have B67 := qq (k7.nb B6.out)
  have c3 : w7.cell? ⟨b3, 0, none⟩ = some (.pointer (some ⟨l, 0, none⟩)) := (cell_of_block B37.out).trans rfl
  have cl : w7.cell? ⟨l, 0, none⟩ = some (.pointer (some ⟨d, 0, none⟩)) := (cell_of_block (HC.out w7 k7)).trans rfl
  have FA := qq (z40 d X.D Fd Rd X.fc w7 H7.out.disk)
  clear h20 h7 k7 g20 g7
  go_wp2_with fail
  refine FA.out.mono ?_
  rintro _ w8 ⟨ns, hperm, a3, a4, rfl, hfa, k8⟩
  obtain ⟨ps, hps⟩ : ∃ ps, (ns.map fun s => (s, szOf X.D X.fc s)) = ps := ⟨_, rfl⟩
  rw [hps] at hfa
  have HPS := qq hps
  have HPM := qq hperm
  have HFA := qq hfa
  have K8 := qq k8
  have HLEN : Hid (ps.length = ns.length) := qq (by rw [<- hps, List.length_map])
  have z78 := k8.size
  have z27 := K7.out.size
  have z02 := K2.out.size
  have H8 := qq (H7.out.nb k8)
  have lt2 : Hid (∀ k, (Fd k \/ Rd k \/ FL k \/ RL k) -> k < w.heap.size) := qq (fun k e => e.elim (H.out.disk.ltF k) fun e => e.elim (H.out.disk.ltR k) fun e => e.elim (H.out.ltF k) (H.out.ltR k))
  have I0 : Hid (SwI w8 l d Fd Rd FL RL b6 L X s n (ns.take 0) 0 w8) := qq ⟨X, Fd, Rd, FL, RL, H8.out, fun _ e => .inl e, fun _ e => .inl e, fun _ e => .inl e, fun _ e => .inl e, ⟨rfl, rfl⟩, fun _ => by omega, by omega, Keeps.refl _ _⟩
  clear hps hperm hfa k8 FA c3 cl
  go_wp2_with (with_reducible refine z0v ?_)
  refine za ((wpIn_wide (n := 9)).1 ?_)
  have l8 : ∀ k, (Fd k \/ Rd k \/ FL k \/ RL k) -> k < w8.heap.size := fun k e => by have := lt2.out k e; omega
  refine z1k (gf := 95) (lb := #[.pointer (some ⟨a3, 0, none⟩), .pointer (some ⟨a4, 0, none⟩)]) (by rfl) (enters_of Tryz.func95 (by kernel_rfl) rfl)
   (z2l 8 (by omega) w7.heap.size a3 a4 ps (fun b => w8.heap.size <= b \/ Fd b \/ b = b6) w8 HFA.out (fun b h1 h2 e => by
    rcases e with e | e | e
    ·
     omega
    ·
     have := lt2.out b (.inl e); omega
    ·
     have := G.out; omega))
   (fun b hb => .inl (by unfold Book at hb; omega)) (fun i args W h => by obtain ⟨p, -, rfl⟩ := h; rfl)
   (fun i W => SwI w8 l d Fd Rd FL RL b6 L X s n (ns.take i) 0 W /\ W.heap[b6]? = some (.cells #[.int .i64 0] 24 (0, 0))) (fun c W => SwX w8 l d Fd Rd FL RL b6 L X s n ns c W)
   (fun i A B h k => ⟨h.1.book k l8, k.at h.2 (fun e => by unfold Book at e; have := G.out; omega)⟩) (fun c A B h k => h.book k l8 (fun e => by unfold Book at e; have := G.out; omega)) ⟨I0.out, K8.out.nb B67.out⟩ ?round ?done ?stop
  case round =>
   rintro lm i args W rfl hW2 ⟨hI, hbI⟩ hi ⟨p, hp, rfl⟩
   simp only [List.zip_toArray, List.zip_cons_cons, List.zip_nil_right, List.foldl_toArray, List.foldl_cons, List.foldl_nil, List.setIfInBounds_toArray, List.set_cons_succ, List.set_cons_zero]
   have hns : ns[i]? = some p.1 := by
    rw [<- HPS.out, List.getElem?_map] at hp
    obtain ⟨s, h1, h2⟩ := Option.map_eq_some_iff.1 hp
    rw [h1, <- h2]
   have hmn : mnB p.1 = true := by
    have h1 := HPM.out.mem_iff.1 (List.mem_of_getElem? hns)
    obtain ⟨q, hq, e⟩ := List.mem_map.1 h1
    rw [<- e]; exact H.out.disk.names.files q hq
   obtain ⟨nm, sz⟩ := p
   have HNS := qq hns
   have hsz := z11 hmn
   have HI := qq hI; have HBI := qq hbI
   clear hI hbI hp hns hmn
   repeat (first | (with_reducible refine zg ?_) | (with_reducible refine stop_range ?_) | gi_step)
   refine za (zh (by kernel_rfl) (by rintro ⟨_, _, h⟩; exact h) ?_)
   go_wp2
   refine ⟨Keeps.refl _ _, fun W3 k3 => ?_⟩
   have kb3 : Keeps (Book w8) W W3 := k3.mono (fun i _ e => .inr e)
   have HI3 := qq (HI.out.book kb3 l8)
   have HB3 := qq (kb3.at HBI.out (fun e => by unfold Book at e; have := G.out; omega))
   obtain ⟨X', Fd', Rd', FL', RL', g1, g2, g3, g4, g5, g6, g7, g8, g9⟩ := HI3.out
   have GL := qq g1; have G2 := qq (And.intro g2 (And.intro g3 (And.intro g4 g5))); have G6 := qq g6; have G9 := qq g9; have GP := qq (g7 rfl)
   have hnS : ∀ j, w.heap.size <= j -> j < w8.heap.size -> j ≠ b6 -> ¬ (w8.heap.size <= j \/ Fd j \/ j = b6) := fun j h1 h2 h3 e => by
    rcases e with e | e | e
    ·
     omega
    ·
     have := lt2.out j (.inl e); omega
    ·
     exact h3 e
   have B33 := qq (g9.at (K8.out.nb B37.out) (hnS b3 (by have := G.out; omega) (by have := G.out; omega) (by have := G.out; omega)))
   have B73 := qq (g9.at (K8.out.nb B7.out) (hnS b7 (by have := G7.out; omega) (by have := lt_of_block (K8.out.nb B7.out); omega) (by have := G.out; have := G7.out; omega)))
   have B203 := qq (g9.at (K8.out.nb B20.out) (hnS b20 (by have := G7.out; omega) (by have := lt_of_block (K8.out.nb B20.out); omega) (by have := G.out; have := G7.out; omega)))
   obtain ⟨sv3, lv3, hcs3⟩ := g1.cells
   have HC3 := qq hcs3
   have HV3 : Hid (Vars W3) := qq ((((HV2.out.nb K7.out).nb K8.out)).keeps g9 (fun k hk e => by
    rcases e with e | e | e
    ·
     have := H.out.lt6; omega
    ·
     have := H.out.low k (.inl e); omega
    ·
     have := G.out; have := H.out.lt6; omega))
   have zW3 : w8.heap.size + 2 <= W3.heap.size := by have := k3.size; omega
   have PA : Hid (∀ (u : World) (ah : ByteArray), Keeps Nb W3 u -> ah.size <= 1000 -> Calls Tryz.prog 112 #[.pointer (some ⟨l, 0, none⟩), .string nm, .string ah] u fun e w' => e = .returned (.int .i64 (pn (fl L.name ah) nm : Nat)) /\ Keeps Nb u w') :=
    qq (fun u ah hu ha => z3g l L.name nm ah u (HV3.out.nb hu) ((cell_of_block (HC3.out u hu)).trans rfl) (by omega) (by omega) ha)
   have FA := qq (z18 l L.name sNew W3 ((cell_of_block (HC3.out W3 (Keeps.refl _ _))).trans rfl) (by omega) (by decide))
   have c33 : W3.cell? ⟨b3, 0, none⟩ = some (.pointer (some ⟨l, 0, none⟩)) := (cell_of_block B33.out).trans rfl
   clear k3 kb3 g1 g2 g3 g4 g5 g6 g7 g8 g9 hcs3
   repeat (first | (with_reducible refine zg ?_) | (with_reducible refine stop_range ?_) | gi_step)
   refine za (zh (by kernel_rfl) (by rintro ⟨_, _, h⟩; exact h) ?_)
   go_wp2_with fail
   refine FA.out.mono ?_
   rintro _ _ ⟨rfl, rfl⟩
   have hnf : fl L.name sNew = newf L.name := rfl
   rw [hnf]
   clear FA hnf
   have hours : ours L.name nm = (decide (nm = newf L.name) || decide (0 < sgn L.name nm) || decide (0 < snn L.name nm)) := rfl
   have HOU := qq hours
   clear hours
   by_cases hA : nm = newf L.name
   ·
    have t1 : (nm == newf L.name) = true := by rw [z5j]; simpa using hA
    have t2 : (nm.toList == (newf L.name).toList) = true := by rw [z8f]; simpa using hA
    have HO : Hid (ours L.name nm = true) := qq (by rw [HOU.out]; simp [hA])
    have KX : Hid (Keeps Nb W3 W3) := qq (Keeps.refl _ _)
    have HA := qq hA
    clear hA
    go_wp2
    repeat (first | (with_reducible refine zg ?_) | (with_reducible refine stop_range ?_) | gi_step)
    refine za (zh (by kernel_rfl) (by rintro ⟨_, _, h⟩; exact h) ?_)
    have B7X := qq (KX.out.nb B73.out)
    have B20X := qq (KX.out.nb B203.out)
    have c7X : W3.cell? ⟨b7, 0, none⟩ = some (.slice (some ⟨b20, 0, none⟩) 3 3) := (cell_of_block B7X.out).trans rfl
    have CO := qq (Any.slices_Contains_string Tryz.lays110 b20 0 3 3 [manf L.name, snf L.name s, sgf L.name n] nm W3 (by simp) (by decide) (fun j hj => by
     refine (cell_of_block B20X.out).trans ?_
     have : j = 0 \/ j = 1 \/ j = 2 := by simp at hj; omega
     rcases this with rfl | rfl | rfl <;> rfl))
    go_wp2_with fail
    refine CO.out.mono ?_
    rintro _ w9 ⟨rfl, e9⟩
    rw [e9]
    clear CO e9
    generalize hcb : Lib.containsS (List.take 3 [manf L.name, snf L.name s, sgf L.name n]) nm = cb
    have hcs : (cb = true ↔ nm ∈ [manf L.name, snf L.name s, sgf L.name n]) := by rw [<- hcb]; exact Lib.containsS_iff _ _
    have HCS := qq hcs
    clear hcb hcs c7X
    cases cb
    ·
     have HSW : Hid (swept L.name s n nm = true) := qq (by
      have h1 : ¬ nm ∈ [manf L.name, snf L.name s, sgf L.name n] := fun e => by have := HCS.out.2 e; cases this
      simp only [List.mem_cons, List.not_mem_nil, or_false, not_or] at h1
      unfold swept
      rw [HO.out, decide_eq_false h1.1, decide_eq_false h1.2.1, decide_eq_false h1.2.2]; rfl)
     have RA := qq (z6o d nm X'.D Fd' Rd' X'.fc W3 ((GL.out.nb KX.out).disk) (by unfold maxLen; omega) (by have h1 := GP.out; have h2 := HP.out; exact z0b (k := 1) (by omega) (by omega)))
     have c3X : W3.cell? ⟨b3, 0, none⟩ = some (.pointer (some ⟨l, 0, none⟩)) := (cell_of_block (KX.out.nb B33.out)).trans rfl
     have clX : W3.cell? ⟨l, 0, none⟩ = some (.pointer (some ⟨d, 0, none⟩)) := (cell_of_block (HC3.out _ KX.out)).trans rfl
     go_wp2
     repeat (first | (with_reducible refine zg ?_) | (with_reducible refine stop_range ?_) | gi_step)
     refine za (zh (by kernel_rfl) (by rintro ⟨_, _, h⟩; exact h) ?_)
     go_wp2_with fail
     refine RA.out.mono ?_
     rintro _ w9 ⟨er, D', rfl, hn9, hr9⟩
     have zX : W3.heap.size <= (W3).heap.size := KX.out.size
     have hrem := SwI.rem (s := s) (n := n) (b6 := b6) (X := X) (ns := ns) (i := i) (GL.out.nb KX.out) G2.out.1 G2.out.2.1 G2.out.2.2.1 G2.out.2.2.2 G6.out GP.out (G9.out.trans_nb KX.out) (by omega) HNS.out HSW.out hn9 hr9
     have HREM := qq hrem
     have hb9 : w9.heap[b6]? = some (.cells #[.int .i64 0] 24 (0, 0)) := hrem.2.2.at (KX.out.nb HB3.out) (fun e => by
      rcases e with e | e
      ·
       have := lt2.out b6 (.inl e); have := G.out; omega
      ·
       have := G.out; omega)
     have kf : Keeps (fun b => (w8.heap.size <= b \/ Fd b \/ b = b6) /\ ¬ Book w8 b) W3 w9 := (KX.out.of_nb).trans hrem.2.2 (fun j hj e => by
      rcases e with e | e
      ·
       exact ⟨.inr (.inl e), fun h => by unfold Book at h; have := lt2.out j (.inl e); omega⟩
      ·
       exact ⟨.inl (by omega), fun h => by unfold Book at h; omega⟩)
     have HB9 := qq hb9; have KF := qq kf
     clear hn9 hr9 hrem RA c3X clX hb9 kf
     by_cases her : er = 0
     ·
      have HE := qq (HREM.out.1 her)
      subst her
      go_wp2
      repeat (first | (with_reducible refine zg ?_) | (with_reducible refine stop_range ?_) | gi_step)
      refine za (zh (by kernel_rfl) (by rintro ⟨_, _, h⟩; exact h) ?_)
      go_wp2
      gi_wp2
      exact ⟨KF.out, HE.out, HB9.out⟩
     ·
      have HE := qq (HREM.out.2.1 her)
      have HNE := qq her
      have t9 : (er != 0) = true := by simpa using her
      clear her
      go_wp2
      repeat (first | (with_reducible refine zg ?_) | (with_reducible refine stop_range ?_) | gi_step)
      refine za (zh (by kernel_rfl) (by rintro ⟨_, _, h⟩; exact h) ?_)
      go_wp2
      repeat (first | (with_reducible refine zg ?_) | (with_reducible refine stop_range ?_) | gi_step)
      refine za (zh (by kernel_rfl) (by rintro ⟨_, _, h⟩; exact h) ?_)
      go_wp2_with (first | go_skip | (with_reducible refine qv (by decide) ?_))
      refine za (zd rfl (zc (v := .int .i64 er) (n := 1) (by kernel_rfl) (by rfl) (by rfl) HB9.out (by rfl) (by simp [Value.cells]) (by simp [Value.cells, Value.oneCell'])) ?_)
      intro w10 s10
      simp only [Nat.reduceAdd, qn]
      have HX : Hid (Keeps (fun b => (w8.heap.size <= b \/ Fd b \/ b = b6) /\ ¬ Book w8 b) W3 w10 /\ SwX w8 l d Fd Rd FL RL b6 L X s n ns .ret w10) := qq ⟨KF.out.trans s10.k (fun j hj e => by
       have e : j = b6 := e
       exact ⟨.inr (.inr e), fun h => by unfold Book at h; have := G.out; omega⟩), rfl, er, HNE.out, HE.out.box s10.k (fun j e => by have := lt2.out j e; have := G.out; omega) (by have := G.out; omega), s10.blk⟩
      clear s10
      go_wp2
      gi_wp2
      exact HX.out
    ·
     have HSW : Hid (swept L.name s n nm = false) := qq (by
      have h1 := HCS.out.1 rfl
      simp only [List.mem_cons, List.not_mem_nil, or_false] at h1
      unfold swept
      rcases h1 with h1 | h1 | h1 <;> rw [decide_eq_true h1] <;> simp)
     go_wp2
     gi_wp2
     exact ⟨KX.out.of_nb, HI3.out.skip HNS.out HSW.out KX.out, KX.out.nb HB3.out⟩
   ·
    have t1 : (nm == newf L.name) = false := by rw [z5j]; simpa using hA
    have t2 : (nm.toList == (newf L.name).toList) = false := by rw [z8f]; simpa using hA
    have HA := qq hA
    clear hA
    go_wp2_with fail
    refine (PA.out W3 ByteArray.empty (Keeps.refl _ _) (by decide)).mono ?_
    rintro _ W4 ⟨rfl, k4⟩
    have K4 := qq k4
    have c34 : W4.cell? ⟨b3, 0, none⟩ = some (.pointer (some ⟨l, 0, none⟩)) := (cell_of_block (k4.nb B33.out)).trans rfl
    clear k4
    have e1 : pn (fl L.name ByteArray.empty) nm = sgn L.name nm := rfl
    rw [e1]
    clear e1
    by_cases hS1 : 0 < sgn L.name nm
    ·
     have HO : Hid (ours L.name nm = true) := qq (by rw [HOU.out, decide_eq_true hS1]; simp)
     have KX := K4
     obtain ⟨kk, hkk⟩ : ∃ q, sgn L.name nm = q := ⟨_, rfl⟩
     rw [hkk] at hS1 ⊢
     clear hkk
     go_wp2
     repeat (first | (with_reducible refine zg ?_) | (with_reducible refine stop_range ?_) | gi_step)
     refine za (zh (by kernel_rfl) (by rintro ⟨_, _, h⟩; exact h) ?_)
     have B7X := qq (KX.out.nb B73.out)
     have B20X := qq (KX.out.nb B203.out)
     have c7X : W4.cell? ⟨b7, 0, none⟩ = some (.slice (some ⟨b20, 0, none⟩) 3 3) := (cell_of_block B7X.out).trans rfl
     have CO := qq (Any.slices_Contains_string Tryz.lays110 b20 0 3 3 [manf L.name, snf L.name s, sgf L.name n] nm W4 (by simp) (by decide) (fun j hj => by
      refine (cell_of_block B20X.out).trans ?_
      have : j = 0 \/ j = 1 \/ j = 2 := by simp at hj; omega
      rcases this with rfl | rfl | rfl <;> rfl))
     go_wp2_with fail
     refine CO.out.mono ?_
     rintro _ w9 ⟨rfl, e9⟩
     rw [e9]
     clear CO e9
     generalize hcb : Lib.containsS (List.take 3 [manf L.name, snf L.name s, sgf L.name n]) nm = cb
     have hcs : (cb = true ↔ nm ∈ [manf L.name, snf L.name s, sgf L.name n]) := by rw [<- hcb]; exact Lib.containsS_iff _ _
     have HCS := qq hcs
     clear hcb hcs c7X
     cases cb
     ·
      have HSW : Hid (swept L.name s n nm = true) := qq (by
       have h1 : ¬ nm ∈ [manf L.name, snf L.name s, sgf L.name n] := fun e => by have := HCS.out.2 e; cases this
       simp only [List.mem_cons, List.not_mem_nil, or_false, not_or] at h1
       unfold swept
       rw [HO.out, decide_eq_false h1.1, decide_eq_false h1.2.1, decide_eq_false h1.2.2]; rfl)
      have RA := qq (z6o d nm X'.D Fd' Rd' X'.fc W4 ((GL.out.nb KX.out).disk) (by unfold maxLen; omega) (by have h1 := GP.out; have h2 := HP.out; exact z0b (k := 1) (by omega) (by omega)))
      have c3X : W4.cell? ⟨b3, 0, none⟩ = some (.pointer (some ⟨l, 0, none⟩)) := (cell_of_block (KX.out.nb B33.out)).trans rfl
      have clX : W4.cell? ⟨l, 0, none⟩ = some (.pointer (some ⟨d, 0, none⟩)) := (cell_of_block (HC3.out _ KX.out)).trans rfl
      go_wp2
      repeat (first | (with_reducible refine zg ?_) | (with_reducible refine stop_range ?_) | gi_step)
      refine za (zh (by kernel_rfl) (by rintro ⟨_, _, h⟩; exact h) ?_)
      go_wp2_with fail
      refine RA.out.mono ?_
      rintro _ w9 ⟨er, D', rfl, hn9, hr9⟩
      have zX : W3.heap.size <= (W4).heap.size := KX.out.size
      have hrem := SwI.rem (s := s) (n := n) (b6 := b6) (X := X) (ns := ns) (i := i) (GL.out.nb KX.out) G2.out.1 G2.out.2.1 G2.out.2.2.1 G2.out.2.2.2 G6.out GP.out (G9.out.trans_nb KX.out) (by omega) HNS.out HSW.out hn9 hr9
      have HREM := qq hrem
      have hb9 : w9.heap[b6]? = some (.cells #[.int .i64 0] 24 (0, 0)) := hrem.2.2.at (KX.out.nb HB3.out) (fun e => by
       rcases e with e | e
       ·
        have := lt2.out b6 (.inl e); have := G.out; omega
       ·
        have := G.out; omega)
      have kf : Keeps (fun b => (w8.heap.size <= b \/ Fd b \/ b = b6) /\ ¬ Book w8 b) W3 w9 := (KX.out.of_nb).trans hrem.2.2 (fun j hj e => by
       rcases e with e | e
       ·
        exact ⟨.inr (.inl e), fun h => by unfold Book at h; have := lt2.out j (.inl e); omega⟩
       ·
        exact ⟨.inl (by omega), fun h => by unfold Book at h; omega⟩)
      have HB9 := qq hb9; have KF := qq kf
      clear hn9 hr9 hrem RA c3X clX hb9 kf
      by_cases her : er = 0
      ·
       have HE := qq (HREM.out.1 her)
       subst her
       go_wp2
       repeat (first | (with_reducible refine zg ?_) | (with_reducible refine stop_range ?_) | gi_step)
       refine za (zh (by kernel_rfl) (by rintro ⟨_, _, h⟩; exact h) ?_)
       go_wp2
       gi_wp2
       exact ⟨KF.out, HE.out, HB9.out⟩
      ·
       have HE := qq (HREM.out.2.1 her)
       have HNE := qq her
       have t9 : (er != 0) = true := by simpa using her
       clear her
       go_wp2
       repeat (first | (with_reducible refine zg ?_) | (with_reducible refine stop_range ?_) | gi_step)
       refine za (zh (by kernel_rfl) (by rintro ⟨_, _, h⟩; exact h) ?_)
       go_wp2
       repeat (first | (with_reducible refine zg ?_) | (with_reducible refine stop_range ?_) | gi_step)
       refine za (zh (by kernel_rfl) (by rintro ⟨_, _, h⟩; exact h) ?_)
       go_wp2_with (first | go_skip | (with_reducible refine qv (by decide) ?_))
       refine za (zd rfl (zc (v := .int .i64 er) (n := 1) (by kernel_rfl) (by rfl) (by rfl) HB9.out (by rfl) (by simp [Value.cells]) (by simp [Value.cells, Value.oneCell'])) ?_)
       intro w10 s10
       simp only [Nat.reduceAdd, qn]
       have HX : Hid (Keeps (fun b => (w8.heap.size <= b \/ Fd b \/ b = b6) /\ ¬ Book w8 b) W3 w10 /\ SwX w8 l d Fd Rd FL RL b6 L X s n ns .ret w10) := qq ⟨KF.out.trans s10.k (fun j hj e => by
        have e : j = b6 := e
        exact ⟨.inr (.inr e), fun h => by unfold Book at h; have := G.out; omega⟩), rfl, er, HNE.out, HE.out.box s10.k (fun j e => by have := lt2.out j e; have := G.out; omega) (by have := G.out; omega), s10.blk⟩
       clear s10
       go_wp2
       gi_wp2
       exact HX.out
     ·
      have HSW : Hid (swept L.name s n nm = false) := qq (by
       have h1 := HCS.out.1 rfl
       simp only [List.mem_cons, List.not_mem_nil, or_false] at h1
       unfold swept
       rcases h1 with h1 | h1 | h1 <;> rw [decide_eq_true h1] <;> simp)
      go_wp2
      gi_wp2
      exact ⟨KX.out.of_nb, HI3.out.skip HNS.out HSW.out KX.out, KX.out.nb HB3.out⟩
    ·
     have HS1 := qq hS1
     obtain ⟨kk, hkk⟩ : ∃ q, sgn L.name nm = q := ⟨_, rfl⟩
     have HKK := qq hkk
     rw [hkk] at hS1 ⊢
     clear hkk
     go_wp2_with fail
     refine (PA.out W4 sS K4.out (by decide)).mono ?_
     rintro _ W5 ⟨rfl, k5⟩
     have K5 := qq (K4.out.trans_nb k5)
     have e1 : pn (fl L.name sS) nm = snn L.name nm := rfl
     rw [e1]
     clear e1 k5 c34
     by_cases hS2 : 0 < snn L.name nm
     ·
      have HO : Hid (ours L.name nm = true) := qq (by rw [HOU.out, decide_eq_true hS2]; simp)
      have KX := K5
      obtain ⟨kk2, hkk2⟩ : ∃ q, snn L.name nm = q := ⟨_, rfl⟩
      rw [hkk2] at hS2 ⊢
      clear hkk2
      go_wp2
      repeat (first | (with_reducible refine zg ?_) | (with_reducible refine stop_range ?_) | gi_step)
      refine za (zh (by kernel_rfl) (by rintro ⟨_, _, h⟩; exact h) ?_)
      have B7X := qq (KX.out.nb B73.out)
      have B20X := qq (KX.out.nb B203.out)
      have c7X : W5.cell? ⟨b7, 0, none⟩ = some (.slice (some ⟨b20, 0, none⟩) 3 3) := (cell_of_block B7X.out).trans rfl
      have CO := qq (Any.slices_Contains_string Tryz.lays110 b20 0 3 3 [manf L.name, snf L.name s, sgf L.name n] nm W5 (by simp) (by decide) (fun j hj => by
       refine (cell_of_block B20X.out).trans ?_
       have : j = 0 \/ j = 1 \/ j = 2 := by simp at hj; omega
       rcases this with rfl | rfl | rfl <;> rfl))
      go_wp2_with fail
      refine CO.out.mono ?_
      rintro _ w9 ⟨rfl, e9⟩
      rw [e9]
      clear CO e9
      generalize hcb : Lib.containsS (List.take 3 [manf L.name, snf L.name s, sgf L.name n]) nm = cb
      have hcs : (cb = true ↔ nm ∈ [manf L.name, snf L.name s, sgf L.name n]) := by rw [<- hcb]; exact Lib.containsS_iff _ _
      have HCS := qq hcs
      clear hcb hcs c7X
      cases cb
      ·
       have HSW : Hid (swept L.name s n nm = true) := qq (by
        have h1 : ¬ nm ∈ [manf L.name, snf L.name s, sgf L.name n] := fun e => by have := HCS.out.2 e; cases this
        simp only [List.mem_cons, List.not_mem_nil, or_false, not_or] at h1
        unfold swept
        rw [HO.out, decide_eq_false h1.1, decide_eq_false h1.2.1, decide_eq_false h1.2.2]; rfl)
       have RA := qq (z6o d nm X'.D Fd' Rd' X'.fc W5 ((GL.out.nb KX.out).disk) (by unfold maxLen; omega) (by have h1 := GP.out; have h2 := HP.out; exact z0b (k := 1) (by omega) (by omega)))
       have c3X : W5.cell? ⟨b3, 0, none⟩ = some (.pointer (some ⟨l, 0, none⟩)) := (cell_of_block (KX.out.nb B33.out)).trans rfl
       have clX : W5.cell? ⟨l, 0, none⟩ = some (.pointer (some ⟨d, 0, none⟩)) := (cell_of_block (HC3.out _ KX.out)).trans rfl
       go_wp2
       repeat (first | (with_reducible refine zg ?_) | (with_reducible refine stop_range ?_) | gi_step)
       refine za (zh (by kernel_rfl) (by rintro ⟨_, _, h⟩; exact h) ?_)
       go_wp2_with fail
       refine RA.out.mono ?_
       rintro _ w9 ⟨er, D', rfl, hn9, hr9⟩
       have zX : W3.heap.size <= (W5).heap.size := KX.out.size
       have hrem := SwI.rem (s := s) (n := n) (b6 := b6) (X := X) (ns := ns) (i := i) (GL.out.nb KX.out) G2.out.1 G2.out.2.1 G2.out.2.2.1 G2.out.2.2.2 G6.out GP.out (G9.out.trans_nb KX.out) (by omega) HNS.out HSW.out hn9 hr9
       have HREM := qq hrem
       have hb9 : w9.heap[b6]? = some (.cells #[.int .i64 0] 24 (0, 0)) := hrem.2.2.at (KX.out.nb HB3.out) (fun e => by
        rcases e with e | e
        ·
         have := lt2.out b6 (.inl e); have := G.out; omega
        ·
         have := G.out; omega)
       have kf : Keeps (fun b => (w8.heap.size <= b \/ Fd b \/ b = b6) /\ ¬ Book w8 b) W3 w9 := (KX.out.of_nb).trans hrem.2.2 (fun j hj e => by
        rcases e with e | e
        ·
         exact ⟨.inr (.inl e), fun h => by unfold Book at h; have := lt2.out j (.inl e); omega⟩
        ·
         exact ⟨.inl (by omega), fun h => by unfold Book at h; omega⟩)
       have HB9 := qq hb9; have KF := qq kf
       clear hn9 hr9 hrem RA c3X clX hb9 kf
       by_cases her : er = 0
       ·
        have HE := qq (HREM.out.1 her)
        subst her
        go_wp2
        repeat (first | (with_reducible refine zg ?_) | (with_reducible refine stop_range ?_) | gi_step)
        refine za (zh (by kernel_rfl) (by rintro ⟨_, _, h⟩; exact h) ?_)
        go_wp2
        gi_wp2
        exact ⟨KF.out, HE.out, HB9.out⟩
       ·
        have HE := qq (HREM.out.2.1 her)
        have HNE := qq her
        have t9 : (er != 0) = true := by simpa using her
        clear her
        go_wp2
        repeat (first | (with_reducible refine zg ?_) | (with_reducible refine stop_range ?_) | gi_step)
        refine za (zh (by kernel_rfl) (by rintro ⟨_, _, h⟩; exact h) ?_)
        go_wp2
        repeat (first | (with_reducible refine zg ?_) | (with_reducible refine stop_range ?_) | gi_step)
        refine za (zh (by kernel_rfl) (by rintro ⟨_, _, h⟩; exact h) ?_)
        go_wp2_with (first | go_skip | (with_reducible refine qv (by decide) ?_))
        refine za (zd rfl (zc (v := .int .i64 er) (n := 1) (by kernel_rfl) (by rfl) (by rfl) HB9.out (by rfl) (by simp [Value.cells]) (by simp [Value.cells, Value.oneCell'])) ?_)
        intro w10 s10
        simp only [Nat.reduceAdd, qn]
        have HX : Hid (Keeps (fun b => (w8.heap.size <= b \/ Fd b \/ b = b6) /\ ¬ Book w8 b) W3 w10 /\ SwX w8 l d Fd Rd FL RL b6 L X s n ns .ret w10) := qq ⟨KF.out.trans s10.k (fun j hj e => by
         have e : j = b6 := e
         exact ⟨.inr (.inr e), fun h => by unfold Book at h; have := G.out; omega⟩), rfl, er, HNE.out, HE.out.box s10.k (fun j e => by have := lt2.out j e; have := G.out; omega) (by have := G.out; omega), s10.blk⟩
        clear s10
        go_wp2
        gi_wp2
        exact HX.out
      ·
       have HSW : Hid (swept L.name s n nm = false) := qq (by
        have h1 := HCS.out.1 rfl
        simp only [List.mem_cons, List.not_mem_nil, or_false] at h1
        unfold swept
        rcases h1 with h1 | h1 | h1 <;> rw [decide_eq_true h1] <;> simp)
       go_wp2
       gi_wp2
       exact ⟨KX.out.of_nb, HI3.out.skip HNS.out HSW.out KX.out, KX.out.nb HB3.out⟩
     ·
      have HSW : Hid (swept L.name s n nm = false) := qq (by
       unfold swept
       rw [HOU.out, decide_eq_false HA.out, decide_eq_false HS1.out, decide_eq_false hS2]; rfl)
      obtain ⟨kk2, hkk2⟩ : ∃ q, snn L.name nm = q := ⟨_, rfl⟩
      rw [hkk2] at hS2 ⊢
      clear hkk2
      go_wp2
      repeat (first | (with_reducible refine zg ?_) | (with_reducible refine stop_range ?_) | gi_step)
      refine za (zh (by kernel_rfl) (by rintro ⟨_, _, h⟩; exact h) ?_)
      go_wp2
      gi_wp2
      exact ⟨K5.out.of_nb, HI3.out.skip HNS.out HSW.out K5.out, K5.out.nb HB3.out⟩
  case done =>
   rintro W ⟨hI, hb⟩ hD
   rw [HLEN.out, List.take_length] at hI
   have HI := qq hI; have HD := qq hD
   have hb68 : b6 < w8.heap.size := by have := G.out; omega
   clear hI hD
   go_wp2_with (first | go_skip | (with_reducible refine qv (by decide) ?_))
   refine za (zd rfl (zc (v := .int .i64 0) (n := 1) (by kernel_rfl) (by rfl) (by rfl) hb (by rfl) (by simp [Value.cells]) (by simp [Value.cells, Value.oneCell'])) ?_)
   intro W2 s2
   simp only [Nat.reduceAdd, qn]
   have kp := zw W2 w8.heap.size (.deferred none)
   have hb2 : (W2.putObj w8.heap.size (.deferred none)).heap[b6]? = some (.cells #[.int .i64 0] 24 (0, 0)) := kp.at s2.blk (fun e => by omega)
   have hcb : (W2.putObj w8.heap.size (.deferred none)).cell? ⟨b6, 0, none⟩ = some (.int .i64 0) := (cell_of_block hb2).trans rfl
   have HD2 := qq (s2.k.at HD.out (fun e => by omega))
   have HF : Hid (OpE w l d Fd Rd FL RL L X 1 (sweepO L.name s n) (.returned (.int .i64 0)) (W2.putObj w8.heap.size (.deferred none))) := qq
    (((HI.out.box s2.k (fun j e => by have := lt2.out j e; have := G.out; omega) hb68).book (kp.mono (fun j _ e => by unfold Book; exact .inl e)) l8).fin ((K2.out.trans_nb K7.out).trans_nb K8.out) (by have := G.out; omega) HPM.out)
   clear s2 kp hb2
   go_wp2
   refine ⟨by simp, .inl ⟨_, _, rfl, run_takeDeferred HD2.out, ?_⟩⟩
   exact ⟨.int .i64 0, by simp [results, Tryz.f79, go_sem, hcb], HF.out⟩
  case stop =>
   rintro c W ⟨rfl, er, hne, hI, hb⟩ hD
   have hb68 : b6 < w8.heap.size := by have := G.out; omega
   have kp := zw W w8.heap.size (.deferred none)
   have hb2 : (W.putObj w8.heap.size (.deferred none)).heap[b6]? = some (.cells #[.int .i64 er] 24 (0, 0)) := kp.at hb (fun e => by omega)
   have hcb : (W.putObj w8.heap.size (.deferred none)).cell? ⟨b6, 0, none⟩ = some (.int .i64 er) := (cell_of_block hb2).trans rfl
   have HF : Hid (OpE w l d Fd Rd FL RL L X 1 (sweepO L.name s n) (.returned (.int .i64 er)) (W.putObj w8.heap.size (.deferred none))) := qq
    ((hI.book (kp.mono (fun j _ e => by unfold Book; exact .inl e)) l8).fin ((K2.out.trans_nb K7.out).trans_nb K8.out) (by have := G.out; omega) HPM.out)
   gi_wp2
   refine ⟨by simp, .inl ⟨_, _, rfl, run_takeDeferred hD, ?_⟩⟩
   exact ⟨.int .i64 er, by simp [results, Tryz.f79, go_sem, hcb], HF.out⟩
end Go.Proofs.YtpjomdmjohjheaaGreatDoor
end
section
namespace Go.Proofs.YtpjomdmjohjheaaGreatDoor
open Go.RowKit Go.Lk Go.Vfs Go.Log
theorem zgc (l d b2 b6 b8 s n : Nat) (L : Lg) (hs : s <= 4294967296) (hn : n <= 4294967296) : OpC l d L 9 ⟨71, #[], #[.pointer (some ⟨b2, 0, none⟩), .pointer (some ⟨b6, 0, none⟩), .pointer (some ⟨b8, 0, none⟩)]⟩ (manO L.name s n) (fun w a b => LB b2 l w a b /\ NB b6 s w a b /\ NB b8 n w a b) := by
 rintro w Fd Rd FL RL X h hv ⟨⟨hb2, o2⟩, ⟨hb6, o6⟩, ⟨hb8, o8⟩⟩ hp
 have c2 : w.cell? ⟨b2, 0, none⟩ = some (.pointer (some ⟨l, 0, none⟩)) := (cell_of_block hb2).trans rfl
 have c6 : w.cell? ⟨b6, 0, none⟩ = some (.int .i64 (s : Nat)) := (cell_of_block hb6).trans rfl
 have c8 : w.cell? ⟨b8, 0, none⟩ = some (.int .i64 (n : Nat)) := (cell_of_block hb8).trans rfl
 have MW := qq (zfi l d Fd Rd FL RL L X s n w h hv hs hn hp)
 clear h hv hp hb2 hb6 hb8
 show Calls Tryz.prog 71 #[.pointer (some ⟨b2, 0, none⟩), .pointer (some ⟨b6, 0, none⟩), .pointer (some ⟨b8, 0, none⟩)] w _
 go_enter Tryz.func71, Tryz.ntmps71
 go_wp2_with fail
 refine MW.out.mono ?_
 rintro e w1 hE
 obtain ⟨er, X', L', rfl, -⟩ := id hE
 have F := qq hE
 clear hE MW
 go_wp2
 go_ret
 exact F.out
theorem zdr (l d b2 b6 b8 s n : Nat) (L : Lg) (hs : s <= 4294967296) (hn : n <= 4294967296) : OpC l d L 1 ⟨78, #[], #[.pointer (some ⟨b2, 0, none⟩), .pointer (some ⟨b6, 0, none⟩), .pointer (some ⟨b8, 0, none⟩)]⟩ (sweepO L.name s n) (fun w a b => LB b2 l w a b /\ NB b6 s w a b /\ NB b8 n w a b) := by
 rintro w Fd Rd FL RL X h hv ⟨⟨hb2, o2⟩, ⟨hb6, o6⟩, ⟨hb8, o8⟩⟩ hp
 have c2 : w.cell? ⟨b2, 0, none⟩ = some (.pointer (some ⟨l, 0, none⟩)) := (cell_of_block hb2).trans rfl
 have c6 : w.cell? ⟨b6, 0, none⟩ = some (.int .i64 (s : Nat)) := (cell_of_block hb6).trans rfl
 have c8 : w.cell? ⟨b8, 0, none⟩ = some (.int .i64 (n : Nat)) := (cell_of_block hb8).trans rfl
 have MW := qq (zf7 l d s n Fd Rd FL RL L X w h hv hs hn hp)
 clear h hv hp hb2 hb6 hb8
 show Calls Tryz.prog 78 #[.pointer (some ⟨b2, 0, none⟩), .pointer (some ⟨b6, 0, none⟩), .pointer (some ⟨b8, 0, none⟩)] w _
 go_enter Tryz.func78, Tryz.ntmps78
 go_wp2_with fail
 refine MW.out.mono ?_
 rintro e w1 hE
 obtain ⟨er, X', L', rfl, -⟩ := id hE
 have F := qq hE
 clear hE MW
 go_wp2
 go_ret
 exact F.out
theorem zgn (l d b2 b6 b3 s : Nat) (L : Lg) (ad : Option Addr) (m c : Nat) (bs : List Nat) (hs : s <= 4294967296) (hl : bs.length <= mxr) : OpC l d L 5 ⟨74, #[], #[.pointer (some ⟨b2, 0, none⟩), .pointer (some ⟨b6, 0, none⟩), .pointer (some ⟨b3, 0, none⟩)]⟩ (putO (snf L.name s) bs) (fun w a b => LB b2 l w a b /\ NB b6 s w a b /\ YB b3 (.slice ad m c) bs w a b) := by
 rintro w Fd Rd FL RL X h hv ⟨⟨hb2, o2⟩, ⟨hb6, o6⟩, ⟨⟨hb3, o3⟩, hy⟩⟩ hp
 have OO := qq (And.intro o2 (And.intro o6 o3))
 obtain ⟨sv, lv, hcs⟩ := h.cells
 have c2 : w.cell? ⟨b2, 0, none⟩ = some (.pointer (some ⟨l, 0, none⟩)) := (cell_of_block hb2).trans rfl
 have c6 : w.cell? ⟨b6, 0, none⟩ = some (.int .i64 (s : Nat)) := (cell_of_block hb6).trans rfl
 have c3 : w.cell? ⟨b3, 0, none⟩ = some (.slice ad m c) := (cell_of_block hb3).trans rfl
 have H := qq h; have HV := qq hv; have HY := qq hy; have HP := qq hp
 have h16 := h.nums.n16
 have SA := qq (z3v l L.name s w.drew (hv.nb (Keeps.refl Nb w).drew) ((cell_of_block (hcs w.drew (Keeps.refl Nb w).drew)).trans rfl) (by omega) (by omega))
 clear h hv hb2 hb6 hb3 hcs hp hy o2 o6 o3
 show Calls Tryz.prog 74 #[.pointer (some ⟨b2, 0, none⟩), .pointer (some ⟨b6, 0, none⟩), .pointer (some ⟨b3, 0, none⟩)] w _
 go_enter Tryz.func74, Tryz.ntmps74
 go_wp2
 refine WT.region (fun u => u.cell? ⟨b2, 0, none⟩ = some (.pointer (some ⟨l, 0, none⟩)) /\ u.cell? ⟨b6, 0, none⟩ = some (.int .i64 (s : Nat)) /\ u.cell? ⟨b3, 0, none⟩ = some (.slice ad m c)) 6 7 [0, 1, 2, 4, 3, 5, 6] (by kernel_rfl) rfl ?_
 have fac : ∀ u, Keeps (fun k => Fd k \/ FL k) w u -> (fun u : World => u.cell? ⟨b2, 0, none⟩ = some (.pointer (some ⟨l, 0, none⟩)) /\ u.cell? ⟨b6, 0, none⟩ = some (.int .i64 (s : Nat)) /\ u.cell? ⟨b3, 0, none⟩ = some (.slice ad m c)) u := fun u hu =>
  ⟨(hu.cell (lt_of_cell c2) (fun e => e.elim OO.out.1.1 OO.out.1.2)).trans c2, (hu.cell (lt_of_cell c6) (fun e => e.elim OO.out.2.1.1 OO.out.2.1.2)).trans c6, (hu.cell (lt_of_cell c3) (fun e => e.elim OO.out.2.2.1 OO.out.2.2.2)).trans c3⟩
 have FAC := qq fac
 have HS := qq (fac w.drew (Keeps.refl _ w).drew)
 clear fac
 refine WT.t 0 (v := .pointer (some ⟨l, 0, none⟩)) (y := by rintro w ⟨C1, C2, C3⟩; exact zb (by kernel_rfl) (by rfl) C1) (s := HS.out) (h := ?_)
 refine WT.t 1 (v := .pointer (some ⟨l, 0, none⟩)) (y := by rintro w ⟨C1, C2, C3⟩; exact zb (by kernel_rfl) (by rfl) C1) (s := HS.out) (h := ?_)
 refine WT.t 2 (v := .int .i64 (s : Nat)) (y := by rintro w ⟨C1, C2, C3⟩; exact zb (by kernel_rfl) (by rfl) C2) (s := HS.out) (h := ?_)
 refine WT.t 4 (v := .slice ad m c) (y := by rintro w ⟨C1, C2, C3⟩; exact zb (by kernel_rfl) (by rfl) C3) (s := HS.out) (h := ?_)
 refine WT.call 3 (by simp only [qi]; rfl) (by kernel_rfl) (by rfl) (by go_simp; first | done | rfl | exact ⟨⟨rfl, rfl⟩, rfl⟩ | exact ⟨⟨rfl, rfl, rfl⟩, rfl⟩ | exact ⟨⟨rfl, rfl, rfl, rfl⟩, rfl⟩ | exact ⟨⟨rfl, rfl, rfl, rfl, rfl⟩, rfl⟩) SA.out ?_
 rintro _ w1 ⟨rfl, k1⟩
 have K1 : Hid (Keeps Nb w w1) := qq (((Keeps.refl Nb w).drew).trans_nb k1)
 refine ⟨_, rfl, FAC.out w1 K1.out.of_nb, ?_⟩
 simp only [Nat.reduceAdd, qn]
 have PW := qq (zfj l d Fd Rd FL RL L X (snf L.name s) (.slice ad m c) bs w1 (H.out.nb K1.out) (HV.out.nb K1.out) (by exact z5i h16 (by rw [ByteArray.size_append]; have := z3z (n := s) (by omega); have : sS.size = 1 := rfl; omega)) (((HY.out.keeps K1.out (fun _ _ e => e)).mono (fun k hk => ⟨Nat.lt_of_lt_of_le hk.1 K1.out.size, hk.2⟩))) hl HP.out)
 refine WT.call 5 (by simp only [qi]; rfl) (by kernel_rfl) (by rfl) (by go_simp; first | done | rfl | exact ⟨⟨rfl, rfl⟩, rfl⟩ | exact ⟨⟨rfl, rfl, rfl⟩, rfl⟩ | exact ⟨⟨rfl, rfl, rfl, rfl⟩, rfl⟩ | exact ⟨⟨rfl, rfl, rfl, rfl, rfl⟩, rfl⟩) PW.out ?_
 rintro e w2 hE
 obtain ⟨er, X', L', rfl, hq⟩ := id hE
 have hF := OpE.from hE K1.out
 have hS2 := FAC.out w2 (by obtain ⟨er2, X2, L2, -, hnow, -⟩ := hF; obtain ⟨_, _, _, _, _, _, _, _, _, hk⟩ := hnow; exact hk)
 have F := qq hF
 clear hE hq PW hF SA k1 HS
 refine ⟨_, rfl, hS2, ?_⟩
 simp only [Nat.reduceAdd, qn]
 refine WT.stop (by kernel_rfl) ?_
 refine WP.o 6 (v := _) (y := by go_simp; first | with_reducible rfl | exact ⟨rfl, rfl⟩) (h := ?_)
 refine WP.done (by kernel_rfl) ?_
 go_wp2
 go_ret
 exact F.out
end Go.Proofs.YtpjomdmjohjheaaGreatDoor
end
section
namespace Go.Proofs.YtpjomdmjohjheaaGreatDoor
open Go.RowKit Go.Lk Go.Vfs Go.Log
def TuP (l s n b2 b3 b6 b7 b8 : Nat) (f : Int) (v : Value) (bs : List Nat) : World -> (Nat -> Prop) -> (Nat -> Prop) -> Prop := fun w a b => LB b2 l w a b /\ NB b6 s w a b /\ NB b8 n w a b /\ EB b7 f w a b /\ YB b3 v bs w a b
theorem z1i (l s n b2 b3 b6 b7 b8 : Nat) (f : Int) (v : Value) (bs : List Nat) : Stable (TuP l s n b2 b3 b6 b7 b8 f v bs) := (zt _ _).and ((zt _ _).and ((zt _ _).and ((zt _ _).and (z2i _ _ _))))
def tuF (b2 b3 b6 b7 b8 : Nat) : List Fv := [⟨72, #[], #[.pointer (some ⟨b2, 0, none⟩)]⟩, ⟨73, #[], #[.pointer (some ⟨b7, 0, none⟩)]⟩, ⟨74, #[], #[.pointer (some ⟨b2, 0, none⟩), .pointer (some ⟨b6, 0, none⟩), .pointer (some ⟨b3, 0, none⟩)]⟩,
 ⟨77, #[], #[.pointer (some ⟨b2, 0, none⟩), .pointer (some ⟨b8, 0, none⟩)]⟩, ⟨71, #[], #[.pointer (some ⟨b2, 0, none⟩), .pointer (some ⟨b6, 0, none⟩), .pointer (some ⟨b8, 0, none⟩)]⟩, ⟨78, #[], #[.pointer (some ⟨b2, 0, none⟩), .pointer (some ⟨b6, 0, none⟩), .pointer (some ⟨b8, 0, none⟩)]⟩]
theorem tu_l (l d s n b2 b3 b6 b7 b8 : Nat) (f : Int) (L : Lg) (ad : Option Addr) (m c : Nat) (bs : List Nat) (hs : s <= 4294967296) (hn : n <= 4294967296) (hl : bs.length <= mxr) : OpL l d L (TuP l s n b2 b3 b6 b7 b8 f (.slice ad m c) bs) (tuF b2 b3 b6 b7 b8)
  [syO L.seg, erO f, putO (snf L.name s) bs, mkO (sgf L.name n), manO L.name s n, sweepO L.name s n] [1, 0, 5, 3, 9, 1] :=
 ⟨(sy72_c l d b2 L).mono (fun _ _ _ h => h.1), enters_of Tryz.func72 (by kernel_rfl) rfl, by omega, (zg1 l d b7 f L).mono (fun _ _ _ h => h.2.2.2.1), enters_of Tryz.func73 (by kernel_rfl) rfl, by omega,
  (zgn l d b2 b6 b3 s L ad m c bs hs hl).mono (fun _ _ _ h => ⟨h.1, h.2.1, h.2.2.2.2⟩), enters_of Tryz.func74 (by kernel_rfl) rfl, by omega, (mk77_c l d b2 b8 n L (by omega)).mono (fun _ _ _ h => ⟨h.1, h.2.2.1⟩), enters_of Tryz.func77 (by kernel_rfl) rfl, by omega,
  (zgc l d b2 b6 b8 s n L hs hn).mono (fun _ _ _ h => ⟨h.1, h.2.1, h.2.2.1⟩), enters_of Tryz.func71 (by kernel_rfl) rfl, by omega, (zdr l d b2 b6 b8 s n L hs hn).mono (fun _ _ _ h => ⟨h.1, h.2.1, h.2.2.1⟩), enters_of Tryz.func78 (by kernel_rfl) rfl, by omega, trivial⟩
theorem zhb (l d : Nat) (Fd Rd FL RL : Nat -> Prop) (L : Lg) (X : Ds) (v : Value) (bs : List Nat) (w : World) (h : LgAt w l d Fd Rd FL RL L X) (hv : Vars w) (hb : BytesO v bs w Fd FL) (hp : pot X + 19 <= 999999) :
  Calls Tryz.prog 23 #[.pointer (some ⟨l, 0, none⟩), v] w (LogD w l d Fd Rd FL RL L X 19 (fun L X e L' Y => turnR L bs X e L' Y)) := by
 obtain ⟨va, vc, rfl, hq⟩ := id hb
 have H := qq h; have HV := qq hv; have HP := qq hp; have HB := qq hb
 obtain ⟨m, hm⟩ : ∃ m, bs.length = m := ⟨_, rfl⟩
 have HM := qq hm
 rw [hm] at HB ⊢
 clear h hv hp hb hq hm
 go_enter Tryz.func23, Tryz.ntmps23
 go_wp2_with (first | go_skip | (with_reducible refine zn (t := 40) ?_) | (with_reducible refine zn (t := 22) ?_))
 refine za (vbox1 (v := .pointer (some ⟨l, 0, none⟩)) (by rfl) rfl ?_)
 intro b2 w0 n0
 simp only [Nat.reduceAdd, qn]
 go_wp2_with (first | go_skip | (with_reducible refine zn (t := 40) ?_) | (with_reducible refine zn (t := 22) ?_))
 refine za (vbox1 (v := .slice va m vc) (by rfl) rfl ?_)
 intro b3 w1 n1
 simp only [Nat.reduceAdd, qn]
 have B2 := qq (n1.k.nb n0.blk)
 have B3 := qq n1.blk
 have G2 : Hid (w.heap.size <= b2 /\ b2 < b3 /\ b3 < w1.heap.size) := qq ⟨n0.ge, by have := n0.lt; have := n1.ge; omega, n1.lt⟩
 have K1 := qq (n0.k.trans_nb n1.k)
 clear n0 n1
 have H1 := qq (H.out.nb K1.out)
 have HV1 := qq (HV.out.nb K1.out)
 obtain ⟨sv, lv, vs, q1, -⟩ := H1.out.ex
 have MA := qq (z8w l d sv lv L va m vc w1 q1)
 have c2 : w1.cell? ⟨b2, 0, none⟩ = some (.pointer (some ⟨l, 0, none⟩)) := (cell_of_block B2.out).trans rfl
 have c3 : w1.cell? ⟨b3, 0, none⟩ = some (.slice va m vc) := (cell_of_block B3.out).trans rfl
 obtain ⟨f0, hf0⟩ : ∃ f, mayE L m = f := ⟨_, rfl⟩
 rw [hf0] at MA
 have HF0 := qq hf0
 clear hf0 q1
 go_wp2_with fail
 refine MA.out.mono ?_
 rintro _ _ ⟨rfl, rfl⟩
 clear MA
 by_cases h0 : f0 = 0
 ·
  subst h0
  have hmx : m <= mxr := by
   have := HF0.out
   unfold mayE at this
   split at this
   ·
    cases this
   ·
    omega
  have NX := qq (z77 l d Fd Rd FL RL L X w1 H1.out HV1.out)
  have hnxb : nxN L.name X <= 2147483647 /\ (nxE L.name X = 0 -> nxN L.name X = nx L.name X + 1) /\ (nxE L.name X = 0 \/ nxE L.name X = 5) := by
   unfold nxN nxE mxn; split
   ·
    exact ⟨by omega, by simp, .inr rfl⟩
   ·
    exact ⟨by omega, by simp, .inl rfl⟩
  generalize hn : nxN L.name X = s at NX hnxb
  generalize hf : nxE L.name X = f at NX hnxb
  have HF := qq hf; have HNX := qq hnxb
  have hn31 := hnxb.1
  clear hn hf hnxb c3
  go_wp2_with fail
  refine NX.out.mono ?_
  rintro _ w8 ⟨rfl, k8⟩
  go_wp2_with (first | go_skip | (with_reducible refine qv (by decide) ?_))
  refine za (valloc (z := .int .i64 0) (by kernel_rfl) ?_)
  intro b6 w9 n9
  simp only [Nat.reduceAdd, qn]
  go_wp2_with (first | go_skip | (with_reducible refine qv (by decide) ?_))
  refine za (valloc (z := .int .i64 0) (by kernel_rfl) ?_)
  intro b7 w10 n10
  simp only [Nat.reduceAdd, qn]
  go_wp2_with (first | go_skip | (with_reducible refine qv (by decide) ?_))
  refine za (zd rfl (zc (v := .int .i64 (s : Nat)) (n := 1) (by kernel_rfl) (by rfl) (by rfl) (n10.k.nb n9.blk) (by rfl) (by simp [Value.cells]) (by simp [Value.cells, Value.oneCell'])) ?_)
  intro w11 s11
  simp only [Nat.reduceAdd, qn]
  go_wp2_with (first | go_skip | (with_reducible refine qv (by decide) ?_))
  refine za (zd rfl (zc (v := .int .i64 f) (n := 1) (by kernel_rfl) (by rfl) (by rfl) (s11.k.at n10.blk (fun e => by have := n9.lt; have := n10.ge; omega)) (by rfl) (by simp [Value.cells]) (by simp [Value.cells, Value.oneCell'])) ?_)
  intro w12 s12
  simp only [Nat.reduceAdd, qn]
  have h34 : b6 < b7 := by have := n9.lt; have := n10.ge; omega
  have B7 := qq s12.blk
  have B6 := qq (s12.k.at s11.blk (fun e => by omega))
  have hz8 := k8.size
  have G6 : Hid (w1.heap.size <= b6 /\ b6 < b7 /\ b7 < w12.heap.size) := qq ⟨by have := n9.ge; omega, h34, lt_of_block s12.blk⟩
  have K112 : Hid (Keeps Nb w1 w12) := qq ((((k8.trans_nb n9.k).trans_nb n10.k).own (k := b6) (by have := n9.ge; omega) s11.k).own (k := b7) (by have := n9.ge; omega) s12.k)
  clear k8 n9 n10 s11 s12 NX c2 hz8 h34
  have c6 : w12.cell? ⟨b6, 0, none⟩ = some (.int .i64 (s : Nat)) := (cell_of_block B6.out).trans rfl
  obtain ⟨n, hsn⟩ : ∃ n, s + 1 = n := ⟨_, rfl⟩
  have HSN := qq hsn
  have iw : IntKind.i64.wrap ((s : Int) + 1) = (n : Int) := by rw [IntWalk.i64_in _ (by omega)]; omega
  clear hsn
  go_wp2_with (first | go_skip | (with_reducible refine qv (by decide) ?_))
  refine za (valloc (z := .int .i64 0) (by kernel_rfl) ?_)
  intro b8 w13 n13
  simp only [Nat.reduceAdd, qn]
  go_wp2_with (first | go_skip | (with_reducible refine qv (by decide) ?_))
  refine za (zd rfl (zc (v := .int .i64 (n : Int)) (n := 1) (by kernel_rfl) (by rfl) (by rfl) n13.blk (by rfl) (by simp [Value.cells]) (by simp [Value.cells, Value.oneCell'])) ?_)
  intro w14 s14
  simp only [Nat.reduceAdd, qn]
  have B8 := qq s14.blk
  have G8 : Hid (w12.heap.size <= b8 /\ b8 < w14.heap.size) := qq ⟨n13.ge, lt_of_block s14.blk⟩
  have K1214 : Hid (Keeps Nb w12 w14) := qq (n13.k.own (k := b8) n13.ge s14.k)
  have B64 := qq (K1214.out.nb B6.out)
  have B74 := qq (K1214.out.nb B7.out)
  have B24 := qq (K1214.out.nb (K112.out.nb B2.out))
  have B34 := qq (K1214.out.nb (K112.out.nb B3.out))
  clear n13 s14 c6 iw B6 B7
  have c7 : w14.cell? ⟨b7, 0, none⟩ = some (.int .i64 f) := (cell_of_block B74.out).trans rfl
  have c8 : w14.cell? ⟨b8, 0, none⟩ = some (.int .i64 (n : Int)) := (cell_of_block B8.out).trans rfl
  by_cases hf0 : f = 0
  ·
   subst hf0
   have hs := HNX.out.2.1 rfl
   have HS1 := qq hs
   clear hs
   by_cases hov : 2147483647 < n
   ·
    have i1 : (2147483647 : Int) < (n : Int) := by omega
    have hte : Hid (turnE L.name X = 5) := qq (by unfold turnE mxn; rw [if_pos (by have := HS1.out; have := HSN.out; omega)])
    have hs4 : s <= 4294967295 := by omega
    have HS4 := qq hs4
    clear hov hn31 hs4
    go_wp2_with (first | go_skip | (with_reducible refine qv (by decide) ?_))
    refine za (zd rfl (zc (v := .int .i64 5) (n := 1) (by kernel_rfl) (by rfl) (by rfl) B74.out (by rfl) (by simp [Value.cells, splice]) (by simp [Value.cells, Value.oneCell'])) ?_)
    intro w15 s15
    simp only [Nat.reduceAdd, qn]
    have hne7 : b8 ≠ b7 /\ b6 ≠ b7 /\ b2 ≠ b7 /\ b3 ≠ b7 := by have := G6.out; have := G8.out; have := G2.out; have := lt_of_block B74.out; omega
    have B85 := qq (s15.k.at B8.out hne7.1)
    have B65 := qq (s15.k.at B64.out hne7.2.1)
    have B25 := qq (s15.k.at B24.out hne7.2.2.1)
    have B35 := qq (s15.k.at B34.out hne7.2.2.2)
    have B75 := qq s15.blk
    have K115 : Hid (Keeps Nb w1 w15) := qq ((K112.out.trans_nb K1214.out).own (k := b7) (by have := G6.out; omega) s15.k)
    clear s15 hne7 c7 c8 i1
    have KA : Hid (Keeps Nb w1 w15) := K115
    have HA := qq (H1.out.nb KA.out)
    have KW := qq (K1.out.trans_nb KA.out)
    have NOF : Hid (((¬ Fd b2 /\ ¬ FL b2) /\ (¬ Fd b3 /\ ¬ FL b3) /\ (¬ Fd b8 /\ ¬ FL b8)) /\ (¬ Fd b6 /\ ¬ FL b6) /\ (¬ Fd b7 /\ ¬ FL b7) /\ b2 ≠ l /\ b3 ≠ l /\ b8 ≠ l) := qq (by
     have h1 := G2.out; have h2 := G6.out; have h4 := G8.out; have h3 := H.out.ltF l H.out.fl; have h5 := K112.out.size
     exact ⟨⟨zr H.out (by omega), zr H.out (by omega), zr H.out (by omega)⟩, zr H.out (by omega), zr H.out (by omega), by omega, by omega, by omega⟩)
    have hP : TuP l s n b2 b3 b6 b7 b8 (5 : Int) (.slice va m vc) bs w15 Fd FL := ⟨⟨B25.out, NOF.out.1.1⟩, ⟨B65.out, NOF.out.2.1⟩, ⟨B85.out, NOF.out.1.2.2⟩, ⟨B75.out, NOF.out.2.2.1⟩, ⟨⟨B35.out, NOF.out.1.2.1⟩, (Bytes.keeps HB.out KW.out (fun _ _ e => e)).mono (fun k hk => ⟨Nat.lt_of_lt_of_le hk.1 KW.out.size, hk.2⟩)⟩⟩
    have HP2 := qq hP
    have c2 : w15.cell? ⟨b2, 0, none⟩ = some (.pointer (some ⟨l, 0, none⟩)) := (cell_of_block B25.out).trans rfl
    clear hP
    go_wp2_with (first | go_skip | (with_reducible refine qv (by decide) ?_))
    refine za (zi rfl (zl el138 ((tuF b2 b3 b6 b7 b8).map Fv.v) rfl (by simp [List.range'_succ]; first | done | rfl | exact ⟨rfl, rfl⟩ | exact ⟨rfl, rfl, rfl⟩ | exact ⟨rfl, rfl, rfl, rfl⟩ | exact ⟨rfl, rfl, rfl, rfl, rfl⟩ | exact ⟨rfl, rfl, rfl, rfl, rfl, rfl⟩) (by simp [Value.cells, tuF, Fv.v]) (by simp [tuF])) ?_)
    rintro _ wS ⟨b20, rfl, nS⟩
    simp only [Nat.reduceAdd, qn]
    have hrow : Has wS (some ⟨b20, 0, none⟩) ((tuF b2 b3 b6 b7 b8).map Fv.v) := zm nS.blk
    have KS := qq nS.k
    have hbl : bs.length <= mxr := by rw [HM.out]; exact hmx
    have AR := qq (z16 (n := 6) (z1i l s n b2 b3 b6 b7 b8 (5 : Int) (.slice va m vc) bs) (tu_l l d s n b2 b3 b6 b7 b8 (5 : Int) L va m vc bs (by have := HS4.out; omega) (by have := HS4.out; have := HSN.out; omega) hbl) (HA.out.nb nS.k) ((HV1.out.nb KA.out).nb nS.k) (z1i l s n b2 b3 b6 b7 b8 (5 : Int) (.slice va m vc) bs _ _ _ _ _ _ HP2.out nS.k.of_nb (fun _ _ e => e) (fun _ _ e => e)) rfl (by omega) (by have := HP.out; simpa using this) hrow (zr HA.out nS.ge))
    clear hrow nS c2 hbl
    go_wp2_with fail
    refine AR.out.mono ?_
    rintro _ wT ⟨er, Y, L', rfl, hnow, hask, hL', hpot⟩
    have HASK := qq hask; have HL' := qq hL'; have HPO := qq hpot
    clear AR hask hL' hpot
    have he : er ≠ 0 := (z1t (l' := []) (by decide) HASK.out).2
    have HE := qq he
    have e2 : L' = { L with bad := true } := by rw [HL'.out, if_neg he]
    subst e2
    have F : Hid (LNow w wT l d Fd Rd FL RL { L with bad := true } Y) := qq ((hnow.from KS.out).from KW.out)
    have t9 : (er != 0) = true := by simpa using he
    have hor : askO [syO L.seg, erO (turnE L.name X), putO (snf L.name (nx L.name X + 1)) bs, mkO (sgf L.name (nx L.name X + 2)), manO L.name (nx L.name X + 1) (nx L.name X + 2), sweepO L.name (nx L.name X + 1) (nx L.name X + 2)] X er Y := by rw [hte.out]; exact (z1t (by decide) HASK.out).1
    have HO := qq hor
    clear he hor hnow
    go_wp2
    go_ret
    exact ⟨er, _, Y, rfl, F.out, .inr ⟨by rw [HM.out]; exact HF0.out, HO.out, .inl ⟨HE.out, rfl⟩⟩, by have := HPO.out; simpa using this⟩
   ·
    have i1 : (n : Int) <= 2147483647 := by omega
    have hte : Hid (turnE L.name X = 0) := qq (by unfold turnE mxn; rw [if_neg (by have := HS1.out; have := HSN.out; omega)])
    have hs4 : s <= 4294967295 := by omega
    have hn4 : n <= 2147483647 := by omega
    have HS4 := qq hs4
    have HN4 := qq hn4
    have K114 : Hid (Keeps Nb w1 w14) := qq (K112.out.trans_nb K1214.out)
    clear hov hn31 hs4 hn4
    have KA : Hid (Keeps Nb w1 w14) := K114
    have HA := qq (H1.out.nb KA.out)
    have KW := qq (K1.out.trans_nb KA.out)
    have NOF : Hid (((¬ Fd b2 /\ ¬ FL b2) /\ (¬ Fd b3 /\ ¬ FL b3) /\ (¬ Fd b8 /\ ¬ FL b8)) /\ (¬ Fd b6 /\ ¬ FL b6) /\ (¬ Fd b7 /\ ¬ FL b7) /\ b2 ≠ l /\ b3 ≠ l /\ b8 ≠ l) := qq (by
     have h1 := G2.out; have h2 := G6.out; have h4 := G8.out; have h3 := H.out.ltF l H.out.fl; have h5 := K112.out.size
     exact ⟨⟨zr H.out (by omega), zr H.out (by omega), zr H.out (by omega)⟩, zr H.out (by omega), zr H.out (by omega), by omega, by omega, by omega⟩)
    have hP : TuP l s n b2 b3 b6 b7 b8 (0 : Int) (.slice va m vc) bs w14 Fd FL := ⟨⟨B24.out, NOF.out.1.1⟩, ⟨B64.out, NOF.out.2.1⟩, ⟨B8.out, NOF.out.1.2.2⟩, ⟨B74.out, NOF.out.2.2.1⟩, ⟨⟨B34.out, NOF.out.1.2.1⟩, (Bytes.keeps HB.out KW.out (fun _ _ e => e)).mono (fun k hk => ⟨Nat.lt_of_lt_of_le hk.1 KW.out.size, hk.2⟩)⟩⟩
    have HP2 := qq hP
    have c2 : w14.cell? ⟨b2, 0, none⟩ = some (.pointer (some ⟨l, 0, none⟩)) := (cell_of_block B24.out).trans rfl
    clear hP
    go_wp2_with (first | go_skip | (with_reducible refine qv (by decide) ?_))
    refine za (zi rfl (zl el138 ((tuF b2 b3 b6 b7 b8).map Fv.v) rfl (by simp [List.range'_succ]; first | done | rfl | exact ⟨rfl, rfl⟩ | exact ⟨rfl, rfl, rfl⟩ | exact ⟨rfl, rfl, rfl, rfl⟩ | exact ⟨rfl, rfl, rfl, rfl, rfl⟩ | exact ⟨rfl, rfl, rfl, rfl, rfl, rfl⟩) (by simp [Value.cells, tuF, Fv.v]) (by simp [tuF])) ?_)
    rintro _ wS ⟨b20, rfl, nS⟩
    simp only [Nat.reduceAdd, qn]
    have hrow : Has wS (some ⟨b20, 0, none⟩) ((tuF b2 b3 b6 b7 b8).map Fv.v) := zm nS.blk
    have KS := qq nS.k
    have hbl : bs.length <= mxr := by rw [HM.out]; exact hmx
    have AR := qq (z16 (n := 6) (z1i l s n b2 b3 b6 b7 b8 (0 : Int) (.slice va m vc) bs) (tu_l l d s n b2 b3 b6 b7 b8 (0 : Int) L va m vc bs (by have := HS4.out; omega) (by have := HS4.out; have := HSN.out; omega) hbl) (HA.out.nb nS.k) ((HV1.out.nb KA.out).nb nS.k) (z1i l s n b2 b3 b6 b7 b8 (0 : Int) (.slice va m vc) bs _ _ _ _ _ _ HP2.out nS.k.of_nb (fun _ _ e => e) (fun _ _ e => e)) rfl (by omega) (by have := HP.out; simpa using this) hrow (zr HA.out nS.ge))
    clear hrow nS c2 hbl
    go_wp2_with fail
    refine AR.out.mono ?_
    rintro _ wT ⟨er, Y, L', rfl, hnow, hask, hL', hpot⟩
    have HASK := qq hask; have HL' := qq hL'; have HPO := qq hpot
    clear AR hask hL' hpot
    have hk14 : Keeps (fun k => Fd k \/ FL k) wS wT := by obtain ⟨_, _, _, _, _, _, _, _, _, hk⟩ := hnow; exact hk
    have B2T := qq (hk14.at (KS.out.nb B24.out) (fun e => e.elim NOF.out.1.1.1 NOF.out.1.1.2))
    have B3T := qq (hk14.at (KS.out.nb B34.out) (fun e => e.elim NOF.out.1.2.1.1 NOF.out.1.2.1.2))
    have B8T := qq (hk14.at (KS.out.nb B8.out) (fun e => e.elim NOF.out.1.2.2.1 NOF.out.1.2.2.2))
    have HBT : Hid (Bytes wT (Out w Fd FL) (.slice va m vc) bs) := qq ((Bytes.keeps HB.out (KW.out.trans_nb KS.out) (fun _ _ e => e)).keeps hk14 (fun k hk e => e.elim hk.2.1 hk.2.2))
    have hnow1 := (hnow.from KS.out).from KW.out
    obtain ⟨Fd', Rd', FL', RL', g1, g2, g3, g4, g5, g6⟩ := hnow1
    obtain ⟨sv3, lv3, vs3, q1, q2, q3, q4⟩ := g1.ex
    have Q1 := qq q1; have HG1 := qq g1
    have HR := qq (And.intro g2 (And.intro g3 (And.intro g4 (And.intro g5 g6))))
    clear g1 g2 g3 g4 g5 g6 q1 q2 q3 q4 hk14 B24 B34 B64 B74 B8 c8 c7
    by_cases he : er = 0
    ·
     subst he
     have e2 : L' = L := by rw [HL'.out, if_pos rfl]
     subst e2
     have hor : Hid (askO [syO L'.seg, erO (turnE L'.name X), putO (snf L'.name (nx L'.name X + 1)) bs, mkO (sgf L'.name (nx L'.name X + 2)), manO L'.name (nx L'.name X + 1) (nx L'.name X + 2), sweepO L'.name (nx L'.name X + 1) (nx L'.name X + 2)] X 0 Y) := qq (by
      have e1 : nx L'.name X + 1 = s := HS1.out.symm
      have e2 : nx L'.name X + 2 = n := by have := HSN.out; omega
      rw [hte.out, e1, e2]; exact HASK.out)
     clear hnow
     go_wp2
     refine WT.region (fun u => u.cell? ⟨b2, 0, none⟩ = some (.pointer (some ⟨l, 0, none⟩)) /\ u.cell? ⟨b3, 0, none⟩ = some (.slice va m vc)) 15 18 [0, 1, 2, 3, 4, 5, 6, 7, 8, 9, 10, 11, 12, 13, 14, 15, 16, 17] (by kernel_rfl) rfl ?_
     have K0 : Hid (Keeps Nb wT wT.drew) := qq (Keeps.refl _ wT).drew
     have HS : Hid ((fun u : World => u.cell? ⟨b2, 0, none⟩ = some (.pointer (some ⟨l, 0, none⟩)) /\ u.cell? ⟨b3, 0, none⟩ = some (.slice va m vc)) wT.drew) := qq ⟨(cell_of_block (w := wT.drew) B2T.out).trans rfl, (cell_of_block (w := wT.drew) B3T.out).trans rfl⟩
     have CA := qq (z2y (.slice va m vc) bs _ wT.drew (HBT.out.keeps K0.out (fun _ _ e => e)) (by rw [HM.out]; unfold mxr at hmx; omega))
     refine WT.t 0 (v := .pointer (some ⟨l, 0, none⟩)) (y := by rintro w ⟨C1, C2⟩; exact zb (by kernel_rfl) (by rfl) C1) (s := HS.out) (h := ?_)
     refine WT.t 1 (v := .pointer (some ⟨l, 0, none⟩)) (y := by rintro w ⟨C1, C2⟩; exact zb (by kernel_rfl) (by rfl) C1) (s := HS.out) (h := ?_)
     refine WT.t 2 (v := .pointer (some ⟨l, 0, none⟩)) (y := by rintro w ⟨C1, C2⟩; exact zb (by kernel_rfl) (by rfl) C1) (s := HS.out) (h := ?_)
     refine WT.t 3 (v := .pointer (some ⟨l, 0, none⟩)) (y := by rintro w ⟨C1, C2⟩; exact zb (by kernel_rfl) (by rfl) C1) (s := HS.out) (h := ?_)
     refine WT.t 4 (v := .slice va m vc) (y := by rintro w ⟨C1, C2⟩; exact zb (by kernel_rfl) (by rfl) C2) (s := HS.out) (h := ?_)
     refine WT.call 5 (by simp only [qi]; rfl) (by kernel_rfl) (by rfl) (by go_simp; first | done | rfl | exact ⟨⟨rfl, rfl⟩, rfl⟩ | exact ⟨⟨rfl, rfl, rfl⟩, rfl⟩ | exact ⟨⟨rfl, rfl, rfl, rfl⟩, rfl⟩ | exact ⟨⟨rfl, rfl, rfl, rfl, rfl⟩, rfl⟩) CA.out ?_
     rintro _ wU ⟨cv, rfl, hco, kU⟩
     have KU : Hid (Keeps Nb wT wU) := qq (K0.out.trans_nb kU)
     have HCV : Hid (Bytes wU (fun k => (wT.heap.size <= k /\ k < wU.heap.size) /\ IsT wU 5 k) cv bs) := qq (z0f hco (by obtain ⟨_, _, _, _, _, _, hlt, _⟩ := HBT.out; exact hlt))
     obtain ⟨ca, cc, rfl, -⟩ := id HCV.out
     rw [HM.out] at HCV ⊢
     clear hco kU CA
     have B2U := qq (KU.out.nb B2T.out)
     have B3U := qq (KU.out.nb B3T.out)
     have B8U := qq (KU.out.nb B8T.out)
     have QU := qq (KU.out.nb Q1.out)
     replace HS : Hid ((fun u : World => u.cell? ⟨b2, 0, none⟩ = some (.pointer (some ⟨l, 0, none⟩)) /\ u.cell? ⟨b3, 0, none⟩ = some (.slice va m vc)) wU) := qq ⟨(cell_of_block B2U.out).trans rfl, (cell_of_block B3U.out).trans rfl⟩
     refine ⟨_, rfl, HS.out, ?_⟩
     simp only [Nat.reduceAdd, qn]
     refine WT.t 6 (v := _) (y := by rintro w ⟨C1, C2⟩; go_simp; with_reducible rfl) (s := HS.out) (h := ?_)
     refine WT.t 7 (v := _) (y := by rintro w ⟨C1, C2⟩; go_simp; with_reducible rfl) (s := HS.out) (h := ?_)
     refine WT.onlySkipE 8 (by simp only [qi]; rfl) (by kernel_rfl) (by rfl) (zc (v := .slice ca m cc) (n := 1) (by kernel_rfl) (by rfl) (by rfl) QU.out (by rfl) (by simp [Value.cells, lcs]) (by simp [Value.cells, Value.oneCell'])) ?_
     intro wa sa
     have B2a := qq (sa.k.at B2U.out NOF.out.2.2.2.1)
     have B3a := qq (sa.k.at B3U.out NOF.out.2.2.2.2.1)
     have B8a := qq (sa.k.at B8U.out NOF.out.2.2.2.2.2)
     replace HS : Hid ((fun u : World => u.cell? ⟨b2, 0, none⟩ = some (.pointer (some ⟨l, 0, none⟩)) /\ u.cell? ⟨b3, 0, none⟩ = some (.slice va m vc)) wa) := qq ⟨(cell_of_block B2a.out).trans rfl, (cell_of_block B3a.out).trans rfl⟩
     refine ⟨HS.out, ?_⟩
     simp only [Nat.reduceAdd, qn]
     refine WT.t 9 (v := _) (y := by rintro w ⟨C1, C2⟩; go_simp; with_reducible rfl) (s := HS.out) (h := ?_)
     refine WT.t 10 (v := _) (y := by rintro w ⟨C1, C2⟩; go_simp; with_reducible rfl) (s := HS.out) (h := ?_)
     refine WT.onlySkipE 11 (by simp only [qi]; rfl) (by kernel_rfl) (by rfl) (zc (v := .bool true) (n := 1) (by kernel_rfl) (by rfl) (by rfl) sa.blk (by rfl) (by simp [Value.cells, lcs, splice]) (by simp [Value.cells, Value.oneCell'])) ?_
     intro wb sb
     have B2b := qq (sb.k.at B2a.out NOF.out.2.2.2.1)
     have B3b := qq (sb.k.at B3a.out NOF.out.2.2.2.2.1)
     have B8b := qq (sb.k.at B8a.out NOF.out.2.2.2.2.2)
     replace HS : Hid ((fun u : World => u.cell? ⟨b2, 0, none⟩ = some (.pointer (some ⟨l, 0, none⟩)) /\ u.cell? ⟨b3, 0, none⟩ = some (.slice va m vc)) wb) := qq ⟨(cell_of_block B2b.out).trans rfl, (cell_of_block B3b.out).trans rfl⟩
     refine ⟨HS.out, ?_⟩
     simp only [Nat.reduceAdd, qn]
     refine WT.t 12 (v := _) (y := by rintro w ⟨C1, C2⟩; go_simp; with_reducible rfl) (s := HS.out) (h := ?_)
     refine WT.t 13 (v := _) (y := by rintro w ⟨C1, C2⟩; go_simp; with_reducible rfl) (s := HS.out) (h := ?_)
     refine WT.onlySkipE 14 (by simp only [qi]; rfl) (by kernel_rfl) (by rfl) (zc (v := .slice none 0 0) (n := 1) (by kernel_rfl) (by rfl) (by rfl) sb.blk (by rfl) (by simp [Value.cells, lcs, splice]) (by simp [Value.cells, Value.oneCell'])) ?_
     intro wc sc
     have B2c := qq (sc.k.at B2b.out NOF.out.2.2.2.1)
     have B3c := qq (sc.k.at B3b.out NOF.out.2.2.2.2.1)
     have B8c := qq (sc.k.at B8b.out NOF.out.2.2.2.2.2)
     replace HS : Hid ((fun u : World => u.cell? ⟨b2, 0, none⟩ = some (.pointer (some ⟨l, 0, none⟩)) /\ u.cell? ⟨b3, 0, none⟩ = some (.slice va m vc)) wc) := qq ⟨(cell_of_block B2c.out).trans rfl, (cell_of_block B3c.out).trans rfl⟩
     refine ⟨HS.out, ?_⟩
     simp only [Nat.reduceAdd, qn]
     refine WT.stop (by kernel_rfl) ?_
     refine WP.o 15 (v := _) (y := by go_simp; first | with_reducible rfl | exact ⟨rfl, rfl⟩) (h := ?_)
     refine WP.o 16 (v := _) (y := by go_simp; first | with_reducible rfl | exact ⟨rfl, rfl⟩) (h := ?_)
     refine WP.onlySkipE 17 (by simp only [qi]; rfl) (by kernel_rfl) (by rfl) (zc (v := .int .i64 0) (n := 1) (by kernel_rfl) (by rfl) (by rfl) sc.blk (by rfl) (by simp [Value.cells, lcs, splice]) (by simp [Value.cells, Value.oneCell'])) ?_
     intro wd sd
     simp only [Nat.reduceAdd, qn]
     refine WP.done (by kernel_rfl) ?_
     have B2d := qq (sd.k.at B2c.out NOF.out.2.2.2.1)
     have B8d := qq (sd.k.at B8c.out NOF.out.2.2.2.2.2)
     have SD : Hid (SetAt wU wd l (.cells (lcs d (.slice ca m cc) (.slice none 0 0) { L' with snap := bs, has := true, recs := [], synced := 0 }) 78 (0, 0))) := qq ⟨sd.blk, ((sa.k.trans sb.k (fun _ _ e => e)).trans sc.k (fun _ _ e => e)).trans sd.k (fun _ _ e => e)⟩
     clear sa sb sc sd HS B2a B3a B8a B2b B3b B8b B2c B3c B8c
     go_wp2
     refine WT.region (fun u => u.cell? ⟨b2, 0, none⟩ = some (.pointer (some ⟨l, 0, none⟩)) /\ u.cell? ⟨b8, 0, none⟩ = some (.int .i64 (n : Nat))) 15 18 [0, 1, 2, 3, 4, 5, 6, 7, 8, 9, 10, 11, 12, 13, 14, 15, 16, 17] (by kernel_rfl) rfl ?_
     have HS : Hid ((fun u : World => u.cell? ⟨b2, 0, none⟩ = some (.pointer (some ⟨l, 0, none⟩)) /\ u.cell? ⟨b8, 0, none⟩ = some (.int .i64 (n : Nat))) wd.drew) := qq ⟨(cell_of_block (w := wd.drew) B2d.out).trans rfl, (cell_of_block (w := wd.drew) B8d.out).trans rfl⟩
     refine WT.t 0 (v := .pointer (some ⟨l, 0, none⟩)) (y := by rintro w ⟨C1, C2⟩; exact zb (by kernel_rfl) (by rfl) C1) (s := HS.out) (h := ?_)
     refine WT.t 1 (v := .pointer (some ⟨l, 0, none⟩)) (y := by rintro w ⟨C1, C2⟩; exact zb (by kernel_rfl) (by rfl) C1) (s := HS.out) (h := ?_)
     refine WT.t 2 (v := .pointer (some ⟨l, 0, none⟩)) (y := by rintro w ⟨C1, C2⟩; exact zb (by kernel_rfl) (by rfl) C1) (s := HS.out) (h := ?_)
     refine WT.t 3 (v := .pointer (some ⟨l, 0, none⟩)) (y := by rintro w ⟨C1, C2⟩; exact zb (by kernel_rfl) (by rfl) C1) (s := HS.out) (h := ?_)
     refine WT.t 4 (v := .int .i64 (n : Nat)) (y := by rintro w ⟨C1, C2⟩; exact zb (by kernel_rfl) (by rfl) C2) (s := HS.out) (h := ?_)
     refine WT.t 5 (v := .int .i64 (n : Nat)) (y := by rintro w ⟨C1, C2⟩; exact zb (by kernel_rfl) (by rfl) C2) (s := HS.out) (h := ?_)
     refine WT.t 6 (v := _) (y := by rintro w ⟨C1, C2⟩; go_simp; with_reducible rfl) (s := HS.out) (h := ?_)
     refine WT.t 7 (v := _) (y := by rintro w ⟨C1, C2⟩; go_simp; with_reducible rfl) (s := HS.out) (h := ?_)
     refine WT.onlySkipE 8 (by simp only [qi]; rfl) (by kernel_rfl) (by rfl) (zc (w := wd.drew) (v := .int .i64 (n : Nat)) (n := 1) (by kernel_rfl) (by rfl) (by rfl) SD.out.blk (by rfl) (by simp [Value.cells, lcs, splice]) (by simp [Value.cells, Value.oneCell'])) ?_
     intro we swe
     have B2we := qq (swe.k.at (w := wd.drew) B2d.out NOF.out.2.2.2.1)
     have B8we := qq (swe.k.at (w := wd.drew) B8d.out NOF.out.2.2.2.2.2)
     replace HS : Hid ((fun u : World => u.cell? ⟨b2, 0, none⟩ = some (.pointer (some ⟨l, 0, none⟩)) /\ u.cell? ⟨b8, 0, none⟩ = some (.int .i64 (n : Nat))) we) := qq ⟨(cell_of_block B2we.out).trans rfl, (cell_of_block B8we.out).trans rfl⟩
     refine ⟨HS.out, ?_⟩
     simp only [Nat.reduceAdd, qn]
     refine WT.t 9 (v := _) (y := by rintro w ⟨C1, C2⟩; go_simp; with_reducible rfl) (s := HS.out) (h := ?_)
     refine WT.t 10 (v := _) (y := by rintro w ⟨C1, C2⟩; go_simp; with_reducible rfl) (s := HS.out) (h := ?_)
     refine WT.onlySkipE 11 (by simp only [qi]; rfl) (by kernel_rfl) (by rfl) (zc (v := .int .i64 (n : Nat)) (n := 1) (by kernel_rfl) (by rfl) (by rfl) swe.blk (by rfl) (by simp [Value.cells, lcs, splice]) (by simp [Value.cells, Value.oneCell'])) ?_
     intro wf swf
     have B2wf := qq (swf.k.at B2we.out NOF.out.2.2.2.1)
     have B8wf := qq (swf.k.at B8we.out NOF.out.2.2.2.2.2)
     replace HS : Hid ((fun u : World => u.cell? ⟨b2, 0, none⟩ = some (.pointer (some ⟨l, 0, none⟩)) /\ u.cell? ⟨b8, 0, none⟩ = some (.int .i64 (n : Nat))) wf) := qq ⟨(cell_of_block B2wf.out).trans rfl, (cell_of_block B8wf.out).trans rfl⟩
     refine ⟨HS.out, ?_⟩
     simp only [Nat.reduceAdd, qn]
     refine WT.t 12 (v := _) (y := by rintro w ⟨C1, C2⟩; go_simp; with_reducible rfl) (s := HS.out) (h := ?_)
     refine WT.t 13 (v := _) (y := by rintro w ⟨C1, C2⟩; go_simp; with_reducible rfl) (s := HS.out) (h := ?_)
     refine WT.onlySkipE 14 (by simp only [qi]; rfl) (by kernel_rfl) (by rfl) (zc (v := .int .i64 1) (n := 1) (by kernel_rfl) (by rfl) (by rfl) swf.blk (by rfl) (by simp [Value.cells, lcs, splice]) (by simp [Value.cells, Value.oneCell'])) ?_
     intro wg swg
     have B2wg := qq (swg.k.at B2wf.out NOF.out.2.2.2.1)
     have B8wg := qq (swg.k.at B8wf.out NOF.out.2.2.2.2.2)
     replace HS : Hid ((fun u : World => u.cell? ⟨b2, 0, none⟩ = some (.pointer (some ⟨l, 0, none⟩)) /\ u.cell? ⟨b8, 0, none⟩ = some (.int .i64 (n : Nat))) wg) := qq ⟨(cell_of_block B2wg.out).trans rfl, (cell_of_block B8wg.out).trans rfl⟩
     refine ⟨HS.out, ?_⟩
     simp only [Nat.reduceAdd, qn]
     refine WT.stop (by kernel_rfl) ?_
     refine WP.o 15 (v := _) (y := by go_simp; first | with_reducible rfl | exact ⟨rfl, rfl⟩) (h := ?_)
     refine WP.o 16 (v := _) (y := by go_simp; first | with_reducible rfl | exact ⟨rfl, rfl⟩) (h := ?_)
     refine WP.onlySkipE 17 (by simp only [qi]; rfl) (by kernel_rfl) (by rfl) (zc (v := .int .i64 0) (n := 1) (by kernel_rfl) (by rfl) (by rfl) swg.blk (by rfl) (by simp [Value.cells, lcs, splice]) (by simp [Value.cells, Value.oneCell'])) ?_
     intro wh swh
     simp only [Nat.reduceAdd, qn]
     refine WP.done (by kernel_rfl) ?_
     have SH : Hid (SetAt wU wh l (.cells (lcs d (.slice ca m cc) (.slice none 0 0) { L' with snap := bs, has := true, recs := [], synced := 0, first := n, segment := n, segments := 1, size := 0 }) 78 (0, 0))) := qq ⟨swh.blk, (((SD.out.k.drew.trans swe.k (fun _ _ e => e)).trans swf.k (fun _ _ e => e)).trans swg.k (fun _ _ e => e)).trans swh.k (fun _ _ e => e)⟩
     clear swe swf swg swh HS
     have hg : LgAt wh l d Fd' Rd' (fun k => FL' k \/ (wT.heap.size <= k /\ k < wU.heap.size /\ IsT wU 22 k)) (fun k => RL' k \/ (wT.heap.size <= k /\ k < wU.heap.size /\ IsT wU 5 k)) { L' with snap := bs, has := true, recs := [], synced := 0, first := n, segment := n, segments := 1, size := 0 } Y := by
      have hh := HG1.out.nums
      refine LgAt.put (w0 := wT) (vs := []) HG1.out KU.out.size (HG1.out.disk.nb KU.out) ⟨_, QU.out⟩ SH.out ?_ HG1.out.lt6 ⟨hh.name, hh.n16, hh.most, (by have := HN4.out; show n <= _; omega), (by have := HN4.out; show n <= _; omega), (by show 1 <= 1000000; omega), Nat.zero_le _, (fun b hb => by cases hb), Nat.zero_le _, (by show bs.length <= _; rw [HM.out]; exact hmx)⟩ ?_ (RowS.nil _ _ _ _ _) (.nil _ _)
      ·
       exact fun k e => e.elim (HG1.out.disk.ltF k) fun e => e.elim (HG1.out.disk.ltR k) fun e => e.elim (HG1.out.ltF k) (HG1.out.ltR k)
      ·
       exact HCV.out.mono fun k hk => .inr ⟨hk.1.1, hk.1.2, hk.2⟩
     have zU := KU.out.size
     have z1 : w.heap.size <= wT.heap.size := HR.out.2.2.2.2.size
     have F : Hid (LNow w wh l d Fd Rd FL RL { L' with snap := bs, has := true, recs := [], synced := 0, first := n, segment := n, segments := 1, size := 0 } Y) := qq (by
      obtain ⟨g2, g3, g4, g5, g6⟩ := HR.out
      exact ⟨Fd', Rd', _, _, hg, g2, g3, fun k e => e.elim (g4 k) (fun e => .inr (by omega)), fun k e => e.elim (g5 k) (fun e => .inr (by omega)), (g6.trans_nb KU.out).trans SH.out.k (fun j hj e => by
       have e : j = l := e
       subst e
       exact .inr H.out.fl)⟩)
     clear hg zU z1
     go_wp2
     go_ret
     refine ⟨0, _, Y, rfl, F.out, .inr ⟨by rw [HM.out]; exact HF0.out, hor.out, .inr ⟨rfl, ?_⟩⟩, by have := HPO.out; simpa using this⟩
     have e2 : nx L'.name X + 2 = n := by have := HSN.out; have := HS1.out; omega
     rw [e2]
    ·
     skip
     have he : er ≠ 0 := he
     have HE := qq he
     have e2 : L' = { L with bad := true } := by rw [HL'.out, if_neg he]
     subst e2
     have F : Hid (LNow w wT l d Fd Rd FL RL { L with bad := true } Y) := qq ((hnow.from KS.out).from KW.out)
     have t9 : (er != 0) = true := by simpa using he
     have hor : askO [syO L.seg, erO (turnE L.name X), putO (snf L.name (nx L.name X + 1)) bs, mkO (sgf L.name (nx L.name X + 2)), manO L.name (nx L.name X + 1) (nx L.name X + 2), sweepO L.name (nx L.name X + 1) (nx L.name X + 2)] X er Y := by have e1 : nx L.name X + 1 = s := HS1.out.symm; have e2 : nx L.name X + 2 = n := (by have := HSN.out; omega); rw [hte.out, e1, e2]; exact HASK.out
     have HO := qq hor
     clear he hor hnow
     go_wp2
     go_ret
     exact ⟨er, _, Y, rfl, F.out, .inr ⟨by rw [HM.out]; exact HF0.out, HO.out, .inl ⟨HE.out, rfl⟩⟩, by have := HPO.out; simpa using this⟩
  ·
   have t7 : (f == 0) = false := by simpa using hf0
   have K114 : Hid (Keeps Nb w1 w14) := qq (K112.out.trans_nb K1214.out)
   have HFN := qq hf0
   have hs4 : s <= 4294967295 := by omega
   have HS4 := qq hs4
   clear hf0 c8 hn31 hs4
   have KA : Hid (Keeps Nb w1 w14) := K114
   have HA := qq (H1.out.nb KA.out)
   have KW := qq (K1.out.trans_nb KA.out)
   have NOF : Hid (((¬ Fd b2 /\ ¬ FL b2) /\ (¬ Fd b3 /\ ¬ FL b3) /\ (¬ Fd b8 /\ ¬ FL b8)) /\ (¬ Fd b6 /\ ¬ FL b6) /\ (¬ Fd b7 /\ ¬ FL b7) /\ b2 ≠ l /\ b3 ≠ l /\ b8 ≠ l) := qq (by
    have h1 := G2.out; have h2 := G6.out; have h4 := G8.out; have h3 := H.out.ltF l H.out.fl; have h5 := K112.out.size
    exact ⟨⟨zr H.out (by omega), zr H.out (by omega), zr H.out (by omega)⟩, zr H.out (by omega), zr H.out (by omega), by omega, by omega, by omega⟩)
   have hP : TuP l s n b2 b3 b6 b7 b8 f (.slice va m vc) bs w14 Fd FL := ⟨⟨B24.out, NOF.out.1.1⟩, ⟨B64.out, NOF.out.2.1⟩, ⟨B8.out, NOF.out.1.2.2⟩, ⟨B74.out, NOF.out.2.2.1⟩, ⟨⟨B34.out, NOF.out.1.2.1⟩, (Bytes.keeps HB.out KW.out (fun _ _ e => e)).mono (fun k hk => ⟨Nat.lt_of_lt_of_le hk.1 KW.out.size, hk.2⟩)⟩⟩
   have HP2 := qq hP
   have c2 : w14.cell? ⟨b2, 0, none⟩ = some (.pointer (some ⟨l, 0, none⟩)) := (cell_of_block B24.out).trans rfl
   clear hP
   go_wp2_with (first | go_skip | (with_reducible refine qv (by decide) ?_))
   refine za (zi rfl (zl el138 ((tuF b2 b3 b6 b7 b8).map Fv.v) rfl (by simp [List.range'_succ]; first | done | rfl | exact ⟨rfl, rfl⟩ | exact ⟨rfl, rfl, rfl⟩ | exact ⟨rfl, rfl, rfl, rfl⟩ | exact ⟨rfl, rfl, rfl, rfl, rfl⟩ | exact ⟨rfl, rfl, rfl, rfl, rfl, rfl⟩) (by simp [Value.cells, tuF, Fv.v]) (by simp [tuF])) ?_)
   rintro _ wS ⟨b20, rfl, nS⟩
   simp only [Nat.reduceAdd, qn]
   have hrow : Has wS (some ⟨b20, 0, none⟩) ((tuF b2 b3 b6 b7 b8).map Fv.v) := zm nS.blk
   have KS := qq nS.k
   have hbl : bs.length <= mxr := by rw [HM.out]; exact hmx
   have AR := qq (z16 (n := 6) (z1i l s n b2 b3 b6 b7 b8 f (.slice va m vc) bs) (tu_l l d s n b2 b3 b6 b7 b8 f L va m vc bs (by have := HS4.out; omega) (by have := HS4.out; have := HSN.out; omega) hbl) (HA.out.nb nS.k) ((HV1.out.nb KA.out).nb nS.k) (z1i l s n b2 b3 b6 b7 b8 f (.slice va m vc) bs _ _ _ _ _ _ HP2.out nS.k.of_nb (fun _ _ e => e) (fun _ _ e => e)) rfl (by omega) (by have := HP.out; simpa using this) hrow (zr HA.out nS.ge))
   clear hrow nS c2 hbl
   go_wp2_with fail
   refine AR.out.mono ?_
   rintro _ wT ⟨er, Y, L', rfl, hnow, hask, hL', hpot⟩
   have HASK := qq hask; have HL' := qq hL'; have HPO := qq hpot
   clear AR hask hL' hpot
   have hte : Hid (turnE L.name X = f) := qq (by
    have h1 := HF.out
    have h5 : f = 5 := HNX.out.2.2.resolve_left HFN.out
    rw [h5] at h1 ⊢
    unfold nxE at h1
    split at h1
    ·
     unfold turnE; rw [if_pos (by omega)]
    ·
     cases h1)
   have he : er ≠ 0 := (z1t (l' := []) HFN.out HASK.out).2
   have HE := qq he
   have e2 : L' = { L with bad := true } := by rw [HL'.out, if_neg he]
   subst e2
   have F : Hid (LNow w wT l d Fd Rd FL RL { L with bad := true } Y) := qq ((hnow.from KS.out).from KW.out)
   have t9 : (er != 0) = true := by simpa using he
   have hor : askO [syO L.seg, erO (turnE L.name X), putO (snf L.name (nx L.name X + 1)) bs, mkO (sgf L.name (nx L.name X + 2)), manO L.name (nx L.name X + 1) (nx L.name X + 2), sweepO L.name (nx L.name X + 1) (nx L.name X + 2)] X er Y := by rw [hte.out]; exact (z1t HFN.out HASK.out).1
   have HO := qq hor
   clear he hor hnow
   go_wp2
   go_ret
   exact ⟨er, _, Y, rfl, F.out, .inr ⟨by rw [HM.out]; exact HF0.out, HO.out, .inl ⟨HE.out, rfl⟩⟩, by have := HPO.out; simpa using this⟩
 ·
  have t9 : (f0 != 0) = true := by simpa using h0
  have HE := qq h0
  have F : Hid (LNow w w1 l d Fd Rd FL RL L X) := qq (LNow.of H1.out K1.out)
  clear h0 c2 c3
  go_wp2
  go_ret
  exact ⟨f0, L, X, rfl, F.out, .inl ⟨by rw [HM.out, HF0.out]; exact HE.out, by rw [HM.out]; exact HF0.out.symm, rfl, rfl⟩, by omega⟩
end Go.Proofs.YtpjomdmjohjheaaGreatDoor
end
section
namespace Go.Proofs.YtpjomdmjohjheaaGreatDoor
open Go.RowKit Go.Lk Go.Vfs Go.Log
def RecsAt (w : World) (R : Nat -> Prop) (g : Nat) (rs : List (List Nat)) : Prop :=
 ∃ lv vs, w.heap[g]? = some (.cells #[lv] 27 (0, 0)) /\ RowS w R (fun _ => False) 22 1 lv rs.length vs /\ BytesL w R vs rs /\ R g
theorem RecsAt.keeps {w w' : World} {R S : Nat -> Prop} {g : Nat} {rs : List (List Nat)} (h : RecsAt w R g rs) (hk : Keeps S w w') (hn : ∀ k, R k -> ¬ S k) : RecsAt w' R g rs := by
 obtain ⟨lv, vs, h1, h2, h3, h4⟩ := h
 exact ⟨lv, vs, hk.at h1 (hn g h4), h2.keeps hk (fun k hk _ => hk.elim (hn k) (fun e => e.elim)), h3.keeps hk hn, h4⟩
theorem z6n (l d : Nat) (Fd Rd FL RL : Nat -> Prop) (L : Lg) (X : Ds) (w : World) (h : LgAt w l d Fd Rd FL RL L X) :
  Calls Tryz.prog 97 #[.pointer (some ⟨l, 0, none⟩)] w fun e w' => ∃ g, e = .returned (.func (.func 137) #[] #[.pointer (some ⟨g, 0, none⟩)]) /\ w.heap.size <= g /\ g < w'.heap.size /\ RecsAt w' (fun k => FL k \/ RL k \/ k = g) g L.recs /\ Keeps Nb w w' := by
 have H := qq h
 clear h
 go_enter Tryz.func97, Tryz.ntmps97
 go_wp2_with (first | go_skip | (with_reducible refine qv (by decide) ?_))
 refine za (valloc (z := .slice none 0 0) (by kernel_rfl) ?_)
 intro g w1 n1
 simp only [Nat.reduceAdd, qn]
 have H1 := H.out.nb n1.k
 obtain ⟨sv, lv, vs, q1, q2, q3, q4⟩ := H1.ex
 have Q1 := qq q1; have Q3 := qq q3; have Q4 := qq q4
 have TH := qq (z6v ((cell_of_block q1).trans rfl))
 have c9 : w1.cell? ⟨l, 9, none⟩ = some lv := (cell_of_block q1).trans rfl
 have hgl : g ≠ l := fun e => by have := H.out.ltF l H.out.fl; have := n1.ge; omega
 obtain ⟨-, -, la, lc, rfl, -⟩ := id q3
 clear q1 q2 q3 q4 H1
 go_wp2_with fail
 refine TH.out.mono ?_
 rintro _ _ ⟨rfl, rfl⟩
 clear TH
 go_wp2_with (first | go_skip | (with_reducible refine qv (by decide) ?_))
 refine za (zd rfl (zc (v := .slice la L.recs.length lc) (n := 1) (by kernel_rfl) (by rfl) (by rfl) n1.blk (by rfl) (by simp [Value.cells]) (by simp [Value.cells, Value.oneCell'])) ?_)
 intro w2 s2
 simp only [Nat.reduceAdd, qn]
 have F : Hid (w.heap.size <= g /\ g < w2.heap.size /\ RecsAt w2 (fun k => FL k \/ RL k \/ k = g) g L.recs /\ Keeps Nb w w2) := qq (by
  have hg := n1.ge
  have h1 := H.out.ltF; have h2 := H.out.ltR
  refine ⟨hg, lt_of_block s2.blk, ⟨_, vs, s2.blk, (Q3.out.keeps s2.k (fun k hk _ e => ?_)).mono (fun k e => .inl e) (fun k e => e.elim), (Q4.out.keeps s2.k (fun k hk e => ?_)).mono (fun k e => .inr (.inl e)), .inr (.inr rfl)⟩, n1.k.own (k := g) hg s2.k⟩
  ·
   have e : k = g := e
   subst e
   exact hk.elim (fun hk => by have := h1 k hk; omega) (fun e => e.elim)
  ·
   have e : k = g := e
   subst e
   have := h2 k hk; omega)
 clear n1 s2 c9
 go_wp2
 go_ret
 exact ⟨g, rfl, F.out⟩
attribute [local go_sem] Oper.semAt_some
def HandB (w : World) (rs : List (List Nat)) (i : Nat) (args : Array Value) (W : World) : Prop :=
 ∃ x v, rs[i]? = some x /\ args = #[v] /\ W.ownsRow (w.heap.size + 2) 5 1 v x.length (x.map fun z => .int .u8 (z : Nat))
theorem z81 (n : Nat) (hn : 1 <= n) (g : Nat) (R S : Nat -> Prop) (rs : List (List Nat)) (w : World) (h : RecsAt w R g rs) (hR : Recs rs) (hS : ∀ k, R k -> ¬ S k) :
  Iter Tryz.prog n 137 #[.pointer (some ⟨g, 0, none⟩)] rs.length (HandB w rs) S w := by
 intro l J Jx W kW hW2 hJ hJx hY h0
 have HA := qq (h.keeps kW (fun _ _ e => e))
 have HKW := qq kW
 have HJ := qq hJ; have HJX := qq hJx; have HY := qq hY; have H0 := qq h0; have HS := qq hS; have HRR := qq hR
 obtain ⟨m, hm⟩ : ∃ m, rs.length = m := ⟨_, rfl⟩
 have HM := qq hm
 obtain ⟨lv, vs, q1, q2, q3, q4⟩ := HA.out
 obtain ⟨-, -, la, lc, rfl, hlc, hlm, hh, hin, -⟩ := id q2
 rw [hm] at hlc hY q1 q2 ⊢
 unfold maxLen at hlm
 have HH := qq hh; have HIN := qq hin; have HB := qq q3
 have c0 : W.cell? ⟨g, 0, none⟩ = some (.slice la m lc) := (cell_of_block q1).trans rfl
 clear h hJ hJx hY h0 hS hR q1 q2 q3 hh hin kW
 refine callsIn_of_wp Tryz.func137 rfl trivial ?_ rfl
 simp only [Tryz.ntmps137, List.size_toArray, List.length_cons, List.length_nil, Nat.reduceAdd, Nat.reduceSub, Array.replicate_succ, Array.replicate_zero, List.push_toArray, List.append_toArray, List.nil_append, List.cons_append]
 gi_wp2
 clear c0
 gi_loopw [7] (fun i wr => ∃ k : Nat, k <= m /\ i = .int .i64 k /\ J k wr /\ Keeps S W wr) (fun i _ => m - (intOf i).toNat)
 case atStart => exact ⟨0, Nat.zero_le _, rfl, H0.out, Keeps.refl _ _⟩
 case round =>
  obtain ⟨k, hk, rfl, hj, kw⟩ := hrel
  by_cases hlt : k < m
  ·
   have i1 : (k : Int) < (m : Int) := by omega
   obtain ⟨x, hx⟩ : ∃ x, rs[k]? = some x := ⟨_, List.getElem?_eq_getElem (by rw [HM.out]; exact hlt)⟩
   obtain ⟨v, hv⟩ : ∃ v, vs[k]? = some v := ⟨_, List.getElem?_eq_getElem (by rw [HB.out.1, HM.out]; exact hlt)⟩
   have hxr := HRR.out x (List.mem_of_getElem? hx)
   have hbv := HB.out.2 k v x hv hx
   obtain ⟨b1, o1, rfl, c1⟩ : ∃ b off, la = some ⟨b, off, none⟩ /\ wr.cell? ⟨b, off + k, none⟩ = some v := by
    have hne : vs ≠ [] := by rintro rfl; cases hv
    rcases HH.out with h | ⟨b, off, rfl, hc⟩
    ·
     exact absurd h hne
    ·
     have hRb := (HIN.out b off rfl hne).1
     have hc1 := hc k v hv
     exact ⟨b, off, rfl, (kw.cell (lt_of_cell hc1) (HS.out b (hRb.elim id (fun e => e.elim)))).trans hc1⟩
   have HBV := qq (hbv.keeps kw HS.out)
   obtain ⟨va, vc, rfl, -⟩ := id hbv
   have CA := qq (z2y (.slice va x.length vc) x R wr HBV.out (by have := hxr.1; unfold mxr at this; omega))
   have HX := qq hx; have HJJ := qq hj; have KW := qq kw
   clear hx hv hbv hxr hj kw
   repeat (first | (with_reducible refine zg ?_) | (with_reducible refine stop_range ?_) | gi_step)
   refine za (wpIn_wide.2 ?_)
   go_wp2
   repeat (first | (with_reducible refine zg ?_) | (with_reducible refine stop_range ?_) | gi_step)
   refine za ?_
   gi_wp2_with fail
   refine ⟨trivial, (callsIn_wide.2 CA.out).mono ?_⟩
   rintro _ w6 ⟨v', rfl, hown, k6⟩
   have q7 : Keeps Nb wr w6 := k6
   have hown7 : w6.ownsRow (w.heap.size + 2) 5 1 v' x.length (x.map fun z => .int .u8 (z : Nat)) := z3f hown (by have := KW.out.size; have := HKW.out.size; omega)
   obtain ⟨fn, tmps, assign, body, hy, hR⟩ := HY.out k #[v'] w6 (HJ.out _ _ _ HJJ.out q7) (by rw [HM.out]; exact hlt) ⟨x, v', HX.out, rfl, hown7⟩
   have HR := qq hR
   have K6 := qq q7
   clear CA hown hown7 hR k6 q7 c1
   gi_wp2
   refine HR.out.mono ?_
   rintro e W3 (⟨rfl, hJ3, hk3⟩ | ⟨rfl, hJx3⟩)
   ·
    have KF : Hid (Keeps S W W3) := qq ((KW.out.trans_nb K6.out).trans hk3 (fun i _ e => e))
    have HF := qq hJ3
    clear hJ3 hk3
    gi_wp2
    go_roundw
    case rel => exact ⟨k + 1, by omega, by go_num, HF.out, KF.out⟩
    case measure => simp [intOf]; omega
   ·
    have HF := qq hJx3
    clear hJx3
    gi_wp2
    refine bodyPost_ret (results_none rfl _ _ _) rfl ?_
    exact ⟨⟨_, rfl⟩, .inr HF.out⟩
  ·
   have hkl : k = m := by omega
   subst hkl
   have HF := qq hj
   clear hj
   gi_wp2
   go_end0
   exact ⟨⟨_, rfl⟩, .inl HF.out⟩
def GaI (w0 : World) (g3 : Nat) (rs : List (List Nat)) (i : Nat) (W : World) : Prop :=
 ∃ lv vs, W.heap[g3]? = some (.cells #[lv] 27 (0, 0)) /\ RowS W (fun b => w0.heap.size + 2 <= b /\ b < W.heap.size) (fun _ => False) 22 1 lv i vs /\ BytesL W (fun b => (w0.heap.size + 2 <= b /\ b < W.heap.size) /\ IsT W 5 b) vs (rs.take i) /\ Keeps (fun b => w0.heap.size <= b \/ b = g3) w0 W
theorem GaI.nb {w0 W W' : World} {g3 i : Nat} {rs : List (List Nat)} (h : GaI w0 g3 rs i W) (k : Keeps (Book w0) W W') (h3 : g3 < w0.heap.size) : GaI w0 g3 rs i W' := by
 obtain ⟨lv, vs, e1, e4, e5, e7⟩ := h
 have kz := k.size
 have nb : ∀ {b : Nat}, w0.heap.size + 2 <= b -> ¬ Book w0 b := fun h e => by unfold Book at e; omega
 have nl : ∀ {b : Nat}, b < w0.heap.size -> ¬ Book w0 b := fun h e => by unfold Book at e; omega
 exact ⟨lv, vs, k.at e1 (nl h3), (e4.keeps k (fun b hb _ => nb (hb.elim (fun h => h.1) (fun h => h.elim)))).mono (fun b hb => ⟨hb.1, by omega⟩) (fun _ h => h), (e5.keeps k (fun b hb => nb hb.1.1)).mono (fun b hb => ⟨⟨hb.1.1, by have := hb.1.2; omega⟩, hb.2.keeps k (nb hb.1.1)⟩), e7.trans k (fun j hj e => by unfold Book at e; omega)⟩
def GotD (w : World) (rs : List (List Nat)) (e : Ending) (w' : World) : Prop :=
 ∃ lv vs, e = .returned lv /\ RowS w' (Since w w') (fun _ => False) 22 1 lv rs.length vs /\ BytesL w' (SinceB w w') vs rs /\ Keeps Nb w w'
theorem zcq (l d : Nat) (Fd Rd FL RL : Nat -> Prop) (L : Lg) (X : Ds) (w : World) (h : LgAt w l d Fd Rd FL RL L X) :
  Calls Tryz.prog 35 #[.pointer (some ⟨l, 0, none⟩)] w (GotD w L.recs) := by
 have H := qq h
 have q61 : ∀ (w : World) (fn : Fn) (a b : Array Value), (binOp .eql 122 (.func fn a b) .nilFunc).run Tryz.prog w = .ok (.bool false) w := fun w fn a b => by first | rfl | kernel_rfl
 clear h
 refine z17 Tryz.func35 rfl ?_
 simp only [Tryz.ntmps35, List.size_toArray, List.length_cons, List.length_nil, Nat.reduceAdd, Nat.reduceSub, Array.replicate_succ, Array.replicate_zero, List.push_toArray, List.append_toArray, List.nil_append, List.cons_append]
 go_wp2_with (first | go_skip | (with_reducible refine qv (by decide) ?_))
 refine za (valloc (z := .slice none 0 0) (by kernel_rfl) ?_)
 intro g3 w1 n1
 simp only [Nat.reduceAdd, qn]
 have B3 := qq n1.blk
 have K1 := qq n1.k
 have G3 : Hid (w.heap.size <= g3) := qq n1.ge
 have RA := qq (z6n l d Fd Rd FL RL L X w1 (H.out.nb n1.k))
 clear n1
 go_wp2_with fail
 refine RA.out.mono ?_
 rintro _ w6 ⟨g, rfl, hg1, hg2, hra, k6⟩
 have K6 := qq (K1.out.trans_nb k6)
 have hz := k6.size
 have L3 : g3 < w1.heap.size := lt_of_block B3.out
 have hrs := H.out.nums.recs
 have hrn := H.out.nums.nrec
 have W6 : Hid (GaI w6 g3 L.recs 0 w6) := qq ⟨_, [], k6.nb B3.out, RowS.nil _ _ _ _ _, BytesL.nil _ _, Keeps.refl _ _⟩
 have hlt1 := H.out.ltF
 have hlt2 := H.out.ltR
 have OI := qq (z81 8 (by omega) g _ (fun b => w6.heap.size <= b \/ b = g3) L.recs w6 hra hrs (fun k hk e => by
  have z1 := K1.out.size
  have h3 := G3.out
  rcases hk with hk | hk | hk
  ·
   have := hlt1 k hk; omega
  ·
   have := hlt2 k hk; omega
  ·
   omega))
 have HRN := qq hrn; have HRS := qq hrs
 clear hra k6 RA hrs hrn hlt1 hlt2
 go_wp2_with (with_reducible refine z0v ?_)
 refine za ((wpIn_wide (n := 9)).1 ?_)
 refine z1k (gf := 137) (lb := #[.pointer (some ⟨g, 0, none⟩)]) (by rfl) (enters_of Tryz.func137 (by kernel_rfl) rfl) OI.out
  (fun b hb => .inl (by unfold Book at hb; omega)) (fun i args W h => by obtain ⟨x, v, -, rfl, -⟩ := h; rfl)
  (fun i W => GaI w6 g3 L.recs i W) (fun _ _ => False)
  (fun i A B h k => h.nb k (by omega)) (fun c A B h => h.elim) W6.out ?round ?done (fun _ _ h => h.elim)
 case round =>
  rintro lm i args W rfl hW2 hI hi ⟨x, v, hp, rfl, hv⟩
  simp only [List.zip_toArray, List.zip_cons_cons, List.zip_nil_right, List.foldl_toArray, List.foldl_cons, List.foldl_nil, List.setIfInBounds_toArray, List.set_cons_succ, List.set_cons_zero]
  have hx := HRS.out x (List.mem_of_getElem? hp)
  have HIH := qq hI; have HP := qq hp; have HV := qq (z0f hv hx.2)
  clear hI hp hv hx
  repeat (first | (with_reducible refine zg ?_) | (with_reducible refine stop_range ?_) | gi_step)
  refine za (zh (by kernel_rfl) (by rintro ⟨_, _, h⟩; exact h) ?_)
  go_wp2
  refine ⟨Keeps.refl _ _, fun W3 k3 => ?_⟩
  have kB : Keeps (Book w6) W W3 := k3.mono (fun i _ e => .inr e)
  obtain ⟨lv, vs, e1, e4, e5, e7⟩ := HIH.out.nb kB (by omega)
  obtain ⟨av, cv, rfl, hv1⟩ := HV.out
  have HV3 : Hid (Bytes W3 (fun k => (w6.heap.size + 2 <= k /\ k < W3.heap.size) /\ IsT W3 5 k) (.slice av x.length cv) x) := qq ((HV.out.keeps kB (fun k hk e => by unfold Book at e; have := hk.1; omega)).mono (fun k hk => ⟨⟨hk.1.1, by have := hk.1.2; have := k3.size; omega⟩, hk.2.keeps kB (fun e => by unfold Book at e; have := hk.1; omega)⟩))
  have E1 := qq e1; have E4 := qq e4; have E5 := qq e5; have E7 := qq e7
  have hWz : w6.heap.size + 2 <= W3.heap.size := by have := k3.size; omega
  have c5 : W3.cell? ⟨g3, 0, none⟩ = some lv := (cell_of_block e1).trans rfl
  obtain ⟨-, -, lva0, lvc0, rfl, -⟩ := id e4
  clear e1 e4 e5 e7 hv1 kB k3 HIH
  repeat (first | (with_reducible refine zg ?_) | (with_reducible refine stop_range ?_) | gi_step)
  refine za (zh (by kernel_rfl) (by rintro ⟨_, _, h⟩; exact h) ?_)
  go_wp2_with (first | go_skip | (with_reducible refine qv (by decide) ?_))
  refine za (zi rfl (zl el27 [.slice av x.length cv] rfl (by simp [List.range'_succ]; first | done | rfl | exact ⟨rfl, rfl⟩ | exact ⟨rfl, rfl, rfl⟩ | exact ⟨rfl, rfl, rfl, rfl⟩ | exact ⟨rfl, rfl, rfl, rfl, rfl⟩ | exact ⟨rfl, rfl, rfl, rfl, rfl, rfl⟩) (by simp [Value.cells]) (by simp)) ?_)
  rintro _ W5 ⟨g8, rfl, n8⟩
  simp only [Nat.reduceAdd, qn]
  have HR5 : Hid (RowS W5 (fun b => w6.heap.size + 2 <= b /\ b < W5.heap.size) (fun _ => False) 22 1 (.slice lva0 i lvc0) i vs) :=
   qq ((E4.out.keeps n8.k (fun _ _ _ e => e)).mono (fun k hk => ⟨hk.1, by have := hk.2; have := n8.k.size; omega⟩) (fun _ h => h))
  have HH8' : Hid (Has W5 (some ⟨g8, 0, none⟩) [.slice av x.length cv]) := qq (zm n8.blk)
  have K5' := qq n8.k
  have hi4 : i < 4000000000000 := Nat.lt_of_lt_of_le hi HRN.out
  clear n8 c5
  go_wp2_with (first | go_skip | (with_reducible refine qv (by decide) ?_))
  refine za (zi rfl (z1n el27 HR5.out (by rfl) (by rfl) HH8'.out rfl (by intro u hu; rw [List.mem_singleton.1 hu]; rfl) (by omega) (by unfold maxLen; omega) (by omega)) ?_)
  rintro lv' W6 ⟨hr6, S6, k6, hS6⟩
  simp only [Nat.reduceAdd, qn]
  obtain ⟨hx1, hx2, lva, lvc, rfl, hx3⟩ := id hr6
  have b56 : W6.heap[g3]? = some (.cells #[.slice lva0 i lvc0] 27 (0, 0)) := k6.at (K5'.out.nb E1.out) (fun e => by have := (hS6 _ e).1.1; omega)
  have q6 : Keeps (fun b => w6.heap.size + 2 <= b) W3 W6 := (K5'.out.of_nb).trans k6 (fun j _ e => (hS6 j e).1.1)
  have tr : ∀ k, (w6.heap.size + 2 <= k /\ k < W3.heap.size) /\ IsT W3 5 k -> (¬ S6 k) /\ ((w6.heap.size + 2 <= k /\ k < W6.heap.size) /\ IsT W6 5 k) := fun k hk => by
   have t5 : IsT W5 5 k := hk.2.keeps K5'.out (fun e => e)
   have hn : ¬ S6 k := fun e => t5.ne (hS6 k e).2 (by decide) rfl
   exact ⟨hn, ⟨hk.1.1, by have := hk.1.2; have := K5'.out.size; have := k6.size; omega⟩, t5.keeps k6 hn⟩
  have hbl : BytesL W6 (fun b => (w6.heap.size + 2 <= b /\ b < W6.heap.size) /\ IsT W6 5 b) (vs ++ [.slice av x.length cv]) (L.recs.take (i + 1)) := by
   have kk : Keeps S6 W3 W6 := (K5'.out.of_nb).trans k6 (fun j _ e => e)
   rw [List.take_succ_eq_append_getElem (List.getElem?_eq_some_iff.1 HP.out).1, (List.getElem?_eq_some_iff.1 HP.out).2]
   exact ((E5.out.keeps kk (fun k hk => (tr k hk).1)).mono (fun k hk => (tr k hk).2)).append (.cons ((HV3.out.keeps kk (fun k hk => (tr k hk).1)).mono (fun k hk => (tr k hk).2)) (.nil _ _))
  go_wp2_with (first | go_skip | (with_reducible refine qv (by decide) ?_))
  refine za (zd rfl (zc (v := .slice lva (i + 1) lvc) (n := 1) (by kernel_rfl) (by rfl) (by rfl) b56 (by rfl) (by simp [Value.cells]) (by simp [Value.cells, Value.oneCell'])) ?_)
  intro W7 s7
  simp only [Nat.reduceAdd, qn]
  have kf : Keeps (fun b => (w6.heap.size <= b \/ b = g3) /\ ¬ Book w6 b) W3 W7 := (q6.mono (S' := fun b => (w6.heap.size <= b \/ b = g3) /\ ¬ Book w6 b) (fun j _ e => by unfold Book; omega)).trans s7.k (fun j _ e => by unfold Book; omega)
  have hI' : GaI w6 g3 L.recs (i + 1) W7 := by
   have hgn : ∀ k, w6.heap.size + 2 <= k -> ¬ k = g3 := fun k hk e => by omega
   refine ⟨.slice lva (i + 1) lvc, vs ++ [.slice av x.length cv], s7.blk, ?_, ?_, E7.out.trans kf (fun j _ e => e.1)⟩
   ·
    refine (hr6.keeps s7.k (fun k hk _ e => ?_)).mono (fun k hk => ?_) (fun _ h => h)
    ·
     rcases hk with (h | h) | h
     ·
      exact hgn k h.1 e
     ·
      have := K5'.out.size; exact hgn k (by omega) e
     ·
      exact h
    ·
     have z7 := s7.k.size
     rcases hk with h | h
     ·
      have := h.2; have := k6.size; exact ⟨h.1, by omega⟩
     ·
      have := K5'.out.size; exact ⟨by omega, by omega⟩
   ·
    exact (hbl.keeps s7.k (fun k hk e => hgn k hk.1.1 e)).mono (fun k hk => ⟨⟨hk.1.1, by have := hk.1.2; have := s7.k.size; omega⟩, hk.2.keeps s7.k (fun e => hgn k hk.1.1 e)⟩)
  refine wpList_nil ?_
  exact ⟨kf, hI'⟩
 case done =>
  intro W hI hD
  obtain ⟨lv, vs, e1, e4, e5, e7⟩ := hI
  rw [List.take_length] at e5
  have HD := qq hD
  have E4 := qq e4; have E5 := qq e5; have E7 := qq e7
  have c3 : W.cell? ⟨g3, 0, none⟩ = some lv := (cell_of_block e1).trans rfl
  obtain ⟨-, -, la, lc, rfl, -⟩ := id e4
  clear e1 e4 e5 e7 hD
  go_wp2
  have kp := zw W w6.heap.size (.deferred none)
  have z6 := K6.out.size; have g3w := G3.out; have ze := E7.out.size; have zp := kp.size
  refine ⟨by simp, .inl ⟨_, _, rfl, run_takeDeferred (show W.heap[w6.heap.size]? = _ from HD.out), ?_⟩⟩
  refine ⟨.slice la L.recs.length lc, by simp [results, Tryz.f35, go_sem], _, vs, rfl, ?_, ?_, ?_⟩
  ·
   exact (E4.out.keeps kp (fun k hk _ e => by have := hk.elim (fun h => h.1) (fun h => h.elim); omega)).mono (fun k hk => ⟨by have := hk.1; omega, by have := hk.2; omega⟩) (fun _ h => h)
  ·
   exact (E5.out.keeps kp (fun k hk e => by have := hk.1; omega)).mono (fun k hk => ⟨⟨by have := hk.1; omega, by have := hk.1; omega⟩, hk.2.keeps kp (fun e => by have := hk.1; omega)⟩)
  ·
   exact (K6.out.trans E7.out (fun j hj e => by omega)).trans kp (fun j hj e => by omega)
end Go.Proofs.YtpjomdmjohjheaaGreatDoor
end
section
namespace Go.Vfs
open Go.Lk Go.RowKit
def bstr (l : List Nat) : ByteArray := strOfNums (l.map fun x : Nat => (x : Int))
theorem z3t {P : Program} {w : World} {dst : Option Tmp} {x : Operand} {src t e ty : TypeId} {pos : String} {aft : Array Edge} {gd : Option (Nat × Bool)} {a : Act} {ad : Option Addr} {n c : Nat} {l : List Nat} (hs : P.underlying src = some (.slice e)) (he : P.underlying e = some (.int .u8)) (hd : P.underlying t = some .string)
  (hx : a.eval x = .slice ad n c) (hh : Has w ad (l.map fun x => Value.int .u8 (x : Nat))) (hl : l.length = n) : (execOp a.eval ⟨dst, .convert src t x, ty, pos, aft, gd⟩).run P w = .ok (.value (.string (bstr l))) w := by
 unfold execOp
 rcases hh with h | ⟨b, off, rfl, hc⟩
 ·
  have h0 : l = [] := List.map_eq_nil_iff.1 h
  subst h0
  simp at hl; subst hl
  cases ad with
  | none => simp only [hx, Sem.run_bind, run_convert_bytes_nil w src e hs he 0 c t hd, Result.andThen_ok, Sem.run_pure]; rfl
  | some ad =>
   have hz : (convert src t (.slice (some ad) 0 c)).run P w = .ok (.string (bstr [])) w := by
    rw [run_convert_bytes_string w src t e _ 0 c hs he hd, run_bytesToString w ad 0 c [] (by simpa using run_loadCells_list (P := P) w ad [] (by simp))]
    rfl
   simp only [hx, Sem.run_bind, hz, Result.andThen_ok, Sem.run_pure]
 ·
  have := run_convert_bytes_arg w src e hs he b off n c (l.map fun x : Nat => (x : Int)) (by simpa using hl) (fun i hi => by
   have h1 := hc i (.int .u8 (ntn l i : Nat)) (by rw [List.getElem?_map, List.getElem?_eq_getElem (by omega), z15 (by omega)]; rfl)
   rw [h1]
   simp [ntn, List.getD_eq_getElem?_getD, List.getElem?_eq_getElem (show i < l.length by omega)]) t hd
  simp only [hx, Sem.run_bind, this, Result.andThen_ok, Sem.run_pure]; rfl
end Go.Vfs
namespace Go.Proofs.YtpjomdmjohjheaaGreatDoor
open Go.RowKit Go.Lk Go.Vfs Go.Log
attribute [local go_sem] Oper.semAt_some
def Bts (w : World) (g n : Nat) : Prop := ∃ cur : Array Value, w.heap[g]? = some (.cells cur 5 (0, 0)) /\ n <= cur.size /\ ∀ i, i < n -> ∃ z : Int, cur[i]? = some (.int .u8 z)
theorem Bts.set {w w' : World} {g n k : Nat} {cur : Array Value} {z : Int} (h2 : n <= cur.size) (h3 : ∀ i, i < n -> ∃ z : Int, cur[i]? = some (.int .u8 z)) (hk : k < n) (hs : SetAt w w' g (.cells (splice cur #[.int .u8 z] k) 5 (0, 0))) : Bts w' g n := by
 have hb := hs.blk
 rw [z6u (by omega)] at hb
 refine ⟨_, hb, by simpa using h2, fun i hi => ?_⟩
 rw [Array.getElem?_setIfInBounds]
 split
 ·
  rename_i e; subst e; rw [if_pos (by omega)]; exact ⟨z, rfl⟩
 ·
  exact h3 i hi
def OnI (w0 : World) (b6 b7 : Nat) (i : Nat) (W : World) : Prop :=
 W.heap[b7]? = some (.cells #[.int .i64 (i : Nat)] 3 (0, 0)) /\ W.heap[b6]? = some (.cells #[.bool false] 4 (0, 0)) /\ Keeps (fun b => w0.heap.size <= b \/ b = b6 \/ b = b7) w0 W
theorem OnI.nb {w0 W W' : World} {b6 b7 i : Nat} (h : OnI w0 b6 b7 i W) (k : Keeps (Book w0) W W') (h6 : b6 < w0.heap.size) (h7 : b7 < w0.heap.size) : OnI w0 b6 b7 i W' := by
 obtain ⟨e1, e2, e3⟩ := h
 have nl : ∀ {b : Nat}, b < w0.heap.size -> ¬ Book w0 b := fun h e => by unfold Book at e; omega
 exact ⟨k.at e1 (nl h7), k.at e2 (nl h6), e3.trans k (fun j hj e => by unfold Book at e; omega)⟩
def RecsD (w0 w : World) (rs : List (List Nat)) (e : Ending) (w' : World) : Prop :=
 ∃ g R, e = .returned (.func (.func 137) #[] #[.pointer (some ⟨g, 0, none⟩)]) /\ w.heap.size <= g /\ g < w'.heap.size /\ (∀ k, R k -> k < w0.heap.size \/ k = g) /\ RecsAt w' R g rs /\ Keeps Nb w w'
theorem zgg (v : Value) (rs : List (List Nat)) (wa : Option Addr) (wc : Nat) (vs : List Value) (w : World) (hw : RowS w (fun k => k < w.heap.size) (fun _ => False) 22 1 (.slice wa rs.length wc) rs.length vs) (hb : BytesL w (fun k => k < w.heap.size) vs rs) (hr : Recs rs) (hn : rs.length <= 4000000000000)
  (hRA : ∀ w1, Keeps Nb w w1 -> Calls Tryz.prog 97 #[v] w1 (RecsD w w1 rs)) :
  Calls Tryz.prog 34 #[v, .slice wa rs.length wc, .int .i64 0] w fun e w' => e = .returned (.bool true) /\ Keeps Nb w w' := by
 obtain ⟨m, hm⟩ : ∃ m, rs.length = m := ⟨_, rfl⟩
 have q61 : ∀ (w : World) (fn : Fn) (a b : Array Value), (binOp .eql 122 (.func fn a b) .nilFunc).run Tryz.prog w = .ok (.bool false) w := fun w fn a b => by first | rfl | kernel_rfl
 have HW := qq hw; have HB := qq hb; have HR := qq hr; have HRA := qq hRA; have HM := qq hm; have HN := qq hn
 rw [hm]
 clear hw hb hr hn hRA hm
 refine z17 Tryz.func34 rfl ?_
 simp only [Tryz.ntmps34, List.size_toArray, List.length_cons, List.length_nil, Nat.reduceAdd, Nat.reduceSub, Array.replicate_succ, Array.replicate_zero, List.push_toArray, List.append_toArray, List.nil_append, List.cons_append]
 go_wp2_with (first | go_skip | (with_reducible refine qv (by decide) ?_))
 refine za (vbox1 (v := .slice wa m wc) (by rfl) rfl ?_)
 intro b4 w1 n1
 simp only [Nat.reduceAdd, qn]
 go_wp2_with (first | go_skip | (with_reducible refine qv (by decide) ?_))
 refine za (vbox1 (v := .int .i64 0) (by rfl) rfl ?_)
 intro b5 w2 n2
 simp only [Nat.reduceAdd, qn]
 go_wp2_with (first | go_skip | (with_reducible refine qv (by decide) ?_))
 refine za (valloc (z := .bool false) (by kernel_rfl) ?_)
 intro b6 w3 n3
 simp only [Nat.reduceAdd, qn]
 go_wp2_with (first | go_skip | (with_reducible refine qv (by decide) ?_))
 refine za (valloc (z := .int .i64 0) (by kernel_rfl) ?_)
 intro b7 w4 n4
 simp only [Nat.reduceAdd, qn]
 go_wp2_with (first | go_skip | (with_reducible refine qv (by decide) ?_))
 refine za (zd rfl (zc (v := .int .i64 0) (n := 1) (by kernel_rfl) (by rfl) (by rfl) n4.blk (by rfl) (by simp [Value.cells]) (by simp [Value.cells, Value.oneCell'])) ?_)
 intro w5 s5
 simp only [Nat.reduceAdd, qn]
 have L45 : b4 < b5 := by have := n1.lt; have := n2.ge; omega
 have L56 : b5 < b6 := by have := n2.lt; have := n3.ge; omega
 have L67 : b6 < b7 := by have := n3.lt; have := n4.ge; omega
 have B4 : Hid (w5.heap[b4]? = some (.cells #[.slice wa m wc] 27 (0, 0))) := qq (s5.k.at (n4.k.nb (n3.k.nb (n2.k.nb n1.blk))) (fun e => by omega))
 have B5 : Hid (w5.heap[b5]? = some (.cells #[.int .i64 0] 3 (0, 0))) := qq (s5.k.at (n4.k.nb (n3.k.nb n2.blk)) (fun e => by omega))
 have B6 : Hid (w5.heap[b6]? = some (.cells #[.bool false] 4 (0, 0))) := qq (s5.k.at (n4.k.nb n3.blk) (fun e => by omega))
 have B7 : Hid (w5.heap[b7]? = some (.cells #[.int .i64 0] 3 (0, 0))) := qq s5.blk
 have G4 : Hid (w.heap.size <= b4) := qq n1.ge
 have K5 : Hid (Keeps Nb w w5) := qq ((((n1.k.trans_nb n2.k).trans_nb n3.k).trans_nb n4.k).own (k := b7) (by have := n1.ge; omega) s5.k)
 have RA := qq (HRA.out w5 K5.out)
 clear n1 n2 n3 n4 s5 HRA
 go_wp2_with fail
 refine RA.out.mono ?_
 rintro _ w6 ⟨g, R, rfl, hg1, hg2, hR, hra, k6⟩
 have K6 := qq (K5.out.trans_nb k6)
 have hz := k6.size
 have L5 : b7 < w5.heap.size := lt_of_block B7.out
 have B46 := qq (k6.nb B4.out)
 have B56 := qq (k6.nb B5.out)
 have W6 : Hid (OnI w6 b6 b7 0 w6) := qq ⟨k6.nb B7.out, k6.nb B6.out, Keeps.refl _ _⟩
 have OI := qq (z81 8 (by omega) g _ (fun b => w6.heap.size <= b \/ b = b6 \/ b = b7) rs w6 hra HR.out (fun k hk e => by
  have z1 := K5.out.size
  have h3 := G4.out
  rcases hR k hk with hk | hk <;> omega))
 clear hra k6 RA hR B4 B5 B6 B7
 go_wp2_with (with_reducible refine z0v ?_)
 refine za ((wpIn_wide (n := 9)).1 ?_)
 refine z1k (gf := 137) (lb := #[.pointer (some ⟨g, 0, none⟩)]) (by rfl) (enters_of Tryz.func137 (by kernel_rfl) rfl) OI.out
  (fun b hb => .inl (by unfold Book at hb; omega)) (fun i args W h => by obtain ⟨x, v, -, rfl, -⟩ := h; rfl)
  (fun i W => OnI w6 b6 b7 i W) (fun _ _ => False)
  (fun i A B h k => h.nb k (by omega) (by omega)) (fun c A B h => h.elim) W6.out ?round ?done (fun _ _ h => h.elim)
 case round =>
  rintro lm i args W rfl hW2 hI hi ⟨x, v', hp, rfl, hv⟩
  simp only [List.zip_toArray, List.zip_cons_cons, List.zip_nil_right, List.foldl_toArray, List.foldl_cons, List.foldl_nil, List.setIfInBounds_toArray, List.set_cons_succ, List.set_cons_zero]
  have hx := HR.out x (List.mem_of_getElem? hp)
  have him : i < m := by rw [<- HM.out]; exact hi
  have HIH := qq hI; have HP := qq hp; have HV := qq hv; have HXL := qq hx.2
  clear hI hp hv hx hi
  repeat (first | (with_reducible refine zg ?_) | (with_reducible refine stop_range ?_) | gi_step)
  refine za (zh (by kernel_rfl) (by rintro ⟨_, _, h⟩; exact h) ?_)
  go_wp2
  refine ⟨Keeps.refl _ _, fun W3 k3 => ?_⟩
  have kB : Keeps (Book w6) W W3 := k3.mono (fun i _ e => .inr e)
  obtain ⟨e1, e2, e3⟩ := HIH.out.nb kB (by omega) (by omega)
  have hv3 : W3.ownsRow (w6.heap.size + 2) 5 1 v' x.length (x.map fun z => .int .u8 (z : Nat)) := z07 HV.out k3 (fun k hk e => by have e : k = w6.heap.size + 1 := e; omega)
  have hbx := z0f hv3 HXL.out
  obtain ⟨av, cv, rfl, hlc, hcm, hrd, -⟩ := id hbx
  obtain ⟨y, hy⟩ : ∃ y, vs[i]? = some y := ⟨_, List.getElem?_eq_getElem (by rw [HB.out.1, HM.out]; exact him)⟩
  have hby := HB.out.2 i y x hy HP.out
  have HKW : Hid (Keeps (fun b => w.heap.size <= b) w W3) := qq ((K6.out.of_nb).trans e3 (fun j hj e => by have := G4.out; have := K6.out.size; omega))
  have hby3 := hby.keeps HKW.out (fun k hk e => by omega)
  obtain ⟨ay, cy, rfl, hlc', hcm', hrd', -⟩ := id hby3
  unfold maxLen at hcm hcm'
  have HX : Hid (∀ u : Sub W3, Has u.wd av (x.map fun z => .int .u8 (z : Nat))) := qq fun u => (hrd.nb u.k).has
  have HY : Hid (∀ u : Sub W3, Has u.wd ay (x.map fun z => .int .u8 (z : Nat))) := qq fun u => (hrd'.nb u.k).has
  obtain ⟨bw, ow, rfl, hcw⟩ : ∃ bw ow, wa = some ⟨bw, ow, none⟩ /\ ∀ u : Sub W3, u.wd.cell? ⟨bw, ow + i, none⟩ = some (.slice ay x.length cy) := by
   obtain ⟨-, -, a', c', e, -, -, hh, hin, -⟩ := HW.out
   cases e
   have hne : vs ≠ [] := by rintro rfl; cases hy
   rcases hh with h | ⟨b, off, rfl, hc⟩
   ·
    exact absurd h hne
   ·
    have hb := (hin b off rfl hne).1
    have hc1 := hc i _ hy
    exact ⟨b, off, rfl, fun u => (u.k.cell (Nat.lt_of_lt_of_le (lt_of_cell hc1) HKW.out.size) (fun e => e)).trans ((HKW.out.cell (lt_of_cell hc1) (fun e => by have h1 := hb.elim id (fun e => e.elim); have h2 : w.heap.size <= b := e; omega)).trans hc1)⟩
  have c4 : ∀ u : Sub W3, u.wd.cell? ⟨b4, 0, none⟩ = some (.slice (some ⟨bw, ow, none⟩) m wc) := fun u => (cell_of_block (u.k.nb (e3.at B46.out (fun e => by omega)))).trans rfl
  have c7 : ∀ u : Sub W3, u.wd.cell? ⟨b7, 0, none⟩ = some (.int .i64 (i : Nat)) := fun u => (cell_of_block (u.k.nb e1)).trans rfl
  have t0 : decide (m <= i) = false := by simp; omega
  have i1 : (i : Int) < (m : Int) := by omega
  obtain ⟨bl, hbl⟩ : ∃ l, bstr x = l := ⟨_, rfl⟩
  have HBL := qq hbl
  have E1 := qq e1; have E2 := qq e2; have E3 := qq e3; have HV3 := qq hv3
  clear e1 e2 e3 hv3 hbx hby hby3 hrd hrd' hy hbl kB k3 HIH
  repeat (first | (with_reducible refine zg ?_) | (with_reducible refine stop_range ?_) | gi_step)
  refine za (z97 (by kernel_rfl) (by rintro ⟨_, _, h⟩; exact h) (by kernel_rfl) (by kernel_rfl) ?_)
  repeat (first | go_big_quiet_skip | (with_reducible refine stopq (op := .convert 22 9 _) ?_) | go_big_quiet_step (fail))
  refine za (zb7 (v := .string bl) rfl (by rintro _ ⟨u, rfl⟩; rw [<- HBL.out]; exact z3t Tryz.underlying22 Tryz.underlying5 Tryz.underlying9 (by rfl) (HX.out u) rfl) ?_)
  simp only [Nat.reduceAdd, qn]
  repeat (first | go_big_quiet_skip | (with_reducible refine stopq (op := .convert 22 9 _) ?_) | go_big_quiet_step (fail))
  refine za (zb7 (v := .string bl) rfl (by rintro _ ⟨u, rfl⟩; rw [<- HBL.out]; exact z3t Tryz.underlying22 Tryz.underlying5 Tryz.underlying9 (by rfl) (HY.out u) rfl) ?_)
  simp only [Nat.reduceAdd, qn]
  repeat (first | go_big_quiet_skip | (with_reducible refine stopq (op := .convert 22 9 _) ?_) | go_big_quiet_step (fail))
  refine wpQuiet_nil ?_
  rintro w8 ⟨u8, hu8⟩
  have K8 : Hid (Keeps Nb W3 w8) := qq (hu8 ▸ u8.k)
  clear hu8 u8 c4 c7 hcw
  have V8 := qq (z07 HV3.out K8.out (fun _ _ e => e))
  obtain ⟨n, hxn⟩ : ∃ n, x.length = n := ⟨_, rfl⟩
  have HXN := qq hxn
  rw [hxn] at hlc hlc' V8 ⊢
  clear hxn
  go_wp2
  repeat (first | (with_reducible refine zg ?_) | (with_reducible refine stop_range ?_) | gi_step)
  refine za (zh (by kernel_rfl) (by rintro ⟨_, _, h⟩; exact h) ?_)
  go_wp2
  gi_wp2
  gi_loopw [10] (fun j wr => ∃ k : Nat, k <= n /\ j = .int .i64 k /\ (0 < n -> ∃ g0, av = some ⟨g0, 0, none⟩ /\ w6.heap.size + 2 <= g0 /\ g0 < w8.heap.size /\ Bts wr g0 n) /\ Keeps (fun b => w6.heap.size + 2 <= b /\ b < w8.heap.size) w8 wr) (fun j _ => n - (intOf j).toNat)
  case atStart =>
   refine ⟨0, Nat.zero_le _, rfl, fun h0 => ?_, Keeps.refl _ _⟩
   have hne : x ≠ [] := by rintro rfl; have := HXN.out; simp at this; omega
   have hv8 := V8.out
   rw [<- HXN.out] at hv8
   obtain ⟨g0, c0, e0, -, -, -, hb0, hob⟩ := zbn hv8 hne
   cases e0
   obtain ⟨cur, q1, q2, q3⟩ := hob
   rw [HXN.out] at q2 q3
   refine ⟨g0, rfl, hb0, lt_of_block q1, cur, q1, q2, fun i hi => ?_⟩
   have h1 : (cur.toList.take n)[i]? = (x.map fun z => Value.int .u8 (z : Nat))[i]? := by rw [q3]
   rw [List.getElem?_take, if_pos hi, Array.getElem?_toList, List.getElem?_map] at h1
   obtain ⟨z, hz⟩ : ∃ z, x[i]? = some z := ⟨_, List.getElem?_eq_getElem (by rw [HXN.out]; exact hi)⟩
   rw [hz] at h1
   exact ⟨z, h1⟩
  case round =>
   obtain ⟨k, hk, rfl, hbt, kw⟩ := hrel
   by_cases hlt : k < n
   ·
    have j1 : (k : Int) < (n : Int) := by omega
    obtain ⟨g0, rfl, hg0, hg8, cur, hb1, hb2, hb3⟩ := hbt (by omega)
    obtain ⟨z, hz⟩ := hb3 k hlt
    have cz : wr.cell? ⟨g0, k, none⟩ = some (.int .u8 z) := by rw [cell_of_block hb1]; exact hz
    have KW := qq kw
    have B1 := qq hb1; have B2 := qq hb2; have B3 := qq hb3
    clear hz hbt hb1 hb2 hb3 kw
    repeat (first | (with_reducible refine zg ?_) | (with_reducible refine stop_range ?_) | gi_step)
    refine za (zh (by kernel_rfl) (by rintro ⟨_, _, h⟩; exact h) ?_)
    go_wp2
    repeat (first | (with_reducible refine zg ?_) | (with_reducible refine stop_range ?_) | gi_step)
    refine za (zh (by kernel_rfl) (by rintro ⟨_, _, h⟩; exact h) ?_)
    go_wp2_with (first | go_skip | (with_reducible refine qv (by decide) ?_))
    refine za (zd rfl (zc (v := .int .u8 (IntKind.u8.wrap (z + 1))) (n := 1) (by kernel_rfl) (by rfl) (by rfl) B1.out (by rfl) (by have := B2.out; simp [Value.cells]; omega) (by simp [Value.cells, Value.oneCell'])) ?_)
    intro wn sn
    simp only [Nat.reduceAdd, qn]
    have HBT : Hid (Bts wn g0 n) := qq (Bts.set (z := IntKind.u8.wrap (z + 1)) B2.out B3.out hlt (by simpa [Value.cells] using sn))
    have KN : Hid (Keeps (fun b => w6.heap.size + 2 <= b /\ b < w8.heap.size) w8 wn) := qq (KW.out.trans sn.k (fun j hj e => by have e : j = g0 := e; subst e; exact ⟨hg0, hg8⟩))
    clear sn cz
    go_wp2
    repeat (first | (with_reducible refine zg ?_) | (with_reducible refine stop_range ?_) | gi_step)
    refine za (zh (by kernel_rfl) (by rintro ⟨_, _, h⟩; exact h) ?_)
    go_wp2
    go_roundw
    case rel => exact ⟨k + 1, by omega, by go_num, fun _ => ⟨g0, rfl, hg0, hg8, HBT.out⟩, KN.out⟩
    case measure => simp [intOf]; omega
   ·
    have hkl : k = n := by omega
    subst hkl
    have KW := qq kw
    clear kw hbt
    repeat (first | (with_reducible refine zg ?_) | (with_reducible refine stop_range ?_) | gi_step)
    refine za (zh (by kernel_rfl) (by rintro ⟨_, _, h⟩; exact h) ?_)
    go_wp2
    repeat (first | (with_reducible refine zg ?_) | (with_reducible refine stop_range ?_) | gi_step)
    refine za (zh (by kernel_rfl) (by rintro ⟨_, _, h⟩; exact h) ?_)
    have hE : ∀ {b : Nat} {o : Obj}, b < w6.heap.size -> W3.heap[b]? = some o -> wr.heap[b]? = some o := fun {b o} hb h => KW.out.at (K8.out.nb h) (fun e => by have := e.1; omega)
    have e1 := hE (by omega) E1.out
    have e2 := hE (by omega) E2.out
    have e5 := hE (by omega) (E3.out.at B56.out (fun e => by omega))
    have E1' := qq e1; have E2' := qq e2; have E5' := qq e5
    have c7 : wr.cell? ⟨b7, 0, none⟩ = some (.int .i64 (i : Nat)) := (cell_of_block e1).trans rfl
    have iw : IntKind.i64.wrap ((i : Int) + 1) = ((i + 1 : Nat) : Int) := by rw [IntWalk.i64_in _ (by have := HN.out; rw [HM.out] at this; omega)]; rfl
    clear hE e1 e2 e5
    go_wp2_with (first | go_skip | (with_reducible refine qv (by decide) ?_))
    refine za (zd rfl (zc (v := .int .i64 ((i + 1 : Nat) : Int)) (n := 1) (by kernel_rfl) (by rfl) (by rfl) E1'.out (by rfl) (by simp [Value.cells]) (by simp [Value.cells, Value.oneCell'])) ?_)
    intro wn sn
    simp only [Nat.reduceAdd, qn]
    have kn5 : b5 ≠ b7 /\ b6 ≠ b7 := by omega
    have c7' : wn.cell? ⟨b7, 0, none⟩ = some (.int .i64 ((i + 1 : Nat) : Int)) := (cell_of_block sn.blk).trans rfl
    have c5 : wn.cell? ⟨b5, 0, none⟩ = some (.int .i64 0) := (cell_of_block (sn.k.at E5'.out kn5.1)).trans rfl
    have tq : (((i + 1 : Nat) : Int) == 0) = false := by rw [beq_eq_false_iff_ne]; omega
    have F : Hid (Keeps (fun b => (w6.heap.size <= b \/ b = b6 \/ b = b7) /\ ¬ Book w6 b) W3 wn /\ OnI w6 b6 b7 (i + 1) wn) := qq (by
     have kf : Keeps (fun b => (w6.heap.size <= b \/ b = b6 \/ b = b7) /\ ¬ Book w6 b) W3 wn := ((K8.out.of_nb).trans KW.out (fun j hj e => ⟨.inl (by omega), fun h => by unfold Book at h; omega⟩)).trans sn.k (fun j hj e => by have e : j = b7 := e; exact ⟨.inr (.inr e), fun h => by unfold Book at h; omega⟩)
     exact ⟨kf, sn.blk, sn.k.at E2'.out kn5.2, E3.out.trans kf (fun j _ e => e.1)⟩)
    clear sn c7
    go_wp2
    repeat (first | (with_reducible refine zg ?_) | (with_reducible refine stop_range ?_) | gi_step)
    refine za (zh (by kernel_rfl) (by rintro ⟨_, _, h⟩; exact h) ?_)
    go_wp2
    gi_wp2
    exact F.out
 case done =>
  rintro W ⟨e1, e2, e3⟩ hD
  have HD := qq hD
  have c7 : W.cell? ⟨b7, 0, none⟩ = some (.int .i64 (rs.length : Nat)) := (cell_of_block e1).trans rfl
  rw [HM.out] at c7
  have c4 : W.cell? ⟨b4, 0, none⟩ = some (.slice wa m wc) := (cell_of_block (e3.at B46.out (fun e => by omega))).trans rfl
  have E2 := qq e2; have E3 := qq e3
  clear e1 e2 e3 hD
  go_wp2_with (first | go_skip | (with_reducible refine qv (by decide) ?_))
  refine za (zd rfl (zc (v := .bool true) (n := 1) (by kernel_rfl) (by rfl) (by rfl) E2.out (by rfl) (by simp [Value.cells]) (by simp [Value.cells, Value.oneCell'])) ?_)
  intro wn sn
  simp only [Nat.reduceAdd, qn]
  have c6 : wn.cell? ⟨b6, 0, none⟩ = some (.bool true) := (cell_of_block sn.blk).trans rfl
  have HDn : Hid (wn.heap[w6.heap.size]? = some (.deferred (some []))) := qq (sn.k.at HD.out (fun e => by omega))
  have KN := qq sn.k
  clear sn c4 c7
  go_wp2
  have kp := zw wn w6.heap.size (.deferred none)
  have z6 := K6.out.size; have g4 := G4.out; have ze := E3.out.size; have zp := kp.size
  refine ⟨by simp, .inl ⟨_, _, rfl, run_takeDeferred (show wn.heap[w6.heap.size]? = _ from HDn.out), ?_⟩⟩
  have c6p : (wn.putObj w6.heap.size (.deferred none)).cell? ⟨b6, 0, none⟩ = some (.bool true) := (kp.cell (lt_of_cell c6) (fun e => by have e : b6 = w6.heap.size := e; omega)).trans c6
  refine ⟨.bool true, by simp [results, Tryz.f34, go_sem, asAddr, c6p], rfl, ?_⟩
  exact ((K6.out.trans E3.out (fun j hj e => by omega)).trans KN.out (fun j hj e => by have e : j = b7 \/ j = b6 := .inr e; omega)).trans kp (fun j hj e => by omega)
end Go.Proofs.YtpjomdmjohjheaaGreatDoor
end
section
namespace Go.Log
open Go.Vfs
abbrev Dir := ByteArray -> Option Nat
def Dir.put (f : Dir) (s : ByteArray) (b : Nat) : Dir := fun t => if t = s then some b else f t
def Dir.del (f : Dir) (s : ByteArray) : Dir := fun t => if t = s then none else f t
def Dir.again (f : Dir) (s : Stp) : Dir :=
 if s.act = 0 then (if (f s.name).isSome then f else f.put s.name (s.f.getD 0))
 else if s.act = 1 then (match f s.name with | none => f | some b => (f.del s.name).put s.to b)
 else f.del s.name
theorem z08 (p : ByteArray × Nat) (l : List (ByteArray × Nat)) (t : ByteArray) : flook (p :: l) t = if p.1 = t then some p.2 else flook l t := by
 unfold flook
 rw [List.find?_cons]
 by_cases h : p.1 = t <;> simp [h]
theorem zcn (l : List (ByteArray × Nat)) (t : ByteArray) : (l.any fun p => decide (p.1 = t)) = (flook l t).isSome := by
 induction l with
 | nil => rfl
 | cons p l ih =>
  rw [List.any_cons, z08, ih]
  by_cases h : p.1 = t <;> simp [h]
theorem zbc (l : List (ByteArray × Nat)) (s : ByteArray) (b : Nat) (t : ByteArray) : flook (l ++ [(s, b)]) t = (flook l t).orElse fun _ => if s = t then some b else none := by
 induction l with
 | nil => rw [List.nil_append, z08]; rfl
 | cons p l ih =>
  rw [List.cons_append, z08, z08, ih]
  split <;> rfl
theorem z0e {l : List (ByteArray × Nat)} {s : ByteArray} (h : flook l s = none) (b : Nat) : flook (l ++ [(s, b)]) = Dir.put (flook l) s b := by
 funext t
 rw [zbc]
 unfold Dir.put
 by_cases e : t = s
 ·
  subst e; rw [h]; simp
 ·
  rw [if_neg e, if_neg (fun h => e h.symm)]; cases flook l t <;> rfl
theorem z0l (l : List (ByteArray × Nat)) (s : ByteArray) : flook (fdel l s) = Dir.del (flook l) s := by
 funext t
 unfold Dir.del fdel
 induction l with
 | nil => simp [flook]
 | cons p l ih =>
  rw [List.filter_cons]
  by_cases h : p.1 = s
  ·
   simp only [h, ne_eq, not_true_eq_false, decide_false, Bool.false_eq_true, if_false]
   rw [ih, z08]
   by_cases e : t = s
   ·
    simp [e]
   ·
    rw [if_neg e, if_neg e, if_neg (fun h2 => e (h2.symm.trans h))]
  ·
   simp only [ne_eq, h, not_false_eq_true, decide_true, if_true]
   rw [z08, z08, ih]
   by_cases e : t = s
   ·
    rw [if_pos e, if_pos e, if_neg (fun h2 => h (h2.trans e))]
   ·
    rw [if_neg e, if_neg e]
theorem zco (l : List (ByteArray × Nat)) (s : ByteArray) (b : Nat) (t : ByteArray) : flook (l.map fun p => if p.1 = s then (s, b) else p) t = if t = s then (flook l t).map (fun _ => b) else flook l t := by
 induction l with
 | nil => simp [flook]
 | cons p l ih =>
  rw [List.map_cons, z08, z08, ih]
  by_cases h : p.1 = s
  ·
   by_cases e : t = s
   ·
    subst e; simp [h]
   ·
    have h2 : ¬ s = t := fun x => e x.symm
    have h3 : ¬ p.1 = t := fun x => e (x.symm.trans h)
    simp [h, e, h2]
  ·
   by_cases e : t = s
   ·
    subst e; simp [h]
   ·
    simp [h, e]
theorem z2g (l : List (ByteArray × Nat)) (s : ByteArray) (b : Nat) : flook (fput l s b) = Dir.put (flook l) s b := by
 funext t
 unfold fput Dir.put
 rw [zcn]
 by_cases h : (flook l s).isSome = true
 ·
  rw [if_pos h, zco]
  by_cases e : t = s
  ·
   subst e
   obtain ⟨c, hc⟩ := Option.isSome_iff_exists.1 h
   simp [hc]
  ·
   simp [e]
 ·
  rw [if_neg h]
  have h' : flook l s = none := by simpa using h
  rw [z0e h']; rfl
theorem z9l (L : List (ByteArray × Nat)) (s : Stp) : flook (againL L s) = Dir.again (flook L) s := by
 unfold againL Dir.again
 split
 ·
  split
  ·
   rfl
  ·
   rw [z2g]
 ·
  split
  ·
   cases e : flook L s.name with
   | none => rfl
   | some b => simp only [ren1]; rw [z2g, z0l]
  ·
   rw [z0l]
def rep : List Bool -> List Stp -> Dir -> Dir
 | b :: bs, s :: ss, f => rep bs ss (if b then f.again s else f)
 | _, _, f => f
theorem zar (ss : List Stp) (f : Dir) : rep [] ss f = f := by cases ss <;> rfl
theorem z8e (bs : List Bool) (f : Dir) : rep bs [] f = f := by cases bs <;> rfl
theorem z4m : ∀ (bs : List Bool) (ss : List Stp) (L : List (ByteArray × Nat)), flook (replay bs ss L) = rep bs ss (flook L)
 | [], ss, L => by rw [z0q, zar]
 | b :: bs, [], L => rfl
 | b :: bs, s :: ss, L => by
  show flook (replay bs ss (if b then againL L s else L)) = rep bs ss (if b then Dir.again (flook L) s else flook L)
  rw [z4m bs ss]
  cases b
  ·
   rfl
  ·
   simp only [if_true]; rw [z9l]
theorem z98 (s : Stp) : ∀ (ss : List Stp) (bs : List Bool) (f : Dir), ∃ bs', rep bs (ss ++ [s]) f = rep bs' ss f \/ rep bs (ss ++ [s]) f = (rep bs' ss f).again s
 | [], [], f => ⟨[], .inl rfl⟩
 | [], b :: bs, f => by
  refine ⟨[], ?_⟩
  show rep bs [] (if b then f.again s else f) = f \/ rep bs [] (if b then f.again s else f) = f.again s
  rw [z8e]
  cases b
  ·
   exact .inl rfl
  ·
   exact .inr rfl
 | y :: ss, [], f => ⟨[], .inl rfl⟩
 | y :: ss, b :: bs, f => by
  obtain ⟨bs', h⟩ := z98 s ss bs (if b then f.again y else f)
  exact ⟨b :: bs', h⟩
def Ds.dir (X : Ds) : Dir := flook X.D.files
def Rs (X : Ds) (f : Dir) : Prop := ∃ bs, f = rep bs X.D.steps (flook X.D.lasting)
def Rch (X : Ds) (f : Dir) : Prop := f = X.dir \/ Rs X f
def Wf (X : Ds) : Prop := ∀ s ∈ X.D.steps, s.act = 0 -> ∃ b, s.f = some b
def Rf (D : Dk) (f : Dir) : Prop := ∀ t b, f t = some b -> Ref D b
theorem zc6 {D : Dk} {f : Dir} {s : Stp} (h : Rf D f) (hs : s ∈ D.steps) (hw : s.act = 0 -> ∃ b, s.f = some b) : Rf D (f.again s) := by
 intro t b hb
 unfold Dir.again at hb
 split at hb
 ·
  rename_i h0
  split at hb
  ·
   exact h t b hb
  ·
   unfold Dir.put at hb
   split at hb
   ·
    obtain ⟨c, hc⟩ := hw h0
    cases hb
    exact .inr (.inr ⟨s, hs, by rw [hc]; rfl⟩)
   ·
    exact h t b hb
 ·
  split at hb
  ·
   cases e : f s.name with
   | none => rw [e] at hb; exact h t b hb
   | some c =>
    rw [e] at hb
    simp only at hb
    unfold Dir.put Dir.del at hb
    split at hb
    ·
     cases hb; exact h _ _ e
    ·
     split at hb
     ·
      cases hb
     ·
      exact h t b hb
  ·
   unfold Dir.del at hb
   split at hb
   ·
    cases hb
   ·
    exact h t b hb
theorem zas {D : Dk} : ∀ (bs : List Bool) (ss : List Stp) (f : Dir), (∀ s ∈ ss, s ∈ D.steps /\ (s.act = 0 -> ∃ b, s.f = some b)) -> Rf D f -> Rf D (rep bs ss f)
 | [], ss, f, _, h => by rw [zar]; exact h
 | b :: bs, [], f, _, h => h
 | b :: bs, s :: ss, f, hs, h => by
  show Rf D (rep bs ss (if b then f.again s else f))
  refine zas bs ss _ (fun s' h' => hs s' (by simp [h'])) ?_
  cases b
  ·
   exact h
  ·
   exact zc6 h (hs s (by simp)).1 (hs s (by simp)).2
theorem Rch.ref {X : Ds} {f : Dir} (h : Rch X f) (hw : Wf X) : Rf X.D f := by
 rcases h with rfl | ⟨bs, rfl⟩
 ·
  intro t b hb; exact .inl ⟨_, zo hb, rfl⟩
 ·
  exact zas bs _ _ (fun s hs => ⟨hs, hw s hs⟩) (fun t b hb => .inr (.inl ⟨_, zo hb, rfl⟩))
structure Sm (X Y : Ds) : Prop where
 files : Y.D.files = X.D.files
 lasting : Y.D.lasting = X.D.lasting
 steps : Y.D.steps = X.D.steps
 cap : Y.D.cap = X.D.cap
theorem Sm.refl (X : Ds) : Sm X X := ⟨rfl, rfl, rfl, rfl⟩
theorem Sm.rch {X Y : Ds} (h : Sm X Y) {f : Dir} (hf : Rch Y f) : Rch X f := by
 unfold Rch Rs Ds.dir at hf ⊢
 rw [h.files, h.lasting, h.steps] at hf; exact hf
theorem Sm.wf {X Y : Ds} (h : Sm X Y) (hw : Wf X) : Wf Y := by unfold Wf; rw [h.steps]; exact hw
theorem Sm.dir {X Y : Ds} (h : Sm X Y) : Y.dir = X.dir := by unfold Ds.dir; rw [h.files]
theorem z3a {X Y : Ds} (h : Y.D = (chg X.D).1) : Sm X Y := by
 obtain ⟨a, b, c, -, d⟩ := z01 X.D
 exact ⟨by rw [h, a], by rw [h, b], by rw [h, c], by rw [h, d]⟩
theorem z1l (D : Dk) : ((chg D).2.1 = 1 /\ (chg D).2.2 = 0) \/ ((chg D).2.1 ≠ 1 /\ (chg D).2.2 ≠ 0) := by
 unfold chg
 simp only
 split
 ·
  rename_i h
  refine .inr ⟨?_, h.1⟩
  simp only
  split <;> decide
 ·
  split
  ·
   exact .inr ⟨by simp, by simp⟩
  ·
   exact .inl ⟨rfl, rfl⟩
structure Dn (X Y : Ds) (l : List (ByteArray × Nat)) (st : Stp) : Prop where
 files : Y.D.files = l
 lasting : Y.D.lasting = X.D.lasting
 steps : Y.D.steps = X.D.steps ++ [st]
 cap : Y.D.cap = X.D.cap
theorem Dn.rch {X Y : Ds} {l : List (ByteArray × Nat)} {st : Stp} (h : Dn X Y l st) {f : Dir} (hf : Rch Y f) : f = flook l \/ ∃ g, Rs X g /\ (f = g \/ f = g.again st) := by
 rcases hf with hf | ⟨bs, hf⟩
 ·
  left; rw [hf]; unfold Ds.dir; rw [h.files]
 ·
  right
  rw [h.steps, h.lasting] at hf
  obtain ⟨bs', h1⟩ := z98 st X.D.steps bs (flook X.D.lasting)
  exact ⟨_, ⟨bs', rfl⟩, by rw [hf]; exact h1⟩
theorem Dn.wf {X Y : Ds} {l : List (ByteArray × Nat)} {st : Stp} (h : Dn X Y l st) (hw : Wf X) (hs : st.act = 0 -> ∃ b, st.f = some b) : Wf Y := by
 unfold Wf; rw [h.steps]
 intro s h1
 rcases List.mem_append.1 h1 with h1 | h1
 ·
  exact hw s h1
 ·
  rw [List.mem_singleton.1 h1]; exact hs
variable {X Y : Ds} {e : Int} {s t : ByteArray}
theorem z0i (h : mkO s X e Y) : (e ≠ 0 /\ Sm X Y /\ Y.fc = X.fc) \/ (e = 0 /\ X.dir s = none /\ mnB s = true /\ ∃ b, (∀ c, Ref X.D c -> c ≠ b) /\ Dn X Y (X.D.files ++ [(s, b)]) ⟨0, s, ByteArray.empty, some b⟩ /\ Y.fc = fun k => if k = b then ⟨[], 0⟩ else X.fc k) := by
 obtain ⟨n, hn, h⟩ := h
 have same : ∀ {D' : Dk}, Y.D = D' -> D' = X.D -> Y.fc = X.fc -> Sm X Y := fun h1 h2 h3 => ⟨by rw [h1, h2], by rw [h1, h2], by rw [h1, h2], by rw [h1, h2]⟩
 rcases h with ⟨-, h0, h, hf⟩ | ⟨-, -, h0, h, hf⟩ | ⟨-, -, -, h0, h, hf⟩ | ⟨-, -, -, -, h0, h, hf⟩ | ⟨hm, hl, -, -, h0, ⟨h1, b, hb, h, hf⟩ | ⟨h1, h, hf⟩⟩
 ·
  exact .inl ⟨by omega, same h rfl hf, hf⟩
 ·
  exact .inl ⟨by omega, same h rfl hf, hf⟩
 ·
  exact .inl ⟨by omega, same h rfl hf, hf⟩
 ·
  exact .inl ⟨by omega, same h rfl hf, hf⟩
 ·
  rcases z1l X.D with ⟨h2, h3⟩ | ⟨h2, h3⟩
  ·
   obtain ⟨q1, q2, q3, -, q5⟩ := z01 X.D
   refine .inr ⟨by rw [h0, h3], hl, hm, b, fun c hc => by have := hn c hc; omega, ⟨?_, ?_, ?_, ?_⟩, hf⟩
   ·
    rw [h]; simp only [Dk.make, q1]
   ·
    rw [h]; simp only [Dk.make, q2]
   ·
    rw [h]; simp only [Dk.make, q3]
   ·
    rw [h]; simp only [Dk.make, q5]
  ·
   exact absurd h1 h2
 ·
  rcases z1l X.D with ⟨h2, h3⟩ | ⟨h2, h3⟩
  ·
   exact absurd h2 h1
  ·
   exact .inl ⟨by rw [h0]; exact h3, z3a h, hf⟩
theorem z0m {bs : List Nat} (h : apO s bs X e Y) : Sm X Y /\ ((e ≠ 0 /\ Y.fc = X.fc) \/ ∃ b k, X.dir s = some b /\ k <= bs.length /\ (e = 0 -> k = bs.length) /\ Y.fc = setf X.fc b ⟨(X.fc b).b ++ bs.take k, (X.fc b).lasts⟩) := by
 have same : Y.D = X.D -> Sm X Y := fun h => ⟨by rw [h], by rw [h], by rw [h], by rw [h]⟩
 rcases h with ⟨-, h0, h, hf⟩ | ⟨-, -, h0, h, hf⟩ | ⟨b, -, hl, ⟨-, h0, h, hf⟩ | ⟨-, -, h0, h, hf⟩ | ⟨-, -, h0, h, hf⟩⟩
 ·
  exact ⟨same h, .inl ⟨by omega, hf⟩⟩
 ·
  exact ⟨same h, .inl ⟨by omega, hf⟩⟩
 ·
  exact ⟨same h, .inl ⟨by omega, hf⟩⟩
 ·
  exact ⟨same h, .inl ⟨by omega, hf⟩⟩
 ·
  refine ⟨z3a h, ?_⟩
  rcases z1l X.D with ⟨h2, h3⟩ | ⟨h2, h3⟩
  ·
   rw [h2] at hf
   exact .inr ⟨b, bs.length, hl, Nat.le_refl _, fun _ => rfl, by simpa using hf⟩
  ·
   by_cases h4 : (chg X.D).2.1 = 0
   ·
    rw [if_pos h4] at hf
    exact .inl ⟨by rw [h0]; exact h3, hf⟩
   ·
    rw [if_neg h4] at hf
    refine .inr ⟨b, _, hl, ?_, fun h5 => absurd (h0.symm.trans h5) h3, hf⟩
    split
    ·
     omega
    ·
     exact Nat.le_refl _
theorem z0c (h : syO s X e Y) : Sm X Y /\ ((e ≠ 0 /\ Y.fc = X.fc) \/ (e = 0 /\ ∃ b, X.dir s = some b /\ Y.fc = setf X.fc b ⟨(X.fc b).b, (X.fc b).b.length⟩)) := by
 have same : Y.D = X.D -> Sm X Y := fun h => ⟨by rw [h], by rw [h], by rw [h], by rw [h]⟩
 rcases h with ⟨-, h0, h, hf⟩ | ⟨-, -, h0, h, hf⟩ | ⟨b, -, hl, ⟨-, h0, h, hf⟩ | ⟨-, h0, h, hf⟩⟩
 ·
  exact ⟨same h, .inl ⟨by omega, hf⟩⟩
 ·
  exact ⟨same h, .inl ⟨by omega, hf⟩⟩
 ·
  exact ⟨same h, .inl ⟨by omega, hf⟩⟩
 ·
  refine ⟨z3a h, ?_⟩
  rcases z1l X.D with ⟨h2, h3⟩ | ⟨h2, h3⟩
  ·
   rw [if_pos h2] at hf
   exact .inr ⟨by rw [h0, h3], b, hl, hf⟩
  ·
   rw [if_neg h2] at hf
   exact .inl ⟨by rw [h0]; exact h3, hf⟩
theorem z2z {n : Nat} (h : cuO s n X e Y) : Sm X Y /\ ((e ≠ 0 /\ Y.fc = X.fc) \/ (e = 0 /\ ∃ b, X.dir s = some b /\ n <= (X.fc b).b.length /\ Y.fc = setf X.fc b ⟨(X.fc b).b.take n, min n (X.fc b).lasts⟩)) := by
 have same : Y.D = X.D -> Sm X Y := fun h => ⟨by rw [h], by rw [h], by rw [h], by rw [h]⟩
 rcases h with ⟨-, h0, h, hf⟩ | ⟨-, -, h0, h, hf⟩ | ⟨-, -, -, h0, h, hf⟩ | ⟨b, -, -, hl, ⟨-, h0, h, hf⟩ | ⟨-, -, h0, h, hf⟩ | ⟨hn, -, h0, h, hf⟩⟩
 ·
  exact ⟨same h, .inl ⟨by omega, hf⟩⟩
 ·
  exact ⟨same h, .inl ⟨by omega, hf⟩⟩
 ·
  exact ⟨same h, .inl ⟨by omega, hf⟩⟩
 ·
  exact ⟨same h, .inl ⟨by omega, hf⟩⟩
 ·
  exact ⟨same h, .inl ⟨by omega, hf⟩⟩
 ·
  refine ⟨z3a h, ?_⟩
  rcases z1l X.D with ⟨h2, h3⟩ | ⟨h2, h3⟩
  ·
   rw [if_pos h2] at hf
   exact .inr ⟨by rw [h0, h3], b, hl, by omega, by simpa using hf⟩
  ·
   rw [if_neg h2] at hf
   exact .inl ⟨by rw [h0]; exact h3, hf⟩
theorem z2b (h : rnO s t X e Y) : Y.fc = X.fc /\ ((e ≠ 0 /\ Sm X Y) \/ (e = 0 /\ ∃ b, X.dir s = some b /\ Dn X Y (fput (fdel X.D.files s) t b) ⟨1, s, t, none⟩)) := by
 obtain ⟨h, hf⟩ := h
 have same : Y.D = X.D -> Sm X Y := fun h => ⟨by rw [h], by rw [h], by rw [h], by rw [h]⟩
 refine ⟨hf, ?_⟩
 rcases h with ⟨-, h0, h⟩ | ⟨-, -, h0, h⟩ | ⟨-, -, -, h0, h⟩ | ⟨b, -, -, hl, ⟨-, h0, h⟩ | ⟨-, h0, h⟩⟩
 ·
  exact .inl ⟨by omega, same h⟩
 ·
  exact .inl ⟨by omega, same h⟩
 ·
  exact .inl ⟨by omega, same h⟩
 ·
  exact .inl ⟨by omega, same h⟩
 ·
  rcases z1l X.D with ⟨h2, h3⟩ | ⟨h2, h3⟩
  ·
   rw [if_pos h2] at h
   obtain ⟨q1, q2, q3, -, q5⟩ := z01 X.D
   exact .inr ⟨by rw [h0, h3], b, hl, by rw [h]; simp only [Dk.ren, Dk.step, q1], by rw [h]; simp only [Dk.ren, Dk.step, q2], by rw [h]; simp only [Dk.ren, Dk.step, q3], by rw [h]; simp only [Dk.ren, Dk.step, q5]⟩
  ·
   rw [if_neg h2] at h
   exact .inl ⟨by rw [h0]; exact h3, z3a h⟩
theorem z1j (h : rmO s X e Y) : Y.fc = X.fc /\ ((e ≠ 0 /\ Sm X Y /\ (e = 6 -> X.dir s = none \/ X.dir s ≠ none)) \/ (e = 0 /\ ∃ b, X.dir s = some b /\ Dn X Y (fdel X.D.files s) ⟨2, s, ByteArray.empty, none⟩)) := by
 obtain ⟨h, hf⟩ := h
 have same : Y.D = X.D -> Sm X Y := fun h => ⟨by rw [h], by rw [h], by rw [h], by rw [h]⟩
 have em : e = 6 -> X.dir s = none \/ X.dir s ≠ none := fun _ => Classical.em _
 refine ⟨hf, ?_⟩
 rcases h with ⟨-, h0, h⟩ | ⟨-, -, h0, h⟩ | ⟨b, -, hl, ⟨-, h0, h⟩ | ⟨-, h0, h⟩⟩
 ·
  exact .inl ⟨by omega, same h, em⟩
 ·
  exact .inl ⟨by omega, same h, em⟩
 ·
  exact .inl ⟨by omega, same h, em⟩
 ·
  rcases z1l X.D with ⟨h2, h3⟩ | ⟨h2, h3⟩
  ·
   rw [if_pos h2] at h
   obtain ⟨q1, q2, q3, -, q5⟩ := z01 X.D
   exact .inr ⟨by rw [h0, h3], b, hl, by rw [h]; simp only [Dk.rem, Dk.step, q1], by rw [h]; simp only [Dk.rem, Dk.step, q2], by rw [h]; simp only [Dk.rem, Dk.step, q3], by rw [h]; simp only [Dk.rem, Dk.step, q5]⟩
  ·
   rw [if_neg h2] at h
   exact .inl ⟨by rw [h0]; exact h3, z3a h, em⟩
theorem z0k (h : sdO X e Y) : Y.fc = X.fc /\ ((e ≠ 0 /\ Sm X Y) \/ (e = 0 /\ Y.D.files = X.D.files /\ Y.D.lasting = X.D.files /\ Y.D.steps = [] /\ Y.D.cap = X.D.cap)) := by
 obtain ⟨h, hf⟩ := h
 have same : Y.D = X.D -> Sm X Y := fun h => ⟨by rw [h], by rw [h], by rw [h], by rw [h]⟩
 refine ⟨hf, ?_⟩
 rcases h with ⟨-, h0, h⟩ | ⟨-, h0, h⟩
 ·
  exact .inl ⟨by omega, same h⟩
 ·
  rcases z1l X.D with ⟨h2, h3⟩ | ⟨h2, h3⟩
  ·
   rw [if_pos h2] at h
   obtain ⟨q1, q2, q3, -, q5⟩ := z01 X.D
   exact .inr ⟨by rw [h0, h3], by rw [h]; simp only [Dk.sdir, q1], by rw [h]; simp only [Dk.sdir, q1], by rw [h]; simp only [Dk.sdir], by rw [h]; simp only [Dk.sdir, q5]⟩
  ·
   rw [if_neg h2] at h
   exact .inl ⟨by rw [h0]; exact h3, z3a h⟩
theorem z3u (h : sdO X 0 Y) {f : Dir} (hf : Rch Y f) : f = X.dir := by
 obtain ⟨-, ⟨h0, -⟩ | ⟨-, h1, h2, h3, -⟩⟩ := z0k h
 ·
  exact absurd rfl h0
 ·
  rcases hf with hf | ⟨bs, hf⟩
  ·
   rw [hf]; unfold Ds.dir; rw [h1]
  ·
   rw [hf, h3, z8e, h2]; rfl
end Go.Log
end
section
namespace Go.Log
open Go.Vfs
structure Sh where
 s : Nat
 first : Nat
 sn : Option (List Nat)
 bm : Nat
 bs : Nat
 cl : List (Nat × Nat × List (List Nat))
 m : Nat
 b : Nat
 rs : List (List Nat)
 q : Nat
 du : Nat
def Sh.closed (h : Sh) : List (List Nat) := h.cl.flatMap fun c => c.2.2
def Sh.tab (h : Sh) : List (Nat × Nat) := h.cl.map (fun c => (c.1, c.2.1)) ++ [(h.m, h.b)]
def Sh.blk (h : Sh) (k : Nat) : Option Nat := (h.tab.find? fun p => decide (p.1 = k)).map Prod.snd
structure Shape (nm : ByteArray) (f : Dir) (fc : Nat -> Fl) (h : Sh) : Prop where
 f1 : 1 <= h.first
 s1 : h.s <= mxn
 man : f (manf nm) = some h.bm
 manc : fc h.bm = ⟨recd (mrec h.s h.first), (recd (mrec h.s h.first)).length⟩
 snap : (h.s = 0 /\ h.sn = none) \/ (1 <= h.s /\ ∃ x, h.sn = some x /\ Recs [x] /\ f (snf nm h.s) = some h.bs /\ fc h.bs = ⟨recd x, (recd x).length⟩)
 asc : h.tab.Pairwise fun a b => a.1 < b.1
 rng : ∀ p ∈ h.tab, h.first <= p.1 /\ p.1 <= mxn
 segs : ∀ k, h.first <= k -> k <= mxn -> f (sgf nm k) = h.blk k
 clc : ∀ c ∈ h.cl, fc c.2.1 = ⟨enc c.2.2, (enc c.2.2).length⟩ /\ Recs c.2.2
 lastb : (fc h.b).b = (enc h.rs).take h.q
 lastq : h.q <= (enc h.rs).length
 lastl : (enc (h.rs.take h.du)).length <= (fc h.b).lasts /\ (fc h.b).lasts <= h.q
 lastd : h.du <= h.rs.length
 lastr : Recs h.rs
 apart : h.b ≠ h.bm /\ (1 <= h.s -> h.b ≠ h.bs) /\ ∀ c ∈ h.cl, c.2.1 ≠ h.b
theorem ze9 {l : List (Nat × Nat)} (ha : l.Pairwise fun a b => a.1 < b.1) {k x : Nat} (h : (k, x) ∈ l) : (l.find? fun p => decide (p.1 = k)).map Prod.snd = some x := by
 induction l with
 | nil => cases h
 | cons p l ih =>
  rw [List.pairwise_cons] at ha
  rw [List.find?_cons]
  rcases List.mem_cons.1 h with h | h
  ·
   subst h; simp
  ·
   have := ha.1 _ h
   simp only at this
   rw [decide_eq_false (by omega)]
   exact ih ha.2 h
theorem z7p {l : List (Nat × Nat)} {k : Nat} (h : ∀ p ∈ l, p.1 ≠ k) : (l.find? fun p => decide (p.1 = k)).map Prod.snd = none := by
 rw [Option.map_eq_none_iff, List.find?_eq_none]
 intro p hp; simpa using h p hp
theorem ze8 {l : List (Nat × Nat)} {k x : Nat} (h : (l.find? fun p => decide (p.1 = k)).map Prod.snd = some x) : (k, x) ∈ l := by
 obtain ⟨p, h1, h2⟩ := Option.map_eq_some_iff.1 h
 have h3 := List.find?_some h1
 have h4 := List.mem_of_find?_eq_some h1
 obtain ⟨a, c⟩ := p
 simp only [decide_eq_true_eq] at h3 h2
 subst h3 h2; exact h4
variable {nm : ByteArray} {f g : Dir} {fc fc' : Nat -> Fl} {h : Sh}
def Sh.names (nm : ByteArray) (h : Sh) (t : ByteArray) : Prop := t = manf nm \/ (1 <= h.s /\ t = snf nm h.s) \/ ∃ k, h.first <= k /\ k <= mxn /\ t = sgf nm k
def Sh.blocks (h : Sh) (b : Nat) : Prop := b = h.bm \/ (1 <= h.s /\ b = h.bs) \/ (∃ c ∈ h.cl, b = c.2.1) \/ b = h.b
theorem zah (h : Sh) : (h.m, h.b) ∈ h.tab := by unfold Sh.tab; simp
theorem mem_tab' {h : Sh} {c : Nat × Nat × List (List Nat)} (hc : c ∈ h.cl) : (c.1, c.2.1) ∈ h.tab := by
 unfold Sh.tab
 exact List.mem_append_left _ (List.mem_map.2 ⟨c, hc, rfl⟩)
theorem Shape.blkOf (hs : Shape nm f fc h) {k x : Nat} (hp : (k, x) ∈ h.tab) : f (sgf nm k) = some x := by
 have hr := hs.rng _ hp
 rw [hs.segs k hr.1 hr.2]
 exact ze9 hs.asc hp
theorem Shape.lastAt (hs : Shape nm f fc h) : f (sgf nm h.m) = some h.b := hs.blkOf (zah h)
theorem Shape.m1 (hs : Shape nm f fc h) : h.first <= h.m /\ h.m <= mxn := hs.rng _ (zah h)
theorem Shape.blocks_at (hs : Shape nm f fc h) {b : Nat} (hb : h.blocks b) : ∃ t, f t = some b := by
 rcases hb with rfl | ⟨h1, rfl⟩ | ⟨c, hc, rfl⟩ | rfl
 ·
  exact ⟨_, hs.man⟩
 ·
  rcases hs.snap with ⟨h0, -⟩ | ⟨-, x, -, -, h2, -⟩
  ·
   omega
  ·
   exact ⟨_, h2⟩
 ·
  exact ⟨_, hs.blkOf (mem_tab' hc)⟩
 ·
  exact ⟨_, hs.lastAt⟩
theorem Shape.ofDir (hs : Shape nm f fc h) (hg : ∀ t, h.names nm t -> g t = f t) : Shape nm g fc h := by
  have e : ∀ k, h.first <= k -> k <= mxn -> g (sgf nm k) = f (sgf nm k) := fun k h1 h2 => hg _ (.inr (.inr ⟨k, h1, h2, rfl⟩))
  exact { hs with
    man := (hg _ (.inl rfl)).trans hs.man
    snap := hs.snap.imp id fun ⟨h1, x, h2, h3, h4, h5⟩ => ⟨h1, x, h2, h3, (hg _ (.inr (.inl ⟨h1, rfl⟩))).trans h4, h5⟩
    segs := fun k h1 h2 => (e k h1 h2).trans (hs.segs k h1 h2) }
theorem Shape.ofCon (hs : Shape nm f fc h) (hg : ∀ b, h.blocks b -> fc' b = fc b) : Shape nm f fc' h := by
  have eb := hg h.b (.inr (.inr (.inr rfl)))
  exact { hs with
    manc := (hg _ (.inl rfl)).trans hs.manc
    snap := hs.snap.imp id fun ⟨h1, x, h2, h3, h4, h5⟩ => ⟨h1, x, h2, h3, h4, (hg _ (.inr (.inl ⟨h1, rfl⟩))).trans h5⟩
    clc := fun c hc => ⟨(hg _ (.inr (.inr (.inl ⟨c, hc, rfl⟩)))).trans (hs.clc c hc).1, (hs.clc c hc).2⟩
    lastb := by rw [eb]; exact hs.lastb
    lastl := by rw [eb]; exact hs.lastl }
theorem z0g (fc : Nat -> Fl) (b : Nat) (x : Fl) : setf fc b x b = x := by simp [setf]
theorem z0h (fc : Nat -> Fl) {b c : Nat} (x : Fl) (h : c ≠ b) : setf fc b x c = fc c := by simp [setf, h]
theorem Shape.setOther (hs : Shape nm f fc h) {b : Nat} (x : Fl) (hb : ¬ h.blocks b) : Shape nm f (setf fc b x) h :=
 hs.ofCon fun c hc => z0h fc x (fun e => hb (e ▸ hc))
theorem Shape.setLast (hs : Shape nm f fc h) (x : Fl) (rs : List (List Nat)) (q du : Nat) (h1 : x.b = (enc rs).take q) (h2 : q <= (enc rs).length) (h3 : (enc (rs.take du)).length <= x.lasts /\ x.lasts <= q) (h4 : du <= rs.length) (h5 : Recs rs) :
    Shape nm f (setf fc h.b x) { h with rs := rs, q := q, du := du } := by
  obtain ⟨a1, a2, a3⟩ := hs.apart
  exact { f1 := hs.f1, s1 := hs.s1, man := hs.man, asc := hs.asc, rng := hs.rng, segs := hs.segs, lastq := h2, lastd := h4, lastr := h5, apart := hs.apart
          manc := by show setf fc h.b x h.bm = _; rw [z0h _ _ a1.symm]; exact hs.manc
          snap := hs.snap.imp id fun ⟨g1, y, g2, g3, g4, g5⟩ => ⟨g1, y, g2, g3, g4, by show setf fc h.b x h.bs = _; rw [z0h _ _ (a2 g1).symm]; exact g5⟩
          clc := fun c hc => ⟨by rw [z0h _ _ (a3 c hc)]; exact (hs.clc c hc).1, (hs.clc c hc).2⟩
          lastb := by show (setf fc h.b x h.b).b = _; rw [z0g]; exact h1
          lastl := by show _ <= (setf fc h.b x h.b).lasts /\ (setf fc h.b x h.b).lasts <= _; rw [z0g]; exact h3 }
theorem z1v (x : List Nat) : enc [x] = recd x := by simp [enc]
theorem Recs.one {x : List Nat} (h1 : x.length <= mxr) (h2 : ∀ y ∈ x, y < 256) : Recs [x] := fun b hb => by rw [List.mem_singleton.1 hb]; exact ⟨h1, h2⟩
theorem Shape.append (hs : Shape nm f fc h) (hq : h.q = (enc h.rs).length) {x : List Nat} (hx : Recs [x]) {k : Nat} (hk : k <= (recd x).length) :
  Shape nm f (setf fc h.b ⟨(fc h.b).b ++ (recd x).take k, (fc h.b).lasts⟩) { h with rs := h.rs ++ [x], q := h.q + k } := by
 have hl := hs.lastl
 refine hs.setLast _ (h.rs ++ [x]) (h.q + k) h.du ?_ ?_ ?_ ?_ (hs.lastr.append hx)
 ·
  show (fc h.b).b ++ (recd x).take k = _
  rw [hs.lastb, z1g, z1v, List.take_append, List.take_of_length_le (show (enc h.rs).length <= h.q by omega), List.take_of_length_le (show (enc h.rs).length <= h.q + k by omega), show h.q + k - (enc h.rs).length = k by omega]
 ·
  rw [z1g, z1v, List.length_append]; omega
 ·
  rw [List.take_append_of_le_length hs.lastd]
  exact ⟨hl.1, by show (fc h.b).lasts <= _; omega⟩
 ·
  rw [List.length_append]; have := hs.lastd; omega
theorem Shape.synced (hs : Shape nm f fc h) (hq : h.q = (enc h.rs).length) : Shape nm f (setf fc h.b ⟨(fc h.b).b, (fc h.b).b.length⟩) { h with du := h.rs.length } := by
 have hl : (fc h.b).b.length = h.q := by rw [hs.lastb, List.length_take, hq]; omega
 refine hs.setLast _ h.rs h.q h.rs.length hs.lastb hs.lastq ?_ (Nat.le_refl _) hs.lastr
 show _ <= (fc h.b).b.length /\ (fc h.b).b.length <= _
 rw [hl, List.take_length, hq]; exact ⟨Nat.le_refl _, Nat.le_refl _⟩
theorem Shape.wholes (hs : Shape nm f fc h) : ∃ j, h.du <= j /\ j <= h.rs.length /\ whole (fc h.b).b = (h.rs.take j, (enc (h.rs.take j)).length, true) /\ (enc (h.rs.take j)).length <= (fc h.b).b.length /\ (fc h.b).b.length = h.q /\ (h.q = (enc h.rs).length -> j = h.rs.length) := by
 have hl : (fc h.b).b.length = h.q := by rw [hs.lastb, List.length_take]; have := hs.lastq; omega
 obtain ⟨j, h1, h2, h3, h4⟩ := z88 hs.lastr hs.lastq
 refine ⟨j, ?_, h1, by rw [hs.lastb]; exact h2, by omega, hl, fun hq => ?_⟩
 ·
  rcases Nat.lt_or_ge j h.du with hj | hj
  ·
   have h5 := h4 (by have := hs.lastd; omega)
   have h6 := z1c (l := h.rs) (show j + 1 <= h.du from hj)
   have := hs.lastl
   omega
  ·
   exact hj
 ·
  rcases Nat.lt_or_ge j h.rs.length with hj | hj
  ·
   have h5 := h4 hj
   have h6 := z1c (l := h.rs) (show j + 1 <= h.rs.length from hj)
   rw [List.take_length] at h6
   omega
  ·
   omega
theorem Shape.cut (hs : Shape nm f fc h) {j : Nat} (h1 : h.du <= j) (h2 : j <= h.rs.length) (h3 : (enc (h.rs.take j)).length <= (fc h.b).b.length) :
  Shape nm f (setf fc h.b ⟨(fc h.b).b.take (enc (h.rs.take j)).length, min (enc (h.rs.take j)).length (fc h.b).lasts⟩) { h with rs := h.rs.take j, q := (enc (h.rs.take j)).length } := by
 have hl : (fc h.b).b.length = h.q := by rw [hs.lastb, List.length_take]; have := hs.lastq; omega
 refine hs.setLast _ (h.rs.take j) (enc (h.rs.take j)).length h.du ?_ (Nat.le_refl _) ?_ ?_ (hs.lastr.take j)
 ·
  show (fc h.b).b.take _ = _
  rw [hs.lastb, List.take_take, Nat.min_eq_left (by omega), List.take_length]
  have e : enc h.rs = enc (h.rs.take j) ++ enc (h.rs.drop j) := by rw [<- z1g, List.take_append_drop]
  rw [e, List.take_left]
 ·
  rw [List.take_take, Nat.min_eq_left h1]
  have := hs.lastl
  have h6 := z1c (l := h.rs) h1
  refine ⟨?_, Nat.min_le_left _ _⟩
  show _ <= min _ _
  omega
 ·
  rw [List.length_take]; omega
theorem Shape.uncut (hs : Shape nm f fc h) {j : Nat} (h1 : h.du <= j) (h2 : j <= h.rs.length) (h3 : (enc (h.rs.take j)).length = (fc h.b).b.length) :
  Shape nm f fc { h with rs := h.rs.take j, q := (enc (h.rs.take j)).length } := by
 have hl : (fc h.b).b.length = h.q := by rw [hs.lastb, List.length_take]; have := hs.lastq; omega
 have hc := hs.cut h1 h2 (by omega)
 rw [h3, List.take_length, Nat.min_eq_right (by have := hs.lastl; omega)] at hc
 have e : setf fc h.b ⟨(fc h.b).b, (fc h.b).lasts⟩ = fc := by
  funext c
  by_cases e : c = h.b
  ·
   subst e; rw [z0g]
  ·
   rw [z0h _ _ e]
 rw [e] at hc
 exact h3 ▸ hc
def Sh.grow (h : Sh) (n b : Nat) : Sh := { h with cl := h.cl ++ [(h.m, h.b, h.rs)], m := n, b := b, rs := [], q := 0, du := 0 }
theorem Shape.grow (hs : Shape nm f fc h) (hq : h.q = (enc h.rs).length) (hd : h.du = h.rs.length) {n b : Nat} (hn : h.m < n) (hn2 : n <= mxn) (hb : ¬ h.blocks b) (hfc : fc b = ⟨[], 0⟩) : Shape nm (f.put (sgf nm n) b) fc (h.grow n b) := by
 have hf1 := hs.f1
 have hm := hs.m1
 have n1 : 1 <= n := by omega
 have ht : (h.grow n b).tab = h.tab ++ [(n, b)] := by unfold Sh.grow Sh.tab; simp
 have top : ∀ p ∈ h.tab, p.1 <= h.m := by
  intro p hp
  unfold Sh.tab at hp
  rcases List.mem_append.1 hp with hp | hp
  ·
   have ha := hs.asc
   unfold Sh.tab at ha
   have := (List.pairwise_append.1 ha).2.2 p hp (h.m, h.b) (by simp)
   simp only at this; omega
  ·
   rw [List.mem_singleton.1 hp]; exact Nat.le_refl _
 have hlb : (fc h.b).b = enc h.rs := by rw [hs.lastb, hq, List.take_length]
 have hll : (fc h.b).lasts = (enc h.rs).length := by have := hs.lastl; rw [hd, List.take_length] at this; omega
 refine { f1 := hf1, s1 := hs.s1, man := ?_, manc := hs.manc, snap := ?_, asc := ?_, rng := ?_, segs := ?_, clc := ?_, lastb := ?_, lastq := Nat.zero_le _, lastl := ?_, lastd := Nat.zero_le _, lastr := (fun x hx => by cases hx), apart := ?_ }
 ·
  show (if manf nm = sgf nm n then _ else _) = _
  rw [if_neg (fun e => z2r nm n1 hn2 e.symm)]; exact hs.man
 ·
  refine hs.snap.imp id fun ⟨g1, y, g2, g3, g4, g5⟩ => ⟨g1, y, g2, g3, ?_, g5⟩
  show (if snf nm h.s = sgf nm n then _ else _) = _
  rw [if_neg (fun e => z2t nm n1 hn2 e.symm)]; exact g4
 ·
  rw [ht, List.pairwise_append]
  refine ⟨hs.asc, by simp, fun p hp p' hp' => ?_⟩
  rw [List.mem_singleton.1 hp']
  have := top p hp
  show p.1 < n
  omega
 ·
  intro p hp
  rw [ht] at hp
  rcases List.mem_append.1 hp with hp | hp
  ·
   exact hs.rng p hp
  ·
   rw [List.mem_singleton.1 hp]; exact ⟨by show h.first <= n; omega, hn2⟩
 ·
  intro k h1 h2
  have k1 : h.first <= k := h1
  unfold Sh.blk
  rw [ht]
  show (if sgf nm k = sgf nm n then _ else _) = _
  by_cases e : k = n
  ·
   subst e
   rw [if_pos rfl, List.find?_append]
   have : h.tab.find? (fun p => decide (p.1 = k)) = none := by
    rw [List.find?_eq_none]; intro p hp; have := top p hp; simp; omega
   rw [this]; simp
  ·
   rw [if_neg (fun e2 => e (z7g nm (by omega) h2 n1 hn2 e2)), hs.segs k k1 h2, List.find?_append]
   unfold Sh.blk
   have : [(n, b)].find? (fun p => decide (p.1 = k)) = none := by simp; omega
   rw [this, Option.or_none]
 ·
  intro c hc
  have hc' : c ∈ h.cl ++ [(h.m, h.b, h.rs)] := hc
  rcases List.mem_append.1 hc' with hc' | hc'
  ·
   exact hs.clc c hc'
  ·
   rw [List.mem_singleton.1 hc']
   exact ⟨by cases e : fc h.b; rw [e] at hlb hll; simp only at hlb hll; rw [hlb, hll], hs.lastr⟩
 ·
  show (fc b).b = _
  rw [hfc]; rfl
 ·
  show _ <= (fc b).lasts /\ (fc b).lasts <= _
  rw [hfc]; exact ⟨Nat.le_refl _, Nat.le_refl _⟩
 ·
  refine ⟨fun e => hb (.inl e), fun g1 e => hb (.inr (.inl ⟨g1, e⟩)), fun c hc => ?_⟩
  have hc' : c ∈ h.cl ++ [(h.m, h.b, h.rs)] := hc
  rcases List.mem_append.1 hc' with hc' | hc'
  ·
   exact fun e => hb (.inr (.inr (.inl ⟨c, hc', e.symm⟩)))
  ·
   rw [List.mem_singleton.1 hc']; exact fun e => hb (.inr (.inr (.inr e.symm)))
theorem z0u (h : Sh) (n b : Nat) : (h.grow n b).closed = h.closed ++ h.rs := by unfold Sh.grow Sh.closed; simp
def Sh.new (s n : Nat) (x : List Nat) (bm bs b : Nat) : Sh := ⟨s, n, some x, bm, bs, [], n, b, [], 0, 0⟩
theorem Shape.new {s n bm bs b : Nat} {x : List Nat} (hs1 : 1 <= s) (hs2 : s <= mxn) (hn1 : 1 <= n) (hn2 : n <= mxn) (hx : Recs [x]) (h1 : f (manf nm) = some bm) (h2 : fc bm = ⟨recd (mrec s n), (recd (mrec s n)).length⟩) (h3 : f (snf nm s) = some bs) (h4 : fc bs = ⟨recd x, (recd x).length⟩)
  (h5 : f (sgf nm n) = some b) (h6 : fc b = ⟨[], 0⟩) (h7 : ∀ k, n < k -> k <= mxn -> f (sgf nm k) = none) (h8 : b ≠ bm) (h9 : b ≠ bs) : Shape nm f fc (Sh.new s n x bm bs b) := by
 refine { f1 := hn1, s1 := hs2, man := h1, manc := h2, snap := .inr ⟨hs1, x, rfl, hx, h3, h4⟩, asc := List.pairwise_singleton _ _, rng := ?_, segs := ?_, clc := (fun c hc => by cases hc), lastb := ?_, lastq := Nat.zero_le _, lastl := ?_, lastd := Nat.zero_le _, lastr := (fun x hx => by cases hx), apart := ⟨h8, fun _ => h9, fun c hc => by cases hc⟩ }
 ·
  intro p hp
  rw [List.mem_singleton.1 (show p ∈ [(n, b)] from hp)]; exact ⟨Nat.le_refl _, hn2⟩
 ·
  intro k k1 k2
  have k1' : n <= k := k1
  show f (sgf nm k) = ([(n, b)].find? fun p => decide (p.1 = k)).map Prod.snd
  by_cases e : k = n
  ·
   subst e; rw [h5]; simp
  ·
   rw [h7 k (by omega) k2]; simp; omega
 ·
  show (fc b).b = _
  rw [h6]; rfl
 ·
  show _ <= (fc b).lasts /\ (fc b).lasts <= _
  rw [h6]; exact ⟨Nat.le_refl _, Nat.le_refl _⟩
end Go.Log
end
section
namespace Go.Log
open Go.Vfs
variable {nm : ByteArray} {X Y Z : Ds} {P P' : Sh -> Prop} {e : Int} {s t : ByteArray} {h g : Sh} {f : Dir} {fc : Nat -> Fl}
structure In (nm : ByteArray) (X : Ds) (P : Sh -> Prop) : Prop where
 wf : Wf X
 all : ∀ f, Rch X f -> ∃ h, P h /\ Shape nm f X.fc h
theorem In.mono (h : In nm X P) (hP : ∀ h, P h -> P' h) : In nm X P' := ⟨h.wf, fun f hf => (h.all f hf).imp fun _ g => ⟨hP _ g.1, g.2⟩⟩
theorem In.live (h : In nm X P) : ∃ h, P h /\ Shape nm X.dir X.fc h := h.all _ (.inl rfl)
theorem In.fresh (h : In nm X P) {b : Nat} (hb : ∀ c, Ref X.D c -> c ≠ b) : In nm X fun h => P h /\ ¬ h.blocks b := by
 refine ⟨h.wf, fun f hf => ?_⟩
 obtain ⟨g, h1, h2⟩ := h.all f hf
 refine ⟨g, ⟨h1, fun hb2 => ?_⟩, h2⟩
 obtain ⟨t, ht⟩ := h2.blocks_at hb2
 exact hb b (hf.ref h.wf t b ht) rfl
theorem In.con (h : In nm X P) (hs : Sm X Y) (hf : ∀ h b, P h -> h.blocks b -> Y.fc b = X.fc b) : In nm Y P := by
 refine ⟨hs.wf h.wf, fun f hr => ?_⟩
 obtain ⟨g, h1, h2⟩ := h.all f (hs.rch hr)
 exact ⟨g, h1, h2.ofCon fun b hb => hf g b h1 hb⟩
theorem In.same (h : In nm X P) (hs : Sm X Y) (hf : Y.fc = X.fc) : In nm Y P := h.con hs fun _ b _ _ => by rw [hf]
theorem In.write (h : In nm X P) (hs : Sm X Y) {b : Nat} {x : Fl} (hf : Y.fc = setf X.fc b x) (hP : ∀ h f, P h -> Shape nm f X.fc h -> ∃ h', P' h' /\ Shape nm f (setf X.fc b x) h') : In nm Y P' := by
 refine ⟨hs.wf h.wf, fun f hr => ?_⟩
 obtain ⟨g, h1, h2⟩ := h.all f (hs.rch hr)
 rw [hf]; exact hP g f h1 h2
theorem In.other (h : In nm X P) (hs : Sm X Y) {b : Nat} {x : Fl} (hf : Y.fc = setf X.fc b x) (hb : ∀ h, P h -> ¬ h.blocks b) : In nm Y P :=
 h.con hs fun g c h1 h2 => by rw [hf]; exact z0h _ _ (fun e => hb g h1 (e ▸ h2))
theorem In.step (h : In nm X P) {l : List (ByteArray × Nat)} {st : Stp} (hd : Dn X Y l st) (hw : st.act = 0 -> ∃ b, st.f = some b) (hl : flook l = Dir.again X.dir st) (hf : ∀ h b, P h -> h.blocks b -> Y.fc b = X.fc b) (hP : ∀ h, P h -> P' h)
  (ha : ∀ f h, P h -> Shape nm f Y.fc h -> ∃ h', P' h' /\ Shape nm (Dir.again f st) Y.fc h') : In nm Y P' := by
 refine ⟨hd.wf h.wf hw, fun f hr => ?_⟩
 have key : ∀ g, Rch X g -> ∃ h, P h /\ Shape nm g Y.fc h := fun g hg => by
  obtain ⟨q, h1, h2⟩ := h.all g hg
  exact ⟨q, h1, h2.ofCon fun b hb => hf q b h1 hb⟩
 rcases hd.rch hr with e | ⟨g, hg, e | e⟩
 ·
  obtain ⟨q, h1, h2⟩ := key X.dir (.inl rfl)
  rw [e, hl]; exact ha _ q h1 h2
 ·
  obtain ⟨q, h1, h2⟩ := key g (.inr hg)
  rw [e]; exact ⟨q, hP q h1, h2⟩
 ·
  obtain ⟨q, h1, h2⟩ := key g (.inr hg)
  rw [e]; exact ha _ q h1 h2
theorem z2j (f : Dir) (s : ByteArray) (b : Nat) : f.again ⟨0, s, ByteArray.empty, some b⟩ = if (f s).isSome then f else f.put s b := by
 unfold Dir.again; rw [if_pos rfl]; rfl
theorem zc7 (f : Dir) (s t : ByteArray) : f.again ⟨1, s, t, none⟩ = match f s with | none => f | some b => (f.del s).put t b := rfl
theorem z7i (f : Dir) (s : ByteArray) : f.again ⟨2, s, ByteArray.empty, none⟩ = f.del s := rfl
theorem Shape.put (hs : Shape nm f fc h) (ht : ¬ h.names nm t) (b : Nat) : Shape nm (Dir.put f t b) fc h :=
 hs.ofDir fun u hu => if_neg fun e : u = t => ht (e ▸ hu)
theorem Shape.del (hs : Shape nm f fc h) (ht : h.names nm t -> f t = none) : Shape nm (Dir.del f t) fc h :=
 hs.ofDir fun u hu => by
  unfold Dir.del
  split
  ·
   rename_i e
   subst e; exact (ht hu).symm
  ·
   rfl
theorem In.made (h : In nm X P) {b : Nat} (hb : ∀ c, Ref X.D c -> c ≠ b) (hn : X.dir s = none) (hd : Dn X Y (X.D.files ++ [(s, b)]) ⟨0, s, ByteArray.empty, some b⟩) (hf : Y.fc = fun k => if k = b then ⟨[], 0⟩ else X.fc k) (hs : ∀ f h, P h -> Shape nm f Y.fc h -> ¬ h.names nm s) : In nm Y fun h => P h /\ ¬ h.blocks b := by
 refine (h.fresh hb).step hd (fun _ => ⟨b, rfl⟩) ?_ (fun g c hg hc => ?_) (fun _ g => g) (fun f g hg hsh => ?_)
 ·
  rw [z2j, hn, z0e hn]; rfl
 ·
  rw [hf]; exact if_neg fun e : c = b => hg.2 (e ▸ hc)
 ·
  refine ⟨g, hg, ?_⟩
  rw [z2j]
  split
  ·
   exact hsh
  ·
   exact hsh.put (hs f g hg.1 hsh) b
theorem In.rm (h : In nm X P) (hd : Dn X Y (fdel X.D.files s) ⟨2, s, ByteArray.empty, none⟩) (hf : Y.fc = X.fc) (hs : ∀ f h, P h -> Shape nm f Y.fc h -> h.names nm s -> f s = none) : In nm Y P := by
 refine h.step hd (fun e => by cases e) ?_ (fun g c hg hc => by rw [hf]) (fun _ g => g) (fun f g hg hsh => ?_)
 ·
  rw [z7i, z0l]; rfl
 ·
  exact ⟨g, hg, by rw [z7i]; exact hsh.del (hs f g hg hsh)⟩
theorem In.grow (h : In nm X (· = g)) (hq : g.q = (enc g.rs).length) (hdu : g.du = g.rs.length) {n b : Nat} (hn : g.m < n) (hn2 : n <= mxn) (hb : ∀ c, Ref X.D c -> c ≠ b) (h0 : X.dir (sgf nm n) = none) (hd : Dn X Y (X.D.files ++ [(sgf nm n, b)]) ⟨0, sgf nm n, ByteArray.empty, some b⟩) (hf : Y.fc = fun k => if k = b then ⟨[], 0⟩ else X.fc k) :
  In nm Y (fun h => (h = g \/ h = g.grow n b) /\ ¬ g.blocks b) := by
 have hne : ¬ g.blocks b := by
  obtain ⟨q, ⟨rfl, h1⟩, -⟩ := (h.fresh hb).live
  exact h1
 refine (h.fresh hb).step hd (fun _ => ⟨b, rfl⟩) ?_ (fun q c hg hc => ?_) (fun q hq => ⟨.inl hq.1, hne⟩) (fun f q hg hsh => ?_)
 ·
  rw [z2j, h0, z0e h0]; rfl
 ·
  rw [hf]; exact if_neg fun e : c = b => hg.2 (e ▸ hc)
 ·
  obtain ⟨rfl, h1⟩ := hg
  rw [z2j]
  split
  ·
   exact ⟨q, ⟨.inl rfl, hne⟩, hsh⟩
  ·
   exact ⟨_, ⟨.inr rfl, hne⟩, hsh.grow hq hdu hn hn2 h1 (by rw [hf]; exact if_pos rfl)⟩
theorem In.synced (h : In nm X (· = g)) (hq : g.q = (enc g.rs).length) (hy : syO (sgf nm g.m) X 0 Y) : In nm Y (· = { g with du := g.rs.length }) /\ Sm X Y := by
 obtain ⟨hs, ⟨h0, -⟩ | ⟨-, b, hb, hf⟩⟩ := z0c hy
 ·
  exact absurd rfl h0
 ·
  obtain ⟨q, rfl, h1⟩ := h.live
  have e : b = q.b := Option.some.inj (hb.symm.trans h1.lastAt)
  subst e
  refine ⟨h.write hs hf fun g' f hg hsh => ?_, hs⟩
  subst hg
  exact ⟨_, rfl, hsh.synced hq⟩
theorem zd7 {l : List ByteArray} (hs : s ∈ l) : sgn nm s <= nxL nm l /\ snn nm s <= nxL nm l := by
 induction l with
 | nil => cases hs
 | cons a l ih =>
  show sgn nm s <= max (max (sgn nm a) (snn nm a)) (nxL nm l) /\ snn nm s <= max (max (sgn nm a) (snn nm a)) (nxL nm l)
  rcases List.mem_cons.1 hs with rfl | hs
  ·
   omega
  ·
   have := ih hs; omega
theorem z6z {b : Nat} (h : X.dir s = some b) : s ∈ X.D.files.map Prod.fst := List.mem_map.2 ⟨_, zo h, rfl⟩
theorem zd8 {k b : Nat} (h1 : 1 <= k) (h2 : k <= mxn) (h : X.dir (sgf nm k) = some b) : k <= nx nm X := by
 have := (zd7 (nm := nm) (z6z h)).1
 rwa [z1o nm h1 h2] at this
theorem zam {k b : Nat} (h1 : 1 <= k) (h2 : k <= mxn) (h : X.dir (snf nm k) = some b) : k <= nx nm X := by
 have := (zd7 (nm := nm) (z6z h)).2
 rwa [z2x nm h1 h2] at this
theorem z48 {k : Nat} (h1 : nx nm X < k) (h2 : k <= mxn) : X.dir (sgf nm k) = none /\ X.dir (snf nm k) = none := by
 constructor
 ·
  cases e : X.dir (sgf nm k) with
  | none => rfl
  | some b => have := zd8 (by omega) h2 e; omega
 ·
  cases e : X.dir (snf nm k) with
  | none => rfl
  | some b => have := zam (by omega) h2 e; omega
theorem z5d (hs : Sm X Y) : nx nm Y = nx nm X := by unfold nx; rw [hs.files]
theorem Shape.nx (hs : Shape nm X.dir X.fc h) : h.m <= nx nm X /\ h.s <= nx nm X := by
 have := hs.m1; have := hs.f1
 refine ⟨zd8 (by omega) (by omega) hs.lastAt, ?_⟩
 rcases hs.snap with ⟨h0, -⟩ | ⟨h1, x, -, -, h2, -⟩
 ·
  omega
 ·
  exact zam h1 hs.s1 h2
theorem zd1 {k : Nat} (h1 : 1 <= k) (h2 : k <= mxn) (hk : k ≠ h.s) (hs1 : h.s <= mxn) (hf : 1 <= h.first) : ¬ h.names nm (snf nm k) := by
 rintro (e | ⟨g1, e⟩ | ⟨j, g1, g2, e⟩)
 ·
  exact z6s nm h1 h2 e
 ·
  exact hk (zh4 nm h1 h2 g1 hs1 e)
 ·
  exact z2t nm (by omega) g2 e.symm
theorem z4o (hs1 : h.s <= mxn) (hf : 1 <= h.first) : ¬ h.names nm (newf nm) := by
 rintro (e | ⟨g1, e⟩ | ⟨j, g1, g2, e⟩)
 ·
  exact zbi nm e.symm
 ·
  exact z6t nm g1 hs1 e.symm
 ·
  exact z2s nm (by omega) g2 e.symm
end Go.Log
end
section
namespace Go.Log
open Go.Vfs
variable {nm : ByteArray} {X Y Z : Ds} {P P' : Sh -> Prop} {e : Int} {s t : ByteArray} {h g : Sh} {f : Dir} {fc : Nat -> Fl} {L L' : Lg} {x : List Nat}
theorem zj {o : Op} {l : List Op} (h : askO (o :: l) X e Y) : (e ≠ 0 /\ o X e Y) \/ ∃ Z, o X 0 Z /\ askO l Z e Y := by
 obtain ⟨e1, Z, h1, ⟨h2, rfl, rfl⟩ | ⟨rfl, h3⟩⟩ := h
 ·
  exact .inl ⟨h2, h1⟩
 ·
  exact .inr ⟨Z, h1, h3⟩
theorem z04 {o : Op} (h : askO [o] X e Y) : o X e Y := by
 rcases zj h with ⟨-, h⟩ | ⟨Z, h1, rfl, rfl⟩
 ·
  exact h
 ·
  exact h1
theorem z6j (h : In nm X P) (hs : ∀ f fc h, P h -> Shape nm f fc h -> ¬ h.names nm s) (hp : putO s x X e Y) :
  In nm Y P /\ (e = 0 -> X.dir s = none /\ ∃ b, (∀ t c, X.dir t = some c -> c ≠ b) /\ In nm Y (fun h => P h /\ ¬ h.blocks b) /\ Y.dir = Dir.put X.dir s b /\ Y.fc b = ⟨recd x, (recd x).length⟩ /\ ∀ c, c ≠ b -> Y.fc c = X.fc c) := by
 rcases zj hp with ⟨h0, h1⟩ | ⟨Z1, h1, hp⟩
 ·
  rcases z0i h1 with ⟨-, h2, h3⟩ | ⟨h2, -⟩
  ·
   exact ⟨h.same h2 h3, fun e0 => absurd e0 h0⟩
  ·
   exact absurd h2 h0
 rcases z0i h1 with ⟨h2, -⟩ | ⟨-, hn, -, b, hb, hd, hf⟩
 ·
  exact absurd rfl h2
 have i1 := h.made hb hn hd hf (fun f g hg hsh => hs f _ g hg hsh)
 have d1 : Z1.dir = Dir.put X.dir s b := by unfold Ds.dir; rw [hd.files, z0e hn]
 have hb' : ∀ t c, X.dir t = some c -> c ≠ b := fun t c ht => hb c (.inl ⟨_, zo ht, rfl⟩)
 have d1s : Z1.dir s = some b := by rw [d1]; exact if_pos rfl
 have f1 : Z1.fc b = ⟨[], 0⟩ := by rw [hf]; exact if_pos rfl
 have f2 : ∀ c, c ≠ b -> Z1.fc c = X.fc c := fun c hc => by rw [hf]; exact if_neg hc
 clear hd hf h1
 rcases zj hp with ⟨h0, h1⟩ | ⟨Z2, h1, hp⟩
 ·
  obtain ⟨h2, ⟨-, h3⟩ | ⟨b', k, h3, -, -, h4⟩⟩ := z0m h1
  ·
   exact ⟨(i1.same h2 h3).mono fun _ g => g.1, fun e0 => absurd e0 h0⟩
  ·
   obtain rfl : b' = b := Option.some.inj (h3.symm.trans d1s)
   exact ⟨(i1.other h2 h4 fun _ g => g.2).mono fun _ g => g.1, fun e0 => absurd e0 h0⟩
 obtain ⟨h2, ⟨h3, -⟩ | ⟨b', k, h3, -, hk, h4⟩⟩ := z0m h1
 ·
  exact absurd rfl h3
 obtain rfl : b' = b := Option.some.inj (h3.symm.trans d1s)
 have i2 := i1.other h2 h4 fun _ g => g.2
 have d2 : Z2.dir = Dir.put X.dir s b' := h2.dir.trans d1
 have d2s : Z2.dir s = some b' := by rw [d2]; exact if_pos rfl
 have g1 : Z2.fc b' = ⟨recd x, 0⟩ := by rw [h4, z0g, f1, hk rfl, List.take_length]; rfl
 have g2 : ∀ c, c ≠ b' -> Z2.fc c = X.fc c := fun c hc => by rw [h4, z0h _ _ hc]; exact f2 c hc
 clear h1 h2 h3 h4 hk f1 f2 i1 d1 d1s
 have h1 := z04 hp
 obtain ⟨h2, ⟨h0, h3⟩ | ⟨-, b, h3, h4⟩⟩ := z0c h1
 ·
  exact ⟨(i2.same h2 h3).mono fun _ g => g.1, fun e0 => absurd e0 h0⟩
 ·
  obtain rfl : b = b' := Option.some.inj (h3.symm.trans d2s)
  have i3 := i2.other h2 h4 fun _ g => g.2
  exact ⟨i3.mono fun _ g => g.1, fun _ => ⟨hn, b, hb', i3, h2.dir.trans d2, by rw [h4, z0g, g1], fun c hc => by rw [h4, z0h _ _ hc]; exact g2 c hc⟩⟩
def manD (nm : ByteArray) (f : Dir) (b : Nat) : Dir := fun t => if t = manf nm then some b else if t = newf nm then none else f t
theorem z4x (hr : rmnO s X e Y) : Y.fc = X.fc /\ (Sm X Y \/ Dn X Y (fdel X.D.files s) ⟨2, s, ByteArray.empty, none⟩) := by
 obtain ⟨e1, h1, h2⟩ := hr
 obtain ⟨h3, ⟨-, h4, -⟩ | ⟨-, b, -, h4⟩⟩ := z1j h1
 ·
  exact ⟨h3, .inl h4⟩
 ·
  exact ⟨h3, .inr h4⟩
theorem zat (h : Sm X Y \/ Dn X Y (fdel X.D.files s) ⟨2, s, ByteArray.empty, none⟩) : Y.dir = X.dir \/ Y.dir = Dir.del X.dir s := by
 rcases h with h | h
 ·
  exact .inl h.dir
 ·
  right; unfold Ds.dir; rw [h.files, z0l]
theorem man_in {s n : Nat} (h : In nm X P) (hP : ∀ h, P h -> P' h) (hm : manO nm s n X e Y)
  (hnew : ∀ b fc, (∀ t c, t ≠ newf nm -> X.dir t = some c -> c ≠ b) -> fc b = ⟨recd (mrec s n), (recd (mrec s n)).length⟩ -> (∀ c, c ≠ b -> fc c = X.fc c) -> ∃ h', P' h' /\ Shape nm (manD nm X.dir b) fc h') :
  In nm Y P' /\ (e = 0 -> ∃ b, (∀ t c, t ≠ newf nm -> X.dir t = some c -> c ≠ b) /\ Y.dir = manD nm X.dir b /\ Y.fc b = ⟨recd (mrec s n), (recd (mrec s n)).length⟩ /\ (∀ c, c ≠ b -> Y.fc c = X.fc c) /\ ∀ f, Rch Y f -> f = Y.dir) := by
 have rmI : ∀ {e Z}, rmnO (newf nm) X e Z -> In nm Z P := fun hr => by
  obtain ⟨h1, h2 | h2⟩ := z4x hr
  ·
   exact h.same h2 h1
  ·
   exact h.rm h2 h1 fun f g hg hsh hn => absurd hn (z4o hsh.s1 hsh.f1)
 rcases zj hm with ⟨h0, h1⟩ | ⟨Z1, h1, hm⟩
 ·
  exact ⟨(rmI h1).mono hP, fun e0 => absurd e0 h0⟩
 have i1 := rmI h1
 obtain ⟨f1, d1⟩ := z4x h1
 have d1 := zat d1
 clear h1 rmI
 rcases zj hm with ⟨h0, h1⟩ | ⟨Z2, h1, hm⟩
 ·
  exact ⟨(z6j i1 (fun f fc g _ hsh => z4o hsh.s1 hsh.f1) h1).1.mono hP, fun e0 => absurd e0 h0⟩
 obtain ⟨i2, h2⟩ := z6j i1 (fun f fc g _ hsh => z4o hsh.s1 hsh.f1) h1
 obtain ⟨hn, b, hb, -, d2, f2, f3⟩ := h2 rfl
 have d1' : ∀ t, Z1.dir t = if t = newf nm then none else X.dir t := fun t => by
  by_cases ht : t = newf nm
  ·
   rw [if_pos ht, ht]; exact hn
  ·
   rw [if_neg ht]
   rcases d1 with d1 | d1
   ·
    rw [d1]
   ·
    rw [d1]; exact if_neg ht
 have d2' : ∀ t, Z2.dir t = if t = newf nm then some b else X.dir t := fun t => by
  rw [d2]
  show (if t = newf nm then some b else Z1.dir t) = _
  by_cases ht : t = newf nm
  ·
   rw [if_pos ht, if_pos ht]
  ·
   rw [if_neg ht, if_neg ht, d1' t, if_neg ht]
 have hb' : ∀ t c, t ≠ newf nm -> X.dir t = some c -> c ≠ b := fun t c ht hc => hb t c (by rw [d1' t, if_neg ht]; exact hc)
 have f3' : ∀ c, c ≠ b -> Z2.fc c = X.fc c := fun c hc => (f3 c hc).trans (by rw [f1])
 clear h1 h2 hn d1 d1' f1 f3 d2 hb i1 h
 rcases zj hm with ⟨h0, h1⟩ | ⟨Z3, h1, hm⟩
 ·
  obtain ⟨h2, ⟨-, h3⟩ | ⟨h3, -⟩⟩ := z0k h1
  ·
   exact ⟨(i2.same h3 h2).mono hP, fun e0 => absurd e0 h0⟩
  ·
   exact absurd h3 h0
 obtain ⟨f4, ⟨h0, -⟩ | ⟨-, g1, g2, g3, g4⟩⟩ := z0k h1
 ·
  exact absurd rfl h0
 have r3 : ∀ f, Rch Z3 f -> f = Z3.dir := fun f hf => by rw [z3u h1 hf]; unfold Ds.dir; rw [g1]
 have d3 : Z3.dir = Z2.dir := by unfold Ds.dir; rw [g1]
 have w3 : Wf Z3 := by unfold Wf; rw [g3]; intro s hs; cases hs
 have i3 : In nm Z3 P := ⟨w3, fun f hf => by
  obtain ⟨q, h1, h2⟩ := i2.live
  rw [r3 f hf, d3, f4]; exact ⟨q, h1, h2⟩⟩
 have d3' : ∀ t, Z3.dir t = if t = newf nm then some b else X.dir t := fun t => by rw [d3]; exact d2' t
 rw [<- f4] at f2 f3'
 clear h1 g1 g2 g3 g4 f4 d3 d2' i2 w3
 have dn : Z3.dir (newf nm) = some b := by rw [d3', if_pos rfl]
 have fin : ∀ f : Dir, f = Dir.put (Dir.del Z3.dir (newf nm)) (manf nm) b -> f = manD nm X.dir b := fun f hf => by
  subst hf
  funext t
  show (if t = manf nm then some b else if t = newf nm then none else Z3.dir t) = if t = manf nm then some b else if t = newf nm then none else X.dir t
  by_cases h1 : t = manf nm
  ·
   rw [if_pos h1, if_pos h1]
  ·
   rw [if_neg h1, if_neg h1]
   by_cases h2 : t = newf nm
   ·
    rw [if_pos h2, if_pos h2]
   ·
    rw [if_neg h2, if_neg h2, d3', if_neg h2]
 rcases zj hm with ⟨h0, h1⟩ | ⟨Z4, h1, hm⟩
 ·
  obtain ⟨h2, ⟨-, h3⟩ | ⟨h3, -⟩⟩ := z2b h1
  ·
   exact ⟨(i3.same h3 h2).mono hP, fun e0 => absurd e0 h0⟩
  ·
   exact absurd h3 h0
 obtain ⟨f4, ⟨h0, -⟩ | ⟨-, b', hb2, hd⟩⟩ := z2b h1
 ·
  exact absurd rfl h0
 obtain rfl : b' = b := Option.some.inj (hb2.symm.trans dn)
 have hag : Dir.again Z3.dir ⟨1, newf nm, manf nm, none⟩ = Dir.put (Dir.del Z3.dir (newf nm)) (manf nm) b' := by rw [zc7, dn]
 have hl : flook (fput (fdel Z3.D.files (newf nm)) (manf nm) b') = Dir.put (Dir.del Z3.dir (newf nm)) (manf nm) b' := by rw [z2g, z0l]; rfl
 rw [<- f4] at f2 f3'
 have d4 : Z4.dir = manD nm X.dir b' := fin _ (by unfold Ds.dir; rw [hd.files]; exact hl)
 have nw := hnew b' Z4.fc hb' f2 f3'
 have i4 : In nm Z4 P' := by
  refine ⟨hd.wf i3.wf (fun e => by cases e), fun f hf => ?_⟩
  rcases hd.rch hf with e | ⟨g, hg, e | e⟩
  ·
   rw [fin f (e.trans hl)]; exact nw
  ·
   obtain ⟨q, h1, h2⟩ := i3.all g (.inr hg)
   rw [e, f4]; exact ⟨q, hP q h1, h2⟩
  ·
   rw [fin f (by rw [e, r3 g (.inr hg)]; exact hag)]; exact nw
 have h1 := z04 hm
 obtain ⟨f5, ⟨h0, h3⟩ | ⟨h0, g1, g2, g3, g4⟩⟩ := z0k h1
 ·
  exact ⟨i4.same h3 f5, fun e0 => absurd e0 h0⟩
 ·
  subst h0
  have r5 : ∀ f, Rch Y f -> f = Y.dir := fun f hf => by rw [z3u h1 hf]; unfold Ds.dir; rw [g1]
  have d5 : Y.dir = manD nm X.dir b' := by rw [<- d4]; unfold Ds.dir; rw [g1]
  refine ⟨⟨(by unfold Wf; rw [g3]; intro s hs; cases hs), fun f hf => ?_⟩, fun _ => ⟨b', hb', d5, by rw [f5]; exact f2, fun c hc => by rw [f5]; exact f3' c hc, r5⟩⟩
  rw [r5 f hf, d5, f5]; exact nw
structure LI (nm : ByteArray) (L : Lg) (X : Ds) (h : Sh) : Prop where
 inn : In nm X (· = h)
 full : h.q = (enc h.rs).length
 name : L.name = nm
 nob : L.bad = false
 first : L.first = h.first
 seg : L.segment = h.m
 segs : L.segments = h.cl.length + 1
 size : L.size = h.q
 recs : L.recs = h.closed ++ h.rs
 syn : L.synced <= h.closed.length + h.du
 snap : (h.sn = none /\ L.has = false /\ L.snap = []) \/ ∃ x, h.sn = some x /\ L.has = true /\ L.snap = x
theorem LI.shape (h : LI nm L X g) : Shape nm X.dir X.fc g := by obtain ⟨q, rfl, hq⟩ := h.inn.live; exact hq
theorem LI.may (h : LI nm L X g) {n : Nat} (hn : n <= mxr) : mayE L n = 0 := by
 unfold mayE; rw [if_neg (by omega), h.nob]; rfl
theorem LI.atseg (h : LI nm L X g) : L.seg = sgf nm g.m := by unfold Lg.seg; rw [h.name, h.seg]
theorem zbx (h : LI nm L X g) (hr : synR L X e L' Y) : (e = 0 /\ L' = { L with synced := L.recs.length } /\ LI nm L' Y { g with du := g.rs.length }) \/ (e ≠ 0 /\ L' = { L with bad := true } /\ In nm Y (· = g)) := by
 rcases hr with ⟨h0, -⟩ | ⟨-, h1, ⟨h2, h3⟩ | ⟨h2, h3⟩⟩
 ·
  exact absurd (h.may (Nat.zero_le _)) h0
 ·
  rw [h.atseg] at h1
  obtain ⟨q1, ⟨-, q2⟩ | ⟨q2, -⟩⟩ := z0c h1
  ·
   exact .inr ⟨h2, h3, h.inn.same q1 q2⟩
  ·
   exact absurd q2 h2
 ·
  subst h2 h3
  rw [h.atseg] at h1
  refine .inl ⟨rfl, rfl, { h with inn := (h.inn.synced h.full h1).1, full := h.full, syn := ?_ }⟩
  show L.recs.length <= g.closed.length + g.rs.length
  rw [h.recs, List.length_append]; exact Nat.le_refl _
theorem zeo (h : LI nm L X g) (hr : onR L X e L' Y) : (e = 0 /\ ∃ b, L' = { L with segment := nx nm X + 1, size := 0, synced := L.recs.length, segments := L.segments + 1 } /\ LI nm L' Y (Sh.grow { g with du := g.rs.length } (nx nm X + 1) b)) \/
  (e ≠ 0 /\ L' = { L with bad := true } /\ In nm Y fun h => h = g \/ h = { g with du := g.rs.length } \/ ∃ n b, h = Sh.grow { g with du := g.rs.length } n b) := by
 obtain ⟨h1, h2⟩ := hr
 rw [h.atseg] at h1
 obtain rfl : nm = L.name := h.name.symm
 have bad : ∀ {P : Sh -> Prop}, e ≠ 0 -> In L.name Y P -> (∀ h, P h -> h = g \/ h = { g with du := g.rs.length } \/ ∃ n b, h = Sh.grow { g with du := g.rs.length } n b) -> (e = 0 /\ ∃ b, L' = { L with segment := nx L.name X + 1, size := 0, synced := L.recs.length, segments := L.segments + 1 } /\ LI L.name L' Y (Sh.grow { g with du := g.rs.length } (nx L.name X + 1) b)) \/
  (e ≠ 0 /\ L' = { L with bad := true } /\ In L.name Y fun h => h = g \/ h = { g with du := g.rs.length } \/ ∃ n b, h = Sh.grow { g with du := g.rs.length } n b) := fun h0 hi hP => by
  rcases h2 with ⟨-, h2⟩ | ⟨h2, -⟩
  ·
   exact .inr ⟨h0, h2, hi.mono hP⟩
  ·
   exact absurd h2 h0
 rcases zj h1 with ⟨h0, h1⟩ | ⟨Z1, h1, hk⟩
 ·
  obtain ⟨q1, ⟨-, q2⟩ | ⟨q2, -⟩⟩ := z0c h1
  ·
   exact bad h0 (h.inn.same q1 q2) fun _ e => .inl e
  ·
   exact absurd q2 h0
 obtain ⟨i1, s1⟩ := h.inn.synced h.full h1
 have sh1 : Shape L.name Z1.dir Z1.fc { g with du := g.rs.length } := by obtain ⟨q, rfl, hq⟩ := i1.live; exact hq
 have n1 : nx L.name Z1 = nx L.name X := z5d s1
 clear h1
 rcases zj hk with ⟨h0, -, h1⟩ | ⟨Z2, ⟨h1, e2⟩, hk2⟩
 ·
  subst h1; exact bad h0 i1 fun _ e => .inr (.inl e)
 clear hk
 subst e2
 have hlt : nx L.name X < mxn := by
  unfold nxE at h1
  split at h1
  ·
   cases h1
  ·
   omega
 have hno := z48 (nm := L.name) (X := Z2) (k := nx L.name X + 1) (by omega) (by omega)
 have hmm := sh1.nx (h := { g with du := g.rs.length })
 have hm1 : g.m <= nx L.name X := by have : ({ g with du := g.rs.length } : Sh).m <= nx L.name Z2 := hmm.1; rw [n1] at this; exact this
 rcases zj hk2 with ⟨h0, h3⟩ | ⟨Z3, h3, hk⟩
 ·
  rcases z0i h3 with ⟨-, q1, q2⟩ | ⟨q1, -⟩
  ·
   exact bad h0 (i1.same q1 q2) fun _ e => .inr (.inl e)
  ·
   exact absurd q1 h0
 rcases z0i h3 with ⟨q1, -⟩ | ⟨-, -, -, b, hb, hd, hf⟩
 ·
  exact absurd rfl q1
 have i3 := In.grow (g := { g with du := g.rs.length }) i1 h.full rfl (n := nx L.name X + 1) (by show g.m < _; omega) (by omega) hb hno.1 hd hf
 have i3' : In L.name Z3 fun h => h = { g with du := g.rs.length } \/ h = Sh.grow { g with du := g.rs.length } (nx L.name X + 1) b := i3.mono fun _ e => e.1
 have d3 : Z3.dir = Dir.put Z2.dir (sgf L.name (nx L.name X + 1)) b := by unfold Ds.dir; rw [hd.files, z0e hno.1]
 have h4 := z04 hk
 obtain ⟨f5, ⟨h0, q1⟩ | ⟨h0, g1, g2, g3, g4⟩⟩ := z0k h4
 ·
  exact bad h0 (i3'.same q1 f5) fun _ e => e.elim (fun e => .inr (.inl e)) (fun e => .inr (.inr ⟨_, _, e⟩))
 ·
  subst h0
  rcases h2 with ⟨h2, -⟩ | ⟨-, h2⟩
  ·
   exact absurd rfl h2
  refine .inl ⟨rfl, b, h2, ?_⟩
  subst h2
  have d5 : Y.dir = Z3.dir := by unfold Ds.dir; rw [g1]
  have lv : Shape L.name Y.dir Y.fc (Sh.grow { g with du := g.rs.length } (nx L.name X + 1) b) := by
   rw [d5, d3, f5]
   have hnb : ¬ Sh.blocks { g with du := g.rs.length } b := by obtain ⟨q, ⟨-, h1⟩, -⟩ := i3.live; exact h1
   refine (sh1.ofCon fun c hc => ?_).grow h.full rfl (by show g.m < _; omega) (by omega) hnb (by rw [hf]; exact if_pos rfl)
   rw [hf]; exact if_neg fun e : c = b => hnb (e ▸ hc)
  refine { inn := ⟨(by unfold Wf; rw [g3]; intro s hs; cases hs), fun f hf => ⟨_, rfl, ?_⟩⟩, full := rfl, name := h.name, nob := h.nob, first := h.first, seg := rfl, segs := ?_, size := rfl, recs := ?_, syn := ?_, snap := h.snap }
  ·
   have : f = Y.dir := by rw [z3u h4 hf, d5]
   rw [this]; exact lv
  ·
   show L.segments + 1 = (g.cl ++ [_]).length + 1
   rw [h.segs]; simp
  ·
   show L.recs = (Sh.grow _ _ _).closed ++ []
   rw [z0u, List.append_nil]; exact h.recs
  ·
   show L.recs.length <= (Sh.grow _ _ _).closed.length + 0
   rw [z0u, h.recs]; exact Nat.le_refl _
end Go.Log
end
section
namespace Go.Log
open Go.Vfs
variable {nm : ByteArray} {X Y Z : Ds} {P P' : Sh -> Prop} {e : Int} {s t : ByteArray} {h g : Sh} {f : Dir} {fc : Nat -> Fl} {L L' : Lg} {x : List Nat}
def Left (g : Sh) (all : List (List Nat)) (h : Sh) : Prop := h.sn = g.sn /\ h.closed ++ h.rs <+: all /\ g.closed.length + g.du <= h.closed.length + h.du
theorem z7s (g : Sh) (all : List (List Nat)) (ha : g.closed ++ g.rs <+: all) : Left g all g := ⟨rfl, ha, Nat.le_refl _⟩
theorem z5m {g : Sh} (hd : g.du <= g.rs.length) {all : List (List Nat)} (ha : g.closed ++ g.rs <+: all) : Left g all { g with du := g.rs.length } := ⟨rfl, ha, by show _ <= g.closed.length + g.rs.length; omega⟩
theorem zcv {g : Sh} (hd : g.du <= g.rs.length) {all : List (List Nat)} (ha : g.closed ++ g.rs <+: all) (n b : Nat) : Left g all (Sh.grow { g with du := g.rs.length } n b) := by
 refine ⟨rfl, ?_, ?_⟩
 ·
  show (Sh.grow _ _ _).closed ++ [] <+: all
  rw [z0u, List.append_nil]; exact ha
 ·
  show _ <= (Sh.grow _ _ _).closed.length + 0
  rw [z0u, List.length_append]
  show _ <= g.closed.length + g.rs.length + 0
  omega
theorem zcb (h : LI nm L X g) (hx : Recs [x]) (hr : appR L x X e L' Y) :
  (L'.bad = false /\ e = 0 /\ L.segment <= L'.segment /\ L'.recs = L.recs ++ [x] /\ ∃ g', LI nm L' Y g' /\ g'.sn = g.sn /\ g.closed.length + g.du <= g'.closed.length + g'.du) \/
  (L'.bad = true /\ e ≠ 0 /\ L'.segment = L.segment /\ L'.synced = L.synced /\ In nm Y (Left g (L.recs ++ [x]))) := by
 have hxl : x.length <= mxr := (hx x (by simp)).1
 have hgd : g.du <= g.rs.length := h.shape.lastd
 have hpre : g.closed ++ g.rs <+: L.recs ++ [x] := by rw [h.recs]; exact List.prefix_append _ _
 rcases hr with ⟨h0, -⟩ | ⟨-, e1, Z, h1, h2⟩
 ·
  exact absurd (h.may hxl) h0
 rw [h.atseg] at h1
 obtain ⟨s1, h3⟩ := z0m h1
 rcases h3 with ⟨h3, h4⟩ | ⟨b, k, hb, hk, hk0, hf⟩
 ·
  rcases h2 with ⟨-, rfl, rfl, rfl⟩ | ⟨h5, -⟩ | ⟨h5, -⟩
  ·
   exact .inr ⟨rfl, h3, rfl, rfl, (h.inn.same s1 h4).mono fun q e => by rw [e]; exact z7s g _ hpre⟩
  ·
   exact absurd h5 h3
  ·
   exact absurd h5 h3
 obtain rfl : b = g.b := Option.some.inj (hb.symm.trans h.shape.lastAt)
 have i1 : In nm Z (· = { g with rs := g.rs ++ [x], q := g.q + k }) := h.inn.write s1 hf fun q f hq hsh => by
  subst hq
  exact ⟨_, rfl, hsh.append h.full hx (by rw [zx] at hk ⊢; exact hk)⟩
 rcases h2 with ⟨h5, rfl, rfl, rfl⟩ | ⟨rfl, h5, rfl, rfl, rfl⟩ | ⟨rfl, h5, h6⟩
 ·
  refine .inr ⟨rfl, h5, rfl, rfl, i1.mono fun q e => ?_⟩
  subst e
  refine ⟨rfl, ?_, Nat.le_refl _⟩
  show g.closed ++ (g.rs ++ [x]) <+: _
  rw [<- List.append_assoc, <- h.recs]; exact List.prefix_rfl
 all_goals
  have hkl := hk0 rfl
  subst hkl
  have hfull : g.q + (recd x).length = (enc (g.rs ++ [x])).length := by rw [z1g, z1v, List.length_append, h.full]
 ·
  refine .inl ⟨h.nob, rfl, Nat.le_refl _, rfl, _, { inn := i1, full := hfull, name := h.name, nob := h.nob, first := h.first, seg := h.seg, segs := h.segs, size := ?_, recs := ?_, syn := h.syn, snap := h.snap }, rfl, Nat.le_refl _⟩
  ·
   show L.size + _ = g.q + _
   rw [h.size, zx]
  ·
   show L.recs ++ [x] = g.closed ++ (g.rs ++ [x])
   rw [h.recs, List.append_assoc]
 ·
  have l1 : LI nm { L with recs := L.recs ++ [x], size := L.size + (8 + x.length) } Z { g with rs := g.rs ++ [x], q := g.q + (recd x).length } := by
   refine { inn := i1, full := hfull, name := h.name, nob := h.nob, first := h.first, seg := h.seg, segs := h.segs, size := ?_, recs := ?_, syn := h.syn, snap := h.snap }
   ·
    show L.size + _ = g.q + _
    rw [h.size, zx]
   ·
    show L.recs ++ [x] = g.closed ++ (g.rs ++ [x])
    rw [h.recs, List.append_assoc]
  have hpr : g.closed ++ (g.rs ++ [x]) <+: L.recs ++ [x] := by rw [<- List.append_assoc, <- h.recs]; exact List.prefix_rfl
  have hle : g.du <= (g.rs ++ [x]).length := by rw [List.length_append]; omega
  rcases zeo l1 h6 with ⟨rfl, b, rfl, h7⟩ | ⟨h7, rfl, h8⟩
  ·
   refine .inl ⟨h.nob, rfl, ?_, rfl, _, h7, rfl, ?_⟩
   ·
    show L.segment <= nx nm Z + 1
    have := l1.shape.nx.1
    have e : L.segment = g.m := h.seg
    have : g.m <= nx nm Z := this
    omega
   ·
    show _ <= (Sh.grow _ _ _).closed.length + 0
    rw [z0u, List.length_append]
    show _ <= g.closed.length + (g.rs ++ [x]).length + 0
    omega
  ·
   refine .inr ⟨rfl, h7, rfl, rfl, h8.mono fun q hq => ?_⟩
   rcases hq with rfl | rfl | ⟨n, b, rfl⟩
   ·
    exact ⟨rfl, hpr, Nat.le_refl _⟩
   ·
    exact z5m (g := { g with rs := g.rs ++ [x], q := g.q + (recd x).length }) hle hpr
   ·
    exact zcv (g := { g with rs := g.rs ++ [x], q := g.q + (recd x).length }) hle hpr n b
theorem zf8 {l : List ByteArray} (hi : ∀ t ∈ l, ∀ f fc h, P h -> Shape nm f fc h -> h.names nm t -> f t = none) : ∀ {X}, In nm X P -> askO (l.map rmO) X e Y -> In nm Y P := by
 induction l with
 | nil => intro X h ha; obtain ⟨-, rfl⟩ := ha; exact h
 | cons t l ih =>
  intro X h ha
  have step : ∀ {e Z}, rmO t X e Z -> In nm Z P := fun hr => by
   obtain ⟨h1, ⟨-, h2, -⟩ | ⟨-, b, -, h2⟩⟩ := z1j hr
   ·
    exact h.same h2 h1
   ·
    exact h.rm h2 h1 fun f q hq hsh hn => hi t (by simp) f _ q hq hsh hn
  rcases zj (o := rmO t) (l := l.map rmO) ha with ⟨-, h1⟩ | ⟨Z, h1, h2⟩
  ·
   exact step h1
  ·
   exact ih (fun t ht => hi t (by simp [ht])) (step h1) h2
theorem zc0 (h : LI nm L X g) (hx : Recs [x]) (hr : turnR L x X e L' Y) :
  (e = 0 /\ ∃ s n bm bs b, L' = { L with snap := x, has := true, recs := [], synced := 0, first := n, segment := n, segments := 1, size := 0 } /\ LI nm L' Y (Sh.new s n x bm bs b) /\ L.segment <= n) \/
  (e ≠ 0 /\ L' = { L with bad := true } /\ In nm Y fun q => Left g L.recs q \/ q.sn = some x /\ q.closed = [] /\ q.rs = []) := by
 have hxl : x.length <= mxr := (hx x (by simp)).1
 rcases hr with ⟨h0, -⟩ | ⟨-, h1, h2⟩
 ·
  exact absurd (h.may hxl) h0
 rw [h.atseg] at h1
 obtain rfl : nm = L.name := h.name.symm
 have hgd : g.du <= g.rs.length := h.shape.lastd
 have hpre : g.closed ++ g.rs <+: L.recs := by rw [h.recs]; exact List.prefix_rfl
 have bad : ∀ {P : Sh -> Prop}, e ≠ 0 -> In L.name Y P -> (∀ h, P h -> Left g L.recs h \/ h.sn = some x /\ h.closed = [] /\ h.rs = []) -> (e = 0 /\ ∃ s n bm bs b, L' = { L with snap := x, has := true, recs := [], synced := 0, first := n, segment := n, segments := 1, size := 0 } /\ LI L.name L' Y (Sh.new s n x bm bs b) /\ L.segment <= n) \/
   (e ≠ 0 /\ L' = { L with bad := true } /\ In L.name Y fun q => Left g L.recs q \/ q.sn = some x /\ q.closed = [] /\ q.rs = []) := fun h0 hi hP => by
  rcases h2 with ⟨-, h2⟩ | ⟨h2, -⟩
  ·
   exact .inr ⟨h0, h2, hi.mono hP⟩
  ·
   exact absurd h2 h0
 rcases zj h1 with ⟨h0, h1⟩ | ⟨Z1, h1, hk⟩
 ·
  obtain ⟨q1, ⟨-, q2⟩ | ⟨q2, -⟩⟩ := z0c h1
  ·
   exact bad h0 (h.inn.same q1 q2) fun _ e => .inl (e ▸ z7s g _ hpre)
  ·
   exact absurd q2 h0
 obtain ⟨i1, s1⟩ := h.inn.synced h.full h1
 obtain ⟨g1, hg1⟩ : ∃ g1, g1 = ({ g with du := g.rs.length } : Sh) := ⟨_, rfl⟩
 have lg1 : Left g L.recs g1 := hg1 ▸ z5m hgd hpre
 have q1 : g1.q = (enc g1.rs).length := by rw [hg1]; exact h.full
 have du1 : g1.du = g1.rs.length := by rw [hg1]
 have m1 : g1.m = L.segment := by rw [hg1]; exact h.seg.symm
 rw [<- hg1] at i1
 have sh1 : Shape L.name Z1.dir Z1.fc g1 := by obtain ⟨q, rfl, hq⟩ := i1.live; exact hq
 have n1 : nx L.name Z1 = nx L.name X := z5d s1
 clear h1 hg1
 rcases zj hk with ⟨h0, -, h1⟩ | ⟨Z2, ⟨h1, e2⟩, hk2⟩
 ·
  subst h1; exact bad h0 i1 fun _ e => .inl (e ▸ lg1)
 clear hk
 subst e2
 have hlt : nx L.name X + 1 < mxn := by
  unfold turnE at h1
  split at h1
  ·
   cases h1
  ·
   omega
 obtain ⟨k, hk⟩ : ∃ k, nx L.name X + 1 = k := ⟨_, rfl⟩
 have hk' : nx L.name X + 2 = k + 1 := by omega
 rw [hk, hk'] at hk2
 rw [hk'] at h2
 have hmm := sh1.nx
 rw [n1] at hmm
 have hno : ∀ j, k <= j -> j <= mxn -> Z2.dir (sgf L.name j) = none := fun j h3 h4 => (z48 (nm := L.name) (by rw [n1]; omega) h4).1
 have kk : 1 <= k /\ k + 1 <= mxn /\ g1.m < k /\ g1.s < k := by omega
 clear n1 hmm h1 hlt hk hk'
 have irr : ∀ f fc q, q = g1 -> Shape L.name f fc q -> ¬ q.names L.name (snf L.name k) := fun f fc q e hsh => by
  subst e
  exact zd1 kk.1 (by omega) (by omega) hsh.s1 hsh.f1
 rcases zj hk2 with ⟨h0, h3⟩ | ⟨Z3, h3, hk3⟩
 ·
  exact bad h0 (z6j i1 irr h3).1 fun _ e => .inl (e ▸ lg1)
 obtain ⟨hn3, b1, hb1, i3, d3, f3, f3'⟩ := (z6j i1 irr h3).2 rfl
 have i3' : In L.name Z3 (· = g1) := i3.mono fun _ e => e.1
 clear h3 irr hk2
 rcases zj hk3 with ⟨h0, h4⟩ | ⟨Z4, h4, hk4⟩
 ·
  rcases z0i h4 with ⟨-, q1, q2⟩ | ⟨q1, -⟩
  ·
   exact bad h0 (i3'.same q1 q2) fun _ e => .inl (e ▸ lg1)
  ·
   exact absurd q1 h0
 rcases z0i h4 with ⟨q1, -⟩ | ⟨-, hn4, -, b2, hb2, hd4, hf4⟩
 ·
  exact absurd rfl q1
 have i4 := (i3'.grow q1 du1 (n := k + 1) (by omega) kk.2.1 hb2 hn4 hd4 hf4).mono fun _ e => e.1
 have d4 : Z4.dir = Dir.put Z3.dir (sgf L.name (k + 1)) b2 := by unfold Ds.dir; rw [hd4.files, z0e hn4]
 have hb21 : b1 ≠ b2 := hb2 b1 (.inl ⟨_, zo (show flook Z3.D.files (snf L.name k) = some b1 by show Z3.dir _ = _; rw [d3]; exact if_pos rfl), rfl⟩)
 have f4 : Z4.fc b2 = ⟨[], 0⟩ := by rw [hf4]; exact if_pos rfl
 have f4' : Z4.fc b1 = ⟨recd x, (recd x).length⟩ := by rw [hf4]; exact (if_neg hb21).trans f3
 have kn : ∀ j, 1 <= j -> j <= mxn -> sgf L.name j ≠ snf L.name k := fun j h3 h4 => z2t L.name h3 h4
 have d4s : Z4.dir (snf L.name k) = some b1 := by
  rw [d4]
  show (if snf L.name k = sgf L.name (k + 1) then _ else Z3.dir _) = _
  rw [if_neg (fun e => kn (k + 1) (by omega) kk.2.1 e.symm), d3]; exact if_pos rfl
 have d4g : Z4.dir (sgf L.name (k + 1)) = some b2 := by rw [d4]; exact if_pos rfl
 have d4n : ∀ j, k + 1 < j -> j <= mxn -> Z4.dir (sgf L.name j) = none := fun j h5 h6 => by
  rw [d4]
  show (if sgf L.name j = sgf L.name (k + 1) then _ else Z3.dir _) = _
  rw [if_neg (fun e => by have := z7g L.name (by omega) h6 (by omega) kk.2.1 e; omega), d3]
  show (if sgf L.name j = snf L.name k then _ else Z2.dir _) = _
  rw [if_neg (kn j (by omega) h6)]
  exact hno j (by omega) h6
 clear hd4 hf4 h4 hn4 d4 i3 i3' d3 f3 f3' hn3 hb1 hb2 hno hk3
 have nw : ∀ b fc, (∀ t c, t ≠ newf L.name -> Z4.dir t = some c -> c ≠ b) -> fc b = ⟨recd (mrec k (k + 1)), (recd (mrec k (k + 1))).length⟩ -> (∀ c, c ≠ b -> fc c = Z4.fc c) -> Shape L.name (manD L.name Z4.dir b) fc (Sh.new k (k + 1) x b b1 b2) := fun b fc h3 h5 h6 => by
  have at' : ∀ t, t ≠ manf L.name -> t ≠ newf L.name -> manD L.name Z4.dir b t = Z4.dir t := fun t h7 h8 => by unfold manD; rw [if_neg h7, if_neg h8]
  have n1 := z6s L.name kk.1 (show k <= mxn by omega)
  have n2 := z6t L.name kk.1 (show k <= mxn by omega)
  have n3 : ∀ j, 1 <= j -> j <= mxn -> sgf L.name j ≠ manf L.name := fun j a c => z2r L.name a c
  have n4 : ∀ j, 1 <= j -> j <= mxn -> sgf L.name j ≠ newf L.name := fun j a c => z2s L.name a c
  have e1 : b1 ≠ b := h3 _ _ n2 d4s
  have e2 : b2 ≠ b := h3 _ _ (n4 _ (by omega) kk.2.1) d4g
  exact Shape.new kk.1 (by omega) (by omega) kk.2.1 hx (if_pos rfl) h5 ((at' _ n1 n2).trans d4s) ((h6 b1 e1).trans f4') ((at' _ (n3 _ (by omega) kk.2.1) (n4 _ (by omega) kk.2.1)).trans d4g) ((h6 b2 e2).trans f4)
   (fun j a c => (at' _ (n3 j (by omega) c) (n4 j (by omega) c)).trans (d4n j a c)) e2 (fun e => hb21 e.symm)
 have mi : ∀ {e Z}, manO L.name k (k + 1) Z4 e Z -> _ := fun {e Z} hm => man_in (P' := fun h => (h = g1 \/ h = g1.grow (k + 1) b2) \/ ∃ b, h = Sh.new k (k + 1) x b b1 b2) i4 (fun _ e => .inl e) hm fun b fc h3 h5 h6 => ⟨_, .inr ⟨b, rfl⟩, nw b fc h3 h5 h6⟩
 have lgg : Left g L.recs (g1.grow (k + 1) b2) := by
  refine ⟨lg1.1, ?_, ?_⟩
  ·
   show (Sh.grow _ _ _).closed ++ [] <+: _
   rw [z0u, List.append_nil]; exact lg1.2.1
  ·
   show _ <= (Sh.grow _ _ _).closed.length + 0
   rw [z0u, List.length_append]
   have := lg1.2.2; rw [du1] at this; omega
 rcases zj hk4 with ⟨h0, h5⟩ | ⟨Z5, h5, hk5⟩
 ·
  refine bad h0 (mi h5).1 fun q hq => ?_
  rcases hq with (rfl | rfl) | ⟨b, rfl⟩
  ·
   exact .inl lg1
  ·
   exact .inl lgg
  ·
   exact .inr ⟨rfl, rfl, rfl⟩
 obtain ⟨b3, hb3, d5, f5, f5', r5⟩ := (mi h5).2 rfl
 have i5 : In L.name Z5 (· = Sh.new k (k + 1) x b3 b1 b2) := ⟨(mi h5).1.wf, fun f hf => ⟨_, rfl, by rw [r5 f hf, d5]; exact nw b3 _ hb3 f5 f5'⟩⟩
 have i6 : ∀ {e Z}, sweepO L.name k (k + 1) Z5 e Z -> In L.name Z (· = Sh.new k (k + 1) x b3 b1 b2) := fun {e Z} hw => by
  obtain ⟨ns, -, hw⟩ := hw
  refine zf8 (fun t ht f fc q hq hsh hn => ?_) i5 hw
  subst hq
  have hsw := (List.mem_filter.1 ht).2
  simp only [swept, Bool.and_eq_true, Bool.not_eq_true', Bool.or_eq_false_iff, decide_eq_false_iff_not] at hsw
  obtain ⟨-, ⟨h6, h7⟩, h8⟩ := hsw
  rcases hn with e | ⟨-, e⟩ | ⟨j, j1, j2, e⟩
  ·
   exact absurd e h6
  ·
   exact absurd e h7
  ·
   subst e
   have j1' : k + 1 <= j := j1
   have : j ≠ k + 1 := fun e => h8 (by rw [e])
   rw [hsh.segs j j1 j2]
   exact z7p (l := [(k + 1, b2)]) (fun p hp => by rw [List.mem_singleton.1 hp]; exact fun e => this e.symm)
 clear mi nw hb3 d5 f5 f5' r5 h5 hk4
 have h7 := i6 (z04 hk5)
 by_cases h0 : e = 0
 ·
  subst h0
  rcases h2 with ⟨h2, -⟩ | ⟨-, h2⟩
  ·
   exact absurd rfl h2
  refine .inl ⟨rfl, k, k + 1, b3, b1, b2, h2, ?_, by omega⟩
  subst h2
  exact { inn := h7, full := rfl, name := rfl, nob := h.nob, first := rfl, seg := rfl, segs := rfl, size := rfl, recs := rfl, syn := Nat.le_refl _, snap := .inr ⟨x, rfl, rfl, rfl⟩ }
 ·
  exact bad h0 h7 fun q hq => by subst hq; exact .inr ⟨rfl, rfl, rfl⟩
end Go.Log
end
section
namespace Go.Log
open Go.Vfs
open Go.Proofs.YtpjomdmjohjheaaGreatDoor (readOf)
variable {nm : ByteArray} {X Y Z : Ds} {P P' : Sh -> Prop} {e : Int} {s t : ByteArray} {h g : Sh} {f : Dir} {fc : Nat -> Fl} {L L' : Lg} {x : List Nat}
theorem flook_mem' {l : List (ByteArray × Nat)} {b : Nat} (hn : (l.map Prod.fst).Nodup) (h : (s, b) ∈ l) : flook l s = some b := by
 induction l with
 | nil => cases h
 | cons p l ih =>
  rw [List.map_cons, List.nodup_cons] at hn
  rw [z08]
  rcases List.mem_cons.1 h with h | h
  ·
   subst h; simp
  ·
   have hne : p.1 ≠ s := fun e => hn.1 (e ▸ List.mem_map.2 ⟨_, h, rfl⟩)
   rw [if_neg hne]; exact ih hn.2 h
theorem z65 {l l' : List (ByteArray × Nat)} (hn : (l.map Prod.fst).Nodup) (hp : l'.Perm l) : flook l' = flook l := by
 funext t
 have hn' : (l'.map Prod.fst).Nodup := (hp.map Prod.fst).nodup_iff.2 hn
 cases e : flook l' t with
 | some b => exact (flook_mem' hn (hp.mem_iff.1 (zo e))).symm
 | none =>
  cases e2 : flook l t with
  | none => rfl
  | some b => rw [flook_mem' hn' (hp.mem_iff.2 (zo e2))] at e; cases e
def Sh.move (h : Sh) (v : Nat -> Nat) (q : Nat) : Sh := { h with bm := v h.bm, bs := v h.bs, cl := h.cl.map fun c => (c.1, v c.2.1, c.2.2), b := v h.b, q := q }
theorem z9o (h : Sh) (v : Nat -> Nat) (q : Nat) : (h.move v q).closed = h.closed := by
 unfold Sh.move Sh.closed
 simp only [List.flatMap_def, List.map_map]; rfl
theorem z5o (h : Sh) (v : Nat -> Nat) (q : Nat) : (h.move v q).tab = h.tab.map fun p => (p.1, v p.2) := by
 unfold Sh.move Sh.tab
 simp only [List.map_append, List.map_map]; rfl
theorem Shape.move (hs : Shape nm f fc h) (v : Nat -> Nat) {f' : Dir} {fc' : Nat -> Fl} (hf : ∀ t, f' t = (f t).map v) (hv : ∀ t t' b b', f t = some b -> f t' = some b' -> v b = v b' -> b = b')
  (hc : ∀ t b, f t = some b -> ∃ n, (fc b).lasts <= n /\ n <= (fc b).b.length /\ fc' (v b) = ⟨(fc b).b.take n, n⟩) : ∃ q, Shape nm f' fc' (h.move v q) := by
 have full : ∀ t b l, f t = some b -> fc b = ⟨l, l.length⟩ -> fc' (v b) = ⟨l, l.length⟩ := fun t b l hb hl => by
  obtain ⟨n, h1, h2, h3⟩ := hc t b hb
  rw [hl] at h1 h2 h3
  simp only at h1 h2 h3
  have : n = l.length := by omega
  subst this
  rw [List.take_length] at h3; exact h3
 obtain ⟨n, n1, n2, n3⟩ := hc _ _ hs.lastAt
 have hl : (fc h.b).b.length = h.q := by rw [hs.lastb, List.length_take]; have := hs.lastq; omega
 have hlast := hs.lastAt
 refine ⟨n, { f1 := hs.f1, s1 := hs.s1, man := ?_, manc := full _ _ _ hs.man hs.manc, snap := ?_, asc := ?_, rng := ?_, segs := ?_, clc := ?_, lastb := ?_, lastq := ?_, lastl := ?_, lastd := hs.lastd, lastr := hs.lastr, apart := ?_ }⟩
 ·
  rw [hf, hs.man]; rfl
 ·
  exact hs.snap.imp id fun ⟨g1, y, g2, g3, g4, g5⟩ => ⟨g1, y, g2, g3, by rw [hf]; show (f (snf nm h.s)).map v = _; rw [g4]; rfl, full _ _ _ g4 g5⟩
 ·
  rw [z5o, List.pairwise_map]; exact hs.asc
 ·
  intro p hp
  rw [z5o] at hp
  obtain ⟨q, hq, rfl⟩ := List.mem_map.1 hp
  exact hs.rng q hq
 ·
  intro k k1 k2
  rw [hf, hs.segs k k1 k2]
  unfold Sh.blk
  rw [z5o, List.find?_map, Option.map_map, Option.map_map]; rfl
 ·
  intro c hc'
  obtain ⟨c0, h0, rfl⟩ := List.mem_map.1 (show c ∈ h.cl.map fun c => (c.1, v c.2.1, c.2.2) from hc')
  exact ⟨full _ _ _ (hs.blkOf (mem_tab' h0)) (hs.clc c0 h0).1, (hs.clc c0 h0).2⟩
 ·
  show (fc' (v h.b)).b = (enc h.rs).take n
  rw [n3, hs.lastb, List.take_take, Nat.min_eq_left (by omega)]
 ·
  show n <= (enc h.rs).length
  have := hs.lastq; omega
 ·
  show _ <= (fc' (v h.b)).lasts /\ (fc' (v h.b)).lasts <= n
  rw [n3]; have := hs.lastl
  exact ⟨by show (enc (h.rs.take h.du)).length <= n; omega, Nat.le_refl _⟩
 ·
  obtain ⟨a1, a2, a3⟩ := hs.apart
  refine ⟨fun e => a1 (hv _ _ _ _ hlast hs.man e), fun g1 e => ?_, fun c hc' e => ?_⟩
  ·
   rcases hs.snap with ⟨h0, -⟩ | ⟨-, y, -, -, g4, -⟩
   ·
    have : 1 <= h.s := g1
    omega
   ·
    exact a2 g1 (hv _ _ _ _ hlast g4 e)
  ·
   obtain ⟨c0, h0, rfl⟩ := List.mem_map.1 (show c ∈ h.cl.map fun c => (c.1, v c.2.1, c.2.2) from hc')
   exact a3 c0 h0 (hv _ _ _ _ (hs.blkOf (mem_tab' h0)) hlast e)
theorem z9j {zs : List Int} {D' : Dk} {fc' : Nat -> Fl} {φ : Nat -> Option Nat} {l2 : List (ByteArray × Nat)} {bs : List Bool} (h : In nm X P) (hn : (X.D.lasting.map Prod.fst).Nodup) (hc : CrashR zs X.D X.fc D' fc' φ l2 bs) :
  ∃ f q v n, Rs X f /\ P q /\ Shape nm f X.fc q /\ In nm ⟨D', fc'⟩ (· = Sh.move q v n) /\ (∀ t, (⟨D', fc'⟩ : Ds).dir t = (f t).map v) := by
 obtain ⟨p2, -, -, -, inj, all, eq, fcc⟩ := hc
 have hf : flook (replay bs X.D.steps l2) = rep bs X.D.steps (flook X.D.lasting) := by rw [z4m, z65 hn p2]
 have hR : Rs X (flook (replay bs X.D.steps l2)) := ⟨bs, hf⟩
 obtain ⟨q, h1, h2⟩ := h.all _ (.inr hR)
 have hd : ∀ t, flook D'.files t = (flook (replay bs X.D.steps l2) t).map fun b => (φ b).getD 0 := fun t => by
  rw [eq]; exact z4l _ _
 have hl : D'.lasting = D'.files := by rw [eq]; rfl
 have hs : D'.steps = [] := by rw [eq]; rfl
 have hrf := (show Rch X _ from .inr hR).ref h.wf
 obtain ⟨n, h3⟩ := h2.move (fun b => (φ b).getD 0) (f' := flook D'.files) (fc' := fc') hd (fun t t' b b' hb hb' e => by
  obtain ⟨c, hc⟩ := Option.ne_none_iff_exists'.1 (all b (hrf t b hb))
  obtain ⟨c', hc'⟩ := Option.ne_none_iff_exists'.1 (all b' (hrf t' b' hb'))
  simp only [hc, hc', Option.getD_some] at e
  exact inj b b' c hc (e ▸ hc')) (fun t b hb => fcc _ (zo hb))
 refine ⟨_, q, _, n, hR, h1, h2, ⟨fun s hs' => ?_, fun f hf' => ⟨_, rfl, ?_⟩⟩, hd⟩
 ·
  rw [hs] at hs'; cases hs'
 ·
  have : f = flook D'.files := by
   rcases hf' with hf' | ⟨bs', hf'⟩
   ·
    exact hf'
   ·
    have e : rep bs' D'.steps (flook D'.lasting) = flook D'.files := by rw [hs, z8e, hl]
    exact hf'.trans e
  rw [this]; exact h3
def Sh.trim (h : Sh) (j : Nat) : Sh := { h with rs := h.rs.take j, q := (enc (h.rs.take j)).length }
def Trims (P : Sh -> Prop) : Prop := ∀ h j, P h -> h.du <= j -> j <= h.rs.length -> (enc (h.rs.take j)).length <= h.q -> P (h.trim j)
theorem z83 (fc : Nat -> Fl) {b : Nat} {x : Fl} (h : fc b = x) : setf fc b x = fc := by
 funext c
 by_cases e : c = b
 ·
  rw [e, z0g, h]
 ·
  rw [z0h _ _ e]
theorem zdv {x : List Nat} (hx : Recs [x]) : whole (recd x) = ([x], (recd x).length, true) := by
 have := z58 hx
 rw [z1v] at this; exact this
theorem zcg {s n : Nat} : ∀ x ∈ mrec s n, x < 256 := by
 intro x hx
 unfold mrec at hx
 rcases List.mem_append.1 hx with hx | hx
 ·
  exact z3y _ _ x hx
 ·
  exact z3y _ _ x hx
theorem z1w (s n : Nat) : (mrec s n).length = 16 := by unfold mrec; rw [List.length_append, zy, zy]
theorem z7v (s n : Nat) : Recs [mrec s n] := Recs.one (by rw [z1w]; decide) zcg
theorem Shape.cutAny (hs : Shape nm f fc h) (b : Nat) : ∃ j, h.du <= j /\ j <= h.rs.length /\ (Shape nm f (setf fc b ⟨(fc b).b.take (whole (fc b).b).2.1, min (whole (fc b).b).2.1 (fc b).lasts⟩) h \/ (enc (h.rs.take j)).length <= h.q /\ Shape nm f (setf fc b ⟨(fc b).b.take (whole (fc b).b).2.1, min (whole (fc b).b).2.1 (fc b).lasts⟩) (h.trim j)) := by
 by_cases hb : h.blocks b
 ·
  have full : ∀ l, fc b = ⟨enc l, (enc l).length⟩ -> Recs l -> ∃ j, h.du <= j /\ j <= h.rs.length /\ (Shape nm f (setf fc b ⟨(fc b).b.take (whole (fc b).b).2.1, min (whole (fc b).b).2.1 (fc b).lasts⟩) h \/ (enc (h.rs.take j)).length <= h.q /\ Shape nm f (setf fc b ⟨(fc b).b.take (whole (fc b).b).2.1, min (whole (fc b).b).2.1 (fc b).lasts⟩) (h.trim j)) := fun l hl hr => by
   refine ⟨h.rs.length, hs.lastd, Nat.le_refl _, .inl ?_⟩
   have e : (⟨(fc b).b.take (whole (fc b).b).2.1, min (whole (fc b).b).2.1 (fc b).lasts⟩ : Fl) = fc b := by
    rw [hl]; simp only [z58 hr, List.take_length, Nat.min_self]
   rw [e, z83 fc rfl]; exact hs
  by_cases e : b = h.b
  ·
   subst e
   obtain ⟨j, h1, h2, h3, h4, h5, -⟩ := hs.wholes
   refine ⟨j, h1, h2, .inr ⟨by omega, ?_⟩⟩
   rw [h3]; exact hs.cut h1 h2 h4
  ·
   rcases hb with rfl | ⟨g1, rfl⟩ | ⟨c, hc, rfl⟩ | rfl
   ·
    exact full [mrec h.s h.first] (by rw [z1v]; exact hs.manc) (z7v _ _)
   ·
    rcases hs.snap with ⟨h0, -⟩ | ⟨-, y, -, g3, -, g5⟩
    ·
     omega
    ·
     exact full [y] (by rw [z1v]; exact g5) g3
   ·
    exact full _ (hs.clc c hc).1 (hs.clc c hc).2
   ·
    exact absurd rfl e
 ·
  exact ⟨h.rs.length, hs.lastd, Nat.le_refl _, .inl (hs.setOther _ hb)⟩
theorem Shape.syncAny (hs : Shape nm f fc h) (b : Nat) : Shape nm f (setf fc b ⟨(fc b).b, (fc b).b.length⟩) h := by
 by_cases hb : h.blocks b
 ·
  have full : ∀ l : List Nat, fc b = ⟨l, l.length⟩ -> Shape nm f (setf fc b ⟨(fc b).b, (fc b).b.length⟩) h := fun l hl => by
   rw [z83 fc (by rw [hl])]; exact hs
  by_cases e : b = h.b
  ·
   subst e
   have hl : (fc h.b).b.length = h.q := by rw [hs.lastb, List.length_take]; have := hs.lastq; omega
   have h1 := hs.setLast ⟨(fc h.b).b, (fc h.b).b.length⟩ h.rs h.q h.du hs.lastb hs.lastq ⟨by show _ <= (fc h.b).b.length; have := hs.lastl; omega, by show (fc h.b).b.length <= _; omega⟩ hs.lastd hs.lastr
   exact h1
  ·
   rcases hb with rfl | ⟨g1, rfl⟩ | ⟨c, hc, rfl⟩ | rfl
   ·
    exact full _ hs.manc
   ·
    rcases hs.snap with ⟨h0, -⟩ | ⟨-, y, -, g3, -, g5⟩
    ·
     omega
    ·
     exact full _ g5
   ·
    exact full _ (hs.clc c hc).1
   ·
    exact absurd rfl e
 ·
  exact hs.setOther _ hb
end Go.Log
end
section
namespace Go.Log
open Go.Vfs
open Go.Proofs.YtpjomdmjohjheaaGreatDoor (readOf)
variable {nm : ByteArray} {X Y Z : Ds} {P P' : Sh -> Prop} {e : Int} {s t : ByteArray} {h g : Sh} {f : Dir} {fc : Nat -> Fl} {L L' : Lg} {x : List Nat} {most : Nat}
theorem z3j {b : Nat} (hm : mnB s = true) (h : X.dir s = some b) : readOf X.D X.fc s = ((X.fc b).b, 0) := by
 have e : found X.D s = (some b, 0) := by
  unfold found; rw [if_pos hm, show flook X.D.files s = some b from h]
 unfold readOf; rw [e]
theorem z7w {b : Nat} (hm : mnB s = true) (h : X.dir s = some b) (hx : Recs [x]) (hc : (X.fc b).b = recd x) : oneR X s = some x := by
 unfold oneR
 rw [z3j hm h, hc, zdv hx]
 simp
theorem zcy {s n : Nat} (hs : s <= mxn) (h1 : 1 <= n) (hn : n <= mxn) : manN (mrec s n) = some (s, n) := by
 have e1 : (mrec s n).take 8 = be 8 s := by unfold mrec; rw [List.take_left' (zy _ _)]
 have e2 : (mrec s n).drop 8 = be 8 n := by unfold mrec; rw [List.drop_left' (zy _ _)]
 have m : ∀ k, k <= mxn -> k % 256 ^ 8 = k := fun k hk => Nat.mod_eq_of_lt (by unfold mxn at hk; omega)
 unfold manN
 rw [e1, e2, z6e, z6e, m s hs, m n hn, z1w]
 rw [if_pos ⟨rfl, hs, h1, hn⟩]
theorem zgk {l : List Nat} {T : List Nat} (hT : T.Pairwise (· < ·)) (hl : l.Pairwise (· <= ·)) (hn : l.Nodup) (hm : ∀ k, k ∈ l ↔ k ∈ T) : l = T := by
 have nT : T.Nodup := hT.imp (fun h => by omega)
 have hp : l.Perm T := (List.perm_ext_iff_of_nodup hn nT).2 hm
 exact hp.eq_of_pairwise (le := (· <= ·)) (fun a b _ _ h1 h2 => by omega) hl (hT.imp (fun h => by omega))
theorem zh2 (hs : Shape nm X.dir X.fc h) (hnd : (X.D.files.map Prod.fst).Nodup) {ns : List Nat} (hN : SegsOf nm h.first X ns) : ns = h.tab.map Prod.fst := by
 obtain ⟨h1, h2⟩ := hN
 have f1 := hs.f1
 have hF : ((((X.D.files.map Prod.fst).map (sgn nm)).filter fun n => decide (h.first <= n))).Nodup := by
  rw [List.filter_map]
  refine List.pairwise_map.2 ?_
  have hnf : ((X.D.files.map Prod.fst).filter ((fun n => decide (h.first <= n)) ∘ sgn nm)).Nodup := hnd.sublist List.filter_sublist
  refine List.Pairwise.imp_of_mem (fun {a b} ha hb hne e => hne ?_) hnf
  have ha' : h.first <= sgn nm a := by simpa using (List.mem_filter.1 ha).2
  have hb' : h.first <= sgn nm b := by simpa using (List.mem_filter.1 hb).2
  rw [(z39 (nm := nm) (s := a) (by omega)).1, (z39 (nm := nm) (s := b) (by omega)).1, e]
 refine zgk (List.pairwise_map.2 hs.asc) h1 (h2.nodup_iff.2 hF) (fun k => ?_)
 rw [h2.mem_iff, List.mem_filter]
 constructor
 ·
  rintro ⟨hk, hk2⟩
  obtain ⟨s, hs1, rfl⟩ := List.mem_map.1 hk
  have hk' : h.first <= sgn nm s := by simpa using hk2
  obtain ⟨e1, e2, e3⟩ := z39 (nm := nm) (s := s) (by omega)
  obtain ⟨b, hb⟩ := z1d hs1
  have hb' : X.dir (sgf nm (sgn nm s)) = some b := by rw [<- e1]; exact hb
  rw [hs.segs _ hk' e3] at hb'
  exact List.mem_map.2 ⟨_, ze8 hb', rfl⟩
 ·
  intro hk
  obtain ⟨p, hp, rfl⟩ := List.mem_map.1 hk
  have hr := hs.rng p hp
  have hb := hs.blkOf (k := p.1) (x := p.2) hp
  refine ⟨List.mem_map.2 ⟨_, z6z hb, z1o nm (by omega) hr.2⟩, by simpa using hr.1⟩
theorem z6m {ms : List Nat} (hne : ms ≠ []) (hm : ∀ k, k <= mxn -> mnB (sgf nm k) = true) : ∀ (cl : List (Nat × Nat × List (List Nat))) (L : Lg) (e : Nat), L.name = nm -> (∀ c ∈ cl, c.1 <= mxn /\ X.dir (sgf nm c.1) = some c.2.1 /\ (X.fc c.2.1).b = enc c.2.2 /\ Recs c.2.2) ->
  ∃ L' e', rdl X (cl.map (fun c => c.1) ++ ms) L e = rdl X ms L' e' /\ ∃ k q, L' = { L with recs := L.recs ++ cl.flatMap (fun c => c.2.2), segment := k, size := q }
 | [], L, e, _, _ => ⟨L, e, rfl, L.segment, L.size, by simp⟩
 | c :: cl, L, e, hL, hc => by
  obtain ⟨h1, h2, h3, h4⟩ := hc c (by simp)
  obtain ⟨L', e', h5, k, q, h6⟩ := z6m hne hm cl { L with recs := L.recs ++ c.2.2, segment := c.1, size := (enc c.2.2).length } (enc c.2.2).length hL (fun c' hc' => hc c' (by simp [hc']))
  refine ⟨L', e', ?_, k, q, ?_⟩
  ·
   obtain rfl := hL
   rw [List.map_cons, List.cons_append]
   show (if _ then _ else _) = _
   rw [z3j (hm _ h1) h2, h3, z58 h4, if_pos ⟨rfl, .inl (Nat.le_refl _)⟩]
   exact h5
  ·
   rw [h6]; simp
theorem zgs (hs : Shape nm X.dir X.fc h) (hn : mnB nm = true) (h16 : nm.size <= 16) (hnd : (X.D.files.map Prod.fst).Nodup) {r : Option (Lg × Nat)} (hr : readR X { lg0 nm most with first := h.first } h.s r) :
  ∃ j, h.du <= j /\ j <= h.rs.length /\ (h.q = (enc h.rs).length -> j = h.rs.length) /\ (X.fc h.b).b.length = h.q /\ (whole (X.fc h.b).b).2.1 = (enc (h.rs.take j)).length /\ (enc (h.rs.take j)).length <= h.q /\
   r = some ({ lg0 nm most with first := h.first, segment := h.m, segments := h.cl.length + 1, size := h.q, snap := h.sn.getD [], has := h.sn.isSome, recs := h.closed ++ h.rs.take j }, (enc (h.rs.take j)).length) := by
 obtain ⟨j, h1, h2, h3, h4, h5, h6⟩ := hs.wholes
 refine ⟨j, h1, h2, h6, h5, by rw [h3], by omega, ?_⟩
 have hmn : ∀ k, k <= mxn -> mnB (sgf nm k) = true := fun k hk => z0p hn h16 hk
 have key : ∀ L1 : Lg, L1.name = nm -> L1.first = h.first -> L1.recs = [] -> (∃ ns, SegsOf L1.name L1.first X ns /\ r = if ns = [] then none else (rdl X ns L1 0).map fun p => ({ p.1 with segments := ns.length }, p.2)) ->
   r = some ({ L1 with segment := h.m, segments := h.cl.length + 1, size := h.q, recs := h.closed ++ h.rs.take j }, (enc (h.rs.take j)).length) := by
  rintro L1 e1 e2 e3 ⟨ns, hN, hr⟩
  rw [e1, e2] at hN
  have hns := zh2 hs hnd hN
  have hns' : ns = h.cl.map (fun c => c.1) ++ [h.m] := by rw [hns]; unfold Sh.tab; rw [List.map_append, List.map_map]; rfl
  have hlen : ns.length = h.cl.length + 1 := by rw [hns']; simp
  have hmm := hs.m1
  rw [hr, if_neg (by intro e; rw [e] at hlen; simp at hlen), hns']
  obtain ⟨L', e', h7, k, q, h8⟩ := z6m (X := X) (ms := [h.m]) (by simp) hmn h.cl L1 0 e1 (fun c hc => by
   have hp := mem_tab' hc
   have := hs.rng _ hp
   exact ⟨this.2, hs.blkOf hp, by rw [(hs.clc c hc).1], (hs.clc c hc).2⟩)
  have hL' : L'.name = nm := by rw [h8]; exact e1
  have e9 : rdl X [h.m] L' e' = some ({ L' with recs := L'.recs ++ h.rs.take j, segment := h.m, size := h.q }, (enc (h.rs.take j)).length) := by
   show (if _ then _ else _) = _
   rw [hL', z3j (hmn _ hmm.2) hs.lastAt, h3, if_pos ⟨rfl, .inr rfl⟩, <- h5]; rfl
  rw [h7, e9, <- hns', hlen, h8, e3]
  simp [Sh.closed]
 unfold readR snapR at hr
 rcases hs.snap with ⟨h0, h0'⟩ | ⟨h0, y, h7, h8, h9, h10⟩
 ·
  rw [if_pos h0] at hr
  have := key _ rfl rfl rfl hr
  rw [this, h0']; rfl
 ·
  rw [if_neg (by omega), show ({ lg0 nm most with first := h.first } : Lg).name = nm from rfl, z7w (z5c hn h16 hs.s1) h9 h8 (by rw [h10])] at hr
  have := key _ rfl rfl rfl hr
  rw [this, h7]; rfl
theorem zbm (hn : mnB nm = true) (h16 : nm.size <= 16) (hnd : (X.D.files.map Prod.fst).Nodup) (hi : In nm X P) (hP : Trims P) (hr : openR nm most X e L Y) :
  ∃ h j, P h /\ Shape nm X.dir X.fc h /\ h.du <= j /\ j <= h.rs.length /\ (h.q = (enc h.rs).length -> j = h.rs.length) /\ In nm Y P /\
   (∃ en, (X.fc h.b).b.length = h.q /\ en = (enc (h.rs.take j)).length /\ en <= h.q /\ X.dir (sgf nm h.m) = some h.b /\ askO [if h.q = en then nop else cuO (sgf nm h.m) en, syO (sgf nm h.m), sdO] X e Y) /\
   (e = 0 -> LI nm L Y { h.trim j with du := j } /\ L.synced = L.recs.length /\ L.most = most) := by
 obtain ⟨h, hPh, hs⟩ := hi.live
 have hman : oneR X (manf nm) = some (mrec h.s h.first) := z7w (z2v hn h16) hs.man (z7v _ _) (by rw [hs.manc])
 have hfn : h.first <= mxn := by have := hs.m1; omega
 have hbind : (oneR X (manf nm)).bind manN = some (h.s, h.first) := by rw [hman]; exact zcy hs.s1 hs.f1 hfn
 rcases hr with ⟨h0, -⟩ | ⟨b, -, h0, -⟩ | ⟨b, s, n, r, -, h0, hr, hq⟩
 ·
  rw [show flook X.D.files (manf nm) = some h.bm from hs.man] at h0; cases h0
 ·
  rw [hbind] at h0; cases h0
 rw [hbind] at h0
 cases h0
 obtain ⟨j, h1, h2, h3, h4, h5, h6, h7⟩ := zgs hs hn h16 hnd hr
 rcases hq with ⟨h8, -⟩ | ⟨L1, en, h8, h9, h10⟩
 ·
  rw [h7] at h8; cases h8
 rw [h7] at h8
 cases h8
 have hmm := hs.m1
 obtain ⟨en, hen⟩ : ∃ en, (enc (h.rs.take j)).length = en := ⟨_, rfl⟩
 rw [hen] at h5 h6 h9 h10
 have h9' : askO [if h.q = en then nop else cuO (sgf nm h.m) en, syO (sgf nm h.m), sdO] X e Y := h9
 have hla := hs.lastAt
 have cutI : ∀ {e Z}, (if h.q = en then nop else cuO (sgf nm h.m) en) X e Z -> In nm Z P /\ Sm X Z /\ (e = 0 -> Shape nm Z.dir Z.fc (h.trim j)) := fun {e Z} hc => by
  by_cases he : h.q = en
  ·
   rw [if_pos he] at hc
   obtain ⟨rfl, rfl⟩ := hc
   exact ⟨hi, Sm.refl _, fun _ => hs.uncut h1 h2 (by rw [hen, h4, he])⟩
  ·
   rw [if_neg he] at hc
   obtain ⟨s1, ⟨e0, hf⟩ | ⟨rfl, b, hb, -, hf⟩⟩ := z2z hc
   ·
    exact ⟨hi.same s1 hf, s1, fun e1 => absurd e1 e0⟩
   ·
    obtain rfl : b = h.b := Option.some.inj (hb.symm.trans hla)
    refine ⟨hi.write s1 hf fun q f hq hsh => ?_, s1, fun _ => ?_⟩
    ·
     obtain ⟨i, i1, i2, i3⟩ := hsh.cutAny h.b
     rw [h5] at i3
     rcases i3 with i3 | ⟨i4, i3⟩
     ·
      exact ⟨q, hq, i3⟩
     ·
      exact ⟨_, hP q i hq i1 i2 i4, i3⟩
    ·
     rw [s1.dir, hf, <- hen]; exact hs.cut h1 h2 (by rw [h4, hen]; exact h6)
 have fin : ∀ (hI : In nm Y P) (hL : e = 0 -> LI nm L Y { h.trim j with du := j } /\ L.synced = L.recs.length /\ L.most = most), _ := fun hI hL => (⟨h, j, hPh, hs, h1, h2, h3, hI, ⟨en, h4, hen.symm, h6, hla, h9'⟩, hL⟩ : ∃ h j, P h /\ Shape nm X.dir X.fc h /\ h.du <= j /\ j <= h.rs.length /\ (h.q = (enc h.rs).length -> j = h.rs.length) /\ In nm Y P /\
   (∃ en, (X.fc h.b).b.length = h.q /\ en = (enc (h.rs.take j)).length /\ en <= h.q /\ X.dir (sgf nm h.m) = some h.b /\ askO [if h.q = en then nop else cuO (sgf nm h.m) en, syO (sgf nm h.m), sdO] X e Y) /\
   (e = 0 -> LI nm L Y { h.trim j with du := j } /\ L.synced = L.recs.length /\ L.most = most))
 rcases zj h9' with ⟨e0, g1⟩ | ⟨Z1, g1, k1⟩
 ·
  exact fin (cutI g1).1 (fun e1 => absurd e1 e0)
 obtain ⟨i1, s1, sh1⟩ := cutI g1
 have sh1 := sh1 rfl
 have d1 : Z1.dir (sgf nm h.m) = some h.b := by rw [s1.dir]; exact hla
 have syI : ∀ {e Z}, syO (sgf nm h.m) Z1 e Z -> In nm Z P /\ Sm Z1 Z /\ (e = 0 -> Shape nm Z.dir Z.fc { h.trim j with du := j }) := fun {e Z} hc => by
  obtain ⟨s2, ⟨e0, hf⟩ | ⟨rfl, b, hb, hf⟩⟩ := z0c hc
  ·
   exact ⟨i1.same s2 hf, s2, fun e1 => absurd e1 e0⟩
  ·
   obtain rfl : b = h.b := Option.some.inj (hb.symm.trans d1)
   refine ⟨i1.write s2 hf fun q f hq hsh => ⟨q, hq, hsh.syncAny _⟩, s2, fun _ => ?_⟩
   rw [s2.dir, hf]
   have := sh1.synced rfl
   have e3 : (h.trim j).rs.length = j := by show (h.rs.take j).length = j; rw [List.length_take]; omega
   rw [e3] at this
   exact this
 rcases zj k1 with ⟨e0, g2⟩ | ⟨Z2, g2, k2⟩
 ·
  exact fin (syI g2).1 (fun e1 => absurd e1 e0)
 obtain ⟨i2, s2, sh2⟩ := syI g2
 have sh2 := sh2 rfl
 have g3 := z04 k2
 obtain ⟨f3, ⟨e0, s3⟩ | ⟨e0, a1, a2, a3, a4⟩⟩ := z0k g3
 ·
  exact fin (i2.same s3 f3) (fun e1 => absurd e1 e0)
 subst e0
 have d3 : Y.dir = Z2.dir := by unfold Ds.dir; rw [a1]
 have w3 : Wf Y := by unfold Wf; rw [a3]; intro s hs; cases hs
 refine fin ⟨w3, fun f hf => ?_⟩ fun _ => ⟨?_, ?_, ?_⟩
 ·
  rw [z3u g3 hf, f3]; exact i2.live
 ·
  have e3 : (h.rs.take j).length = j := by rw [List.length_take]; omega
  subst h10
  refine { inn := ⟨w3, fun f hf => ⟨_, rfl, by rw [z3u g3 hf, f3]; exact sh2⟩⟩, full := rfl, name := rfl, nob := rfl, first := rfl, seg := rfl, segs := rfl, size := hen.symm, recs := rfl, syn := ?_, snap := ?_ }
  ·
   show (h.closed ++ h.rs.take j).length <= h.closed.length + j
   rw [List.length_append, e3]; exact Nat.le_refl _
  ·
   show (h.sn = none /\ h.sn.isSome = false /\ h.sn.getD [] = []) \/ ∃ x, h.sn = some x /\ h.sn.isSome = true /\ h.sn.getD [] = x
   cases h.sn with
   | none => exact .inl ⟨rfl, rfl, rfl⟩
   | some x => exact .inr ⟨x, rfl, rfl, rfl⟩
 ·
  subst h10; rfl
 ·
  subst h10; rfl
end Go.Log
end
section
namespace Go.Log
open Go.Lk Go.RowKit Go.Vfs
variable {W0 w w' w2 : World} {l d : Nat} {L L' : Lg} {X Y : Ds} {O O' S N : Nat -> Prop}
structure DO (W0 w : World) (d : Nat) (X : Ds) (O : Nat -> Prop) : Prop where
 ex : ∃ F R, DiskAt w d F R X.D X.fc /\ (∀ k, O k -> k < w.heap.size /\ ¬ F k /\ ¬ R k) /\ ∀ k, F k -> W0.heap.size <= k
 k : Keeps Nb W0 w
 v : Vars W0
 six : 6 <= W0.heap.size
structure LS (W0 w : World) (l d : Nat) (L : Lg) (X : Ds) (O : Nat -> Prop) : Prop where
 ex : ∃ Fd Rd FL RL, LgAt w l d Fd Rd FL RL L X /\ (∀ k, O k -> k < w.heap.size /\ ¬ Fd k /\ ¬ Rd k /\ ¬ FL k /\ ¬ RL k) /\ (∀ k, Fd k -> W0.heap.size <= k) /\ ∀ k, FL k -> W0.heap.size <= k
 k : Keeps Nb W0 w
 v : Vars W0
 six : 6 <= W0.heap.size
def Oth (W0 : World) (O : Nat -> Prop) : Nat -> Prop := fun k => W0.heap.size <= k /\ ¬ O k
theorem DO.vars (h : DO W0 w d X O) : Vars w := h.v.nb h.k
theorem LS.vars (h : LS W0 w l d L X O) : Vars w := h.v.nb h.k
theorem DO.nb (h : DO W0 w d X O) (hk : Keeps Nb w w') : DO W0 w' d X O := by
 obtain ⟨⟨F, R, h1, h2, h3⟩, h4, h5, h6⟩ := h
 exact ⟨⟨F, R, h1.nb hk, fun k e => ⟨Nat.lt_of_lt_of_le (h2 k e).1 hk.size, (h2 k e).2⟩, h3⟩, h4.trans_nb hk, h5, h6⟩
theorem LS.nb (h : LS W0 w l d L X O) (hk : Keeps Nb w w') : LS W0 w' l d L X O := by
 obtain ⟨⟨Fd, Rd, FL, RL, h1, h2, h3, h3'⟩, h4, h5, h6⟩ := h
 exact ⟨⟨Fd, Rd, FL, RL, h1.nb hk, fun k e => ⟨Nat.lt_of_lt_of_le (h2 k e).1 hk.size, (h2 k e).2⟩, h3, h3'⟩, h4.trans_nb hk, h5, h6⟩
theorem LS.mono (h : LS W0 w l d L X O) (hO : ∀ k, O' k -> O k) : LS W0 w l d L X O' := by
 obtain ⟨⟨Fd, Rd, FL, RL, h1, h2, h3, h3'⟩, h4, h5, h6⟩ := h
 exact ⟨⟨Fd, Rd, FL, RL, h1, fun k e => h2 k (hO k e), h3, h3'⟩, h4, h5, h6⟩
theorem DO.add (h : DO W0 w d X O) (hk : Keeps Nb w w') (hN : ∀ k, N k -> w.heap.size <= k /\ k < w'.heap.size) : DO W0 w' d X fun k => O k \/ N k := by
 obtain ⟨⟨F, R, h1, h2, h3⟩, h4, h5, h6⟩ := h
 refine ⟨⟨F, R, h1.nb hk, fun k e => ?_, h3⟩, h4.trans_nb hk, h5, h6⟩
 rcases e with e | e
 ·
  exact ⟨Nat.lt_of_lt_of_le (h2 k e).1 hk.size, (h2 k e).2⟩
 ·
  have := hN k e
  exact ⟨this.2, fun f => by have := h1.ltF k f; omega, fun f => by have := h1.ltR k f; omega⟩
theorem LS.add (h : LS W0 w l d L X O) (hk : Keeps Nb w w') (hN : ∀ k, N k -> w.heap.size <= k /\ k < w'.heap.size) : LS W0 w' l d L X fun k => O k \/ N k := by
 obtain ⟨⟨Fd, Rd, FL, RL, h1, h2, h3, h3'⟩, h4, h5, h6⟩ := h
 refine ⟨⟨Fd, Rd, FL, RL, h1.nb hk, fun k e => ?_, h3, h3'⟩, h4.trans_nb hk, h5, h6⟩
 rcases e with e | e
 ·
  exact ⟨Nat.lt_of_lt_of_le (h2 k e).1 hk.size, (h2 k e).2⟩
 ·
  have := hN k e
  exact ⟨this.2, fun f => by have := h1.disk.ltF k f; omega, fun f => by have := h1.disk.ltR k f; omega, fun f => by have := h1.ltF k f; omega, fun f => by have := h1.ltR k f; omega⟩
theorem DO.set (h : DO W0 w d X O) (hk : Keeps S w w') (hS : ∀ k, S k -> O k /\ W0.heap.size <= k) : DO W0 w' d X O := by
 obtain ⟨⟨F, R, h1, h2, h3⟩, h4, h5, h6⟩ := h
 exact ⟨⟨F, R, h1.keeps hk (fun k f s => (h2 k (hS k s).1).2.1 f) (fun k f s => (h2 k (hS k s).1).2.2 f), fun k e => ⟨Nat.lt_of_lt_of_le (h2 k e).1 hk.size, (h2 k e).2⟩, h3⟩, h4.trans hk (fun j hj s => by have := (hS j s).2; omega), h5, h6⟩
theorem LS.set (h : LS W0 w l d L X O) (hk : Keeps S w w') (hS : ∀ k, S k -> O k /\ W0.heap.size <= k) : LS W0 w' l d L X O := by
 obtain ⟨⟨Fd, Rd, FL, RL, h1, h2, h3, h3'⟩, h4, h5, h6⟩ := h
 exact ⟨⟨Fd, Rd, FL, RL, h1.keeps hk (fun k f s => (h2 k (hS k s).1).2.1 f) (fun k f s => (h2 k (hS k s).1).2.2.1 f) (fun k f s => (h2 k (hS k s).1).2.2.2.1 f) (fun k f s => (h2 k (hS k s).1).2.2.2.2 f), fun k e => ⟨Nat.lt_of_lt_of_le (h2 k e).1 hk.size, (h2 k e).2⟩, h3, h3'⟩, h4.trans hk (fun j hj s => by have := (hS j s).2; omega), h5, h6⟩
theorem LS.disk (h : LS W0 w l d L X O) : DO W0 w d X O := by
 obtain ⟨⟨Fd, Rd, FL, RL, h1, h2, h3, h3'⟩, h4, h5, h6⟩ := h
 exact ⟨⟨Fd, Rd, h1.disk, fun k e => ⟨(h2 k e).1, (h2 k e).2.1, (h2 k e).2.2.1⟩, h3⟩, h4, h5, h6⟩
theorem DO.now (h : DO W0 w d X O) {F R : Nat -> Prop} (h1 : ∀ k, O k -> k < w.heap.size /\ ¬ F k /\ ¬ R k) (h2 : ∀ k, F k -> W0.heap.size <= k) (hn : Now w w' d F R Y.D Y.fc) : DO W0 w' d Y O /\ Keeps (Oth W0 O) w w' := by
 obtain ⟨F', R', n1, n2, n3, n4⟩ := hn
 have z0 := h.k.size; have z := n4.size
 refine ⟨⟨⟨F', R', n1, fun k e => ?_, fun k f => (n2 k f).elim (h2 k) (fun _ => by omega)⟩, h.k.trans n4 (fun j hj e => by have := h2 j e; omega), h.v, h.six⟩, n4.mono fun k _ f => ⟨h2 k f, fun e => (h1 k e).2.1 f⟩⟩
 have := h1 k e
 exact ⟨by omega, fun f => (n2 k f).elim this.2.1 (fun _ => by omega), fun f => (n3 k f).elim this.2.2 (fun _ => by omega)⟩
theorem LS.now (h : LS W0 w l d L X O) {Fd Rd FL RL : Nat -> Prop} (h1 : ∀ k, O k -> k < w.heap.size /\ ¬ Fd k /\ ¬ Rd k /\ ¬ FL k /\ ¬ RL k) (h2 : ∀ k, Fd k -> W0.heap.size <= k) (h3 : ∀ k, FL k -> W0.heap.size <= k) (hn : LNow w w' l d Fd Rd FL RL L' Y) : LS W0 w' l d L' Y O /\ Keeps (Oth W0 O) w w' := by
 obtain ⟨Fd', Rd', FL', RL', n1, n2, n3, n4, n5, n6⟩ := hn
 have z0 := h.k.size; have z := n6.size
 refine ⟨⟨⟨Fd', Rd', FL', RL', n1, fun k e => ?_, fun k f => (n2 k f).elim (h2 k) (fun _ => by omega), fun k f => (n4 k f).elim (h3 k) (fun _ => by omega)⟩, h.k.trans n6 (fun j hj e => e.elim (fun e => by have := h2 j e; omega) (fun e => by have := h3 j e; omega)), h.v, h.six⟩, n6.mono fun k _ f => ⟨f.elim (h2 k) (h3 k), fun e => f.elim (h1 k e).2.1 (h1 k e).2.2.2.1⟩⟩
 have := h1 k e
 exact ⟨by omega, fun f => (n2 k f).elim this.2.1 (fun _ => by omega), fun f => (n3 k f).elim this.2.2.1 (fun _ => by omega), fun f => (n4 k f).elim this.2.2.2.1 (fun _ => by omega), fun f => (n5 k f).elim this.2.2.2.2 (fun _ => by omega)⟩
theorem Oth.at {b : Nat} {o : Obj} (hk : Keeps (Oth W0 O) w w') (h : w.heap[b]? = some o) (hO : O b) : w'.heap[b]? = some o := hk.at h fun e => e.2 hO
end Go.Log
namespace Go.Proofs.YtpjomdmjohjheaaGreatDoor
open Go.RowKit Go.Lk Go.Vfs Go.Log
variable {W0 w w' w2 : World} {l d : Nat} {L L' : Lg} {X Y : Ds} {O O' S N : Nat -> Prop}
def LsD (W0 : World) (l d : Nat) (O : Nat -> Prop) (L : Lg) (X : Ds) (k : Int) (r : Lg -> Ds -> Int -> Lg -> Ds -> Prop) (w : World) (e : Ending) (w' : World) : Prop :=
 ∃ er L' Y, e = .returned (.int .i64 er) /\ LS W0 w' l d L' Y O /\ r L X er L' Y /\ pot Y <= pot X + k /\ Keeps (Oth W0 O) w w'
theorem z73 (h : LS W0 w l d L X O) (hp : pot X + 1 <= 999999) : Calls Tryz.prog 22 #[.pointer (some ⟨l, 0, none⟩)] w (LsD W0 l d O L X 1 synR w) := by
 obtain ⟨Fd, Rd, FL, RL, h1, h2, h3, h4⟩ := h.ex
 refine (zek l d Fd Rd FL RL L X w h1 h.vars hp).mono ?_
 rintro e w' ⟨er, L', Y, rfl, hn, hr, hp'⟩
 obtain ⟨a, b⟩ := h.now h2 h3 h4 hn
 exact ⟨er, L', Y, rfl, a, hr, hp', b⟩
def Own (W0 : World) (O : Nat -> Prop) : Nat -> Prop := fun k => k < W0.heap.size \/ O k
theorem z7m (h : LS W0 w l d L X O) {Fd Rd FL RL : Nat -> Prop} (h1 : ∀ k, O k -> k < w.heap.size /\ ¬ Fd k /\ ¬ Rd k /\ ¬ FL k /\ ¬ RL k) (h2 : ∀ k, Fd k -> W0.heap.size <= k) (h3 : ∀ k, FL k -> W0.heap.size <= k) {v : Value} {bs : List Nat} (hb : Bytes w (Own W0 O) v bs) : BytesO v bs w Fd FL := by
 refine Bytes.mono hb fun k e => ?_
 have z := h.k.size
 rcases e with e | e
 ·
  exact ⟨by omega, fun f => by have := h2 k f; omega, fun f => by have := h3 k f; omega⟩
 ·
  exact ⟨(h1 k e).1, (h1 k e).2.1, (h1 k e).2.2.2.1⟩
theorem z2h (h : LS W0 w l d L X O) {v : Value} {bs : List Nat} (hb : Bytes w (Own W0 O) v bs) (hp : pot X + 6 <= 999999) (hsg : L.segments < 1000000) (hrc : L.recs.length < 4000000000000) (hsz : L.size <= 16777216) :
  Calls Tryz.prog 21 #[.pointer (some ⟨l, 0, none⟩), v] w (LsD W0 l d O L X 6 (fun L X e L' Y => appR L bs X e L' Y) w) := by
 obtain ⟨Fd, Rd, FL, RL, h1, h2, h3, h4⟩ := h.ex
 refine (zcd l d Fd Rd FL RL L X v bs w h1 h.vars (z7m h h2 h3 h4 hb) hp hsg hrc hsz).mono ?_
 rintro e w' ⟨er, L', Y, rfl, hn, hr, hp'⟩
 obtain ⟨a, b⟩ := h.now h2 h3 h4 hn
 exact ⟨er, L', Y, rfl, a, hr, hp', b⟩
theorem zag (h : LS W0 w l d L X O) {v : Value} {bs : List Nat} (hb : Bytes w (Own W0 O) v bs) (hp : pot X + 19 <= 999999) :
  Calls Tryz.prog 23 #[.pointer (some ⟨l, 0, none⟩), v] w (LsD W0 l d O L X 19 (fun L X e L' Y => turnR L bs X e L' Y) w) := by
 obtain ⟨Fd, Rd, FL, RL, h1, h2, h3, h4⟩ := h.ex
 refine (zhb l d Fd Rd FL RL L X v bs w h1 h.vars (z7m h h2 h3 h4 hb) hp).mono ?_
 rintro e w' ⟨er, L', Y, rfl, hn, hr, hp'⟩
 obtain ⟨a, b⟩ := h.now h2 h3 h4 hn
 exact ⟨er, L', Y, rfl, a, hr, hp', b⟩
theorem z3r (h : DO W0 w d X O) (nm : ByteArray) (m : Nat) (hm1 : mnB nm = true) (h16 : nm.size <= 16) (hs1 : 1 <= m) (hs2 : m <= 1048576) (hp : pot X + 12 <= 999999) :
  Calls Tryz.prog 19 #[.pointer (some ⟨d, 0, none⟩), .string nm, .int .i64 m] w fun e w' => ∃ er L Y, openR nm m X er L Y /\ pot Y <= pot X + 12 /\ Keeps (Oth W0 O) w w' /\
   ((er = 0 /\ ∃ l, e = .returned (.tuple #[.pointer (some ⟨l, 0, none⟩), .int .i64 0]) /\ LS W0 w' l d L Y O) \/ (er ≠ 0 /\ e = .returned (.tuple #[.pointer none, .int .i64 er]) /\ DO W0 w' d Y O)) := by
 obtain ⟨F, R, h1, h2, h3⟩ := h.ex
 have h6 := h.six
 refine (zgh d F R X nm m w h1 h.vars (fun k f => by have := h3 k f; omega) hm1 h16 hs1 hs2 hp).mono ?_
 rintro e w' ⟨er, L, Y, hr, hp', ⟨h0, l, Fd', Rd', FL, RL, rfl, g1, g2, g3, g4, g5, g6⟩ | ⟨h0, rfl, hn⟩⟩
 ·
  have z0 := h.k.size; have z := g6.size
  refine ⟨er, L, Y, hr, hp', g6.mono fun k _ f => ⟨h3 k f, fun e => (h2 k e).2.1 f⟩, .inl ⟨h0, l, rfl, ⟨⟨Fd', Rd', FL, RL, g1, fun k e => ?_, fun k f => (g2 k f).elim (h3 k) (fun _ => by omega), fun k f => by have := g4 k f; omega⟩, h.k.trans g6 (fun j hj e => by have := h3 j e; omega), h.v, h.six⟩⟩⟩
  have := h2 k e
  exact ⟨by omega, fun f => (g2 k f).elim this.2.1 (fun _ => by omega), fun f => (g3 k f).elim this.2.2 (fun _ => by omega), fun f => by have := g4 k f; omega, fun f => by have := g5 k f; omega⟩
 ·
  obtain ⟨a, b⟩ := h.now h2 h3 hn
  exact ⟨er, L, Y, hr, hp', b, .inr ⟨h0, rfl, a⟩⟩
theorem zbh (h : LS W0 w l d L X O) : Calls Tryz.prog 25 #[.pointer (some ⟨l, 0, none⟩)] w fun e w' => e = .returned (.bool L.bad) /\ w = w' := by
 obtain ⟨Fd, Rd, FL, RL, h1, -⟩ := h.ex
 obtain ⟨sv, lv, hc⟩ := h1.cells
 exact ro_at (hc w (Keeps.refl _ _))
theorem ls_len (h : LS W0 w l d L X O) : Calls Tryz.prog 30 #[.pointer (some ⟨l, 0, none⟩)] w fun e w' => e = .returned (.int .i64 (L.recs.length : Nat)) /\ w = w' := by
 obtain ⟨Fd, Rd, FL, RL, h1, -⟩ := h.ex
 obtain ⟨sv, lv, vs, q1, -, q3, -⟩ := h1.ex
 obtain ⟨-, -, la, lc, rfl, -⟩ := id q3
 exact len_at q1
theorem zcx (h : LS W0 w l d L X O) : Calls Tryz.prog 20 #[.pointer (some ⟨l, 0, none⟩)] w fun e w' => e = .returned (.int .i64 (L.segment : Nat)) /\ w = w' := by
 obtain ⟨Fd, Rd, FL, RL, h1, -⟩ := h.ex
 obtain ⟨sv, lv, hc⟩ := h1.cells
 exact zbs (hc w (Keeps.refl _ _))
theorem zaf (h : LS W0 w l d L X O) : Calls Tryz.prog 31 #[.pointer (some ⟨l, 0, none⟩)] w fun e w' => e = .returned (.int .i64 (L.segments : Nat)) /\ w = w' := by
 obtain ⟨Fd, Rd, FL, RL, h1, -⟩ := h.ex
 obtain ⟨sv, lv, hc⟩ := h1.cells
 exact z9v (hc w (Keeps.refl _ _))
theorem z7u (h : LS W0 w l d L X O) : Calls Tryz.prog 93 #[.pointer (some ⟨l, 0, none⟩)] w fun e w' => e = .returned (.int .i64 (L.synced : Nat)) /\ w = w' := by
 obtain ⟨Fd, Rd, FL, RL, h1, -⟩ := h.ex
 obtain ⟨sv, lv, hc⟩ := h1.cells
 exact zds (hc w (Keeps.refl _ _))
theorem z71 (h : LS W0 w l d L X O) : Calls Tryz.prog 29 #[.pointer (some ⟨l, 0, none⟩)] w fun e w' => ∃ v, e = .returned (.tuple #[v, .bool L.has]) /\ Bytes w' (SinceB w w') v (if L.has = true then L.snap else []) /\ Keeps Nb w w' := by
 obtain ⟨Fd, Rd, FL, RL, h1, -⟩ := h.ex
 exact z9x h1
theorem zcw (h : LS W0 w l d L X O) : Calls Tryz.prog 35 #[.pointer (some ⟨l, 0, none⟩)] w (GotD w L.recs) := by
 obtain ⟨Fd, Rd, FL, RL, h1, -⟩ := h.ex
 exact zcq l d Fd Rd FL RL L X w h1
theorem zae (h : LS W0 w l d L X O) {wa : Option Addr} {wc : Nat} {vs : List Value} (hw : RowS w (fun k => k < w.heap.size) (fun _ => False) 22 1 (.slice wa L.recs.length wc) L.recs.length vs) (hb : BytesL w (fun k => k < w.heap.size) vs L.recs) :
  Calls Tryz.prog 34 #[.pointer (some ⟨l, 0, none⟩), .slice wa L.recs.length wc, .int .i64 0] w fun e w' => e = .returned (.bool true) /\ Keeps Nb w w' := by
 obtain ⟨Fd, Rd, FL, RL, h1, -⟩ := h.ex
 refine zgg _ _ wa wc vs w hw hb h1.nums.recs h1.nums.nrec fun w1 k1 => ?_
 refine (z6n l d Fd Rd FL RL L X w1 (h1.nb k1)).mono ?_
 rintro e w' ⟨g, rfl, g1, g2, g3, g4⟩
 exact ⟨g, _, rfl, g1, g2, fun k e => e.elim (fun e => .inl (h1.ltF k e)) fun e => e.elim (fun e => .inl (h1.ltR k e)) .inr, g3, g4⟩
end Go.Proofs.YtpjomdmjohjheaaGreatDoor
end
section
namespace Go.Log
open Go.Lk Go.RowKit Go.Vfs
def RB (w : World) (R : Nat -> Prop) (v : Value) (ls : List (List Nat)) : Prop :=
 ∃ a c vs, v = .slice a ls.length c /\ ls.length <= c /\ c <= maxLen /\ Has w a vs /\ (∀ b off, a = some ⟨b, off, none⟩ -> vs ≠ [] -> R b) /\ BytesL w R vs ls
theorem RB.keeps {w w' : World} {R S : Nat -> Prop} {v : Value} {ls : List (List Nat)} (h : RB w R v ls) (hk : Keeps S w w') (hn : ∀ k, R k -> ¬ S k) : RB w' R v ls := by
 obtain ⟨a, c, vs, h1, h2, h3, h4, h5, h6⟩ := h
 exact ⟨a, c, vs, h1, h2, h3, h4.keeps hk (fun b off e hz => hn b (h5 b off e hz)), h5, h6.keeps hk hn⟩
theorem RB.mono {w : World} {R R' : Nat -> Prop} {v : Value} {ls : List (List Nat)} (h : RB w R v ls) (hn : ∀ k, R k -> R' k) : RB w R' v ls := by
 obtain ⟨a, c, vs, h1, h2, h3, h4, h5, h6⟩ := h
 exact ⟨a, c, vs, h1, h2, h3, h4, fun b off e hz => hn b (h5 b off e hz), h6.mono hn⟩
theorem RB.of {w : World} {F R R' : Nat -> Prop} {v : Value} {ls : List (List Nat)} {vs : List Value} (h : RowS w F (fun _ => False) 22 1 v ls.length vs) (hb : BytesL w R vs ls) (h1 : ∀ k, F k -> R' k) (h2 : ∀ k, R k -> R' k) : RB w R' v ls := by
 obtain ⟨-, -, a, c, e1, e2, e3, e4, e5, -⟩ := h
 exact ⟨a, c, vs, e1, e2, e3, e4, fun b off e hz => (e5 b off e hz).1.elim (h1 b) (fun e => e.elim), hb.mono h2⟩
end Go.Log
namespace Go.Proofs.YtpjomdmjohjheaaGreatDoor
open Go.RowKit Go.Lk Go.Vfs Go.Log
structure Ks where
 s : ByteArray
 has : Bool
 all : List (List Nat)
 sure : Int
def Ks.v (k : Ks) (av : Value) : Value := .agg #[.string k.s, .bool k.has, av, .int .i64 k.sure]
end Go.Proofs.YtpjomdmjohjheaaGreatDoor
end
section
namespace Go.Proofs.YtpjomdmjohjheaaGreatDoor
open Go.RowKit Go.Lk Go.Vfs Go.Log
def turnedK (b : List Nat) : Ks := ⟨bstr b, true, [], 0⟩
def playR : List StepD -> Lg -> Ds -> Ks -> Lg -> Ds -> Ks -> Ks -> Prop
 | [], L, X, k, L', Y, a, b => L' = L /\ Y = X /\ a = k /\ b = k
 | s :: l, L, X, k, L', Y, a, b =>
  (L.bad = true /\ L' = L /\ Y = X /\ a = k /\ b = k) \/
  (L.bad = false /\ s.kind = 1 /\ ∃ e L1 Z, appR L s.b X e L1 Z /\ playR l L1 Z { k with all := k.all ++ [s.b], sure := max k.sure (L1.synced : Int) } L' Y a b) \/
  (L.bad = false /\ s.kind = 2 /\ ∃ e L1 Z, synR L X e L1 Z /\ playR l L1 Z (if e = 0 then { k with sure := (k.all.length : Int) } else k) L' Y a b) \/
  (L.bad = false /\ s.kind = 3 /\ ∃ e L1 Z, turnR L s.b X e L1 Z /\ ((e ≠ 0 /\ L' = L1 /\ Y = Z /\ a = k /\ b = turnedK s.b) \/ (e = 0 /\ playR l L1 Z (turnedK s.b) L' Y a b))) \/
  (L.bad = false /\ s.kind ≠ 1 /\ s.kind ≠ 2 /\ s.kind ≠ 3 /\ playR l L X k L' Y a b)
theorem zdc {l : List StepD} {L : Lg} {X : Ds} {k : Ks} (h : L.bad = true) : playR l L X k L X k k := by
 cases l with
 | nil => exact ⟨rfl, rfl, rfl, rfl⟩
 | cons s l => exact .inl ⟨h, rfl, rfl, rfl, rfl⟩
structure PB (L0 : Lg) (X0 : Ds) (k t : Nat) (L : Lg) (X : Ds) : Prop where
 pot : pot X <= Go.Log.pot X0 + 19 * (k : Int)
 segs : L.segments <= L0.segments + k + 1
 recs : L.recs.length <= L0.recs.length + k
 size : L.size <= L0.size + 8 * k + t
theorem PB.refl (L : Lg) (X : Ds) : PB L X 0 0 L X := ⟨by omega, by omega, by omega, by omega⟩
variable {L0 L L' : Lg} {X0 X Y : Ds} {k t : Nat} {e : Int} {b : List Nat}
theorem PB.same (h : PB L0 X0 k t L X) (u : Nat) : PB L0 X0 (k + 1) (t + u) L X := by
 obtain ⟨h1, h2, h3, h4⟩ := h
 exact ⟨by omega, by omega, by omega, by omega⟩
theorem on_bd (h : onR L X e L' Y) : L'.segments <= L.segments + 1 /\ L'.recs.length <= L.recs.length /\ L'.size <= L.size := by
 obtain ⟨-, ⟨-, rfl⟩ | ⟨-, rfl⟩⟩ := h
 ·
  exact ⟨Nat.le_succ _, Nat.le_refl _, Nat.le_refl _⟩
 ·
  exact ⟨Nat.le_refl _, Nat.le_refl _, Nat.zero_le _⟩
theorem PB.app (h : PB L0 X0 k t L X) (hr : appR L b X e L' Y) (hp : Go.Log.pot Y <= Go.Log.pot X + 6) : PB L0 X0 (k + 1) (t + b.length) L' Y := by
 obtain ⟨h1, h2, h3, h4⟩ := h
 have key : L'.segments <= L.segments + 1 /\ L'.recs.length <= L.recs.length + 1 /\ L'.size <= L.size + (8 + b.length) := by
  rcases hr with ⟨-, -, rfl, -⟩ | ⟨-, e1, Z, -, ⟨-, -, rfl, -⟩ | ⟨-, -, -, rfl, -⟩ | ⟨-, -, hr⟩⟩
  ·
   omega
  ·
   exact ⟨by show L.segments <= _; omega, by show L.recs.length <= _; omega, by show L.size <= _; omega⟩
  ·
   exact ⟨by show L.segments <= _; omega, by simp, Nat.le_refl _⟩
  ·
   obtain ⟨a1, a2, a3⟩ := on_bd hr
   exact ⟨a1, by simpa using a2, a3⟩
 exact ⟨by omega, by omega, by omega, by omega⟩
theorem PB.syn (h : PB L0 X0 k t L X) (hr : synR L X e L' Y) (hp : Go.Log.pot Y <= Go.Log.pot X + 1) (u : Nat) : PB L0 X0 (k + 1) (t + u) L' Y := by
 obtain ⟨h1, h2, h3, h4⟩ := h
 have key : L'.segments = L.segments /\ L'.recs = L.recs /\ L'.size = L.size := by
  rcases hr with ⟨-, -, rfl, -⟩ | ⟨-, -, ⟨-, rfl⟩ | ⟨-, rfl⟩⟩ <;> exact ⟨rfl, rfl, rfl⟩
 obtain ⟨k1, k2, k3⟩ := key
 exact ⟨by omega, by omega, by rw [k2]; omega, by omega⟩
theorem PB.turn (h : PB L0 X0 k t L X) (hr : turnR L b X e L' Y) (hp : Go.Log.pot Y <= Go.Log.pot X + 19) (u : Nat) : PB L0 X0 (k + 1) (t + u) L' Y := by
 obtain ⟨h1, h2, h3, h4⟩ := h
 have key : (L'.segments = L.segments /\ L'.recs = L.recs /\ L'.size = L.size) \/ (L'.segments = 1 /\ L'.recs = [] /\ L'.size = 0) := by
  rcases hr with ⟨-, -, rfl, -⟩ | ⟨-, -, ⟨-, rfl⟩ | ⟨-, rfl⟩⟩
  ·
   exact .inl ⟨rfl, rfl, rfl⟩
  ·
   exact .inl ⟨rfl, rfl, rfl⟩
  ·
   exact .inr ⟨rfl, rfl, rfl⟩
 rcases key with ⟨k1, k2, k3⟩ | ⟨k1, k2, k3⟩
 ·
  exact ⟨by omega, by omega, by rw [k2]; omega, by omega⟩
 ·
  exact ⟨by omega, by omega, by rw [k2]; simp, by omega⟩
structure PlayOk (L : Lg) (X : Ds) (n : Nat) : Prop where
 pot : Go.Log.pot X + 19 * (n : Int) <= 900000
 segs : L.segments + n <= 900000
 recs : L.recs.length + n <= 3000000000000
 size : L.size + 8 * n + 20000 <= 16000000
end Go.Proofs.YtpjomdmjohjheaaGreatDoor
end
