import Derived.Test.YtpjomdmjohjheaaGreatDoorK5
set_option linter.unusedVariables false
set_option linter.unusedSimpArgs false
set_option maxRecDepth 100000
set_option maxHeartbeats 8000000
section
namespace Go.Proofs.YtpjomdmjohjheaaGreatDoor
open Go.RowKit Go.Lk Go.Vfs Go.Log
theorem agg53 : AggT Tryz.prog 53 4 := ⟨by kernel_rfl, by kernel_rfl⟩
def Ks.cs (k : Ks) (av : Value) : Array Value := #[.string k.s, .bool k.has, av, .int .i64 k.sure]
theorem Ks.one (k : Ks) {a : Option Addr} {n c : Nat} : ∀ u ∈ (k.cs (.slice a n c)).toList, u.oneCell' = true := by
 intro u hu
 simp only [Ks.cs, List.mem_cons, List.not_mem_nil, or_false] at hu
 rcases hu with rfl | rfl | rfl | rfl <;> rfl
theorem z55 (l : List StepD) (k : Nat) : ((l.take k).map wgt).sum <= (l.map wgt).sum := by
 have e : l.map wgt = (l.take k).map wgt ++ (l.drop k).map wgt := by rw [<- List.map_append, List.take_append_drop]
 rw [e, List.sum_append]; omega
theorem hb53 (s : ByteArray) (w : World) : (Instr.build 53 #[(0, .string s), (1, .bool true)]).run Tryz.prog w = .ok (.agg #[.string s, .bool true, .slice none 0 0, .int .i64 0]) w := by kernel_rfl
def PlayD (W0 w : World) (l d : Nat) (O : Nat -> Prop) (steps : List StepD) (L : Lg) (X : Ds) (K : Ks) (e : Ending) (w' : World) : Prop :=
 ∃ Ka Kb va vb L' Y O' t, e = .returned (.tuple #[Ka.v va, Kb.v vb]) /\ LS W0 w' l d L' Y O' /\ (∀ k, O k -> O' k) /\ RB w' (Own W0 O') va Ka.all /\ RB w' (Own W0 O') vb Kb.all /\ playR steps L X K L' Y Ka Kb /\ PB L X steps.length t L' Y /\ t <= 20000 /\ Keeps (Oth W0 O) w w'
def OwnK (W0 : World) (O : Nat -> Prop) (b4 b6 b7 : Nat) : Nat -> Prop := fun k => k < W0.heap.size \/ (O k /\ k ≠ b4 /\ k ≠ b6 /\ k ≠ b7)
def PlI (W0 w : World) (l d : Nat) (O : Nat -> Prop) (steps : List StepD) (L : Lg) (X : Ds) (K : Ks) (b4 b6 b7 : Nat) (i : Nat) (wr : World) : Prop :=
 ∃ Li Xi Ki O1 a c, LS W0 wr l d Li Xi O1 /\ (∀ k, O k \/ k = b4 \/ k = b6 \/ k = b7 -> O1 k) /\ wr.heap[b4]? = some (.cells (Ki.cs (.slice a Ki.all.length c)) 53 (0, 0)) /\ (∃ z6, wr.heap[b6]? = some (.cells z6 53 (0, 0)) /\ z6.size = 4) /\ (∃ z7, wr.heap[b7]? = some (.cells z7 53 (0, 0)) /\ z7.size = 4) /\
  RB wr (OwnK W0 O1 b4 b6 b7) (.slice a Ki.all.length c) Ki.all /\ (∀ L' Y Ka Kb, playR (steps.drop i) Li Xi Ki L' Y Ka Kb -> playR steps L X K L' Y Ka Kb) /\ PB L X i ((steps.take i).map wgt).sum Li Xi /\ Ki.all.length <= K.all.length + i /\ Keeps (Oth W0 O) w wr
theorem _root_.Go.Log.LS.lt {W0 w : World} {l d : Nat} {L : Lg} {X : Ds} {O : Nat -> Prop} (h : LS W0 w l d L X O) {k : Nat} (hk : O k) : k < w.heap.size := by obtain ⟨_, _, _, _, -, h2, -⟩ := h.ex; exact (h2 k hk).1
theorem z49 {W0 w w' : World} {O : Nat -> Prop} {b4 b6 b7 : Nat} (hk : Keeps (Oth W0 O) w w') : ∀ k, OwnK W0 O b4 b6 b7 k -> ¬ Oth W0 O k := fun k e f => by
 rcases e with e | e
 ·
  have := f.1; omega
 ·
  exact f.2 e.1
theorem z5r {W0 w wr wd : World} {l d b4 b6 b7 k t : Nat} {L Li : Lg} {X Xi : Ds} {O O1 : Nat -> Prop} {K Ka Kb : Ks} {steps : List StepD} {va vb : Value} (h1 : LS W0 wr l d Li Xi O1) (h2 : ∀ k, O k \/ k = b4 \/ k = b6 \/ k = b7 -> O1 k) (ha : RB wr (OwnK W0 O1 b4 b6 b7) va Ka.all) (hb : RB wr (OwnK W0 O1 b4 b6 b7) vb Kb.all)
  (hR : playR steps L X K Li Xi Ka Kb) (hp : PB L X k t Li Xi) (hk : k <= steps.length) (ht : t <= 20000) (kw : Keeps (Oth W0 O) w wr) (kd : Keeps (fun b => b = b6 \/ b = b7) wr wd) (hO6 : ¬ O b6 /\ ¬ O b7) (h6 : W0.heap.size <= b6 /\ W0.heap.size <= b7) : PlayD W0 w l d O steps L X K (.returned (.tuple #[Ka.v va, Kb.v vb])) wd := by
 have hn : ∀ k, OwnK W0 O1 b4 b6 b7 k -> ¬ (k = b6 \/ k = b7) := fun k e f => by
  rcases e with e | e
  ·
   omega
  ·
   exact f.elim e.2.2.1 e.2.2.2
 have ho : ∀ k, OwnK W0 O1 b4 b6 b7 k -> Own W0 O1 k := fun k e => e.imp id fun e => e.1
 obtain ⟨p1, p2, p3, p4⟩ := hp
 refine ⟨Ka, Kb, va, vb, Li, Xi, O1, t, rfl, h1.set kd (fun k e => ⟨h2 k (.inr (.inr e)), by omega⟩), fun k e => h2 k (.inl e), (ha.keeps kd hn).mono ho, (hb.keeps kd hn).mono ho, hR, ⟨by omega, by omega, by omega, by omega⟩, ht, kw.trans kd fun j hj e => ⟨by omega, fun f => ?_⟩⟩
 rcases e with rfl | rfl
 ·
  exact hO6.1 f
 ·
  exact hO6.2 f
theorem z3m {P : Program} {fn : Func} {p q : Tmp} {ty T T' : TypeId} {g g' n : Nat} {cs cs' : Array Value} {fr fr' : Nat × Nat} {w : World} (A : AggT P ty n) (h : fn.results = #[.cell p ty, .cell q ty]) (tmps : Array Value) (hp : tmps.getD p undef = .pointer (some ⟨g, 0, none⟩)) (hq : tmps.getD q undef = .pointer (some ⟨g', 0, none⟩))
  (hg : w.heap[g]? = some (.cells cs T fr)) (hn : cs.size = n) (hg' : w.heap[g']? = some (.cells cs' T' fr')) (hn' : cs'.size = n) : (results fn tmps).run P w = .ok (.tuple #[.agg cs, .agg cs']) w := by
 have hp' : tmps[p]?.getD undef = .pointer (some ⟨g, 0, none⟩) := by simpa using hp
 have hq' : tmps[q]?.getD undef = .pointer (some ⟨g', 0, none⟩) := by simpa using hq
 have hl := z2e (w := w) (off := 0) A hg (by omega)
 rw [Nat.zero_add, <- hn, Array.extract_size] at hl
 have hl' := z2e (w := w) (off := 0) A hg' (by omega)
 rw [Nat.zero_add, <- hn', Array.extract_size] at hl'
 simp [results, h, hp', hq', asAddr, hl, hl', Sem.run_bind, Result.andThen_ok, Sem.run_pure]
theorem zao {W0 w : World} {l d : Nat} {L : Lg} {X : Ds} {O : Nat -> Prop} (h : LS W0 w l d L X O) (K : Ks) (kv : Value) (hk : RB w (Own W0 O) kv K.all) (sa : Option Addr) (sc : Nat) (steps : List StepD) (hs : StepsAt W0 W0 sa steps.length sc steps) (hfew : (steps.map wgt).sum <= 20000) (hok : PlayOk L X steps.length) (hka : K.all.length + steps.length <= 3000000000000) :
  Calls Tryz.prog 28 #[.pointer (some ⟨l, 0, none⟩), K.v kv, .slice sa steps.length sc] w (PlayD W0 w l d O steps L X K) := by
 obtain ⟨m, hm⟩ : ∃ m, steps.length = m := ⟨_, rfl⟩
 have H := qq h; have HK := qq hk; have HST := qq hs; have HF := qq hfew; have HO := qq hok; have HM := qq hm; have HKA := qq hka
 obtain ⟨ka, kc, kvs, rfl, -⟩ := id hk
 have hmc : m <= sc /\ sc <= 9223372036854775807 := by have h1 := hs.2.1; have h2 := hs.2.2.1; unfold maxLen at h2; omega
 rw [hm]
 clear h hk hs hfew hok hm hka
 show Calls Tryz.prog 28 #[.pointer (some ⟨l, 0, none⟩), .agg (K.cs (.slice ka K.all.length kc)), .slice sa m sc] w _
 go_enter Tryz.func28, Tryz.ntmps28
 go_wp2_with (first | go_skip | (with_reducible refine qv (by decide) ?_))
 refine za (vbox rfl ?_)
 intro b4 w1 n4
 simp only [Nat.reduceAdd, qn]
 go_wp2_with (first | go_skip | (with_reducible refine qv (by decide) ?_))
 refine za (valloc (z := .agg #[.string ByteArray.empty, .bool false, .slice none 0 0, .int .i64 0]) (by kernel_rfl) ?_)
 intro b6 w2 n6
 simp only [Nat.reduceAdd, qn]
 go_wp2_with (first | go_skip | (with_reducible refine qv (by decide) ?_))
 refine za (valloc (z := .agg #[.string ByteArray.empty, .bool false, .slice none 0 0, .int .i64 0]) (by kernel_rfl) ?_)
 intro b7 w3 n7
 simp only [Nat.reduceAdd, qn]
 have L46 : b4 < b6 := by have := n4.lt; have := n6.ge; omega
 have L67 : b6 < b7 := by have := n6.lt; have := n7.ge; omega
 have G4 : Hid (w.heap.size <= b4) := qq n4.ge
 have I0 : Hid (PlI W0 w l d O steps L X K b4 b6 b7 0 w3) := qq (by
  have k3 := (n4.k.trans_nb n6.k).trans_nb n7.k
  have hlt7 : b7 < w3.heap.size := n7.lt
  have hge := n4.ge
  refine ⟨L, X, K, fun k => O k \/ (k = b4 \/ k = b6 \/ k = b7), ka, kc, H.out.add k3 (fun k e => by omega), fun k e => e, n7.k.nb (n6.k.nb n4.blk), ⟨_, n7.k.nb n6.blk, rfl⟩, ⟨_, n7.blk, rfl⟩, (HK.out.keeps k3 (fun _ _ e => e)).mono (fun k e => e.imp id fun e => ⟨.inl e, by have := H.out.lt e; omega⟩), fun L' Y Ka Kb h => by rw [List.drop_zero] at h; exact h, by simpa using PB.refl L X, Nat.le_refl _, k3.of_nb⟩)
 clear n4 n6 n7
 go_wp2
 go_loopw [8] (fun i wr => ∃ k : Nat, k <= m /\ i = .int .i64 k /\ PlI W0 w l d O steps L X K b4 b6 b7 k wr) (fun i _ => m - (intOf i).toNat)
 case atStart => exact ⟨0, Nat.zero_le _, rfl, I0.out⟩
 case round =>
  obtain ⟨k, hk, rfl, Li, Xi, Ki, O1, a, c, q1, q2, q3, q4, q5, q6, q7, q8, q8a, q9⟩ := hrel
  have H1 := qq q1; have H2 := qq q2; have H3 := qq q3; have H4 := qq q4; have H5 := qq q5; have H6 := qq q6; have H7 := qq q7; have H8 := qq q8; have HA8 := qq q8a; have H9 := qq q9
  clear q1 q2 q3 q4 q5 q6 q7 q8 q8a q9 I0
  have RO := qq (zbh H1.out)
  by_cases hlt : k < m
  ·
   have i1 : (k : Int) < (m : Int) := by omega
   obtain ⟨bd, hbd⟩ : ∃ b, Li.bad = b := ⟨_, rfl⟩
   have HBD := qq hbd
   rw [hbd] at RO
   clear hbd
   go_wp2_with fail
   refine RO.out.mono ?_
   rintro _ _ ⟨rfl, rfl⟩
   clear RO
   cases bd with
   | true =>
    go_wp2
    obtain ⟨z6, hz6, hs6⟩ := H4.out
    obtain ⟨z7, hz7, hs7⟩ := H5.out
    have HZ6 := qq hz6; have HZ7 := qq hz7; have HS6 := qq hs6; have HS7 := qq hs7
    clear hz6 hz7 hs6 hs7
    refine WT.region (fun u => u.heap[b4]? = some (.cells (Ki.cs (.slice a Ki.all.length c)) 53 (0, 0))) 3 4 [0, 1, 2, 3] (by kernel_rfl) rfl ?_
    have HS : Hid ((fun u : World => u.heap[b4]? = some (.cells (Ki.cs (.slice a Ki.all.length c)) 53 (0, 0))) wr.drew) := qq H3.out
    refine WT.t 0 (v := (.agg (Ki.cs (.slice a Ki.all.length c)))) (y := by rintro w C1; exact z0j agg53 (by rfl) (zm C1) rfl) (s := HS.out) (h := ?_)
    refine WT.t 1 (v := (.agg (Ki.cs (.slice a Ki.all.length c)))) (y := by rintro w C1; exact z0j agg53 (by rfl) (zm C1) rfl) (s := HS.out) (h := ?_)
    refine WT.onlySkipE 2 (by simp only [qi]; rfl) (by kernel_rfl) (by rfl) (zc (w := wr.drew) (v := .agg (Ki.cs (.slice a Ki.all.length c))) (n := 4) (by kernel_rfl) (by rfl) (by rfl) HZ6.out (by rfl) (by rw [HS6.out]; exact Nat.le_refl _) (Ki.one)) ?_
    intro wa s6
    replace HS : Hid ((fun u : World => u.heap[b4]? = some (.cells (Ki.cs (.slice a Ki.all.length c)) 53 (0, 0))) wa) := qq (s6.k.at (w := wr.drew) H3.out (fun e => by omega))
    refine ⟨HS.out, ?_⟩
    simp only [Nat.reduceAdd, qn]
    refine WT.stop (by kernel_rfl) ?_
    refine WP.onlySkipE 3 (by simp only [qi]; rfl) (by kernel_rfl) (by rfl) (zc (v := .agg (Ki.cs (.slice a Ki.all.length c))) (n := 4) (by kernel_rfl) (by rfl) (by rfl) (s6.k.at (w := wr.drew) HZ7.out (fun e => by omega)) (by rfl) (by rw [HS7.out]; exact Nat.le_refl _) (Ki.one)) ?_
    intro wb s7
    simp only [Nat.reduceAdd, qn]
    refine WP.done (by kernel_rfl) ?_
    have Z6 : Hid (wb.heap[b6]? = some (.cells (Ki.cs (.slice a Ki.all.length c)) 53 (0, 0))) := qq (s7.k.at (by have := s6.blk; rw [show splice z6 (Value.agg (Ki.cs (.slice a Ki.all.length c))).cells 0 = Ki.cs (.slice a Ki.all.length c) from z0a (by rw [HS6.out]; rfl)] at this; exact this) (fun e => by omega))
    have Z7 : Hid (wb.heap[b7]? = some (.cells (Ki.cs (.slice a Ki.all.length c)) 53 (0, 0))) := qq (by have := s7.blk; rw [show splice z7 (Value.agg (Ki.cs (.slice a Ki.all.length c))).cells 0 = Ki.cs (.slice a Ki.all.length c) from z0a (by rw [HS7.out]; rfl)] at this; exact this)
    have KD : Hid (Keeps (fun b => b = b6 \/ b = b7) wr wb) := qq ((((Keeps.refl (fun b => b = b6 \/ b = b7) wr).drew).trans s6.k (fun _ _ e => .inl e)).trans s7.k (fun _ _ e => .inr e))
    clear s6 s7 HS
    go_wp2
    refine bodyPost_ret (z3m agg53 rfl _ rfl rfl Z6.out rfl Z7.out rfl) rfl ?_
    have hz := H.out.k.size
    have htk : ((steps.take k).map wgt).sum <= 20000 := Nat.le_trans (z55 steps k) HF.out
    exact z5r (b4 := b4) H1.out H2.out H6.out H6.out (H7.out _ _ _ _ (zdc HBD.out)) H8.out (by rw [HM.out]; omega) htk H9.out KD.out (by have := G4.out; exact ⟨fun e => by have := H.out.lt e; omega, fun e => by have := H.out.lt e; omega⟩) (by have := G4.out; omega)
   | false =>
    obtain ⟨s, hs⟩ : ∃ s, steps[k]? = some s := ⟨_, List.getElem?_eq_getElem (by rw [HM.out]; exact hlt)⟩
    have HSK := qq hs
    have hdrop : steps.drop k = s :: steps.drop (k + 1) := by
     rw [List.drop_eq_getElem_cons (List.getElem?_eq_some_iff.1 hs).1, (List.getElem?_eq_some_iff.1 hs).2]
    have htake : ((steps.take (k + 1)).map wgt).sum = ((steps.take k).map wgt).sum + wgt s := by
     rw [List.take_succ_eq_append_getElem (List.getElem?_eq_some_iff.1 hs).1, (List.getElem?_eq_some_iff.1 hs).2]; simp
    have HDR := qq hdrop; have HTK := qq htake
    have HWG : Hid (((steps.take (k + 1)).map wgt).sum <= 20000) := qq (Nat.le_trans (z55 steps (k + 1)) HF.out)
    obtain ⟨sb, so, cs, rfl, ⟨vb, vp, rfl, hvb, -⟩, hh⟩ := HST.out.2.2.2 k s hs
    have HVB := qq hvb
    have HHS := qq hh
    obtain ⟨ba, bc, rfl, -⟩ := hvb.rows
    have cs0 : ∀ j u, (stc s (.slice ba s.b.length bc) vp)[j]? = some u -> ∀ wx, Keeps Nb W0 wx -> wx.cell? ⟨sb, so + k * 6 + j, none⟩ = some u := fun j u hj wx kx => by
     rcases hh with h | ⟨b', o', e, hc⟩
     ·
      cases h
     ·
      cases e; exact (kx.cell (lt_of_cell (hc j u hj)) (fun e => e)).trans (hc j u hj)
    have CS := qq cs0
    have c0 : wr.cell? ⟨sb, so + k * 6, none⟩ = some (.int .i64 s.kind) := cs0 0 _ rfl wr H1.out.k
    have i64 : IntKind.i64.wrap ((k : Int) + 1) = ((k + 1 : Nat) : Int) := by rw [IntWalk.i64_in _ (by omega)]; rfl
    obtain ⟨kd, hkd⟩ : ∃ n, s.kind = n := ⟨_, rfl⟩
    rw [hkd] at c0
    have HKD := qq hkd
    clear hs hdrop htake hh hvb cs0 hkd
    by_cases hk1 : kd = 1
    ·
     subst hk1
     have HCELLS : Hid (∀ wx, Keeps Nb wr wx -> wx.cell? ⟨sb, so + k * 6 + 4, none⟩ = some (.slice ba s.b.length bc)) := qq fun wx kx => CS.out 4 _ rfl wx (H1.out.k.trans_nb kx)
     obtain ⟨bn, hbn⟩ : ∃ n, s.b.length = n := ⟨_, rfl⟩
     have HBN := qq hbn
     rw [hbn] at HCELLS
     obtain ⟨a', c', vs, e', g1, g2, g3, g4, g5⟩ := id H6.out
     cases e'
     have hone : ∀ u ∈ vs, u.oneCell' = true := fun u hu => by
      obtain ⟨i, hi⟩ := List.getElem?_of_mem hu
      obtain ⟨x, hx⟩ : ∃ x, Ki.all[i]? = some x := ⟨_, List.getElem?_eq_getElem (by rw [<- g5.1]; exact (List.getElem?_eq_some_iff.1 hi).1)⟩
      obtain ⟨_, _, rfl, -⟩ := g5.2 i u x hi hx
      rfl
     obtain ⟨n, hn⟩ : ∃ n, Ki.all.length = n := ⟨_, rfl⟩
     have HNA := qq hn
     have hvl : vs.length = n * 1 := by rw [g5.1, hn]; omega
     have HVL := qq hvl; have HONE := qq hone; have HG3 := qq g3; have HG5 := qq g5; have HG4 := qq g4
     have hnb : n <= 3000000000000 := by have h1 := HA8.out; have h2 := HKA.out; rw [HM.out] at h2; omega
     have H3' : Hid (wr.heap[b4]? = some (.cells (Ki.cs (.slice a n c)) 53 (0, 0))) := qq (by rw [<- hn]; exact H3.out)
     clear hbn hn hvl hone g1 g2 g3 g4 g5
     go_wp2
     refine WT.region (fun u : World => u.heap[b4]? = some (.cells (Ki.cs (.slice a n c)) 53 (0, 0)) /\ u.cell? ⟨sb, so + k * 6 + 4, none⟩ = some (.slice ba bn bc)) 10 12 [0, 1, 3, 4, 5, 6, 7, 2, 8, 9, 10, 11] (by kernel_rfl) rfl ?_
     obtain ⟨x0, hx0⟩ : ∃ u, u = wr.drew := ⟨_, rfl⟩
     have K_x0 : Hid (Keeps Nb wr x0) := qq (by rw [hx0]; exact (Keeps.refl _ wr).drew)
     rw [<- hx0]
     clear hx0
     have HS : Hid ((fun u : World => u.heap[b4]? = some (.cells (Ki.cs (.slice a n c)) 53 (0, 0)) /\ u.cell? ⟨sb, so + k * 6 + 4, none⟩ = some (.slice ba bn bc)) x0) := qq ⟨K_x0.out.nb H3'.out, HCELLS.out _ K_x0.out⟩
     refine WT.t 0 (v := _) (y := by rintro w ⟨C1, C2⟩; go_simp; with_reducible rfl) (s := HS.out) (h := ?_)
     refine WT.t 1 (v := .slice a n c) (y := by rintro w ⟨C1, C2⟩; exact zb (by kernel_rfl) (by rfl) ((cell_of_block C1).trans rfl)) (s := HS.out) (h := ?_)
     refine WT.t 3 (v := _) (y := by rintro w ⟨C1, C2⟩; go_simp; with_reducible rfl) (s := HS.out) (h := ?_)
     refine WT.t 4 (v := _) (y := by rintro w ⟨C1, C2⟩; go_simp; with_reducible rfl) (s := HS.out) (h := ?_)
     refine WT.t 5 (v := _) (y := by rintro w ⟨C1, C2⟩; go_simp; with_reducible rfl) (s := HS.out) (h := ?_)
     refine WT.t 6 (v := _) (y := by rintro w ⟨C1, C2⟩; go_simp; with_reducible rfl) (s := HS.out) (h := ?_)
     refine WT.t 7 (v := .slice ba bn bc) (y := by rintro w ⟨C1, C2⟩; exact zb (by kernel_rfl) (by rfl) C2) (s := HS.out) (h := ?_)
     refine WT.forkE 2 8 [0, 1, 3, 4, 5, 6, 7, 8, 2, 9, 10, 11] (by simp only [qi]; rfl) (by simp only [qi]; rfl) (by kernel_rfl) (by rfl) (by rfl) (re_push' el27 (RowS.nil x0 (fun _ => False) (fun _ => False) 22 1) (by rfl) (by rfl) (HG3.out.nb K_x0.out) HVL.out HONE.out (by unfold maxLen; omega) (by omega)) (zl el27 [.slice ba bn bc] rfl (by simp [List.range'_succ]; first | done | rfl | exact ⟨rfl, rfl⟩ | exact ⟨rfl, rfl, rfl⟩ | exact ⟨rfl, rfl, rfl, rfl⟩ | exact ⟨rfl, rfl, rfl, rfl, rfl⟩ | exact ⟨rfl, rfl, rfl, rfl, rfl, rfl⟩) (by simp [Value.cells]) (by simp)) ?_ ?_
     ·
      rintro v2 x1 ⟨hr2, S2, k2, hS2⟩
      have K_x1 : Hid (Keeps Nb wr x1) := qq (K_x0.out.trans_nb (k2.mono fun j _ e => (hS2 j e).1.elim))
      have HR2 : Hid (RowS x1 (fun k => wr.heap.size <= k /\ k < x1.heap.size) (fun _ => False) 22 1 v2 n vs) := qq (by
       have z := K_x0.out.size
       have := hr2.mono (F' := fun k => wr.heap.size <= k /\ k < x1.heap.size) (fun k e => e.elim (fun e => e.elim) (fun e => ⟨by omega, e.2⟩)) (fun _ e => e)
       rw [Nat.zero_add, List.nil_append] at this; exact this)
      clear hr2 k2 hS2
      replace HS : Hid ((fun u : World => u.heap[b4]? = some (.cells (Ki.cs (.slice a n c)) 53 (0, 0)) /\ u.cell? ⟨sb, so + k * 6 + 4, none⟩ = some (.slice ba bn bc)) x1) := qq ⟨K_x1.out.nb H3'.out, HCELLS.out _ K_x1.out⟩
      refine ⟨HS.out, ?_⟩
      simp only [Nat.reduceAdd, qn]
      refine WT.o 8 (y := zl el27 [.slice ba bn bc] rfl (by simp [List.range'_succ]; first | done | rfl | exact ⟨rfl, rfl⟩ | exact ⟨rfl, rfl, rfl⟩ | exact ⟨rfl, rfl, rfl, rfl⟩ | exact ⟨rfl, rfl, rfl, rfl, rfl⟩ | exact ⟨rfl, rfl, rfl, rfl, rfl, rfl⟩) (by simp [Value.cells]) (by simp)) (h := ?_)
      rintro _ x2 ⟨g8, rfl, n8⟩
      have K_x2 : Hid (Keeps Nb wr x2) := qq (K_x1.out.trans_nb n8.k)
      have HH8 : Hid (Has x2 (some ⟨g8, 0, none⟩) [.slice ba bn bc]) := qq (zm n8.blk)
      replace HR2 : Hid (RowS x2 (fun k => wr.heap.size <= k /\ k < x2.heap.size) (fun _ => False) 22 1 v2 n vs) := qq ((HR2.out.keeps n8.k (fun _ _ _ e => e)).mono (fun k e => ⟨e.1, by have := e.2; have := n8.k.size; omega⟩) (fun _ e => e))
      clear n8
      replace HS : Hid ((fun u : World => u.heap[b4]? = some (.cells (Ki.cs (.slice a n c)) 53 (0, 0)) /\ u.cell? ⟨sb, so + k * 6 + 4, none⟩ = some (.slice ba bn bc)) x2) := qq ⟨K_x2.out.nb H3'.out, HCELLS.out _ K_x2.out⟩
      refine ⟨HS.out, ?_⟩
      simp only [Nat.reduceAdd, qn]
      refine WT.o 9 (y := re_push' el27 HR2.out (by rfl) (by rfl) HH8.out rfl (by intro u hu; rw [List.mem_singleton.1 hu]; rfl) (by unfold maxLen; omega) (by omega)) (h := ?_)
      rintro v3 x3 ⟨hr3, S3, k3, hS3⟩
      have K_x3 : Hid (Keeps Nb wr x3) := qq (K_x2.out.trans k3 fun j hj e => by have := (hS3 j e).1.1; omega)
      have HR3 : Hid (RowS x3 (fun k => wr.heap.size <= k /\ k < x3.heap.size) (fun _ => False) 22 1 v3 (n + 1) (vs ++ [.slice ba bn bc])) := qq (by
       have z := K_x2.out.size; have z3 := k3.size
       exact hr3.mono (fun k e => e.elim (fun e => ⟨e.1, by have := e.2; omega⟩) (fun e => ⟨by omega, e.2⟩)) (fun _ e => e))
      obtain ⟨-, -, a3, c3, rfl, -⟩ := id hr3
      clear hr3 k3 hS3 HR2 HH8
      replace HS : Hid ((fun u : World => u.heap[b4]? = some (.cells (Ki.cs (.slice a n c)) 53 (0, 0)) /\ u.cell? ⟨sb, so + k * 6 + 4, none⟩ = some (.slice ba bn bc)) x3) := qq ⟨K_x3.out.nb H3'.out, HCELLS.out _ K_x3.out⟩
      refine ⟨HS.out, ?_⟩
      simp only [Nat.reduceAdd, qn]
      refine WT.stop (by kernel_rfl) ?_
      refine WP.o 10 (v := _) (y := by go_simp; first | with_reducible rfl | exact ⟨rfl, rfl⟩) (h := ?_)
      refine WP.onlySkipE 11 (by simp only [qi]; rfl) (by kernel_rfl) (by rfl) (zc (v := .slice a3 (n + 1) c3) (n := 1) (by kernel_rfl) (by rfl) (by rfl) (K_x3.out.nb H3'.out) (by rfl) (by simp [Value.cells, Ks.cs]) (by simp [Value.cells, Value.oneCell'])) ?_
      intro x4 s4
      simp only [Nat.reduceAdd, qn]
      refine WP.done (by kernel_rfl) ?_
      have hz := H.out.k.size; have hg4 := G4.out
      have hb4r : b4 < wr.heap.size := H1.out.lt (H2.out b4 (.inr (.inl rfl)))
      have HL4 : Hid (LS W0 x4 l d Li Xi fun k => O1 k \/ (wr.heap.size <= k /\ k < x3.heap.size)) := qq ((H1.out.add K_x3.out (N := fun k => wr.heap.size <= k /\ k < x3.heap.size) (fun k e => e)).set s4.k (fun k e => by have e : k = b4 := e; subst e; exact ⟨.inl (H2.out _ (.inr (.inl rfl))), by omega⟩))
      have B44 : Hid (x4.heap[b4]? = some (.cells (Ks.cs { Ki with all := Ki.all ++ [s.b] } (.slice a3 (n + 1) c3)) 53 (0, 0))) := qq s4.blk
      have K4 : Hid (Keeps (· = b4) wr x4) := qq (K_x3.out.of_nb.trans s4.k (fun _ _ e => e))
      have RB4 : Hid (RB x4 (OwnK W0 (fun k => O1 k \/ (wr.heap.size <= k /\ k < x3.heap.size)) b4 b6 b7) (.slice a3 (n + 1) c3) (Ki.all ++ [s.b])) := qq (by
       have hl : (Ki.all ++ [s.b]).length = n + 1 := by rw [List.length_append, HNA.out]; rfl
       have h6 := H1.out.lt (H2.out b6 (.inr (.inr (.inl rfl)))); have h7 := H1.out.lt (H2.out b7 (.inr (.inr (.inr rfl))))
       have h1 : RB x3 (OwnK W0 (fun k => O1 k \/ (wr.heap.size <= k /\ k < x3.heap.size)) b4 b6 b7) (.slice a3 (n + 1) c3) (Ki.all ++ [s.b]) := by
        refine RB.of (vs := vs ++ [.slice ba bn bc]) (by rw [hl]; exact HR3.out) (((HG5.out.keeps K_x3.out (fun _ _ e => e)).mono fun k e => e.imp id fun e => ⟨.inl e.1, e.2⟩).append (.cons ?_ (.nil _ _))) (fun k e => .inr ⟨.inr e, by omega, by omega, by omega⟩) (fun _ e => e)
        rw [<- HBN.out]
        exact (HVB.out.keeps (H1.out.k.trans_nb K_x3.out) (fun _ _ e => e)).mono (fun k e => .inl e)
       refine h1.keeps s4.k (fun k e f => ?_)
       have f : k = b4 := f
       subst f
       rcases e with e | e
       ·
        omega
       ·
        exact e.2.1 rfl)
      have c4 : x4.cell? ⟨sb, so + k * 6 + 4, none⟩ = some (.slice ba bn bc) := by rw [<- HBN.out]; exact CS.out 4 _ rfl x4 HL4.out.k
      have hp0 := HO.out; have hp8 := H8.out
      have AP := qq (z2h HL4.out (v := .slice ba bn bc) (bs := s.b) (by rw [<- HBN.out]; exact (HVB.out.keeps HL4.out.k (fun _ _ e => e)).mono (fun k e => .inl e)) (by have h1 := hp0.pot; have h2 := hp8.pot; rw [HM.out] at h1; omega) (by have h1 := hp0.segs; have h2 := hp8.segs; rw [HM.out] at h1; omega) (by have h1 := hp0.recs; have h2 := hp8.recs; rw [HM.out] at h1; omega) (by have h1 := hp0.size; have h2 := hp8.size; have h3 := HWG.out; have h4 := HTK.out; rw [HM.out] at h1; omega))
      clear s4 HS hp0 hp8 hz hg4 hb4r
      go_wp2_with fail
      refine AP.out.mono ?_
      rintro _ w7 ⟨er, L7, X7, rfl, hl7, hr7, hp7, hk7⟩
      have H7' := qq hl7; have HR7 := qq hr7
      have HPB : Hid (PB L X (k + 1) ((steps.take (k + 1)).map wgt).sum L7 X7) := qq (by
       obtain ⟨p1, p2, p3, p4⟩ := H8.out.app hr7 hp7
       rw [HTK.out]
       have hw : wgt s = s.b.length + s.name.size + s.picks.length := rfl
       exact ⟨p1, p2, p3, by omega⟩)
      have B4 := qq (Oth.at hk7 B44.out (.inl (H2.out b4 (.inr (.inl rfl)))))
      have B6 : Hid (∃ z6, w7.heap[b6]? = some (.cells z6 53 (0, 0)) /\ z6.size = 4) := qq (by obtain ⟨z, h1, h2⟩ := H4.out; exact ⟨z, Oth.at hk7 (K4.out.at h1 (fun e => by omega)) (.inl (H2.out b6 (.inr (.inr (.inl rfl))))), h2⟩)
      have B7 : Hid (∃ z7, w7.heap[b7]? = some (.cells z7 53 (0, 0)) /\ z7.size = 4) := qq (by obtain ⟨z, h1, h2⟩ := H5.out; exact ⟨z, Oth.at hk7 (K4.out.at h1 (fun e => by omega)) (.inl (H2.out b7 (.inr (.inr (.inr rfl))))), h2⟩)
      have RB7 := qq (RB4.out.keeps hk7 (z49 hk7))
      have KW7 : Hid (Keeps (Oth W0 O) w w7) := qq ((H9.out.trans K4.out (fun j hj e => by have e : j = b4 := e; subst e; have := H.out.k.size; have := G4.out; exact ⟨by omega, fun f => by have := H.out.lt f; omega⟩)).trans hk7 (fun j hj e => ⟨e.1, fun f => e.2 (.inl (H2.out j (.inl f)))⟩))
      have HSUB : Hid (∀ k, O k \/ k = b4 \/ k = b6 \/ k = b7 -> O1 k \/ (wr.heap.size <= k /\ k < x3.heap.size)) := qq fun k e => .inl (H2.out k e)
      clear hl7 hr7 hp7 hk7 AP c4 B44
      go_wp2
      refine WT.region (fun u => u.heap[b4]? = some (.cells (Ks.cs { Ki with all := Ki.all ++ [s.b] } (.slice a3 (n + 1) c3)) 53 (0, 0))) 5 7 [0, 1, 2, 3, 4, 5, 6] (by kernel_rfl) rfl ?_
      have HS : Hid ((fun u : World => u.heap[b4]? = some (.cells (Ks.cs { Ki with all := Ki.all ++ [s.b] } (.slice a3 (n + 1) c3)) 53 (0, 0))) w7.drew) := qq B4.out
      have SQ := qq (z7u (H7'.out.nb (Keeps.refl Nb w7).drew))
      refine WT.t 0 (v := _) (y := by rintro w C1; go_simp; with_reducible rfl) (s := HS.out) (h := ?_)
      refine WT.t 1 (v := .int .i64 Ki.sure) (y := by rintro w C1; exact zb (by kernel_rfl) (by rfl) ((cell_of_block C1).trans rfl)) (s := HS.out) (h := ?_)
      refine WT.t 2 (v := _) (y := by rintro w C1; go_simp; with_reducible rfl) (s := HS.out) (h := ?_)
      refine WT.call 3 (by simp only [qi]; rfl) (by kernel_rfl) (by rfl) (by go_simp; first | done | rfl | exact ⟨⟨rfl, rfl⟩, rfl⟩ | exact ⟨⟨rfl, rfl, rfl⟩, rfl⟩ | exact ⟨⟨rfl, rfl, rfl, rfl⟩, rfl⟩ | exact ⟨⟨rfl, rfl, rfl, rfl, rfl⟩, rfl⟩) SQ.out ?_
      rintro _ _ ⟨rfl, rfl⟩
      refine ⟨_, rfl, HS.out, ?_⟩
      simp only [Nat.reduceAdd, qn]
      refine WT.t 4 (v := .int .i64 (max Ki.sure (L7.synced : Int))) (y := by rintro w C1; go_simp; first | done | rfl | with_reducible rfl) (s := HS.out) (h := ?_)
      refine WT.stop (by kernel_rfl) ?_
      refine WP.o 5 (v := _) (y := by go_simp; first | with_reducible rfl | exact ⟨rfl, rfl⟩) (h := ?_)
      refine WP.onlySkipE 6 (by simp only [qi]; rfl) (by kernel_rfl) (by rfl) (zc (w := w7.drew) (v := .int .i64 (max Ki.sure (L7.synced : Int))) (n := 1) (by kernel_rfl) (by rfl) (by rfl) B4.out (by rfl) (by simp [Value.cells, Ks.cs]) (by simp [Value.cells, Value.oneCell'])) ?_
      intro w8 s8
      simp only [Nat.reduceAdd, qn]
      refine WP.done (by kernel_rfl) ?_
      have HI : Hid (PlI W0 w l d O steps L X K b4 b6 b7 (k + 1) w8) := qq (by
       have hz := H.out.k.size; have hg4 := G4.out
       have hl : (Ki.all ++ [s.b]).length = n + 1 := by rw [List.length_append, HNA.out]; rfl
       have hk8 : Keeps (· = b4) w7 w8 := ((Keeps.refl (· = b4) w7).drew).trans s8.k (fun _ _ e => e)
       refine ⟨L7, X7, { Ki with all := Ki.all ++ [s.b], sure := max Ki.sure (L7.synced : Int) }, _, a3, c3, H7'.out.set hk8 (fun k e => by have e : k = b4 := e; subst e; exact ⟨HSUB.out _ (.inr (.inl rfl)), by omega⟩), HSUB.out, ?_, ?_, ?_, ?_, fun L' Y Ka Kb h => H7.out _ _ _ _ (by rw [HDR.out]; exact .inr (.inl ⟨HBD.out, HKD.out, er, L7, X7, HR7.out, h⟩)), HPB.out, (by show (Ki.all ++ [s.b]).length <= _; rw [hl]; have := HA8.out; rw [HNA.out] at this; omega), KW7.out.trans hk8 (fun j hj e => by have e : j = b4 := e; subst e; exact ⟨by omega, fun f => by have := H.out.lt f; omega⟩)⟩
       ·
        show w8.heap[b4]? = some (.cells (Ks.cs _ (.slice a3 (Ki.all ++ [s.b]).length c3)) 53 (0, 0))
        rw [hl]; exact s8.blk
       ·
        obtain ⟨z, h1, h2⟩ := B6.out; exact ⟨z, hk8.at h1 (fun e => by have e : b6 = b4 := e; omega), h2⟩
       ·
        obtain ⟨z, h1, h2⟩ := B7.out; exact ⟨z, hk8.at h1 (fun e => by have e : b7 = b4 := e; omega), h2⟩
       ·
        show RB w8 _ (.slice a3 (Ki.all ++ [s.b]).length c3) (Ki.all ++ [s.b])
        rw [hl]
        refine RB7.out.keeps hk8 (fun k e f => ?_)
        have f : k = b4 := f
        subst f
        rcases e with e | e
        ·
         omega
        ·
         exact e.2.1 rfl)
      clear s8 HS SQ
      go_wp2
      go_roundw
      case rel => exact ⟨k + 1, by omega, by go_num, HI.out⟩
      case measure => simp [intOf]; omega
     ·
      rintro _ x1 ⟨g8, rfl, n8⟩
      have K_x1 : Hid (Keeps Nb wr x1) := qq (K_x0.out.trans_nb n8.k)
      have HH8 : Hid (Has x1 (some ⟨g8, 0, none⟩) [.slice ba bn bc]) := qq (zm n8.blk)
      clear n8
      replace HS : Hid ((fun u : World => u.heap[b4]? = some (.cells (Ki.cs (.slice a n c)) 53 (0, 0)) /\ u.cell? ⟨sb, so + k * 6 + 4, none⟩ = some (.slice ba bn bc)) x1) := qq ⟨K_x1.out.nb H3'.out, HCELLS.out _ K_x1.out⟩
      refine ⟨HS.out, ?_⟩
      simp only [Nat.reduceAdd, qn]
      refine WT.o 2 (y := re_push' el27 (RowS.nil x1 (fun _ => False) (fun _ => False) 22 1) (by rfl) (by rfl) (HG3.out.nb K_x1.out) HVL.out HONE.out (by unfold maxLen; omega) (by omega)) (h := ?_)
      rintro v2 x2 ⟨hr2, S2, k2, hS2⟩
      have k12 : Keeps Nb x1 x2 := k2.mono fun j _ e => (hS2 j e).1.elim
      have K_x2 : Hid (Keeps Nb wr x2) := qq (K_x1.out.trans_nb k12)
      have HR2 : Hid (RowS x2 (fun k => wr.heap.size <= k /\ k < x2.heap.size) (fun _ => False) 22 1 v2 n vs) := qq (by
       have z := K_x1.out.size
       have := hr2.mono (F' := fun k => wr.heap.size <= k /\ k < x2.heap.size) (fun k e => e.elim (fun e => e.elim) (fun e => ⟨by omega, e.2⟩)) (fun _ e => e)
       rw [Nat.zero_add, List.nil_append] at this; exact this)
      replace HH8 := qq (HH8.out.nb k12)
      clear hr2 k2 hS2 k12
      replace HS : Hid ((fun u : World => u.heap[b4]? = some (.cells (Ki.cs (.slice a n c)) 53 (0, 0)) /\ u.cell? ⟨sb, so + k * 6 + 4, none⟩ = some (.slice ba bn bc)) x2) := qq ⟨K_x2.out.nb H3'.out, HCELLS.out _ K_x2.out⟩
      refine ⟨HS.out, ?_⟩
      simp only [Nat.reduceAdd, qn]
      refine WT.o 9 (y := re_push' el27 HR2.out (by rfl) (by rfl) HH8.out rfl (by intro u hu; rw [List.mem_singleton.1 hu]; rfl) (by unfold maxLen; omega) (by omega)) (h := ?_)
      rintro v3 x3 ⟨hr3, S3, k3, hS3⟩
      have K_x3 : Hid (Keeps Nb wr x3) := qq (K_x2.out.trans k3 fun j hj e => by have := (hS3 j e).1.1; omega)
      have HR3 : Hid (RowS x3 (fun k => wr.heap.size <= k /\ k < x3.heap.size) (fun _ => False) 22 1 v3 (n + 1) (vs ++ [.slice ba bn bc])) := qq (by
       have z := K_x2.out.size; have z3 := k3.size
       exact hr3.mono (fun k e => e.elim (fun e => ⟨e.1, by have := e.2; omega⟩) (fun e => ⟨by omega, e.2⟩)) (fun _ e => e))
      obtain ⟨-, -, a3, c3, rfl, -⟩ := id hr3
      clear hr3 k3 hS3 HR2 HH8
      replace HS : Hid ((fun u : World => u.heap[b4]? = some (.cells (Ki.cs (.slice a n c)) 53 (0, 0)) /\ u.cell? ⟨sb, so + k * 6 + 4, none⟩ = some (.slice ba bn bc)) x3) := qq ⟨K_x3.out.nb H3'.out, HCELLS.out _ K_x3.out⟩
      refine ⟨HS.out, ?_⟩
      simp only [Nat.reduceAdd, qn]
      refine WT.stop (by kernel_rfl) ?_
      refine WP.o 10 (v := _) (y := by go_simp; first | with_reducible rfl | exact ⟨rfl, rfl⟩) (h := ?_)
      refine WP.onlySkipE 11 (by simp only [qi]; rfl) (by kernel_rfl) (by rfl) (zc (v := .slice a3 (n + 1) c3) (n := 1) (by kernel_rfl) (by rfl) (by rfl) (K_x3.out.nb H3'.out) (by rfl) (by simp [Value.cells, Ks.cs]) (by simp [Value.cells, Value.oneCell'])) ?_
      intro x4 s4
      simp only [Nat.reduceAdd, qn]
      refine WP.done (by kernel_rfl) ?_
      have hz := H.out.k.size; have hg4 := G4.out
      have hb4r : b4 < wr.heap.size := H1.out.lt (H2.out b4 (.inr (.inl rfl)))
      have HL4 : Hid (LS W0 x4 l d Li Xi fun k => O1 k \/ (wr.heap.size <= k /\ k < x3.heap.size)) := qq ((H1.out.add K_x3.out (N := fun k => wr.heap.size <= k /\ k < x3.heap.size) (fun k e => e)).set s4.k (fun k e => by have e : k = b4 := e; subst e; exact ⟨.inl (H2.out _ (.inr (.inl rfl))), by omega⟩))
      have B44 : Hid (x4.heap[b4]? = some (.cells (Ks.cs { Ki with all := Ki.all ++ [s.b] } (.slice a3 (n + 1) c3)) 53 (0, 0))) := qq s4.blk
      have K4 : Hid (Keeps (· = b4) wr x4) := qq (K_x3.out.of_nb.trans s4.k (fun _ _ e => e))
      have RB4 : Hid (RB x4 (OwnK W0 (fun k => O1 k \/ (wr.heap.size <= k /\ k < x3.heap.size)) b4 b6 b7) (.slice a3 (n + 1) c3) (Ki.all ++ [s.b])) := qq (by
       have hl : (Ki.all ++ [s.b]).length = n + 1 := by rw [List.length_append, HNA.out]; rfl
       have h6 := H1.out.lt (H2.out b6 (.inr (.inr (.inl rfl)))); have h7 := H1.out.lt (H2.out b7 (.inr (.inr (.inr rfl))))
       have h1 : RB x3 (OwnK W0 (fun k => O1 k \/ (wr.heap.size <= k /\ k < x3.heap.size)) b4 b6 b7) (.slice a3 (n + 1) c3) (Ki.all ++ [s.b]) := by
        refine RB.of (vs := vs ++ [.slice ba bn bc]) (by rw [hl]; exact HR3.out) (((HG5.out.keeps K_x3.out (fun _ _ e => e)).mono fun k e => e.imp id fun e => ⟨.inl e.1, e.2⟩).append (.cons ?_ (.nil _ _))) (fun k e => .inr ⟨.inr e, by omega, by omega, by omega⟩) (fun _ e => e)
        rw [<- HBN.out]
        exact (HVB.out.keeps (H1.out.k.trans_nb K_x3.out) (fun _ _ e => e)).mono (fun k e => .inl e)
       refine h1.keeps s4.k (fun k e f => ?_)
       have f : k = b4 := f
       subst f
       rcases e with e | e
       ·
        omega
       ·
        exact e.2.1 rfl)
      have c4 : x4.cell? ⟨sb, so + k * 6 + 4, none⟩ = some (.slice ba bn bc) := by rw [<- HBN.out]; exact CS.out 4 _ rfl x4 HL4.out.k
      have hp0 := HO.out; have hp8 := H8.out
      have AP := qq (z2h HL4.out (v := .slice ba bn bc) (bs := s.b) (by rw [<- HBN.out]; exact (HVB.out.keeps HL4.out.k (fun _ _ e => e)).mono (fun k e => .inl e)) (by have h1 := hp0.pot; have h2 := hp8.pot; rw [HM.out] at h1; omega) (by have h1 := hp0.segs; have h2 := hp8.segs; rw [HM.out] at h1; omega) (by have h1 := hp0.recs; have h2 := hp8.recs; rw [HM.out] at h1; omega) (by have h1 := hp0.size; have h2 := hp8.size; have h3 := HWG.out; have h4 := HTK.out; rw [HM.out] at h1; omega))
      clear s4 HS hp0 hp8 hz hg4 hb4r
      go_wp2_with fail
      refine AP.out.mono ?_
      rintro _ w7 ⟨er, L7, X7, rfl, hl7, hr7, hp7, hk7⟩
      have H7' := qq hl7; have HR7 := qq hr7
      have HPB : Hid (PB L X (k + 1) ((steps.take (k + 1)).map wgt).sum L7 X7) := qq (by
       obtain ⟨p1, p2, p3, p4⟩ := H8.out.app hr7 hp7
       rw [HTK.out]
       have hw : wgt s = s.b.length + s.name.size + s.picks.length := rfl
       exact ⟨p1, p2, p3, by omega⟩)
      have B4 := qq (Oth.at hk7 B44.out (.inl (H2.out b4 (.inr (.inl rfl)))))
      have B6 : Hid (∃ z6, w7.heap[b6]? = some (.cells z6 53 (0, 0)) /\ z6.size = 4) := qq (by obtain ⟨z, h1, h2⟩ := H4.out; exact ⟨z, Oth.at hk7 (K4.out.at h1 (fun e => by omega)) (.inl (H2.out b6 (.inr (.inr (.inl rfl))))), h2⟩)
      have B7 : Hid (∃ z7, w7.heap[b7]? = some (.cells z7 53 (0, 0)) /\ z7.size = 4) := qq (by obtain ⟨z, h1, h2⟩ := H5.out; exact ⟨z, Oth.at hk7 (K4.out.at h1 (fun e => by omega)) (.inl (H2.out b7 (.inr (.inr (.inr rfl))))), h2⟩)
      have RB7 := qq (RB4.out.keeps hk7 (z49 hk7))
      have KW7 : Hid (Keeps (Oth W0 O) w w7) := qq ((H9.out.trans K4.out (fun j hj e => by have e : j = b4 := e; subst e; have := H.out.k.size; have := G4.out; exact ⟨by omega, fun f => by have := H.out.lt f; omega⟩)).trans hk7 (fun j hj e => ⟨e.1, fun f => e.2 (.inl (H2.out j (.inl f)))⟩))
      have HSUB : Hid (∀ k, O k \/ k = b4 \/ k = b6 \/ k = b7 -> O1 k \/ (wr.heap.size <= k /\ k < x3.heap.size)) := qq fun k e => .inl (H2.out k e)
      clear hl7 hr7 hp7 hk7 AP c4 B44
      go_wp2
      refine WT.region (fun u => u.heap[b4]? = some (.cells (Ks.cs { Ki with all := Ki.all ++ [s.b] } (.slice a3 (n + 1) c3)) 53 (0, 0))) 5 7 [0, 1, 2, 3, 4, 5, 6] (by kernel_rfl) rfl ?_
      have HS : Hid ((fun u : World => u.heap[b4]? = some (.cells (Ks.cs { Ki with all := Ki.all ++ [s.b] } (.slice a3 (n + 1) c3)) 53 (0, 0))) w7.drew) := qq B4.out
      have SQ := qq (z7u (H7'.out.nb (Keeps.refl Nb w7).drew))
      refine WT.t 0 (v := _) (y := by rintro w C1; go_simp; with_reducible rfl) (s := HS.out) (h := ?_)
      refine WT.t 1 (v := .int .i64 Ki.sure) (y := by rintro w C1; exact zb (by kernel_rfl) (by rfl) ((cell_of_block C1).trans rfl)) (s := HS.out) (h := ?_)
      refine WT.t 2 (v := _) (y := by rintro w C1; go_simp; with_reducible rfl) (s := HS.out) (h := ?_)
      refine WT.call 3 (by simp only [qi]; rfl) (by kernel_rfl) (by rfl) (by go_simp; first | done | rfl | exact ⟨⟨rfl, rfl⟩, rfl⟩ | exact ⟨⟨rfl, rfl, rfl⟩, rfl⟩ | exact ⟨⟨rfl, rfl, rfl, rfl⟩, rfl⟩ | exact ⟨⟨rfl, rfl, rfl, rfl, rfl⟩, rfl⟩) SQ.out ?_
      rintro _ _ ⟨rfl, rfl⟩
      refine ⟨_, rfl, HS.out, ?_⟩
      simp only [Nat.reduceAdd, qn]
      refine WT.t 4 (v := .int .i64 (max Ki.sure (L7.synced : Int))) (y := by rintro w C1; go_simp; first | done | rfl | with_reducible rfl) (s := HS.out) (h := ?_)
      refine WT.stop (by kernel_rfl) ?_
      refine WP.o 5 (v := _) (y := by go_simp; first | with_reducible rfl | exact ⟨rfl, rfl⟩) (h := ?_)
      refine WP.onlySkipE 6 (by simp only [qi]; rfl) (by kernel_rfl) (by rfl) (zc (w := w7.drew) (v := .int .i64 (max Ki.sure (L7.synced : Int))) (n := 1) (by kernel_rfl) (by rfl) (by rfl) B4.out (by rfl) (by simp [Value.cells, Ks.cs]) (by simp [Value.cells, Value.oneCell'])) ?_
      intro w8 s8
      simp only [Nat.reduceAdd, qn]
      refine WP.done (by kernel_rfl) ?_
      have HI : Hid (PlI W0 w l d O steps L X K b4 b6 b7 (k + 1) w8) := qq (by
       have hz := H.out.k.size; have hg4 := G4.out
       have hl : (Ki.all ++ [s.b]).length = n + 1 := by rw [List.length_append, HNA.out]; rfl
       have hk8 : Keeps (· = b4) w7 w8 := ((Keeps.refl (· = b4) w7).drew).trans s8.k (fun _ _ e => e)
       refine ⟨L7, X7, { Ki with all := Ki.all ++ [s.b], sure := max Ki.sure (L7.synced : Int) }, _, a3, c3, H7'.out.set hk8 (fun k e => by have e : k = b4 := e; subst e; exact ⟨HSUB.out _ (.inr (.inl rfl)), by omega⟩), HSUB.out, ?_, ?_, ?_, ?_, fun L' Y Ka Kb h => H7.out _ _ _ _ (by rw [HDR.out]; exact .inr (.inl ⟨HBD.out, HKD.out, er, L7, X7, HR7.out, h⟩)), HPB.out, (by show (Ki.all ++ [s.b]).length <= _; rw [hl]; have := HA8.out; rw [HNA.out] at this; omega), KW7.out.trans hk8 (fun j hj e => by have e : j = b4 := e; subst e; exact ⟨by omega, fun f => by have := H.out.lt f; omega⟩)⟩
       ·
        show w8.heap[b4]? = some (.cells (Ks.cs _ (.slice a3 (Ki.all ++ [s.b]).length c3)) 53 (0, 0))
        rw [hl]; exact s8.blk
       ·
        obtain ⟨z, h1, h2⟩ := B6.out; exact ⟨z, hk8.at h1 (fun e => by have e : b6 = b4 := e; omega), h2⟩
       ·
        obtain ⟨z, h1, h2⟩ := B7.out; exact ⟨z, hk8.at h1 (fun e => by have e : b7 = b4 := e; omega), h2⟩
       ·
        show RB w8 _ (.slice a3 (Ki.all ++ [s.b]).length c3) (Ki.all ++ [s.b])
        rw [hl]
        refine RB7.out.keeps hk8 (fun k e f => ?_)
        have f : k = b4 := f
        subst f
        rcases e with e | e
        ·
         omega
        ·
         exact e.2.1 rfl)
      clear s8 HS SQ
      go_wp2
      go_roundw
      case rel => exact ⟨k + 1, by omega, by go_num, HI.out⟩
      case measure => simp [intOf]; omega
    ·
     by_cases hk2 : kd = 2
     ·
      subst hk2
      have hp8 := H8.out.pot
      have hp0 := HO.out.pot
      have SY := qq (z73 H1.out (by rw [HM.out] at hp0; omega))
      clear hp8 hp0 hk1
      go_wp2_with fail
      refine SY.out.mono ?_
      rintro _ w5 ⟨er, L5, X5, rfl, hl5, hr5, hp5, hk5⟩
      have H5' := qq hl5
      have B4 := qq (Oth.at hk5 H3.out (H2.out b4 (.inr (.inl rfl))))
      have B6 : Hid (∃ z6, w5.heap[b6]? = some (.cells z6 53 (0, 0)) /\ z6.size = 4) := qq (by obtain ⟨z, h1, h2⟩ := H4.out; exact ⟨z, Oth.at hk5 h1 (H2.out b6 (.inr (.inr (.inl rfl)))), h2⟩)
      have B7 : Hid (∃ z7, w5.heap[b7]? = some (.cells z7 53 (0, 0)) /\ z7.size = 4) := qq (by obtain ⟨z, h1, h2⟩ := H5.out; exact ⟨z, Oth.at hk5 h1 (H2.out b7 (.inr (.inr (.inr rfl)))), h2⟩)
      have RB5 := qq (H6.out.keeps hk5 (z49 hk5))
      have KW5 : Hid (Keeps (Oth W0 O) w w5) := qq (H9.out.trans hk5 (fun j hj e => ⟨e.1, fun f => e.2 (H2.out j (.inl f))⟩))
      clear hl5 hk5
      have HPB : Hid (PB L X (k + 1) ((steps.take (k + 1)).map wgt).sum L5 X5) := qq (by rw [HTK.out]; exact H8.out.syn hr5 hp5 _)
      have HR5 := qq hr5
      clear hr5 hp5 SY
      go_wp2_with fail
      refine (z0y er w5).mono ?_; rintro _ _ ⟨rfl, rfl⟩
      by_cases her : er = 0
      ·
       subst her
       have c2 : w5.cell? ⟨b4, 2, none⟩ = some (.slice a Ki.all.length c) := (cell_of_block B4.out).trans rfl
       go_wp2_with (first | go_skip | (with_reducible refine qv (by decide) ?_))
       refine za (zd rfl (zc (v := .int .i64 (Ki.all.length : Nat)) (n := 1) (by kernel_rfl) (by rfl) (by rfl) B4.out (by rfl) (by simp [Value.cells, Ks.cs]) (by simp [Value.cells, Value.oneCell'])) ?_)
       intro w6 s6
       simp only [Nat.reduceAdd, qn]
       have HN : Hid (LS W0 w6 l d L5 X5 O1 /\ w6.heap[b4]? = some (.cells (Ks.cs { Ki with sure := (Ki.all.length : Int) } (.slice a Ki.all.length c)) 53 (0, 0)) /\ (∃ z6, w6.heap[b6]? = some (.cells z6 53 (0, 0)) /\ z6.size = 4) /\ (∃ z7, w6.heap[b7]? = some (.cells z7 53 (0, 0)) /\ z7.size = 4) /\ RB w6 (OwnK W0 O1 b4 b6 b7) (.slice a Ki.all.length c) (Ks.all { Ki with sure := (Ki.all.length : Int) }) /\ Keeps (Oth W0 O) w w6) := qq (by
        have hz := H.out.k.size; have hg4 := G4.out
        refine ⟨H5'.out.set s6.k (fun k e => by have e : k = b4 := e; subst e; exact ⟨H2.out _ (.inr (.inl rfl)), by omega⟩), s6.blk, ?_, ?_, RB5.out.keeps s6.k (fun k e f => ?_), KW5.out.trans s6.k (fun j hj e => by have e : j = b4 := e; subst e; exact ⟨by omega, fun f => by have := H.out.lt f; omega⟩)⟩
        ·
         obtain ⟨z, h1, h2⟩ := B6.out; exact ⟨z, s6.k.at h1 (fun e => by have e : b6 = b4 := e; omega), h2⟩
        ·
         obtain ⟨z, h1, h2⟩ := B7.out; exact ⟨z, s6.k.at h1 (fun e => by have e : b7 = b4 := e; omega), h2⟩
        ·
         have f : k = b4 := f
         subst f
         rcases e with e | e
         ·
          omega
         ·
          exact e.2.1 rfl)
       have HI : Hid (PlI W0 w l d O steps L X K b4 b6 b7 (k + 1) w6) := qq ⟨L5, X5, { Ki with sure := (Ki.all.length : Int) }, O1, a, c, HN.out.1, H2.out, HN.out.2.1, HN.out.2.2.1, HN.out.2.2.2.1, HN.out.2.2.2.2.1, fun L' Y Ka Kb h => H7.out _ _ _ _ (by rw [HDR.out]; exact .inr (.inr (.inl ⟨HBD.out, HKD.out, 0, L5, X5, HR5.out, by rw [if_pos rfl]; exact h⟩))), HPB.out, (by have := HA8.out; show Ki.all.length <= _; omega), HN.out.2.2.2.2.2⟩
       clear s6 c2
       go_wp2
       go_roundw
       case rel => exact ⟨k + 1, by omega, by go_num, HI.out⟩
       case measure => simp [intOf]; omega
      ·
       have t0 : (er == 0) = false := by simpa using her
       have HI : Hid (PlI W0 w l d O steps L X K b4 b6 b7 (k + 1) w5) := qq ⟨L5, X5, Ki, O1, a, c, H5'.out, H2.out, B4.out, B6.out, B7.out, RB5.out, fun L' Y Ka Kb h => H7.out _ _ _ _ (by rw [HDR.out]; exact .inr (.inr (.inl ⟨HBD.out, HKD.out, er, L5, X5, HR5.out, by rw [if_neg her]; exact h⟩))), HPB.out, (by have := HA8.out; omega), KW5.out⟩
       clear her
       go_wp2
       go_roundw
       case rel => exact ⟨k + 1, by omega, by go_num, HI.out⟩
       case measure => simp [intOf]; omega
     ·
      by_cases hk3 : kd = 3
      ·
       subst hk3
       have n1 : ((3 : Int) == 1) = false := rfl
       have c4 : wr.cell? ⟨sb, so + k * 6 + 4, none⟩ = some (.slice ba s.b.length bc) := CS.out 4 _ rfl wr H1.out.k
       have HB53 := qq hb53
       obtain ⟨bn, hbn⟩ : ∃ n, s.b.length = n := ⟨_, rfl⟩
       obtain ⟨bl, hbl⟩ : ∃ x, bstr s.b = x := ⟨_, rfl⟩
       have HBN := qq hbn; have HBL := qq hbl
       rw [hbn] at c4
       have HH4 : Hid (Has wr ba (s.b.map fun z => .int .u8 (z : Nat))) := qq (by
        obtain ⟨a', c', e, _, _, hr, _⟩ := HVB.out
        cases e; exact (hr.nb H1.out.k).has)
       clear hbn hbl hk1 hk2
       have b53 := hb53
       go_wp2_with (first | go_skip | (with_reducible refine zv (s := 22) ?_))
       refine za (zu (v := .string bl) rfl (by rw [<- HBL.out]; exact z3t Tryz.underlying22 Tryz.underlying5 Tryz.underlying9 (by rfl) HH4.out HBN.out) ?_)
       simp only [Nat.reduceAdd, qn]
       go_wp2_with (first | go_skip | (with_reducible refine qv (by decide) ?_))
       refine za (valloc (z := .agg #[.string ByteArray.empty, .bool false, .slice none 0 0, .int .i64 0]) (by kernel_rfl) ?_)
       intro b9 w5 n5
       simp only [Nat.reduceAdd, qn]
       go_wp2_with (first | go_skip | (with_reducible refine qv (by decide) ?_))
       refine za (zd rfl (zc (v := .agg #[.string bl, .bool true, .slice none 0 0, .int .i64 0]) (n := 4) (by kernel_rfl) (by rfl) (by rfl) n5.blk (by rfl) (by simp [Value.cells]) (by simp [Value.cells, Value.oneCell'])) ?_)
       intro w6 s6
       simp only [Nat.reduceAdd, qn]
       have hn9 : wr.heap.size <= b9 := n5.ge
       have hk6 : Keeps Nb wr w6 := n5.k.own (k := b9) hn9 s6.k
       have h9lt : b9 < w6.heap.size := lt_of_block s6.blk
       have HL6 := qq (H1.out.add (N := fun k => k = b9) hk6 (fun k e => by omega))
       have C9 : Hid (w6.heap[b9]? = some (.cells (Ks.cs (turnedK s.b) (.slice none 0 0)) 53 (0, 0))) := qq (by
        have h1 := s6.blk
        rw [show splice (Value.agg #[.string ByteArray.empty, .bool false, .slice none 0 0, .int .i64 0]).cells (Value.agg #[.string bl, .bool true, .slice none 0 0, .int .i64 0]).cells 0 = #[.string bl, .bool true, .slice none 0 0, .int .i64 0] from rfl] at h1
        rw [h1, <- HBL.out]; rfl)
       have K6 := qq hk6
       have hp0 := HO.out.pot; have hp8 := H8.out.pot
       have c46 : w6.cell? ⟨sb, so + k * 6 + 4, none⟩ = some (.slice ba bn bc) := (hk6.cell (lt_of_cell c4) (fun e => e)).trans c4
       have hvb6 : Bytes w6 (Own W0 fun k => O1 k \/ k = b9) (.slice ba bn bc) s.b := by rw [<- HBN.out]; exact (HVB.out.keeps HL6.out.k (fun _ _ e => e)).mono (fun k e => .inl e)
       have TN := qq (zag HL6.out hvb6 (by rw [HM.out] at hp0; omega))
       have HG9 := qq hn9
       clear n5 s6 hk6 hn9 h9lt hp0 hp8 c4 hvb6 b53
       go_wp2_with fail
       refine TN.out.mono ?_
       rintro _ w7 ⟨er, L7, X7, rfl, hl7, hr7, hp7, hk7⟩
       have HL7 := qq hl7; have HR7 := qq hr7; have HK7 := qq hk7
       have HPB : Hid (PB L X (k + 1) ((steps.take (k + 1)).map wgt).sum L7 X7) := qq (by rw [HTK.out]; exact H8.out.turn hr7 hp7 _)
       have B4 := qq (Oth.at hk7 (K6.out.nb H3.out) (.inl (H2.out b4 (.inr (.inl rfl)))))
       have B6 : Hid (∃ z6, w7.heap[b6]? = some (.cells z6 53 (0, 0)) /\ z6.size = 4) := qq (by obtain ⟨z, h1, h2⟩ := H4.out; exact ⟨z, Oth.at hk7 (K6.out.nb h1) (.inl (H2.out b6 (.inr (.inr (.inl rfl))))), h2⟩)
       have B7 : Hid (∃ z7, w7.heap[b7]? = some (.cells z7 53 (0, 0)) /\ z7.size = 4) := qq (by obtain ⟨z, h1, h2⟩ := H5.out; exact ⟨z, Oth.at hk7 (K6.out.nb h1) (.inl (H2.out b7 (.inr (.inr (.inr rfl))))), h2⟩)
       have B9 := qq (Oth.at hk7 C9.out (.inr rfl))
       have hb9n : b9 ≠ b4 /\ b9 ≠ b6 /\ b9 ≠ b7 := by
        have := HG9.out; have h4 := H1.out.lt (H2.out b4 (.inr (.inl rfl))); have h6 := H1.out.lt (H2.out b6 (.inr (.inr (.inl rfl)))); have h7 := H1.out.lt (H2.out b7 (.inr (.inr (.inr rfl))))
        omega
       have RB7 : Hid (RB w7 (OwnK W0 (fun k => O1 k \/ k = b9) b4 b6 b7) (.slice a Ki.all.length c) Ki.all) := qq (((H6.out.keeps K6.out (fun _ _ e => e)).mono (fun k e => e.imp id fun e => ⟨.inl e.1, e.2⟩)).keeps hk7 (z49 hk7))
       have RBT : Hid (RB w7 (OwnK W0 (fun k => O1 k \/ k = b9) b4 b6 b7) (.slice none 0 0) []) := qq ⟨none, 0, [], rfl, Nat.le_refl _, Nat.zero_le _, .inl rfl, (fun _ _ e => by cases e), .nil _ _⟩
       have KW7 : Hid (Keeps (Oth W0 O) w w7) := qq ((H9.out.trans_nb K6.out).trans hk7 (fun j hj e => ⟨e.1, fun f => e.2 (.inl (H2.out j (.inl f)))⟩))
       have HSUB : Hid (∀ k, O k \/ k = b4 \/ k = b6 \/ k = b7 -> O1 k \/ k = b9) := qq fun k e => .inl (H2.out k e)
       clear hl7 hr7 hp7 hk7 TN c46
       go_wp2_with fail
       refine (z0y er w7).mono ?_; rintro _ _ ⟨rfl, rfl⟩
       by_cases her : er = 0
       ·
        subst her
        have t0 : ((0 : Int) != 0) = false := rfl
        go_wp2_with (first | go_skip | (with_reducible refine z84 (t := 53) ?_) | (with_reducible refine zf ?_))
        refine za (zu (v := .agg (Ks.cs (turnedK s.b) (.slice none 0 0))) rfl (z0j agg53 (by rfl) (zm B9.out) rfl) ?_)
        simp only [Nat.reduceAdd, qn]
        go_wp2_with (first | go_skip | (with_reducible refine z84 (t := 53) ?_) | (with_reducible refine zf ?_))
        refine za (zd rfl (zc (v := .agg (Ks.cs (turnedK s.b) (.slice none 0 0))) (n := 4) (by kernel_rfl) (by rfl) (by rfl) B4.out (by rfl) (by simp [Ks.cs]) (Ks.one _)) ?_)
        intro w8 s8
        simp only [Nat.reduceAdd, qn]
        have HI : Hid (PlI W0 w l d O steps L X K b4 b6 b7 (k + 1) w8) := qq (by
         have hz := H.out.k.size; have hg4 := G4.out
         refine ⟨L7, X7, turnedK s.b, _, none, 0, HL7.out.set s8.k (fun k e => by have e : k = b4 := e; subst e; exact ⟨HSUB.out _ (.inr (.inl rfl)), by omega⟩), HSUB.out, ?_, ?_, ?_, RBT.out.keeps s8.k (fun k e f => ?_), fun L' Y Ka Kb h => H7.out _ _ _ _ (by rw [HDR.out]; exact .inr (.inr (.inr (.inl ⟨HBD.out, HKD.out, 0, L7, X7, HR7.out, .inr ⟨rfl, h⟩⟩)))), HPB.out, Nat.zero_le _, KW7.out.trans s8.k (fun j hj e => by have e : j = b4 := e; subst e; exact ⟨by omega, fun f => by have := H.out.lt f; omega⟩)⟩
         ·
          have := s8.blk; rw [show splice (Ki.cs (.slice a Ki.all.length c)) (Value.agg (Ks.cs (turnedK s.b) (.slice none 0 0))).cells 0 = Ks.cs (turnedK s.b) (.slice none 0 0) from z0a rfl] at this; exact this
         ·
          obtain ⟨z, h1, h2⟩ := B6.out; exact ⟨z, s8.k.at h1 (fun e => by have e : b6 = b4 := e; omega), h2⟩
         ·
          obtain ⟨z, h1, h2⟩ := B7.out; exact ⟨z, s8.k.at h1 (fun e => by have e : b7 = b4 := e; omega), h2⟩
         ·
          have f : k = b4 := f
          subst f
          rcases e with e | e
          ·
           omega
          ·
           exact e.2.1 rfl)
        clear s8
        go_wp2
        go_roundw
        case rel => exact ⟨k + 1, by omega, by go_num, HI.out⟩
        case measure => simp [intOf]; omega
       ·
        have t0 : (er != 0) = true := by simpa using her
        have HER := qq her
        clear her
        go_wp2
        obtain ⟨z6, hz6, hs6⟩ := B6.out
        obtain ⟨z7, hz7, hs7⟩ := B7.out
        have HZ6 := qq hz6; have HZ7 := qq hz7; have HS6 := qq hs6; have HS7 := qq hs7
        clear hz6 hz7 hs6 hs7
        refine WT.region (fun u => u.heap[b4]? = some (.cells (Ki.cs (.slice a Ki.all.length c)) 53 (0, 0)) /\ u.heap[b9]? = some (.cells (Ks.cs (turnedK s.b) (.slice none 0 0)) 53 (0, 0))) 3 4 [0, 1, 2, 3] (by kernel_rfl) rfl ?_
        have HS : Hid ((fun u : World => u.heap[b4]? = some (.cells (Ki.cs (.slice a Ki.all.length c)) 53 (0, 0)) /\ u.heap[b9]? = some (.cells (Ks.cs (turnedK s.b) (.slice none 0 0)) 53 (0, 0))) w7.drew) := qq ⟨B4.out, B9.out⟩
        refine WT.t 0 (v := .agg (Ki.cs (.slice a Ki.all.length c))) (y := by rintro w ⟨C1, C2⟩; exact z0j agg53 (by rfl) (zm C1) rfl) (s := HS.out) (h := ?_)
        refine WT.t 1 (v := .agg (Ks.cs (turnedK s.b) (.slice none 0 0))) (y := by rintro w ⟨C1, C2⟩; exact z0j agg53 (by rfl) (zm C2) rfl) (s := HS.out) (h := ?_)
        refine WT.onlySkipE 2 (by simp only [qi]; rfl) (by kernel_rfl) (by rfl) (zc (w := w7.drew) (v := .agg (Ki.cs (.slice a Ki.all.length c))) (n := 4) (by kernel_rfl) (by rfl) (by rfl) HZ6.out (by rfl) (by rw [HS6.out]; exact Nat.le_refl _) (Ki.one)) ?_
        intro wa s6
        replace HS : Hid ((fun u : World => u.heap[b4]? = some (.cells (Ki.cs (.slice a Ki.all.length c)) 53 (0, 0)) /\ u.heap[b9]? = some (.cells (Ks.cs (turnedK s.b) (.slice none 0 0)) 53 (0, 0))) wa) := qq ⟨s6.k.at (w := w7.drew) B4.out (fun e => by omega), s6.k.at (w := w7.drew) B9.out (fun e => hb9n.2.1 e)⟩
        refine ⟨HS.out, ?_⟩
        simp only [Nat.reduceAdd, qn]
        refine WT.stop (by kernel_rfl) ?_
        refine WP.onlySkipE 3 (by simp only [qi]; rfl) (by kernel_rfl) (by rfl) (zc (v := .agg (Ks.cs (turnedK s.b) (.slice none 0 0))) (n := 4) (by kernel_rfl) (by rfl) (by rfl) (s6.k.at (w := w7.drew) HZ7.out (fun e => by omega)) (by rfl) (by rw [HS7.out]; exact Nat.le_refl _) (Ks.one _)) ?_
        intro wb s7
        simp only [Nat.reduceAdd, qn]
        refine WP.done (by kernel_rfl) ?_
        have Z6 : Hid (wb.heap[b6]? = some (.cells (Ki.cs (.slice a Ki.all.length c)) 53 (0, 0))) := qq (s7.k.at (by have := s6.blk; rw [show splice z6 (Value.agg (Ki.cs (.slice a Ki.all.length c))).cells 0 = Ki.cs (.slice a Ki.all.length c) from z0a (by rw [HS6.out]; rfl)] at this; exact this) (fun e => by omega))
        have Z7 : Hid (wb.heap[b7]? = some (.cells (Ks.cs (turnedK s.b) (.slice none 0 0)) 53 (0, 0))) := qq (by have := s7.blk; rw [show splice z7 (Value.agg (Ks.cs (turnedK s.b) (.slice none 0 0))).cells 0 = Ks.cs (turnedK s.b) (.slice none 0 0) from z0a (by rw [HS7.out]; rfl)] at this; exact this)
        have KD : Hid (Keeps (fun b => b = b6 \/ b = b7) w7 wb) := qq ((((Keeps.refl (fun b => b = b6 \/ b = b7) w7).drew).trans s6.k (fun _ _ e => .inl e)).trans s7.k (fun _ _ e => .inr e))
        clear s6 s7 HS
        go_wp2
        refine bodyPost_ret (z3m agg53 rfl _ rfl rfl Z6.out rfl Z7.out rfl) rfl ?_
        have hz := H.out.k.size
        exact z5r (b4 := b4) (Kb := turnedK s.b) HL7.out HSUB.out RB7.out RBT.out (H7.out _ _ _ _ (by rw [HDR.out]; exact .inr (.inr (.inr (.inl ⟨HBD.out, HKD.out, er, L7, X7, HR7.out, .inl ⟨HER.out, rfl, rfl, rfl, rfl⟩⟩))))) HPB.out (by rw [HM.out]; omega) HWG.out KW7.out KD.out (by have := G4.out; exact ⟨fun e => by have := H.out.lt e; omega, fun e => by have := H.out.lt e; omega⟩) (by have := G4.out; omega)
      ·
       have n1 : (kd == 1) = false := by simpa using hk1
       have n2 : (kd == 2) = false := by simpa using hk2
       have n3 : (kd == 3) = false := by simpa using hk3
       have HI : Hid (PlI W0 w l d O steps L X K b4 b6 b7 (k + 1) wr) := qq ⟨Li, Xi, Ki, O1, a, c, H1.out, H2.out, H3.out, H4.out, H5.out, H6.out, fun L' Y Ka Kb h => H7.out _ _ _ _ (by rw [HDR.out]; exact .inr (.inr (.inr (.inr ⟨HBD.out, by rw [HKD.out]; exact hk1, by rw [HKD.out]; exact hk2, by rw [HKD.out]; exact hk3, h⟩)))), by rw [HTK.out]; exact H8.out.same _, (by have := HA8.out; omega), H9.out⟩
       clear hk1 hk2 hk3
       go_wp2
       go_roundw
       case rel => exact ⟨k + 1, by omega, by go_num, HI.out⟩
       case measure => simp [intOf]; omega
  ·
   have hkm : k = m := by omega
   subst hkm
   go_wp2
   obtain ⟨z6, hz6, hs6⟩ := H4.out
   obtain ⟨z7, hz7, hs7⟩ := H5.out
   have HZ6 := qq hz6; have HZ7 := qq hz7; have HS6 := qq hs6; have HS7 := qq hs7
   clear hz6 hz7 hs6 hs7
   refine WT.region (fun u => u.heap[b4]? = some (.cells (Ki.cs (.slice a Ki.all.length c)) 53 (0, 0))) 3 4 [0, 1, 2, 3] (by kernel_rfl) rfl ?_
   have HS : Hid ((fun u : World => u.heap[b4]? = some (.cells (Ki.cs (.slice a Ki.all.length c)) 53 (0, 0))) wr.drew) := qq H3.out
   refine WT.t 0 (v := (.agg (Ki.cs (.slice a Ki.all.length c)))) (y := by rintro w C1; exact z0j agg53 (by rfl) (zm C1) rfl) (s := HS.out) (h := ?_)
   refine WT.t 1 (v := (.agg (Ki.cs (.slice a Ki.all.length c)))) (y := by rintro w C1; exact z0j agg53 (by rfl) (zm C1) rfl) (s := HS.out) (h := ?_)
   refine WT.onlySkipE 2 (by simp only [qi]; rfl) (by kernel_rfl) (by rfl) (zc (w := wr.drew) (v := .agg (Ki.cs (.slice a Ki.all.length c))) (n := 4) (by kernel_rfl) (by rfl) (by rfl) HZ6.out (by rfl) (by rw [HS6.out]; exact Nat.le_refl _) (Ki.one)) ?_
   intro wa s6
   replace HS : Hid ((fun u : World => u.heap[b4]? = some (.cells (Ki.cs (.slice a Ki.all.length c)) 53 (0, 0))) wa) := qq (s6.k.at (w := wr.drew) H3.out (fun e => by omega))
   refine ⟨HS.out, ?_⟩
   simp only [Nat.reduceAdd, qn]
   refine WT.stop (by kernel_rfl) ?_
   refine WP.onlySkipE 3 (by simp only [qi]; rfl) (by kernel_rfl) (by rfl) (zc (v := .agg (Ki.cs (.slice a Ki.all.length c))) (n := 4) (by kernel_rfl) (by rfl) (by rfl) (s6.k.at (w := wr.drew) HZ7.out (fun e => by omega)) (by rfl) (by rw [HS7.out]; exact Nat.le_refl _) (Ki.one)) ?_
   intro wb s7
   simp only [Nat.reduceAdd, qn]
   refine WP.done (by kernel_rfl) ?_
   have Z6 : Hid (wb.heap[b6]? = some (.cells (Ki.cs (.slice a Ki.all.length c)) 53 (0, 0))) := qq (s7.k.at (by have := s6.blk; rw [show splice z6 (Value.agg (Ki.cs (.slice a Ki.all.length c))).cells 0 = Ki.cs (.slice a Ki.all.length c) from z0a (by rw [HS6.out]; rfl)] at this; exact this) (fun e => by omega))
   have Z7 : Hid (wb.heap[b7]? = some (.cells (Ki.cs (.slice a Ki.all.length c)) 53 (0, 0))) := qq (by have := s7.blk; rw [show splice z7 (Value.agg (Ki.cs (.slice a Ki.all.length c))).cells 0 = Ki.cs (.slice a Ki.all.length c) from z0a (by rw [HS7.out]; rfl)] at this; exact this)
   have KD : Hid (Keeps (fun b => b = b6 \/ b = b7) wr wb) := qq ((((Keeps.refl (fun b => b = b6 \/ b = b7) wr).drew).trans s6.k (fun _ _ e => .inl e)).trans s7.k (fun _ _ e => .inr e))
   clear s6 s7 HS
   go_wp2
   refine bodyPost_ret (z3m agg53 rfl _ rfl rfl Z6.out rfl Z7.out rfl) rfl ?_
   have hz := H.out.k.size
   exact z5r (b4 := b4) H1.out H2.out H6.out H6.out (H7.out _ _ _ _ (by rw [<- HM.out, List.drop_length]; exact ⟨rfl, rfl, rfl, rfl⟩)) H8.out (by rw [HM.out]; exact Nat.le_refl _) (by rw [<- HM.out, List.take_length]; exact HF.out) H9.out KD.out (by have := G4.out; exact ⟨fun e => by have := H.out.lt e; omega, fun e => by have := H.out.lt e; omega⟩) (by have := G4.out; omega)
end Go.Proofs.YtpjomdmjohjheaaGreatDoor
end
section
namespace Go.Log
open Go.Vfs
variable {nm : ByteArray} {X Y Z : Ds} {e : Int} {s t : ByteArray} {n k m : Nat} {bs : List Nat}
structure Fau (D : Dk) : Prop where
 dead : D.dead = false
 fuse : D.fuse < 0
theorem zch (D : Dk) : (chg D).1.fe = D.fe \/ (chg D).1.fe = 0 := by
 unfold chg
 simp only
 split
 ·
  exact .inr rfl
 ·
  split
  ·
   left; simp only; split <;> rfl
  ·
   left; simp only; split <;> rfl
theorem za2 {D : Dk} (h : Fau D) : Fau (chg D).1 /\ ((chg D).2.2 ≠ 0 -> (chg D).1.fe = 0) /\ (D.fe = 0 -> (chg D).2.2 = 0 /\ (chg D).1.fe = 0) := by
 obtain ⟨h1, h2⟩ := h
 have f1 : ¬ 0 < D.fuse := by omega
 have f0 : ¬ D.fuse = 0 := by omega
 unfold chg
 simp only [if_neg f1]
 split
 ·
  rename_i hf
  exact ⟨⟨h1, h2⟩, fun _ => rfl, fun h0 => absurd h0 hf.1⟩
 ·
  by_cases h0 : D.fe = 0
  ·
   try rw [if_neg f0]
   exact ⟨by simp only; split <;> exact ⟨h1, h2⟩, fun h => absurd rfl h, fun _ => ⟨rfl, by simp only; split <;> exact h0⟩⟩
  ·
   try rw [if_neg f0]
   exact ⟨by simp only; split <;> exact ⟨h1, h2⟩, fun h => absurd rfl h, fun h => absurd h h0⟩
structure FR (X : Ds) (e : Int) (Y : Ds) : Prop where
 fau : Fau Y.D
 met : e ≠ 0 -> Y.D.fe = 0
 calm : X.D.fe = 0 -> e = 0 /\ Y.D.fe = 0
 fe : Y.D.fe = X.D.fe \/ Y.D.fe = 0
theorem FR.trans (h1 : FR X 0 Z) (h2 : FR Z e Y) : FR X e Y := ⟨h2.fau, h2.met, fun h => h2.calm (h1.calm h).2, h2.fe.elim (fun e => e ▸ h1.fe) .inr⟩
theorem FR.refl (h : Fau X.D) : FR X 0 X := ⟨h, fun h => absurd rfl h, fun h => ⟨rfl, h⟩, .inl rfl⟩
theorem FR.chg (h : Fau X.D) (hd : Y.D = (chg X.D).1) (he : e = (chg X.D).2.2) : FR X e Y := by
 obtain ⟨a, b, c⟩ := za2 h
 subst he
 exact ⟨hd ▸ a, fun h => hd ▸ b h, fun h => ⟨(c h).1, hd ▸ (c h).2⟩, hd ▸ zch X.D⟩
theorem FR.chg' (h : Fau X.D) {D' : Dk} (hY : Y.D.dead = D'.dead /\ Y.D.fuse = D'.fuse /\ Y.D.fe = D'.fe) (hd : D' = (Go.Vfs.chg X.D).1) (he : e = (Go.Vfs.chg X.D).2.2) : FR X e Y := by
 obtain ⟨a, b, c⟩ := za2 h
 obtain ⟨y1, y2, y3⟩ := hY
 subst he hd
 exact ⟨⟨by rw [y1]; exact a.dead, by rw [y2]; exact a.fuse⟩, fun h => by rw [y3]; exact b h, fun h => ⟨(c h).1, by rw [y3]; exact (c h).2⟩, by rw [y3]; exact zch X.D⟩
theorem z42 (h : Fau X.D) (h1 : mnB s = true) (h2 : X.dir s = none) (h3 : X.D.files.length < 64) (hr : mkO s X e Y) : FR X e Y := by
 obtain ⟨n, -, hr⟩ := hr
 rcases hr with ⟨g, -⟩ | ⟨-, ⟨b, g⟩, -⟩ | ⟨-, -, g, -⟩ | ⟨-, -, -, g, -⟩ | ⟨-, -, -, -, h0, ⟨-, b, -, hd, -⟩ | ⟨-, hd, -⟩⟩
 ·
  rw [h1] at g; cases g
 ·
  rw [show flook X.D.files s = none from h2] at g; cases g
 ·
  omega
 ·
  rw [h.dead] at g; cases g
 ·
  exact FR.chg' h (by rw [hd]; exact ⟨rfl, rfl, rfl⟩) rfl h0
 ·
  exact FR.chg h hd h0
theorem zbd {b : Nat} (h : Fau X.D) (h1 : mnB s = true) (h2 : X.dir s = some b) (h3 : (bs.length : Int) <= X.D.cap - (tot X.D.files X.fc : Nat)) (hr : apO s bs X e Y) : FR X e Y := by
 have h2 : flook X.D.files s = some b := h2
 rcases hr with ⟨g, -⟩ | ⟨-, g, -⟩ | ⟨b', -, hl, ⟨g, -⟩ | ⟨-, g, -⟩ | ⟨-, -, h0, hd, -⟩⟩
 ·
  rw [h1] at g; cases g
 ·
  rw [h2] at g; cases g
 ·
  omega
 ·
  rw [h.dead] at g; cases g
 ·
  exact FR.chg h hd h0
theorem z3c {b : Nat} (h : Fau X.D) (h1 : mnB s = true) (h2 : X.dir s = some b) (hr : syO s X e Y) : FR X e Y := by
 have h2 : flook X.D.files s = some b := h2
 rcases hr with ⟨g, -⟩ | ⟨-, g, -⟩ | ⟨b', -, hl, ⟨g, -⟩ | ⟨-, h0, hd, -⟩⟩
 ·
  rw [h1] at g; cases g
 ·
  rw [h2] at g; cases g
 ·
  rw [h.dead] at g; cases g
 ·
  exact FR.chg h hd h0
theorem fr_cu {b : Nat} (h : Fau X.D) (h1 : mnB s = true) (h2 : X.dir s = some b) (h3 : k <= (X.fc b).b.length) (hr : cuO s k X e Y) : FR X e Y := by
 have h2 : flook X.D.files s = some b := h2
 rcases hr with ⟨g, -⟩ | ⟨-, g, -⟩ | ⟨-, -, g, -⟩ | ⟨b', -, -, hl, ⟨g, -⟩ | ⟨-, g, -⟩ | ⟨-, -, h0, hd, -⟩⟩
 ·
  omega
 ·
  rw [h1] at g; cases g
 ·
  rw [h2] at g; cases g
 ·
  rw [h2] at hl; cases hl; omega
 ·
  rw [h.dead] at g; cases g
 ·
  exact FR.chg h hd h0
theorem zfh {b : Nat} (h : Fau X.D) (h1 : mnB s = true) (h1' : mnB t = true) (h2 : X.dir s = some b) (hr : rnO s t X e Y) : FR X e Y := by
 have h2 : flook X.D.files s = some b := h2
 obtain ⟨hr, -⟩ := hr
 rcases hr with ⟨g, -⟩ | ⟨-, g, -⟩ | ⟨-, -, g, -⟩ | ⟨b', -, -, hl, ⟨g, -⟩ | ⟨-, h0, hd⟩⟩
 ·
  rw [h1'] at g; cases g
 ·
  rw [h1] at g; cases g
 ·
  rw [h2] at g; cases g
 ·
  rw [h.dead] at g; cases g
 ·
  refine FR.chg' h (D' := (chg X.D).1) ?_ rfl h0
  rw [hd]; split <;> exact ⟨rfl, rfl, rfl⟩
theorem zbe {b : Nat} (h : Fau X.D) (h1 : mnB s = true) (h2 : X.dir s = some b) (hr : rmO s X e Y) : FR X e Y := by
 have h2 : flook X.D.files s = some b := h2
 obtain ⟨hr, -⟩ := hr
 rcases hr with ⟨g, -⟩ | ⟨-, g, -⟩ | ⟨b', -, hl, ⟨g, -⟩ | ⟨-, h0, hd⟩⟩
 ·
  rw [h1] at g; cases g
 ·
  rw [h2] at g; cases g
 ·
  rw [h.dead] at g; cases g
 ·
  refine FR.chg' h (D' := (chg X.D).1) ?_ rfl h0
  rw [hd]; split <;> exact ⟨rfl, rfl, rfl⟩
theorem zgw (h1 : mnB s = true) (h2 : X.dir s = none) (hr : rmO s X e Y) : e = 6 /\ Y = X := by
 have h2 : flook X.D.files s = none := h2
 obtain ⟨hr, hf⟩ := hr
 rcases hr with ⟨g, -⟩ | ⟨-, -, h0, hd⟩ | ⟨b', -, g, -⟩
 ·
  rw [h1] at g; cases g
 ·
  exact ⟨h0, by cases X; cases Y; simp_all⟩
 ·
  rw [h2] at g; cases g
theorem zcp (h : Fau X.D) (h6 : X.D.fe ≠ 6) (h1 : mnB s = true) (hr : rmnO s X e Y) : FR X e Y /\ (e = 0 -> Y.dir s = none) := by
 obtain ⟨e1, hr, he⟩ := hr
 cases hd : X.dir s with
 | none =>
  obtain ⟨rfl, rfl⟩ := zgw h1 hd hr
  subst he
  exact ⟨FR.refl h, fun _ => hd⟩
 | some b =>
  have hf := zbe h h1 hd hr
  have ne6 : e1 ≠ 6 := by
   intro e6
   subst e6
   obtain ⟨hr, -⟩ := hr
   rcases hr with ⟨-, g, -⟩ | ⟨-, g, -⟩ | ⟨b', -, hl, ⟨g, -⟩ | ⟨-, h0, -⟩⟩
   ·
    omega
   ·
    rw [show flook X.D.files s = some b from hd] at g; cases g
   ·
    rw [h.dead] at g; cases g
   ·
    unfold chg at h0
    simp only at h0
    split at h0
    ·
     exact h6 h0.symm
    ·
     rw [if_neg (by have := h.fuse; omega)] at h0; cases h0
  rw [if_neg ne6] at he
  subst he
  refine ⟨hf, fun e0 => ?_⟩
  obtain ⟨-, ⟨g, -⟩ | ⟨-, b', -, hd'⟩⟩ := z1j hr
  ·
   exact absurd e0 g
  ·
   unfold Ds.dir; rw [hd'.files, z0l]; exact if_pos rfl
theorem z68 (h : Fau X.D) (hr : sdO X e Y) : FR X e Y := by
 obtain ⟨hr, -⟩ := hr
 rcases hr with ⟨g, -⟩ | ⟨-, h0, hd⟩
 ·
  rw [h.dead] at g; cases g
 ·
  refine FR.chg' h (D' := (chg X.D).1) ?_ rfl h0
  rw [hd]; split <;> exact ⟨rfl, rfl, rfl⟩
structure Bd (n t : Nat) (X : Ds) : Prop where
 nf : X.D.files.length <= n
 nt : tot X.D.files X.fc <= t
 key : (X.D.files.map Prod.fst).Nodup
 blk : (X.D.files.map Prod.snd).Nodup
theorem Bd.mono {n t n' t' : Nat} (h : Bd n t X) (h1 : n <= n') (h2 : t <= t') : Bd n' t' X := ⟨Nat.le_trans h.nf h1, Nat.le_trans h.nt h2, h.key, h.blk⟩
theorem z0w (p : ByteArray × Nat) (l : List (ByteArray × Nat)) (fc : Nat -> Fl) : tot (p :: l) fc = (fc p.2).b.length + tot l fc := by simp [tot]
theorem zdu {l : List (ByteArray × Nat)} {fc fc' : Nat -> Fl} (h : ∀ p ∈ l, (fc' p.2).b.length = (fc p.2).b.length) : tot l fc' = tot l fc := by
 unfold tot
 rw [List.map_congr_left h]
theorem zha {l : List (ByteArray × Nat)} {fc : Nat -> Fl} {b : Nat} {x : Fl} (hn : (l.map Prod.snd).Nodup) {j : Nat} (hx : x.b.length <= (fc b).b.length + j) : tot l (setf fc b x) <= tot l fc + j := by
 induction l with
 | nil => simp [tot]
 | cons p l ih =>
  rw [List.map_cons, List.nodup_cons] at hn
  rw [z0w, z0w]
  by_cases e : p.2 = b
  ·
   have : tot l (setf fc b x) = tot l fc := zdu fun q hq => by
    rw [z0h]; exact fun e2 => hn.1 (by rw [e, <- e2]; exact List.mem_map.2 ⟨q, hq, rfl⟩)
   rw [this, e, z0g]; omega
  ·
   rw [z0h _ _ e]; have := ih hn.2; omega
theorem z6w (a b : List (ByteArray × Nat)) (fc : Nat -> Fl) : tot (a ++ b) fc = tot a fc + tot b fc := by simp [tot]
theorem zb6 {l : List (ByteArray × Nat)} (fc : Nat -> Fl) (s : ByteArray) : tot (fdel l s) fc <= tot l fc := by
 unfold fdel
 induction l with
 | nil => simp
 | cons p l ih =>
  rw [List.filter_cons]
  split
  ·
   rw [z0w, z0w]; omega
  ·
   rw [z0w]; omega
theorem z9e {l : List (ByteArray × Nat)} {b : Nat} (fc : Nat -> Fl) (s : ByteArray) (h : flook l s = some b) : tot (fdel l s) fc + (fc b).b.length <= tot l fc := by
 induction l with
 | nil => cases h
 | cons p l ih =>
  rw [z08] at h
  by_cases e : p.1 = s
  ·
   rw [if_pos e] at h
   cases h
   have h1 : fdel (p :: l) s = fdel l s := by unfold fdel; rw [List.filter_cons, if_neg (by simpa using e)]
   have := zb6 (l := l) fc s
   rw [h1, z0w]; omega
  ·
   rw [if_neg e] at h
   have h1 : fdel (p :: l) s = p :: fdel l s := by unfold fdel; rw [List.filter_cons, if_pos (by simpa using e)]
   rw [h1, z0w, z0w]; have := ih h; omega
theorem zh9 {l : List (ByteArray × Nat)} (fc : Nat -> Fl) (s : ByteArray) (b : Nat) (hk : (l.map Prod.fst).Nodup) : tot (l.map fun p => if p.1 = s then (s, b) else p) fc <= tot l fc + (fc b).b.length := by
 induction l with
 | nil => simp [tot]
 | cons p l ih =>
  rw [List.map_cons, List.nodup_cons] at hk
  rw [List.map_cons, z0w, z0w]
  by_cases e : p.1 = s
  ·
   have : (l.map fun p => if p.1 = s then (s, b) else p) = l := by
    conv => rhs; rw [<- List.map_id l]
    exact List.map_congr_left fun q hq => if_neg fun e2 => hk.1 (by rw [e, <- e2]; exact List.mem_map.2 ⟨q, hq, rfl⟩)
   rw [if_pos e, this]; simp only; omega
  ·
   rw [if_neg e]; have := ih hk.2; omega
theorem zew (l : List (ByteArray × Nat)) (s : ByteArray) (b : Nat) : (l.map fun p => if p.1 = s then (s, b) else p).map Prod.fst = l.map Prod.fst := by
 rw [List.map_map]
 refine List.map_congr_left fun p hp => ?_
 simp only [Function.comp]
 split
 ·
  rename_i e; exact e.symm
 ·
  rfl
theorem zbr {l : List (ByteArray × Nat)} {s : ByteArray} {b : Nat} (hk : (l.map Prod.fst).Nodup) (hb : (l.map Prod.snd).Nodup) (hn : b ∉ l.map Prod.snd) : ((l.map fun p => if p.1 = s then (s, b) else p).map Prod.snd).Nodup := by
 induction l with
 | nil => simp
 | cons p l ih =>
  rw [List.map_cons, List.nodup_cons] at hk hb
  rw [List.map_cons, List.mem_cons, not_or] at hn
  rw [List.map_cons, List.map_cons, List.nodup_cons]
  by_cases e : p.1 = s
  ·
   have : (l.map fun p => if p.1 = s then (s, b) else p) = l := by
    conv => rhs; rw [<- List.map_id l]
    exact List.map_congr_left fun q hq => if_neg fun e2 => hk.1 (by rw [e, <- e2]; exact List.mem_map.2 ⟨q, hq, rfl⟩)
   rw [this, if_pos e]; exact ⟨hn.2, hb.2⟩
  ·
   rw [if_neg e]
   refine ⟨fun h => ?_, ih hk.2 hb.2 hn.2⟩
   rw [List.map_map] at h
   obtain ⟨q, hq, e2⟩ := List.mem_map.1 h
   simp only [Function.comp] at e2
   split at e2
   ·
    exact hn.1 e2
   ·
    exact hb.1 (e2 ▸ List.mem_map.2 ⟨q, hq, rfl⟩)
theorem zfo {l : List (ByteArray × Nat)} {t : ByteArray} (h : ¬ (l.any fun p => decide (p.1 = t)) = true) : t ∉ l.map Prod.fst := by
 intro hm
 obtain ⟨p, hp, e⟩ := List.mem_map.1 hm
 exact h (List.any_eq_true.2 ⟨p, hp, by simpa using e⟩)
theorem bd_put {l : List (ByteArray × Nat)} {t : ByteArray} {b : Nat} (hk : (l.map Prod.fst).Nodup) (hb : (l.map Prod.snd).Nodup) (hn : b ∉ l.map Prod.snd) (fc : Nat -> Fl) :
  ((fput l t b).map Prod.fst).Nodup /\ ((fput l t b).map Prod.snd).Nodup /\ tot (fput l t b) fc <= tot l fc + (fc b).b.length := by
 unfold fput
 split
 ·
  exact ⟨by rw [zew]; exact hk, zbr hk hb hn, zh9 fc t b hk⟩
 ·
  rename_i h
  refine ⟨?_, ?_, ?_⟩
  ·
   rw [List.map_append, List.nodup_append]
   exact ⟨hk, by simp, fun a ha c hc e => zfo h (by simp at hc; rw [<- hc, <- e]; exact ha)⟩
  ·
   rw [List.map_append, List.nodup_append]
   exact ⟨hb, by simp, fun a ha c hc e => hn (by simp at hc; rw [<- hc, <- e]; exact ha)⟩
  ·
   rw [z6w]; simp [tot]
theorem Bd.sm {n t : Nat} (h : Bd n t X) (hs : Sm X Y) (hf : Y.fc = X.fc) : Bd n t Y := by
 obtain ⟨h1, h2, h3, h4⟩ := h
 exact ⟨by rw [hs.files]; exact h1, by rw [hs.files, hf]; exact h2, by rw [hs.files]; exact h3, by rw [hs.files]; exact h4⟩
theorem Bd.set {n t j b : Nat} {x : Fl} (h : Bd n t X) (hs : Sm X Y) (hf : Y.fc = setf X.fc b x) (hx : x.b.length <= (X.fc b).b.length + j) : Bd n (t + j) Y := by
 obtain ⟨h1, h2, h3, h4⟩ := h
 exact ⟨by rw [hs.files]; exact h1, by rw [hs.files, hf]; have := zha h4 hx (fc := X.fc); omega, by rw [hs.files]; exact h3, by rw [hs.files]; exact h4⟩
theorem bd_mk {n t : Nat} (h : Bd n t X) (hr : mkO s X e Y) : Bd (n + 1) t Y := by
 rcases z0i hr with ⟨-, h1, h2⟩ | ⟨-, hn, -, b, hb, hd, hf⟩
 ·
  exact (h.sm h1 h2).mono (by omega) (Nat.le_refl _)
 ·
  have hbn : b ∉ X.D.files.map Prod.snd := fun hm => by
   obtain ⟨p, hp, e⟩ := List.mem_map.1 hm
   exact hb b (.inl ⟨p, hp, e⟩) rfl
  have hkn : s ∉ X.D.files.map Prod.fst := fun hm => by
   obtain ⟨c, hc⟩ := z1d hm
   rw [show flook X.D.files s = none from hn] at hc; cases hc
  obtain ⟨h1, h2, h3, h4⟩ := h
  have ht : tot X.D.files Y.fc = tot X.D.files X.fc := zdu fun p hp => by
   rw [hf]
   simp only
   rw [if_neg fun e : p.2 = b => hbn (e ▸ List.mem_map.2 ⟨p, hp, rfl⟩)]
  refine ⟨by rw [hd.files, List.length_append]; simpa using h1, ?_, ?_, ?_⟩
  ·
   rw [hd.files, z6w, ht]
   have : (Y.fc b).b.length = 0 := by rw [hf]; simp
   simp only [tot, List.map_cons, List.map_nil, List.sum_cons, List.sum_nil] at h2 ⊢
   omega
  ·
   rw [hd.files, List.map_append, List.nodup_append]
   exact ⟨h3, by simp, fun a ha c hc e => hkn (by simp at hc; rw [<- hc, <- e]; exact ha)⟩
  ·
   rw [hd.files, List.map_append, List.nodup_append]
   exact ⟨h4, by simp, fun a ha c hc e => hbn (by simp at hc; rw [<- hc, <- e]; exact ha)⟩
theorem bd_ap {n t : Nat} (h : Bd n t X) (hr : apO s bs X e Y) : Bd n (t + bs.length) Y := by
 obtain ⟨h1, ⟨-, h2⟩ | ⟨b, k, -, hk, -, hf⟩⟩ := z0m hr
 ·
  exact (h.sm h1 h2).mono (Nat.le_refl _) (by omega)
 ·
  exact h.set h1 hf (by simp only [List.length_append, List.length_take]; omega)
theorem bd_sy {n t : Nat} (h : Bd n t X) (hr : syO s X e Y) : Bd n t Y := by
 obtain ⟨h1, ⟨-, h2⟩ | ⟨-, b, -, hf⟩⟩ := z0c hr
 ·
  exact h.sm h1 h2
 ·
  exact h.set h1 hf (j := 0) (by simp)
theorem bd_cu {n t : Nat} (h : Bd n t X) (hr : cuO s k X e Y) : Bd n t Y := by
 obtain ⟨h1, ⟨-, h2⟩ | ⟨-, b, -, -, hf⟩⟩ := z2z hr
 ·
  exact h.sm h1 h2
 ·
  exact h.set h1 hf (j := 0) (by simp only [List.length_take]; omega)
theorem bd_rm {n t : Nat} (h : Bd n t X) (hr : rmO s X e Y) : Bd n t Y := by
 obtain ⟨hf, ⟨-, h1, -⟩ | ⟨-, b, -, hd⟩⟩ := z1j hr
 ·
  exact h.sm h1 hf
 ·
  obtain ⟨h1, h2, h3, h4⟩ := h
  have hsub : (fdel X.D.files s).Sublist X.D.files := List.filter_sublist
  exact ⟨by rw [hd.files]; exact Nat.le_trans hsub.length_le h1, by rw [hd.files, hf]; exact Nat.le_trans (zb6 _ _) h2, by rw [hd.files]; exact h3.sublist (hsub.map _), by rw [hd.files]; exact h4.sublist (hsub.map _)⟩
theorem bd_rn {n k : Nat} (h : Bd n k X) (hr : rnO s t X e Y) : Bd n k Y := by
 obtain ⟨hf, ⟨-, h1⟩ | ⟨-, b, hb, hd⟩⟩ := z2b hr
 ·
  exact h.sm h1 hf
 ·
  obtain ⟨h1, h2, h3, h4⟩ := h
  have hb : flook X.D.files s = some b := hb
  have hsub : (fdel X.D.files s).Sublist X.D.files := List.filter_sublist
  have hk := h3.sublist (hsub.map Prod.fst)
  have hbk := h4.sublist (hsub.map Prod.snd)
  have hn : b ∉ (fdel X.D.files s).map Prod.snd := fun hm => by
   obtain ⟨p, hp, e⟩ := List.mem_map.1 hm
   obtain ⟨hp1, hp2⟩ := List.mem_filter.1 hp
   have hps : p.1 ≠ s := by simpa using hp2
   have h5 := zo hb
   have : p = (s, b) := by
    have h6 := h4
    rw [List.Nodup, List.pairwise_map] at h6
    obtain ⟨i, hi, hpi⟩ := List.getElem_of_mem hp1
    obtain ⟨j, hj, hpj⟩ := List.getElem_of_mem h5
    rcases Nat.lt_trichotomy i j with hij | hij | hij
    ·
     exact absurd (by rw [hpi, hpj]; exact e) (List.pairwise_iff_getElem.1 h6 i j hi hj hij)
    ·
     subst hij; rw [<- hpi, hpj]
    ·
     exact absurd (by rw [hpi, hpj]; exact e.symm) (List.pairwise_iff_getElem.1 h6 j i hj hi hij)
   exact hps (by rw [this])
  obtain ⟨g1, g2, g3⟩ := bd_put (t := t) hk hbk hn Y.fc
  have g4 := z9e X.fc s hb
  refine ⟨?_, ?_, by rw [hd.files]; exact g1, by rw [hd.files]; exact g2⟩
  ·
   rw [hd.files]; exact Nat.le_trans (z7f hb t) h1
  ·
   rw [hd.files]; rw [hf] at g3 ⊢; omega
theorem bd_sd {n t : Nat} (h : Bd n t X) (hr : sdO X e Y) : Bd n t Y := by
 obtain ⟨hf, ⟨-, h1⟩ | ⟨-, h1, -⟩⟩ := z0k hr
 ·
  exact h.sm h1 hf
 ·
  obtain ⟨g1, g2, g3, g4⟩ := h
  exact ⟨by rw [h1]; exact g1, by rw [h1, hf]; exact g2, by rw [h1]; exact g3, by rw [h1]; exact g4⟩
theorem cap_mk (hr : mkO s X e Y) : Y.D.cap = X.D.cap := by
 rcases z0i hr with ⟨-, h1, -⟩ | ⟨-, -, -, b, -, hd, -⟩
 ·
  exact h1.cap
 ·
  exact hd.cap
end Go.Log
end
section
namespace Go.Log
open Go.Vfs
variable {nm : ByteArray} {X Y Z : Ds} {e : Int} {s t : ByteArray} {n k m q : Nat} {x : List Nat} {A : ByteArray -> Prop} {g : Sh} {L L' : Lg}
def AllN (A : ByteArray -> Prop) (X : Ds) : Prop := ∀ t b, X.dir t = some b -> A t
structure Qt (n q : Nat) (A : ByteArray -> Prop) (c : Int) (X : Ds) : Prop where
 bd : Bd n q X
 al : AllN A X
 cap : X.D.cap = c
variable {c : Int}
theorem Qt.mono {n' q' : Nat} {A' : ByteArray -> Prop} (h : Qt n q A c X) (h1 : n <= n') (h2 : q <= q') (h3 : ∀ t, A t -> A' t) : Qt n' q' A' c X := ⟨h.bd.mono h1 h2, fun t b hb => h3 t (h.al t b hb), h.cap⟩
theorem Qt.sm (h : AllN A X) (hs : Sm X Y) : AllN A Y := fun t b hb => h t b (by rw [<- hs.dir]; exact hb)
theorem z2m (h : Qt n q A c X) (hA : A s) (hr : mkO s X e Y) : Qt (n + 1) q A c Y := by
 refine ⟨bd_mk h.bd hr, ?_, (cap_mk hr).trans h.cap⟩
 rcases z0i hr with ⟨-, h1, -⟩ | ⟨-, hn, -, b, -, hd, -⟩
 ·
  exact Qt.sm h.al h1
 ·
  intro t b' hb
  have hb : (Dir.put X.dir s b) t = some b' := by rw [show Y.dir = Dir.put X.dir s b by unfold Ds.dir; rw [hd.files, z0e hn]] at hb; exact hb
  unfold Dir.put at hb
  split at hb
  ·
   rename_i e1; rw [e1]; exact hA
  ·
   exact h.al t b' hb
theorem zbo (h : Qt n q A c X) (hr : apO s x X e Y) : Qt n (q + x.length) A c Y := ⟨bd_ap h.bd hr, Qt.sm h.al (z0m hr).1, (z0m hr).1.cap.trans h.cap⟩
theorem z2n (h : Qt n q A c X) (hr : syO s X e Y) : Qt n q A c Y := ⟨bd_sy h.bd hr, Qt.sm h.al (z0c hr).1, (z0c hr).1.cap.trans h.cap⟩
theorem qt_cu (h : Qt n q A c X) (hr : cuO s k X e Y) : Qt n q A c Y := ⟨bd_cu h.bd hr, Qt.sm h.al (z2z hr).1, (z2z hr).1.cap.trans h.cap⟩
theorem al_del (h : AllN A X) (hd : Y.dir = Dir.del X.dir s) : AllN A Y := fun t b hb => by
 rw [hd] at hb
 unfold Dir.del at hb
 split at hb
 ·
  cases hb
 ·
  exact h t b hb
theorem zbp (h : Qt n q A c X) (hr : rmO s X e Y) : Qt n q A c Y := by
 refine ⟨bd_rm h.bd hr, ?_, ?_⟩
 ·
  obtain ⟨-, ⟨-, h1, -⟩ | ⟨-, b, -, hd⟩⟩ := z1j hr
  ·
   exact Qt.sm h.al h1
  ·
   exact al_del h.al (by unfold Ds.dir; rw [hd.files, z0l])
 ·
  obtain ⟨-, ⟨-, h1, -⟩ | ⟨-, b, -, hd⟩⟩ := z1j hr
  ·
   exact h1.cap.trans h.cap
  ·
   exact hd.cap.trans h.cap
theorem z96 (h : Qt n q A c X) (hr : rmnO s X e Y) : Qt n q A c Y := by
 obtain ⟨e1, hr, -⟩ := hr
 exact zbp h hr
theorem zfk (h : Qt n q A c X) (hA : A t) (hr : rnO s t X e Y) : Qt n q A c Y := by
 refine ⟨bd_rn h.bd hr, ?_, ?_⟩
 ·
  obtain ⟨-, ⟨-, h1⟩ | ⟨-, b, -, hd⟩⟩ := z2b hr
  ·
   exact Qt.sm h.al h1
  ·
   intro u b' hb
   have hb : (Dir.put (Dir.del X.dir s) t b) u = some b' := by rw [show Y.dir = Dir.put (Dir.del X.dir s) t b by unfold Ds.dir; rw [hd.files, z2g, z0l]] at hb; exact hb
   unfold Dir.put Dir.del at hb
   split at hb
   ·
    rename_i e1; rw [e1]; exact hA
   ·
    split at hb
    ·
     cases hb
    ·
     exact h.al u b' hb
 ·
  obtain ⟨-, ⟨-, h1⟩ | ⟨-, b, -, hd⟩⟩ := z2b hr
  ·
   exact h1.cap.trans h.cap
  ·
   exact hd.cap.trans h.cap
theorem z6l (h : Qt n q A c X) (hr : sdO X e Y) : Qt n q A c Y := by
 refine ⟨bd_sd h.bd hr, ?_, ?_⟩
 ·
  obtain ⟨-, ⟨-, h1⟩ | ⟨-, h1, -⟩⟩ := z0k hr
  ·
   exact Qt.sm h.al h1
  ·
   exact fun t b hb => h.al t b (by unfold Ds.dir at hb ⊢; rw [<- h1]; exact hb)
 ·
  obtain ⟨-, ⟨-, h1⟩ | ⟨-, -, -, -, h1⟩⟩ := z0k hr
  ·
   exact h1.cap.trans h.cap
  ·
   exact h1.trans h.cap
theorem z4v (h : Qt n q A c X) (hA : A s) (hr : putO s x X e Y) : Qt (n + 1) (q + (8 + x.length)) A c Y := by
 rcases zj hr with ⟨-, h1⟩ | ⟨Z1, h1, hr⟩
 ·
  exact (z2m h hA h1).mono (Nat.le_refl _) (by omega) (fun _ e => e)
 have q1 := z2m h hA h1
 rcases zj hr with ⟨-, h1⟩ | ⟨Z2, h1, hr⟩
 ·
  have := zbo q1 h1; rw [zx] at this; exact this
 have q2 := zbo q1 h1
 rw [zx] at q2
 exact z2n q2 (z04 hr)
theorem z66 (hF : Fau X.D) (h : Qt n q A c X) (hA : A s) (hm : mnB s = true) (h0 : X.dir s = none) (hn : n < 64) (hq : ((q + (8 + x.length) : Nat) : Int) <= c) (hr : putO s x X e Y) : FR X e Y := by
 have hl : X.D.files.length < 64 := by have := h.bd.nf; omega
 rcases zj hr with ⟨-, h1⟩ | ⟨Z1, h1, hr⟩
 ·
  exact z42 hF hm h0 hl h1
 have f1 := z42 hF hm h0 hl h1
 have q1 := z2m h hA h1
 rcases z0i h1 with ⟨h2, -⟩ | ⟨-, -, -, b, -, hd, -⟩
 ·
  exact absurd rfl h2
 have d1 : Z1.dir s = some b := by
  have : Z1.dir = Dir.put X.dir s b := by unfold Ds.dir; rw [hd.files, z0e h0]
  rw [this]; exact if_pos rfl
 have hroom : ((recd x).length : Int) <= Z1.D.cap - (tot Z1.D.files Z1.fc : Nat) := by
  rw [zx, q1.cap]; have := q1.bd.nt; omega
 clear h1 hd
 rcases zj hr with ⟨-, h1⟩ | ⟨Z2, h1, hr⟩
 ·
  exact f1.trans (zbd f1.fau hm d1 hroom h1)
 have f2 := f1.trans (zbd f1.fau hm d1 hroom h1)
 have d2 : Z2.dir s = some b := by rw [(z0m h1).1.dir]; exact d1
 exact f2.trans (z3c f2.fau hm d2 (z04 hr))
theorem z6k (h : Qt n q A c X) (hA1 : A (newf nm)) (hA2 : A (manf nm)) (hr : manO nm m k X e Y) : Qt (n + 1) (q + 24) A c Y := by
 rcases zj hr with ⟨-, h1⟩ | ⟨Z1, h1, hr⟩
 ·
  exact (z96 h h1).mono (by omega) (by omega) (fun _ e => e)
 have q1 := z96 h h1
 rcases zj hr with ⟨-, h1⟩ | ⟨Z2, h1, hr⟩
 ·
  have := z4v q1 hA1 h1; rw [z1w] at this; exact this
 have q2 := z4v q1 hA1 h1
 rw [z1w] at q2
 rcases zj hr with ⟨-, h1⟩ | ⟨Z3, h1, hr⟩
 ·
  exact z6l q2 h1
 have q3 := z6l q2 h1
 rcases zj hr with ⟨-, h1⟩ | ⟨Z4, h1, hr⟩
 ·
  exact zfk q3 hA2 h1
 exact z6l (zfk q3 hA2 h1) (z04 hr)
theorem z7c (hr : putO s x X 0 Y) : X.dir s = none /\ ∃ b, Y.dir = Dir.put X.dir s b /\ (∀ t c, X.dir t = some c -> c ≠ b) /\ Y.fc b = ⟨recd x, (recd x).length⟩ /\ (∀ c, c ≠ b -> Y.fc c = X.fc c) := by
 rcases zj hr with ⟨h0, -⟩ | ⟨Z1, h1, hr⟩
 ·
  exact absurd rfl h0
 rcases z0i h1 with ⟨h2, -⟩ | ⟨-, hn, -, b, hb, hd, hf⟩
 ·
  exact absurd rfl h2
 have d1 : Z1.dir = Dir.put X.dir s b := by unfold Ds.dir; rw [hd.files, z0e hn]
 have d1s : Z1.dir s = some b := by rw [d1]; exact if_pos rfl
 rcases zj hr with ⟨h0, -⟩ | ⟨Z2, h2, hr⟩
 ·
  exact absurd rfl h0
 obtain ⟨s2, ⟨h3, -⟩ | ⟨b', k, h3, -, hk, h4⟩⟩ := z0m h2
 ·
  exact absurd rfl h3
 obtain rfl : b' = b := Option.some.inj (h3.symm.trans d1s)
 have d2s : Z2.dir s = some b' := by rw [s2.dir]; exact d1s
 obtain ⟨s3, ⟨h5, -⟩ | ⟨-, b, h5, h6⟩⟩ := z0c (z04 hr)
 ·
  exact absurd rfl h5
 obtain rfl : b = b' := Option.some.inj (h5.symm.trans d2s)
 refine ⟨hn, b, s3.dir.trans (s2.dir.trans d1), fun t c ht => hb c (.inl ⟨_, zo ht, rfl⟩), ?_, fun c hc => ?_⟩
 ·
  rw [h6, z0g, h4, z0g, hf, hk rfl, List.take_length]; simp
 ·
  rw [h6, z0h _ _ hc, h4, z0h _ _ hc, hf]; exact if_neg hc
theorem z8r (hF : Fau X.D) (h6 : X.D.fe ≠ 6) (h : Qt n q A c X) (hA1 : A (newf nm)) (hm1 : mnB (newf nm) = true) (hm2 : mnB (manf nm) = true) (hn : n < 64) (hq : ((q + 24 : Nat) : Int) <= c) (hr : manO nm m k X e Y) : FR X e Y := by
 rcases zj hr with ⟨-, h1⟩ | ⟨Z1, h1, hr⟩
 ·
  exact (zcp hF h6 hm1 h1).1
 obtain ⟨f1, d1⟩ := zcp hF h6 hm1 h1
 have q1 := z96 h h1
 rcases zj hr with ⟨-, h1⟩ | ⟨Z2, h1, hr⟩
 ·
  exact f1.trans (z66 f1.fau q1 hA1 hm1 (d1 rfl) hn (by rw [z1w]; exact hq) h1)
 have f2 := f1.trans (z66 f1.fau q1 hA1 hm1 (d1 rfl) hn (by rw [z1w]; exact hq) h1)
 obtain ⟨-, b, d2, -⟩ := z7c h1
 rcases zj hr with ⟨-, h1⟩ | ⟨Z3, h1, hr⟩
 ·
  exact f2.trans (z68 f2.fau h1)
 have f3 := f2.trans (z68 f2.fau h1)
 have d3 : Z3.dir (newf nm) = some b := by
  obtain ⟨-, ⟨g, -⟩ | ⟨-, g, -⟩⟩ := z0k h1
  ·
   exact absurd rfl g
  ·
   have : Z3.dir = Z2.dir := by unfold Ds.dir; rw [g]
   rw [this, d2]; exact if_pos rfl
 rcases zj hr with ⟨-, h1⟩ | ⟨Z4, h1, hr⟩
 ·
  exact f3.trans (zfh f3.fau hm1 hm2 d3 h1)
 have f4 := f3.trans (zfh f3.fau hm1 hm2 d3 h1)
 exact f4.trans (z68 f4.fau (z04 hr))
theorem man_ok (hw : Wf X) (hr : manO nm m k X 0 Y) : Wf Y /\ ∃ b, (∀ t c, t ≠ newf nm -> X.dir t = some c -> c ≠ b) /\ Y.dir = manD nm X.dir b /\ Y.fc b = ⟨recd (mrec m k), (recd (mrec m k)).length⟩ /\ (∀ c, c ≠ b -> Y.fc c = X.fc c) /\ (∀ f, Rch Y f -> f = Y.dir) /\ Y.D.steps = [] /\ Y.D.lasting = Y.D.files := by
 rcases zj hr with ⟨h0, -⟩ | ⟨Z1, h1, hr⟩
 ·
  exact absurd rfl h0
 obtain ⟨f1, d1⟩ := z4x h1
 have d1 := zat d1
 rcases zj hr with ⟨h0, -⟩ | ⟨Z2, h2, hr⟩
 ·
  exact absurd rfl h0
 obtain ⟨hn, b, d2, hb, f2, f2'⟩ := z7c h2
 rcases zj hr with ⟨h0, -⟩ | ⟨Z3, h3, hr⟩
 ·
  exact absurd rfl h0
 obtain ⟨f3, ⟨h0, -⟩ | ⟨-, g1, g2, g3, -⟩⟩ := z0k h3
 ·
  exact absurd rfl h0
 rcases zj hr with ⟨h0, -⟩ | ⟨Z4, h4, hr⟩
 ·
  exact absurd rfl h0
 obtain ⟨f4, ⟨h0, -⟩ | ⟨-, b', hb4, hd⟩⟩ := z2b h4
 ·
  exact absurd rfl h0
 have h5 := z04 hr
 obtain ⟨f5, ⟨h0, -⟩ | ⟨-, k1, k2, k3, -⟩⟩ := z0k h5
 ·
  exact absurd rfl h0
 have d1' : ∀ t, t ≠ newf nm -> Z1.dir t = X.dir t := fun t ht => by
  rcases d1 with d1 | d1
  ·
   rw [d1]
  ·
   rw [d1]; exact if_neg ht
 have d3 : Z3.dir = Dir.put Z1.dir (newf nm) b := by rw [<- d2]; unfold Ds.dir; rw [g1]
 have eb : b' = b := Option.some.inj (hb4.symm.trans (by rw [d3]; exact if_pos rfl))
 subst eb
 have d5 : Y.dir = manD nm X.dir b' := by
  have h6 : Y.dir = Dir.put (Dir.del Z3.dir (newf nm)) (manf nm) b' := by unfold Ds.dir; rw [k1, hd.files, z2g, z0l]
  rw [h6, d3]
  funext t
  show (if t = manf nm then some b' else if t = newf nm then none else if t = newf nm then some b' else Z1.dir t) = if t = manf nm then some b' else if t = newf nm then none else X.dir t
  by_cases e1 : t = manf nm
  ·
   rw [if_pos e1, if_pos e1]
  ·
   rw [if_neg e1, if_neg e1]
   by_cases e2 : t = newf nm
   ·
    rw [if_pos e2, if_pos e2]
   ·
    rw [if_neg e2, if_neg e2, if_neg e2, d1' t e2]
 refine ⟨(by unfold Wf; rw [k3]; intro s hs; cases hs), b', fun t c ht hc => hb t c (by rw [d1' t ht]; exact hc), d5, by rw [f5, f4, f3]; exact f2, fun c hc => by rw [f5, f4, f3, f2' c hc, f1], fun f hf => ?_, k3, by rw [k2, k1]⟩
 rw [z3u h5 hf]; unfold Ds.dir; rw [k1]
end Go.Log
end
section
namespace Go.Log
open Go.Vfs
variable {nm : ByteArray} {X Y Z : Ds} {e : Int} {s t : ByteArray} {n k m q : Nat} {x : List Nat} {A : ByteArray -> Prop} {g : Sh} {L L' : Lg} {c : Int} {P : Sh -> Prop}
theorem qt_app (h : Qt n q A c X) (hA : nx L.name X < mxn -> A (sgf L.name (nx L.name X + 1))) (hr : appR L x X e L' Y) : Qt (n + 1) (q + (8 + x.length)) A c Y := by
 rcases hr with ⟨-, -, -, rfl⟩ | ⟨-, e1, Z, h1, h2⟩
 ·
  exact h.mono (by omega) (by omega) (fun _ e => e)
 have q1 := zbo h h1
 rw [zx] at q1
 rcases h2 with ⟨-, -, -, rfl⟩ | ⟨-, -, -, -, rfl⟩ | ⟨-, -, h2, -⟩
 ·
  exact q1.mono (by omega) (Nat.le_refl _) (fun _ e => e)
 ·
  exact q1.mono (by omega) (Nat.le_refl _) (fun _ e => e)
 rcases zj h2 with ⟨-, h3⟩ | ⟨Z1, h3, h2⟩
 ·
  exact (z2n q1 h3).mono (by omega) (Nat.le_refl _) (fun _ e => e)
 have q2 := z2n q1 h3
 rcases zj h2 with ⟨-, -, h4⟩ | ⟨Z2, ⟨h4, h4'⟩, h2'⟩
 ·
  subst h4; exact q2.mono (by omega) (Nat.le_refl _) (fun _ e => e)
 clear h2
 subst h4'
 have nz : nx L.name Z = nx L.name X := z5d (z0m h1).1
 have hlt : nx L.name X < mxn := by
  rw [<- nz]
  have h4 : (0 : Int) = nxE L.name Z := h4
  unfold nxE at h4
  split at h4
  ·
   cases h4
  ·
   omega
 have ha := hA hlt
 rw [<- nz] at ha
 rcases zj h2' with ⟨-, h5⟩ | ⟨Z3, h5, h2⟩
 ·
  exact z2m q2 ha h5
 ·
  exact z6l (z2m q2 ha h5) (z04 h2)
theorem qt_syn (h : Qt n q A c X) (hr : synR L X e L' Y) : Qt n q A c Y := by
 rcases hr with ⟨-, -, -, rfl⟩ | ⟨-, h1, -⟩
 ·
  exact h
 ·
  exact z2n h h1
theorem zes (h : Qt n q A c X) {l : List ByteArray} (hr : askO (l.map rmO) X e Y) : Qt n q A c Y := by
 induction l generalizing X with
 | nil => obtain ⟨-, rfl⟩ := hr; exact h
 | cons t l ih =>
  rcases zj (o := rmO t) (l := l.map rmO) hr with ⟨-, h1⟩ | ⟨Z, h1, h2⟩
  ·
   exact zbp h h1
  ·
   exact ih (zbp h h1) h2
structure TN (nm : ByteArray) (A : ByteArray -> Prop) (k : Nat) : Prop where
 new : A (newf nm)
 man : A (manf nm)
 snap : A (snf nm (k + 1))
 seg : A (sgf nm (k + 2))
theorem zgp (h : Qt n q A c X) (hA : nx L.name X + 1 < mxn -> TN L.name A (nx L.name X)) (hr : turnR L x X e L' Y) : Qt (n + 3) (q + (8 + x.length) + 24) A c Y := by
 rcases hr with ⟨-, -, -, rfl⟩ | ⟨-, h1, -⟩
 ·
  exact h.mono (by omega) (by omega) (fun _ e => e)
 rcases zj h1 with ⟨-, h2⟩ | ⟨Z1, h2, h1⟩
 ·
  exact (z2n h h2).mono (by omega) (by omega) (fun _ e => e)
 have q1 := z2n h h2
 rcases zj h1 with ⟨-, -, h3⟩ | ⟨Z2, ⟨h3, h3'⟩, h1'⟩
 ·
  subst h3; exact q1.mono (by omega) (by omega) (fun _ e => e)
 clear h1
 subst h3'
 have ha := hA (by
  have h3 : (0 : Int) = turnE L.name X := h3
  unfold turnE at h3
  split at h3
  ·
   cases h3
  ·
   omega)
 rcases zj h1' with ⟨-, h4⟩ | ⟨Z3, h4, h1⟩
 ·
  exact (z4v q1 ha.snap h4).mono (by omega) (by omega) (fun _ e => e)
 have q3 := z4v q1 ha.snap h4
 rcases zj h1 with ⟨-, h5⟩ | ⟨Z4, h5, h1⟩
 ·
  exact (z2m q3 ha.seg h5).mono (by omega) (by omega) (fun _ e => e)
 have q4 := z2m q3 ha.seg h5
 rcases zj h1 with ⟨-, h6⟩ | ⟨Z5, h6, h1⟩
 ·
  exact z6k q4 ha.new ha.man h6
 have q5 := z6k q4 ha.new ha.man h6
 obtain ⟨ns, -, hw⟩ := z04 h1
 exact zes q5 hw
theorem zfg {f : Int} (hF : Fau X.D) (hf : f = 0) (hr : erO f X e Y) : FR X e Y := by
 obtain ⟨rfl, rfl⟩ := hr
 subst hf
 exact FR.refl hF
theorem fr_app (hn : mnB nm = true) (h16 : nm.size <= 16) (h : LI nm L X g) (hx : Recs [x]) (hF : Fau X.D) (hq : Qt n q A c X) (hn64 : n < 64) (hc : ((q + (8 + x.length) : Nat) : Int) <= c) (hnx : nx nm X < mxn) (hr : appR L x X e L' Y) : FR X e Y := by
 have hxl : x.length <= mxr := (hx x (by simp)).1
 rcases hr with ⟨h0, -⟩ | ⟨-, e1, Z, h1, h2⟩
 ·
  exact absurd (h.may hxl) h0
 have hmm := h.shape.m1
 have hmg : mnB (sgf nm g.m) = true := z0p hn h16 hmm.2
 rw [h.atseg] at h1
 have f1 := zbd hF hmg h.shape.lastAt (by rw [zx, hq.cap]; have := hq.bd.nt; omega) h1
 rcases h2 with ⟨h0, rfl, -, rfl⟩ | ⟨rfl, -, rfl, -, rfl⟩ | ⟨rfl, -, h2, -⟩
 ·
  exact f1
 ·
  exact f1
 have s1 := (z0m h1).1
 have d1 : Z.dir (sgf nm g.m) = some g.b := by rw [s1.dir]; exact h.shape.lastAt
 have e1 : Lg.seg { L with recs := L.recs ++ [x], size := L.size + (8 + x.length) } = sgf nm g.m := h.atseg
 have e2 : ({ L with recs := L.recs ++ [x], size := L.size + (8 + x.length) } : Lg).name = nm := h.name
 rw [e1, e2] at h2
 rcases zj h2 with ⟨-, h3⟩ | ⟨Z1, h3, h2⟩
 ·
  exact f1.trans (z3c f1.fau hmg d1 h3)
 have f2 := f1.trans (z3c f1.fau hmg d1 h3)
 have s2 := (z0c h3).1
 have n1 : nx nm Z = nx nm X := z5d s1
 have n2 : nx nm Z1 = nx nm X := (z5d s2).trans n1
 have hE : nxE nm Z = 0 := by unfold nxE; rw [if_neg (by omega)]
 rcases zj h2 with ⟨-, h4⟩ | ⟨Z2, h4, h2'⟩
 ·
  exact f2.trans (zfg f2.fau hE h4)
 clear h2
 obtain ⟨-, rfl⟩ := h4
 have hno := z48 (nm := nm) (X := Z2) (k := nx nm Z + 1) (by omega) (by omega)
 have hlen : Z2.D.files.length < 64 := by rw [s2.files, s1.files]; have := hq.bd.nf; omega
 have hmk : mnB (sgf nm (nx nm Z + 1)) = true := z0p hn h16 (by omega)
 rcases zj h2' with ⟨-, h5⟩ | ⟨Z3, h5, h2⟩
 ·
  exact f2.trans (z42 f2.fau hmk hno.1 hlen h5)
 have f3 := f2.trans (z42 f2.fau hmk hno.1 hlen h5)
 exact f3.trans (z68 f3.fau (z04 h2))
theorem fr_syn (hn : mnB nm = true) (h16 : nm.size <= 16) (h : LI nm L X g) (hF : Fau X.D) (hr : synR L X e L' Y) : FR X e Y := by
 rcases hr with ⟨h0, -⟩ | ⟨-, h1, -⟩
 ·
  exact absurd (h.may (Nat.zero_le _)) h0
 ·
  rw [h.atseg] at h1
  exact z3c hF (z0p hn h16 h.shape.m1.2) h.shape.lastAt h1
theorem zec (hm : ∀ t b, X.dir t = some b -> mnB t = true) (hF : Fau X.D) {l : List ByteArray} (hl : ∀ t ∈ l, ∃ b, X.dir t = some b) (hnd : l.Nodup) (hr : askO (l.map rmO) X e Y) : FR X e Y := by
 induction l generalizing X with
 | nil => obtain ⟨rfl, rfl⟩ := hr; exact FR.refl hF
 | cons t l ih =>
  obtain ⟨b, hb⟩ := hl t (by simp)
  rw [List.nodup_cons] at hnd
  rcases zj (o := rmO t) (l := l.map rmO) hr with ⟨-, h1⟩ | ⟨Z, h1, h2⟩
  ·
   exact zbe hF (hm t b hb) hb h1
  ·
   have f1 := zbe hF (hm t b hb) hb h1
   obtain ⟨-, ⟨g, -⟩ | ⟨-, b', -, hd⟩⟩ := z1j h1
   ·
    exact absurd rfl g
   have dz : Z.dir = Dir.del X.dir t := by unfold Ds.dir; rw [hd.files, z0l]
   refine f1.trans (ih (fun u c hc => ?_) f1.fau (fun u hu => ?_) hnd.2 h2)
   ·
    rw [dz] at hc
    unfold Dir.del at hc
    split at hc
    ·
     cases hc
    ·
     exact hm u c hc
   ·
    obtain ⟨c, hc⟩ := hl u (by simp [hu])
    exact ⟨c, by rw [dz]; exact (if_neg fun e : u = t => hnd.1 (e ▸ hu)).trans hc⟩
theorem zg4 (hn : mnB nm = true) (h16 : nm.size <= 16) (h : LI nm L X g) (hx : Recs [x]) (hF : Fau X.D) (h6 : X.D.fe ≠ 6) (hmn : ∀ t, A t -> mnB t = true) (hA : TN nm A (nx nm X)) (hq : Qt n q A c X) (hn64 : n + 2 < 64) (hc : ((q + (8 + x.length) + 24 : Nat) : Int) <= c) (hnx : nx nm X + 1 < mxn) (hr : turnR L x X e L' Y) : FR X e Y := by
 have hxl : x.length <= mxr := (hx x (by simp)).1
 rcases hr with ⟨h0, -⟩ | ⟨-, h1, -⟩
 ·
  exact absurd (h.may hxl) h0
 rw [h.atseg] at h1
 obtain rfl : nm = L.name := h.name.symm
 have f6 : ∀ {Z}, FR X 0 Z -> Z.D.fe ≠ 6 := fun h => h.fe.elim (fun e => e ▸ h6) (fun e => by rw [e]; decide)
 rcases zj h1 with ⟨-, h2⟩ | ⟨Z1, h2, h1⟩
 ·
  exact z3c hF (z0p hn h16 h.shape.m1.2) h.shape.lastAt h2
 have f1 := z3c hF (z0p hn h16 h.shape.m1.2) h.shape.lastAt h2
 have q1 := z2n hq h2
 have n1 : nx L.name Z1 = nx L.name X := z5d (z0c h2).1
 have hE : turnE L.name X = 0 := by unfold turnE; rw [if_neg (by omega)]
 rcases zj h1 with ⟨-, h3⟩ | ⟨Z2, h3, h1'⟩
 ·
  exact f1.trans (zfg f1.fau hE h3)
 clear h1
 obtain ⟨-, rfl⟩ := h3
 have hms : mnB (snf L.name (nx L.name X + 1)) = true := z5c hn h16 (by omega)
 have hno := z48 (nm := L.name) (X := Z2) (k := nx L.name X + 1) (by omega) (by omega)
 rcases zj h1' with ⟨-, h4⟩ | ⟨Z3, h4, h1⟩
 ·
  exact f1.trans (z66 f1.fau q1 hA.snap hms hno.2 (by omega) (by omega) h4)
 have f3 := f1.trans (z66 f1.fau q1 hA.snap hms hno.2 (by omega) (by omega) h4)
 have q3 := z4v q1 hA.snap h4
 obtain ⟨-, b1, d3, -⟩ := z7c h4
 have hno3 : Z3.dir (sgf L.name (nx L.name X + 2)) = none := by
  rw [d3]
  show (if _ = _ then _ else Z2.dir _) = _
  rw [if_neg (z2t L.name (by omega) (by omega))]
  exact (z48 (nm := L.name) (by omega) (by omega)).1
 have hmg : mnB (sgf L.name (nx L.name X + 2)) = true := z0p hn h16 (by omega)
 have hl3 : Z3.D.files.length < 64 := by have := q3.bd.nf; omega
 rcases zj h1 with ⟨-, h5⟩ | ⟨Z4, h5, h1⟩
 ·
  exact f3.trans (z42 f3.fau hmg hno3 hl3 h5)
 have f4 := f3.trans (z42 f3.fau hmg hno3 hl3 h5)
 have q4 := z2m q3 hA.seg h5
 rcases zj h1 with ⟨-, h6'⟩ | ⟨Z5, h6', h1⟩
 ·
  exact f4.trans (z8r f4.fau (f6 f4) q4 hA.new (z5b hn h16) (z2v hn h16) (by omega) (by omega) h6')
 have f5 := f4.trans (z8r f4.fau (f6 f4) q4 hA.new (z5b hn h16) (z2v hn h16) (by omega) (by omega) h6')
 have q5 := z6k q4 hA.new hA.man h6'
 obtain ⟨ns, hp, hw⟩ := z04 h1
 refine f5.trans (zec (fun t b hb => hmn t (q5.al t b hb)) f5.fau (fun t ht => ?_) ?_ hw)
 ·
  have h7 := hp.mem_iff.1 (List.mem_filter.1 ht).1
  exact z1d h7
 ·
  exact (hp.nodup_iff.2 q5.bd.key).sublist List.filter_sublist
theorem zg3 (hn : mnB nm = true) (h16 : nm.size <= 16) (hF : Fau X.D) {b en m k : Nat} (hmm : m <= mxn) (hd : X.dir (sgf nm m) = some b) (hl : (X.fc b).b.length = k) (hen : en <= k) (hr : askO [if k = en then nop else cuO (sgf nm m) en, syO (sgf nm m), sdO] X e Y) : FR X e Y := by
 have hmg : mnB (sgf nm m) = true := z0p hn h16 hmm
 have cutF : ∀ {e Z}, (if k = en then nop else cuO (sgf nm m) en) X e Z -> FR X e Z /\ Sm X Z := fun {e Z} hc => by
  by_cases he : k = en
  ·
   rw [if_pos he] at hc
   obtain ⟨rfl, rfl⟩ := hc
   exact ⟨FR.refl hF, Sm.refl _⟩
  ·
   rw [if_neg he] at hc
   exact ⟨fr_cu hF hmg hd (by omega) hc, (z2z hc).1⟩
 rcases zj hr with ⟨-, h1⟩ | ⟨Z1, h1, hr⟩
 ·
  exact (cutF h1).1
 obtain ⟨f1, s1⟩ := cutF h1
 have d1 : Z1.dir (sgf nm m) = some b := by rw [s1.dir]; exact hd
 rcases zj hr with ⟨-, h2⟩ | ⟨Z2, h2, hr⟩
 ·
  exact f1.trans (z3c f1.fau hmg d1 h2)
 have f2 := f1.trans (z3c f1.fau hmg d1 h2)
 exact f2.trans (z68 f2.fau (z04 hr))
theorem zgo {en m k : Nat} (h : Qt n q A c X) (hr : askO [if k = en then nop else cuO (sgf nm m) en, syO (sgf nm m), sdO] X e Y) : Qt n q A c Y := by
 have cutF : ∀ {e Z}, (if k = en then nop else cuO (sgf nm m) en) X e Z -> Qt n q A c Z := fun {e Z} hc => by
  by_cases he : k = en
  ·
   rw [if_pos he] at hc
   obtain ⟨rfl, rfl⟩ := hc
   exact h
  ·
   rw [if_neg he] at hc
   exact qt_cu h hc
 rcases zj hr with ⟨-, h1⟩ | ⟨Z1, h1, hr⟩
 ·
  exact cutF h1
 have q1 := cutF h1
 rcases zj hr with ⟨-, h2⟩ | ⟨Z2, h2, hr⟩
 ·
  exact z2n q1 h2
 exact z6l (z2n q1 h2) (z04 hr)
theorem zbl {most : Nat} (hn : mnB nm = true) (h16 : nm.size <= 16) (hw : Wf X) (hF : Fau X.D) (hfe : X.D.fe = 0) (hq : Qt n q A c X) (hn64 : n + 1 < 64) (hc : ((q + 24 : Nat) : Int) <= c) (h0 : X.dir (manf nm) = none) (hnx : nx nm X = 0) (hA1 : A (sgf nm 1)) (hA2 : A (newf nm)) (hA3 : A (manf nm)) (hr : openR nm most X e L Y) :
  e = 0 /\ Fau Y.D /\ Y.D.fe = 0 /\ Qt (n + 2) (q + 24) A c Y /\ Y.D.steps = [] /\ Y.D.lasting = Y.D.files /\ L = { lg0 nm most with first := 1, segment := 1, segments := 1 } /\ ∃ g, LI nm L Y g /\ g.sn = none /\ (∀ t, t = manf nm \/ t = sgf nm 1 \/ (t ≠ newf nm /\ ∃ b, X.dir t = some b) ↔ ∃ b, Y.dir t = some b) := by
 rcases hr with ⟨-, hr, hL⟩ | ⟨b, h1, -⟩ | ⟨b, _, _, _, h1, -⟩
 ·
  rw [hnx] at hr hL
  have hE : nxE nm X = 0 := by unfold nxE; rw [hnx]; rfl
  have hmg : mnB (sgf nm 1) = true := z0p hn h16 (by decide)
  have hno := z48 (nm := nm) (X := X) (k := 1) (by omega) (by decide)
  have hl : X.D.files.length < 64 := by have := hq.bd.nf; omega
  rcases zj hr with ⟨g, h1⟩ | ⟨Z1, h1, hr'⟩
  ·
   obtain ⟨g1, -⟩ := h1; exact absurd (g1.trans hE) g
  clear hr
  obtain ⟨-, rfl⟩ := h1
  have mkF : ∀ {e Z}, mkO (sgf nm 1) Z1 e Z -> FR Z1 e Z := fun h => z42 hF hmg hno.1 hl h
  rcases zj hr' with ⟨g, h2⟩ | ⟨Z2, h2, hr⟩
  ·
   exact absurd ((mkF h2).calm hfe).1 g
  have f2 := mkF h2
  have q2 := z2m hq hA1 h2
  rcases z0i h2 with ⟨h3, -⟩ | ⟨-, -, -, b, hb, hd, hf⟩
  ·
   exact absurd rfl h3
  have h3 := z04 hr
  have f3 := f2.trans (z8r f2.fau (by rw [(f2.calm hfe).2]; decide) q2 hA2 (z5b hn h16) (z2v hn h16) (by omega) (by omega) h3)
  have q3 := z6k q2 hA2 hA3 h3
  obtain ⟨rfl, hfe3⟩ := f3.calm hfe
  have w2 : Wf Z2 := hd.wf hw fun _ => ⟨b, rfl⟩
  obtain ⟨w3, b3, hb3, d3, c3, c3', r3, s3, l3⟩ := man_ok w2 h3
  have d2 : Z2.dir = Dir.put Z1.dir (sgf nm 1) b := by unfold Ds.dir; rw [hd.files, z0e hno.1]
  have hsm := z2r nm (n := 1) (by omega) (by decide)
  have hsn := z2s nm (n := 1) (by omega) (by decide)
  have d2s : Z2.dir (sgf nm 1) = some b := by rw [d2]; exact if_pos rfl
  have ebb : b ≠ b3 := hb3 _ _ hsn d2s
  have cb : Y.fc b = ⟨[], 0⟩ := by rw [c3' b ebb, hf]; exact if_pos rfl
  have at' : ∀ t, t ≠ manf nm -> t ≠ newf nm -> Y.dir t = Z2.dir t := fun t h7 h8 => by rw [d3]; unfold manD; rw [if_neg h7, if_neg h8]
  refine ⟨rfl, f3.fau, hfe3, q3.mono (by omega) (Nat.le_refl _) (fun _ e => e), s3, l3, hL, ⟨0, 1, none, b3, 0, [], 1, b, [], 0, 0⟩, ?_, rfl, fun t => ?_⟩
  ·
   have sh : Shape nm Y.dir Y.fc ⟨0, 1, none, b3, 0, [], 1, b, [], 0, 0⟩ := by
    refine { f1 := Nat.le_refl _, s1 := Nat.zero_le _, man := by rw [d3]; exact if_pos rfl, manc := c3, snap := .inl ⟨rfl, rfl⟩, asc := List.pairwise_singleton _ _, rng := ?_, segs := ?_, clc := (fun c hc => by cases hc), lastb := ?_, lastq := Nat.zero_le _, lastl := ?_, lastd := Nat.zero_le _, lastr := (fun x hx => by cases hx), apart := ⟨ebb, fun h => by have h : 1 <= 0 := h; omega, fun c hc => by cases hc⟩ }
    ·
     intro p hp
     rw [List.mem_singleton.1 (show p ∈ [(1, b)] from hp)]; exact ⟨Nat.le_refl _, show 1 <= mxn by decide⟩
    ·
     intro k k1 k2
     have k1' : 1 <= k := k1
     show Y.dir (sgf nm k) = ([(1, b)].find? fun p => decide (p.1 = k)).map Prod.snd
     rw [at' _ (z2r nm k1' k2) (z2s nm k1' k2), d2]
     show (if sgf nm k = sgf nm 1 then some b else Z1.dir (sgf nm k)) = _
     by_cases ek : k = 1
     ·
      subst ek; rw [if_pos rfl]; simp
     ·
      rw [if_neg (fun e => ek (z7g nm k1' k2 (by omega) (by decide) e)), (z48 (nm := nm) (X := Z1) (k := k) (by omega) k2).1, z7p]
      intro p hp; rw [List.mem_singleton.1 hp]; exact fun e => ek e.symm
    ·
     show (Y.fc b).b = _
     rw [cb]; rfl
    ·
     show _ <= (Y.fc b).lasts /\ (Y.fc b).lasts <= _
     rw [cb]; exact ⟨Nat.le_refl _, Nat.le_refl _⟩
   subst hL
   exact { inn := ⟨w3, fun f hf => ⟨_, rfl, by rw [r3 f hf]; exact sh⟩⟩, full := rfl, name := rfl, nob := rfl, first := rfl, seg := rfl, segs := rfl, size := rfl, recs := rfl, syn := Nat.le_refl _, snap := .inl ⟨rfl, rfl, rfl⟩ }
  ·
   rw [d3, d2]
   unfold manD Dir.put
   by_cases e1 : t = manf nm
   ·
    simp [e1]
   ·
    rw [if_neg e1]
    by_cases e2 : t = newf nm
    ·
     rw [if_pos e2]
     constructor
     ·
      rintro (h | h | h)
      ·
       exact absurd h e1
      ·
       exact absurd (h.symm.trans e2) hsn
      ·
       exact absurd e2 h.1
     ·
      rintro ⟨_, h⟩; cases h
    ·
     rw [if_neg e2]
     by_cases e3 : t = sgf nm 1
     ·
      rw [if_pos e3]; exact ⟨fun _ => ⟨b, rfl⟩, fun _ => .inr (.inl e3)⟩
     ·
      rw [if_neg e3]
      exact ⟨fun h => h.elim (fun h => absurd h e1) fun h => h.elim (fun h => absurd h e3) fun h => h.2, fun h => .inr (.inr ⟨e2, h⟩)⟩
 ·
  rw [show flook X.D.files (manf nm) = none from h0] at h1; cases h1
 ·
  rw [show flook X.D.files (manf nm) = none from h0] at h1; cases h1
end Go.Log
end
section
namespace Go.Log
open Go.Vfs
variable {nm : ByteArray} {X Y Z : Ds} {e : Int} {s t : ByteArray} {n k m q K : Nat} {x : List Nat} {g : Sh} {L L' : Lg} {c : Int} {P : Sh -> Prop}
def AN (nm : ByteArray) (K : Nat) (t : ByteArray) : Prop := mnB t = true /\ sgn nm t <= K /\ snn nm t <= K
theorem AN.mono {K K' : Nat} (h : K <= K') : AN nm K t -> AN nm K' t := fun ⟨a, b, c⟩ => ⟨a, by omega, by omega⟩
theorem nxL_le {l : List ByteArray} (h : ∀ s ∈ l, sgn nm s <= K /\ snn nm s <= K) : nxL nm l <= K := by
 induction l with
 | nil => exact Nat.zero_le _
 | cons a l ih =>
  show max (max (sgn nm a) (snn nm a)) (nxL nm l) <= K
  have h1 := h a (by simp)
  have h2 := ih fun s hs => h s (by simp [hs])
  omega
theorem zbj (h : AllN (AN nm K) X) : nx nm X <= K := nxL_le fun s hs => by
 obtain ⟨b, hb⟩ := z1d hs
 exact ⟨(h s b hb).2.1, (h s b hb).2.2⟩
variable (hn : mnB nm = true) (h16 : nm.size <= 16)
include hn h16
theorem z8g {k : Nat} (h1 : 1 <= k) (h2 : k <= mxn) (hK : k <= K) : AN nm K (sgf nm k) := ⟨z0p hn h16 h2, by rw [z1o nm h1 h2]; exact hK, by rw [zh5]; exact Nat.zero_le _⟩
theorem zfn {k : Nat} (h1 : 1 <= k) (h2 : k <= mxn) (hK : k <= K) : AN nm K (snf nm k) := ⟨z5c hn h16 h2, by rw [zax]; exact Nat.zero_le _, by rw [z2x nm h1 h2]; exact hK⟩
theorem zc9 : AN nm K (newf nm) := ⟨z5b hn h16, by rw [zaw]; exact Nat.zero_le _, by rw [zaz]; exact Nat.zero_le _⟩
theorem zc8 : AN nm K (manf nm) := ⟨z2v hn h16, by rw [zav]; exact Nat.zero_le _, by rw [zay]; exact Nat.zero_le _⟩
omit hn h16
structure GS (nm : ByteArray) (L : Lg) (X : Ds) (g : Sh) (n q K : Nat) (c : Int) : Prop where
 li : LI nm L X g
 fau : Fau X.D
 fe : X.D.fe ≠ 6
 qt : Qt n q (AN nm K) c X
structure GB (nm : ByteArray) (X : Ds) (P : Sh -> Prop) (n q K : Nat) (c : Int) : Prop where
 inn : In nm X P
 fau : Fau X.D
 fe : X.D.fe = 0
 qt : Qt n q (AN nm K) c X
theorem FR.fe6 (h : FR X e Y) (h6 : X.D.fe ≠ 6) : Y.D.fe ≠ 6 := h.fe.elim (fun e => e ▸ h6) (fun e => by rw [e]; decide)
include hn h16
theorem zcr (h : GS nm L X g n q K c) (hx : Recs [x]) (h64 : n < 64) (hc : ((q + (8 + x.length) : Nat) : Int) <= c) (hK : K < mxn) (hr : appR L x X e L' Y) :
  (X.D.fe = 0 -> e = 0 /\ Y.D.fe = 0) /\ ((e = 0 /\ L'.bad = false /\ L'.recs = L.recs ++ [x] /\ L.segment <= L'.segment /\ ∃ g', GS nm L' Y g' (n + 1) (q + (8 + x.length)) (K + 1) c /\ g'.sn = g.sn /\ g.closed.length + g.du <= g'.closed.length + g'.du) \/
   (e ≠ 0 /\ L'.bad = true /\ L'.synced = L.synced /\ L'.segment = L.segment /\ GB nm Y (Left g (L.recs ++ [x])) (n + 1) (q + (8 + x.length)) (K + 1) c)) := by
 have hnx := zbj h.qt.al
 have hL := h.li.name
 have qy : Qt (n + 1) (q + (8 + x.length)) (AN nm (K + 1)) c Y := qt_app (h.qt.mono (Nat.le_refl _) (Nat.le_refl _) (fun _ => AN.mono (by omega))) (fun _ => by rw [hL]; exact z8g hn h16 (by omega) (by omega) (by omega)) hr
 have f := fr_app hn h16 h.li hx h.fau h.qt h64 hc (by omega) hr
 refine ⟨f.calm, ?_⟩
 rcases zcb h.li hx hr with ⟨h1, h2, h3, h4, g', h5, h6, h7⟩ | ⟨h1, h2, h3, h4, h5⟩
 ·
  exact .inl ⟨h2, h1, h4, h3, g', ⟨h5, f.fau, f.fe6 h.fe, qy⟩, h6, h7⟩
 ·
  exact .inr ⟨h2, h1, h4, h3, ⟨h5, f.fau, f.met h2, qy⟩⟩
theorem zcs (h : GS nm L X g n q K c) (hr : synR L X e L' Y) :
  (X.D.fe = 0 -> e = 0 /\ Y.D.fe = 0) /\ ((e = 0 /\ L' = { L with synced := L.recs.length } /\ GS nm L' Y { g with du := g.rs.length } n q K c) \/ (e ≠ 0 /\ L' = { L with bad := true } /\ GB nm Y (· = g) n q K c)) := by
 have qy := qt_syn h.qt hr
 have f := fr_syn hn h16 h.li h.fau hr
 refine ⟨f.calm, ?_⟩
 rcases zbx h.li hr with ⟨h1, h2, h3⟩ | ⟨h1, h2, h3⟩
 ·
  exact .inl ⟨h1, h2, ⟨h3, f.fau, f.fe6 h.fe, qy⟩⟩
 ·
  exact .inr ⟨h1, h2, ⟨h3, f.fau, f.met h1, qy⟩⟩
theorem zg5 (h : GS nm L X g n q K c) (hx : Recs [x]) (h64 : n + 2 < 64) (hc : ((q + (8 + x.length) + 24 : Nat) : Int) <= c) (hK : K + 2 <= mxn) (hK2 : K + 1 < mxn) (hr : turnR L x X e L' Y) :
  (X.D.fe = 0 -> e = 0 /\ Y.D.fe = 0) /\ ((e = 0 /\ ∃ s n' bm bs b, L' = { L with snap := x, has := true, recs := [], synced := 0, first := n', segment := n', segments := 1, size := 0 } /\ L.segment <= n' /\ GS nm L' Y (Sh.new s n' x bm bs b) (n + 3) (q + (8 + x.length) + 24) (K + 2) c) \/
   (e ≠ 0 /\ L' = { L with bad := true } /\ GB nm Y (fun q => Left g L.recs q \/ q.sn = some x /\ q.closed = [] /\ q.rs = []) (n + 3) (q + (8 + x.length) + 24) (K + 2) c)) := by
 have hnx := zbj h.qt.al
 have hL := h.li.name
 have tn : TN nm (AN nm (K + 2)) (nx nm X) := ⟨zc9 hn h16, zc8 hn h16, zfn hn h16 (by omega) (by omega) (by omega), z8g hn h16 (by omega) (by omega) (by omega)⟩
 have q2 : Qt n q (AN nm (K + 2)) c X := h.qt.mono (Nat.le_refl _) (Nat.le_refl _) (fun _ => AN.mono (by omega))
 have qy := zgp q2 (fun _ => by rw [hL]; exact tn) hr
 have f := zg4 hn h16 h.li hx h.fau h.fe (fun t a => a.1) tn q2 h64 hc (by omega) hr
 refine ⟨f.calm, ?_⟩
 rcases zc0 h.li hx hr with ⟨h1, s, n', bm, bs, b, h2, h3, h4⟩ | ⟨h1, h2, h3⟩
 ·
  exact .inl ⟨h1, s, n', bm, bs, b, h2, h4, ⟨h3, f.fau, f.fe6 h.fe, qy⟩⟩
 ·
  exact .inr ⟨h1, h2, ⟨h3, f.fau, f.met h1, qy⟩⟩
theorem za9 {most : Nat} (hi : In nm X P) (hP : Trims P) (hF : Fau X.D) (h6 : X.D.fe ≠ 6) (hq : Qt n q (AN nm K) c X) (hr : openR nm most X e L Y) :
  (X.D.fe = 0 -> e = 0 /\ Y.D.fe = 0) /\ ∃ h j, P h /\ Shape nm X.dir X.fc h /\ h.du <= j /\ j <= h.rs.length /\ (h.q = (enc h.rs).length -> j = h.rs.length) /\ (enc (h.rs.take j)).length <= h.q /\ (e = 0 -> GS nm L Y { h.trim j with du := j } n q K c /\ L.synced = L.recs.length /\ L.most = most) := by
 obtain ⟨h, j, h1, h2, h3, h4, h5, h7, ⟨en, e1, e2, e3, e4, e5⟩, h8⟩ := zbm hn h16 hq.bd.key hi hP hr
 have f := zg3 hn h16 hF h2.m1.2 e4 e1 e3 e5
 refine ⟨f.calm, h, j, h1, h2, h3, h4, h5, by rw [<- e2]; exact e3, fun e0 => ?_⟩
 obtain ⟨g1, g2, g3⟩ := h8 e0
 exact ⟨⟨g1, f.fau, f.fe6 h6, zgo hq e5⟩, g2, g3⟩
theorem z8t {most : Nat} (hw : Wf X) (hF : Fau X.D) (hfe : X.D.fe = 0) (hq : Qt n q (AN nm 0) c X) (hn64 : n + 1 < 64) (hc : ((q + 24 : Nat) : Int) <= c) (h0 : X.dir (manf nm) = none) (hr : openR nm most X e L Y) :
  e = 0 /\ L = { lg0 nm most with first := 1, segment := 1, segments := 1 } /\ Y.D.fe = 0 /\ Y.D.steps = [] /\ Y.D.lasting = Y.D.files /\ ∃ g, GS nm L Y g (n + 2) (q + 24) 1 c /\ g.sn = none /\ (∀ t, t = manf nm \/ t = sgf nm 1 \/ (t ≠ newf nm /\ ∃ b, X.dir t = some b) ↔ ∃ b, Y.dir t = some b) := by
 have hnx := zbj hq.al
 obtain ⟨h1, h2, h3, h4, h5, h6, h7, g, h8, h9, h10⟩ := zbl hn h16 hw hF hfe (hq.mono (Nat.le_refl _) (Nat.le_refl _) (fun _ => AN.mono (Nat.zero_le 1))) hn64 hc h0 (by omega) (z8g hn h16 (Nat.le_refl _) (by decide) (Nat.le_refl _)) (zc9 hn h16) (zc8 hn h16) hr
 exact ⟨h1, h7, h3, h5, h6, g, ⟨h8, h2, by rw [h3]; decide, h4⟩, h9, h10⟩
end Go.Log
end
section
namespace Go.Log
open Go.Vfs
open Go.Proofs.YtpjomdmjohjheaaGreatDoor (newD)
variable {nm : ByteArray} {X Y Z : Ds} {e : Int} {s t : ByteArray} {n k m q K : Nat} {x : List Nat} {g : Sh} {L L' : Lg} {c : Int} {P : Sh -> Prop}
def sa : ByteArray := ⟨#[97]⟩
theorem z1s : mnB sa = true := by decide
theorem z1r : sa.size <= 16 := by decide
theorem z4n {zs : List Int} {F : List (ByteArray × Nat)} {fc : Nat -> Fl} {j : Nat} : ∀ {l : List ByteArray}, (∀ s ∈ l, ∀ b, flook F s = some b -> (fc b).b.length <= (fc b).lasts) -> l.foldl (tr1 zs F) (fc, j) = (fc, j)
 | [], _ => rfl
 | s :: l, h => by
  rw [List.foldl_cons]
  have : tr1 zs F (fc, j) s = (fc, j) := by
   unfold tr1
   cases hs : flook F s with
   | none => rfl
   | some b => simp only; rw [if_neg (by have := h s (by simp) b hs; omega)]
  rw [this]
  exact z4n fun s' h' => h s' (by simp [h'])
theorem zea {zs : List Int} {F : List (ByteArray × Nat)} {fc : Nat -> Fl} {t : ByteArray} {b0 : Nat} {l : List ByteArray} (hl : l.Nodup) (ht : t ∈ l) (hb : flook F t = some b0) (hlo : (fc b0).lasts < (fc b0).b.length) (hf : ∀ s ∈ l, s ≠ t -> ∀ b, flook F s = some b -> b ≠ b0 /\ (fc b).b.length <= (fc b).lasts) :
  (l.foldl (tr1 zs F) (fc, 0)).1 b0 = ⟨(fc b0).b.take ((fc b0).lasts + pkn zs 0 % ((fc b0).b.length - (fc b0).lasts + 1)), (fc b0).lasts + pkn zs 0 % ((fc b0).b.length - (fc b0).lasts + 1)⟩ := by
 obtain ⟨a, d, rfl⟩ := List.append_of_mem ht
 rw [List.nodup_append] at hl
 obtain ⟨h1, h2, h3⟩ := hl
 rw [List.nodup_cons] at h2
 rw [List.foldl_append, z4n fun s hs b hsb => (hf s (by simp [hs]) (h3 s hs t (by simp)) b hsb).2, List.foldl_cons, z5w hb, if_pos hlo]
 have key : ∀ s ∈ d, ∀ b, flook F s = some b -> (setf fc b0 ⟨(fc b0).b.take ((fc b0).lasts + pkn zs 0 % ((fc b0).b.length - (fc b0).lasts + 1)), (fc b0).lasts + pkn zs 0 % ((fc b0).b.length - (fc b0).lasts + 1)⟩ b).b.length <= (setf fc b0 ⟨(fc b0).b.take ((fc b0).lasts + pkn zs 0 % ((fc b0).b.length - (fc b0).lasts + 1)), (fc b0).lasts + pkn zs 0 % ((fc b0).b.length - (fc b0).lasts + 1)⟩ b).lasts := fun s hs b hsb => by
  have hne : s ≠ t := fun e => h2.1 (e ▸ hs)
  obtain ⟨h4, h5⟩ := hf s (by simp [hs]) hne b hsb
  rw [z0h _ _ h4]; exact h5
 rw [z4n key]
 exact z0g _ _ _
theorem zeg {D' : Dk} {fc' : Nat -> Fl} {φ : Nat -> Option Nat} {l2 : List (ByteArray × Nat)} {bs : List Bool} (h : In sa X (· = g)) (hst : X.D.steps = []) (hla : X.D.lasting = X.D.files) (hk : (X.D.files.map Prod.fst).Nodup) (hnm : ∀ t b, X.dir t = some b -> t = manf sa \/ t = sgf sa 1)
  (hm : g.m = 1) (hr : g.rs = [[120], [121]]) (hq : g.q = 18) (hlast : (X.fc g.b).lasts = 9) (hc : CrashR [3] X.D X.fc D' fc' φ l2 bs) :
  ∃ v, In sa ⟨D', fc'⟩ (· = Sh.move g v 12) := by
 have hlk : (X.D.lasting.map Prod.fst).Nodup := by rw [hla]; exact hk
 obtain ⟨f, g', v, n, hRf, rfl, hsh, hin, hdir⟩ := z9j h hlk hc
 have hfd : f = X.dir := by
  obtain ⟨bs', rfl⟩ := hRf
  rw [hst, z8e, hla]; rfl
 subst hfd
 obtain ⟨q', rfl, hs'⟩ := hin.live
 have h1 := hs'.lastAt
 have h2 := hs'.lastb
 have hlq : g'.q = (X.fc g'.b).b.length := by rw [hsh.lastb, List.length_take]; have := hsh.lastq; omega
 have hn18 : n <= 18 := by
  have h3 : n <= (enc g'.rs).length := hs'.lastq
  have h4 := hsh.lastq
  have : (enc [[120], [121]]).length = 18 := by simp [enc, zx]
  rw [hr] at h3; omega
 obtain ⟨nms, fc1, hp, hf1, hfc⟩ := hc.tr
 rw [hst] at hfc
 have hDf : D'.files.map Prod.fst = l2.map Prod.fst := by
  rw [hc.eq]
  show ((replay bs X.D.steps l2).map (mv φ)).map Prod.fst = _
  rw [hst, show replay bs [] l2 = l2 by cases bs <;> rfl, List.map_map]; rfl
 have hnd : nms.Nodup := by
  refine hp.nodup_iff.2 ?_
  rw [hDf]
  exact ((hc.p2.map Prod.fst).nodup_iff).2 hlk
 have hd1 : flook D'.files (sgf sa 1) = some (v g'.b) := by rw [<- hm]; exact h1
 have hmem : sgf sa 1 ∈ nms := by
  refine hp.mem_iff.2 (List.mem_map.2 ⟨_, zo hd1, rfl⟩)
 have hv : ∀ t b, X.dir t = some b -> fc1 (v b) = X.fc b := fun t b hb => by
  have hb2 : (t, b) ∈ l2 := hc.p2.mem_iff.2 (by rw [hla]; exact zo hb)
  have hR : Ref X.D b := .inl ⟨_, zo hb, rfl⟩
  obtain ⟨b', hb'⟩ := Option.ne_none_iff_exists'.1 (hc.all b hR)
  have h5 : flook D'.files t = some ((φ b).getD 0) := by
   rw [hc.eq]
   show flook ((replay bs X.D.steps l2).map (mv φ)) t = _
   rw [hst, show replay bs [] l2 = l2 by cases bs <;> rfl, z4l, z65 hlk hc.p2, hla, show flook X.D.files t = some b from hb]; rfl
  have h6 := hdir t
  rw [show (⟨D', fc'⟩ : Ds).dir t = flook D'.files t from rfl, h5, hb] at h6
  have h7 : v b = b' := by
   have := Option.some.inj h6
   rw [hb'] at this; exact this.symm
  rw [h7]; exact hf1 b b' hb'
 have hcon : fc1 (v g'.b) = X.fc g'.b := hv _ _ hsh.lastAt
 have hone := zea (zs := [3]) (F := D'.files) (fc := fc1) (t := sgf sa 1) (b0 := v g'.b) hnd hmem hd1 (by rw [hcon, hlast, <- hlq, hq]; decide) (fun s hs hne b hb => by
  have h6 := hdir s
  rw [show (⟨D', fc'⟩ : Ds).dir s = flook D'.files s from rfl, hb] at h6
  cases hx : X.dir s with
  | none => rw [hx] at h6; cases h6
  | some b1 =>
   rw [hx] at h6
   have e1 : b = v b1 := by simpa using h6
   have e2 : s = manf sa := (hnm s b1 hx).resolve_right hne
   have e3 : b1 = g'.bm := by rw [e2, hsh.man] at hx; exact (Option.some.inj hx).symm
   have e4 : (⟨D', fc'⟩ : Ds).dir (manf sa) = some (v g'.bm) := hs'.man
   refine ⟨?_, ?_⟩
   ·
    rw [e1, e3]; exact (hs'.apart.1).symm
   ·
    rw [e1, hv s b1 hx, e3, hsh.manc]; exact Nat.le_refl _)
 have hz : (List.length ([] : List Stp)) = 0 := rfl
 rw [hz] at hfc
 rw [<- hfc, hcon, hlast, <- hlq, hq] at hone
 have hfcb : (fc' (v g'.b)).b = (X.fc g'.b).b.take 12 := by rw [hone]; rfl
 have hn12 : n = 12 := by
  have h3 : (fc' (v g'.b)).b = (enc g'.rs).take n := h2
  have h4 := congrArg List.length (hfcb.symm.trans h3)
  rw [List.length_take, List.length_take, <- hlq, hq] at h4
  have : (enc [[120], [121]]).length = 18 := by simp [enc, zx]
  rw [hr, this] at h4
  omega
 exact ⟨v, hn12 ▸ hin⟩
theorem zcc (h : LI nm L X g) (hx : Recs [x]) (hsz : L.size + (8 + x.length) <= L.most) (hr : appR L x X 0 L' Y) : L' = { L with recs := L.recs ++ [x], size := L.size + (8 + x.length) } /\ Sm X Y /\ LI nm L' Y { g with rs := g.rs ++ [x], q := g.q + (8 + x.length) } /\ (Y.fc g.b).lasts = (X.fc g.b).lasts := by
 have hxl : x.length <= mxr := (hx x (by simp)).1
 rcases hr with ⟨h0, -⟩ | ⟨-, e1, Z, h1, h2⟩
 ·
  exact absurd (h.may hxl) h0
 rcases h2 with ⟨g1, g2, -⟩ | ⟨rfl, -, -, rfl, rfl⟩ | ⟨-, g1, -⟩
 ·
  exact absurd g2.symm g1
 ·
  rw [h.atseg] at h1
  obtain ⟨s1, ⟨h3, -⟩ | ⟨b, k, hb, hk, hk0, hf⟩⟩ := z0m h1
  ·
   exact absurd rfl h3
  obtain rfl : b = g.b := Option.some.inj (hb.symm.trans h.shape.lastAt)
  have hkl := hk0 rfl
  subst hkl
  have i1 : In nm Y (· = { g with rs := g.rs ++ [x], q := g.q + (recd x).length }) := h.inn.write s1 hf fun q f hq hsh => by
   subst hq
   exact ⟨_, rfl, hsh.append h.full hx (Nat.le_refl _)⟩
  rw [zx] at i1
  refine ⟨rfl, s1, { inn := i1, full := ?_, name := h.name, nob := h.nob, first := h.first, seg := h.seg, segs := h.segs, size := ?_, recs := ?_, syn := h.syn, snap := h.snap }, by rw [hf, z0g]⟩
  ·
   show g.q + _ = _
   rw [z1g, z1v, List.length_append, h.full, zx]
  ·
   show L.size + _ = g.q + _
   rw [h.size]
  ·
   show L.recs ++ [x] = g.closed ++ (g.rs ++ [x])
   rw [h.recs, List.append_assoc]
 ·
  omega
theorem zd3 (nm : ByteArray) (c : Int) : Qt 0 0 (AN nm 0) c ⟨newD c, fun _ => ⟨[], 0⟩⟩ := ⟨⟨Nat.le_refl _, Nat.le_refl _, List.nodup_nil, List.nodup_nil⟩, fun t b hb => absurd (show (none : Option Nat) = some b from hb) nofun, rfl⟩
theorem zd4 (c : Int) : Wf ⟨newD c, fun _ => ⟨[], 0⟩⟩ := fun s hs => by cases hs
theorem zaj (c : Int) : Fau (newD c) := ⟨rfl, by show (-1 : Int) < 0; decide⟩
def KP (h : Sh) : Prop := h.sn = none /\ h.closed = [] /\ h.m = 1 /\ h.du = 1 /\ h.rs.take 1 = [[120]] /\ h.q <= 12
theorem zeh : Trims KP := fun h j ⟨h1, h2, h3, h4, h5, h6⟩ hj _ hq => ⟨h1, h2, h3, h4, by show (h.rs.take j).take 1 = _; rw [List.take_take, Nat.min_eq_left (by omega)]; exact h5, by show (enc (h.rs.take j)).length <= 12; omega⟩
theorem kp_one {h : Sh} {j : Nat} (hp : KP h) (h1 : h.du <= j) (h2 : j <= h.rs.length) (h3 : (enc (h.rs.take j)).length <= h.q) : h.rs.take j = [[120]] /\ j = 1 := by
 obtain ⟨-, -, -, h4, h5, h6⟩ := hp
 have hj : j = 1 := by
  rcases Nat.lt_or_ge 1 j with hl | hl
  ·
   have e := z1c (l := h.rs) (show 2 <= j from hl)
   cases hr : h.rs with
   | nil => rw [hr] at h2; simp at h2; omega
   | cons a r =>
    cases r with
    | nil => rw [hr] at h2; simp at h2; omega
    | cons b r =>
     have : (enc (h.rs.take 2)).length = 8 + a.length + (8 + b.length) := by rw [hr]; simp [enc, zx]
     have ha : a.length = 1 := by rw [hr] at h5; simp at h5; rw [h5]; rfl
     omega
  ·
   omega
 exact ⟨by rw [hj]; exact h5, hj⟩
def KQ (h : Sh) : Prop := h.sn = some [115] /\ h.closed ++ h.rs = [[122]] /\ h.du = h.rs.length
theorem z8v : Trims KQ := fun h j ⟨h1, h2, h3⟩ hj hl _ => by
 have : h.rs.take j = h.rs := List.take_of_length_le (by omega)
 exact ⟨h1, by show h.closed ++ h.rs.take j = _; rw [this]; exact h2, by show h.du = (h.rs.take j).length; rw [this]; exact h3⟩
end Go.Log
end
section
namespace Go.Proofs.YtpjomdmjohjheaaGreatDoor
open Go.RowKit Go.Lk Go.Vfs Go.Log
variable {W0 w w' w2 : World} {l d : Nat} {L L' : Lg} {X Y : Ds} {O O' S N : Nat -> Prop}
theorem z8l (hk : Keeps Nb W0 w) (hv : Vars W0) (h6 : 6 <= W0.heap.size) (hO : ∀ k, O k -> k < w.heap.size) (c : Int) (hc : 1 <= c /\ c <= 16777216) :
  Calls Tryz.prog 18 #[.int .i64 c] w fun e w' => ∃ d, e = .returned (.tuple #[.pointer (some ⟨d, 0, none⟩), .int .i64 0]) /\ DO W0 w' d ⟨newD c, fun _ => ⟨[], 0⟩⟩ O /\ Keeps Nb w w' := by
 refine (new_at c w hc).mono ?_
 rintro e w' ⟨d, rfl, hd, F, R, h1, h2, h3, h4⟩
 have z := hk.size
 exact ⟨d, rfl, ⟨⟨F, R, h2, fun k e => ⟨by have := hO k e; have := h1.size; omega, fun f => by have := hO k e; have := h3 k f; omega, fun f => by have := hO k e; have := h4 k f; omega⟩, fun k f => by have := h3 k f; omega⟩, hk.trans_nb h1, hv, h6⟩, h1⟩
theorem ze4 (h : DO W0 w d X O) (v : Value) (zs : List Int) (hp : PicksV w v zs) (hl : X.D.lasting.length + X.D.steps.length <= 1000000) :
  Calls Tryz.prog 24 #[.pointer (some ⟨d, 0, none⟩), v] w fun e w' => ∃ d' D' fc' φ l2 bs, e = .returned (.pointer (some ⟨d', 0, none⟩)) /\ DO W0 w' d' ⟨D', fc'⟩ O /\ Keeps Nb w w' /\ CrashR zs X.D X.fc D' fc' φ l2 bs := by
 obtain ⟨F, R, h1, h2, h3⟩ := h.ex
 obtain ⟨a, c, rfl, p1, p2, p3, p4⟩ := hp
 refine (ze3 d zs.length c a zs X.D F R X.fc w h1 p3 rfl p4 ⟨p1, p2⟩ hl).mono ?_
 rintro e w' ⟨d', D', fc', F', R', φ, l2, bs, rfl, g1, g2, g3, g4, g5⟩
 have z := h.k.size
 exact ⟨d', D', fc', φ, l2, bs, rfl, ⟨⟨F', R', g1, fun k e => ⟨Nat.lt_of_lt_of_le (h2 k e).1 g4.size, fun f => by have := (h2 k e).1; have := g2 k f; omega, fun f => by have := (h2 k e).1; have := g3 k f; omega⟩, fun k f => by have := g2 k f; omega⟩, h.k.trans_nb g4, h.v, h.six⟩, g4, g5⟩
end Go.Proofs.YtpjomdmjohjheaaGreatDoor
end
section
namespace Go.Log
open Go.Vfs
open Go.Proofs.YtpjomdmjohjheaaGreatDoor (newD)
variable {nm : ByteArray} {X Y Z : Ds} {e : Int} {s t : ByteArray} {n k m q K : Nat} {x : List Nat} {g : Sh} {L L' : Lg} {c : Int} {P : Sh -> Prop} {A : ByteArray -> Prop}
theorem sum_le {l : List (ByteArray × Nat)} {a b : ByteArray × Nat -> Nat} (h : ∀ p ∈ l, a p <= b p) : (l.map a).sum <= (l.map b).sum := by
 induction l with
 | nil => exact Nat.le_refl _
 | cons p l ih =>
  simp only [List.map_cons, List.sum_cons]
  have h1 := h p (by simp)
  have h2 := ih fun p hp => h p (by simp [hp])
  omega
theorem zde {zs : List Int} {D' : Dk} {fc' : Nat -> Fl} {φ : Nat -> Option Nat} {l2 : List (ByteArray × Nat)} {bs : List Bool} (h : Qt n q A c X) (hst : X.D.steps = []) (hla : X.D.lasting = X.D.files) (hc : CrashR zs X.D X.fc D' fc' φ l2 bs) :
  Qt n q A c ⟨D', fc'⟩ /\ Fau D' /\ D'.fe = 0 /\ pot ⟨D', fc'⟩ <= 2 * (n : Int) := by
 obtain ⟨p2, -, -, -, inj, all, eq, fcc⟩ := hc
 rw [hst, show replay bs [] l2 = l2 by cases bs <;> rfl] at eq fcc
 rw [hla] at p2
 have hf : D'.files = l2.map (mv φ) := by rw [eq]; rfl
 have hln : D'.files.length = X.D.files.length := by rw [hf, List.length_map, p2.length_eq]
 have hrf : ∀ p ∈ l2, ∃ z, φ p.2 = some z := fun p hp => Option.ne_none_iff_exists'.1 (all p.2 (.inl ⟨p, p2.mem_iff.1 hp, rfl⟩))
 have hkey : (D'.files.map Prod.fst).Perm (X.D.files.map Prod.fst) := by
  rw [hf, List.map_map]
  exact p2.map Prod.fst
 refine ⟨⟨⟨by show D'.files.length <= n; rw [hln]; exact h.bd.nf, ?_, hkey.nodup_iff.2 h.bd.key, ?_⟩, ?_, ?_⟩, ?_, ?_, ?_⟩
 ·
  refine Nat.le_trans ?_ h.bd.nt
  show tot D'.files fc' <= _
  rw [hf, <- z9f p2 X.fc]
  unfold tot
  rw [List.map_map]
  refine sum_le fun p hp => ?_
  obtain ⟨z, h1, h2, h3⟩ := fcc p hp
  show (fc' ((φ p.2).getD 0)).b.length <= _
  rw [h3, List.length_take]; omega
 ·
  show (D'.files.map Prod.snd).Nodup
  have hb := (p2.map Prod.snd).nodup_iff.2 h.bd.blk
  rw [hf, List.map_map]
  unfold List.Nodup at hb ⊢
  rw [List.pairwise_map] at hb ⊢
  refine hb.imp_of_mem fun {a b} ha hb' hne e => hne ?_
  obtain ⟨z, hz⟩ := hrf a ha
  obtain ⟨z', hz'⟩ := hrf b hb'
  have e : (φ a.2).getD 0 = (φ b.2).getD 0 := e
  rw [hz, hz'] at e
  have e : z = z' := e
  subst e
  exact inj _ _ _ hz hz'
 ·
  intro t b hb
  have h1 : t ∈ D'.files.map Prod.fst := List.mem_map.2 ⟨_, zo hb, rfl⟩
  obtain ⟨b', hb'⟩ := z1d (hkey.mem_iff.1 h1)
  exact h.al t b' hb'
 ·
  rw [<- h.cap]; show D'.cap = _; rw [eq]; rfl
 ·
  exact ⟨by rw [eq]; rfl, by rw [eq]; show (-1 : Int) < 0; decide⟩
 ·
  rw [eq]; rfl
 ·
  unfold pot
  show D'.changes + 2 * (D'.files.length : Int) <= _
  rw [hln, show D'.changes = 0 by rw [eq]; rfl]
  have := h.bd.nf
  omega
structure KA (L : Lg) (X : Ds) (rs : List (List Nat)) (du z n q K : Nat) : Prop where
 ex : ∃ g, GS sa L X g n q K 9999 /\ (X.fc g.b).lasts = z /\ g.sn = none /\ g.cl = [] /\ g.m = 1 /\ g.rs = rs /\ g.du = du
 fe : X.D.fe = 0
 st : X.D.steps = []
 la : X.D.lasting = X.D.files
 nms : ∀ t b, X.dir t = some b -> t = manf sa \/ t = sgf sa 1
 seg : L.segment = 1
 most : L.most = 99
variable {rs : List (List Nat)} {du z : Nat} {L : Lg}
theorem z8j {g : Sh} (h : g.cl = []) : g.closed = [] := by unfold Sh.closed; rw [h]; rfl
theorem ka_new (hr : openR sa 99 ⟨newD 9999, fun _ => ⟨[], 0⟩⟩ e L Y) : e = 0 /\ KA L Y [] 0 0 2 24 1 := by
 obtain ⟨h1, h2, h3, h4, h5, g, h6, h7, h8⟩ := z8t z1s z1r (zd4 9999) (zaj 9999) rfl (zd3 sa 9999) (by decide) (by decide) rfl hr
 have e1 := h6.li.segs; have e2 := h6.li.size; have e3 := h6.li.recs; have e4 := h6.li.seg
 rw [h2] at e1 e2 e3 e4
 have c0 : g.cl = [] := by
  have : (1 : Nat) = g.cl.length + 1 := e1
  cases hc : g.cl with
  | nil => rfl
  | cons a l => rw [hc] at this; simp at this
 have e3 : [] = g.closed ++ g.rs := e3
 rw [z8j c0] at e3
 have r0 : g.rs = [] := e3.symm
 have sh := h6.li.shape
 have d0 := sh.lastd; have l0 := sh.lastl.2; have q0 : (0 : Nat) = g.q := e2
 rw [r0] at d0
 refine ⟨h1, ⟨⟨g, h6, by omega, h7, c0, e4.symm, r0, Nat.le_zero.1 d0⟩, h3, h4, h5, fun t b hb => ?_, by rw [h2], by rw [h2]; rfl⟩⟩
 rcases (h8 t).2 ⟨b, hb⟩ with h | h | ⟨-, b', h⟩
 ·
  exact .inl h
 ·
  exact .inr h
 ·
  exact absurd (show (none : Option Nat) = some b' from h) nofun
theorem KA.lrecs (h : KA L X rs du z n q K) : L.recs = rs := by
 obtain ⟨g, h1, -, -, h4, -, h6, -⟩ := h.ex
 rw [h1.li.recs, z8j h4, h6]; rfl
theorem KA.lsize (h : KA L X rs du z n q K) : L.size = (enc rs).length := by
 obtain ⟨g, h1, -, -, h4, -, h6, -⟩ := h.ex
 rw [h1.li.size, h1.li.full, h6]
theorem KA.lsegs (h : KA L X rs du z n q K) : L.segments = 1 := by
 obtain ⟨g, h1, -, -, h4, -, h6, -⟩ := h.ex
 rw [h1.li.segs, h4]; rfl
theorem zcu (h : KA L X rs du z n q K) (hx : Recs [x]) (h64 : n < 64) (hc : ((q + (8 + x.length) : Nat) : Int) <= 9999) (hK : K < mxn) (hsz : (enc rs).length + (8 + x.length) <= 99) (hr : appR L x X e L' Y) :
  e = 0 /\ KA L' Y (rs ++ [x]) du z (n + 1) (q + (8 + x.length)) (K + 1) := by
 have hls := h.lsize
 obtain ⟨⟨g, h1, h2, h3, h4, h5, h6, h7⟩, fe, st, la, nms, seg, most⟩ := h
 obtain ⟨hcalm, hcs⟩ := zcr z1s z1r h1 hx h64 hc hK hr
 obtain ⟨e0, fe'⟩ := hcalm fe
 subst e0
 rcases hcs with ⟨-, -, -, -, g', hg', -⟩ | ⟨h0, -⟩
 ·
  obtain ⟨rfl, sm, hli, hlast⟩ := zcc h1.li hx (by rw [hls, most]; exact hsz) hr
  exact ⟨rfl, ⟨⟨_, ⟨hli, hg'.fau, hg'.fe, hg'.qt⟩, by rw [<- h2]; exact hlast, h3, h4, h5, by show g.rs ++ [x] = _; rw [h6], h7⟩, fe', by rw [sm.steps]; exact st, by rw [sm.lasting, sm.files]; exact la, fun t b hb => nms t b (by rw [<- sm.dir]; exact hb), seg, most⟩⟩
 ·
  exact absurd rfl h0
theorem ka_syn (h : KA L X rs du z n q K) (hr : synR L X e L' Y) : e = 0 /\ KA L' Y rs rs.length (enc rs).length n q K := by
 obtain ⟨⟨g, h1, h2, h3, h4, h5, h6, h7⟩, fe, st, la, nms, seg, most⟩ := h
 obtain ⟨hcalm, hcs⟩ := zcs z1s z1r h1 hr
 obtain ⟨e0, fe'⟩ := hcalm fe
 subst e0
 have sm : Sm X Y := by
  rcases hr with ⟨-, -, -, rfl⟩ | ⟨-, hr, -⟩
  ·
   exact Sm.refl _
  ·
   exact (z0c hr).1
 rcases hcs with ⟨-, rfl, hg⟩ | ⟨h0, -⟩
 ·
  have hl := hg.li.shape.lastl
  have hq : g.q = (enc g.rs).length := h1.li.full
  refine ⟨rfl, ⟨⟨_, hg, ?_, h3, h4, h5, h6, by show g.rs.length = _; rw [h6]⟩, fe', by rw [sm.steps]; exact st, by rw [sm.lasting, sm.files]; exact la, fun t b hb => nms t b (by rw [<- sm.dir]; exact hb), seg, most⟩⟩
  have l1 : (enc (g.rs.take g.rs.length)).length <= (Y.fc g.b).lasts := hl.1
  have l2 : (Y.fc g.b).lasts <= g.q := hl.2
  rw [List.take_length] at l1
  show (Y.fc g.b).lasts = _
  rw [<- h6]; omega
 ·
  exact absurd rfl h0
theorem zef {D' : Dk} {fc' : Nat -> Fl} {φ : Nat -> Option Nat} {l2 : List (ByteArray × Nat)} {bs : List Bool} (h : KA L X [[120], [121]] 1 9 n q K) (hc : CrashR [3] X.D X.fc D' fc' φ l2 bs) :
  In sa ⟨D', fc'⟩ KP /\ Qt n q (AN sa K) 9999 ⟨D', fc'⟩ /\ Fau D' /\ D'.fe = 0 /\ pot ⟨D', fc'⟩ <= 2 * (n : Int) := by
 obtain ⟨⟨g, h1, h2, h3, h4, h5, h6, h7⟩, fe, st, la, nms, seg, most⟩ := h
 obtain ⟨v, hv⟩ := zeg h1.li.inn st la h1.qt.bd.key nms h5 h6 (by rw [h1.li.full, h6]; simp [enc, zx]) h2 hc
 refine ⟨hv.mono fun f hf => ?_, zde h1.qt st la hc⟩
 subst hf
 refine ⟨h3, by rw [z9o]; exact z8j h4, h5, h7, by show g.rs.take 1 = _; rw [h6]; rfl, Nat.le_refl _⟩
theorem zg8 (hi : In sa X KP) (hF : Fau X.D) (hfe : X.D.fe = 0) (hq : Qt n q (AN sa K) 9999 X) (hr : openR sa 99 X e L Y) :
  e = 0 /\ Y.D.fe = 0 /\ L.recs = [[120]] /\ L.segment = 1 /\ L.most = 99 /\ ∃ g, GS sa L Y g n q K 9999 := by
 obtain ⟨hcalm, h, j, h1, h2, h3, h4, h5, h6, h7⟩ := za9 z1s z1r hi zeh hF (by rw [hfe]; decide) hq hr
 obtain ⟨e0, fe'⟩ := hcalm hfe
 obtain ⟨g1, g2, g3⟩ := h7 e0
 obtain ⟨k1, k2⟩ := kp_one h1 h3 h4 h6
 refine ⟨e0, fe', ?_, ?_, g3, _, g1⟩
 ·
  have : L.recs = h.closed ++ h.rs.take j := g1.li.recs
  rw [this, h1.2.1, k1]; rfl
 ·
  have : L.segment = h.m := g1.li.seg
  rw [this, h1.2.2.1]
theorem zg9 (h : GS sa L X g n q K 9999) (hfe : X.D.fe = 0) (hx : Recs [x]) (h64 : n + 2 < 64) (hc : ((q + (8 + x.length) + 24 : Nat) : Int) <= 9999) (hK : K + 2 <= mxn) (hK2 : K + 1 < mxn) (hr : turnR L x X e L' Y) :
  e = 0 /\ Y.D.fe = 0 /\ L'.recs = [] /\ L'.size = 0 /\ L'.segments = 1 /\ ∃ g', GS sa L' Y g' (n + 3) (q + (8 + x.length) + 24) (K + 2) 9999 /\ g'.sn = some x := by
 obtain ⟨hcalm, hcs⟩ := zg5 z1s z1r h hx h64 hc hK hK2 hr
 obtain ⟨e0, fe'⟩ := hcalm hfe
 rcases hcs with ⟨-, s, n', bm, bs, b, rfl, -, hg⟩ | ⟨h0, -⟩
 ·
  exact ⟨e0, fe', rfl, rfl, rfl, _, hg, rfl⟩
 ·
  exact absurd e0 h0
theorem kb_app (h : GS sa L X g n q K 9999) (hfe : X.D.fe = 0) (hx : Recs [x]) (h64 : n < 64) (hc : ((q + (8 + x.length) : Nat) : Int) <= 9999) (hK : K < mxn) (hr : appR L x X e L' Y) :
  e = 0 /\ Y.D.fe = 0 /\ L'.recs = L.recs ++ [x] /\ ∃ g', GS sa L' Y g' (n + 1) (q + (8 + x.length)) (K + 1) 9999 /\ g'.sn = g.sn := by
 obtain ⟨hcalm, hcs⟩ := zcr z1s z1r h hx h64 hc hK hr
 obtain ⟨e0, fe'⟩ := hcalm hfe
 rcases hcs with ⟨-, -, h1, -, g', h2, h3, -⟩ | ⟨h0, -⟩
 ·
  exact ⟨e0, fe', h1, g', h2, h3⟩
 ·
  exact absurd e0 h0
theorem kb_syn (h : GS sa L X g n q K 9999) (hfe : X.D.fe = 0) (hsn : g.sn = some [115]) (hrs : L.recs = [[122]]) (hr : synR L X e L' Y) :
  e = 0 /\ In sa Y KQ /\ Fau Y.D /\ Y.D.fe = 0 /\ Qt n q (AN sa K) 9999 Y := by
 obtain ⟨hcalm, hcs⟩ := zcs z1s z1r h hr
 obtain ⟨e0, fe'⟩ := hcalm hfe
 rcases hcs with ⟨-, rfl, hg⟩ | ⟨h0, -⟩
 ·
  refine ⟨e0, hg.li.inn.mono fun f hf => ?_, hg.fau, fe', hg.qt⟩
  subst hf
  exact ⟨hsn, by have := h.li.recs; rw [hrs] at this; exact this.symm, rfl⟩
 ·
  exact absurd e0 h0
theorem zga (hi : In sa X KQ) (hF : Fau X.D) (hfe : X.D.fe = 0) (hq : Qt n q (AN sa K) 9999 X) (hr : openR sa 99 X e L Y) :
  e = 0 /\ L.recs = [[122]] /\ L.has = true /\ L.snap = [115] := by
 obtain ⟨hcalm, h, j, h1, h2, h3, h4, h5, h6, h7⟩ := za9 z1s z1r hi z8v hF (by rw [hfe]; decide) hq hr
 obtain ⟨e0, fe'⟩ := hcalm hfe
 obtain ⟨g1, g2, g3⟩ := h7 e0
 obtain ⟨k1, k2, k3⟩ := z8v h j h1 h3 h4 h6
 refine ⟨e0, ?_, ?_⟩
 ·
  have : L.recs = h.closed ++ h.rs.take j := g1.li.recs
  rw [this]; exact k2
 ·
  rcases g1.li.snap with ⟨h8, -⟩ | ⟨x, h8, h9, h10⟩
  ·
   have h8 : h.sn = none := h8
   rw [h1.1] at h8; cases h8
  ·
   have h8 : h.sn = some x := h8
   rw [h1.1] at h8
   cases h8
   exact ⟨h9, h10⟩
end Go.Log
end
section
namespace Go.Lk
open Go.RowKit
variable {P : Program} {w : World} {t e : TypeId}
def IsMark (g : Nat) (cs : Array Value) (e : TypeId) (u : Value) (w : World) (v : Value) (w' : World) : Prop := v = u /\ w'.heap[g]? = some (.cells cs e (cs.size, cs.size + 1)) /\ Keeps (· = g) w w'
theorem run_mark {g n c : Nat} {cs : Array Value} (ht : P.underlying t = some (.slice e)) (he : P.underlying e = some (.int .u8)) (hg : w.heap[g]? = some (.cells cs e (0, 0))) :
  ∃ w', (convert t t (.slice (some ⟨g, 0, none⟩) n c)).run P w = .ok (.slice (some ⟨g, 0, none⟩) n c) w' /\ w'.heap[g]? = some (.cells cs e (cs.size, cs.size + 1)) /\ Keeps (· = g) w w' := by
 have hsh : w.shape? g = some (e, cs.size) := by unfold World.shape?; rw [hg]
 refine ⟨w.freeze ⟨g, cs.size, none⟩ 1, ?_, ?_, ?_⟩
 ·
  simp [convert, run_underlying ht, run_underlying he, markStringish, hsh]
 ·
  have hl := lt_of_block hg
  unfold World.freeze
  rw [if_neg (by decide)]
  simp [Array.getElem?_modify, hg]
 ·
  unfold World.freeze
  rw [if_neg (by decide)]
  exact ⟨rfl, rfl, rfl, by simp, fun i hi hn => by simp [Array.getElem?_modify, Ne.symm hn]⟩
theorem z5f {dst : Option Tmp} {x : Operand} {ty : TypeId} {pos : String} {aft : Array Edge} {gd : Option (Nat × Bool)} {a : Act} {g n c : Nat} {cs : Array Value} (ht : P.underlying t = some (.slice e)) (he : P.underlying e = some (.int .u8)) (hx : a.eval x = .slice (some ⟨g, 0, none⟩) n c) (hg : w.heap[g]? = some (.cells cs e (0, 0))) :
  ∃ v w', (execOp a.eval ⟨dst, .convert t t x, ty, pos, aft, gd⟩).run P w = .ok (.value v) w' /\ IsMark g cs e (.slice (some ⟨g, 0, none⟩) n c) w v w' := by
 obtain ⟨w', h1, h2, h3⟩ := run_mark (n := n) (c := c) ht he hg
 exact ⟨_, w', by unfold execOp; simp only [hx, Sem.run_bind, h1, Result.andThen_ok, Sem.run_pure], rfl, h2, h3⟩
end Go.Lk
end
section
namespace Go.Proofs.YtpjomdmjohjheaaGreatDoor
open Go.RowKit Go.Lk Go.Vfs Go.Log
variable {W0 w w' w2 : World} {l d : Nat} {L L' : Lg} {X Y : Ds} {O O' S N : Nat -> Prop}
theorem z3e {g n : Nat} {cs : Array Value} {l : List Nat} {u v : Value} (h : NewAt w w2 g (.cells cs 5)) (hm : IsMark g cs 5 u w2 v w') (hu : u = .slice (some ⟨g, 0, none⟩) n n) (hcs : cs = (l.map fun x => Value.int .u8 (x : Nat)).toArray) (hn : l.length = n) (hl : ∀ z ∈ l, z < 256) (hx : n <= 1000) :
  v = .slice (some ⟨g, 0, none⟩) n n /\ Bytes w' (· = g) v l /\ Keeps Nb w w' /\ w.heap.size <= g /\ g < w'.heap.size := by
 obtain ⟨rfl, h1, h2⟩ := hm
 subst hn; subst hu; subst hcs
 refine ⟨rfl, ⟨_, _, rfl, Nat.le_refl _, by unfold maxLen; omega, .inr ⟨g, 0, rfl, fun i hi => ?_⟩, hl, fun b off e _ => by cases e; rfl⟩, h.k.own h.ge h2, h.ge, lt_of_block h1⟩
 rw [Nat.zero_add, cell_of_block h1]
 simp [List.getElem?_eq_getElem hi, z15 hi]
theorem zd2 {g n : Nat} {l : List Int} (h : NewAt w w' g (.cells (l.map fun x => Value.int .i64 x).toArray 3)) (hn : l.length = n) (hl : ∀ z ∈ l, I64 z) (hm : n <= 1000) : PicksV w' (.slice (some ⟨g, 0, none⟩) n n) l := by
 subst hn
 refine ⟨_, _, rfl, Nat.le_refl _, by unfold maxLen; omega, .inr ⟨g, 0, rfl, fun i hi => ?_⟩, hl⟩
 rw [Nat.zero_add, cell_of_block h.blk]
 simp [List.getElem?_eq_getElem hi, z8y hi]
theorem zdz {g x : Nat} (h : NewAt w w' g (.cells #[.int .u8 (x : Nat)] 5)) (hx : x < 256) : Bytes w' (· = g) (.slice (some ⟨g, 0, none⟩) 1 1) [x] := by
 refine ⟨_, _, rfl, Nat.le_refl _, by unfold maxLen; omega, .inr ⟨g, 0, rfl, fun i hi => ?_⟩, fun z hz => by rw [List.mem_singleton.1 hz]; exact hx, fun b off e _ => by cases e; rfl⟩
 rw [Nat.zero_add, cell_of_block h.blk]
 have : i = 0 := by have : i < 1 := hi; omega
 subst this; rfl
theorem zgz {g : Nat} {v : Value} {x : List Nat} {a : Option Addr} {n c : Nat} (h : NewAt w w' g (.cells #[v] 22)) (hv : v = .slice a n c) (hb : Bytes w (fun k => k < w.heap.size) v x) :
  RowS w' (fun k => k < w'.heap.size) (fun _ => False) 22 1 (.slice (some ⟨g, 0, none⟩) 1 1) 1 [v] /\ BytesL w' (fun k => k < w'.heap.size) [v] [x] := by
 have z := h.k.size
 refine ⟨⟨rfl, fun u hu => by rw [List.mem_singleton.1 hu, hv]; rfl, some ⟨g, 0, none⟩, 1, rfl, Nat.le_refl _, by unfold maxLen; omega, zm h.blk, fun b off e _ => by cases e; exact ⟨.inl h.lt, ⟨_, _, h.blk⟩⟩, .inl rfl⟩, ?_⟩
 exact .cons ((hb.keeps h.k (fun _ _ e => e)).mono fun k e => by omega) (.nil _ _)
theorem LS.lit {g : Nat} {v : Value} {x : List Nat} (h : LS W0 w l d L X fun _ => False) (hk : Keeps Nb w w') (h1 : w.heap.size <= g) (h2 : g < w'.heap.size) (hb : Bytes w' (· = g) v x) :
  LS W0 w' l d L X (· = g) /\ Bytes w' (Own W0 (· = g)) v x :=
 ⟨(h.add (N := (· = g)) hk fun k e => by omega).mono fun k e => .inr e, hb.mono fun k e => .inr e⟩
theorem z91 {l d g11 g12 x : Nat} {w11 w12 wx : World} (h : LS W0 w12 l d L X O) (hr : L.recs = [[x]]) (n12 : NewAt w11 w12 g12 (.cells #[.slice (some ⟨g11, 0, none⟩) 1 1] 22)) (n11 : NewAt wx w11 g11 (.cells #[.int .u8 (x : Nat)] 5)) (hx : x < 256) :
  Calls Tryz.prog 34 #[.pointer (some ⟨l, 0, none⟩), .slice (some ⟨g12, 0, none⟩) 1 1, .int .i64 0] w12 fun e w' => e = .returned (.bool true) /\ Keeps Nb w12 w' := by
 obtain ⟨h1, h2⟩ := zgz n12 rfl ((zdz n11 hx).mono fun k e => by have := n11.lt; omega)
 have h3 := zae (wa := some ⟨g12, 0, none⟩) (wc := 1) (vs := [.slice (some ⟨g11, 0, none⟩) 1 1]) h (by rw [hr]; exact h1) (by rw [hr]; exact h2)
 rw [hr] at h3; exact h3
theorem z1e (w : World) (hv : Vars w) (h6 : 6 <= w.heap.size) : Calls Tryz.prog 10 #[] w fun e w' => e = .returned (.bool true) /\ Keeps Nb w w' := by
 have HV := qq hv
 have H6 := qq h6
 clear hv h6
 go_enter Tryz.func10, Tryz.ntmps10
 go_wp2_with fail
 refine (z8l (W0 := w) (O := fun _ => False) (Keeps.refl _ _) HV.out H6.out (fun _ e => e.elim) 9999 (by omega)).mono ?_
 rintro _ w1 ⟨d, rfl, hd, -⟩
 have OP := qq (z3r hd sa 99 z1s z1r (by omega) (by omega) (by show pot ⟨newD 9999, _⟩ + 12 <= _; unfold pot; simp [newD]))
 clear hd
 go_wp2_with fail
 refine OP.out.mono ?_
 rintro _ w2 ⟨er, L, X, hr, hp, -, hc⟩
 obtain ⟨rfl, ka⟩ := ka_new hr
 obtain ⟨-, l, rfl, hls⟩ := hc.resolve_right fun h => h.1 rfl
 have P : Hid (pot X <= 12) := qq hp
 have KA := qq ka
 have H := qq hls
 clear hr hp ka hls OP
 go_wp2_with fail
 refine (z0y 0 w2).mono ?_; rintro _ _ ⟨rfl, rfl⟩
 go_wp2_with fail
 refine (ls_len H.out).mono ?_; rintro _ _ ⟨rfl, rfl⟩
 rw [KA.out.lrecs]
 go_wp2_with fail
 refine (zcx H.out).mono ?_; rintro _ _ ⟨rfl, rfl⟩
 rw [KA.out.seg]
 go_wp2_with (first | go_skip | (with_reducible refine zq ?_) | (with_reducible refine zv (s := 22) ?_) | fail)
 refine za (zi rfl (zl el31 [.int .u8 120] rfl (by simp [List.range'_succ]; first | done | rfl) (by simp [Value.cells]) (by simp)) ?_)
 rintro _ w3 ⟨g, rfl, n3⟩
 simp only [Nat.reduceAdd, qn]
 go_wp2_with (first | go_skip | (with_reducible refine zq ?_) | (with_reducible refine zv (s := 22) ?_) | fail)
 refine za (zi rfl (z5f Tryz.underlying22 Tryz.underlying5 (by rfl) n3.blk) ?_)
 rintro _ w4 hm
 obtain ⟨rfl, hby, k4, hg1, hg2⟩ := z3e (n := 1) (l := [120]) n3 hm rfl (by simp [Value.cells]) rfl (by simp) (by omega)
 obtain ⟨hl4, hb4⟩ := LS.lit H.out k4 hg1 hg2 hby
 have H4 := qq hl4
 have B4 := qq hb4
 clear n3 hm hby k4 hl4 hb4 H
 simp only [Nat.reduceAdd, qn]
 have AP := qq (z2h H4.out B4.out (by have := P.out; omega) (by rw [KA.out.lsegs]; omega) (by rw [KA.out.lrecs]; simp) (by rw [KA.out.lsize]; simp [enc]))
 clear H4 B4
 go_wp2_with fail
 refine AP.out.mono ?_
 rintro _ w5 ⟨er, L5, X5, rfl, hl5, hr5, hp5, -⟩
 obtain ⟨rfl, ka5⟩ := zcu KA.out (by simp [Recs, mxr]) (by omega) (by decide) (by decide) (by simp [enc]) hr5
 have P5 : Hid (pot X5 <= 18) := qq (by have := P.out; omega)
 have KA5 := qq ka5
 have H5 := qq (hl5.mono (O' := fun _ => False) (fun _ e => e.elim))
 clear hl5 hr5 hp5 ka5 KA P AP
 go_wp2_with fail
 refine (z0y 0 w5).mono ?_; rintro _ _ ⟨rfl, rfl⟩
 have SY := qq (z73 H5.out (by have := P5.out; omega))
 clear H5
 go_wp2_with fail
 refine SY.out.mono ?_
 rintro _ w6 ⟨er, L6, X6, rfl, hl6, hr6, hp6, -⟩
 obtain ⟨rfl, ka6⟩ := ka_syn KA5.out hr6
 have P6 : Hid (pot X6 <= 19) := qq (by have := P5.out; omega)
 have KA6 := qq ka6
 have H := qq hl6
 clear hl6 hr6 hp6 ka6 KA5 P5 SY
 go_wp2_with fail
 refine (z0y 0 w6).mono ?_; rintro _ _ ⟨rfl, rfl⟩
 go_wp2_with (first | go_skip | (with_reducible refine zq ?_) | (with_reducible refine zv (s := 22) ?_) | fail)
 refine za (zi rfl (zl el31 [.int .u8 121] rfl (by simp [List.range'_succ]; first | done | rfl) (by simp [Value.cells]) (by simp)) ?_)
 rintro _ w3 ⟨g, rfl, n3⟩
 simp only [Nat.reduceAdd, qn]
 go_wp2_with (first | go_skip | (with_reducible refine zq ?_) | (with_reducible refine zv (s := 22) ?_) | fail)
 refine za (zi rfl (z5f Tryz.underlying22 Tryz.underlying5 (by rfl) n3.blk) ?_)
 rintro _ w4 hm
 obtain ⟨rfl, hby, k4, hg1, hg2⟩ := z3e (n := 1) (l := [121]) n3 hm rfl (by simp [Value.cells]) rfl (by simp) (by omega)
 obtain ⟨hl4, hb4⟩ := LS.lit H.out k4 hg1 hg2 hby
 have H4 := qq hl4
 have B4 := qq hb4
 clear n3 hm hby k4 hl4 hb4 H
 simp only [Nat.reduceAdd, qn]
 have AP := qq (z2h H4.out B4.out (by have := P6.out; omega) (by rw [KA6.out.lsegs]; omega) (by rw [KA6.out.lrecs]; simp) (by rw [KA6.out.lsize]; simp [enc, zx]))
 clear H4 B4
 go_wp2_with fail
 refine AP.out.mono ?_
 rintro _ w7 ⟨er, L7, X7, rfl, hl7, hr7, hp7, -⟩
 obtain ⟨rfl, ka7⟩ := zcu KA6.out (by simp [Recs, mxr]) (by omega) (by decide) (by decide) (by simp [enc, zx]) hr7
 have KA7 := qq ka7
 have D7 := qq (LS.disk (hl7.mono (O' := fun _ => False) (fun _ e => e.elim)))
 clear hl7 hr7 hp7 ka7 KA6 P6 AP
 go_wp2_with fail
 refine (z0y 0 w7).mono ?_; rintro _ _ ⟨rfl, rfl⟩
 go_wp2_with (first | go_skip | (with_reducible refine qv (by decide) ?_))
 refine za (zi rfl (zl el35 [.int .i64 3] rfl (by simp [List.range'_succ]; first | done | rfl) (by simp [Value.cells]) (by simp)) ?_)
 rintro _ w8 ⟨g8, rfl, n8⟩
 simp only [Nat.reduceAdd, qn]
 have CR := qq (ze4 (D7.out.nb n8.k) _ [3] (zd2 (n := 1) (l := [3]) n8 rfl (by simp [I64]) (by omega)) (by rw [KA7.out.st, KA7.out.la]; obtain ⟨g, hg, -⟩ := KA7.out.ex; have := hg.qt.bd.nf; simp; omega))
 clear n8 D7
 go_wp2_with fail
 refine CR.out.mono ?_
 rintro _ w9 ⟨c, D9, fc9, φ, l2, bs, rfl, hd9, -, hr9⟩
 obtain ⟨i9, q9, f9, e9, p9⟩ := zef KA7.out hr9
 have I9 := qq i9; have Q9 := qq q9; have F9 := qq f9; have E9 := qq e9
 have OP := qq (z3r hd9 sa 99 z1s z1r (by omega) (by omega) (by omega))
 have P9 : Hid (pot ⟨D9, fc9⟩ <= 8) := qq (by omega)
 clear hd9 hr9 i9 q9 f9 e9 p9 KA7 CR
 go_wp2_with fail
 refine OP.out.mono ?_
 rintro _ w10 ⟨er, L, X, hr, hp, -, hc⟩
 obtain ⟨rfl, fe10, r10, s10, m10, g10, gs10⟩ := zg8 I9.out F9.out E9.out Q9.out hr
 obtain ⟨-, l, rfl, hls⟩ := hc.resolve_right fun h => h.1 rfl
 have P10 : Hid (pot X <= 20) := qq (by have := P9.out; omega)
 have FE := qq fe10; have RS := qq r10; have SG := qq s10; have GS10 := qq gs10
 have H := qq hls
 clear hr hp hls hc fe10 r10 s10 m10 gs10 OP I9 Q9 F9 E9 P9
 go_wp2_with fail
 refine (z0y 0 w10).mono ?_; rintro _ _ ⟨rfl, rfl⟩
 go_wp2_with (first | go_skip | (with_reducible refine zq ?_) | (with_reducible refine zv (s := 22) ?_) | fail)
 refine za (zi rfl (zl el31 [.int .u8 120] rfl (by simp [List.range'_succ]; first | done | rfl) (by simp [Value.cells]) (by simp)) ?_)
 rintro _ w11 ⟨g11, rfl, n11⟩
 simp only [Nat.reduceAdd, qn]
 go_wp2_with (first | go_skip | (with_reducible refine zq ?_) | (with_reducible refine zv (s := 22) ?_) | fail)
 refine za (zi rfl (zl el27 [.slice (some ⟨g11, 0, none⟩) 1 1] rfl (by simp [List.range'_succ]; first | done | rfl) (by simp [Value.cells]) (by simp)) ?_)
 rintro _ w12 ⟨g12, rfl, n12⟩
 simp only [Nat.reduceAdd, qn]
 have HL := qq (H.out.nb (n11.k.trans_nb n12.k))
 have ON := qq (z91 HL.out RS.out n12 n11 (by omega))
 clear n11 n12 H
 go_wp2_with fail
 refine ON.out.mono ?_
 rintro _ w13 ⟨rfl, k13⟩
 have H := qq (HL.out.nb k13)
 clear k13 ON HL
 go_wp2_with fail
 refine (zcx H.out).mono ?_; rintro _ _ ⟨rfl, rfl⟩
 rw [SG.out]
 go_wp2_with (first | go_skip | (with_reducible refine zq ?_) | (with_reducible refine zv (s := 22) ?_) | fail)
 refine za (zi rfl (zl el31 [.int .u8 115] rfl (by simp [List.range'_succ]; first | done | rfl) (by simp [Value.cells]) (by simp)) ?_)
 rintro _ w3 ⟨g, rfl, n3⟩
 simp only [Nat.reduceAdd, qn]
 go_wp2_with (first | go_skip | (with_reducible refine zq ?_) | (with_reducible refine zv (s := 22) ?_) | fail)
 refine za (zi rfl (z5f Tryz.underlying22 Tryz.underlying5 (by rfl) n3.blk) ?_)
 rintro _ w4 hm
 obtain ⟨rfl, hby, k4, hg1, hg2⟩ := z3e (n := 1) (l := [115]) n3 hm rfl (by simp [Value.cells]) rfl (by simp) (by omega)
 obtain ⟨hl4, hb4⟩ := LS.lit H.out k4 hg1 hg2 hby
 have H4 := qq hl4
 have B4 := qq hb4
 clear n3 hm hby k4 hl4 hb4 H
 simp only [Nat.reduceAdd, qn]
 have TN := qq (zag H4.out B4.out (by have := P10.out; omega))
 clear H4 B4
 go_wp2_with fail
 refine TN.out.mono ?_
 rintro _ w14 ⟨er, L14, X14, rfl, hl14, hr14, hp14, -⟩
 obtain ⟨rfl, fe14, r14, z14, s14, g14, gs14, sn14⟩ := zg9 GS10.out FE.out (by simp [Recs, mxr]) (by omega) (by decide) (by decide) (by decide) hr14
 have P14 : Hid (pot X14 <= 39) := qq (by have := P10.out; omega)
 have H := qq (hl14.mono (O' := fun _ => False) (fun _ e => e.elim))
 have FE14 := qq fe14; have R14 := qq r14; have Z14 := qq z14; have S14 := qq s14; have GS14 := qq gs14; have SN14 := qq sn14
 clear hl14 hr14 hp14 fe14 r14 z14 s14 gs14 sn14 TN GS10 FE RS SG P10
 go_wp2_with fail
 refine (z0y 0 w14).mono ?_; rintro _ _ ⟨rfl, rfl⟩
 go_wp2_with (first | go_skip | (with_reducible refine zq ?_) | (with_reducible refine zv (s := 22) ?_) | fail)
 refine za (zi rfl (zl el31 [.int .u8 122] rfl (by simp [List.range'_succ]; first | done | rfl) (by simp [Value.cells]) (by simp)) ?_)
 rintro _ w3 ⟨g, rfl, n3⟩
 simp only [Nat.reduceAdd, qn]
 go_wp2_with (first | go_skip | (with_reducible refine zq ?_) | (with_reducible refine zv (s := 22) ?_) | fail)
 refine za (zi rfl (z5f Tryz.underlying22 Tryz.underlying5 (by rfl) n3.blk) ?_)
 rintro _ w4 hm
 obtain ⟨rfl, hby, k4, hg1, hg2⟩ := z3e (n := 1) (l := [122]) n3 hm rfl (by simp [Value.cells]) rfl (by simp) (by omega)
 obtain ⟨hl4, hb4⟩ := LS.lit H.out k4 hg1 hg2 hby
 have H4 := qq hl4
 have B4 := qq hb4
 clear n3 hm hby k4 hl4 hb4 H
 simp only [Nat.reduceAdd, qn]
 have AP := qq (z2h H4.out B4.out (by have := P14.out; omega) (by rw [S14.out]; omega) (by rw [R14.out]; simp) (by rw [Z14.out]; omega))
 clear H4 B4
 go_wp2_with fail
 refine AP.out.mono ?_
 rintro _ w15 ⟨er, L15, X15, rfl, hl15, hr15, hp15, -⟩
 obtain ⟨rfl, fe15, r15, g15, gs15, sn15⟩ := kb_app GS14.out FE14.out (by simp [Recs, mxr]) (by omega) (by decide) (by decide) hr15
 have P15 : Hid (pot X15 <= 45) := qq (by have := P14.out; omega)
 have H := qq (hl15.mono (O' := fun _ => False) (fun _ e => e.elim))
 have FE15 := qq fe15; have GS15 := qq gs15; have SN15 := qq (sn15.trans SN14.out); have R15 := qq (r15.trans (by rw [R14.out]; rfl : _ = [[122]]))
 clear hl15 hr15 hp15 fe15 r15 gs15 sn15 AP GS14 FE14 R14 Z14 S14 SN14 P14
 go_wp2_with fail
 refine (z0y 0 w15).mono ?_; rintro _ _ ⟨rfl, rfl⟩
 have SY := qq (z73 H.out (by have := P15.out; omega))
 clear H
 go_wp2_with fail
 refine SY.out.mono ?_
 rintro _ w16 ⟨er, L16, X16, rfl, hl16, hr16, hp16, -⟩
 obtain ⟨rfl, i16, f16, e16, q16⟩ := kb_syn GS15.out FE15.out SN15.out R15.out hr16
 have OP := qq (z3r hl16.disk sa 99 z1s z1r (by omega) (by omega) (by have := P15.out; omega))
 have I16 := qq i16; have F16 := qq f16; have E16 := qq e16; have Q16 := qq q16
 clear hl16 hr16 hp16 i16 f16 e16 q16 SY GS15 FE15 SN15 R15 P15
 go_wp2_with fail
 refine (z0y 0 w16).mono ?_; rintro _ _ ⟨rfl, rfl⟩
 go_wp2_with fail
 refine OP.out.mono ?_
 rintro _ w17 ⟨er, L, X, hr, hp, -, hc⟩
 obtain ⟨rfl, r17, h17, s17⟩ := zga I16.out F16.out E16.out Q16.out hr
 obtain ⟨-, l, rfl, hls⟩ := hc.resolve_right fun h => h.1 rfl
 have H := qq hls; have RS := qq r17
 have SP := qq (z71 hls)
 rw [h17, s17] at SP
 clear hr hp hls hc r17 h17 s17 OP I16 F16 E16 Q16
 go_wp2_with fail
 refine (z0y 0 w17).mono ?_; rintro _ _ ⟨rfl, rfl⟩
 go_wp2_with fail
 refine SP.out.mono ?_
 rintro _ w18 ⟨v, rfl, hb, k18⟩
 obtain ⟨ad, c, rfl, -, -, hrd, -⟩ := id hb
 have HH := qq hrd.has
 have H := qq (H.out.nb k18)
 clear hb k18 hrd SP
 go_wp2_with (first | go_skip | (with_reducible refine zq ?_) | (with_reducible refine zv (s := 22) ?_) | fail)
 refine za (zu (v := .string (bstr [115])) rfl (z3t Tryz.underlying22 Tryz.underlying5 Tryz.underlying9 (by rfl) HH.out rfl) ?_)
 simp only [Nat.reduceAdd, qn]
 have q1 : (bstr [115]).toList = ([115] : List UInt8) := by first | rfl | decide | decide +kernel
 go_wp2_with (first | go_skip | (with_reducible refine zq ?_) | (with_reducible refine zv (s := 22) ?_) | fail)
 refine za (zi rfl (zl el31 [.int .u8 122] rfl (by simp [List.range'_succ]; first | done | rfl) (by simp [Value.cells]) (by simp)) ?_)
 rintro _ w11 ⟨g11, rfl, n11⟩
 simp only [Nat.reduceAdd, qn]
 go_wp2_with (first | go_skip | (with_reducible refine zq ?_) | (with_reducible refine zv (s := 22) ?_) | fail)
 refine za (zi rfl (zl el27 [.slice (some ⟨g11, 0, none⟩) 1 1] rfl (by simp [List.range'_succ]; first | done | rfl) (by simp [Value.cells]) (by simp)) ?_)
 rintro _ w12 ⟨g12, rfl, n12⟩
 simp only [Nat.reduceAdd, qn]
 have HL := qq (H.out.nb (n11.k.trans_nb n12.k))
 have ON := qq (z91 HL.out RS.out n12 n11 (by omega))
 clear n11 n12 H
 go_wp2_with fail
 refine ON.out.mono ?_
 rintro _ w19 ⟨rfl, k19⟩
 have HK := qq (HL.out.nb k19).k
 clear k19 ON HL HH q1
 go_wp2
 go_ret
 exact ⟨rfl, HK.out⟩
end Go.Proofs.YtpjomdmjohjheaaGreatDoor
end
section
namespace Go.Log
open Go.Lk Go.RowKit Go.Vfs
variable {W0 w w' w2 : World} {l d : Nat} {L L' : Lg} {X Y : Ds} {O O' B : Nat -> Prop}
def DB (W0 w : World) (d : Nat) (X : Ds) (B : Nat -> Prop) : Prop := ∃ F R, DiskAt w d F R X.D X.fc /\ (∀ k, B k ↔ F k \/ R k) /\ ∀ k, F k -> W0.heap.size <= k
def LB (W0 w : World) (l d : Nat) (L : Lg) (X : Ds) (B : Nat -> Prop) : Prop := ∃ Fd Rd FL RL, LgAt w l d Fd Rd FL RL L X /\ (∀ k, B k ↔ Fd k \/ Rd k \/ FL k \/ RL k) /\ (∀ k, Fd k -> W0.heap.size <= k) /\ ∀ k, FL k -> W0.heap.size <= k
theorem DB.keeps {S : Nat -> Prop} (h : DB W0 w d X B) (hk : Keeps S w w') (hn : ∀ k, B k -> ¬ S k) : DB W0 w' d X B := by
 obtain ⟨F, R, h1, h2, h3⟩ := h
 exact ⟨F, R, h1.keeps hk (fun k e => hn k ((h2 k).2 (.inl e))) (fun k e => hn k ((h2 k).2 (.inr e))), h2, h3⟩
theorem LB.keeps {S : Nat -> Prop} (h : LB W0 w l d L X B) (hk : Keeps S w w') (hn : ∀ k, B k -> ¬ S k) : LB W0 w' l d L X B := by
 obtain ⟨Fd, Rd, FL, RL, h1, h2, h3⟩ := h
 exact ⟨Fd, Rd, FL, RL, h1.keeps hk (fun k e => hn k ((h2 k).2 (.inl e))) (fun k e => hn k ((h2 k).2 (.inr (.inl e)))) (fun k e => hn k ((h2 k).2 (.inr (.inr (.inl e))))) (fun k e => hn k ((h2 k).2 (.inr (.inr (.inr e))))), h2, h3⟩
theorem DB.lt (h : DB W0 w d X B) {k : Nat} (hk : B k) : k < w.heap.size := by
 obtain ⟨F, R, h1, h2, h3⟩ := h
 exact ((h2 k).1 hk).elim (h1.ltF k) (h1.ltR k)
theorem LB.lt (h : LB W0 w l d L X B) {k : Nat} (hk : B k) : k < w.heap.size := by
 obtain ⟨Fd, Rd, FL, RL, h1, h2, h3⟩ := h
 exact ((h2 k).1 hk).elim (h1.disk.ltF k) fun e => e.elim (h1.disk.ltR k) fun e => e.elim (h1.ltF k) (h1.ltR k)
theorem DO.db (h : DO W0 w d X O) : ∃ B, DB W0 w d X B /\ ∀ k, O k -> ¬ B k := by
 obtain ⟨F, R, h1, h2, h3⟩ := h.ex
 exact ⟨fun k => F k \/ R k, ⟨F, R, h1, fun _ => Iff.rfl, h3⟩, fun k e f => f.elim (h2 k e).2.1 (h2 k e).2.2⟩
theorem LS.lb (h : LS W0 w l d L X O) : ∃ B, LB W0 w l d L X B /\ ∀ k, O k -> ¬ B k := by
 obtain ⟨Fd, Rd, FL, RL, h1, h2, h3, h3'⟩ := h.ex
 exact ⟨fun k => Fd k \/ Rd k \/ FL k \/ RL k, ⟨Fd, Rd, FL, RL, h1, fun _ => Iff.rfl, h3, h3'⟩, fun k e f => f.elim (h2 k e).2.1 fun f => f.elim (h2 k e).2.2.1 fun f => f.elim (h2 k e).2.2.2.1 (h2 k e).2.2.2.2⟩
theorem DB.do (h : DB W0 w d X B) (hk : Keeps Nb W0 w) (hv : Vars W0) (h6 : 6 <= W0.heap.size) (hO : ∀ k, O k -> k < w.heap.size /\ ¬ B k) : DO W0 w d X O := by
 obtain ⟨F, R, h1, h2, h3⟩ := h
 exact ⟨⟨F, R, h1, fun k e => ⟨(hO k e).1, fun f => (hO k e).2 ((h2 k).2 (.inl f)), fun f => (hO k e).2 ((h2 k).2 (.inr f))⟩, h3⟩, hk, hv, h6⟩
theorem LB.ls (h : LB W0 w l d L X B) (hk : Keeps Nb W0 w) (hv : Vars W0) (h6 : 6 <= W0.heap.size) (hO : ∀ k, O k -> k < w.heap.size /\ ¬ B k) : LS W0 w l d L X O := by
 obtain ⟨Fd, Rd, FL, RL, h1, h2, h3, h3'⟩ := h
 exact ⟨⟨Fd, Rd, FL, RL, h1, fun k e => ⟨(hO k e).1, fun f => (hO k e).2 ((h2 k).2 (.inl f)), fun f => (hO k e).2 ((h2 k).2 (.inr (.inl f))), fun f => (hO k e).2 ((h2 k).2 (.inr (.inr (.inl f)))), fun f => (hO k e).2 ((h2 k).2 (.inr (.inr (.inr f))))⟩, h3, h3'⟩, hk, hv, h6⟩
theorem z6f (hB : ∀ k, B k -> O k) : ∀ k, B k -> ¬ Oth W0 O k := fun k e f => f.2 (hB k e)
def sw : ByteArray := ⟨#[119]⟩
theorem zbw : mnB sw = true := by decide
theorem zbv : sw.size <= 16 := by decide
end Go.Log
namespace Go.Proofs.YtpjomdmjohjheaaGreatDoor
open Go.RowKit Go.Lk Go.Vfs Go.Log
variable {W0 w w' w2 : World} {l d : Nat} {L L' : Lg} {X Y : Ds} {O O' : Nat -> Prop} {e : Int} {c : Int} {most : Nat}
theorem z6a (hc : 24 <= c) (hr : openR sw most ⟨newD c, fun _ => ⟨[], 0⟩⟩ e L Y) : e = 0 /\ L = { lg0 sw most with first := 1, segment := 1, segments := 1 } /\ Y.D.fe = 0 /\ ∃ g, GS sw L Y g 2 24 1 c /\ g.sn = none /\ (∀ t b, Y.dir t = some b -> t = manf sw \/ t = sgf sw 1) := by
 obtain ⟨h1, h2, h3, h4, h5, g, h6, h7, h8⟩ := z8t zbw zbv (zd4 c) (zaj c) rfl (zd3 sw c) (by decide) (by omega) rfl hr
 refine ⟨h1, h2, h3, g, h6, h7, fun t b hb => ?_⟩
 rcases (h8 t).2 ⟨b, hb⟩ with h | h | ⟨-, b', h⟩
 ·
  exact .inl h
 ·
  exact .inr h
 ·
  exact absurd (show (none : Option Nat) = some b' from h) nofun
theorem zap {n : Nat} (hL : L = { lg0 sw most with first := 1, segment := 1, segments := 1 }) (hp : pot X <= 1000) (hn : n <= 1000) : PlayOk L X n := by
 subst hL
 exact ⟨by omega, by show 1 + n <= _; omega, by show 0 + n <= _; omega, by show 0 + 8 * n + 20000 <= _; omega⟩
theorem zg2 {steps : List StepD} {n : Int} (h : Few steps n) : ∀ s ∈ steps, s.b.length <= 20000 := by
 have key : ∀ (l : List StepD), (l.map wgt).sum <= 20000 -> ∀ s ∈ l, s.b.length <= 20000 := by
  intro l
  induction l with
  | nil => intro _ s hs; cases hs
  | cons a l ih =>
   intro hl s hs
   simp only [List.map_cons, List.sum_cons] at hl
   rcases List.mem_cons.1 hs with rfl | hs
   ·
    unfold wgt at hl; omega
   ·
    exact ih (by omega) s hs
 exact key steps h.2
def ks0 : Ks := ⟨ByteArray.empty, false, [], 0⟩
theorem zdg (w : World) (R : Nat -> Prop) : RB w R (.slice none 0 0) [] := ⟨none, 0, [], rfl, Nat.le_refl _, Nat.zero_le _, .inl rfl, (fun _ _ e => by cases e), .nil _ _⟩
end Go.Proofs.YtpjomdmjohjheaaGreatDoor
end
section
namespace Go.Proofs.YtpjomdmjohjheaaGreatDoor
open Go.Vfs Go.Log
variable {A B A' B' L L' : Lg} {X Y X' Y' : Ds} {e : Int} {x : List Nat} {n : Nat}
theorem may0 (hl : n <= mxr) (hb : L.bad = false) : mayE L n = 0 := by unfold mayE; rw [if_neg (by omega), hb]; rfl
theorem z8h (hl : x.length <= mxr) (hb : L.bad = false) (hr : appR L x X e L' Y) : L'.bad = true \/ (e = 0 /\ L'.bad = false /\ L'.recs = L.recs ++ [x] /\ L'.snap = L.snap /\ L'.has = L.has /\ L'.most = L.most /\ L'.synced <= L'.recs.length + L.synced /\
  ((L.size + (8 + x.length) <= L.most /\ L'.size = L.size + (8 + x.length) /\ L'.segments = L.segments) \/ (L.most < L.size + (8 + x.length) /\ L'.size = 0 /\ L'.segments = L.segments + 1))) := by
 rcases hr with ⟨h0, -⟩ | ⟨-, e1, Z, -, ⟨-, -, rfl, -⟩ | ⟨-, h1, h2, rfl, -⟩ | ⟨-, h1, -, ⟨-, rfl⟩ | ⟨h2, rfl⟩⟩⟩
 ·
  exact absurd (may0 hl hb) h0
 ·
  exact .inl rfl
 ·
  exact .inr ⟨h2, hb, rfl, rfl, rfl, rfl, Nat.le_add_left _ _, .inl ⟨h1, rfl, rfl⟩⟩
 ·
  exact .inl rfl
 ·
  exact .inr ⟨h2, hb, rfl, rfl, rfl, rfl, Nat.le_add_right _ _, .inr ⟨h1, rfl, rfl⟩⟩
theorem z9d (hb : L.bad = false) (hr : synR L X e L' Y) : (e ≠ 0 /\ L' = { L with bad := true }) \/ (e = 0 /\ L' = { L with synced := L.recs.length }) := by
 rcases hr with ⟨h0, -⟩ | ⟨-, -, h⟩
 ·
  exact absurd (may0 (Nat.zero_le _) hb) h0
 ·
  exact h
theorem z87 (hl : x.length <= mxr) (hb : L.bad = false) (hr : turnR L x X e L' Y) : (e ≠ 0 /\ L' = { L with bad := true }) \/ (e = 0 /\ L'.bad = false /\ L'.recs = [] /\ L'.snap = x /\ L'.has = true /\ L'.most = L.most /\ L'.size = 0 /\ L'.segments = 1) := by
 rcases hr with ⟨h0, -⟩ | ⟨-, -, ⟨h1, rfl⟩ | ⟨h1, rfl⟩⟩
 ·
  exact absurd (may0 hl hb) h0
 ·
  exact .inl ⟨h1, rfl⟩
 ·
  exact .inr ⟨h1, hb, rfl, rfl, rfl, rfl, rfl, rfl⟩
structure Sim (A B : Lg) : Prop where
 ba : A.bad = false
 bb : B.bad = false
 recs : A.recs = B.recs
 snap : A.snap = B.snap
 has : A.has = B.has
 most : B.most <= A.most
 cmp : A.segments < B.segments \/ (A.segments = B.segments /\ A.size <= B.size)
theorem z2a {l : List StepD} {k a b : Ks} (h : L.bad = true) (hr : playR l L X k L' Y a b) : L' = L := by
 cases l with
 | nil => exact hr.1
 | cons s l =>
  rcases hr with ⟨-, rfl, -⟩ | ⟨h0, -⟩ | ⟨h0, -⟩ | ⟨h0, -⟩ | ⟨h0, -⟩
  ·
   rfl
  all_goals exact absurd (h0.symm.trans h) (by decide)
theorem zeq {l : List StepD} : ∀ {A B : Lg} {X X' : Ds} {k k' a b a' b' : Ks}, Sim A B -> (∀ s ∈ l, s.b.length <= mxr) -> playR l A X k A' Y a b -> playR l B X' k' B' Y' a' b' -> A'.bad = false -> B'.bad = false -> Sim A' B' := by
 induction l with
 | nil => intro A B X X' k k' a b a' b' h _ h1 h2 _ _; obtain ⟨rfl, -⟩ := h1; obtain ⟨rfl, -⟩ := h2; exact h
 | cons s l ih =>
  intro A B X X' k k' a b a' b' h hs h1 h2 ga gb
  have hl : s.b.length <= mxr := hs s (by simp)
  have ht : ∀ t ∈ l, t.b.length <= mxr := fun t e => hs t (by simp [e])
  rcases h1 with ⟨g, -⟩ | ⟨-, g1, e, L1, Z, r1, p1⟩ | ⟨-, g1, e, L1, Z, r1, p1⟩ | ⟨-, g1, e, L1, Z, r1, p1⟩ | ⟨-, n1, n2, n3, p1⟩
  ·
   rw [h.ba] at g; cases g
  ·
   rcases h2 with ⟨g, -⟩ | ⟨-, -, e', L2, Z', r2, p2⟩ | ⟨-, g2, -⟩ | ⟨-, g2, -⟩ | ⟨-, g2, -⟩
   ·
    rw [h.bb] at g; cases g
   ·
    rcases z8h hl h.ba r1 with hb | ⟨-, a1, a2, a3, a4, a5, -, a6⟩
    ·
     rw [z2a hb p1, hb] at ga; cases ga
    ·
     rcases z8h hl h.bb r2 with hb | ⟨-, b1, b2, b3, b4, b5, -, b6⟩
     ·
      rw [z2a hb p2, hb] at gb; cases gb
     ·
      refine ih ⟨a1, b1, by rw [a2, b2, h.recs], by rw [a3, b3, h.snap], by rw [a4, b4, h.has], by rw [a5, b5]; exact h.most, ?_⟩ ht p1 p2 ga gb
      have hm := h.most; have hc := h.cmp
      omega
   ·
    omega
   ·
    omega
   ·
    exact absurd g1 g2
  ·
   rcases h2 with ⟨g, -⟩ | ⟨-, g2, -⟩ | ⟨-, -, e', L2, Z', r2, p2⟩ | ⟨-, g2, -⟩ | ⟨-, -, g2, -⟩
   ·
    rw [h.bb] at g; cases g
   ·
    omega
   ·
    rcases z9d h.ba r1 with ⟨-, rfl⟩ | ⟨-, rfl⟩
    ·
     rw [z2a rfl p1] at ga; cases ga
    ·
     rcases z9d h.bb r2 with ⟨-, rfl⟩ | ⟨-, rfl⟩
     ·
      rw [z2a rfl p2] at gb; cases gb
     ·
      refine ih (A := _) (B := _) ?_ ht p1 p2 ga gb
      exact ⟨h.ba, h.bb, h.recs, h.snap, h.has, h.most, h.cmp⟩
   ·
    omega
   ·
    exact absurd g1 g2
  ·
   rcases h2 with ⟨g, -⟩ | ⟨-, g2, -⟩ | ⟨-, g2, -⟩ | ⟨-, -, e', L2, Z', r2, p2⟩ | ⟨-, -, -, g2, -⟩
   ·
    rw [h.bb] at g; cases g
   ·
    omega
   ·
    omega
   ·
    rcases z87 hl h.ba r1 with ⟨-, rfl⟩ | ⟨e0, a1, a2, a3, a4, a5, a6, a7⟩
    ·
     rcases p1 with ⟨-, rfl, -⟩ | ⟨-, p1⟩
     ·
      cases ga
     ·
      rw [z2a rfl p1] at ga; cases ga
    ·
     rcases z87 hl h.bb r2 with ⟨-, rfl⟩ | ⟨e0', b1, b2, b3, b4, b5, b6, b7⟩
     ·
      rcases p2 with ⟨-, rfl, -⟩ | ⟨-, p2⟩
      ·
       cases gb
      ·
       rw [z2a rfl p2] at gb; cases gb
     ·
      rcases p1 with ⟨h0, -⟩ | ⟨-, p1⟩
      ·
       exact absurd e0 h0
      ·
       rcases p2 with ⟨h0, -⟩ | ⟨-, p2⟩
       ·
        exact absurd e0' h0
       ·
        exact ih ⟨a1, b1, by rw [a2, b2], by rw [a3, b3], by rw [a4, b4], by rw [a5, b5]; exact h.most, by omega⟩ ht p1 p2 ga gb
   ·
    exact absurd g1 g2
  ·
   rcases h2 with ⟨g, -⟩ | ⟨-, g2, -⟩ | ⟨-, g2, -⟩ | ⟨-, g2, -⟩ | ⟨-, -, -, -, p2⟩
   ·
    rw [h.bb] at g; cases g
   ·
    exact absurd g2 n1
   ·
    exact absurd g2 n2
   ·
    exact absurd g2 n3
   ·
    exact ih h ht p1 p2 ga gb
end Go.Proofs.YtpjomdmjohjheaaGreatDoor
end
section
namespace Go.Proofs.YtpjomdmjohjheaaGreatDoor.logSplits
open Go.RowKit Go.Lk Go.Vfs Go.Log Go.Proofs.YtpjomdmjohjheaaGreatDoor
theorem z5j (x : ByteArray) : (x == x) = true := by
 first
 | exact beq_self_eq_true x
 | (show decide (x = x) = true; simp)
 | (cases x with | mk d => show (d == d) = true; simp)
theorem body (w : World) (hv : Vars w) (h6 : 6 <= w.heap.size) (a : Option Addr) (m c : Nat) (steps : List StepD) (hs : StepsAt w w a m c steps) (most less : Int) : Calls Tryz.prog 6 #[.slice a m c, .int .i64 most, .int .i64 less] w fun e w' => e = .returned (.bool true) /\ Keeps Nb w w' := by
 have HV := qq hv; have H6 := qq h6; have HS := qq hs
 obtain ⟨hl, hmc, hcm, -⟩ := hs
 have hcm2 : m <= c /\ c <= 9223372036854775807 := by unfold maxLen at hcm; exact ⟨hmc, hcm⟩
 have HL := qq hl
 clear hmc hcm hv h6 hl
 go_enter Tryz.func6, Tryz.ntmps6
 go_wp2_with fail
 refine (zgf 30 a m c steps w w HS.out (by omega)).mono ?_
 rintro _ w1 ⟨r, rfl, hf, k1⟩
 have HF := qq hf
 have K1 := qq k1
 clear hf k1
 cases r with
 | true =>
  go_wp2_with fail
  refine (z1e w1 (HV.out.nb K1.out) (Nat.le_trans H6.out K1.out.size)).mono ?_
  rintro _ wk ⟨rfl, kk⟩
  go_wp2
  go_ret
  exact ⟨rfl, K1.out.trans_nb kk⟩
 | false =>
  have HFEW := qq (HF.out rfl)
  have hm : m <= 30 := by have := HFEW.out.1; rw [HL.out] at this; omega
  clear HF
  by_cases c1 : most < 20
  ·
   go_wp2_with fail
   refine (z1e w1 (HV.out.nb K1.out) (Nat.le_trans H6.out K1.out.size)).mono ?_
   rintro _ wk ⟨rfl, kk⟩
   go_wp2
   go_ret
   exact ⟨rfl, K1.out.trans_nb kk⟩
  by_cases c2 : most > 1048576
  ·
   go_wp2_with fail
   refine (z1e w1 (HV.out.nb K1.out) (Nat.le_trans H6.out K1.out.size)).mono ?_
   rintro _ wk ⟨rfl, kk⟩
   go_wp2
   go_ret
   exact ⟨rfl, K1.out.trans_nb kk⟩
  by_cases c3 : less < 20
  ·
   go_wp2_with fail
   refine (z1e w1 (HV.out.nb K1.out) (Nat.le_trans H6.out K1.out.size)).mono ?_
   rintro _ wk ⟨rfl, kk⟩
   go_wp2
   go_ret
   exact ⟨rfl, K1.out.trans_nb kk⟩
  by_cases c4 : less > most
  ·
   go_wp2_with fail
   refine (z1e w1 (HV.out.nb K1.out) (Nat.le_trans H6.out K1.out.size)).mono ?_
   rintro _ wk ⟨rfl, kk⟩
   go_wp2
   go_ret
   exact ⟨rfl, K1.out.trans_nb kk⟩
  obtain ⟨mo, rfl⟩ := Int.eq_ofNat_of_zero_le (show 0 <= most by omega)
  obtain ⟨le, rfl⟩ := Int.eq_ofNat_of_zero_le (show 0 <= less by omega)
  go_wp2_with fail
  refine (z8l (W0 := w) (O := fun _ => False) K1.out HV.out H6.out (fun _ e => e.elim) 200000 (by omega)).mono ?_
  rintro _ w2 ⟨d, rfl, hd, -⟩
  obtain ⟨Bd, db, -⟩ := hd.db
  have DB := qq db
  have DN := qq (z8l hd.k HV.out H6.out (fun k e => db.lt e) 200000 (by omega))
  clear hd db
  go_wp2_with fail
  refine DN.out.mono ?_
  rintro _ w3 ⟨o, rfl, ho, k3⟩
  obtain ⟨Bo, ob, hno⟩ := ho.db
  have OB := qq ob
  have OP := qq (z3r ((DB.out.keeps k3 (fun _ _ e => e)).do ho.k HV.out H6.out (O := Bo) (fun k e => ⟨ob.lt e, fun f => hno k f e⟩)) sw mo zbw zbv (by omega) (by omega) (by show pot ⟨newD 200000, _⟩ + 12 <= _; unfold pot; simp [newD]))
  clear ho k3 ob hno DN DB
  go_wp2_with fail
  refine OP.out.mono ?_
  rintro _ w4 ⟨er, A, X, hr, hp, hk4, hc⟩
  obtain ⟨rfl, hA, -, -⟩ := z6a (by omega) hr
  obtain ⟨-, x, rfl, hls⟩ := hc.resolve_right fun h => h.1 rfl
  obtain ⟨Bx, xb, hnx⟩ := hls.lb
  have PX : Hid (pot X <= 12) := qq hp
  have HA := qq hA
  have XB := qq xb
  have OP2 := qq (z3r ((OB.out.keeps hk4 (z6f fun _ e => e)).do hls.k HV.out H6.out (O := Bx) (fun k e => ⟨xb.lt e, fun f => hnx k f e⟩)) sw le zbw zbv (by omega) (by omega) (by show pot ⟨newD 200000, _⟩ + 12 <= _; unfold pot; simp [newD]))
  clear hr hp hk4 hc hA hls xb hnx OP OB
  go_wp2_with fail
  refine OP2.out.mono ?_
  rintro _ w5 ⟨er, B, Y, hr, hp, hk5, hc⟩
  obtain ⟨rfl, hB, -, -⟩ := z6a (by omega) hr
  obtain ⟨-, y, rfl, hls⟩ := hc.resolve_right fun h => h.1 rfl
  obtain ⟨By, yb, hny⟩ := hls.lb
  have PY : Hid (pot Y <= 12) := qq hp
  have HB := qq hB
  have YB := qq yb
  have LX := qq ((XB.out.keeps hk5 (z6f fun _ e => e)).ls hls.k HV.out H6.out (O := By) (fun k e => ⟨yb.lt e, fun f => hny k f e⟩))
  clear hr hp hk5 hc hB hls yb hny OP2 XB
  go_wp2_with fail
  refine (z0y 0 w5).mono ?_; rintro _ _ ⟨rfl, rfl⟩
  go_wp2_with fail
  refine (z0y 0 w5).mono ?_; rintro _ _ ⟨rfl, rfl⟩
  have PLX := qq (zao LX.out ks0 (.slice none 0 0) (zdg _ _) a c steps (by rw [HL.out]; exact HS.out) HFEW.out.2 (zap HA.out (by have := PX.out; omega) (by rw [HL.out]; omega)) (by rw [HL.out]; show 0 + m <= _; omega))
  rw [HL.out] at PLX
  go_wp2_with fail
  refine PLX.out.mono ?_
  rintro _ w6 ⟨Ka, Kb, va, vb, A', X', O', t, rfl, hls, hO, -, -, hra, -, -, hk6⟩
  have RA := qq hra
  obtain ⟨Bx, xb, hnx⟩ := (hls.mono hO).lb
  have XB := qq xb
  have LY := qq ((YB.out.keeps hk6 (z6f fun _ e => e)).ls hls.k HV.out H6.out (O := Bx) (fun k e => ⟨xb.lt e, fun f => hnx k f e⟩))
  clear hls hO hra hk6 xb hnx YB PLX LX
  have PLY := qq (zao LY.out ks0 (.slice none 0 0) (zdg _ _) a c steps (by rw [HL.out]; exact HS.out) HFEW.out.2 (zap HB.out (by have := PY.out; omega) (by rw [HL.out]; omega)) (by rw [HL.out]; show 0 + m <= _; omega))
  rw [HL.out] at PLY
  go_wp2_with fail
  refine PLY.out.mono ?_
  rintro _ w7 ⟨Ka', Kb', va', vb', B', Y', O', t', rfl, hls, hO, -, -, hrb, -, -, hk7⟩
  have RB := qq hrb
  obtain ⟨By, yb, hny⟩ := (hls.mono hO).lb
  have HX := qq ((XB.out.keeps hk7 (z6f fun _ e => e)).ls hls.k HV.out H6.out (O := By) (fun k e => ⟨yb.lt e, fun f => hny k f e⟩))
  have HY := qq hls
  clear hls hO hrb hk7 yb hny XB PLY LY
  go_wp2_with fail
  refine (zbh HX.out).mono ?_; rintro _ _ ⟨rfl, rfl⟩
  cases hba : A'.bad with
  | true =>
   go_wp2_with fail
   refine (z1e w7 (HV.out.nb HX.out.k) (Nat.le_trans H6.out HX.out.k.size)).mono ?_
   rintro _ wk ⟨rfl, kk⟩
   go_wp2
   go_ret
   exact ⟨rfl, HX.out.k.trans_nb kk⟩
  | false =>
   go_wp2_with fail
   refine (zbh HY.out).mono ?_; rintro _ _ ⟨rfl, rfl⟩
   cases hbb : B'.bad with
   | true =>
    go_wp2_with fail
    refine (z1e w7 (HV.out.nb HX.out.k) (Nat.le_trans H6.out HX.out.k.size)).mono ?_
    rintro _ wk ⟨rfl, kk⟩
    go_wp2
    go_ret
    exact ⟨rfl, HX.out.k.trans_nb kk⟩
   | false =>
    have SM : Hid (Sim A' B') := qq (zeq (A := A) (B := B) (by rw [HA.out, HB.out]; exact ⟨rfl, rfl, rfl, rfl, rfl, by show le <= mo; omega, .inr ⟨rfl, Nat.le_refl _⟩⟩) (fun s e => Nat.le_trans (zg2 HFEW.out s e) (by decide)) RA.out RB.out hba hbb)
    clear hba hbb RA RB HA HB PX PY
    obtain ⟨hz, hhz⟩ : ∃ z, B'.has = z := ⟨_, rfl⟩
    obtain ⟨sn, hsn⟩ : ∃ s, (if B'.has = true then B'.snap else []) = s := ⟨_, rfl⟩
    obtain ⟨sl, hsl⟩ : ∃ n, sn.length = n := ⟨_, rfl⟩
    have SPX := z71 HX.out
    rw [SM.out.has, SM.out.snap, hsn, hhz] at SPX
    replace SPX := qq SPX
    have HSN := qq hsn; have HHZ := qq hhz; have HSL := qq hsl
    clear hsn hhz hsl
    go_wp2_with fail
    refine SPX.out.mono ?_
    rintro _ w8 ⟨v, rfl, hb, k8⟩
    obtain ⟨ad, ac, rfl, -, -, hrd, -⟩ := id hb
    rw [HSL.out]
    have HH := qq hrd.has
    have HX8 := qq (HX.out.nb k8); have HY8 := qq (HY.out.nb k8)
    have SPY := z71 HY8.out
    rw [HSN.out, HHZ.out] at SPY
    replace SPY := qq SPY
    clear hb k8 hrd SPX HX HY
    go_wp2_with fail
    refine SPY.out.mono ?_
    rintro _ w9 ⟨v, rfl, hb, k9⟩
    obtain ⟨bd, bc, rfl, -, -, hrd, -⟩ := id hb
    rw [HSL.out]
    have HG := qq hrd.has
    have HH9 := qq (HH.out.keeps k9 (fun _ _ _ _ e => e))
    have HX9 := qq (HX8.out.nb k9); have HY9 := qq (HY8.out.nb k9)
    clear hb k9 hrd SPY HX8 HY8 HH
    go_wp2_with (first | go_skip | (with_reducible refine zv (s := 22) ?_) | fail)
    refine za (zu (v := .string (bstr sn)) rfl (z3t Tryz.underlying22 Tryz.underlying5 Tryz.underlying9 (by rfl) HH9.out HSL.out) ?_)
    simp only [Nat.reduceAdd, qn]
    go_wp2_with (first | go_skip | (with_reducible refine zv (s := 22) ?_) | fail)
    refine za (zu (v := .string (bstr sn)) rfl (z3t Tryz.underlying22 Tryz.underlying5 Tryz.underlying9 (by rfl) HG.out HSL.out) ?_)
    simp only [Nat.reduceAdd, qn]
    have GA := qq (zcw HX9.out)
    have hsb := z5j (bstr sn)
    cases hz
    all_goals
     go_wp2_with fail
     refine GA.out.mono ?_
     rintro _ w10 ⟨lv, vs, rfl, hr, hb, k10⟩
     obtain ⟨-, -, la, lc, rfl, -⟩ := id hr
     have ON := zae (wa := la) (wc := lc) (vs := vs) (HY9.out.nb k10) (by rw [<- SM.out.recs]; exact hr.mono (fun k e => e.2) (fun _ e => e)) (by rw [<- SM.out.recs]; exact hb.mono (fun k e => e.1.2))
     rw [<- SM.out.recs] at ON
     replace ON := qq ON
     have HX10 := qq (HX9.out.nb k10); have HY10 := qq (HY9.out.nb k10)
     obtain ⟨rn, hrn⟩ : ∃ n, A'.recs.length = n := ⟨_, rfl⟩
     rw [hrn] at ON ⊢
     clear hr hb k10 GA HX9 HY9 hrn
     go_wp2_with fail
     refine ON.out.mono ?_
     rintro _ w11 ⟨rfl, k11⟩
     have HX11 := qq (HX10.out.nb k11); have HY11 := qq (HY10.out.nb k11)
     clear k11 ON HX10 HY10
     go_wp2_with fail
     refine (zaf HY11.out).mono ?_; rintro _ _ ⟨rfl, rfl⟩
     go_wp2_with fail
     refine (zaf HX11.out).mono ?_; rintro _ _ ⟨rfl, rfl⟩
     have hge : (A'.segments : Int) <= (B'.segments : Int) := by have := SM.out.cmp; omega
     go_wp2_with fail
     refine (z1e w11 HX11.out.vars (Nat.le_trans H6.out HX11.out.k.size)).mono ?_
     rintro _ wk ⟨rfl, kk⟩
     go_wp2
     go_ret
     exact ⟨rfl, HX11.out.k.trans_nb kk⟩
theorem walk {H : Type} {enc : TypeId × Value -> H} {base : Nat} (w : World) (hv : Vars w) (h6 : 6 <= w.heap.size) {v0 : Value} {d0 : DataW H} {p0 : List MemPlace} (kv0 : Value.okWide Tryz.prog w .any base 34 v0) (k0 : DataW.Trod enc Tryz.prog w 0 (fun _ => true) true 34 v0 d0 p0) {a1 : Int} (w1 : (Lit.int .i64 a1).wf = true) {a2 : Int} (w2 : (Lit.int .i64 a2).wf = true) :
  Calls Tryz.prog 6 #[v0, .int .i64 a1, .int .i64 a2] w fun e w' => e = .returned (.bool true) /\ Below w.heap.size w w' := by
 obtain ⟨a, c, L, rfl, hs⟩ := zf3 kv0 k0
 refine (body w hv h6 a L.length c L hs a1 a2).mono ?_
 rintro e w' ⟨h1, h2⟩
 exact ⟨h1, h2.below⟩
end Go.Proofs.YtpjomdmjohjheaaGreatDoor.logSplits
end
