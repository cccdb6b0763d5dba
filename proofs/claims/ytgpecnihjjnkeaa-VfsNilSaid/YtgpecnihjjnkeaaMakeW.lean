/- Make: a file is made. -/
import Derived.Test.YtgpecnihjjnkeaaMk
set_option linter.unusedVariables false
set_option linter.unusedSimpArgs false
namespace Go.Lk
open Go.RowKit
variable {P : Program} {w w' : World} {ops : Array Oper} {rest : List Oper} {dst : Option Tmp} {s x : Operand} {t ty T : TypeId} {pos : String} {aft : Array Edge} {a : Act} {Q : Exit → Act → World → Prop} {v : Value}
theorem vbox1 (hx : a.eval x = v) (hv : v.cells = #[v]) (h : ∀ g w', NewAt w w' g (.cells #[v] t) → wpList P ops Q rest (a.put dst (.pointer (some ⟨g, 0, none⟩))) w') :
    wpList P ops Q (⟨dst, .box t x, ty, pos, aft, none⟩ :: rest) a w := by
  have h' := h _ _ (newAt w _)
  refine wpList_plain rfl fun K hK => ?_
  unfold Oper.wp execOp
  simp only [hx, Instr.box, newVar, newRow, hv, Sem.run_bind, Sem.run_pure, Result.andThen_ok, Sem.run, newObj]
  exact hK _ _ h'
end Go.Lk
namespace Go.Vfs
open Go.Lk Go.RowKit
variable {w w' : World} {R R' S F F' : Nat → Prop} {d b : Nat} {x : Fl} {D : Dk} {fc : Nat → Fl}
theorem chg_same (D : Dk) : (chg D).1.files = D.files ∧ (chg D).1.lasting = D.lasting ∧ (chg D).1.steps = D.steps ∧ (chg D).1.changes = D.changes + 1 ∧ (chg D).1.cap = D.cap := by
  unfold chg
  simp only
  split
  · exact ⟨rfl, rfl, rfl, rfl, rfl⟩
  · split <;> split <;> exact ⟨rfl, rfl, rfl, rfl, rfl⟩
theorem chg_nums (h : Nums D) (hc : D.changes < 1000000) : Nums (chg D).1 := by
  obtain ⟨e1, e2, e3, e4, e5⟩ := chg_same D
  obtain ⟨z1, z2, z3, z4, z5, z6, z7, z8⟩ := h
  refine ⟨e5 ▸ z1, by rw [e4]; omega, ?_, ?_, ?_, e1 ▸ z6, e2 ▸ z7, by rw [e3, e4]; omega⟩
  all_goals
    unfold chg
    simp only
    repeat' split
    all_goals first | omega | (simp only; omega) | exact z5 | simp
/-- The numbers that change leaves. -/
theorem DiskAt.chg (h : DiskAt w d F R D fc) {m1 m2 : Nat} {sv : Value} (hd : w.heap[d]? = some (.cells (dcs m1 m2 sv D) 61 (0, 0))) (hb : w'.heap[d]? = some (.cells (dcs m1 m2 sv (chg D).1) 61 (0, 0))) (hk : Keeps (· = d) w w') (hc : D.changes < 1000000) : DiskAt w' d F R (chg D).1 fc :=
  h.renum hd hb hk (chg_same D).1 (chg_same D).2.1 (chg_same D).2.2.1 (chg_nums h.nums hc)
/-- What Make comes to. -/
def MakeR (n : Nat) (D : Dk) (fc : Nat → Fl) (s : ByteArray) (e : Int) (D' : Dk) (fc' : Nat → Fl) : Prop :=
  (mnB s = false ∧ e = 2 ∧ D' = D ∧ fc' = fc) ∨ (mnB s = true ∧ (∃ b, flook D.files s = some b) ∧ e = 11 ∧ D' = D ∧ fc' = fc) ∨ (mnB s = true ∧ flook D.files s = none ∧ 64 ≤ D.files.length ∧ e = 5 ∧ D' = D ∧ fc' = fc) ∨
  (mnB s = true ∧ flook D.files s = none ∧ D.files.length < 64 ∧ D.dead = true ∧ e = 8 ∧ D' = D ∧ fc' = fc) ∨
  (mnB s = true ∧ flook D.files s = none ∧ D.files.length < 64 ∧ D.dead = false ∧ e = (chg D).2.2 ∧ (((chg D).2.1 = 1 ∧ ∃ b, n ≤ b ∧ D' = (chg D).1.make s b ∧ fc' = fun k => if k = b then ⟨[], 0⟩ else fc k) ∨ ((chg D).2.1 ≠ 1 ∧ D' = (chg D).1 ∧ fc' = fc)))
end Go.Vfs
namespace Go.Proofs.Ytgpecnihjjnkeaa
open Go.RowKit Go.Lk Go.Vfs
theorem Now.same {w w' : World} {d : Nat} {F R : Nat → Prop} {D : Dk} {fc : Nat → Fl} (h : DiskAt w d F R D fc) (hk : Keeps Nb w w') : Now w w' d F R D fc := Now.of (h.nb hk) ((Keeps.refl F w).trans_nb hk)
theorem _root_.Go.Vfs.Now.from {w w1 w2 : World} {d : Nat} {F R : Nat → Prop} {D : Dk} {fc : Nat → Fl} (h : Now w1 w2 d F R D fc) (hk : Keeps F w w1) : Now w w2 d F R D fc := by
  obtain ⟨F', R', h1, h2, h3, h4⟩ := h
  have := hk.size
  exact ⟨F', R', h1, fun k hk => (h2 k hk).imp id fun x => by omega, fun k hk => (h3 k hk).imp id fun x => by omega, hk.trans h4 (fun _ _ e => e)⟩
/-- A change that does nothing. -/
theorem ways_nothing {w w1 : World} {d : Nat} {F R : Nat → Prop} {D : Dk} {fc : Nat → Fl} (h : Now w w1 d F R D fc) : Calls Try.prog 36 #[] w1 fun e w' => (∃ v, e = .returned v) ∧ Now w w' d F R D fc :=
  (nothing_at w1).mono (by rintro e w' ⟨h1, rfl⟩; exact ⟨h1, h⟩)
set_option maxHeartbeats 4000000 in
set_option maxRecDepth 100000 in
theorem make_at (d : Nat) (s : ByteArray) (D : Dk) (F R : Nat → Prop) (fc : Nat → Fl) (w : World) (h : DiskAt w d F R D fc) (hs : s.size ≤ maxLen) (hc : D.changes < 1000000) :
    Calls Try.prog 15 #[.pointer (some ⟨d, 0, none⟩), .string s] w fun e w' => ∃ (er : Int) (D' : Dk) (fc' : Nat → Fl), e = .returned (.int .i64 er) ∧ Now w w' d F R D' fc' ∧ MakeR w.heap.size D fc s er D' fc' := by
  have H := Lib.hid h
  have HS := Lib.hid hs
  have HC := Lib.hid hc
  obtain ⟨⟨m1, m2, sv, h3, h4, h5, h6, h7, h8, h9⟩, g1, g2, g3, g3b, g4, g5, g6⟩ := h
  clear hs hc g2 g3 g3b g4 h5 h6 h7
  go_enter Try.func15, Try.ntmps15
  go_wp2_with (first | go_skip | (with_reducible refine stop_box (t := 25) ?_) | (with_reducible refine stop_box (t := 9) ?_))
  refine at_out (vbox1 (v := .pointer (some ⟨d, 0, none⟩)) (by rfl) (by rfl) ?_)
  intro a1 w1 n1
  simp only [Nat.reduceAdd, Nat.zero_add, Act.put, List.setIfInBounds_toArray, List.set_cons_succ, List.set_cons_zero]
  go_wp2_with (first | go_skip | (with_reducible refine stop_box (t := 25) ?_) | (with_reducible refine stop_box (t := 9) ?_))
  refine at_out (vbox1 (v := .string s) (by rfl) (by rfl) ?_)
  intro a2 w2 n2
  simp only [Nat.reduceAdd, Nat.zero_add, Act.put, List.setIfInBounds_toArray, List.set_cons_succ, List.set_cons_zero]
  have k2 : Keeps Nb w w2 := n1.k.trans_nb n2.k
  have b1 := n2.k.nb n1.blk
  have b2 := n2.blk
  have x1 : ¬ F a1 := fun e => by have := g5 _ e; have := n1.ge; omega
  have x2 : ¬ F a2 := fun e => by have := g5 _ e; have := n2.ge; have := n1.k.size; omega
  have c1 : w2.cell? ⟨a1, 0, none⟩ = some (.pointer (some ⟨d, 0, none⟩)) := cell_of_block b1
  have c2 : w2.cell? ⟨a2, 0, none⟩ = some (.string s) := cell_of_block b2
  have FA := Lib.hid (find_at d m1 m2 sv D w2 (k2.nb h3) (h4.nb k2) s HS.out)
  clear n1 n2
  go_wp2_with fail
  refine FA.out.mono ?_
  rintro _ w3 ⟨rfl, k23⟩
  have k3 : Keeps Nb w w3 := k2.trans_nb k23
  have b13 := k23.nb b1
  have b23 := k23.nb b2
  have c13 : w3.cell? ⟨a1, 0, none⟩ = some (.pointer (some ⟨d, 0, none⟩)) := cell_of_block b13
  have c23 : w3.cell? ⟨a2, 0, none⟩ = some (.string s) := cell_of_block b23
  clear FA b1 b2 c1 c2 k23
  rcases found_cases D s with ⟨q1, q2⟩ | ⟨q1, q2, q3⟩ | ⟨b, q1, q2, q3⟩
  · rw [q2]
    go_wp2
    go_ret
    exact ⟨_, _, _, rfl, Now.same H.out k3, .inl ⟨q1, rfl, rfl, rfl⟩⟩
  · rw [q3]
    obtain ⟨es, cl, hm, hlen⟩ := (h4.nb k3).len smT (.inr trivial)
    have hl64 := H.out.nums.nf
    obtain ⟨nf, hnf⟩ : ∃ n, n = D.files.length := ⟨_, rfl⟩
    have hrun : (Builtin.len_ #[56] 3 #[.map (some m1)]).run Try.prog w3 = .ok (.int .i64 nf) w3 := by
      rw [Go.run_len_map (P := Try.prog) (w := w3) 56 3 m1 es cl (by kernel_rfl) hm, hlen, hnf]; simp [vals, goInt]
    have d3 : w3.cell? ⟨d, 0, none⟩ = some (.map (some m1)) := cell_of_block (k3.nb h3)
    have HNF := Lib.hid hnf
    rw [← hnf] at hl64
    have Q1 := Lib.hid q1
    have Q2 := Lib.hid q2
    have H3 := Lib.hid h3
    have B13 := Lib.hid b13
    have B23 := Lib.hid b23
    have XF1 := Lib.hid x1
    have XF2 := Lib.hid x2
    clear hm hlen hnf q1 q2 q3 h4 h8 h9 g1 g5 g6 h3 x1 x2 b13 b23
    by_cases hl : 64 ≤ nf
    · go_wp2
      go_ret
      exact ⟨_, _, _, rfl, Now.same H.out k3, .inr (.inr (.inl ⟨Q1.out, Q2.out, by rw [← HNF.out]; exact hl, rfl, rfl, rfl⟩))⟩
    · have hl2 : D.files.length < 64 := by rw [← HNF.out]; omega
      have HL2 := Lib.hid hl2
      cases hdd : D.dead
      · have HW : Hid (Ways w3 d m1 m2 sv (chg D).1 (chg D).2.1 35 36 36 #[.pointer (some ⟨a1, 0, none⟩), .pointer (some ⟨a2, 0, none⟩)] #[] #[] fun w' => ∃ (D' : Dk) (fc' : Nat → Fl), Now w w' d F R D' fc' ∧ (((chg D).2.1 = 1 ∧ ∃ b, w.heap.size ≤ b ∧ D' = (chg D).1.make s b ∧ fc' = fun k => if k = b then ⟨[], 0⟩ else fc k) ∨ ((chg D).2.1 ≠ 1 ∧ D' = (chg D).1 ∧ fc' = fc))) := by
          intro w4 hb4 hk4
          have D4 := (H.out.nb k3).chg (k3.nb H3.out) hb4 hk4 HC.out
          have kw4 : Keeps F w w4 := ((Keeps.refl F w).trans_nb k3).trans hk4 (fun i _ e => e ▸ H.out.fd)
          have hn := chg_same D
          have nd1 : ¬ a1 = d := fun e => XF1.out (e ▸ H.out.fd)
          have nd2 : ¬ a2 = d := fun e => XF2.out (e ▸ H.out.fd)
          refine ⟨fun e => ⟨_, _, Now.of D4 kw4, .inr ⟨by omega, rfl, rfl⟩⟩, fun e => ?_, fun e => ?_, fun e => ?_⟩
          · refine (make1_at d a1 a2 s (chg D).1 F R fc w4 D4 (hk4.at B13.out nd1) (hk4.at B23.out nd2) XF1.out XF2.out HS.out Q1.out (by rw [hn.1]; exact Q2.out) (by rw [hn.1]; exact HL2.out) (by rw [hn.2.2.1, hn.2.2.2.1]; have := H.out.nums.ns; omega)).mono ?_
            rintro e5 w5 ⟨hv, b, hb, hN⟩
            have := kw4.size
            exact ⟨hv, _, _, hN.from kw4, .inl ⟨e, b, by omega, rfl, rfl⟩⟩
          · exact (nothing_at w4).mono (by rintro e5 w5 ⟨hv, rfl⟩; exact ⟨hv, _, _, Now.of D4 kw4, .inr ⟨by omega, rfl, rfl⟩⟩)
          · exact (nothing_at w4).mono (by rintro e5 w5 ⟨hv, rfl⟩; exact ⟨hv, _, _, Now.of D4 kw4, .inr ⟨by omega, rfl, rfl⟩⟩)
        have hnu := H.out.nums
        have CA := Lib.hid (change_at d m1 m2 sv D w3 (k3.nb H3.out) hdd ⟨hnu.ch.1, hnu.ch.2⟩ hnu.fu hnu.fn hnu.fe 35 36 36 #[.pointer (some ⟨a1, 0, none⟩), .pointer (some ⟨a2, 0, none⟩)] #[] #[] (fun _ _ => rfl) (fun _ _ => rfl) (fun _ _ => rfl) _ HW.out)
        have HD := Lib.hid hdd
        clear HW hdd hl2 hnu
        go_wp2_with fail
        refine CA.out.mono ?_
        rintro _ w9 ⟨rfl, D', fc', hN, hR⟩
        go_wp2
        go_ret
        exact ⟨_, _, _, rfl, hN, .inr (.inr (.inr (.inr ⟨Q1.out, Q2.out, HL2.out, HD.out, rfl, hR⟩)))⟩
      · have CA := Lib.hid (change_dead d m1 m2 sv D w3 (k3.nb H3.out) hdd (.func (.func 35) #[] #[.pointer (some ⟨a1, 0, none⟩), .pointer (some ⟨a2, 0, none⟩)]) (.func (.func 36) #[] #[]) (.func (.func 36) #[] #[]))
        have HD := Lib.hid hdd
        clear hdd hl2
        go_wp2_with fail
        refine CA.out.mono ?_
        rintro _ w9 ⟨rfl, rfl⟩
        go_wp2
        go_ret
        exact ⟨_, _, _, rfl, Now.same H.out k3, .inr (.inr (.inr (.inl ⟨Q1.out, Q2.out, HL2.out, HD.out, rfl, rfl, rfl⟩)))⟩
  · rw [q3]
    go_wp2
    go_ret
    exact ⟨_, _, _, rfl, Now.same H.out k3, .inr (.inl ⟨q1, ⟨b, q2⟩, rfl, rfl, rfl⟩)⟩
end Go.Proofs.Ytgpecnihjjnkeaa
