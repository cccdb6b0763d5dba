/- do: a step, done to a disk. -/
import Derived.Test.YtgpecnihjjnkeaaReadW
set_option linter.unusedVariables false
set_option linter.unusedSimpArgs false
namespace Go.Proofs.Ytgpecnihjjnkeaa
open Go.RowKit Go.Lk Go.Vfs
/-- What a step comes to. -/
def DoR (sz : Nat) (D : Dk) (fc : Nat → Fl) (s : StepD) (er : Int) (D' : Dk) (fc' : Nat → Fl) : Prop :=
  (s.kind = 1 ∧ MakeR sz D fc s.name er D' fc' ∧ ∀ b, Ref D b → b < sz) ∨ (s.kind = 2 ∧ AppR D fc s.name s.b er D' fc') ∨ (s.kind = 3 ∧ SyncR D fc s.name er D' fc') ∨ (s.kind = 4 ∧ CutR D fc s.name s.n er D' fc') ∨
  (s.kind = 5 ∧ RenR D s.name s.to er D' ∧ fc' = fc) ∨ (s.kind = 6 ∧ RemR D s.name er D' ∧ fc' = fc) ∨ (s.kind = 7 ∧ SdirR D er D' ∧ fc' = fc) ∨ (s.kind = 8 ∧ er = 0 ∧ D' = fuseD D s.n ∧ fc' = fc) ∨
  (s.kind = 9 ∧ (((s.n < 0 ∨ (s.e ≠ 5 ∧ s.e ≠ 9)) ∧ er = 2 ∧ D' = D) ∨ (0 ≤ s.n ∧ (s.e = 5 ∨ s.e = 9) ∧ er = 0 ∧ D' = layD D s.n s.e)) ∧ fc' = fc) ∨
  (s.kind = 10 ∧ er = 0 ∧ ∃ φ l2 bs, CrashR s.picks D fc D' fc' φ l2 bs) ∨ ((s.kind < 1 ∨ 10 < s.kind) ∧ er = 0 ∧ D' = D ∧ fc' = fc)
def DoA (W0 : World) (sz : Nat) (d : Nat) (D : Dk) (fc : Nat → Fl) (s : StepD) (e : Ending) (w' : World) : Prop :=
  ∃ er d' D' fc', e = .returned (.tuple #[.int .i64 er, .pointer (some ⟨d', 0, none⟩)]) ∧ Db W0 w' d' D' fc' ∧ (s.kind ≠ 10 → d' = d) ∧ DoR sz D fc s er D' fc'
variable {W0 w w' : World} {d : Nat} {D : Dk} {fc : Nat → Fl}
set_option maxHeartbeats 1000000 in
theorem lay_bad (h : Db W0 w d D fc) (n e : Int) (hb : n < 0 ∨ (e ≠ 5 ∧ e ≠ 9)) : Calls Try.prog 11 #[.pointer (some ⟨d, 0, none⟩), .int .i64 n, .int .i64 e] w fun r w' => r = .returned (.int .i64 2) ∧ w = w' := by
  obtain ⟨F, R, h⟩ := h
  obtain ⟨m1, m2, sv, h3, -⟩ := h.at_.ex
  obtain ⟨c0, -⟩ := cells9 h3
  have TH := Lib.hid (there_at d m1 (.map none) (.map none) [] w (c0 ⟨w, Keeps.refl _ _⟩))
  clear c0 h3 h
  by_cases hn : n < 0
  · clear hb
    go_enter Try.func11, Try.ntmps11
    go_wp2_with fail
    refine TH.out.mono ?_; rintro e w' ⟨rfl, rfl⟩
    go_wp2
    go_ret
    exact ⟨rfl, rfl⟩
  · obtain ⟨h5, h9⟩ := hb.resolve_left hn
    have b5 : (e != 5) = true := bne_iff_ne.2 h5
    have b9 : (e != 9) = true := bne_iff_ne.2 h9
    go_enter Try.func11, Try.ntmps11
    go_wp2_with fail
    refine TH.out.mono ?_; rintro e w' ⟨rfl, rfl⟩
    go_wp2
    go_ret
    exact ⟨rfl, rfl⟩
set_option maxHeartbeats 4000000 in
set_option maxRecDepth 100000 in
theorem do1 (h : Db W0 w d D fc) (s : StepD) (cs : List Value) (hst : StepV W0 w s cs) (hc : D.changes < 1000000) (hsz : s.b.length ≤ 20000) (hk : s.kind = 1) : Calls Try.prog 14 #[.pointer (some ⟨d, 0, none⟩), .agg cs.toArray] w (DoA W0 w.heap.size d D fc s) := by
  have ST := Lib.hid hst
  have HDB := Lib.hid h
  have HCH := Lib.hid hc
  obtain ⟨vb, vp, rfl, hB, hP, hn1, hn2, i1, i2, i3⟩ := hst
  have HB := Lib.hid hB
  have HP := Lib.hid hP
  have HN1 := Lib.hid hn1
  have HN2 := Lib.hid hn2
  have HI2 := Lib.hid i2
  have HSZ := Lib.hid hsz
  have hone : ∀ u ∈ stc s vb vp, u.oneCell' = true := by
    obtain ⟨_, _, rfl, -⟩ := hB
    obtain ⟨_, _, rfl, -⟩ := hP
    intro u hu
    simp only [stc, List.mem_cons, List.not_mem_nil, or_false] at hu
    rcases hu with rfl | rfl | rfl | rfl | rfl | rfl | rfl <;> rfl
  clear hB hP hn1 hn2 i1 i2 i3 h hc hsz
  go_enter Try.func14, Try.ntmps14
  go_wp2_with (first | go_skip | (with_reducible refine stop_load (t := 72) ?_) | (with_reducible refine stop_load (t := 61) ?_) | (with_reducible refine stop_alloc ?_) | (with_reducible refine stop_store ?_) | (with_reducible refine stop_makeMap ?_) | (with_reducible refine stop_rangem ?_) | (with_reducible refine stop_next ?_) | (with_reducible refine stop_entry ?_) | (with_reducible refine stop_buildSlice ?_) | (with_reducible refine stop_app ?_) | (with_reducible refine stop_mapUpdate ?_) | (with_reducible refine stop_lookup ?_) | (with_reducible refine stop_delete ?_) | (with_reducible refine stop_box ?_))
  refine at_out (vbox rfl ?_)
  intro g w1 n1
  simp only [Nat.reduceAdd, Nat.zero_add, Act.put, List.setIfInBounds_toArray, List.set_cons_succ, List.set_cons_zero]
  have c0 : w1.cell? ⟨g, 0, none⟩ = some (.int .i64 s.kind) := (cell_of_block n1.blk).trans rfl
  have c1 : w1.cell? ⟨g, 1, none⟩ = some (.int .i64 s.n) := (cell_of_block n1.blk).trans rfl
  have c2 : w1.cell? ⟨g, 2, none⟩ = some (.int .i64 s.e) := (cell_of_block n1.blk).trans rfl
  have c3 : w1.cell? ⟨g, 3, none⟩ = some (.string s.name) := (cell_of_block n1.blk).trans rfl
  have c4 : w1.cell? ⟨g, 4, none⟩ = some (.string s.to) := (cell_of_block n1.blk).trans rfl
  have c5 : w1.cell? ⟨g, 5, none⟩ = some vb := (cell_of_block n1.blk).trans rfl
  have c6 : w1.cell? ⟨g, 6, none⟩ = some vp := (cell_of_block n1.blk).trans rfl
  have D1 := Lib.hid (HDB.out.nb n1.k)
  have K1 := Lib.hid n1.k
  have BG := Lib.hid n1.blk
  clear n1
  rw [hk] at c0
  go_wp2_with fail
  refine (dmake D1.out s.name HN1.out HCH.out).mono ?_
  rintro _ w2 ⟨er, D', fc', rfl, hd, hr⟩
  have HD := Lib.hid hd
  have HR := Lib.hid hr
  clear hd hr
  go_wp2_with fail
  refine (num_at er w2).mono ?_; rintro _ _ ⟨rfl, rfl⟩
  go_wp2
  go_ret2
  have hmono : MakeR w.heap.size D fc s.name er D' fc' ∧ ∀ b, Ref D b → b < w.heap.size := by
    obtain ⟨hr, -⟩ := HR.out
    have hz := K1.out.size
    refine ⟨?_, fun b hb => by obtain ⟨F, R, h⟩ := HDB.out; exact h.at_.ltF b (h.at_.file b hb).2⟩
    rcases hr with h | h | h | h | ⟨h1, h2, h3, h4, h5, ⟨h6, b, h7, h8⟩ | h6⟩
    · exact .inl h
    · exact .inr (.inl h)
    · exact .inr (.inr (.inl h))
    · exact .inr (.inr (.inr (.inl h)))
    · exact .inr (.inr (.inr (.inr ⟨h1, h2, h3, h4, h5, .inl ⟨h6, b, by omega, h8⟩⟩)))
    · exact .inr (.inr (.inr (.inr ⟨h1, h2, h3, h4, h5, .inr h6⟩)))
  exact ⟨er, d, D', fc', rfl, HD.out, fun _ => rfl, .inl ⟨hk, hmono⟩⟩
set_option maxHeartbeats 4000000 in
set_option maxRecDepth 100000 in
theorem do3 (h : Db W0 w d D fc) (s : StepD) (cs : List Value) (hst : StepV W0 w s cs) (hc : D.changes < 1000000) (hsz : s.b.length ≤ 20000) (hk : s.kind = 3) : Calls Try.prog 14 #[.pointer (some ⟨d, 0, none⟩), .agg cs.toArray] w (DoA W0 w.heap.size d D fc s) := by
  have ST := Lib.hid hst
  have HDB := Lib.hid h
  have HCH := Lib.hid hc
  obtain ⟨vb, vp, rfl, hB, hP, hn1, hn2, i1, i2, i3⟩ := hst
  have HB := Lib.hid hB
  have HP := Lib.hid hP
  have HN1 := Lib.hid hn1
  have HN2 := Lib.hid hn2
  have HI2 := Lib.hid i2
  have HSZ := Lib.hid hsz
  have hone : ∀ u ∈ stc s vb vp, u.oneCell' = true := by
    obtain ⟨_, _, rfl, -⟩ := hB
    obtain ⟨_, _, rfl, -⟩ := hP
    intro u hu
    simp only [stc, List.mem_cons, List.not_mem_nil, or_false] at hu
    rcases hu with rfl | rfl | rfl | rfl | rfl | rfl | rfl <;> rfl
  clear hB hP hn1 hn2 i1 i2 i3 h hc hsz
  go_enter Try.func14, Try.ntmps14
  go_wp2_with (first | go_skip | (with_reducible refine stop_load (t := 72) ?_) | (with_reducible refine stop_load (t := 61) ?_) | (with_reducible refine stop_alloc ?_) | (with_reducible refine stop_store ?_) | (with_reducible refine stop_makeMap ?_) | (with_reducible refine stop_rangem ?_) | (with_reducible refine stop_next ?_) | (with_reducible refine stop_entry ?_) | (with_reducible refine stop_buildSlice ?_) | (with_reducible refine stop_app ?_) | (with_reducible refine stop_mapUpdate ?_) | (with_reducible refine stop_lookup ?_) | (with_reducible refine stop_delete ?_) | (with_reducible refine stop_box ?_))
  refine at_out (vbox rfl ?_)
  intro g w1 n1
  simp only [Nat.reduceAdd, Nat.zero_add, Act.put, List.setIfInBounds_toArray, List.set_cons_succ, List.set_cons_zero]
  have c0 : w1.cell? ⟨g, 0, none⟩ = some (.int .i64 s.kind) := (cell_of_block n1.blk).trans rfl
  have c1 : w1.cell? ⟨g, 1, none⟩ = some (.int .i64 s.n) := (cell_of_block n1.blk).trans rfl
  have c2 : w1.cell? ⟨g, 2, none⟩ = some (.int .i64 s.e) := (cell_of_block n1.blk).trans rfl
  have c3 : w1.cell? ⟨g, 3, none⟩ = some (.string s.name) := (cell_of_block n1.blk).trans rfl
  have c4 : w1.cell? ⟨g, 4, none⟩ = some (.string s.to) := (cell_of_block n1.blk).trans rfl
  have c5 : w1.cell? ⟨g, 5, none⟩ = some vb := (cell_of_block n1.blk).trans rfl
  have c6 : w1.cell? ⟨g, 6, none⟩ = some vp := (cell_of_block n1.blk).trans rfl
  have D1 := Lib.hid (HDB.out.nb n1.k)
  have K1 := Lib.hid n1.k
  have BG := Lib.hid n1.blk
  clear n1
  rw [hk] at c0
  go_wp2_with fail
  refine (dsync D1.out s.name HN1.out HCH.out).mono ?_
  rintro _ w2 ⟨er, D', fc', rfl, hd, hr⟩
  have HD := Lib.hid hd
  have HR := Lib.hid hr
  clear hd hr
  go_wp2_with fail
  refine (num_at er w2).mono ?_; rintro _ _ ⟨rfl, rfl⟩
  go_wp2
  go_ret2
  exact ⟨er, d, D', fc', rfl, HD.out, fun _ => rfl, .inr (.inr (.inl ⟨hk, HR.out⟩))⟩
set_option maxHeartbeats 4000000 in
set_option maxRecDepth 100000 in
theorem do4 (h : Db W0 w d D fc) (s : StepD) (cs : List Value) (hst : StepV W0 w s cs) (hc : D.changes < 1000000) (hsz : s.b.length ≤ 20000) (hk : s.kind = 4) : Calls Try.prog 14 #[.pointer (some ⟨d, 0, none⟩), .agg cs.toArray] w (DoA W0 w.heap.size d D fc s) := by
  have ST := Lib.hid hst
  have HDB := Lib.hid h
  have HCH := Lib.hid hc
  obtain ⟨vb, vp, rfl, hB, hP, hn1, hn2, i1, i2, i3⟩ := hst
  have HB := Lib.hid hB
  have HP := Lib.hid hP
  have HN1 := Lib.hid hn1
  have HN2 := Lib.hid hn2
  have HI2 := Lib.hid i2
  have HSZ := Lib.hid hsz
  have hone : ∀ u ∈ stc s vb vp, u.oneCell' = true := by
    obtain ⟨_, _, rfl, -⟩ := hB
    obtain ⟨_, _, rfl, -⟩ := hP
    intro u hu
    simp only [stc, List.mem_cons, List.not_mem_nil, or_false] at hu
    rcases hu with rfl | rfl | rfl | rfl | rfl | rfl | rfl <;> rfl
  clear hB hP hn1 hn2 i1 i2 i3 h hc hsz
  go_enter Try.func14, Try.ntmps14
  go_wp2_with (first | go_skip | (with_reducible refine stop_load (t := 72) ?_) | (with_reducible refine stop_load (t := 61) ?_) | (with_reducible refine stop_alloc ?_) | (with_reducible refine stop_store ?_) | (with_reducible refine stop_makeMap ?_) | (with_reducible refine stop_rangem ?_) | (with_reducible refine stop_next ?_) | (with_reducible refine stop_entry ?_) | (with_reducible refine stop_buildSlice ?_) | (with_reducible refine stop_app ?_) | (with_reducible refine stop_mapUpdate ?_) | (with_reducible refine stop_lookup ?_) | (with_reducible refine stop_delete ?_) | (with_reducible refine stop_box ?_))
  refine at_out (vbox rfl ?_)
  intro g w1 n1
  simp only [Nat.reduceAdd, Nat.zero_add, Act.put, List.setIfInBounds_toArray, List.set_cons_succ, List.set_cons_zero]
  have c0 : w1.cell? ⟨g, 0, none⟩ = some (.int .i64 s.kind) := (cell_of_block n1.blk).trans rfl
  have c1 : w1.cell? ⟨g, 1, none⟩ = some (.int .i64 s.n) := (cell_of_block n1.blk).trans rfl
  have c2 : w1.cell? ⟨g, 2, none⟩ = some (.int .i64 s.e) := (cell_of_block n1.blk).trans rfl
  have c3 : w1.cell? ⟨g, 3, none⟩ = some (.string s.name) := (cell_of_block n1.blk).trans rfl
  have c4 : w1.cell? ⟨g, 4, none⟩ = some (.string s.to) := (cell_of_block n1.blk).trans rfl
  have c5 : w1.cell? ⟨g, 5, none⟩ = some vb := (cell_of_block n1.blk).trans rfl
  have c6 : w1.cell? ⟨g, 6, none⟩ = some vp := (cell_of_block n1.blk).trans rfl
  have D1 := Lib.hid (HDB.out.nb n1.k)
  have K1 := Lib.hid n1.k
  have BG := Lib.hid n1.blk
  clear n1
  rw [hk] at c0
  go_wp2_with fail
  refine (dcut D1.out s.name s.n HN1.out HI2.out HCH.out).mono ?_
  rintro _ w2 ⟨er, D', fc', rfl, hd, hr⟩
  have HD := Lib.hid hd
  have HR := Lib.hid hr
  clear hd hr
  go_wp2_with fail
  refine (num_at er w2).mono ?_; rintro _ _ ⟨rfl, rfl⟩
  go_wp2
  go_ret2
  exact ⟨er, d, D', fc', rfl, HD.out, fun _ => rfl, .inr (.inr (.inr (.inl ⟨hk, HR.out⟩)))⟩
set_option maxHeartbeats 4000000 in
set_option maxRecDepth 100000 in
theorem do5 (h : Db W0 w d D fc) (s : StepD) (cs : List Value) (hst : StepV W0 w s cs) (hc : D.changes < 1000000) (hsz : s.b.length ≤ 20000) (hk : s.kind = 5) : Calls Try.prog 14 #[.pointer (some ⟨d, 0, none⟩), .agg cs.toArray] w (DoA W0 w.heap.size d D fc s) := by
  have ST := Lib.hid hst
  have HDB := Lib.hid h
  have HCH := Lib.hid hc
  obtain ⟨vb, vp, rfl, hB, hP, hn1, hn2, i1, i2, i3⟩ := hst
  have HB := Lib.hid hB
  have HP := Lib.hid hP
  have HN1 := Lib.hid hn1
  have HN2 := Lib.hid hn2
  have HI2 := Lib.hid i2
  have HSZ := Lib.hid hsz
  have hone : ∀ u ∈ stc s vb vp, u.oneCell' = true := by
    obtain ⟨_, _, rfl, -⟩ := hB
    obtain ⟨_, _, rfl, -⟩ := hP
    intro u hu
    simp only [stc, List.mem_cons, List.not_mem_nil, or_false] at hu
    rcases hu with rfl | rfl | rfl | rfl | rfl | rfl | rfl <;> rfl
  clear hB hP hn1 hn2 i1 i2 i3 h hc hsz
  go_enter Try.func14, Try.ntmps14
  go_wp2_with (first | go_skip | (with_reducible refine stop_load (t := 72) ?_) | (with_reducible refine stop_load (t := 61) ?_) | (with_reducible refine stop_alloc ?_) | (with_reducible refine stop_store ?_) | (with_reducible refine stop_makeMap ?_) | (with_reducible refine stop_rangem ?_) | (with_reducible refine stop_next ?_) | (with_reducible refine stop_entry ?_) | (with_reducible refine stop_buildSlice ?_) | (with_reducible refine stop_app ?_) | (with_reducible refine stop_mapUpdate ?_) | (with_reducible refine stop_lookup ?_) | (with_reducible refine stop_delete ?_) | (with_reducible refine stop_box ?_))
  refine at_out (vbox rfl ?_)
  intro g w1 n1
  simp only [Nat.reduceAdd, Nat.zero_add, Act.put, List.setIfInBounds_toArray, List.set_cons_succ, List.set_cons_zero]
  have c0 : w1.cell? ⟨g, 0, none⟩ = some (.int .i64 s.kind) := (cell_of_block n1.blk).trans rfl
  have c1 : w1.cell? ⟨g, 1, none⟩ = some (.int .i64 s.n) := (cell_of_block n1.blk).trans rfl
  have c2 : w1.cell? ⟨g, 2, none⟩ = some (.int .i64 s.e) := (cell_of_block n1.blk).trans rfl
  have c3 : w1.cell? ⟨g, 3, none⟩ = some (.string s.name) := (cell_of_block n1.blk).trans rfl
  have c4 : w1.cell? ⟨g, 4, none⟩ = some (.string s.to) := (cell_of_block n1.blk).trans rfl
  have c5 : w1.cell? ⟨g, 5, none⟩ = some vb := (cell_of_block n1.blk).trans rfl
  have c6 : w1.cell? ⟨g, 6, none⟩ = some vp := (cell_of_block n1.blk).trans rfl
  have D1 := Lib.hid (HDB.out.nb n1.k)
  have K1 := Lib.hid n1.k
  have BG := Lib.hid n1.blk
  clear n1
  rw [hk] at c0
  go_wp2_with fail
  refine (dren D1.out s.name s.to HN1.out HN2.out HCH.out).mono ?_
  rintro _ w2 ⟨er, D', fc', rfl, hd, hr⟩
  have HD := Lib.hid hd
  have HR := Lib.hid hr
  clear hd hr
  go_wp2_with fail
  refine (num_at er w2).mono ?_; rintro _ _ ⟨rfl, rfl⟩
  go_wp2
  go_ret2
  exact ⟨er, d, D', fc', rfl, HD.out, fun _ => rfl, .inr (.inr (.inr (.inr (.inl ⟨hk, HR.out⟩))))⟩
set_option maxHeartbeats 4000000 in
set_option maxRecDepth 100000 in
theorem do6 (h : Db W0 w d D fc) (s : StepD) (cs : List Value) (hst : StepV W0 w s cs) (hc : D.changes < 1000000) (hsz : s.b.length ≤ 20000) (hk : s.kind = 6) : Calls Try.prog 14 #[.pointer (some ⟨d, 0, none⟩), .agg cs.toArray] w (DoA W0 w.heap.size d D fc s) := by
  have ST := Lib.hid hst
  have HDB := Lib.hid h
  have HCH := Lib.hid hc
  obtain ⟨vb, vp, rfl, hB, hP, hn1, hn2, i1, i2, i3⟩ := hst
  have HB := Lib.hid hB
  have HP := Lib.hid hP
  have HN1 := Lib.hid hn1
  have HN2 := Lib.hid hn2
  have HI2 := Lib.hid i2
  have HSZ := Lib.hid hsz
  have hone : ∀ u ∈ stc s vb vp, u.oneCell' = true := by
    obtain ⟨_, _, rfl, -⟩ := hB
    obtain ⟨_, _, rfl, -⟩ := hP
    intro u hu
    simp only [stc, List.mem_cons, List.not_mem_nil, or_false] at hu
    rcases hu with rfl | rfl | rfl | rfl | rfl | rfl | rfl <;> rfl
  clear hB hP hn1 hn2 i1 i2 i3 h hc hsz
  go_enter Try.func14, Try.ntmps14
  go_wp2_with (first | go_skip | (with_reducible refine stop_load (t := 72) ?_) | (with_reducible refine stop_load (t := 61) ?_) | (with_reducible refine stop_alloc ?_) | (with_reducible refine stop_store ?_) | (with_reducible refine stop_makeMap ?_) | (with_reducible refine stop_rangem ?_) | (with_reducible refine stop_next ?_) | (with_reducible refine stop_entry ?_) | (with_reducible refine stop_buildSlice ?_) | (with_reducible refine stop_app ?_) | (with_reducible refine stop_mapUpdate ?_) | (with_reducible refine stop_lookup ?_) | (with_reducible refine stop_delete ?_) | (with_reducible refine stop_box ?_))
  refine at_out (vbox rfl ?_)
  intro g w1 n1
  simp only [Nat.reduceAdd, Nat.zero_add, Act.put, List.setIfInBounds_toArray, List.set_cons_succ, List.set_cons_zero]
  have c0 : w1.cell? ⟨g, 0, none⟩ = some (.int .i64 s.kind) := (cell_of_block n1.blk).trans rfl
  have c1 : w1.cell? ⟨g, 1, none⟩ = some (.int .i64 s.n) := (cell_of_block n1.blk).trans rfl
  have c2 : w1.cell? ⟨g, 2, none⟩ = some (.int .i64 s.e) := (cell_of_block n1.blk).trans rfl
  have c3 : w1.cell? ⟨g, 3, none⟩ = some (.string s.name) := (cell_of_block n1.blk).trans rfl
  have c4 : w1.cell? ⟨g, 4, none⟩ = some (.string s.to) := (cell_of_block n1.blk).trans rfl
  have c5 : w1.cell? ⟨g, 5, none⟩ = some vb := (cell_of_block n1.blk).trans rfl
  have c6 : w1.cell? ⟨g, 6, none⟩ = some vp := (cell_of_block n1.blk).trans rfl
  have D1 := Lib.hid (HDB.out.nb n1.k)
  have K1 := Lib.hid n1.k
  have BG := Lib.hid n1.blk
  clear n1
  rw [hk] at c0
  go_wp2_with fail
  refine (drem D1.out s.name HN1.out HCH.out).mono ?_
  rintro _ w2 ⟨er, D', fc', rfl, hd, hr⟩
  have HD := Lib.hid hd
  have HR := Lib.hid hr
  clear hd hr
  go_wp2_with fail
  refine (num_at er w2).mono ?_; rintro _ _ ⟨rfl, rfl⟩
  go_wp2
  go_ret2
  exact ⟨er, d, D', fc', rfl, HD.out, fun _ => rfl, .inr (.inr (.inr (.inr (.inr (.inl ⟨hk, HR.out⟩)))))⟩
set_option maxHeartbeats 4000000 in
set_option maxRecDepth 100000 in
theorem do7 (h : Db W0 w d D fc) (s : StepD) (cs : List Value) (hst : StepV W0 w s cs) (hc : D.changes < 1000000) (hsz : s.b.length ≤ 20000) (hk : s.kind = 7) : Calls Try.prog 14 #[.pointer (some ⟨d, 0, none⟩), .agg cs.toArray] w (DoA W0 w.heap.size d D fc s) := by
  have ST := Lib.hid hst
  have HDB := Lib.hid h
  have HCH := Lib.hid hc
  obtain ⟨vb, vp, rfl, hB, hP, hn1, hn2, i1, i2, i3⟩ := hst
  have HB := Lib.hid hB
  have HP := Lib.hid hP
  have HN1 := Lib.hid hn1
  have HN2 := Lib.hid hn2
  have HI2 := Lib.hid i2
  have HSZ := Lib.hid hsz
  have hone : ∀ u ∈ stc s vb vp, u.oneCell' = true := by
    obtain ⟨_, _, rfl, -⟩ := hB
    obtain ⟨_, _, rfl, -⟩ := hP
    intro u hu
    simp only [stc, List.mem_cons, List.not_mem_nil, or_false] at hu
    rcases hu with rfl | rfl | rfl | rfl | rfl | rfl | rfl <;> rfl
  clear hB hP hn1 hn2 i1 i2 i3 h hc hsz
  go_enter Try.func14, Try.ntmps14
  go_wp2_with (first | go_skip | (with_reducible refine stop_load (t := 72) ?_) | (with_reducible refine stop_load (t := 61) ?_) | (with_reducible refine stop_alloc ?_) | (with_reducible refine stop_store ?_) | (with_reducible refine stop_makeMap ?_) | (with_reducible refine stop_rangem ?_) | (with_reducible refine stop_next ?_) | (with_reducible refine stop_entry ?_) | (with_reducible refine stop_buildSlice ?_) | (with_reducible refine stop_app ?_) | (with_reducible refine stop_mapUpdate ?_) | (with_reducible refine stop_lookup ?_) | (with_reducible refine stop_delete ?_) | (with_reducible refine stop_box ?_))
  refine at_out (vbox rfl ?_)
  intro g w1 n1
  simp only [Nat.reduceAdd, Nat.zero_add, Act.put, List.setIfInBounds_toArray, List.set_cons_succ, List.set_cons_zero]
  have c0 : w1.cell? ⟨g, 0, none⟩ = some (.int .i64 s.kind) := (cell_of_block n1.blk).trans rfl
  have c1 : w1.cell? ⟨g, 1, none⟩ = some (.int .i64 s.n) := (cell_of_block n1.blk).trans rfl
  have c2 : w1.cell? ⟨g, 2, none⟩ = some (.int .i64 s.e) := (cell_of_block n1.blk).trans rfl
  have c3 : w1.cell? ⟨g, 3, none⟩ = some (.string s.name) := (cell_of_block n1.blk).trans rfl
  have c4 : w1.cell? ⟨g, 4, none⟩ = some (.string s.to) := (cell_of_block n1.blk).trans rfl
  have c5 : w1.cell? ⟨g, 5, none⟩ = some vb := (cell_of_block n1.blk).trans rfl
  have c6 : w1.cell? ⟨g, 6, none⟩ = some vp := (cell_of_block n1.blk).trans rfl
  have D1 := Lib.hid (HDB.out.nb n1.k)
  have K1 := Lib.hid n1.k
  have BG := Lib.hid n1.blk
  clear n1
  rw [hk] at c0
  go_wp2_with fail
  refine (dsdir D1.out HCH.out).mono ?_
  rintro _ w2 ⟨er, D', fc', rfl, hd, hr⟩
  have HD := Lib.hid hd
  have HR := Lib.hid hr
  clear hd hr
  go_wp2_with fail
  refine (num_at er w2).mono ?_; rintro _ _ ⟨rfl, rfl⟩
  go_wp2
  go_ret2
  exact ⟨er, d, D', fc', rfl, HD.out, fun _ => rfl, .inr (.inr (.inr (.inr (.inr (.inr (.inl ⟨hk, HR.out⟩))))))⟩
set_option maxHeartbeats 4000000 in
set_option maxRecDepth 100000 in
theorem do8 (h : Db W0 w d D fc) (s : StepD) (cs : List Value) (hst : StepV W0 w s cs) (hc : D.changes < 1000000) (hsz : s.b.length ≤ 20000) (hk : s.kind = 8) : Calls Try.prog 14 #[.pointer (some ⟨d, 0, none⟩), .agg cs.toArray] w (DoA W0 w.heap.size d D fc s) := by
  have ST := Lib.hid hst
  have HDB := Lib.hid h
  have HCH := Lib.hid hc
  obtain ⟨vb, vp, rfl, hB, hP, hn1, hn2, i1, i2, i3⟩ := hst
  have HB := Lib.hid hB
  have HP := Lib.hid hP
  have HN1 := Lib.hid hn1
  have HN2 := Lib.hid hn2
  have HI2 := Lib.hid i2
  have HSZ := Lib.hid hsz
  have hone : ∀ u ∈ stc s vb vp, u.oneCell' = true := by
    obtain ⟨_, _, rfl, -⟩ := hB
    obtain ⟨_, _, rfl, -⟩ := hP
    intro u hu
    simp only [stc, List.mem_cons, List.not_mem_nil, or_false] at hu
    rcases hu with rfl | rfl | rfl | rfl | rfl | rfl | rfl <;> rfl
  clear hB hP hn1 hn2 i1 i2 i3 h hc hsz
  go_enter Try.func14, Try.ntmps14
  go_wp2_with (first | go_skip | (with_reducible refine stop_load (t := 72) ?_) | (with_reducible refine stop_load (t := 61) ?_) | (with_reducible refine stop_alloc ?_) | (with_reducible refine stop_store ?_) | (with_reducible refine stop_makeMap ?_) | (with_reducible refine stop_rangem ?_) | (with_reducible refine stop_next ?_) | (with_reducible refine stop_entry ?_) | (with_reducible refine stop_buildSlice ?_) | (with_reducible refine stop_app ?_) | (with_reducible refine stop_mapUpdate ?_) | (with_reducible refine stop_lookup ?_) | (with_reducible refine stop_delete ?_) | (with_reducible refine stop_box ?_))
  refine at_out (vbox rfl ?_)
  intro g w1 n1
  simp only [Nat.reduceAdd, Nat.zero_add, Act.put, List.setIfInBounds_toArray, List.set_cons_succ, List.set_cons_zero]
  have c0 : w1.cell? ⟨g, 0, none⟩ = some (.int .i64 s.kind) := (cell_of_block n1.blk).trans rfl
  have c1 : w1.cell? ⟨g, 1, none⟩ = some (.int .i64 s.n) := (cell_of_block n1.blk).trans rfl
  have c2 : w1.cell? ⟨g, 2, none⟩ = some (.int .i64 s.e) := (cell_of_block n1.blk).trans rfl
  have c3 : w1.cell? ⟨g, 3, none⟩ = some (.string s.name) := (cell_of_block n1.blk).trans rfl
  have c4 : w1.cell? ⟨g, 4, none⟩ = some (.string s.to) := (cell_of_block n1.blk).trans rfl
  have c5 : w1.cell? ⟨g, 5, none⟩ = some vb := (cell_of_block n1.blk).trans rfl
  have c6 : w1.cell? ⟨g, 6, none⟩ = some vp := (cell_of_block n1.blk).trans rfl
  have D1 := Lib.hid (HDB.out.nb n1.k)
  have K1 := Lib.hid n1.k
  have BG := Lib.hid n1.blk
  clear n1
  rw [hk] at c0
  go_wp2_with fail
  refine (dfuse D1.out s.n HI2.out).mono ?_
  rintro _ w2 ⟨⟨v, rfl⟩, hd⟩
  have HD := Lib.hid hd
  clear hd
  go_wp2
  go_ret2
  exact ⟨0, d, _, _, rfl, HD.out, fun _ => rfl, .inr (.inr (.inr (.inr (.inr (.inr (.inr (.inl ⟨hk, rfl, rfl, rfl⟩)))))))⟩
set_option maxHeartbeats 4000000 in
set_option maxRecDepth 100000 in
theorem do9 (h : Db W0 w d D fc) (s : StepD) (cs : List Value) (hst : StepV W0 w s cs) (hc : D.changes < 1000000) (hsz : s.b.length ≤ 20000) (hk : s.kind = 9) : Calls Try.prog 14 #[.pointer (some ⟨d, 0, none⟩), .agg cs.toArray] w (DoA W0 w.heap.size d D fc s) := by
  have ST := Lib.hid hst
  have HDB := Lib.hid h
  have HCH := Lib.hid hc
  obtain ⟨vb, vp, rfl, hB, hP, hn1, hn2, i1, i2, i3⟩ := hst
  have HB := Lib.hid hB
  have HP := Lib.hid hP
  have HN1 := Lib.hid hn1
  have HN2 := Lib.hid hn2
  have HI2 := Lib.hid i2
  have HSZ := Lib.hid hsz
  have hone : ∀ u ∈ stc s vb vp, u.oneCell' = true := by
    obtain ⟨_, _, rfl, -⟩ := hB
    obtain ⟨_, _, rfl, -⟩ := hP
    intro u hu
    simp only [stc, List.mem_cons, List.not_mem_nil, or_false] at hu
    rcases hu with rfl | rfl | rfl | rfl | rfl | rfl | rfl <;> rfl
  clear hB hP hn1 hn2 i1 i2 i3 h hc hsz
  go_enter Try.func14, Try.ntmps14
  go_wp2_with (first | go_skip | (with_reducible refine stop_load (t := 72) ?_) | (with_reducible refine stop_load (t := 61) ?_) | (with_reducible refine stop_alloc ?_) | (with_reducible refine stop_store ?_) | (with_reducible refine stop_makeMap ?_) | (with_reducible refine stop_rangem ?_) | (with_reducible refine stop_next ?_) | (with_reducible refine stop_entry ?_) | (with_reducible refine stop_buildSlice ?_) | (with_reducible refine stop_app ?_) | (with_reducible refine stop_mapUpdate ?_) | (with_reducible refine stop_lookup ?_) | (with_reducible refine stop_delete ?_) | (with_reducible refine stop_box ?_))
  refine at_out (vbox rfl ?_)
  intro g w1 n1
  simp only [Nat.reduceAdd, Nat.zero_add, Act.put, List.setIfInBounds_toArray, List.set_cons_succ, List.set_cons_zero]
  have c0 : w1.cell? ⟨g, 0, none⟩ = some (.int .i64 s.kind) := (cell_of_block n1.blk).trans rfl
  have c1 : w1.cell? ⟨g, 1, none⟩ = some (.int .i64 s.n) := (cell_of_block n1.blk).trans rfl
  have c2 : w1.cell? ⟨g, 2, none⟩ = some (.int .i64 s.e) := (cell_of_block n1.blk).trans rfl
  have c3 : w1.cell? ⟨g, 3, none⟩ = some (.string s.name) := (cell_of_block n1.blk).trans rfl
  have c4 : w1.cell? ⟨g, 4, none⟩ = some (.string s.to) := (cell_of_block n1.blk).trans rfl
  have c5 : w1.cell? ⟨g, 5, none⟩ = some vb := (cell_of_block n1.blk).trans rfl
  have c6 : w1.cell? ⟨g, 6, none⟩ = some vp := (cell_of_block n1.blk).trans rfl
  have D1 := Lib.hid (HDB.out.nb n1.k)
  have K1 := Lib.hid n1.k
  have BG := Lib.hid n1.blk
  clear n1
  rw [hk] at c0
  by_cases hb : s.n < 0 ∨ (s.e ≠ 5 ∧ s.e ≠ 9)
  · have HBB := Lib.hid hb
    clear hb
    go_wp2_with fail
    refine (lay_bad D1.out s.n s.e HBB.out).mono ?_
    rintro _ _ ⟨rfl, rfl⟩
    go_wp2_with fail
    refine (num_at 2 w1).mono ?_; rintro _ _ ⟨rfl, rfl⟩
    go_wp2
    go_ret2
    exact ⟨2, d, D, fc, rfl, D1.out, fun _ => rfl, .inr (.inr (.inr (.inr (.inr (.inr (.inr (.inr (.inl ⟨hk, .inl ⟨HBB.out, rfl, rfl⟩, rfl⟩))))))))⟩
  · have h0 : 0 ≤ s.n := by omega
    have he : s.e = 5 ∨ s.e = 9 := by omega
    have HE := Lib.hid (And.intro h0 he)
    clear hb h0 he
    go_wp2_with fail
    refine (dlay D1.out s.n s.e ⟨HE.out.1, HI2.out.2⟩ HE.out.2).mono ?_
    rintro _ w2 ⟨rfl, hd⟩
    have HD := Lib.hid hd
    clear hd
    go_wp2_with fail
    refine (num_at 0 w2).mono ?_; rintro _ _ ⟨rfl, rfl⟩
    go_wp2
    go_ret2
    exact ⟨0, d, _, fc, rfl, HD.out, fun _ => rfl, .inr (.inr (.inr (.inr (.inr (.inr (.inr (.inr (.inl ⟨hk, .inr ⟨HE.out.1, HE.out.2, rfl, rfl⟩, rfl⟩))))))))⟩
set_option maxHeartbeats 4000000 in
set_option maxRecDepth 100000 in
theorem do10 (h : Db W0 w d D fc) (s : StepD) (cs : List Value) (hst : StepV W0 w s cs) (hc : D.changes < 1000000) (hsz : s.b.length ≤ 20000) (hls : D.lasting.length + D.steps.length ≤ 1000000) (hk : s.kind = 10) : Calls Try.prog 14 #[.pointer (some ⟨d, 0, none⟩), .agg cs.toArray] w (DoA W0 w.heap.size d D fc s) := by
  have HLS := Lib.hid hls
  clear hls
  have ST := Lib.hid hst
  have HDB := Lib.hid h
  have HCH := Lib.hid hc
  obtain ⟨vb, vp, rfl, hB, hP, hn1, hn2, i1, i2, i3⟩ := hst
  have HB := Lib.hid hB
  have HP := Lib.hid hP
  have HN1 := Lib.hid hn1
  have HN2 := Lib.hid hn2
  have HI2 := Lib.hid i2
  have HSZ := Lib.hid hsz
  have hone : ∀ u ∈ stc s vb vp, u.oneCell' = true := by
    obtain ⟨_, _, rfl, -⟩ := hB
    obtain ⟨_, _, rfl, -⟩ := hP
    intro u hu
    simp only [stc, List.mem_cons, List.not_mem_nil, or_false] at hu
    rcases hu with rfl | rfl | rfl | rfl | rfl | rfl | rfl <;> rfl
  clear hB hP hn1 hn2 i1 i2 i3 h hc hsz
  go_enter Try.func14, Try.ntmps14
  go_wp2_with (first | go_skip | (with_reducible refine stop_load (t := 72) ?_) | (with_reducible refine stop_load (t := 61) ?_) | (with_reducible refine stop_alloc ?_) | (with_reducible refine stop_store ?_) | (with_reducible refine stop_makeMap ?_) | (with_reducible refine stop_rangem ?_) | (with_reducible refine stop_next ?_) | (with_reducible refine stop_entry ?_) | (with_reducible refine stop_buildSlice ?_) | (with_reducible refine stop_app ?_) | (with_reducible refine stop_mapUpdate ?_) | (with_reducible refine stop_lookup ?_) | (with_reducible refine stop_delete ?_) | (with_reducible refine stop_box ?_))
  refine at_out (vbox rfl ?_)
  intro g w1 n1
  simp only [Nat.reduceAdd, Nat.zero_add, Act.put, List.setIfInBounds_toArray, List.set_cons_succ, List.set_cons_zero]
  have c0 : w1.cell? ⟨g, 0, none⟩ = some (.int .i64 s.kind) := (cell_of_block n1.blk).trans rfl
  have c1 : w1.cell? ⟨g, 1, none⟩ = some (.int .i64 s.n) := (cell_of_block n1.blk).trans rfl
  have c2 : w1.cell? ⟨g, 2, none⟩ = some (.int .i64 s.e) := (cell_of_block n1.blk).trans rfl
  have c3 : w1.cell? ⟨g, 3, none⟩ = some (.string s.name) := (cell_of_block n1.blk).trans rfl
  have c4 : w1.cell? ⟨g, 4, none⟩ = some (.string s.to) := (cell_of_block n1.blk).trans rfl
  have c5 : w1.cell? ⟨g, 5, none⟩ = some vb := (cell_of_block n1.blk).trans rfl
  have c6 : w1.cell? ⟨g, 6, none⟩ = some vp := (cell_of_block n1.blk).trans rfl
  have D1 := Lib.hid (HDB.out.nb n1.k)
  have K1 := Lib.hid n1.k
  have BG := Lib.hid n1.blk
  clear n1
  rw [hk] at c0
  have HPv : PicksV w1 vp s.picks := HP.out.nb K1.out
  have HPV := Lib.hid HPv
  obtain ⟨pa, pc, rfl, -⟩ := HPv
  go_wp2_with fail
  refine (dcrash D1.out _ s.picks HPV.out HLS.out).mono ?_
  rintro _ w2 ⟨d', D', fc', φ, l2, bs, rfl, hd, -, hr⟩
  have HD := Lib.hid hd
  have HR := Lib.hid hr
  clear hd hr
  go_wp2
  go_ret2
  exact ⟨0, d', D', fc', rfl, HD.out, fun e => absurd hk e, .inr (.inr (.inr (.inr (.inr (.inr (.inr (.inr (.inr (.inl ⟨hk, rfl, φ, l2, bs, HR.out⟩)))))))))⟩
set_option maxHeartbeats 4000000 in
set_option maxRecDepth 100000 in
theorem do11 (h : Db W0 w d D fc) (s : StepD) (cs : List Value) (hst : StepV W0 w s cs) (hc : D.changes < 1000000) (hsz : s.b.length ≤ 20000) (hkk : s.kind < 1 ∨ 10 < s.kind) : Calls Try.prog 14 #[.pointer (some ⟨d, 0, none⟩), .agg cs.toArray] w (DoA W0 w.heap.size d D fc s) := by
  obtain ⟨kk, hk⟩ : ∃ kk, s.kind = kk := ⟨_, rfl⟩
  have HKK := Lib.hid hkk
  rw [hk] at hkk
  have ST := Lib.hid hst
  have HDB := Lib.hid h
  have HCH := Lib.hid hc
  obtain ⟨vb, vp, rfl, hB, hP, hn1, hn2, i1, i2, i3⟩ := hst
  have HB := Lib.hid hB
  have HP := Lib.hid hP
  have HN1 := Lib.hid hn1
  have HN2 := Lib.hid hn2
  have HI2 := Lib.hid i2
  have HSZ := Lib.hid hsz
  have hone : ∀ u ∈ stc s vb vp, u.oneCell' = true := by
    obtain ⟨_, _, rfl, -⟩ := hB
    obtain ⟨_, _, rfl, -⟩ := hP
    intro u hu
    simp only [stc, List.mem_cons, List.not_mem_nil, or_false] at hu
    rcases hu with rfl | rfl | rfl | rfl | rfl | rfl | rfl <;> rfl
  clear hB hP hn1 hn2 i1 i2 i3 h hc hsz
  go_enter Try.func14, Try.ntmps14
  go_wp2_with (first | go_skip | (with_reducible refine stop_load (t := 72) ?_) | (with_reducible refine stop_load (t := 61) ?_) | (with_reducible refine stop_alloc ?_) | (with_reducible refine stop_store ?_) | (with_reducible refine stop_makeMap ?_) | (with_reducible refine stop_rangem ?_) | (with_reducible refine stop_next ?_) | (with_reducible refine stop_entry ?_) | (with_reducible refine stop_buildSlice ?_) | (with_reducible refine stop_app ?_) | (with_reducible refine stop_mapUpdate ?_) | (with_reducible refine stop_lookup ?_) | (with_reducible refine stop_delete ?_) | (with_reducible refine stop_box ?_))
  refine at_out (vbox rfl ?_)
  intro g w1 n1
  simp only [Nat.reduceAdd, Nat.zero_add, Act.put, List.setIfInBounds_toArray, List.set_cons_succ, List.set_cons_zero]
  have c0 : w1.cell? ⟨g, 0, none⟩ = some (.int .i64 s.kind) := (cell_of_block n1.blk).trans rfl
  have c1 : w1.cell? ⟨g, 1, none⟩ = some (.int .i64 s.n) := (cell_of_block n1.blk).trans rfl
  have c2 : w1.cell? ⟨g, 2, none⟩ = some (.int .i64 s.e) := (cell_of_block n1.blk).trans rfl
  have c3 : w1.cell? ⟨g, 3, none⟩ = some (.string s.name) := (cell_of_block n1.blk).trans rfl
  have c4 : w1.cell? ⟨g, 4, none⟩ = some (.string s.to) := (cell_of_block n1.blk).trans rfl
  have c5 : w1.cell? ⟨g, 5, none⟩ = some vb := (cell_of_block n1.blk).trans rfl
  have c6 : w1.cell? ⟨g, 6, none⟩ = some vp := (cell_of_block n1.blk).trans rfl
  have D1 := Lib.hid (HDB.out.nb n1.k)
  have K1 := Lib.hid n1.k
  have BG := Lib.hid n1.blk
  clear n1
  rw [hk] at c0
  have q1 : ¬ kk = 1 := by omega
  have q2 : ¬ kk = 2 := by omega
  have q3 : ¬ kk = 3 := by omega
  have q4 : ¬ kk = 4 := by omega
  have q5 : ¬ kk = 5 := by omega
  have q6 : ¬ kk = 6 := by omega
  have q7 : ¬ kk = 7 := by omega
  have q8 : ¬ kk = 8 := by omega
  have q9 : ¬ kk = 9 := by omega
  have q10 : ¬ kk = 10 := by omega
  clear hkk
  go_wp2
  go_ret2
  exact ⟨0, d, D, fc, rfl, D1.out, fun _ => rfl, .inr (.inr (.inr (.inr (.inr (.inr (.inr (.inr (.inr (.inr ⟨HKK.out, rfl, rfl, rfl⟩)))))))))⟩
end Go.Proofs.Ytgpecnihjjnkeaa
