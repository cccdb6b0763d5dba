/- SyncDir: the directory lasts. -/
import Derived.Test.YtgpecnihjjnkeaaCutW
import Derived.Laws.Externs
import Derived.MapKept
set_option linter.unusedVariables false
set_option linter.unusedSimpArgs false
namespace Go.Vfs
open Go.Lk Go.RowKit
/-- The directory lasts. -/
def Dk.sdir (D : Dk) : Dk := { D with lasting := D.files, steps := [] }
/-- What SyncDir comes to. -/
def SdirR (D : Dk) (e : Int) (D' : Dk) : Prop := (D.dead = true ∧ e = 8 ∧ D' = D) ∨ (D.dead = false ∧ e = (chg D).2.2 ∧ D' = if (chg D).2.1 = 1 then (chg D).1.sdir else (chg D).1)
end Go.Vfs
namespace Go.Proofs.Ytgpecnihjjnkeaa
open Go.RowKit Go.Lk Go.Vfs
theorem run_clone {P : Program} {w : World} {r : Nat} {es : Array MapEntry} {clock : Nat} (t : TypeId) (hb : w.heap[r]? = some (.map es clock)) :
    (Extern.MapsClone.clone #[.iface t (.map (some r))]).run P w = .ok (.iface t (.map (some w.heap.size))) (w.alloc (.map es clock)) := by
  have e : Extern.MapsClone.clone #[.iface t (.map (some r))] = (getObj r >>= fun o => match o with
      | .map entries clock => (newObj (.map entries clock) >>= fun n => pure (.iface t (.map (some n))))
      | _ => stuck "maps.clone: a map expected") := rfl
  rw [e]
  simp [MapKept.run_getObj_map hb, Result.andThen, go_sem]
theorem run_assertMap {P : Program} {w : World} (t xT k e : TypeId) (v : Value) (h : P.underlying t = some (.map k e)) : (Instr.typeAssert (.iface t v) xT t false).run P w = .ok v w := by
  simp [Instr.typeAssert, run_underlying h, go_sem, Result.andThen]
/-- A map's copy. -/
def Cloned2 (l : List (ByteArray × Value)) (w : World) (e : Ending) (w' : World) : Prop := ∃ g, e = .returned (.map (some g)) ∧ w.heap.size ≤ g ∧ SMap w' g l ∧ Keeps Nb w w'
set_option maxRecDepth 100000 in
theorem clonem_at (b : Nat) (l : List (ByteArray × Value)) (w : World) (h : SMap w b l) : Calls Try.prog 42 #[.map (some b)] w (Cloned2 l w) := by
  obtain ⟨es, clock, hb, h2⟩ := h
  have H2 := Lib.hid h2
  clear h2
  have q : ∀ (w : World) (r : Option Nat), (binOp .eql 56 (.map r) (.map none)).run Try.prog w = .ok (.bool r.isNone) w := fun w r => run_eql_map_nil w _ _ _ r Try.underlying56
  go_enter Try.func42, Try.ntmps42
  go_wp2
  rw [run_callFunc_extern Try.func55 (by kernel_rfl) (by kernel_rfl) (by kernel_rfl) (e := Extern.MapsClone.clone) (by kernel_rfl), run_clone 56 hb]
  simp only [Result.andThen]
  rw [Oper.upon_value]
  go_wp2
  rw [run_assertMap 56 _ _ _ _ Try.underlying56]
  simp only [Result.andThen]
  rw [Oper.upon_value]
  go_wp2
  go_ret
  exact ⟨_, rfl, Nat.le_refl _, ⟨es, clock, (newAt _ _).blk, H2.out⟩, (newAt _ _).k⟩
set_option maxHeartbeats 4000000 in
set_option maxRecDepth 100000 in
theorem sdir1_at (d a1 : Nat) (D : Dk) (F R : Nat → Prop) (fc : Nat → Fl) (w : World) (h : DiskAt w d F R D fc) (h1 : w.heap[a1]? = some (.cells #[.pointer (some ⟨d, 0, none⟩)] 25 (0, 0))) (hx1 : ¬ F a1) :
    Calls Try.prog 41 #[.pointer (some ⟨a1, 0, none⟩)] w fun e w' => (∃ v, e = .returned v) ∧ Now w w' d F R D.sdir fc := by
  have H := Lib.hid h
  obtain ⟨⟨m1, m2, sv, h3, h4, h5, h6, h7, h8, h9⟩, g1, g2, g3, g3b, g4, g5, g6⟩ := h
  have H1 := Lib.hid h1
  have H3 := Lib.hid h3
  have H4 := Lib.hid h4
  have H8 := Lib.hid h8
  have hdm1 : ¬ d = m1 := by rintro rfl; obtain ⟨es, cl, q, -⟩ := h4; rw [h3] at q; cases q
  have had : ¬ a1 = d := fun e => hx1 (e ▸ g1)
  have c1 : w.cell? ⟨a1, 0, none⟩ = some (.pointer (some ⟨d, 0, none⟩)) := cell_of_block h1
  have c2 : w.cell? ⟨d, 0, none⟩ = some (.map (some m1)) := (cell_of_block h3).trans rfl
  clear h1 h3 h4 h5 h6 h7 h8 h9 g1 g2 g3 g3b g4 g5 g6 hx1
  go_enter Try.func41, Try.ntmps41
  have HS : Hid ((fun u : World => u.cell? ⟨a1, 0, none⟩ = some (.pointer (some ⟨d, 0, none⟩)) ∧ u.cell? ⟨d, 0, none⟩ = some (.map (some m1))) w.drew) := ⟨c1, c2⟩
  refine WT.region (fun u : World => u.cell? ⟨a1, 0, none⟩ = some (.pointer (some ⟨d, 0, none⟩)) ∧ u.cell? ⟨d, 0, none⟩ = some (.map (some m1))) 10 13 [0, 1, 2, 3, 4, 5, 6, 7, 8, 9, 10, 11, 12] (by kernel_rfl) rfl ?_
  refine WT.take 0 (v := .pointer (some ⟨d, 0, none⟩)) (by simp only [List.getElem?_toArray, List.getElem?_cons_succ, List.getElem?_cons_zero]; rfl) (by kernel_rfl) (by exact fun _ _ _ h => h) (by rfl) (by rintro w ⟨C1, C2⟩; exact rn_load1 (by kernel_rfl) (by rfl) C1) HS.out ?_
  simp only [Nat.reduceAdd, Nat.zero_add, Act.put, List.setIfInBounds_toArray, List.set_cons_succ, List.set_cons_zero]
  refine WT.take 1 (v := .pointer (some ⟨d, 0, none⟩)) (by simp only [List.getElem?_toArray, List.getElem?_cons_succ, List.getElem?_cons_zero]; rfl) (by kernel_rfl) (by exact fun _ _ _ h => h) (by rfl) (by rintro w ⟨C1, C2⟩; exact rn_load1 (by kernel_rfl) (by rfl) C1) HS.out ?_
  simp only [Nat.reduceAdd, Nat.zero_add, Act.put, List.setIfInBounds_toArray, List.set_cons_succ, List.set_cons_zero]
  refine WT.take 2 (v := .pointer (some ⟨d, 0, none⟩)) (by simp only [List.getElem?_toArray, List.getElem?_cons_succ, List.getElem?_cons_zero]; rfl) (by kernel_rfl) (by exact fun _ _ _ h => h) (by rfl) (by rintro w ⟨C1, C2⟩; exact rn_load1 (by kernel_rfl) (by rfl) C1) HS.out ?_
  simp only [Nat.reduceAdd, Nat.zero_add, Act.put, List.setIfInBounds_toArray, List.set_cons_succ, List.set_cons_zero]
  refine WT.take 3 (v := _) (by simp only [List.getElem?_toArray, List.getElem?_cons_succ, List.getElem?_cons_zero]; rfl) (by kernel_rfl) (by exact fun _ _ _ h => h) (by rfl) (by rintro w ⟨C1, C2⟩; go_simp; with_reducible rfl) HS.out ?_
  simp only [Nat.reduceAdd, Nat.zero_add, Act.put, List.setIfInBounds_toArray, List.set_cons_succ, List.set_cons_zero]
  refine WT.take 4 (v := _) (by simp only [List.getElem?_toArray, List.getElem?_cons_succ, List.getElem?_cons_zero]; rfl) (by kernel_rfl) (by exact fun _ _ _ h => h) (by rfl) (by rintro w ⟨C1, C2⟩; go_simp; with_reducible rfl) HS.out ?_
  simp only [Nat.reduceAdd, Nat.zero_add, Act.put, List.setIfInBounds_toArray, List.set_cons_succ, List.set_cons_zero]
  refine WT.take 5 (v := .map (some m1)) (by simp only [List.getElem?_toArray, List.getElem?_cons_succ, List.getElem?_cons_zero]; rfl) (by kernel_rfl) (by exact fun _ _ _ h => h) (by rfl) (by rintro w ⟨C1, C2⟩; exact rn_load1 (by kernel_rfl) (by rfl) C2) HS.out ?_
  simp only [Nat.reduceAdd, Nat.zero_add, Act.put, List.setIfInBounds_toArray, List.set_cons_succ, List.set_cons_zero]
  refine WT.call 6 (by simp only [List.getElem?_toArray, List.getElem?_cons_succ, List.getElem?_cons_zero]; rfl) (by kernel_rfl) (by rfl) (by go_simp; first | done | rfl | exact ⟨⟨rfl, rfl⟩, rfl⟩) (clonem_at m1 (vals D.files) w.drew (H4.out.nb (Keeps.refl Nb w).drew)) ?_
  rintro _ w2 ⟨g, rfl, hg, hm, k2⟩
  have k02 : Keeps Nb w w2 := (Keeps.refl Nb w).drew.trans_nb k2
  have HS2 : Hid ((fun u : World => u.cell? ⟨a1, 0, none⟩ = some (.pointer (some ⟨d, 0, none⟩)) ∧ u.cell? ⟨d, 0, none⟩ = some (.map (some m1))) w2) := ⟨cell_of_block (k02.nb H1.out), (cell_of_block (k02.nb H3.out)).trans rfl⟩
  refine ⟨_, rfl, HS2.out, ?_⟩
  simp only [Nat.reduceAdd, Nat.zero_add, Act.put, List.setIfInBounds_toArray, List.set_cons_succ, List.set_cons_zero]
  refine WT.only 7 (v := _) (by simp only [List.getElem?_toArray, List.getElem?_cons_succ, List.getElem?_cons_zero]; rfl) (by kernel_rfl) (by rfl) (by go_simp; first | with_reducible rfl | exact ⟨rfl, rfl⟩) HS2.out ?_
  simp only [Nat.reduceAdd, Nat.zero_add, Act.put, List.setIfInBounds_toArray, List.set_cons_succ, List.set_cons_zero]
  refine WT.only 8 (v := _) (by simp only [List.getElem?_toArray, List.getElem?_cons_succ, List.getElem?_cons_zero]; rfl) (by kernel_rfl) (by rfl) (by go_simp; first | with_reducible rfl | exact ⟨rfl, rfl⟩) HS2.out ?_
  simp only [Nat.reduceAdd, Nat.zero_add, Act.put, List.setIfInBounds_toArray, List.set_cons_succ, List.set_cons_zero]
  refine WT.onlySkipE 9 (by simp only [List.getElem?_toArray, List.getElem?_cons_succ, List.getElem?_cons_zero]; rfl) (by kernel_rfl) (by rfl) (re_store (v := .map (some g)) (n := 1) (by kernel_rfl) (by rfl) (by rfl) (k02.nb H3.out) (by rfl) (by simp [dcs]) (by simp [Value.cells, Value.oneCell'])) ?_
  intro w3 s3
  have B3 : w3.heap[d]? = some (.cells (dcs m1 g sv D) 61 (0, 0)) := s3.blk
  have HS3 : Hid ((fun u : World => u.cell? ⟨a1, 0, none⟩ = some (.pointer (some ⟨d, 0, none⟩)) ∧ u.cell? ⟨d, 0, none⟩ = some (.map (some m1))) w3) := ⟨cell_of_block (s3.k.at (k02.nb H1.out) had), (cell_of_block B3).trans rfl⟩
  refine ⟨HS3.out, ?_⟩
  simp only [Nat.reduceAdd, Nat.zero_add, Act.put, List.setIfInBounds_toArray, List.set_cons_succ, List.set_cons_zero]
  refine WT.stop (by kernel_rfl) ?_
  refine WP.only 10 (v := _) (by simp only [List.getElem?_toArray, List.getElem?_cons_succ, List.getElem?_cons_zero]; rfl) (by kernel_rfl) (by rfl) (by go_simp; first | with_reducible rfl | exact ⟨rfl, rfl⟩) ?_
  simp only [Nat.reduceAdd, Nat.zero_add, Act.put, List.setIfInBounds_toArray, List.set_cons_succ, List.set_cons_zero]
  refine WP.only 11 (v := _) (by simp only [List.getElem?_toArray, List.getElem?_cons_succ, List.getElem?_cons_zero]; rfl) (by kernel_rfl) (by rfl) (by go_simp; first | with_reducible rfl | exact ⟨rfl, rfl⟩) ?_
  simp only [Nat.reduceAdd, Nat.zero_add, Act.put, List.setIfInBounds_toArray, List.set_cons_succ, List.set_cons_zero]
  refine WP.onlySkipE 12 (by simp only [List.getElem?_toArray, List.getElem?_cons_succ, List.getElem?_cons_zero]; rfl) (by kernel_rfl) (by rfl) (re_store (v := .slice none 0 0) (n := 1) (by kernel_rfl) (by rfl) (by rfl) B3 (by rfl) (by simp [dcs]) (by simp [Value.cells, Value.oneCell'])) ?_
  intro w5 s5
  simp only [Nat.reduceAdd, Nat.zero_add, Act.put, List.setIfInBounds_toArray, List.set_cons_succ, List.set_cons_zero]
  refine WP.done (by kernel_rfl) ?_
  go_wp2
  go_end0
  have B5 : w5.heap[d]? = some (.cells (dcs m1 g (.slice none 0 0) D.sdir) 61 (0, 0)) := s5.blk
  have kd : Keeps (· = d) w w5 := ((Keeps.of_nb k02).trans s3.k (fun _ _ e => e)).trans s5.k (fun _ _ e => e)
  have k5 : Keeps F w w5 := kd.mono (fun i _ e => e ▸ H.out.fd)
  have hg' : w.heap.size ≤ g := hg
  have hgd : ¬ g = d := by have := H.out.ltF d H.out.fd; omega
  have z2 := hm.lt
  have z3 := s3.k.size
  have z5 := s5.k.size
  have hRd : ∀ k, R k → ¬ k = d := fun k hr e => by subst e; exact H.out.apart _ H.out.fd hr
  obtain ⟨nz1, nz2, nz3, nz4, nz5, nz6, nz7, nz8⟩ := H.out.nums
  refine ⟨⟨_, rfl⟩, Up F w w5, R, ⟨⟨m1, g, _, B5, H4.out.keeps kd (fun e => hdm1 e.symm), (hm.keeps s3.k hgd).keeps s5.k hgd, ?_, RowS.nil _ _ _ _ _, .inl H8.out, .inr ⟨hg', by omega⟩⟩, .inl H.out.fd, ?_, ?_, ?_, ?_, fun k hk => Up.lt H.out.ltF k5.size hk, fun k hk => Nat.lt_of_lt_of_le (H.out.ltR k hk) k5.size⟩, fun k hk => hk.imp id fun x => x.1, fun k hk => .inl hk, k5⟩
  · have := H4.out.lt; omega
  · intro b hb
    have hb' : Ref D b := by
      rcases hb with h | h | ⟨s, hs, -⟩
      · exact .inl h
      · exact .inl h
      · cases hs
    exact ⟨(H.out.file b hb').1.keeps kd (H.out.ne_file hb') hRd, .inl (H.out.file b hb').2⟩
  · exact ⟨nz1, nz2, nz3, nz4, nz5, nz6, nz6, by simp [Dk.sdir]; omega⟩
  · exact ⟨H.out.names.files, H.out.names.files, fun s hs => by cases hs⟩
  · rintro k (hk | hk) hr
    · exact H.out.apart k hk hr
    · have := H.out.ltR k hr; omega
set_option maxHeartbeats 4000000 in
set_option maxRecDepth 100000 in
theorem sdir_at (d : Nat) (D : Dk) (F R : Nat → Prop) (fc : Nat → Fl) (w : World) (h : DiskAt w d F R D fc) (hc : D.changes < 1000000) :
    Calls Try.prog 18 #[.pointer (some ⟨d, 0, none⟩)] w fun e w' => ∃ (er : Int) (D' : Dk), e = .returned (.int .i64 er) ∧ Now w w' d F R D' fc ∧ SdirR D er D' := by
  have H := Lib.hid h
  have HC := Lib.hid hc
  obtain ⟨⟨m1, m2, sv, h3, h4, h5, h6, h7, h8, h9⟩, g1, g2, g3, g3b, g4, g5, g6⟩ := h
  have H3 := Lib.hid h3
  have G5 := Lib.hid g5
  clear hc g2 g3 g3b g4 h4 h5 h6 h7 h3 h8 h9 g1 g6 g5
  go_enter Try.func18, Try.ntmps18
  go_wp2_with (first | go_skip | (with_reducible refine stop_box (t := 25) ?_))
  refine at_out (vbox1 (v := .pointer (some ⟨d, 0, none⟩)) (by rfl) (by rfl) ?_)
  intro a1 w1 n1
  simp only [Nat.reduceAdd, Nat.zero_add, Act.put, List.setIfInBounds_toArray, List.set_cons_succ, List.set_cons_zero]
  have B1 := Lib.hid n1.blk
  have K1 := Lib.hid n1.k
  have XF1 : Hid (¬ F a1) := fun e => by have := G5.out _ e; have := n1.ge; omega
  have c1 : w1.cell? ⟨a1, 0, none⟩ = some (.pointer (some ⟨d, 0, none⟩)) := cell_of_block n1.blk
  have TH := Lib.hid (there_at d m1 (.map none) (.map none) [] w1 ((cell_of_block (n1.k.nb H3.out)).trans rfl))
  clear n1
  go_wp2_with fail
  refine TH.out.mono ?_; rintro e w' ⟨rfl, rfl⟩
  have H31 := Lib.hid (K1.out.nb H3.out)
  have H1 := Lib.hid (H.out.nb K1.out)
  cases hdd : D.dead
  · have HW : Hid (Ways w1 d m1 m2 sv (chg D).1 (chg D).2.1 41 36 36 #[.pointer (some ⟨a1, 0, none⟩)] #[] #[] fun w' => Now w1 w' d F R (if (chg D).2.1 = 1 then (chg D).1.sdir else (chg D).1) fc) := by
      intro w9 hb9 hk9
      have D9 := H1.out.chg H31.out hb9 hk9 HC.out
      have kw9 : Keeps F w1 w9 := hk9.mono (fun i _ e => e ▸ H.out.fd)
      have hno : (chg D).2.1 ≠ 1 → Now w1 w9 d F R (if (chg D).2.1 = 1 then (chg D).1.sdir else (chg D).1) fc := fun e => by rw [if_neg e]; exact Now.of D9 kw9
      refine ⟨fun e => hno (by omega), fun e => ?_, fun e => ways_nothing (hno (by omega)), fun e => ways_nothing (hno (by omega))⟩
      rw [if_pos e]
      exact (sdir1_at d a1 (chg D).1 F R fc w9 D9 (hk9.at B1.out (fun e => XF1.out (e ▸ H.out.fd))) XF1.out).mono (fun e w' h => ⟨h.1, h.2.from kw9⟩)
    have hnu := H.out.nums
    have CA := Lib.hid (change_at d m1 m2 sv D w1 H31.out hdd ⟨hnu.ch.1, hnu.ch.2⟩ hnu.fu hnu.fn hnu.fe 41 36 36 _ _ _ (fun _ _ => rfl) (fun _ _ => rfl) (fun _ _ => rfl) _ HW.out)
    have HD := Lib.hid hdd
    clear HW hdd hnu
    go_wp2_with fail
    refine CA.out.mono ?_
    rintro _ w9 ⟨rfl, hN⟩
    go_wp2
    go_ret
    exact ⟨_, _, rfl, hN.from ((Keeps.refl F w).trans_nb K1.out), .inr ⟨HD.out, rfl, rfl⟩⟩
  · have CA := Lib.hid (change_dead d m1 m2 sv D w1 H31.out hdd (.func (.func 41) #[] #[.pointer (some ⟨a1, 0, none⟩)]) (.func (.func 36) #[] #[]) (.func (.func 36) #[] #[]))
    have HD := Lib.hid hdd
    clear hdd
    go_wp2_with fail
    refine CA.out.mono ?_
    rintro _ w9 ⟨rfl, rfl⟩
    go_wp2
    go_ret
    exact ⟨_, _, rfl, Now.same H.out K1.out, .inl ⟨HD.out, rfl, rfl⟩⟩
end Go.Proofs.Ytgpecnihjjnkeaa
