/- VfsBack: the law; 'again' of the law. -/
import Derived.Test.YtgpecnihjjnkeaaFilesW
set_option linter.unusedVariables false
set_option linter.unusedSimpArgs false
namespace Go.Proofs.Ytgpecnihjjnkeaa.vfsBack
open Go.RowKit Go.Lk Go.Vfs Go.Proofs.Ytgpecnihjjnkeaa
variable {D D' D2 : Dk} {fc fc' fc2 : Nat → Fl} {er : Int} {sz : Nat} {s : StepD} {zs : List Int} {φ : Nat → Option Nat} {l2 : List (ByteArray × Nat)} {bs : List Bool} {nm : ByteArray} {b : Nat}
/-- A disk behind k steps is no greater than k. -/
structure Bnd (k : Nat) (D : Dk) : Prop where
  c : D.changes ≤ k
  f : D.files.length ≤ k
  l : D.lasting.length + D.steps.length ≤ k
theorem fputL (l : List (ByteArray × Nat)) (t : ByteArray) (b : Nat) : (fput l t b).length ≤ l.length + 1 := by
  unfold fput; split
  · rw [List.length_map]; omega
  · rw [List.length_append]; simp
theorem fdelL (l : List (ByteArray × Nat)) (t : ByteArray) : (fdel l t).length ≤ l.length := List.length_filter_le _ _
theorem replay_e (bs : List Bool) (l : List (ByteArray × Nat)) : replay bs [] l = l := by cases bs <;> rfl
theorem bnd_do {k : Nat} (h : Bnd k D) (hd : DoR sz D fc s er D' fc') : Bnd (k + 1) D' := by
  obtain ⟨q1, q2, q3, q4, q5⟩ := chg_same D
  obtain ⟨h1, h2, h3⟩ := h
  have same : Bnd (k + 1) D := ⟨by omega, by omega, by omega⟩
  have chd : Bnd (k + 1) (chg D).1 := ⟨by rw [q4]; omega, by rw [q1]; omega, by rw [q2, q3]; omega⟩
  rcases hd with ⟨-, hr, -⟩ | ⟨-, hr⟩ | ⟨-, hr⟩ | ⟨-, hr⟩ | ⟨-, hr, rfl⟩ | ⟨-, hr, rfl⟩ | ⟨-, hr, rfl⟩ | ⟨-, -, rfl, -⟩ | ⟨-, hr, -⟩ | ⟨-, -, φ, l2, bs, hr⟩ | ⟨-, -, rfl, -⟩
  · rcases hr with ⟨-, he, rfl, rfl⟩ | ⟨-, -, he, rfl, rfl⟩ | ⟨-, -, -, he, rfl, rfl⟩ | ⟨-, -, -, -, -, rfl, -⟩ | ⟨-, -, -, -, he, hr⟩
    · exact same
    · exact same
    · exact same
    · exact same
    · rcases hr with ⟨hc, b, -, rfl, rfl⟩ | ⟨hc, rfl, rfl⟩
      · exact ⟨by simp [Dk.make, q4]; omega, by simp [Dk.make, q1]; omega, by simp [Dk.make, q2, q3]; omega⟩
      · exact chd
  · rcases hr with ⟨-, he, rfl, rfl⟩ | ⟨-, -, he, rfl, rfl⟩ | ⟨b, -, -, ⟨-, he, rfl, rfl⟩ | ⟨-, -, -, rfl, -⟩ | ⟨-, -, he, rfl, hf⟩⟩
    · exact same
    · exact same
    · exact same
    · exact same
    · exact chd
  · rcases hr with ⟨-, he, rfl, rfl⟩ | ⟨-, -, he, rfl, rfl⟩ | ⟨b, -, -, ⟨-, -, rfl, -⟩ | ⟨-, he, rfl, hf⟩⟩
    · exact same
    · exact same
    · exact same
    · exact chd
  · rcases hr with ⟨-, he, rfl, rfl⟩ | ⟨-, -, he, rfl, rfl⟩ | ⟨-, -, -, he, rfl, rfl⟩ | ⟨b, -, -, -, ⟨-, he, rfl, rfl⟩ | ⟨-, -, -, rfl, -⟩ | ⟨-, -, he, rfl, hf⟩⟩
    · exact same
    · exact same
    · exact same
    · exact same
    · exact same
    · exact chd
  · rcases hr with ⟨-, he, rfl⟩ | ⟨-, -, he, rfl⟩ | ⟨-, -, -, he, rfl⟩ | ⟨b, -, -, -, ⟨-, -, rfl⟩ | ⟨-, he, hf⟩⟩
    · exact same
    · exact same
    · exact same
    · exact same
    · rw [hf]
      split
      · have g1 := fputL (fdel (chg D).1.files s.name) s.to b
        have g2 := fdelL (chg D).1.files s.name
        rw [q1] at g1 g2
        exact ⟨by show (chg D).1.changes ≤ _; rw [q4]; omega, by show (fput (fdel (chg D).1.files s.name) s.to b).length ≤ _; rw [q1]; omega, by show (chg D).1.lasting.length + ((chg D).1.steps ++ [_]).length ≤ _; rw [q2, q3]; simp; omega⟩
      · exact chd
  · rcases hr with ⟨-, he, rfl⟩ | ⟨-, -, he, rfl⟩ | ⟨b, -, -, ⟨-, -, rfl⟩ | ⟨-, he, hf⟩⟩
    · exact same
    · exact same
    · exact same
    · rw [hf]
      split
      · have g2 := fdelL (chg D).1.files s.name
        rw [q1] at g2
        exact ⟨by show (chg D).1.changes ≤ _; rw [q4]; omega, by show (fdel (chg D).1.files s.name).length ≤ _; rw [q1]; omega, by show (chg D).1.lasting.length + ((chg D).1.steps ++ [_]).length ≤ _; rw [q2, q3]; simp; omega⟩
      · exact chd
  · rcases hr with ⟨-, -, rfl⟩ | ⟨-, he, hf⟩
    · exact same
    · rw [hf]
      split
      · exact ⟨by show (chg D).1.changes ≤ _; rw [q4]; omega, by show (chg D).1.files.length ≤ _; rw [q1]; omega, by show (chg D).1.files.length + ([] : List Stp).length ≤ _; rw [q1]; simp; omega⟩
      · exact chd
  · exact ⟨by show D.changes ≤ _; omega, by show D.files.length ≤ _; omega, by show D.lasting.length + D.steps.length ≤ _; omega⟩
  · rcases hr with ⟨-, -, rfl⟩ | ⟨-, -, -, rfl⟩
    · exact same
    · exact ⟨by show D.changes ≤ _; omega, by show D.files.length ≤ _; omega, by show D.lasting.length + D.steps.length ≤ _; omega⟩
  · have hl := replay_len bs D.steps l2
    have h4 := hr.p2.length_eq
    rw [hr.eq]
    refine ⟨by show (0 : Int) ≤ _; omega, ?_, ?_⟩
    · show ((replay bs D.steps l2).map (mv φ)).length ≤ _
      rw [List.length_map]; omega
    · show ((replay bs D.steps l2).map (mv φ)).length + ([] : List Stp).length ≤ _
      rw [List.length_map]; simp; omega
  · exact same
theorem flook_mem {l : List (ByteArray × Nat)} (hn : (l.map Prod.fst).Nodup) (h : (nm, b) ∈ l) : flook l nm = some b := by
  induction l with
  | nil => cases h
  | cons p l ih =>
    rw [List.map_cons, List.nodup_cons] at hn
    unfold flook
    rw [List.find?_cons]
    rcases List.mem_cons.1 h with h | h
    · subst h; simp
    · have hne : p.1 ≠ nm := fun e => hn.1 (e ▸ List.mem_map.2 ⟨_, h, rfl⟩)
      simp only [hne, decide_false]
      exact ih hn.2 h
/-- What a loss of power leaves of a file that lasts. -/
theorem crash_keep (h : CrashR zs D fc D' fc' φ l2 bs) (hs : D.steps = []) (hn : (D.lasting.map Prod.fst).Nodup) (hf : flook D.lasting nm = some b) (hl : (fc b).lasts = (fc b).b.length) : ∃ b2, flook D'.files nm = some b2 ∧ fc' b2 = fc b := by
  have he := h.eq
  have hq := h.fc
  rw [hs, replay_e] at he hq
  have hm : (nm, b) ∈ l2 := h.p2.mem_iff.2 (flook_some hf)
  obtain ⟨n, h1, h2, h3⟩ := hq _ hm
  simp only at h1 h2 h3
  have hn2 : n = (fc b).b.length := by omega
  subst hn2
  rw [List.take_length] at h3
  refine ⟨(φ b).getD 0, ?_, ?_⟩
  · rw [he]
    show flook (l2.map (mv φ)) nm = _
    rw [flook_map, flook_mem ((h.p2.map Prod.fst).nodup_iff.2 hn) hm]; rfl
  · rw [h3, ← hl]
/-- A disk behind a loss of power. -/
theorem crash_full (h : CrashR zs D fc D' fc' φ l2 bs) : D'.steps = [] ∧ D'.lasting = D'.files ∧ D'.dead = false ∧ D'.changes = 0 ∧ ∀ nm b, flook D'.files nm = some b → (fc' b).lasts = (fc' b).b.length := by
  have he := h.eq
  have hq := h.fc
  refine ⟨by rw [he]; rfl, by rw [he]; rfl, by rw [he]; rfl, by rw [he]; rfl, fun nm b hb => ?_⟩
  have hm := flook_some hb
  rw [he] at hm
  obtain ⟨p, hp, e⟩ := List.mem_map.1 (show (nm, b) ∈ (replay bs D.steps l2).map (mv φ) from hm)
  obtain ⟨n, h1, h2, h3⟩ := hq p hp
  have e2 : (φ p.2).getD 0 = b := congrArg Prod.snd e
  rw [e2] at h3
  rw [h3]
  simp only [List.length_take]; omega
/-- Two disks with the same files, which all last. -/
structure SameF (D D2 : Dk) (fc fc2 : Nat → Fl) : Prop where
  s1 : D.steps = []
  s2 : D2.steps = []
  names : (D2.files.map Prod.fst).Perm (D.files.map Prod.fst)
  all : ∀ nm b, flook D.files nm = some b → (fc b).lasts = (fc b).b.length ∧ ∃ b2, flook D2.files nm = some b2 ∧ fc2 b2 = fc b
theorem same_crash (h : CrashR zs D fc D' fc' φ l2 bs) (hs : D.steps = []) (hfl : D.lasting = D.files) (hn : (D.lasting.map Prod.fst).Nodup) (hall : ∀ nm b, flook D.files nm = some b → (fc b).lasts = (fc b).b.length) : SameF D D' fc fc' := by
  refine ⟨hs, by rw [h.eq]; rfl, ?_, fun nm b hb => ⟨hall nm b hb, crash_keep h hs hn (hfl ▸ hb) (hall nm b hb)⟩⟩
  have he := h.eq
  rw [hs, replay_e] at he
  rw [he, ← hfl]
  show ((l2.map (mv φ)).map Prod.fst).Perm _
  rw [List.map_map, show (Prod.fst ∘ mv φ) = Prod.fst from rfl]
  exact h.p2.map _
theorem chg_ok (h : (chg D).2.2 = 0) : (chg D).2.1 = 1 := by
  unfold chg at h ⊢
  by_cases hf : D.fe ≠ 0 ∧ ¬ 0 < D.fn
  · simp only [if_pos hf] at h
    exact absurd h hf.1
  · simp only [if_neg hf] at h ⊢
    by_cases hz : D.fuse = 0
    · simp only [if_pos hz] at h; cases h
    · simp only [if_neg hz]
theorem sync_ok (h : SyncR D fc nm er D' fc') (he : er = 0) : ∃ b, mnB nm = true ∧ flook D'.files nm = some b ∧ (fc' b).lasts = (fc' b).b.length := by
  subst he
  rcases h with ⟨-, he, -⟩ | ⟨-, -, he, -⟩ | ⟨b, h1, h2, ⟨-, he, -⟩ | ⟨-, he, h3, h4⟩⟩
  · cases he
  · cases he
  · cases he
  · rw [if_pos (chg_ok he.symm)] at h4
    refine ⟨b, h1, by rw [h3, (chg_same D).1]; exact h2, by rw [h4]; simp [setf]⟩
theorem sdir_ok (h : SdirR D er D') (he : er = 0) : D'.lasting = D.files ∧ D'.files = D.files ∧ D'.steps = [] := by
  subst he
  rcases h with ⟨-, he, -⟩ | ⟨-, he, h3⟩
  · cases he
  · rw [if_pos (chg_ok he.symm)] at h3
    rw [h3]
    exact ⟨(chg_same D).1, (chg_same D).1, rfl⟩
theorem nodups {W0 w : World} {d : Nat} (h : Db W0 w d D fc) : (D.files.map Prod.fst).Nodup ∧ (D.lasting.map Prod.fst).Nodup := by
  obtain ⟨F, R, h⟩ := h
  obtain ⟨m1, m2, sv, -, h1, h2, -⟩ := h.at_.ex
  have e : ∀ l : List (ByteArray × Nat), (vals l).map Prod.fst = l.map Prod.fst := fun l => by simp [vals, List.map_map, Function.comp_def]
  exact ⟨e D.files ▸ h1.nodup, e D.lasting ▸ h2.nodup⟩
attribute [local go_sem] Oper.semAt_some
theorem zero4t : (Try.prog.info? 4).map (·.zero) = some (some (.bool false)) := by kernel_rfl
theorem zero3t : (Try.prog.info? 3).map (·.zero) = some (some (.int .i64 0)) := by kernel_rfl
theorem files_len {W0 w : World} {d : Nat} (h : Db W0 w d D fc) : D.files.length ≤ 1000000 := by obtain ⟨F, R, h⟩ := h; exact h.at_.nums.nf
theorem files_mn {W0 w : World} {d : Nat} (h : Db W0 w d D fc) {p : ByteArray × Nat} (hp : p ∈ D.files) : mnB p.1 = true := by obtain ⟨F, R, h⟩ := h; exact h.at_.names.files p hp
set_option maxRecDepth 100000 in
set_option maxHeartbeats 8000000 in
theorem again_law {W0 w : World} {d e : Nat} (h1 : Db W0 w d D fc) (h2 : Db W0 w e D2 fc2) (hs : SameF D D2 fc fc2) :
    Calls Try.prog 27 #[.pointer (some ⟨d, 0, none⟩), .pointer (some ⟨e, 0, none⟩)] w fun r w' => r = .returned (.bool true) ∧ Keeps Nb w w' := by
  have H1 := Lib.hid h1
  have H2 := Lib.hid h2
  have SF := Lib.hid hs
  have qn : ∀ (w : World) (fn : Fn) (a b : Array Value), (binOp .eql 48 (.func fn a b) .nilFunc).run Try.prog w = .ok (.bool false) w := fun w fn a b => by first | rfl | kernel_rfl
  clear h1 h2 hs
  refine calls_marks Try.func27 rfl ?_
  simp only [Try.ntmps27, List.size_toArray, List.length_cons, List.length_nil, Nat.reduceAdd, Nat.reduceSub, Array.replicate_succ, Array.replicate_zero, List.push_toArray, List.append_toArray, List.nil_append, List.cons_append]
  go_wp2_with (first | go_skip | (with_reducible refine stop_load (t := 72) ?_) | (with_reducible refine stop_load (t := 61) ?_) | (with_reducible refine stop_alloc ?_) | (with_reducible refine stop_store ?_) | (with_reducible refine stop_makeMap ?_) | (with_reducible refine stop_rangem ?_) | (with_reducible refine stop_next ?_) | (with_reducible refine stop_entry ?_) | (with_reducible refine stop_buildSlice ?_) | (with_reducible refine stop_app ?_) | (with_reducible refine stop_mapUpdate ?_) | (with_reducible refine stop_lookup ?_) | (with_reducible refine stop_delete ?_) | (with_reducible refine stop_box ?_))
  refine at_out (vbox1 (v := .pointer (some ⟨d, 0, none⟩)) (by rfl) (by rfl) ?_)
  intro ga w1 m1
  simp only [Nat.reduceAdd, Nat.zero_add, Act.put, List.setIfInBounds_toArray, List.set_cons_succ, List.set_cons_zero]
  go_wp2_with (first | go_skip | (with_reducible refine stop_load (t := 72) ?_) | (with_reducible refine stop_load (t := 61) ?_) | (with_reducible refine stop_alloc ?_) | (with_reducible refine stop_store ?_) | (with_reducible refine stop_makeMap ?_) | (with_reducible refine stop_rangem ?_) | (with_reducible refine stop_next ?_) | (with_reducible refine stop_entry ?_) | (with_reducible refine stop_buildSlice ?_) | (with_reducible refine stop_app ?_) | (with_reducible refine stop_mapUpdate ?_) | (with_reducible refine stop_lookup ?_) | (with_reducible refine stop_delete ?_) | (with_reducible refine stop_box ?_))
  refine at_out (vbox1 (v := .pointer (some ⟨e, 0, none⟩)) (by rfl) (by rfl) ?_)
  intro gb w2 m2
  simp only [Nat.reduceAdd, Nat.zero_add, Act.put, List.setIfInBounds_toArray, List.set_cons_succ, List.set_cons_zero]
  go_wp2_with (first | go_skip | (with_reducible refine stop_load (t := 72) ?_) | (with_reducible refine stop_load (t := 61) ?_) | (with_reducible refine stop_alloc ?_) | (with_reducible refine stop_store ?_) | (with_reducible refine stop_makeMap ?_) | (with_reducible refine stop_rangem ?_) | (with_reducible refine stop_next ?_) | (with_reducible refine stop_entry ?_) | (with_reducible refine stop_buildSlice ?_) | (with_reducible refine stop_app ?_) | (with_reducible refine stop_mapUpdate ?_) | (with_reducible refine stop_lookup ?_) | (with_reducible refine stop_delete ?_) | (with_reducible refine stop_box ?_))
  refine at_out (valloc zero4t ?_)
  intro gr w3 m3
  simp only [Nat.reduceAdd, Nat.zero_add, Act.put, List.setIfInBounds_toArray, List.set_cons_succ, List.set_cons_zero]
  have BA := Lib.hid (m3.k.nb (m2.k.nb m1.blk))
  have BB := Lib.hid (m3.k.nb m2.blk)
  have BR := Lib.hid m3.blk
  have K3 := Lib.hid ((m1.k.trans_nb m2.k).trans_nb m3.k)
  have GR : Hid (w.heap.size ≤ gr) := by refine Lib.hid ?_; have := m3.ge; have := m2.k.size; have := m1.k.size; omega
  have LR : Hid (gr < w3.heap.size) := m3.lt
  clear m1 m2 m3
  go_wp2
  have HSS : Hid ((fun u : World => u.cell? ⟨ga, 0, none⟩ = some (.pointer (some ⟨d, 0, none⟩)) ∧ u.cell? ⟨gb, 0, none⟩ = some (.pointer (some ⟨e, 0, none⟩))) w3.drew) := ⟨(cell_of_block BA.out).trans rfl, (cell_of_block BB.out).trans rfl⟩
  refine WT.region (fun u : World => u.cell? ⟨ga, 0, none⟩ = some (.pointer (some ⟨d, 0, none⟩)) ∧ u.cell? ⟨gb, 0, none⟩ = some (.pointer (some ⟨e, 0, none⟩))) 14 14 [0, 1, 2, 3, 4, 5, 6, 7, 9, 8, 10, 11, 12, 13] (by kernel_rfl) rfl ?_
  have HS := HSS
  have P1 := Lib.hid (dpending (H1.out.nb (K3.out.trans_nb (Keeps.refl Nb w3).drew)))
  have P2 := Lib.hid (dpending (H2.out.nb (K3.out.trans_nb (Keeps.refl Nb w3).drew)))
  rw [SF.out.s1] at P1
  rw [SF.out.s2] at P2
  refine WT.take 0 (v := .pointer (some ⟨d, 0, none⟩)) (by simp only [List.getElem?_toArray, List.getElem?_cons_succ, List.getElem?_cons_zero]; rfl) (by kernel_rfl) (by exact fun _ _ _ h => h) (by rfl) (by rintro w ⟨C1, C2⟩; exact rn_load1 (by kernel_rfl) (by rfl) C1) HS.out ?_
  simp only [Nat.reduceAdd, Nat.zero_add, Act.put, List.setIfInBounds_toArray, List.set_cons_succ, List.set_cons_zero]
  refine WT.take 1 (v := .bool false) (by simp only [List.getElem?_toArray, List.getElem?_cons_succ, List.getElem?_cons_zero]; rfl) (by kernel_rfl) (by exact fun _ _ _ h => h) (by rfl) (by rintro w ⟨C1, C2⟩; go_simp) HS.out ?_
  simp only [Nat.reduceAdd, Nat.zero_add, Act.put, List.setIfInBounds_toArray, List.set_cons_succ, List.set_cons_zero]
  refine WT.take 2 (v := .bool false) (by simp only [List.getElem?_toArray, List.getElem?_cons_succ, List.getElem?_cons_zero]; rfl) (by kernel_rfl) (by exact fun _ _ _ h => h) (by rfl) (by rintro w ⟨C1, C2⟩; go_simp) HS.out ?_
  simp only [Nat.reduceAdd, Nat.zero_add, Act.put, List.setIfInBounds_toArray, List.set_cons_succ, List.set_cons_zero]
  refine WT.take 3 (v := .pointer (some ⟨e, 0, none⟩)) (by simp only [List.getElem?_toArray, List.getElem?_cons_succ, List.getElem?_cons_zero]; rfl) (by kernel_rfl) (by exact fun _ _ _ h => h) (by rfl) (by rintro w ⟨C1, C2⟩; exact rn_load1 (by kernel_rfl) (by rfl) C2) HS.out ?_
  simp only [Nat.reduceAdd, Nat.zero_add, Act.put, List.setIfInBounds_toArray, List.set_cons_succ, List.set_cons_zero]
  refine WT.take 4 (v := .bool false) (by simp only [List.getElem?_toArray, List.getElem?_cons_succ, List.getElem?_cons_zero]; rfl) (by kernel_rfl) (by exact fun _ _ _ h => h) (by rfl) (by rintro w ⟨C1, C2⟩; go_simp) HS.out ?_
  simp only [Nat.reduceAdd, Nat.zero_add, Act.put, List.setIfInBounds_toArray, List.set_cons_succ, List.set_cons_zero]
  refine WT.take 5 (v := .bool false) (by simp only [List.getElem?_toArray, List.getElem?_cons_succ, List.getElem?_cons_zero]; rfl) (by kernel_rfl) (by exact fun _ _ _ h => h) (by rfl) (by rintro w ⟨C1, C2⟩; go_simp) HS.out ?_
  simp only [Nat.reduceAdd, Nat.zero_add, Act.put, List.setIfInBounds_toArray, List.set_cons_succ, List.set_cons_zero]
  refine WT.take 6 (v := .bool false) (by simp only [List.getElem?_toArray, List.getElem?_cons_succ, List.getElem?_cons_zero]; rfl) (by kernel_rfl) (by exact fun _ _ _ h => h) (by rfl) (by rintro w ⟨C1, C2⟩; go_simp) HS.out ?_
  simp only [Nat.reduceAdd, Nat.zero_add, Act.put, List.setIfInBounds_toArray, List.set_cons_succ, List.set_cons_zero]
  refine WT.take 7 (v := .pointer (some ⟨d, 0, none⟩)) (by simp only [List.getElem?_toArray, List.getElem?_cons_succ, List.getElem?_cons_zero]; rfl) (by kernel_rfl) (by exact fun _ _ _ h => h) (by rfl) (by rintro w ⟨C1, C2⟩; exact rn_load1 (by kernel_rfl) (by rfl) C1) HS.out ?_
  simp only [Nat.reduceAdd, Nat.zero_add, Act.put, List.setIfInBounds_toArray, List.set_cons_succ, List.set_cons_zero]
  refine WT.take 9 (v := .pointer (some ⟨e, 0, none⟩)) (by simp only [List.getElem?_toArray, List.getElem?_cons_succ, List.getElem?_cons_zero]; rfl) (by kernel_rfl) (by exact fun _ _ _ h => h) (by rfl) (by rintro w ⟨C1, C2⟩; exact rn_load1 (by kernel_rfl) (by rfl) C2) HS.out ?_
  simp only [Nat.reduceAdd, Nat.zero_add, Act.put, List.setIfInBounds_toArray, List.set_cons_succ, List.set_cons_zero]
  refine WT.call 8 (by simp only [List.getElem?_toArray, List.getElem?_cons_succ, List.getElem?_cons_zero]; rfl) (by kernel_rfl) (by rfl) (by go_simp; first | done | rfl | exact ⟨⟨rfl, rfl⟩, rfl⟩ | exact ⟨⟨rfl, rfl, rfl⟩, rfl⟩) P1.out ?_
  rintro _ _ ⟨rfl, rfl⟩
  refine ⟨_, rfl, HS.out, ?_⟩
  simp only [Nat.reduceAdd, Nat.zero_add, Act.put, List.setIfInBounds_toArray, List.set_cons_succ, List.set_cons_zero]
  refine WT.call 10 (by simp only [List.getElem?_toArray, List.getElem?_cons_succ, List.getElem?_cons_zero]; rfl) (by kernel_rfl) (by rfl) (by go_simp; first | done | rfl | exact ⟨⟨rfl, rfl⟩, rfl⟩ | exact ⟨⟨rfl, rfl, rfl⟩, rfl⟩) P2.out ?_
  rintro _ _ ⟨rfl, rfl⟩
  refine ⟨_, rfl, HS.out, ?_⟩
  simp only [Nat.reduceAdd, Nat.zero_add, Act.put, List.setIfInBounds_toArray, List.set_cons_succ, List.set_cons_zero]
  refine WT.take 11 (v := .int .i64 0) (by simp only [List.getElem?_toArray, List.getElem?_cons_succ, List.getElem?_cons_zero]; rfl) (by kernel_rfl) (by exact fun _ _ _ h => h) (by rfl) (by rintro w ⟨C1, C2⟩; go_simp; first | done | rfl) HS.out ?_
  simp only [Nat.reduceAdd, Nat.zero_add, Act.put, List.setIfInBounds_toArray, List.set_cons_succ, List.set_cons_zero]
  refine WT.take 12 (v := .bool false) (by simp only [List.getElem?_toArray, List.getElem?_cons_succ, List.getElem?_cons_zero]; rfl) (by kernel_rfl) (by exact fun _ _ _ h => h) (by rfl) (by rintro w ⟨C1, C2⟩; go_simp) HS.out ?_
  simp only [Nat.reduceAdd, Nat.zero_add, Act.put, List.setIfInBounds_toArray, List.set_cons_succ, List.set_cons_zero]
  refine WT.take 13 (v := .bool false) (by simp only [List.getElem?_toArray, List.getElem?_cons_succ, List.getElem?_cons_zero]; rfl) (by kernel_rfl) (by exact fun _ _ _ h => h) (by rfl) (by rintro w ⟨C1, C2⟩; go_simp) HS.out ?_
  simp only [Nat.reduceAdd, Nat.zero_add, Act.put, List.setIfInBounds_toArray, List.set_cons_succ, List.set_cons_zero]
  refine WT.stop (by kernel_rfl) (WP.done (by kernel_rfl) ?_)
  clear HS HSS P1 P2
  go_wp2_with (first | go_skip | (with_reducible refine stop_load (t := 72) ?_) | (with_reducible refine stop_load (t := 61) ?_) | (with_reducible refine stop_alloc ?_) | (with_reducible refine stop_store ?_) | (with_reducible refine stop_makeMap ?_) | (with_reducible refine stop_rangem ?_) | (with_reducible refine stop_next ?_) | (with_reducible refine stop_entry ?_) | (with_reducible refine stop_buildSlice ?_) | (with_reducible refine stop_app ?_) | (with_reducible refine stop_mapUpdate ?_) | (with_reducible refine stop_lookup ?_) | (with_reducible refine stop_delete ?_) | (with_reducible refine stop_box ?_))
  refine at_out (valloc zero3t ?_)
  intro gn w4 m4
  simp only [Nat.reduceAdd, Nat.zero_add, Act.put, List.setIfInBounds_toArray, List.set_cons_succ, List.set_cons_zero]
  go_wp2_with (first | go_skip | (with_reducible refine stop_load (t := 72) ?_) | (with_reducible refine stop_load (t := 61) ?_) | (with_reducible refine stop_alloc ?_) | (with_reducible refine stop_store ?_) | (with_reducible refine stop_makeMap ?_) | (with_reducible refine stop_rangem ?_) | (with_reducible refine stop_next ?_) | (with_reducible refine stop_entry ?_) | (with_reducible refine stop_buildSlice ?_) | (with_reducible refine stop_app ?_) | (with_reducible refine stop_mapUpdate ?_) | (with_reducible refine stop_lookup ?_) | (with_reducible refine stop_delete ?_) | (with_reducible refine stop_box ?_))
  refine at_out (wpList_skipE rfl (re_store (v := .int .i64 0) (n := 1) (by kernel_rfl) (by rfl) (by rfl) m4.blk (by rfl) (by simp [Value.cells]) (by simp [Value.cells, Value.oneCell'])) ?_)
  intro w5 s5
  simp only [Nat.reduceAdd, Nat.zero_add, Act.put, List.setIfInBounds_toArray, List.set_cons_succ, List.set_cons_zero]
  have BN5 : Hid (w5.heap[gn]? = some (.cells #[.int .i64 (0 : Nat)] 3 (0, 0))) := s5.blk
  have K35 : Hid (Keeps Nb w3 w5) := ((Keeps.refl Nb w3).drew.trans_nb m4.k).trans s5.k (fun i hi e => by have h1 : i = gn := e; have h2 : w3.heap.size ≤ gn := m4.ge; omega)
  have GN : Hid (w3.heap.size ≤ gn) := m4.ge
  have LN : Hid (gn < w5.heap.size) := lt_of_block s5.blk
  have K5 := Lib.hid (K3.out.trans_nb K35.out)
  clear m4 s5
  have cc : w5.cell? ⟨ga, 0, none⟩ = some (.pointer (some ⟨d, 0, none⟩)) := (cell_of_block (K35.out.nb BA.out)).trans rfl
  have DF := Lib.hid (dfiles (H1.out.nb K5.out))
  go_wp2_with fail
  refine DF.out.mono ?_
  rintro _ w6 ⟨ns, hperm, a3, a4, rfl, hfa, k56⟩
  have HP := Lib.hid hperm
  have HFA := Lib.hid hfa
  have K56 := Lib.hid k56
  have BN6 := Lib.hid (k56.nb BN5.out)
  clear hperm hfa k56 cc DF
  obtain ⟨ps, hps⟩ : ∃ ps, ps = ns.map fun s => (s, szOf D fc s) := ⟨_, rfl⟩
  have HPS : Hid (∀ (i : Nat) (p : ByteArray × Nat), ps[i]? = some p → mnB p.1 = true ∧ ∃ b b2, flook D.files p.1 = some b ∧ flook D2.files p.1 = some b2 ∧ fc2 b2 = fc b ∧ (fc b).lasts = p.2 ∧ (fc b).b.length = p.2) := by
    refine Lib.hid fun i p hp => ?_
    rw [hps, List.getElem?_map] at hp
    obtain ⟨s, hs, rfl⟩ := Option.map_eq_some_iff.1 hp
    have hin := HP.out.mem_iff.1 (List.mem_of_getElem? hs)
    obtain ⟨b, hb⟩ := flook_in hin
    obtain ⟨q1, b2, q2, q3⟩ := SF.out.all s b hb
    have hm := files_mn H1.out (flook_some hb)
    exact ⟨hm, b, b2, hb, q2, q3, by rw [q1]; exact (szOf_some hb).symm, (szOf_some hb).symm⟩
  have HLN : Hid (ps.length = D.files.length) := by refine Lib.hid ?_; rw [hps, List.length_map, HP.out.length_eq, List.length_map]
  have HL6 : Hid (ps.length ≤ 1000000) := by refine Lib.hid ?_; rw [HLN.out]; exact files_len H1.out
  rw [← hps] at HFA
  clear hps HP
  go_wp2_with (with_reducible refine stop_range0 ?_)
  refine at_out ((wpIn_wide (n := 9)).1 ?_)
  refine wp_range (gf := 51) (lb := #[.pointer (some ⟨a3, 0, none⟩), .pointer (some ⟨a4, 0, none⟩)]) (by rfl) (enters_of Try.func51 (by kernel_rfl) rfl)
    (files_iter 8 (by omega) w5.heap.size a3 a4 ps (fun b => w6.heap.size ≤ b ∨ b = gn) w6 HFA.out (fun b h1 h2 e => by have := LN.out; omega))
    (fun b hb => .inl (by unfold Book at hb; omega)) (fun i args W h => by obtain ⟨p, -, rfl⟩ := h; rfl)
    (fun i W => W.heap[gn]? = some (.cells #[.int .i64 (i : Nat)] 3 (0, 0)) ∧ Keeps (fun b => w6.heap.size ≤ b ∨ b = gn) w6 W) (fun _ _ => False)
    (fun i A B h k => ⟨k.at h.1 (fun e => by unfold Book at e; have := LN.out; have := K56.out.size; omega), h.2.trans k (fun j hj e => by unfold Book at e; omega)⟩) (fun c A B h => h.elim) ⟨BN6.out, Keeps.refl _ _⟩ ?round ?done (fun _ _ h => h.elim)
  case round =>
    rintro l i args W rfl hW2 ⟨hbn, hkW⟩ hi ⟨p, hp, rfl⟩
    simp only [List.zip_toArray, List.zip_cons_cons, List.zip_nil_right, List.foldl_toArray, List.foldl_cons, List.foldl_nil, List.setIfInBounds_toArray, List.set_cons_succ, List.set_cons_zero]
    obtain ⟨hmn, b, b2, q1, q2, q3, q4, q5⟩ := HPS.out i p hp
    obtain ⟨s, m⟩ := p
    have HMN := Lib.hid hmn
    have HLA : Hid (lastsOf D fc s = (((m : Nat) : Int), 0)) := by refine Lib.hid ?_; rw [lasts_some hmn q1, q4]
    have HLB : Hid (lastsOf D2 fc2 s = (((m : Nat) : Int), 0)) := by refine Lib.hid ?_; rw [lasts_some hmn q2, q3, q4]
    obtain ⟨bl, hbl⟩ : ∃ l, bstr (fc b).b = l := ⟨_, rfl⟩
    have HRA : Hid (rdS D fc s = bl) := by refine Lib.hid ?_; rw [rd_some hmn q1]; exact hbl
    have HRB : Hid (rdS D2 fc2 s = bl) := by refine Lib.hid ?_; rw [rd_some hmn q2, q3]; exact hbl
    have HBN := Lib.hid hbn; have HKW := Lib.hid hkW
    have HI := Lib.hid hi
    clear hbn hkW hp hi hmn q1 q2 q3 q4 q5 hbl
    repeat (first | (with_reducible refine stop_region ?_) | (with_reducible refine stop_range ?_) | gi_step)
    refine at_out (regionIn_list (by kernel_rfl) (by rintro ⟨_, _, h⟩; exact h) ?_)
    go_wp2
    repeat (first | (with_reducible refine stop_region ?_) | (with_reducible refine stop_range ?_) | gi_step)
    refine at_out (regionIn_list (by kernel_rfl) (by rintro ⟨_, _, h⟩; exact h) ?_)
    go_wp2
    refine ⟨Keeps.refl _ _, fun W3 k3 => ?_⟩
    have KW3 : Hid (Keeps (fun b => w6.heap.size ≤ b ∨ b = gn) w6 W3) := HKW.out.trans k3 (fun j _ e => by omega)
    have BN3 : Hid (W3.heap[gn]? = some (.cells #[.int .i64 (i : Nat)] 3 (0, 0))) := k3.at HBN.out (fun e => by have := LN.out; have := K56.out.size; omega)
    have KN3 : Hid (Keeps Nb w3 W3) := (K35.out.trans_nb K56.out).trans KW3.out (fun j hj e => by have := GN.out; have := K35.out.size; have := K56.out.size; omega)
    have KX3 := Lib.hid (K3.out.trans_nb KN3.out)
    have zW := hW2
    have z3 := k3.size
    clear k3 HBN HKW
    have DA := Lib.hid (dlasts (H1.out.nb KX3.out) s (mnB_max HMN.out))
    have DB := Lib.hid (fun u (k : Keeps Nb w u) => dlasts (H2.out.nb k) s (mnB_max HMN.out))
    rw [HLA.out] at DA
    rw [HLB.out] at DB
    have ca : W3.cell? ⟨gb, 0, none⟩ = some (.pointer (some ⟨e, 0, none⟩)) := (cell_of_block (KN3.out.nb BB.out)).trans rfl
    repeat (first | (with_reducible refine stop_region ?_) | (with_reducible refine stop_range ?_) | gi_step)
    refine at_out (regionIn_list (by kernel_rfl) (by rintro ⟨_, _, h⟩; exact h) ?_)
    go_wp2_with fail
    refine (DB.out W3 KX3.out).mono ?_
    rintro _ W4 ⟨rfl, k4⟩
    have K4 := Lib.hid k4
    clear k4 ca
    go_wp2
    have cb : W4.cell? ⟨ga, 0, none⟩ = some (.pointer (some ⟨d, 0, none⟩)) := (cell_of_block (K4.out.nb (KN3.out.nb BA.out))).trans rfl
    have DA4 := Lib.hid (dlasts (H1.out.nb (KX3.out.trans_nb K4.out)) s (mnB_max HMN.out))
    rw [HLA.out] at DA4
    repeat (first | (with_reducible refine stop_region ?_) | (with_reducible refine stop_range ?_) | gi_step)
    refine at_out (regionIn_list (by kernel_rfl) (by rintro ⟨_, _, h⟩; exact h) ?_)
    go_wp2_with fail
    refine DA4.out.mono ?_
    rintro _ W5 ⟨rfl, k5⟩
    have K5' := Lib.hid (K4.out.trans_nb k5)
    clear k5 cb DA4 DA
    go_wp2
    have KX5 := Lib.hid (KX3.out.trans_nb K5'.out)
    have HSS : Hid ((fun u : World => u.cell? ⟨ga, 0, none⟩ = some (.pointer (some ⟨d, 0, none⟩)) ∧ u.cell? ⟨gb, 0, none⟩ = some (.pointer (some ⟨e, 0, none⟩))) W5.drew) := ⟨(cell_of_block (K5'.out.nb (KN3.out.nb BA.out))).trans rfl, (cell_of_block (K5'.out.nb (KN3.out.nb BB.out))).trans rfl⟩
    repeat (first | (with_reducible refine stop_region ?_) | (with_reducible refine stop_range ?_) | gi_step)
    refine at_out (WT.regionIn (fun u : World => u.cell? ⟨ga, 0, none⟩ = some (.pointer (some ⟨d, 0, none⟩)) ∧ u.cell? ⟨gb, 0, none⟩ = some (.pointer (some ⟨e, 0, none⟩))) 25 [0, 2, 1, 3, 4, 5, 6, 7, 8, 9, 10, 11, 12, 13, 14, 15, 16, 17, 18, 20, 21, 19, 22, 23, 24] (by kernel_rfl) (by rintro ⟨_, _, h⟩; exact h) (by kernel_rfl) rfl ?_)
    have HS := HSS
    refine WT.take 0 (v := _) (by simp only [List.getElem?_toArray, List.getElem?_cons_succ, List.getElem?_cons_zero]; rfl) (by kernel_rfl) (by exact fun _ _ _ h => h) (by rfl) (by rintro w ⟨C1, C2⟩; go_simp; with_reducible rfl) HS.out ?_
    simp only [Nat.reduceAdd, Nat.zero_add, Act.put, List.setIfInBounds_toArray, List.set_cons_succ, List.set_cons_zero]
    refine WT.take 2 (v := _) (by simp only [List.getElem?_toArray, List.getElem?_cons_succ, List.getElem?_cons_zero]; rfl) (by kernel_rfl) (by exact fun _ _ _ h => h) (by rfl) (by rintro w ⟨C1, C2⟩; go_simp; with_reducible rfl) HS.out ?_
    simp only [Nat.reduceAdd, Nat.zero_add, Act.put, List.setIfInBounds_toArray, List.set_cons_succ, List.set_cons_zero]
    refine WT.call 1 (by simp only [List.getElem?_toArray, List.getElem?_cons_succ, List.getElem?_cons_zero]; rfl) (by kernel_rfl) (by rfl) (by go_simp; first | done | rfl | exact ⟨⟨rfl, rfl⟩, rfl⟩) (num_at 0 W5.drew) ?_
    rintro _ _ ⟨rfl, rfl⟩
    refine ⟨_, rfl, HS.out, ?_⟩
    simp only [Nat.reduceAdd, Nat.zero_add, Act.put, List.setIfInBounds_toArray, List.set_cons_succ, List.set_cons_zero]
    refine WT.call 3 (by simp only [List.getElem?_toArray, List.getElem?_cons_succ, List.getElem?_cons_zero]; rfl) (by kernel_rfl) (by rfl) (by go_simp; first | done | rfl | exact ⟨⟨rfl, rfl⟩, rfl⟩) (num_at 0 W5.drew) ?_
    rintro _ _ ⟨rfl, rfl⟩
    refine ⟨_, rfl, HS.out, ?_⟩
    simp only [Nat.reduceAdd, Nat.zero_add, Act.put, List.setIfInBounds_toArray, List.set_cons_succ, List.set_cons_zero]
    refine WT.take 4 (v := .int .i64 0) (by simp only [List.getElem?_toArray, List.getElem?_cons_succ, List.getElem?_cons_zero]; rfl) (by kernel_rfl) (by exact fun _ _ _ h => h) (by rfl) (by rintro w ⟨C1, C2⟩; go_simp; first | done | rfl) HS.out ?_
    simp only [Nat.reduceAdd, Nat.zero_add, Act.put, List.setIfInBounds_toArray, List.set_cons_succ, List.set_cons_zero]
    refine WT.take 5 (v := .bool false) (by simp only [List.getElem?_toArray, List.getElem?_cons_succ, List.getElem?_cons_zero]; rfl) (by kernel_rfl) (by exact fun _ _ _ h => h) (by rfl) (by rintro w ⟨C1, C2⟩; go_simp) HS.out ?_
    simp only [Nat.reduceAdd, Nat.zero_add, Act.put, List.setIfInBounds_toArray, List.set_cons_succ, List.set_cons_zero]
    refine WT.take 6 (v := .bool false) (by simp only [List.getElem?_toArray, List.getElem?_cons_succ, List.getElem?_cons_zero]; rfl) (by kernel_rfl) (by exact fun _ _ _ h => h) (by rfl) (by rintro w ⟨C1, C2⟩; go_simp) HS.out ?_
    simp only [Nat.reduceAdd, Nat.zero_add, Act.put, List.setIfInBounds_toArray, List.set_cons_succ, List.set_cons_zero]
    refine WT.take 7 (v := _) (by simp only [List.getElem?_toArray, List.getElem?_cons_succ, List.getElem?_cons_zero]; rfl) (by kernel_rfl) (by exact fun _ _ _ h => h) (by rfl) (by rintro w ⟨C1, C2⟩; go_simp; with_reducible rfl) HS.out ?_
    simp only [Nat.reduceAdd, Nat.zero_add, Act.put, List.setIfInBounds_toArray, List.set_cons_succ, List.set_cons_zero]
    refine WT.take 8 (v := _) (by simp only [List.getElem?_toArray, List.getElem?_cons_succ, List.getElem?_cons_zero]; rfl) (by kernel_rfl) (by exact fun _ _ _ h => h) (by rfl) (by rintro w ⟨C1, C2⟩; go_simp; with_reducible rfl) HS.out ?_
    simp only [Nat.reduceAdd, Nat.zero_add, Act.put, List.setIfInBounds_toArray, List.set_cons_succ, List.set_cons_zero]
    refine WT.take 9 (v := .bool false) (by simp only [List.getElem?_toArray, List.getElem?_cons_succ, List.getElem?_cons_zero]; rfl) (by kernel_rfl) (by exact fun _ _ _ h => h) (by rfl) (by rintro w ⟨C1, C2⟩; go_simp) HS.out ?_
    simp only [Nat.reduceAdd, Nat.zero_add, Act.put, List.setIfInBounds_toArray, List.set_cons_succ, List.set_cons_zero]
    refine WT.take 10 (v := .bool false) (by simp only [List.getElem?_toArray, List.getElem?_cons_succ, List.getElem?_cons_zero]; rfl) (by kernel_rfl) (by exact fun _ _ _ h => h) (by rfl) (by rintro w ⟨C1, C2⟩; go_simp) HS.out ?_
    simp only [Nat.reduceAdd, Nat.zero_add, Act.put, List.setIfInBounds_toArray, List.set_cons_succ, List.set_cons_zero]
    refine WT.take 11 (v := .bool false) (by simp only [List.getElem?_toArray, List.getElem?_cons_succ, List.getElem?_cons_zero]; rfl) (by kernel_rfl) (by exact fun _ _ _ h => h) (by rfl) (by rintro w ⟨C1, C2⟩; go_simp) HS.out ?_
    simp only [Nat.reduceAdd, Nat.zero_add, Act.put, List.setIfInBounds_toArray, List.set_cons_succ, List.set_cons_zero]
    refine WT.take 12 (v := _) (by simp only [List.getElem?_toArray, List.getElem?_cons_succ, List.getElem?_cons_zero]; rfl) (by kernel_rfl) (by exact fun _ _ _ h => h) (by rfl) (by rintro w ⟨C1, C2⟩; go_simp; with_reducible rfl) HS.out ?_
    simp only [Nat.reduceAdd, Nat.zero_add, Act.put, List.setIfInBounds_toArray, List.set_cons_succ, List.set_cons_zero]
    refine WT.take 13 (v := _) (by simp only [List.getElem?_toArray, List.getElem?_cons_succ, List.getElem?_cons_zero]; rfl) (by kernel_rfl) (by exact fun _ _ _ h => h) (by rfl) (by rintro w ⟨C1, C2⟩; go_simp; with_reducible rfl) HS.out ?_
    simp only [Nat.reduceAdd, Nat.zero_add, Act.put, List.setIfInBounds_toArray, List.set_cons_succ, List.set_cons_zero]
    refine WT.take 14 (v := .bool false) (by simp only [List.getElem?_toArray, List.getElem?_cons_succ, List.getElem?_cons_zero]; rfl) (by kernel_rfl) (by exact fun _ _ _ h => h) (by rfl) (by rintro w ⟨C1, C2⟩; go_simp) HS.out ?_
    simp only [Nat.reduceAdd, Nat.zero_add, Act.put, List.setIfInBounds_toArray, List.set_cons_succ, List.set_cons_zero]
    refine WT.take 15 (v := .bool false) (by simp only [List.getElem?_toArray, List.getElem?_cons_succ, List.getElem?_cons_zero]; rfl) (by kernel_rfl) (by exact fun _ _ _ h => h) (by rfl) (by rintro w ⟨C1, C2⟩; go_simp) HS.out ?_
    simp only [Nat.reduceAdd, Nat.zero_add, Act.put, List.setIfInBounds_toArray, List.set_cons_succ, List.set_cons_zero]
    refine WT.take 16 (v := .bool false) (by simp only [List.getElem?_toArray, List.getElem?_cons_succ, List.getElem?_cons_zero]; rfl) (by kernel_rfl) (by exact fun _ _ _ h => h) (by rfl) (by rintro w ⟨C1, C2⟩; go_simp) HS.out ?_
    simp only [Nat.reduceAdd, Nat.zero_add, Act.put, List.setIfInBounds_toArray, List.set_cons_succ, List.set_cons_zero]
    refine WT.take 17 (v := .pointer (some ⟨d, 0, none⟩)) (by simp only [List.getElem?_toArray, List.getElem?_cons_succ, List.getElem?_cons_zero]; rfl) (by kernel_rfl) (by exact fun _ _ _ h => h) (by rfl) (by rintro w ⟨C1, C2⟩; exact rn_load1 (by kernel_rfl) (by rfl) C1) HS.out ?_
    simp only [Nat.reduceAdd, Nat.zero_add, Act.put, List.setIfInBounds_toArray, List.set_cons_succ, List.set_cons_zero]
    refine WT.take 18 (v := _) (by simp only [List.getElem?_toArray, List.getElem?_cons_succ, List.getElem?_cons_zero]; rfl) (by kernel_rfl) (by exact fun _ _ _ h => h) (by rfl) (by rintro w ⟨C1, C2⟩; go_simp; with_reducible rfl) HS.out ?_
    simp only [Nat.reduceAdd, Nat.zero_add, Act.put, List.setIfInBounds_toArray, List.set_cons_succ, List.set_cons_zero]
    refine WT.take 20 (v := .pointer (some ⟨e, 0, none⟩)) (by simp only [List.getElem?_toArray, List.getElem?_cons_succ, List.getElem?_cons_zero]; rfl) (by kernel_rfl) (by exact fun _ _ _ h => h) (by rfl) (by rintro w ⟨C1, C2⟩; exact rn_load1 (by kernel_rfl) (by rfl) C2) HS.out ?_
    simp only [Nat.reduceAdd, Nat.zero_add, Act.put, List.setIfInBounds_toArray, List.set_cons_succ, List.set_cons_zero]
    refine WT.take 21 (v := _) (by simp only [List.getElem?_toArray, List.getElem?_cons_succ, List.getElem?_cons_zero]; rfl) (by kernel_rfl) (by exact fun _ _ _ h => h) (by rfl) (by rintro w ⟨C1, C2⟩; go_simp; with_reducible rfl) HS.out ?_
    simp only [Nat.reduceAdd, Nat.zero_add, Act.put, List.setIfInBounds_toArray, List.set_cons_succ, List.set_cons_zero]
    refine WT.call 19 (by simp only [List.getElem?_toArray, List.getElem?_cons_succ, List.getElem?_cons_zero]; rfl) (by kernel_rfl) (by rfl) (by go_simp; first | done | rfl | exact ⟨⟨rfl, rfl⟩, rfl⟩ | exact ⟨⟨rfl, rfl, rfl⟩, rfl⟩) (lread (H1.out.nb (KX5.out.trans_nb (Keeps.refl Nb W5).drew)) s (mnB_max HMN.out)) ?_
    rintro _ W6 ⟨rfl, k6⟩
    rw [HRA.out]
    have K6 : Hid (Keeps Nb W5 W6) := (Keeps.refl Nb W5).drew.trans_nb k6
    replace HS : Hid ((fun u : World => u.cell? ⟨ga, 0, none⟩ = some (.pointer (some ⟨d, 0, none⟩)) ∧ u.cell? ⟨gb, 0, none⟩ = some (.pointer (some ⟨e, 0, none⟩))) W6) := ⟨(cell_of_block (K6.out.nb (K5'.out.nb (KN3.out.nb BA.out)))).trans rfl, (cell_of_block (K6.out.nb (K5'.out.nb (KN3.out.nb BB.out)))).trans rfl⟩
    refine ⟨_, rfl, HS.out, ?_⟩
    simp only [Nat.reduceAdd, Nat.zero_add, Act.put, List.setIfInBounds_toArray, List.set_cons_succ, List.set_cons_zero]
    refine WT.call 22 (by simp only [List.getElem?_toArray, List.getElem?_cons_succ, List.getElem?_cons_zero]; rfl) (by kernel_rfl) (by rfl) (by go_simp; first | done | rfl | exact ⟨⟨rfl, rfl⟩, rfl⟩ | exact ⟨⟨rfl, rfl, rfl⟩, rfl⟩) (lread (H2.out.nb (KX5.out.trans_nb K6.out)) s (mnB_max HMN.out)) ?_
    rintro _ W7 ⟨rfl, k7⟩
    rw [HRB.out]
    have K7 : Hid (Keeps Nb W5 W7) := K6.out.trans_nb k7
    replace HS : Hid ((fun u : World => u.cell? ⟨ga, 0, none⟩ = some (.pointer (some ⟨d, 0, none⟩)) ∧ u.cell? ⟨gb, 0, none⟩ = some (.pointer (some ⟨e, 0, none⟩))) W7) := ⟨(cell_of_block (K7.out.nb (K5'.out.nb (KN3.out.nb BA.out)))).trans rfl, (cell_of_block (K7.out.nb (K5'.out.nb (KN3.out.nb BB.out)))).trans rfl⟩
    refine ⟨_, rfl, HS.out, ?_⟩
    simp only [Nat.reduceAdd, Nat.zero_add, Act.put, List.setIfInBounds_toArray, List.set_cons_succ, List.set_cons_zero]
    refine WT.take 23 (v := .bool false) (by simp only [List.getElem?_toArray, List.getElem?_cons_succ, List.getElem?_cons_zero]; rfl) (by kernel_rfl) (by exact fun _ _ _ h => h) (by rfl) (by rintro w ⟨C1, C2⟩; go_simp; first | done | simp [str_bne]) HS.out ?_
    simp only [Nat.reduceAdd, Nat.zero_add, Act.put, List.setIfInBounds_toArray, List.set_cons_succ, List.set_cons_zero]
    refine WT.take 24 (v := .bool false) (by simp only [List.getElem?_toArray, List.getElem?_cons_succ, List.getElem?_cons_zero]; rfl) (by kernel_rfl) (by exact fun _ _ _ h => h) (by rfl) (by rintro w ⟨C1, C2⟩; go_simp) HS.out ?_
    simp only [Nat.reduceAdd, Nat.zero_add, Act.put, List.setIfInBounds_toArray, List.set_cons_succ, List.set_cons_zero]
    refine WT.stop (by kernel_rfl) (WP.done (by kernel_rfl) ?_)
    clear HS HSS k6 k7
    have BN7 := Lib.hid (K7.out.nb (K5'.out.nb BN3.out))
    have cn : W7.cell? ⟨gn, 0, none⟩ = some (.int .i64 (i : Nat)) := (cell_of_block BN7.out).trans rfl
    have hi6 : i ≤ 1000000 := by have := HI.out; have := HL6.out; omega
    repeat (first | (with_reducible refine stop_region ?_) | (with_reducible refine stop_range ?_) | gi_step)
    refine at_out (regionIn_list (by kernel_rfl) (by rintro ⟨_, _, h⟩; exact h) ?_)
    go_wp2_with (first | go_skip | (with_reducible refine stop_load (t := 72) ?_) | (with_reducible refine stop_load (t := 61) ?_) | (with_reducible refine stop_alloc ?_) | (with_reducible refine stop_store ?_) | (with_reducible refine stop_makeMap ?_) | (with_reducible refine stop_rangem ?_) | (with_reducible refine stop_next ?_) | (with_reducible refine stop_entry ?_) | (with_reducible refine stop_buildSlice ?_) | (with_reducible refine stop_app ?_) | (with_reducible refine stop_mapUpdate ?_) | (with_reducible refine stop_lookup ?_) | (with_reducible refine stop_delete ?_) | (with_reducible refine stop_box ?_))
    refine at_out (wpList_skipE rfl (re_store (v := .int .i64 ((i + 1 : Nat) : Int)) (n := 1) (by kernel_rfl) (by rfl) (by rfl) BN7.out (by rfl) (by simp [Value.cells]) (by simp [Value.cells, Value.oneCell'])) ?_)
    intro W8 s8
    simp only [Nat.reduceAdd, Nat.zero_add, Act.put, List.setIfInBounds_toArray, List.set_cons_succ, List.set_cons_zero]
    have hb8 : W8.heap[gn]? = some (.cells #[.int .i64 ((i + 1 : Nat) : Int)] 3 (0, 0)) := s8.blk
    have kf : Keeps (fun b => (w6.heap.size ≤ b ∨ b = gn) ∧ ¬ Book w6 b) W3 W8 := ((K5'.out.trans_nb K7.out).of_nb).trans s8.k (fun j _ e => ⟨.inr e, by have h1 : j = gn := e; subst h1; unfold Book; have := LN.out; have := K56.out.size; omega⟩)
    clear s8 cn
    refine wpList_nil ?_
    exact ⟨kf, hb8, KW3.out.trans kf (fun j _ e => e.1)⟩
  case done =>
    rintro W ⟨hbn, hkW⟩ hD
    have BN := Lib.hid hbn
    have KNW : Hid (Keeps Nb w3 W) := (K35.out.trans_nb K56.out).trans hkW (fun j hj e => by have := GN.out; have := K35.out.size; have := K56.out.size; omega)
    have HD := Lib.hid hD
    have ZW : Hid (w6.heap.size < W.heap.size) := lt_of_block hD
    have ZN : Hid (gn < w6.heap.size) := by refine Lib.hid ?_; have := LN.out; have := K56.out.size; omega
    clear hbn hkW hD
    have KXW := Lib.hid (K3.out.trans_nb KNW.out)
    have cb : W.cell? ⟨gb, 0, none⟩ = some (.pointer (some ⟨e, 0, none⟩)) := (cell_of_block (KNW.out.nb BB.out)).trans rfl
    go_wp2_with fail
    refine (dfiles (H2.out.nb KXW.out)).mono ?_
    rintro _ wa ⟨ns9, -, a9, b9, rfl, -, ka⟩
    have KA := Lib.hid ka
    have ca : wa.cell? ⟨gb, 0, none⟩ = some (.pointer (some ⟨e, 0, none⟩)) := (cell_of_block (ka.nb (KNW.out.nb BB.out))).trans rfl
    clear ka cb
    go_wp2_with fail
    refine (dfiles (H2.out.nb (KXW.out.trans_nb KA.out))).mono ?_
    rintro _ wb ⟨ns2, hperm2, c3, c4, rfl, hfa2, kb⟩
    obtain ⟨qs, hqs⟩ : ∃ qs, qs = ns2.map fun s => (s, szOf D2 fc2 s) := ⟨_, rfl⟩
    have HLQ : Hid (qs.length = ps.length) := by
      refine Lib.hid ?_
      have e1 := SF.out.names.length_eq
      simp only [List.length_map] at e1
      rw [hqs, List.length_map, hperm2.length_eq, List.length_map, HLN.out, e1]
    rw [← hqs] at hfa2
    have HFB := Lib.hid hfa2
    have KB := Lib.hid kb
    have ZA : Hid (W.heap.size ≤ wa.heap.size) := KA.out.size
    have BNb : Hid (wb.heap[gn]? = some (.cells #[.int .i64 ((ps.length : Int) - ((0 : Nat) : Int))] 3 (0, 0))) := by
      refine Lib.hid ?_
      have := kb.nb (KA.out.nb BN.out)
      simpa using this
    have HDb := Lib.hid (kb.nb (KA.out.nb HD.out))
    have ZNb : Hid (gn < wa.heap.size) := by refine Lib.hid ?_; have := ZN.out; have := ZW.out; have := ZA.out; omega
    clear hqs hperm2 hfa2 kb ca
    go_wp2_with (with_reducible refine stop_range0 ?_)
    refine at_out ((wpIn_wide (n := 9)).1 ?_)
    refine wp_range (gf := 51) (lb := #[.pointer (some ⟨c3, 0, none⟩), .pointer (some ⟨c4, 0, none⟩)]) (by rfl) (enters_of Try.func51 (by kernel_rfl) rfl)
      (files_iter 8 (by omega) wa.heap.size c3 c4 qs (fun b => wb.heap.size ≤ b ∨ b = gn) wb HFB.out (fun b h1 h2 e => by have := ZNb.out; omega))
      (fun b hb => .inl (by unfold Book at hb; omega)) (fun i args W h => by obtain ⟨p, -, rfl⟩ := h; rfl)
      (fun i W => W.heap[gn]? = some (.cells #[.int .i64 ((ps.length : Int) - ((i : Nat) : Int))] 3 (0, 0)) ∧ Keeps (fun b => wb.heap.size ≤ b ∨ b = gn) wb W) (fun _ _ => False)
      (fun i A B h k => ⟨k.at h.1 (fun e => by unfold Book at e; have := ZNb.out; have := KB.out.size; omega), h.2.trans k (fun j hj e => by unfold Book at e; omega)⟩) (fun c A B h => h.elim) ⟨BNb.out, Keeps.refl _ _⟩ ?round2 ?done2 (fun _ _ h => h.elim)
    case round2 =>
      rintro l i args V rfl hW2 ⟨hbn, hkV⟩ hi ⟨p, hp, rfl⟩
      simp only [List.zip_toArray, List.zip_cons_cons, List.zip_nil_right, List.foldl_toArray, List.foldl_cons, List.foldl_nil, List.setIfInBounds_toArray, List.set_cons_succ, List.set_cons_zero]
      have HBN := Lib.hid hbn; have HKV := Lib.hid hkV
      have HI := Lib.hid hi
      clear hbn hkV hp hi
      repeat (first | (with_reducible refine stop_region ?_) | (with_reducible refine stop_range ?_) | gi_step)
      refine ⟨Keeps.refl _ _, fun V3 k3 => ?_⟩
      have KV3 : Hid (Keeps (fun b => wb.heap.size ≤ b ∨ b = gn) wb V3) := HKV.out.trans k3 (fun j _ e => by omega)
      have BN3 : Hid (V3.heap[gn]? = some (.cells #[.int .i64 ((ps.length : Int) - ((i : Nat) : Int))] 3 (0, 0))) := k3.at HBN.out (fun e => by have := ZNb.out; have := KB.out.size; omega)
      clear k3 HBN HKV
      obtain ⟨x, hx⟩ : ∃ x : Int, x = (ps.length : Int) - ((i : Nat) : Int) := ⟨_, rfl⟩
      have HX := Lib.hid hx
      rw [← hx] at BN3
      have hxb : -1000000 ≤ x ∧ x ≤ 1000000 := by have := HI.out; have := HLQ.out; have := HL6.out; omega
      clear hx
      have cn : V3.cell? ⟨gn, 0, none⟩ = some (.int .i64 x) := (cell_of_block BN3.out).trans rfl
      repeat (first | (with_reducible refine stop_region ?_) | (with_reducible refine stop_range ?_) | gi_step)
      refine at_out (regionIn_list (by kernel_rfl) (by rintro ⟨_, _, h⟩; exact h) ?_)
      go_wp2_with (first | go_skip | (with_reducible refine stop_load (t := 72) ?_) | (with_reducible refine stop_load (t := 61) ?_) | (with_reducible refine stop_alloc ?_) | (with_reducible refine stop_store ?_) | (with_reducible refine stop_makeMap ?_) | (with_reducible refine stop_rangem ?_) | (with_reducible refine stop_next ?_) | (with_reducible refine stop_entry ?_) | (with_reducible refine stop_buildSlice ?_) | (with_reducible refine stop_app ?_) | (with_reducible refine stop_mapUpdate ?_) | (with_reducible refine stop_lookup ?_) | (with_reducible refine stop_delete ?_) | (with_reducible refine stop_box ?_))
      refine at_out (wpList_skipE rfl (re_store (v := .int .i64 (x - 1)) (n := 1) (by kernel_rfl) (by rfl) (by rfl) BN3.out (by rfl) (by simp [Value.cells]) (by simp [Value.cells, Value.oneCell'])) ?_)
      intro V8 s8
      simp only [Nat.reduceAdd, Nat.zero_add, Act.put, List.setIfInBounds_toArray, List.set_cons_succ, List.set_cons_zero]
      have hb8 : V8.heap[gn]? = some (.cells #[.int .i64 ((ps.length : Int) - ((i + 1 : Nat) : Int))] 3 (0, 0)) := by rw [show (ps.length : Int) - ((i + 1 : Nat) : Int) = x - 1 by rw [HX.out]; omega]; exact s8.blk
      have kf : Keeps (fun b => (wb.heap.size ≤ b ∨ b = gn) ∧ ¬ Book wb b) V3 V8 := s8.k.trans (Keeps.refl _ _) (fun _ _ e => e) |>.mono (fun j _ e => ⟨.inr e, by have h1 : j = gn := e; subst h1; unfold Book; have := ZNb.out; have := KB.out.size; omega⟩)
      clear s8 cn
      refine wpList_nil ?_
      exact ⟨kf, hb8, KV3.out.trans kf (fun j _ e => e.1)⟩
    case done2 =>
      rintro V ⟨hbn, hkV⟩ hD2
      have BV : Hid (V.heap[gn]? = some (.cells #[.int .i64 0] 3 (0, 0))) := by
        refine Lib.hid ?_
        rw [HLQ.out, show (ps.length : Int) - ((ps.length : Nat) : Int) = 0 by omega] at hbn
        exact hbn
      have KNV : Hid (Keeps Nb w3 V) := ((KNW.out.trans_nb KA.out).trans_nb KB.out).trans hkV (fun j hj e => by have := GN.out; have := KNW.out.size; have := KA.out.size; have := KB.out.size; omega)
      have HD2 := Lib.hid hD2
      have HD1 := Lib.hid (hkV.at HDb.out (fun e => by have := ZN.out; have := ZW.out; have := ZA.out; have := KB.out.size; omega))
      have BRV := Lib.hid (KNV.out.nb BR.out)
      have KXV := Lib.hid (K3.out.trans_nb KNV.out)
      clear hbn hkV hD2
      have cn : V.cell? ⟨gn, 0, none⟩ = some (.int .i64 0) := (cell_of_block BV.out).trans rfl
      go_wp2_with (first | go_skip | (with_reducible refine stop_load (t := 72) ?_) | (with_reducible refine stop_load (t := 61) ?_) | (with_reducible refine stop_alloc ?_) | (with_reducible refine stop_store ?_) | (with_reducible refine stop_makeMap ?_) | (with_reducible refine stop_rangem ?_) | (with_reducible refine stop_next ?_) | (with_reducible refine stop_entry ?_) | (with_reducible refine stop_buildSlice ?_) | (with_reducible refine stop_app ?_) | (with_reducible refine stop_mapUpdate ?_) | (with_reducible refine stop_lookup ?_) | (with_reducible refine stop_delete ?_) | (with_reducible refine stop_box ?_))
      refine at_out (wpList_skipE rfl (re_store (v := .bool true) (n := 1) (by kernel_rfl) (by rfl) (by rfl) BRV.out (by rfl) (by simp [Value.cells]) (by simp [Value.cells, Value.oneCell'])) ?_)
      intro V4 s4
      simp only [Nat.reduceAdd, Nat.zero_add, Act.put, List.setIfInBounds_toArray, List.set_cons_succ, List.set_cons_zero]
      have g1 : gr < w6.heap.size := by have := LR.out; have := K35.out.size; have := K56.out.size; omega
      have g2 : w6.heap.size < wb.heap.size := by have := ZW.out; have := ZA.out; have := KB.out.size; omega
      have E1 := Lib.hid (s4.k.at HD1.out (fun e => by have : w6.heap.size = gr := e; omega))
      have E2 := Lib.hid (s4.k.at HD2.out (fun e => by have : wb.heap.size = gr := e; omega))
      have ER : Hid (V4.heap[gr]? = some (.cells #[.bool true] 4 (0, 0))) := s4.blk
      have KF : Hid (Keeps Nb w V4) := KXV.out.trans s4.k (fun j hj e => by have : j = gr := e; have := GR.out; omega)
      clear s4 cn
      go_wp2
      have kp1 := keeps_putObj V4 wb.heap.size (.deferred none)
      have f1 := kp1.at E1.out (fun e => by have : w6.heap.size = wb.heap.size := e; omega)
      have kp2 := keeps_putObj (V4.putObj wb.heap.size (.deferred none)) w6.heap.size (.deferred none)
      have f2 := kp2.at (kp1.at ER.out (fun e => by have : gr = wb.heap.size := e; omega)) (fun e => by have : gr = w6.heap.size := e; omega)
      have hc5 : ((V4.putObj wb.heap.size (.deferred none)).putObj w6.heap.size (.deferred none)).cell? ⟨gr, 0, none⟩ = some (.bool true) := by rw [cell_of_block f2]; rfl
      refine ⟨by simp, .inl ⟨_, _, rfl, run_takeDeferred E2.out, by simp, .inl ⟨_, _, rfl, run_takeDeferred f1, ?_⟩⟩⟩
      refine ⟨.bool true, by simp [results, Try.f27, go_sem, hc5], rfl, ?_⟩
      have z1 : w.heap.size ≤ w6.heap.size := by have := K3.out.size; have := K35.out.size; have := K56.out.size; omega
      exact (KF.out.trans kp1 (fun j hj e => by have : j = wb.heap.size := e; omega)).trans kp2 (fun j hj e => by have : j = w6.heap.size := e; omega)
end Go.Proofs.Ytgpecnihjjnkeaa.vfsBack
