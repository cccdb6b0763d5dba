/- A disk as a law sees it: all that is its own was made since the law began. -/
import Derived.Test.YtgpecnihjjnkeaaMuchW
set_option linter.unusedVariables false
set_option linter.unusedSimpArgs false
namespace Go.Vfs
open Go.Lk Go.RowKit
variable {W0 w w' w2 : World} {d : Nat} {D D' : Dk} {fc fc' : Nat → Fl}
/-- The disk d, seen from W0; nothing of W0 has changed; of what is the disk's nothing is X's. -/
structure DB (W0 w : World) (d : Nat) (D : Dk) (fc : Nat → Fl) (F R : Nat → Prop) : Prop where
  k : Keeps Nb W0 w
  at_ : DiskAt w d F R D fc
  gF : ∀ k, F k → W0.heap.size ≤ k
  gR : ∀ k, R k → W0.heap.size ≤ k
def Db (W0 w : World) (d : Nat) (D : Dk) (fc : Nat → Fl) : Prop := ∃ F R, DB W0 w d D fc F R
theorem DB.now {F R : Nat → Prop} (h : DB W0 w d D fc F R) (hn : Now w w' d F R D' fc') : Db W0 w' d D' fc' := by
  obtain ⟨F', R', h1, h2, h3, h4⟩ := hn
  have hk := h.k.size
  exact ⟨F', R', h.k.trans h4 (fun i hi e => by have := h.gF i e; omega), h1, fun k e => (h2 k e).elim (h.gF k) (fun e => by omega), fun k e => (h3 k e).elim (h.gR k) (fun e => by omega)⟩
theorem Db.nb (h : Db W0 w d D fc) (hk : Keeps Nb w w') : Db W0 w' d D fc := by
  obtain ⟨F, R, h⟩ := h
  exact ⟨F, R, h.k.trans_nb hk, h.at_.nb hk, h.gF, h.gR⟩
theorem Db.k (h : Db W0 w d D fc) : Keeps Nb W0 w := by obtain ⟨F, R, h⟩ := h; exact h.k
theorem DB.renum {F R : Nat → Prop} (h : DB W0 w d D fc F R) (hd : DiskAt w' d F R D' fc) (hk : Keeps (· = d) w w') : Db W0 w' d D' fc :=
  ⟨F, R, h.k.trans hk (fun i hi e => by have := h.gF d h.at_.fd; omega), hd, h.gF, h.gR⟩
end Go.Vfs
namespace Go.Proofs.Ytgpecnihjjnkeaa
open Go.RowKit Go.Lk Go.Vfs
variable {W0 w w' : World} {d : Nat} {D : Dk} {fc : Nat → Fl}
/-- What a change answers. -/
def Ans (W0 : World) (d : Nat) (Φ : Int → Dk → (Nat → Fl) → Prop) (e : Ending) (w' : World) : Prop := ∃ er D' fc', e = .returned (.int .i64 er) ∧ Db W0 w' d D' fc' ∧ Φ er D' fc'
theorem dmake (h : Db W0 w d D fc) (s : ByteArray) (hs : s.size ≤ maxLen) (hc : D.changes < 1000000) : Calls Try.prog 15 #[.pointer (some ⟨d, 0, none⟩), .string s] w (Ans W0 d fun er D' fc' => MakeR w.heap.size D fc s er D' fc' ∧ ∀ b, Ref D b → b < w.heap.size) := by
  obtain ⟨F, R, h⟩ := h
  refine (make_at d s D F R fc w h.at_ hs hc).mono ?_
  rintro e w' ⟨er, D', fc', rfl, hn, hr⟩
  exact ⟨er, D', fc', rfl, h.now hn, hr, fun b hb => h.at_.ltF b (h.at_.file b hb).2⟩
theorem dsync (h : Db W0 w d D fc) (s : ByteArray) (hs : s.size ≤ maxLen) (hc : D.changes < 1000000) : Calls Try.prog 17 #[.pointer (some ⟨d, 0, none⟩), .string s] w (Ans W0 d fun er D' fc' => SyncR D fc s er D' fc') := by
  obtain ⟨F, R, h⟩ := h
  refine (sync_at d s D F R fc w h.at_ hs hc).mono ?_
  rintro e w' ⟨er, D', fc', rfl, hn, hr⟩
  exact ⟨er, D', fc', rfl, h.now hn, hr⟩
theorem dcut (h : Db W0 w d D fc) (s : ByteArray) (n : Int) (hs : s.size ≤ maxLen) (hn : I64 n) (hc : D.changes < 1000000) : Calls Try.prog 32 #[.pointer (some ⟨d, 0, none⟩), .string s, .int .i64 n] w (Ans W0 d fun er D' fc' => CutR D fc s n er D' fc') := by
  obtain ⟨F, R, h⟩ := h
  refine (cut_at d s n D F R fc w h.at_ hs hc hn).mono ?_
  rintro e w' ⟨er, D', fc', rfl, hn, hr⟩
  exact ⟨er, D', fc', rfl, h.now hn, hr⟩
theorem dren (h : Db W0 w d D fc) (s t : ByteArray) (hs : s.size ≤ maxLen) (ht : t.size ≤ maxLen) (hc : D.changes < 1000000) : Calls Try.prog 20 #[.pointer (some ⟨d, 0, none⟩), .string s, .string t] w (Ans W0 d fun er D' fc' => RenR D s t er D' ∧ fc' = fc) := by
  obtain ⟨F, R, h⟩ := h
  refine (ren_at d s t D F R fc w h.at_ hs ht hc).mono ?_
  rintro e w' ⟨er, D', rfl, hn, hr⟩
  exact ⟨er, D', fc, rfl, h.now hn, hr, rfl⟩
theorem drem (h : Db W0 w d D fc) (s : ByteArray) (hs : s.size ≤ maxLen) (hc : D.changes < 1000000) : Calls Try.prog 30 #[.pointer (some ⟨d, 0, none⟩), .string s] w (Ans W0 d fun er D' fc' => RemR D s er D' ∧ fc' = fc) := by
  obtain ⟨F, R, h⟩ := h
  refine (rem_at d s D F R fc w h.at_ hs hc).mono ?_
  rintro e w' ⟨er, D', rfl, hn, hr⟩
  exact ⟨er, D', fc, rfl, h.now hn, hr, rfl⟩
theorem dsdir (h : Db W0 w d D fc) (hc : D.changes < 1000000) : Calls Try.prog 18 #[.pointer (some ⟨d, 0, none⟩)] w (Ans W0 d fun er D' fc' => SdirR D er D' ∧ fc' = fc) := by
  obtain ⟨F, R, h⟩ := h
  refine (sdir_at d D F R fc w h.at_ hc).mono ?_
  rintro e w' ⟨er, D', rfl, hn, hr⟩
  exact ⟨er, D', fc, rfl, h.now hn, hr, rfl⟩
/-- Of an Append: the bytes are the caller's. -/
theorem dapp (h : Db W0 w d D fc) (s : ByteArray) (v : Value) (bs : List Nat) (Rb : Nat → Prop) (hs : s.size ≤ maxLen) (hv : Bytes w Rb v bs) (hRb : ∀ k, Rb k → k < W0.heap.size) (hc : D.changes < 1000000) : Calls Try.prog 16 #[.pointer (some ⟨d, 0, none⟩), .string s, v] w (Ans W0 d fun er D' fc' => AppR D fc s bs er D' fc') := by
  obtain ⟨F, R, h⟩ := h
  refine (app_at d s v bs D F R Rb fc w h.at_ hs hv (fun k hk e => by have := hRb k hk; have := h.gF k e; omega) hc).mono ?_
  rintro e w' ⟨er, D', fc', rfl, hn, hr⟩
  exact ⟨er, D', fc', rfl, h.now hn, hr⟩
/-- .. or a row that was made since. -/
theorem dapp' (h : Db W0 w d D fc) (s : ByteArray) (v : Value) (bs : List Nat) (hs : s.size ≤ maxLen) (hv : Bytes w' (fun k => w.heap.size ≤ k) v bs) (hk : Keeps Nb w w') (hc : D.changes < 1000000) :
    Calls Try.prog 16 #[.pointer (some ⟨d, 0, none⟩), .string s, v] w' fun e w2 => Ans W0 d (fun er D' fc' => AppR D fc s bs er D' fc') e w2 ∧ ∃ D' fc' F' R', DB W0 w2 d D' fc' F' R' ∧ (∀ er, e = .returned (.int .i64 er) → AppR D fc s bs er D' fc') ∧ (∀ k, w.heap.size ≤ k → k < w'.heap.size → ¬ F' k ∧ ¬ R' k) ∧ ∀ k o, w.heap.size ≤ k → w'.heap[k]? = some o → w2.heap[k]? = some o := by
  obtain ⟨F, R, h⟩ := h
  refine (app_at d s v bs D F R _ fc w' (h.at_.nb hk) hs hv (fun k hk e => by have := h.at_.ltF k e; omega) hc).mono ?_
  rintro e w2 ⟨er, D', fc', rfl, hn, hr⟩
  have h2 : DB W0 w' d D fc F R := ⟨h.k.trans_nb hk, h.at_.nb hk, h.gF, h.gR⟩
  refine ⟨⟨er, D', fc', rfl, h2.now hn, hr⟩, ?_⟩
  obtain ⟨F', R', h3, h4, h5, h6⟩ := hn
  have hk0 := h2.k.size
  refine ⟨D', fc', F', R', ⟨h2.k.trans h6 (fun i hi e => by have := h.gF i e; omega), h3, fun k e => (h4 k e).elim (h.gF k) (fun e => by omega), fun k e => (h5 k e).elim (h.gR k) (fun e => by omega)⟩, fun er' e => by cases e; exact hr, fun k h7 h8 => ⟨fun e => (h4 k e).elim (fun e => by have := h.at_.ltF k e; omega) (fun e => by omega), fun e => (h5 k e).elim (fun e => by have := h.at_.ltR k e; omega) (fun e => by omega)⟩, fun k o h7 h8 => h6.at h8 (fun e => by have := h.at_.ltF k e; omega)⟩
theorem dfuse (h : Db W0 w d D fc) (n : Int) (hn : I64 n) : Calls Try.prog 29 #[.pointer (some ⟨d, 0, none⟩), .int .i64 n] w fun e w' => (∃ v, e = .returned v) ∧ Db W0 w' d (fuseD D n) fc := by
  obtain ⟨F, R, h⟩ := h
  refine (fuse_at d n D F R fc w h.at_ hn).mono ?_
  rintro e w' ⟨hv, h1, h2⟩
  exact ⟨hv, h.renum h1 h2⟩
theorem dlay (h : Db W0 w d D fc) (n e : Int) (hn : 0 ≤ n ∧ n ≤ 9223372036854775807) (he : e = 5 ∨ e = 9) : Calls Try.prog 11 #[.pointer (some ⟨d, 0, none⟩), .int .i64 n, .int .i64 e] w fun r w' => r = .returned (.int .i64 0) ∧ Db W0 w' d (layD D n e) fc := by
  obtain ⟨F, R, h⟩ := h
  refine (lay_ok d n e D F R fc w h.at_ hn he).mono ?_
  rintro r w' ⟨hv, h1, h2⟩
  exact ⟨hv, h.renum h1 h2⟩
theorem dchanges (h : Db W0 w d D fc) : Calls Try.prog 12 #[.pointer (some ⟨d, 0, none⟩)] w fun e w' => e = .returned (.int .i64 D.changes) ∧ w = w' := by
  obtain ⟨F, R, h⟩ := h
  obtain ⟨m1, m2, sv, h1, -⟩ := h.at_.ex
  exact changes_at d m1 m2 sv D w h1
theorem droom (h : Db W0 w d D fc) : Calls Try.prog 13 #[.pointer (some ⟨d, 0, none⟩)] w fun e w' => e = .returned (.int .i64 (D.cap - (tot D.files fc : Nat))) ∧ Keeps Nb w w' := by
  obtain ⟨F, R, h⟩ := h
  exact room_at d D F R fc w h.at_
theorem dcrash (h : Db W0 w d D fc) (v : Value) (zs : List Int) (hp : PicksV w v zs) (hl : D.lasting.length + D.steps.length ≤ 1000000) :
    Calls Try.prog 23 #[.pointer (some ⟨d, 0, none⟩), v] w fun e w' => ∃ d' D' fc' φ l2 bs, e = .returned (.pointer (some ⟨d', 0, none⟩)) ∧ Db W0 w' d' D' fc' ∧ Db W0 w' d D fc ∧ CrashR zs D fc D' fc' φ l2 bs := by
  obtain ⟨F, R, h⟩ := h
  obtain ⟨a, c, rfl, h1, h2, h3, h4⟩ := hp
  refine (crash_at d zs.length c a zs D F R fc w h.at_ h3 rfl h4 ⟨h1, h2⟩ hl).mono ?_
  rintro e w' ⟨d', D', fc', F', R', φ, l2, bs, rfl, g1, g2, g3, g4, g5⟩
  have hk := h.k.size
  exact ⟨d', D', fc', φ, l2, bs, rfl, ⟨F', R', h.k.trans_nb g4, g1, fun k e => by have := g2 k e; omega, fun k e => by have := g3 k e; omega⟩, Db.nb ⟨F, R, h⟩ g4, g5⟩
/-- A new disk. -/
def newD (c : Int) : Dk := ⟨[], [], [], c, -1, 0, 0, false, 0⟩
set_option maxHeartbeats 1000000 in
theorem new_at (c : Int) (w : World) (hc : 1 ≤ c ∧ c ≤ 16777216) : Calls Try.prog 9 #[.int .i64 c] w fun e w' => ∃ d, e = .returned (.tuple #[.pointer (some ⟨d, 0, none⟩), .int .i64 0]) ∧ w.heap.size ≤ d ∧ Db w w' d (newD c) (fun _ => ⟨[], 0⟩) := by
  obtain ⟨h1, h2⟩ := hc
  have HC := Lib.hid (And.intro h1 h2)
  have hb61 : ∀ (W : World) (x y : Option Nat) (c : Int), (Instr.build 61 #[(0, .map x), (1, .map y), (3, .int .i64 c), (4, .int .i64 (-1))]).run Try.prog W = .ok (.agg #[.map x, .map y, .slice none 0 0, .int .i64 c, .int .i64 (-1), .int .i64 0, .int .i64 0, .bool false, .int .i64 0]) W := fun _ _ _ _ => by kernel_rfl
  go_enter Try.func9, Try.ntmps9
  go_wp2_with (first | go_skip | (with_reducible refine stop_load (t := 72) ?_) | (with_reducible refine stop_load (t := 61) ?_) | (with_reducible refine stop_alloc ?_) | (with_reducible refine stop_store ?_) | (with_reducible refine stop_makeMap ?_) | (with_reducible refine stop_rangem ?_) | (with_reducible refine stop_next ?_) | (with_reducible refine stop_entry ?_) | (with_reducible refine stop_buildSlice ?_) | (with_reducible refine stop_app ?_) | (with_reducible refine stop_mapUpdate ?_) | (with_reducible refine stop_lookup ?_) | (with_reducible refine stop_delete ?_) | (with_reducible refine stop_box ?_))
  refine at_out (wpList_valE rfl re_makeMap ?_)
  rintro _ w1 ⟨m1, rfl, n1⟩
  simp only [Nat.reduceAdd, Nat.zero_add, Act.put, List.setIfInBounds_toArray, List.set_cons_succ, List.set_cons_zero]
  go_wp2_with (first | go_skip | (with_reducible refine stop_load (t := 72) ?_) | (with_reducible refine stop_load (t := 61) ?_) | (with_reducible refine stop_alloc ?_) | (with_reducible refine stop_store ?_) | (with_reducible refine stop_makeMap ?_) | (with_reducible refine stop_rangem ?_) | (with_reducible refine stop_next ?_) | (with_reducible refine stop_entry ?_) | (with_reducible refine stop_buildSlice ?_) | (with_reducible refine stop_app ?_) | (with_reducible refine stop_mapUpdate ?_) | (with_reducible refine stop_lookup ?_) | (with_reducible refine stop_delete ?_) | (with_reducible refine stop_box ?_))
  refine at_out (wpList_valE rfl re_makeMap ?_)
  rintro _ w2 ⟨m2, rfl, n2⟩
  simp only [Nat.reduceAdd, Nat.zero_add, Act.put, List.setIfInBounds_toArray, List.set_cons_succ, List.set_cons_zero]
  go_wp2_with (first | go_skip | (with_reducible refine stop_load (t := 72) ?_) | (with_reducible refine stop_load (t := 61) ?_) | (with_reducible refine stop_alloc ?_) | (with_reducible refine stop_store ?_) | (with_reducible refine stop_makeMap ?_) | (with_reducible refine stop_rangem ?_) | (with_reducible refine stop_next ?_) | (with_reducible refine stop_entry ?_) | (with_reducible refine stop_buildSlice ?_) | (with_reducible refine stop_app ?_) | (with_reducible refine stop_mapUpdate ?_) | (with_reducible refine stop_lookup ?_) | (with_reducible refine stop_delete ?_) | (with_reducible refine stop_box ?_))
  refine at_out (vbox rfl ?_)
  intro d w3 n3
  simp only [Nat.reduceAdd, Nat.zero_add, Act.put, List.setIfInBounds_toArray, List.set_cons_succ, List.set_cons_zero]
  have hfin : Db w w3 d (newD c) (fun _ => ⟨[], 0⟩) := by
    have g1 := n1.ge; have g2 := n2.ge; have g3 := n3.ge
    have l1 := n1.lt; have l2 := n2.lt; have l3 := n3.lt
    have z1 := n1.k.size; have z2 := n2.k.size; have z3 := n3.k.size
    refine ⟨(fun k => k = d ∨ k = m1 ∨ k = m2), (fun _ => False), (n1.k.trans_nb n2.k).trans_nb n3.k, ⟨⟨m1, m2, .slice none 0 0, n3.blk, smap_new (n3.k.nb (n2.k.nb n1.blk)), smap_new (n3.k.nb n2.blk), by omega, RowS.nil _ _ _ _ _, .inr (.inl rfl), .inr (.inr rfl)⟩, .inl rfl, ?_, ?_, ⟨by simp [newD], by simp [newD], by simp [newD]⟩, fun _ _ e => e, fun k hk => ?_, fun _ e => e.elim⟩, fun k hk => ?_, fun _ e => e.elim⟩
    · rintro b (⟨p, hp, -⟩ | ⟨p, hp, -⟩ | ⟨s, hs, -⟩)
      · cases hp
      · cases hp
      · cases hs
    · exact ⟨HC.out, by simp [newD], by simp [newD], by simp [newD], .inl rfl, by simp [newD], by simp [newD], by simp [newD]⟩
    · rcases hk with rfl | rfl | rfl <;> omega
    · rcases hk with rfl | rfl | rfl <;> omega
  have HF := Lib.hid hfin
  have hd : w.heap.size ≤ d := by have := n3.ge; have := n1.k.size; have := n2.k.size; omega
  clear hfin n1 n2 n3
  go_wp2
  go_ret2
  exact ⟨d, rfl, hd, HF.out⟩
end Go.Proofs.Ytgpecnihjjnkeaa
