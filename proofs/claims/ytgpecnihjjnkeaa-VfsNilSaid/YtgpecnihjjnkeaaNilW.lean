/- VfsNil: as many files as may be: the law; the walk. -/
import Derived.Test.YtgpecnihjjnkeaaNilC
import Derived.Deep.OwnRows
import Derived.Below
set_option linter.unusedVariables false
set_option linter.unusedSimpArgs false
namespace Go.Proofs.Ytgpecnihjjnkeaa.vfsNil
open Go.RowKit Go.Lk Go.Vfs Go.Proofs.Ytgpecnihjjnkeaa
theorem sb_inj {s t : ByteArray} (h : sb s = sb t) : s = t := by
  have h1 : s.data.toList = t.data.toList := by
    unfold sb at h
    exact (List.map_inj_right (f := UInt8.toNat) (fun x y e => UInt8.toNat_inj.1 e)).1 h
  cases s; cases t
  simp only at h1
  congr
  exact Array.toList_inj.1 h1
theorem sb_app (s t : ByteArray) : sb (s ++ t) = sb s ++ sb t := by
  unfold sb
  simp [ByteArray.data_append]
theorem sb_bstr {l : List Nat} (h : ∀ x ∈ l, x < 256) : sb (bstr l) = l := by
  unfold bstr sb strOfNums
  simp [List.map_map]
  refine (List.map_congr_left (g := id) fun x hx => ?_).trans (List.map_id l)
  have := h x hx
  simp [Function.comp]
  omega
/-- The names of the files. -/
def nmOf (i : Nat) : ByteArray := (⟨#[102]⟩ : ByteArray) ++ bstr [97 + i / 26, 97 + i % 26]
theorem sb_nm {i : Nat} (h : i < 64) : sb (nmOf i) = [102, 97 + i / 26, 97 + i % 26] := by
  unfold nmOf
  rw [sb_app, sb_bstr (by intro x hx; simp at hx; omega)]
  rfl
theorem nm_inj {i j : Nat} (hi : i < 64) (hj : j < 64) (h : nmOf i = nmOf j) : i = j := by
  have := congrArg sb h
  rw [sb_nm hi, sb_nm hj] at this
  simp at this
  omega
theorem nm_size {i : Nat} (h : i < 64) : (nmOf i).size = 3 := by rw [← sb_len, sb_nm h]; rfl
theorem nm_mn {i : Nat} (h : i < 64) : mnB (nmOf i) = true := by
  unfold mnB
  rw [sb_nm h, nm_size h]
  have h1 : okc (97 + i / 26) = true := by unfold okc; simp; omega
  have h2 : okc (97 + i % 26) = true := by unfold okc; simp; omega
  simp only [List.all_cons, List.all_nil, h1, h2]
  decide
def sOne : ByteArray := ⟨#[111, 110, 101, 45, 109, 111, 114, 101]⟩
def sFaa : ByteArray := ⟨#[102, 97, 97]⟩
def sFab : ByteArray := ⟨#[102, 97, 98]⟩
def sNone : ByteArray := ⟨#[110, 111, 110, 101]⟩
theorem mnOne : mnB sOne = true := by decide
theorem mnNone : mnB sNone = true := by decide
theorem faa : sFaa = nmOf 0 := sb_inj (by rw [sb_nm (by omega)]; rfl)
theorem fab : sFab = nmOf 1 := sb_inj (by rw [sb_nm (by omega)]; rfl)
def cap0 : Int := 16777216
/-- A disk on which nothing was laid. -/
def zD (files : List (ByteArray × Nat)) (steps : List Stp) (ch : Int) : Dk := ⟨files, [], steps, cap0, -1, 0, 0, false, ch⟩
theorem chgZ (files : List (ByteArray × Nat)) (steps : List Stp) (ch : Int) : chg (zD files steps ch) = (zD files steps (ch + 1), 1, 0) := by simp [chg, zD]
/-- Behind k makes. -/
structure Mks (k : Nat) (fc : Nat → Fl) (files : List (ByteArray × Nat)) : Prop where
  names : files.map Prod.fst = (List.range k).map nmOf
  blocks : (files.map Prod.snd).Nodup
  empty : ∀ p ∈ files, fc p.2 = ⟨[], 0⟩
theorem Mks.len {k : Nat} {fc : Nat → Fl} {files : List (ByteArray × Nat)} (h : Mks k fc files) : files.length = k := by
  have := congrArg List.length h.names
  simpa using this
theorem Mks.keys {k : Nat} {fc : Nat → Fl} {files : List (ByteArray × Nat)} (h : Mks k fc files) {p : ByteArray × Nat} (hp : p ∈ files) : ∃ i, i < k ∧ p.1 = nmOf i := by
  have : p.1 ∈ (List.range k).map nmOf := h.names ▸ List.mem_map.2 ⟨p, hp, rfl⟩
  obtain ⟨i, hi, e⟩ := List.mem_map.1 this
  exact ⟨i, List.mem_range.1 hi, e.symm⟩
theorem flook_no {l : List (ByteArray × Nat)} {s : ByteArray} (h : ∀ p ∈ l, p.1 ≠ s) : flook l s = none := by
  cases e : flook l s with
  | none => rfl
  | some b => exact absurd rfl (h _ (flook_some e))
variable {er : Int} {D' : Dk} {fc fc' : Nat → Fl} {b n k : Nat} {s t : ByteArray} {files : List (ByteArray × Nat)} {steps : List Stp} {ch : Int}
theorem z1 (hk : k < 64) (h : Mks k fc files) (hlt : ∀ b, Ref (zD files steps ch) b → b < n) (hr : MakeR n (zD files steps ch) fc (nmOf k) er D' fc') : er = 0 ∧ ∃ files' steps', D' = zD files' steps' (ch + 1) ∧ Mks (k + 1) fc' files' := by
  have hno : flook files (nmOf k) = none := flook_no fun p hp e => by
    obtain ⟨i, hi, e2⟩ := h.keys hp
    have := nm_inj (by omega) hk (e2.symm.trans e)
    omega
  unfold MakeR at hr
  rw [nm_mn hk, chgZ] at hr
  rcases hr with ⟨h1, -⟩ | ⟨-, ⟨b, h1⟩, -⟩ | ⟨-, -, h1, -⟩ | ⟨-, -, -, h1, -⟩ | ⟨-, -, -, -, h1, ⟨-, b, h2, h3, h4⟩ | ⟨h1, -⟩⟩
  · cases h1
  · rw [show (zD files steps ch).files = files from rfl, hno] at h1; cases h1
  · rw [show (zD files steps ch).files = files from rfl, h.len] at h1; omega
  · cases h1
  · have hb : ∀ p ∈ files, p.2 ≠ b := fun p hp e => by
      have := hlt p.2 (.inl ⟨p, hp, rfl⟩)
      omega
    refine ⟨h1, files ++ [(nmOf k, b)], steps ++ [⟨0, nmOf k, ByteArray.empty, some b⟩], by rw [h3]; rfl, ?_, ?_, fun p hp => ?_⟩
    · rw [List.map_append, h.names, List.range_succ, List.map_append]; rfl
    · rw [List.map_append, List.nodup_append]
      refine ⟨h.blocks, by simp, fun x hx y hy => ?_⟩
      obtain ⟨p, hp, rfl⟩ := List.mem_map.1 hx
      simp at hy
      subst hy
      exact hb p hp
    · rw [h4]
      rcases List.mem_append.1 hp with hp | hp
      · simp only [if_neg (hb p hp)]; exact h.empty p hp
      · rw [List.mem_singleton.1 hp]; simp
  · exact absurd rfl h1
theorem nm_ne (h : Mks 64 fc files) (hs : s.size ≠ 3) : ∀ p ∈ files, p.1 ≠ s := fun p hp e => by
  obtain ⟨i, hi, e2⟩ := h.keys hp
  have := nm_size hi
  rw [← e2, e] at this
  exact hs this
theorem z2 (h : Mks 64 fc files) (hr : MakeR n (zD files steps ch) fc sOne er D' fc') : er = 5 ∧ D' = zD files steps ch ∧ fc' = fc := by
  have hno : flook files sOne = none := flook_no (nm_ne h (by decide))
  unfold MakeR at hr
  rw [mnOne] at hr
  rcases hr with ⟨h1, -⟩ | ⟨-, ⟨b, h1⟩, -⟩ | ⟨-, -, h1, h2, h3, h4⟩ | ⟨-, -, h1, -⟩ | ⟨-, -, h1, -⟩
  · cases h1
  · rw [show (zD files steps ch).files = files from rfl, hno] at h1; cases h1
  · exact ⟨h2, h3, h4⟩
  · rw [show (zD files steps ch).files = files from rfl, h.len] at h1; omega
  · rw [show (zD files steps ch).files = files from rfl, h.len] at h1; omega
theorem has_nm (h : Mks 64 fc files) {i : Nat} (hi : i < 64) : ∃ b, flook files (nmOf i) = some b := by
  refine flook_in ?_
  rw [h.names]
  exact List.mem_map.2 ⟨i, List.mem_range.2 hi, rfl⟩
/-- Behind the rename. -/
structure Rnd (fc : Nat → Fl) (b : Nat) (files : List (ByteArray × Nat)) : Prop where
  eq : ∃ l, files = l ++ [(sOne, b)] ∧ (∀ p ∈ l, p.2 ≠ b ∧ p.1 ≠ sOne ∧ p.1 ≠ sNone) ∧ (∃ c, flook l sFab = some c)
  empty : ∀ p ∈ files, fc p.2 = ⟨[], 0⟩
theorem z3 (h : Mks 64 fc files) (hr : RenR (zD files steps ch) sFaa sOne er D') : er = 0 ∧ ∃ b files' steps', D' = zD files' steps' (ch + 1) ∧ Rnd fc b files' := by
  obtain ⟨b0, hb0⟩ := has_nm h (i := 0) (by omega)
  rw [← faa] at hb0
  unfold RenR at hr
  rw [mnOne, chgZ] at hr
  rcases hr with ⟨h1, -⟩ | ⟨-, h1, -⟩ | ⟨-, -, h1, -⟩ | ⟨b, -, -, h1, h2⟩
  · cases h1
  · rw [faa, nm_mn (by omega)] at h1; cases h1
  · rw [show (zD files steps ch).files = files from rfl, hb0] at h1; cases h1
  · rw [show (zD files steps ch).files = files from rfl, hb0] at h1
    cases h1
    rcases h2 with ⟨h1, -⟩ | ⟨-, h1, h2⟩
    · cases h1
    · rw [if_pos rfl] at h2
      have hdel : ∀ p ∈ fdel files sFaa, p ∈ files ∧ p.1 ≠ sFaa := fun p hp => by
        unfold fdel at hp
        have := List.mem_filter.1 hp
        exact ⟨this.1, by simpa using this.2⟩
      have hput : fput (fdel files sFaa) sOne b0 = fdel files sFaa ++ [(sOne, b0)] := by
        unfold fput
        rw [if_neg]
        intro hany
        obtain ⟨p, hp, e⟩ := List.any_eq_true.1 hany
        exact nm_ne (s := sOne) h (by decide) p (hdel p hp).1 (by simpa using e)
      refine ⟨h1, b0, fput (fdel files sFaa) sOne b0, steps ++ [⟨1, sFaa, sOne, none⟩], by rw [h2]; rfl, ⟨fdel files sFaa, hput, fun p hp => ⟨fun e => ?_, nm_ne (s := sOne) h (by decide) p (hdel p hp).1, nm_ne (s := sNone) h (by decide) p (hdel p hp).1⟩, ?_⟩, fun p hp => ?_⟩
      · have hm := flook_some hb0
        obtain ⟨i, hi⟩ := List.mem_iff_getElem?.1 hm
        obtain ⟨j, hj⟩ := List.mem_iff_getElem?.1 (hdel p hp).1
        have := nodup_at h.blocks (i := i) (j := j) (x := b0) (by rw [List.getElem?_map, hi]; rfl) (by rw [List.getElem?_map, hj]; exact congrArg some e)
        subst this
        rw [hi] at hj
        exact (hdel p hp).2 (congrArg Prod.fst (Option.some.inj hj)).symm
      · refine flook_in ?_
        obtain ⟨c, hc⟩ := has_nm h (i := 1) (by omega)
        rw [← fab] at hc
        refine List.mem_map.2 ⟨(sFab, c), ?_, rfl⟩
        unfold fdel
        exact List.mem_filter.2 ⟨flook_some hc, by show decide (sFab ≠ sFaa) = true; decide⟩
      · rw [hput] at hp
        rcases List.mem_append.1 hp with hp | hp
        · exact h.empty p (hdel p hp).1
        · rw [List.mem_singleton.1 hp]
          exact h.empty (sFaa, b0) (flook_some hb0)
theorem sum0 (l : List (ByteArray × Nat)) (h : ∀ p ∈ l, (fc p.2).b.length = 0) : tot l fc = 0 := by
  unfold tot
  induction l with
  | nil => rfl
  | cons p l ih => rw [List.map_cons, List.sum_cons, ih (fun q hq => h q (by simp [hq])), h p (by simp)]
theorem flook_app {l : List (ByteArray × Nat)} {m : List (ByteArray × Nat)} : flook (l ++ m) s = (flook l s).orElse fun _ => flook m s := by
  unfold flook
  rw [List.find?_append]
  cases l.find? (fun p => decide (p.1 = s)) <;> rfl
theorem z4 {bs : List Nat} (h : Rnd fc b files) (hb : (bs.length : Int) = cap0) (hr : AppR (zD files steps ch) fc sOne bs er D' fc') : er = 0 ∧ D' = zD files steps (ch + 1) ∧ (tot files fc' : Int) = cap0 := by
  obtain ⟨l, e, hl, -⟩ := h.eq
  have hf : flook files sOne = some b := by
    rw [e, flook_app, flook_no fun p hp => (hl p hp).2.1]
    exact flook1 _ _
  have ht : tot files fc = 0 := sum0 _ fun p hp => by rw [h.empty p hp]; rfl
  unfold AppR at hr
  rw [mnOne, chgZ] at hr
  rcases hr with ⟨h1, -⟩ | ⟨-, h1, -⟩ | ⟨b', -, h1, h2⟩
  · cases h1
  · rw [show (zD files steps ch).files = files from rfl, hf] at h1; cases h1
  · rw [show (zD files steps ch).files = files from rfl, hf] at h1
    cases h1
    rw [show (zD files steps ch).files = files from rfl, ht, show (zD files steps ch).cap = cap0 from rfl] at h2
    rcases h2 with ⟨h1, -⟩ | ⟨-, h1, -⟩ | ⟨-, -, h1, h2, h3⟩
    · omega
    · cases h1
    · refine ⟨h1, h2, ?_⟩
      have hq : fc' b = ⟨bs, 0⟩ := by
        rw [h3, h.empty (sOne, b) (by rw [e]; simp)]
        simp [setf]
      have hq2 : ∀ c, c ≠ b → fc' c = fc c := fun c hc => by rw [h3]; simp [setf, hc]
      have h0 : tot l fc' = 0 := sum0 _ fun p hp => by rw [hq2 _ (hl p hp).1, h.empty p (by rw [e]; simp [hp])]; rfl
      rw [e]
      unfold tot at h0 ⊢
      rw [List.map_append, List.sum_append, h0]
      simp only [List.map_cons, List.map_nil, List.sum_cons, List.sum_nil, hq]
      omega
theorem z5 {fc2 : Nat → Fl} (h : Rnd fc b files) (ht : (tot files fc2 : Int) = cap0) {bs : List Nat} (hb : 0 < bs.length) (hr : AppR (zD files steps ch) fc2 sFab bs er D' fc') : er = 5 ∧ D' = zD files steps ch ∧ fc' = fc2 := by
  obtain ⟨l, e, hl, c, hc⟩ := h.eq
  have hf : flook files sFab = some c := by rw [e, flook_app, hc]; rfl
  unfold AppR at hr
  rcases hr with ⟨h1, -⟩ | ⟨-, h1, -⟩ | ⟨b', -, h1, h2⟩
  · rw [fab, nm_mn (by omega)] at h1; cases h1
  · rw [show (zD files steps ch).files = files from rfl, hf] at h1; cases h1
  · rw [show (zD files steps ch).files = files from rfl, ht, show (zD files steps ch).cap = cap0 from rfl] at h2
    rcases h2 with ⟨-, h1, h2, h3⟩ | ⟨h1, -⟩ | ⟨h1, -⟩
    · exact ⟨h1, h2, h3⟩
    · omega
    · omega
theorem z6 {fc2 : Nat → Fl} (h : Rnd fc b files) {bs : List Nat} (hr : AppR (zD files steps ch) fc2 sNone bs er D' fc') : er = 6 ∧ D' = zD files steps ch ∧ fc' = fc2 := by
  obtain ⟨l, e, hl, -⟩ := h.eq
  have hf : flook files sNone = none := flook_no fun p hp => by
    rw [e] at hp
    rcases List.mem_append.1 hp with hp | hp
    · exact (hl p hp).2.2
    · rw [List.mem_singleton.1 hp]; show sOne ≠ sNone; decide
  unfold AppR at hr
  rw [mnNone] at hr
  rcases hr with ⟨h1, -⟩ | ⟨-, -, h1, h2, h3⟩ | ⟨b', -, h1, h2⟩
  · cases h1
  · exact ⟨h1, h2, h3⟩
  · rw [show (zD files steps ch).files = files from rfl, hf] at h1; cases h1
theorem stop_makeSlice {P : Program} {ops : Array Oper} {rest : List Oper} {dst : Option Tmp} {l c : Operand} {t ty : TypeId} {pos : String} {aft : Array Edge} {gd : Option (Nat × Bool)} {a : Act} {w : World} {Q : Exit → Act → World → Prop}
    (h : At (wpList P ops Q (⟨dst, .makeSlice t l c, ty, pos, aft, gd⟩ :: rest) a w)) : wpList P ops Q (⟨dst, .makeSlice t l c, ty, pos, aft, gd⟩ :: rest) a w := h
/-- A new row of zeros. -/
def IsZero (w : World) (n : Nat) (v : Value) (w' : World) : Prop := ∃ g, v = .slice (some ⟨g, 0, none⟩) n n ∧ Bytes w' (fun k => w.heap.size ≤ k) v (List.replicate n 0) ∧ Keeps Nb w w'
theorem re_zeros {w : World} {dst : Option Tmp} {l c : Operand} {ty : TypeId} {pos : String} {aft : Array Edge} {gd : Option (Nat × Bool)} {a : Act} {n : Nat} {z : Int} (hl : a.eval l = .int .i64 z) (hc : a.eval c = .int .i64 z) (hz : z = (n : Int)) (hn : n ≤ 100000000) :
    ∃ v w', (execOp a.eval ⟨dst, .makeSlice 31 l c, ty, pos, aft, gd⟩).run Try.prog w = .ok (.value v) w' ∧ IsZero w n v w' := by
  have h5 : (Try.prog.info? 5).map (fun i => (i.zero, i.size, i.bytes)) = some (some (.int .u8 0), 1, 1) := by kernel_rfl
  subst hz
  have hr := run_make_row' (P := Try.prog) 31 5 (.int .u8 0) 1 Try.underlying31 h5 rfl .i64 .i64 n (by omega) (by omega) w
  refine ⟨.slice (some ⟨w.heap.size, 0, none⟩) n n, w.alloc (.cells (madeCells #[.int .u8 0] n) 5), ?_, w.heap.size, rfl, ⟨some ⟨w.heap.size, 0, none⟩, n, by rw [List.length_replicate], by rw [List.length_replicate]; exact Nat.le_refl _, by unfold maxLen; omega, .inr ⟨w.heap.size, 0, rfl, fun i hi => ?_⟩, ?_, ?_⟩, (Keeps.refl Nb w).alloc _⟩
  · unfold execOp
    simp only [hl, hc, Sem.run_bind, hr, Result.andThen_ok, Sem.run_pure]
  · rw [List.length_replicate] at hi
    rw [Nat.zero_add, cell_of_block (World.alloc_heap_new w _)]
    simp [madeCells, hi, Nat.mod_one, ntn, List.getD_eq_getElem?_getD]
  · intro x hx
    rw [List.eq_of_mem_replicate hx]; omega
  · intro b off e _
    cases e; exact Nat.le_refl _
set_option maxHeartbeats 8000000 in
set_option maxRecDepth 100000 in
theorem body (w : World) : Calls Try.prog 6 #[] w fun e w' => e = .returned (.bool true) ∧ Keeps Nb w w' := by
  go_enter Try.func6, Try.ntmps6
  go_wp2_with fail
  refine (new_at 16777216 w (by omega)).mono ?_
  rintro _ w2 ⟨d, rfl, -, hd⟩
  have D2 := Lib.hid hd
  clear hd
  go_wp2_with fail
  refine (num_at 0 w2).mono ?_; rintro _ _ ⟨rfl, rfl⟩
  go_wp2
  go_loopw [3] (fun i wr => ∃ (k : Nat) (fc : Nat → Fl) (files : List (ByteArray × Nat)) (steps : List Stp), k ≤ 64 ∧ i = .int .i64 k ∧ Db w wr d (zD files steps k) fc ∧ Mks k fc files) (fun i _ => 64 - (intOf i).toNat)
  case atStart => exact ⟨0, _, [], [], Nat.zero_le _, rfl, D2.out, ⟨rfl, by simp, by simp⟩⟩
  case round =>
    clear D2
    obtain ⟨k, fc, files, steps, hk, rfl, hd, hm⟩ := hrel
    have HD := Lib.hid hd
    have HM := Lib.hid hm
    clear hd hm
    by_cases hlt : k < 64
    · have i1 : (k : Int) < 64 := by omega
      go_wp2_with (first | go_skip | (with_reducible refine stop_load (t := 72) ?_) | (with_reducible refine stop_load (t := 61) ?_) | (with_reducible refine stop_alloc ?_) | (with_reducible refine stop_store ?_) | (with_reducible refine stop_makeMap ?_) | (with_reducible refine stop_rangem ?_) | (with_reducible refine stop_next ?_) | (with_reducible refine stop_entry ?_) | (with_reducible refine stop_buildSlice ?_) | (with_reducible refine stop_app ?_) | (with_reducible refine stop_mapUpdate ?_) | (with_reducible refine stop_lookup ?_) | (with_reducible refine stop_delete ?_) | (with_reducible refine stop_box ?_))
      refine at_out (wpList_valE rfl (re_buildSlice el31 [.int .u8 (97 + (k : Int) / 26), .int .u8 (97 + (k : Int) % 26)] rfl (by simp [List.range'_succ]; first | done | rfl | exact ⟨rfl, rfl⟩) (by simp [Value.cells]) (by simp)) ?_)
      rintro _ w3 ⟨g, rfl, n3⟩
      simp only [Nat.reduceAdd, Nat.zero_add, Act.put, List.setIfInBounds_toArray, List.set_cons_succ, List.set_cons_zero]
      have HH : Hid (Has w3 (some ⟨g, 0, none⟩) ([97 + k / 26, 97 + k % 26].map fun x => Value.int .u8 (x : Nat))) := by
        refine Lib.hid ?_
        have := has_block n3.blk
        have e1 : ((97 + k / 26 : Nat) : Int) = 97 + (k : Int) / 26 := by omega
        have e2 : ((97 + k % 26 : Nat) : Int) = 97 + (k : Int) % 26 := by omega
        simp only [List.map_cons, List.map_nil, e1, e2]
        simpa [Value.cells] using this
      have D3 := Lib.hid (HD.out.nb n3.k)
      clear n3
      go_wp2_with (first | go_skip | (with_reducible refine stop_convert (s := 31) ?_) | fail)
      refine at_out (wpList_val rfl (rn_str (l := [97 + k / 26, 97 + k % 26]) Try.underlying31 Try.underlying5 Try.underlying9 (by rfl) HH.out rfl) ?_)
      simp only [Nat.reduceAdd, Nat.zero_add, Act.put, List.setIfInBounds_toArray, List.set_cons_succ, List.set_cons_zero]
      go_wp2_with fail
      refine (dmake D3.out (nmOf k) (by rw [nm_size hlt]; unfold maxLen; omega) (by show (k : Int) < 1000000; omega)).mono ?_
      rintro _ w4 ⟨er, D', fc', rfl, hd4, hr4, hlt4⟩
      obtain ⟨rfl, files', steps', rfl, hm4⟩ := z1 hlt HM.out hlt4 hr4
      have D4 := Lib.hid hd4
      have HM4 := Lib.hid hm4
      clear hd4 hr4 hlt4 hm4 D3 HH
      go_wp2_with fail
      refine (num_at 0 w4).mono ?_; rintro _ _ ⟨rfl, rfl⟩
      go_wp2
      go_roundw
      case rel => exact ⟨k + 1, fc', files', steps', by omega, by go_num, by rw [show (((k + 1 : Nat) : Int)) = (k : Int) + 1 by omega]; exact D4.out, HM4.out⟩
      case measure => simp [intOf]; omega
    · have hk64 : k = 64 := by omega
      subst hk64
      clear hlt hk
      have s1 : Hid (sOne.size ≤ maxLen) := mnB_max mnOne
      have s2 : Hid (sFaa.size ≤ maxLen) := mnB_max (by decide)
      have s3 : Hid (sFab.size ≤ maxLen) := mnB_max (by decide)
      have s4 : Hid (sNone.size ≤ maxLen) := mnB_max mnNone
      go_wp2_with fail
      refine (dmake HD.out sOne s1.out (by show ((64 : Nat) : Int) < 1000000; omega)).mono ?_
      rintro _ w3 ⟨er, D', fc', rfl, hd, hr, -⟩
      obtain ⟨rfl, rfl, rfl⟩ := z2 HM.out hr
      have D3 := Lib.hid hd
      clear hd hr HD
      go_wp2_with fail
      refine (num_at 5 w3).mono ?_; rintro _ _ ⟨rfl, rfl⟩
      go_wp2_with fail
      refine (dren D3.out sFaa sOne s2.out s1.out (by show ((64 : Nat) : Int) < 1000000; omega)).mono ?_
      rintro _ w4 ⟨er, D', fc4, rfl, hd, hr, hfe⟩
      rw [hfe] at hd
      obtain ⟨rfl, b, files4, steps4, rfl, hrn⟩ := z3 HM.out hr
      have D4 := Lib.hid hd
      have RN := Lib.hid hrn
      clear hd hr hfe hrn D3 HM
      go_wp2_with fail
      refine (num_at 0 w4).mono ?_; rintro _ _ ⟨rfl, rfl⟩
      obtain ⟨N, hN⟩ : ∃ N : Nat, (16777216 : Int) = (N : Int) := ⟨16777216, rfl⟩
      have HNN := Lib.hid hN
      have hN2 : Hid (N ≤ 100000000) := by refine Lib.hid ?_; omega
      clear hN
      go_wp2_with (first | go_skip | (with_reducible refine stop_makeSlice ?_) | fail)
      refine at_out (wpList_valE rfl (re_zeros (n := N) (by rfl) (by rfl) HNN.out hN2.out) ?_)
      rintro _ w5 ⟨g5, rfl, hB, k5⟩
      simp only [Nat.reduceAdd, Nat.zero_add, Act.put, List.setIfInBounds_toArray, List.set_cons_succ, List.set_cons_zero]
      have HB5 := Lib.hid hB
      have K5 := Lib.hid k5
      clear hB k5
      go_wp2_with fail
      refine (dapp' D4.out sOne _ _ s1.out HB5.out K5.out (by show ((64 : Nat) : Int) + 1 < 1000000; omega)).mono ?_
      rintro _ w6 ⟨⟨er, D', fc6, rfl, hd, hr⟩, -⟩
      obtain ⟨rfl, rfl, ht⟩ := z4 RN.out (by rw [List.length_replicate]; exact HNN.out.symm) hr
      have D6 := Lib.hid hd
      have T6 := Lib.hid ht
      clear hd hr ht D4 HB5 K5
      go_wp2_with fail
      refine (num_at 0 w6).mono ?_; rintro _ _ ⟨rfl, rfl⟩
      go_wp2_with (first | go_skip | (with_reducible refine stop_buildSlice ?_) | fail)
      refine at_out (wpList_valE rfl (re_buildSlice el31 [.int .u8 1] rfl (by simp [List.range'_succ]; first | done | rfl) (by simp [Value.cells]) (by simp)) ?_)
      rintro _ w7 ⟨g7, rfl, n7⟩
      simp only [Nat.reduceAdd, Nat.zero_add, Act.put, List.setIfInBounds_toArray, List.set_cons_succ, List.set_cons_zero]
      have HB7 : Hid (Bytes w7 (fun k => w6.heap.size ≤ k) (.slice (some ⟨g7, 0, none⟩) 1 1) [1]) := ⟨some ⟨g7, 0, none⟩, 1, rfl, Nat.le_refl _, by unfold maxLen; omega, .inr ⟨g7, 0, rfl, fun i hi => by
        have h0 : i = 0 := by simpa using hi
        subst h0
        rw [cell_of_block n7.blk]; rfl⟩, by simp, fun b off e _ => by cases e; exact n7.ge⟩
      have K7 := Lib.hid n7.k
      clear n7
      go_wp2_with fail
      refine (dapp' D6.out sFab _ _ s3.out HB7.out K7.out (by show ((64 : Nat) : Int) + 1 + 1 < 1000000; omega)).mono ?_
      rintro _ w8 ⟨⟨er, D', fc8, rfl, hd, hr⟩, -⟩
      obtain ⟨rfl, rfl, hfe⟩ := z5 RN.out T6.out (by simp) hr
      rw [hfe] at hd
      have D8 := Lib.hid hd
      clear hd hr hfe D6 HB7 K7
      go_wp2_with fail
      refine (num_at 5 w8).mono ?_; rintro _ _ ⟨rfl, rfl⟩
      go_wp2_with fail
      refine (droom D8.out).mono ?_
      rintro _ w9 ⟨rfl, k9⟩
      rw [show (zD files4 steps4 (((64 : Nat) : Int) + 1 + 1)).cap - ((tot (zD files4 steps4 (((64 : Nat) : Int) + 1 + 1)).files fc6 : Nat) : Int) = 0 by show cap0 - ((tot files4 fc6 : Nat) : Int) = 0; rw [T6.out]; omega]
      have D9 := Lib.hid (D8.out.nb k9)
      clear k9 D8
      go_wp2_with fail
      refine (dapp D9.out sNone (.slice none 0 0) [] (fun _ => False) s4.out (Bytes.nil _ _) (fun _ h => h.elim) (by show ((64 : Nat) : Int) + 1 + 1 < 1000000; omega)).mono ?_
      rintro _ w10 ⟨er, D', fc10, rfl, hd, hr⟩
      obtain ⟨rfl, rfl, hfe⟩ := z6 RN.out hr
      rw [hfe] at hd
      have D10 := Lib.hid hd
      clear hd hr hfe D9
      go_wp2_with fail
      refine (num_at 6 w10).mono ?_; rintro _ _ ⟨rfl, rfl⟩
      go_wp2_with fail
      refine (lay_bad D10.out (-1) 9 (.inl (by omega))).mono ?_; rintro _ _ ⟨rfl, rfl⟩
      go_wp2_with fail
      refine (num_at 2 w10).mono ?_; rintro _ _ ⟨rfl, rfl⟩
      go_wp2_with fail
      refine (lay_bad D10.out 0 8 (.inr ⟨by omega, by omega⟩)).mono ?_; rintro _ _ ⟨rfl, rfl⟩
      go_wp2_with fail
      refine (num_at 2 w10).mono ?_; rintro _ _ ⟨rfl, rfl⟩
      go_wp2_with fail
      refine (lay_bad D10.out 0 0 (.inr ⟨by omega, by omega⟩)).mono ?_; rintro _ _ ⟨rfl, rfl⟩
      go_wp2_with fail
      refine (num_at 2 w10).mono ?_; rintro _ _ ⟨rfl, rfl⟩
      have hb61 : ∀ W : World, (Instr.build 61 #[]).run Try.prog W = .ok (.agg #[.map none, .map none, .slice none 0 0, .int .i64 0, .int .i64 0, .int .i64 0, .int .i64 0, .bool false, .int .i64 0]) W := fun _ => by kernel_rfl
      have HK := Lib.hid D10.out.k
      clear D10 RN T6
      go_wp2_with fail
      refine (nothing_nul (v := .pointer none) (.inl rfl)).mono ?_
      rintro _ w11 ⟨rfl, k11⟩
      have HK11 := Lib.hid (HK.out.trans_nb k11)
      clear k11 HK
      go_wp2_with (first | go_skip | (with_reducible refine stop_load (t := 72) ?_) | (with_reducible refine stop_load (t := 61) ?_) | (with_reducible refine stop_alloc ?_) | (with_reducible refine stop_store ?_) | (with_reducible refine stop_makeMap ?_) | (with_reducible refine stop_rangem ?_) | (with_reducible refine stop_next ?_) | (with_reducible refine stop_entry ?_) | (with_reducible refine stop_buildSlice ?_) | (with_reducible refine stop_app ?_) | (with_reducible refine stop_mapUpdate ?_) | (with_reducible refine stop_lookup ?_) | (with_reducible refine stop_delete ?_) | (with_reducible refine stop_box ?_))
      refine at_out (wpList_valE rfl (re_box (t := 61) (v := .agg #[.map none, .map none, .slice none 0 0, .int .i64 0, .int .i64 0, .int .i64 0, .int .i64 0, .bool false, .int .i64 0]) (by rfl)) ?_)
      rintro _ w12 ⟨q, rfl, n12⟩
      simp only [Nat.reduceAdd, Nat.zero_add, Act.put, List.setIfInBounds_toArray, List.set_cons_succ, List.set_cons_zero]
      have NQ := Lib.hid (show NulD w12 (.pointer (some ⟨q, 0, none⟩)) from .inr ⟨q, _, rfl, n12.blk, rfl⟩)
      have HK12 := Lib.hid (HK11.out.trans_nb n12.k)
      clear n12 HK11
      go_wp2_with fail
      refine (nothing_nul NQ.out).mono ?_
      rintro _ w13 ⟨rfl, k13⟩
      have HK13 := Lib.hid (HK12.out.trans_nb k13)
      clear k13 HK12 NQ
      go_wp2_with fail
      refine (known_at w13).mono ?_
      rintro _ w14 ⟨rfl, k14⟩
      have HK14 := Lib.hid (HK13.out.trans_nb k14)
      clear k14 HK13 hb61
      go_wp2
      go_ret
      exact ⟨rfl, HK14.out⟩
set_option maxRecDepth 100000 in
theorem walk (w : World) : Calls Try.prog 6 #[] w fun e w' => e = .returned (.bool true) ∧ Below w.heap.size w w' :=
  (body w).mono (by rintro e w' ⟨h1, h2⟩; exact ⟨h1, h2.below⟩)
end Go.Proofs.Ytgpecnihjjnkeaa.vfsNil
