/- VfsNames: the reference's MayName, the arguments, the law. -/
import Derived.Test.YtgpecnihjjnkeaaFilesW
set_option linter.unusedVariables false
set_option linter.unusedSimpArgs false
namespace Go.Proofs.Ytgpecnihjjnkeaa
open Go.RowKit Go.Lk Go.Vfs Go.ChangeShapes Go.WideShapes
theorem okc_t {x : Nat} (h : (97 ≤ x ∧ x ≤ 122) ∨ (48 ≤ x ∧ x ≤ 57) ∨ x = 46 ∨ x = 45) : okc x = true := by unfold okc; simp; omega
theorem okc_f {x : Nat} (h : ¬ ((97 ≤ x ∧ x ≤ 122) ∨ (48 ≤ x ∧ x ≤ 57) ∨ x = 46 ∨ x = 45)) : okc x = false := by unfold okc; simp; omega
set_option maxHeartbeats 4000000 in
theorem refname_at (s : ByteArray) (hs : s.size ≤ maxLen) (w : World) : Calls Try.prog 19 #[.string s] w fun e w' => e = .returned (.bool (mnB s)) ∧ w = w' := by
  unfold maxLen at hs
  obtain ⟨n, hn⟩ : ∃ n, s.size = n := ⟨_, rfl⟩
  have HN := Lib.hid hn
  have hsn : s.data.size = n := hn
  rw [hn] at hs
  go_enter Try.func19, Try.ntmps19
  have hmn : mnB s = ((sb s).all okc && (decide (1 ≤ n) && decide (n ≤ 32))) := by rw [← hn]; rfl
  have HM := Lib.hid hmn
  have hl := sb_len s
  rw [hn] at hl
  have HL := Lib.hid hl
  clear hmn hl
  by_cases h1 : n < 1
  · have HF : Hid (mnB s = false) := by refine Lib.hid ?_; rw [HM.out, show decide (1 ≤ n) = false from decide_eq_false (by omega)]; simp
    go_wp2
    go_ret
    exact ⟨by rw [HF.out]; rfl, rfl⟩
  · by_cases h2 : 32 < n
    · have HF : Hid (mnB s = false) := by refine Lib.hid ?_; rw [HM.out, show decide (n ≤ 32) = false from decide_eq_false (by omega)]; simp
      go_wp2
      go_ret
      exact ⟨by rw [HF.out]; rfl, rfl⟩
    · have HB : Hid ((decide (1 ≤ n) && decide (n ≤ 32)) = true) := by refine Lib.hid ?_; simp; omega
      go_wp2
      go_loop [3] (fun i => ∃ k : Nat, k ≤ n ∧ i = .int .i64 k ∧ ((sb s).take k).all okc = true) (fun i => n - (intOf i).toNat)
      case atStart => exact ⟨0, Nat.zero_le _, rfl, by simp⟩
      case round =>
        obtain ⟨k, hk, rfl, hall⟩ := hrel
        have HA := Lib.hid hall
        clear hall
        by_cases hlt : k < n
        · have i1 : (k : Int) < (n : Int) := by omega
          have hks : k < s.data.size := by omega
          have HT : Hid (((sb s).take (k + 1)).all okc = okc (s[k]'hks).toNat) := by
            refine Lib.hid ?_
            have h : k < (sb s).length := by rw [HL.out]; exact hlt
            rw [List.take_succ_eq_append_getElem h, List.all_append, HA.out]
            simp [sb]; rfl
          have HF : Hid (okc (s[k]'hks).toNat = false → mnB s = false) := by
            refine Lib.hid fun h => ?_
            have h9 : k < (sb s).length := by rw [HL.out]; exact hlt
            rw [HM.out]
            have : (sb s).all okc = false := by
              rw [List.all_eq_false]
              refine ⟨(sb s)[k], List.getElem_mem h9, ?_⟩
              have e : (sb s)[k] = (s[k]'hks).toNat := by simp [sb]; rfl
              rw [e, h]; simp
            rw [this]; rfl
          go_wp2
          all_goals first
            | (refine ⟨⟨k + 1, by omega, by go_num, ?_⟩, by simp [intOf]; omega⟩
               rw [HT.out]; exact okc_t (by (first | omega | (simp only [Bool.not_eq_true', Bool.not_eq_false', decide_eq_true_eq, decide_eq_false_iff_not, beq_eq_false_iff_ne, beq_iff_eq, ne_eq] at *; omega))))
            | (go_ret
               refine ⟨?_, rfl⟩
               rw [HF.out (okc_f (by (first | omega | (simp only [Bool.not_eq_true', Bool.not_eq_false', decide_eq_true_eq, decide_eq_false_iff_not, beq_eq_false_iff_ne, beq_iff_eq, ne_eq] at *; omega))))]; rfl)
        · have hkn : k = n := by omega
          have HT : Hid (mnB s = true) := by
            refine Lib.hid ?_
            rw [HM.out, HB.out]
            have := HA.out
            rw [List.take_of_length_le (by rw [HL.out, hkn]; exact Nat.le_refl _)] at this
            rw [this]; rfl
          subst hkn
          go_wp2
          go_ret
          exact ⟨by rw [HT.out]; rfl, rfl⟩
/-- The names, as a slice has them. -/
def NamesV (w : World) (v : Value) (L : List ByteArray) : Prop := ∃ a c, v = .slice a L.length c ∧ L.length ≤ c ∧ c ≤ maxLen ∧ Has w a (L.map Value.string) ∧ ∀ s ∈ L, s.size ≤ maxLen
theorem NamesV.nb {w w' : World} {v : Value} {L : List ByteArray} (h : NamesV w v L) (hk : Keeps Nb w w') : NamesV w' v L := by
  obtain ⟨a, c, h1, h2, h3, h4, h5⟩ := h
  exact ⟨a, c, h1, h2, h3, h4.keeps hk (fun _ _ _ _ e => e), h5⟩
set_option maxRecDepth 100000 in
theorem names_of {H : Type} {enc : TypeId × Value → H} {base : Nat} {w : World} {v : Value} {d : DataW H} {p : List MemPlace} (kv : Value.okWide Try.prog w .any base 39 v) (k : DataW.Trod enc Try.prog w 0 (fun _ => true) true 39 v d p) : ∃ L, NamesV w v L := by
  obtain ⟨a, n, c, rfl⟩ := okWide_slice Try.underlying39 kv
  obtain ⟨fuel, hf⟩ := k
  rcases DataW.trod_slice Try.underlying39 hf with ⟨h, -⟩ | ⟨x, len, cap, elems, rest, m, -, hcs, hx, -, hl, hm, hlen, hel, -, -⟩
  · simp [Value.cells] at h
    obtain ⟨rfl, rfl, rfl⟩ := h
    exact ⟨[], none, 0, rfl, Nat.le_refl _, Nat.zero_le _, .inl rfl, by simp⟩
  · simp [Value.cells] at hcs
    obtain ⟨rfl, rfl, rfl⟩ := hcs
    have h1 : Try.prog.cellsOf 9 = 1 := by kernel_rfl
    rw [h1] at hel
    have each : ∀ i, i < n → ∃ s : ByteArray, ∃ b off, x = ⟨b, off, none⟩ ∧ w.cell? ⟨b, off + i, none⟩ = some (.string s) ∧ s.size ≤ maxLen := by
      intro i hi
      have h := hel i hi
      rw [List.getElem?_eq_getElem (by omega)] at h
      obtain ⟨cs, hcs, ht⟩ := Option.bind_eq_some_iff.1 h
      obtain ⟨s, hs, -, hw⟩ := DataW.trod_string Try.underlying9 ht
      subst hs
      obtain ⟨-, hlen', hget⟩ := World.cells?_some hcs
      have h2 := hget 0 (by omega)
      have hsp : x.spot = none := by
        have h := hel 0 (by omega)
        rw [List.getElem?_eq_getElem (by omega)] at h
        obtain ⟨cs, hcs, ht⟩ := Option.bind_eq_some_iff.1 h
        obtain ⟨s, hs, -, hw⟩ := DataW.trod_string Try.underlying9 ht
        subst hs
        obtain ⟨-, hlen', hget⟩ := World.cells?_some hcs
        have h2 := hget 0 (by omega)
        simpa [Addr.add] using spot_of_cell h2
      obtain ⟨b, off, sp⟩ := x
      have hsp : sp = none := hsp
      subst hsp
      rw [add_of_add', Addr.add_lit] at h2
      exact ⟨s, b, off, rfl, by simpa using h2, hw⟩
    obtain ⟨L, e1, hp⟩ := pick_list n each
    subst e1
    refine ⟨L, some x, c, rfl, hl, hm, ?_, fun s hs => ?_⟩
    · rcases L with _ | ⟨s, L⟩
      · exact .inl rfl
      · obtain ⟨b, off, rfl, -⟩ := hp 0 s rfl
        refine .inr ⟨b, off, rfl, fun i u hu => ?_⟩
        rw [List.getElem?_map] at hu
        obtain ⟨y, hy, rfl⟩ := Option.map_eq_some_iff.1 hu
        obtain ⟨b', off', e, h2, -⟩ := hp i y hy
        cases e; exact h2
    · obtain ⟨i, hi⟩ := List.mem_iff_getElem?.1 hs
      obtain ⟨_, _, _, _, h3⟩ := hp i s hi
      exact h3

/-! The law. -/
/-- A disk on which nothing was laid. -/
def nD (c : Int) (files lasting : List (ByteArray × Nat)) (steps : List Stp) (ch : Int) : Dk := ⟨files, lasting, steps, c, -1, 0, 0, false, ch⟩
theorem chgN (c : Int) (files lasting : List (ByteArray × Nat)) (steps : List Stp) (ch : Int) : chg (nD c files lasting steps ch) = (nD c files lasting steps (ch + 1), 1, 0) := by simp [chg, nD]
section
variable {er c : Int} {D' : Dk} {fc fc' : Nat → Fl} {b n : Nat} {s t : ByteArray} {files lasting : List (ByteArray × Nat)} {steps : List Stp} {ch : Int}
theorem n1 (hs : mnB s = true) (h : MakeR n (newD c) fc s er D' fc') : er = 0 ∧ ∃ b, n ≤ b ∧ D' = nD c [(s, b)] [] [⟨0, s, ByteArray.empty, some b⟩] 1 ∧ fc' b = ⟨[], 0⟩ := by
  have e : newD c = nD c [] [] [] 0 := rfl
  rw [e] at h
  unfold MakeR at h
  rw [hs, chgN] at h
  rcases h with ⟨h, -⟩ | ⟨-, ⟨b, h⟩, -⟩ | ⟨-, -, h, -⟩ | ⟨-, -, -, h, -⟩ | ⟨-, -, -, -, h1, ⟨-, b, h2, h3, h4⟩ | ⟨h, -⟩⟩
  · cases h
  · cases h
  · simp [nD] at h
  · cases h
  · exact ⟨h1, b, h2, h3, by rw [h4]; simp⟩
  · exact absurd rfl h
theorem n2 {bs : List Nat} (hs : mnB s = true) (hb : ((fc b).b.length : Int) + bs.length ≤ c) (h : AppR (nD c [(s, b)] lasting steps ch) fc s bs er D' fc') : er = 0 ∧ D' = nD c [(s, b)] lasting steps (ch + 1) ∧ fc' b = ⟨(fc b).b ++ bs, (fc b).lasts⟩ := by
  unfold AppR at h
  rw [hs, chgN] at h
  have ht : (tot (nD c [(s, b)] lasting steps ch).files fc : Int) = (fc b).b.length := by simp [tot, nD]
  rcases h with ⟨h, -⟩ | ⟨-, h, -⟩ | ⟨b', -, h, h2⟩
  · cases h
  · rw [show (nD c [(s, b)] lasting steps ch).files = [(s, b)] from rfl, flook1] at h; cases h
  · rw [show (nD c [(s, b)] lasting steps ch).files = [(s, b)] from rfl, flook1] at h
    cases h
    rcases h2 with ⟨h, -⟩ | ⟨-, h, -⟩ | ⟨-, -, h1, h2, h3⟩
    · have : (nD c [(s, b)] lasting steps ch).cap = c := rfl
      omega
    · cases h
    · exact ⟨h1, h2, by rw [h3]; simp [setf]⟩
theorem n3 (hs : mnB s = true) (h : SyncR (nD c [(s, b)] lasting steps ch) fc s er D' fc') : er = 0 ∧ D' = nD c [(s, b)] lasting steps (ch + 1) ∧ fc' b = ⟨(fc b).b, (fc b).b.length⟩ := by
  unfold SyncR at h
  rw [hs, chgN] at h
  rcases h with ⟨h, -⟩ | ⟨-, h, -⟩ | ⟨b', -, h, h2⟩
  · cases h
  · rw [show (nD c [(s, b)] lasting steps ch).files = [(s, b)] from rfl, flook1] at h; cases h
  · rw [show (nD c [(s, b)] lasting steps ch).files = [(s, b)] from rfl, flook1] at h
    cases h
    rcases h2 with ⟨h, -⟩ | ⟨-, h1, h2, h3⟩
    · cases h
    · exact ⟨h1, h2, by rw [h3]; simp [setf]⟩
theorem n4 (h : SdirR (nD c files lasting steps ch) er D') : er = 0 ∧ D' = nD c files files [] (ch + 1) := by
  unfold SdirR at h
  rw [chgN] at h
  rcases h with ⟨h, -⟩ | ⟨-, h1, h2⟩
  · cases h
  · exact ⟨h1, by rw [h2]; rfl⟩
theorem n5 (hs : mnB s = true) (ht : mnB t = true) (h : RenR (nD c [(s, b)] lasting steps ch) s t er D') : er = 0 ∧ D' = nD c [(t, b)] lasting (steps ++ [⟨1, s, t, none⟩]) (ch + 1) := by
  unfold RenR at h
  rw [hs, ht, chgN] at h
  rcases h with ⟨h, -⟩ | ⟨-, h, -⟩ | ⟨-, -, h, -⟩ | ⟨b', -, -, h, h2⟩
  · cases h
  · cases h
  · rw [show (nD c [(s, b)] lasting steps ch).files = [(s, b)] from rfl, flook1] at h; cases h
  · rw [show (nD c [(s, b)] lasting steps ch).files = [(s, b)] from rfl, flook1] at h
    cases h
    rcases h2 with ⟨h, -⟩ | ⟨-, h1, h2⟩
    · cases h
    · exact ⟨h1, by rw [h2]; simp [Dk.ren, Dk.step, nD, fput, fdel]⟩
theorem rdN (hs : mnB s = true) : rdS (nD c [(s, b)] lasting steps ch) fc s = bstr (fc b).b := rdC hs (b := b) rfl
/-- Renames leave one file one file. -/
theorem again_one {x : Stp} (hx : x.act = 1) : ∃ t, againL [(s, b)] x = [(t, b)] := by
  unfold againL
  rw [if_neg (by omega), if_pos hx]
  by_cases h : s = x.name
  · subst h
    rw [flook1]
    exact ⟨x.to, by simp [ren1, fput, fdel]⟩
  · rw [flook1n h]
    exact ⟨s, rfl⟩
theorem replay_one : ∀ (bs : List Bool) (ss : List Stp) (s : ByteArray), (∀ x ∈ ss, x.act = 1) → ∃ t, replay bs ss [(s, b)] = [(t, b)]
  | [], ss, s, _ => ⟨s, by rw [replay_nil]⟩
  | _ :: _, [], s, _ => ⟨s, rfl⟩
  | y :: bs, x :: ss, s, h => by
    show ∃ t, replay bs ss (if y then againL [(s, b)] x else [(s, b)]) = [(t, b)]
    obtain ⟨t, ht⟩ := again_one (s := s) (b := b) (h x (by simp))
    cases y with
    | false => exact replay_one bs ss s (fun z hz => h z (by simp [hz]))
    | true => simp only [if_true]; rw [ht]; exact replay_one bs ss t (fun z hz => h z (by simp [hz]))
/-- Behind the loss of power: one file, whole. -/
theorem n6 {zs : List Int} {l : List Nat} {φ : Nat → Option Nat} {l2 : List (ByteArray × Nat)} {bs : List Bool} (hst : ∀ x ∈ steps, x.act = 1) (hfc : fc b = ⟨l, l.length⟩) (h : CrashR zs (nD c files [(s, b)] steps ch) fc D' fc' φ l2 bs) : ∃ t k, D'.files = [(t, k)] ∧ fc' k = ⟨l, l.length⟩ := by
  have hl : l2 = [(s, b)] := List.perm_singleton.1 h.p2
  subst hl
  obtain ⟨t, ht⟩ := replay_one (b := b) bs steps s hst
  have he := h.eq
  have hq := h.fc
  rw [show (nD c files [(s, b)] steps ch).steps = steps from rfl, ht] at he hq
  obtain ⟨n, h1, h2, h3⟩ := hq (t, b) (by simp)
  simp only [hfc] at h1 h2 h3
  have hn : n = l.length := by omega
  subst hn
  rw [List.take_length] at h3
  exact ⟨t, (φ b).getD 0, by rw [he]; rfl, h3⟩
end
end Go.Proofs.Ytgpecnihjjnkeaa
