/- The walk of PoolOrder. -/
import Derived.Test.YtffnaigkdocpmacTwo
set_option linter.unusedVariables false
set_option linter.unusedSimpArgs false
namespace Go.Proofs.Ytffnaigkdocpmac
open Go.RowKit Go.Lk Go.Pool Go.WideShapes Go.ChangeShapes

/-- A slice of integers that came in. -/
theorem ints_of {w : World} {base : Nat} {H : Type} {enc : TypeId × Value → H} {v : Value} {d : DataW H} {p : List MemPlace} (kv : Value.okWide Try.prog w .any base 23 v) (k : DataW.Trod enc Try.prog w 0 (fun _ => true) true 23 v d p) :
    ∃ (a : Option Addr) (c : Nat) (l : List Int), v = .slice a l.length c ∧ l.length ≤ c ∧ c ≤ maxLen ∧ Reads .i64 w a l ∧ ∀ n ∈ l, (Lit.int .i64 n).wf = true := by
  obtain ⟨a, n, c, rfl⟩ := okWide_slice Try.underlying23 kv
  obtain ⟨fuel, hf⟩ := k
  rcases open_ints Try.underlying23 Try.underlying3 (by kernel_rfl) hf with ⟨hc, _⟩ | ⟨y, l, c', zs, hc, _, hl, hm, hz, hd, hcell, hwz⟩
  · simp [Value.cells] at hc
    obtain ⟨rfl, rfl, rfl⟩ := hc
    exact ⟨none, 0, [], rfl, Nat.le_refl _, Nat.zero_le _, .inl rfl, by simp⟩
  · simp [Value.cells] at hc
    obtain ⟨rfl, rfl, rfl⟩ := hc
    have hr : IsRow .i64 w (some y) n c zs := .inr ⟨_, rfl, hl, hm, by simpa using hz, hcell, hwz⟩
    obtain ⟨l, rfl, h1, h2, h3, h4⟩ := hr.reads
    exact ⟨_, c, l, rfl, h1, h2, h3, h4⟩

/-- Up to k the votes of a key have one stake; of the k-th up to j. -/
def Upto (cs : List Ct) (k : Nat) : Prop := ∀ i j c d, i < k → j < i → cs[i]? = some c → cs[j]? = some d → d.key = c.key → d.stake = c.stake
def UptoJ (cs : List Ct) (k j : Nat) : Prop := ∀ i c d, i < j → cs[k]? = some c → cs[i]? = some d → d.key = c.key → d.stake = c.stake
theorem upto_succ {cs : List Ct} {k : Nat} (h : Upto cs k) (h2 : UptoJ cs k k) : Upto cs (k + 1) := by
  intro i j c d hi hj hc hd e
  rcases Nat.lt_or_ge i k with h1 | h1
  · exact h i j c d h1 hj hc hd e
  · obtain rfl : i = k := by omega
    exact h2 j c d hj hc hd e
theorem upto_one {cs : List Ct} (h : Upto cs cs.length) : OneStake cs := by
  intro c hc d hd e
  obtain ⟨i, hi, rfl⟩ := List.getElem_of_mem hc
  obtain ⟨j, hj, rfl⟩ := List.getElem_of_mem hd
  rcases Nat.lt_trichotomy i j with h1 | h1 | h1
  · exact h j i _ _ hj h1 (List.getElem?_eq_getElem hj) (List.getElem?_eq_getElem hi) e
  · subst h1; rfl
  · exact (h i j _ _ hi h1 (List.getElem?_eq_getElem hi) (List.getElem?_eq_getElem hj) e.symm).symm

theorem zero35 : ∃ z : Value, (Try.prog.info? 35).map (·.zero) = some (some z) ∧ z.cells.size = 101 := by
  have h : (Try.prog.info? 35).map (fun i => (i.zero.isSome, i.zero.map (·.cells.size))) = some (true, some 101) := by kernel_rfl
  obtain ⟨i, hi, h2⟩ := Option.map_eq_some_iff.1 h
  simp only [Prod.mk.injEq] at h2
  obtain ⟨z, hz⟩ := Option.isSome_iff_exists.1 h2.1
  have h3 := h2.2
  rw [hz, Option.map_some, Option.some.injEq] at h3
  exact ⟨z, by rw [hi, Option.map_some, hz], h3⟩
theorem zero40s : ∃ z : Value, (Try.prog.info? 40).map (·.zero) = some (some z) ∧ z.cells.size = 66 := ⟨zL, zero40, zL_size⟩
theorem tmod_in (z : Int) (n : Nat) (hn : 0 < n) : -(n : Int) < z.tmod n ∧ z.tmod n < n := by
  have h1 := Int.tmod_lt_of_pos z (show (0 : Int) < n by omega)
  have h2 := Int.lt_tmod_of_pos z (show (0 : Int) < n by omega)
  omega
namespace poolOrder
set_option maxRecDepth 100000 in
set_option maxHeartbeats 2000000 in
theorem walk {H : Type} {enc : TypeId × Value → H} {base : Nat} (w : World) {v0 : Value} {d0 : DataW H} {p0 : List MemPlace} (kv0 : Value.okWide Try.prog w .any base 22 v0) (k0 : DataW.Trod enc Try.prog w 0 (fun _ => true) true 22 v0 d0 p0) {v1 : Value} {d1 : DataW H} {p1 : List MemPlace} (kv1 : Value.okWide Try.prog w .any base 23 v1) (k1 : DataW.Trod enc Try.prog w 0 (fun _ => true) true 23 v1 d1 p1) :
    Calls Try.prog 3 #[v0, v1] w fun e w' => e = .returned (.bool true) ∧ Below w.heap.size w w' := by
  obtain ⟨a, cp, cs, rfl, hl, hok⟩ := list_of kv0 k0
  obtain ⟨a2, cp2, zs, rfl, hc2, hm2, hrd, hwf⟩ := ints_of kv1 k1
  clear kv0 k0 kv1 k1
  have hc1 := hl.2.1
  have hm1 := hl.2.2.1
  unfold maxLen at hm1 hm2
  have FW := Lib.hid (few_at (Was w) a cp cs w hl hok)
  have KN := Lib.hid known_at
  obtain ⟨b, off, ha, hv⟩ := votes_at hl hok
  have HA := Lib.hid ha; have HV := Lib.hid hv; have HOK := Lib.hid hok; have HRD := Lib.hid hrd; have HWF := Lib.hid hwf
  clear hl ha hv hok hrd hwf
  by_cases hfew : fewB cs = true
  case neg =>
    have hf : fewB cs = false := by simpa using hfew
    rw [hf] at FW
    clear hfew
    go_enter Try.func3, Try.ntmps3
    go_wp2_with fail
    refine FW.out.mono ?_; rintro e w' ⟨rfl, rfl⟩
    go_wp2_with fail
    refine (KN.out _).mono ?_; rintro e w9 ⟨rfl, k9⟩
    go_wp2; go_ret; exact ⟨rfl, ((Keeps.refl Nb w).trans_nb k9).below⟩
  rw [hfew] at FW
  clear hfew
  by_cases h40 : cs.length ≤ 40
  case neg =>
    have t1 : decide ((40 : Int) < (cs.length : Int)) = true := by simp; omega
    go_enter Try.func3, Try.ntmps3
    go_wp2_with fail
    refine FW.out.mono ?_; rintro e w' ⟨rfl, rfl⟩
    go_wp2_with fail
    refine (KN.out _).mono ?_; rintro e w9 ⟨rfl, k9⟩
    go_wp2; go_ret; exact ⟨rfl, ((Keeps.refl Nb w).trans_nb k9).below⟩
  by_cases h100 : zs.length ≤ 100
  case neg =>
    have t2 : decide ((100 : Int) < (zs.length : Int)) = true := by simp; omega
    go_enter Try.func3, Try.ntmps3
    go_wp2_with fail
    refine FW.out.mono ?_; rintro e w' ⟨rfl, rfl⟩
    go_wp2_with fail
    refine (KN.out _).mono ?_; rintro e w9 ⟨rfl, k9⟩
    go_wp2; go_ret; exact ⟨rfl, ((Keeps.refl Nb w).trans_nb k9).below⟩
  go_enter Try.func3, Try.ntmps3
  go_wp2_with fail
  refine FW.out.mono ?_; rintro e w' ⟨rfl, rfl⟩
  go_wp2
  go_loopw [5] (fun i wr => ∃ k : Nat, k ≤ cs.length ∧ i = .int .i64 k ∧ Drew w wr ∧ Hid (Upto cs k)) (fun i _ => cs.length - (intOf i).toNat)
  case atStart => exact ⟨0, Nat.zero_le _, rfl, Drew.refl w, fun i j c d h => by omega⟩
  case round =>
    obtain ⟨k, hk, rfl, hd, hup⟩ := hrel
    by_cases hlt : k < cs.length
    · have i1 : (k : Int) < (cs.length : Int) := by omega
      have hne : cs ≠ [] := by rintro rfl; simp at hlt
      have ha := HA.out hne
      subst ha
      obtain ⟨wo, rfl⟩ : ∃ wo : World, wo = wr := ⟨_, rfl⟩
      have HD := Lib.hid hd; clear hd
      go_wp2
      go_loopw [6] (fun i wr => ∃ j : Nat, j ≤ k ∧ i = .int .i64 j ∧ Drew wo wr ∧ Hid (UptoJ cs k j)) (fun i _ => k - (intOf i).toNat)
      case atStart => exact ⟨0, Nat.zero_le _, rfl, Drew.refl wo, fun i c d h => by omega⟩
      case round =>
        obtain ⟨j, hj, rfl, hd, huj⟩ := hrel
        by_cases hjk : j < k
        · have i2 : (j : Int) < (cs.length : Int) := by omega
          have i3 : (j : Int) < (k : Int) := by omega
          obtain ⟨s1, hv1⟩ := HV.out k cs[k] (List.getElem?_eq_getElem hlt)
          obtain ⟨s2, hv2⟩ := HV.out j cs[j] (List.getElem?_eq_getElem (by omega))
          have e1 := Lib.hid (List.getElem?_eq_getElem hlt); have e2 := Lib.hid (List.getElem?_eq_getElem (l := cs) (i := j) (by omega))
          have ok1 := HOK.out cs[k] (List.getElem_mem hlt); have ok2 := HOK.out cs[j] (List.getElem_mem (by omega))
          generalize cs[k] = c at *
          generalize cs[j] = d at *
          have lk1 : (valsK HK c.key).length = 32 := by rw [valsK_length ok1.key.length]; rfl
          have lk2 : (valsK HK d.key).length = 32 := by rw [valsK_length ok2.key.length]; rfl
          have f1 := Lib.hid ok1.key; have f2 := Lib.hid ok2.key
          have hst1 := ok1.stake; have hst2 := ok2.stake
          have kd : Keeps Nb w wr := (HD.out.trans hd).keeps
          have hd1 := hv1.nb kd; have hd2 := hv2.nb kd
          have st1 := hd1.stake; have st2 := hd2.stake
          have HK1 := Lib.hid hd1.key; have HK2 := Lib.hid hd2.key
          have HDR := Lib.hid hd
          have HNX := Lib.hid (fun (h : d.key = c.key → d.stake = c.stake) => (fun i x y hi hx hy e => by
            rcases Nat.lt_or_ge i j with h1 | h1
            · exact huj.out i x y h1 hx hy e
            · obtain rfl : i = j := by omega
              rw [e1.out] at hx; rw [e2.out] at hy; cases hx; cases hy
              exact h e : UptoJ cs k (j + 1)))
          clear hv1 hv2 hd1 hd2 ok1 ok2 huj hd e1 e2
          by_cases hke : d.key = c.key
          · have HKE := Lib.hid (show decide (d.key = c.key) = true by simp [hke])
            clear hke
            by_cases hse : d.stake = c.stake
            · have t3 : ((d.stake : Int) != (c.stake : Int)) = false := by simp [hse]
              have HSE := Lib.hid hse; clear hse
              go_wp2
              refine wp_region_quiet_lit (by kernel_rfl) (by kernel_rfl) ?_
              repeat (first | go_big_quiet_skip | (with_reducible refine stopq (op := .load 27 _) ?_) | (with_reducible refine stopq (op := .load 28 _) ?_) | (with_reducible refine stopq (op := .load 30 _) ?_) | (with_reducible refine stopq (op := .load 33 _) ?_) | (with_reducible refine stopq (op := .load 35 _) ?_) | (with_reducible refine stopq (op := .load 40 _) ?_) | (with_reducible refine stopq (op := .load 76 _) ?_) | (with_reducible refine stopq (op := .load 77 _) ?_) | (with_reducible refine stopq (op := .build 27 _) ?_) | (with_reducible refine stopq (op := .build 28 _) ?_) | (with_reducible refine stopq (op := .build 30 _) ?_) | (with_reducible refine stopq (op := .build 33 _) ?_) | (with_reducible refine stopq (op := .build 35 _) ?_) | (with_reducible refine stopq (op := .build 40 _) ?_) | (with_reducible refine stopq (op := .build 76 _) ?_) | (with_reducible refine stopq (op := .build 77 _) ?_) | (with_reducible refine stopq (op := .lookup _ _ _ _) ?_) | (with_reducible refine stopq (op := .binOp .eql 28 _ _ _) ?_) | (with_reducible refine stopq (op := .binOp .eql 40 _ _ _) ?_) | (with_reducible refine stopq (op := .binOp .neq 28 _ _ _) ?_) | (with_reducible refine stopq (op := .binOp .neq 40 _ _ _) ?_) | go_big_quiet_step (fail))
              refine at_out (wpq_val (v := kv HK d.key) rfl (by rintro _ ⟨n, rfl⟩; exact rn_loadH aggH (by rfl) (HK2.out.nb ((Keeps.refl Nb _).drewN n)) lk2) ?_)
              simp only [Nat.reduceAdd, Nat.zero_add, Act.put, List.setIfInBounds_toArray, List.set_cons_succ, List.set_cons_zero]
              repeat (first | go_big_quiet_skip | (with_reducible refine stopq (op := .load 27 _) ?_) | (with_reducible refine stopq (op := .load 28 _) ?_) | (with_reducible refine stopq (op := .load 30 _) ?_) | (with_reducible refine stopq (op := .load 33 _) ?_) | (with_reducible refine stopq (op := .load 35 _) ?_) | (with_reducible refine stopq (op := .load 40 _) ?_) | (with_reducible refine stopq (op := .load 76 _) ?_) | (with_reducible refine stopq (op := .load 77 _) ?_) | (with_reducible refine stopq (op := .build 27 _) ?_) | (with_reducible refine stopq (op := .build 28 _) ?_) | (with_reducible refine stopq (op := .build 30 _) ?_) | (with_reducible refine stopq (op := .build 33 _) ?_) | (with_reducible refine stopq (op := .build 35 _) ?_) | (with_reducible refine stopq (op := .build 40 _) ?_) | (with_reducible refine stopq (op := .build 76 _) ?_) | (with_reducible refine stopq (op := .build 77 _) ?_) | (with_reducible refine stopq (op := .lookup _ _ _ _) ?_) | (with_reducible refine stopq (op := .binOp .eql 28 _ _ _) ?_) | (with_reducible refine stopq (op := .binOp .eql 40 _ _ _) ?_) | (with_reducible refine stopq (op := .binOp .neq 28 _ _ _) ?_) | (with_reducible refine stopq (op := .binOp .neq 40 _ _ _) ?_) | go_big_quiet_step (fail))
              refine at_out (wpq_val (v := kv HK c.key) rfl (by rintro _ ⟨n, rfl⟩; exact rn_loadH aggH (by rfl) (HK1.out.nb ((Keeps.refl Nb _).drewN n)) lk1) ?_)
              simp only [Nat.reduceAdd, Nat.zero_add, Act.put, List.setIfInBounds_toArray, List.set_cons_succ, List.set_cons_zero]
              repeat (first | go_big_quiet_skip | (with_reducible refine stopq (op := .load 27 _) ?_) | (with_reducible refine stopq (op := .load 28 _) ?_) | (with_reducible refine stopq (op := .load 30 _) ?_) | (with_reducible refine stopq (op := .load 33 _) ?_) | (with_reducible refine stopq (op := .load 35 _) ?_) | (with_reducible refine stopq (op := .load 40 _) ?_) | (with_reducible refine stopq (op := .load 76 _) ?_) | (with_reducible refine stopq (op := .load 77 _) ?_) | (with_reducible refine stopq (op := .build 27 _) ?_) | (with_reducible refine stopq (op := .build 28 _) ?_) | (with_reducible refine stopq (op := .build 30 _) ?_) | (with_reducible refine stopq (op := .build 33 _) ?_) | (with_reducible refine stopq (op := .build 35 _) ?_) | (with_reducible refine stopq (op := .build 40 _) ?_) | (with_reducible refine stopq (op := .build 76 _) ?_) | (with_reducible refine stopq (op := .build 77 _) ?_) | (with_reducible refine stopq (op := .lookup _ _ _ _) ?_) | (with_reducible refine stopq (op := .binOp .eql 28 _ _ _) ?_) | (with_reducible refine stopq (op := .binOp .eql 40 _ _ _) ?_) | (with_reducible refine stopq (op := .binOp .neq 28 _ _ _) ?_) | (with_reducible refine stopq (op := .binOp .neq 40 _ _ _) ?_) | go_big_quiet_step (fail))
              refine at_out (wpq_val (v := .bool true) rfl (by rintro _ ⟨n, rfl⟩; exact (rn_eqlK kkH (by rfl) (by rfl) f2.out f1.out).trans (by rw [HKE.out])) ?_)
              simp only [Nat.reduceAdd, Nat.zero_add, Act.put, List.setIfInBounds_toArray, List.set_cons_succ, List.set_cons_zero]
              repeat (first | go_big_quiet_skip | (with_reducible refine stopq (op := .load 27 _) ?_) | (with_reducible refine stopq (op := .load 28 _) ?_) | (with_reducible refine stopq (op := .load 30 _) ?_) | (with_reducible refine stopq (op := .load 33 _) ?_) | (with_reducible refine stopq (op := .load 35 _) ?_) | (with_reducible refine stopq (op := .load 40 _) ?_) | (with_reducible refine stopq (op := .load 76 _) ?_) | (with_reducible refine stopq (op := .load 77 _) ?_) | (with_reducible refine stopq (op := .build 27 _) ?_) | (with_reducible refine stopq (op := .build 28 _) ?_) | (with_reducible refine stopq (op := .build 30 _) ?_) | (with_reducible refine stopq (op := .build 33 _) ?_) | (with_reducible refine stopq (op := .build 35 _) ?_) | (with_reducible refine stopq (op := .build 40 _) ?_) | (with_reducible refine stopq (op := .build 76 _) ?_) | (with_reducible refine stopq (op := .build 77 _) ?_) | (with_reducible refine stopq (op := .lookup _ _ _ _) ?_) | (with_reducible refine stopq (op := .binOp .eql 28 _ _ _) ?_) | (with_reducible refine stopq (op := .binOp .eql 40 _ _ _) ?_) | (with_reducible refine stopq (op := .binOp .neq 28 _ _ _) ?_) | (with_reducible refine stopq (op := .binOp .neq 40 _ _ _) ?_) | go_big_quiet_step (fail))
              refine wpQuiet_nil ?_
              rintro w8 ⟨n8, rfl⟩
              go_wp2
              go_roundw
              case rel => exact ⟨j + 1, by omega, by go_num, HDR.out.drewN n8, HNX.out (fun _ => HSE.out)⟩
              case measure => simp [intOf]; omega
            · have t3 : ((d.stake : Int) != (c.stake : Int)) = true := by rw [bne_iff_ne]; omega
              go_wp2
              refine wp_region_quiet_lit (by kernel_rfl) (by kernel_rfl) ?_
              repeat (first | go_big_quiet_skip | (with_reducible refine stopq (op := .load 27 _) ?_) | (with_reducible refine stopq (op := .load 28 _) ?_) | (with_reducible refine stopq (op := .load 30 _) ?_) | (with_reducible refine stopq (op := .load 33 _) ?_) | (with_reducible refine stopq (op := .load 35 _) ?_) | (with_reducible refine stopq (op := .load 40 _) ?_) | (with_reducible refine stopq (op := .load 76 _) ?_) | (with_reducible refine stopq (op := .load 77 _) ?_) | (with_reducible refine stopq (op := .build 27 _) ?_) | (with_reducible refine stopq (op := .build 28 _) ?_) | (with_reducible refine stopq (op := .build 30 _) ?_) | (with_reducible refine stopq (op := .build 33 _) ?_) | (with_reducible refine stopq (op := .build 35 _) ?_) | (with_reducible refine stopq (op := .build 40 _) ?_) | (with_reducible refine stopq (op := .build 76 _) ?_) | (with_reducible refine stopq (op := .build 77 _) ?_) | (with_reducible refine stopq (op := .lookup _ _ _ _) ?_) | (with_reducible refine stopq (op := .binOp .eql 28 _ _ _) ?_) | (with_reducible refine stopq (op := .binOp .eql 40 _ _ _) ?_) | (with_reducible refine stopq (op := .binOp .neq 28 _ _ _) ?_) | (with_reducible refine stopq (op := .binOp .neq 40 _ _ _) ?_) | go_big_quiet_step (fail))
              refine at_out (wpq_val (v := kv HK d.key) rfl (by rintro _ ⟨n, rfl⟩; exact rn_loadH aggH (by rfl) (HK2.out.nb ((Keeps.refl Nb _).drewN n)) lk2) ?_)
              simp only [Nat.reduceAdd, Nat.zero_add, Act.put, List.setIfInBounds_toArray, List.set_cons_succ, List.set_cons_zero]
              repeat (first | go_big_quiet_skip | (with_reducible refine stopq (op := .load 27 _) ?_) | (with_reducible refine stopq (op := .load 28 _) ?_) | (with_reducible refine stopq (op := .load 30 _) ?_) | (with_reducible refine stopq (op := .load 33 _) ?_) | (with_reducible refine stopq (op := .load 35 _) ?_) | (with_reducible refine stopq (op := .load 40 _) ?_) | (with_reducible refine stopq (op := .load 76 _) ?_) | (with_reducible refine stopq (op := .load 77 _) ?_) | (with_reducible refine stopq (op := .build 27 _) ?_) | (with_reducible refine stopq (op := .build 28 _) ?_) | (with_reducible refine stopq (op := .build 30 _) ?_) | (with_reducible refine stopq (op := .build 33 _) ?_) | (with_reducible refine stopq (op := .build 35 _) ?_) | (with_reducible refine stopq (op := .build 40 _) ?_) | (with_reducible refine stopq (op := .build 76 _) ?_) | (with_reducible refine stopq (op := .build 77 _) ?_) | (with_reducible refine stopq (op := .lookup _ _ _ _) ?_) | (with_reducible refine stopq (op := .binOp .eql 28 _ _ _) ?_) | (with_reducible refine stopq (op := .binOp .eql 40 _ _ _) ?_) | (with_reducible refine stopq (op := .binOp .neq 28 _ _ _) ?_) | (with_reducible refine stopq (op := .binOp .neq 40 _ _ _) ?_) | go_big_quiet_step (fail))
              refine at_out (wpq_val (v := kv HK c.key) rfl (by rintro _ ⟨n, rfl⟩; exact rn_loadH aggH (by rfl) (HK1.out.nb ((Keeps.refl Nb _).drewN n)) lk1) ?_)
              simp only [Nat.reduceAdd, Nat.zero_add, Act.put, List.setIfInBounds_toArray, List.set_cons_succ, List.set_cons_zero]
              repeat (first | go_big_quiet_skip | (with_reducible refine stopq (op := .load 27 _) ?_) | (with_reducible refine stopq (op := .load 28 _) ?_) | (with_reducible refine stopq (op := .load 30 _) ?_) | (with_reducible refine stopq (op := .load 33 _) ?_) | (with_reducible refine stopq (op := .load 35 _) ?_) | (with_reducible refine stopq (op := .load 40 _) ?_) | (with_reducible refine stopq (op := .load 76 _) ?_) | (with_reducible refine stopq (op := .load 77 _) ?_) | (with_reducible refine stopq (op := .build 27 _) ?_) | (with_reducible refine stopq (op := .build 28 _) ?_) | (with_reducible refine stopq (op := .build 30 _) ?_) | (with_reducible refine stopq (op := .build 33 _) ?_) | (with_reducible refine stopq (op := .build 35 _) ?_) | (with_reducible refine stopq (op := .build 40 _) ?_) | (with_reducible refine stopq (op := .build 76 _) ?_) | (with_reducible refine stopq (op := .build 77 _) ?_) | (with_reducible refine stopq (op := .lookup _ _ _ _) ?_) | (with_reducible refine stopq (op := .binOp .eql 28 _ _ _) ?_) | (with_reducible refine stopq (op := .binOp .eql 40 _ _ _) ?_) | (with_reducible refine stopq (op := .binOp .neq 28 _ _ _) ?_) | (with_reducible refine stopq (op := .binOp .neq 40 _ _ _) ?_) | go_big_quiet_step (fail))
              refine at_out (wpq_val (v := .bool true) rfl (by rintro _ ⟨n, rfl⟩; exact (rn_eqlK kkH (by rfl) (by rfl) f2.out f1.out).trans (by rw [HKE.out])) ?_)
              simp only [Nat.reduceAdd, Nat.zero_add, Act.put, List.setIfInBounds_toArray, List.set_cons_succ, List.set_cons_zero]
              repeat (first | go_big_quiet_skip | (with_reducible refine stopq (op := .load 27 _) ?_) | (with_reducible refine stopq (op := .load 28 _) ?_) | (with_reducible refine stopq (op := .load 30 _) ?_) | (with_reducible refine stopq (op := .load 33 _) ?_) | (with_reducible refine stopq (op := .load 35 _) ?_) | (with_reducible refine stopq (op := .load 40 _) ?_) | (with_reducible refine stopq (op := .load 76 _) ?_) | (with_reducible refine stopq (op := .load 77 _) ?_) | (with_reducible refine stopq (op := .build 27 _) ?_) | (with_reducible refine stopq (op := .build 28 _) ?_) | (with_reducible refine stopq (op := .build 30 _) ?_) | (with_reducible refine stopq (op := .build 33 _) ?_) | (with_reducible refine stopq (op := .build 35 _) ?_) | (with_reducible refine stopq (op := .build 40 _) ?_) | (with_reducible refine stopq (op := .build 76 _) ?_) | (with_reducible refine stopq (op := .build 77 _) ?_) | (with_reducible refine stopq (op := .lookup _ _ _ _) ?_) | (with_reducible refine stopq (op := .binOp .eql 28 _ _ _) ?_) | (with_reducible refine stopq (op := .binOp .eql 40 _ _ _) ?_) | (with_reducible refine stopq (op := .binOp .neq 28 _ _ _) ?_) | (with_reducible refine stopq (op := .binOp .neq 40 _ _ _) ?_) | go_big_quiet_step (fail))
              refine wpQuiet_nil ?_
              rintro w8 ⟨n8, rfl⟩
              go_wp2_with fail
              refine (KN.out _).mono ?_; rintro e w9 ⟨rfl, k9⟩
              go_wp2; go_ret; exact ⟨rfl, ((kd.drewN n8).trans_nb k9).below⟩
          · have HKE := Lib.hid (show decide (d.key = c.key) = false by simp [hke])
            have HNE := Lib.hid hke
            clear hke
            go_wp2
            refine wp_region_quiet_lit (by kernel_rfl) (by kernel_rfl) ?_
            repeat (first | go_big_quiet_skip | (with_reducible refine stopq (op := .load 27 _) ?_) | (with_reducible refine stopq (op := .load 28 _) ?_) | (with_reducible refine stopq (op := .load 30 _) ?_) | (with_reducible refine stopq (op := .load 33 _) ?_) | (with_reducible refine stopq (op := .load 35 _) ?_) | (with_reducible refine stopq (op := .load 40 _) ?_) | (with_reducible refine stopq (op := .load 76 _) ?_) | (with_reducible refine stopq (op := .load 77 _) ?_) | (with_reducible refine stopq (op := .build 27 _) ?_) | (with_reducible refine stopq (op := .build 28 _) ?_) | (with_reducible refine stopq (op := .build 30 _) ?_) | (with_reducible refine stopq (op := .build 33 _) ?_) | (with_reducible refine stopq (op := .build 35 _) ?_) | (with_reducible refine stopq (op := .build 40 _) ?_) | (with_reducible refine stopq (op := .build 76 _) ?_) | (with_reducible refine stopq (op := .build 77 _) ?_) | (with_reducible refine stopq (op := .lookup _ _ _ _) ?_) | (with_reducible refine stopq (op := .binOp .eql 28 _ _ _) ?_) | (with_reducible refine stopq (op := .binOp .eql 40 _ _ _) ?_) | (with_reducible refine stopq (op := .binOp .neq 28 _ _ _) ?_) | (with_reducible refine stopq (op := .binOp .neq 40 _ _ _) ?_) | go_big_quiet_step (fail))
            refine at_out (wpq_val (v := kv HK d.key) rfl (by rintro _ ⟨n, rfl⟩; exact rn_loadH aggH (by rfl) (HK2.out.nb ((Keeps.refl Nb _).drewN n)) lk2) ?_)
            simp only [Nat.reduceAdd, Nat.zero_add, Act.put, List.setIfInBounds_toArray, List.set_cons_succ, List.set_cons_zero]
            repeat (first | go_big_quiet_skip | (with_reducible refine stopq (op := .load 27 _) ?_) | (with_reducible refine stopq (op := .load 28 _) ?_) | (with_reducible refine stopq (op := .load 30 _) ?_) | (with_reducible refine stopq (op := .load 33 _) ?_) | (with_reducible refine stopq (op := .load 35 _) ?_) | (with_reducible refine stopq (op := .load 40 _) ?_) | (with_reducible refine stopq (op := .load 76 _) ?_) | (with_reducible refine stopq (op := .load 77 _) ?_) | (with_reducible refine stopq (op := .build 27 _) ?_) | (with_reducible refine stopq (op := .build 28 _) ?_) | (with_reducible refine stopq (op := .build 30 _) ?_) | (with_reducible refine stopq (op := .build 33 _) ?_) | (with_reducible refine stopq (op := .build 35 _) ?_) | (with_reducible refine stopq (op := .build 40 _) ?_) | (with_reducible refine stopq (op := .build 76 _) ?_) | (with_reducible refine stopq (op := .build 77 _) ?_) | (with_reducible refine stopq (op := .lookup _ _ _ _) ?_) | (with_reducible refine stopq (op := .binOp .eql 28 _ _ _) ?_) | (with_reducible refine stopq (op := .binOp .eql 40 _ _ _) ?_) | (with_reducible refine stopq (op := .binOp .neq 28 _ _ _) ?_) | (with_reducible refine stopq (op := .binOp .neq 40 _ _ _) ?_) | go_big_quiet_step (fail))
            refine at_out (wpq_val (v := kv HK c.key) rfl (by rintro _ ⟨n, rfl⟩; exact rn_loadH aggH (by rfl) (HK1.out.nb ((Keeps.refl Nb _).drewN n)) lk1) ?_)
            simp only [Nat.reduceAdd, Nat.zero_add, Act.put, List.setIfInBounds_toArray, List.set_cons_succ, List.set_cons_zero]
            repeat (first | go_big_quiet_skip | (with_reducible refine stopq (op := .load 27 _) ?_) | (with_reducible refine stopq (op := .load 28 _) ?_) | (with_reducible refine stopq (op := .load 30 _) ?_) | (with_reducible refine stopq (op := .load 33 _) ?_) | (with_reducible refine stopq (op := .load 35 _) ?_) | (with_reducible refine stopq (op := .load 40 _) ?_) | (with_reducible refine stopq (op := .load 76 _) ?_) | (with_reducible refine stopq (op := .load 77 _) ?_) | (with_reducible refine stopq (op := .build 27 _) ?_) | (with_reducible refine stopq (op := .build 28 _) ?_) | (with_reducible refine stopq (op := .build 30 _) ?_) | (with_reducible refine stopq (op := .build 33 _) ?_) | (with_reducible refine stopq (op := .build 35 _) ?_) | (with_reducible refine stopq (op := .build 40 _) ?_) | (with_reducible refine stopq (op := .build 76 _) ?_) | (with_reducible refine stopq (op := .build 77 _) ?_) | (with_reducible refine stopq (op := .lookup _ _ _ _) ?_) | (with_reducible refine stopq (op := .binOp .eql 28 _ _ _) ?_) | (with_reducible refine stopq (op := .binOp .eql 40 _ _ _) ?_) | (with_reducible refine stopq (op := .binOp .neq 28 _ _ _) ?_) | (with_reducible refine stopq (op := .binOp .neq 40 _ _ _) ?_) | go_big_quiet_step (fail))
            refine at_out (wpq_val (v := .bool false) rfl (by rintro _ ⟨n, rfl⟩; exact (rn_eqlK kkH (by rfl) (by rfl) f2.out f1.out).trans (by rw [HKE.out])) ?_)
            simp only [Nat.reduceAdd, Nat.zero_add, Act.put, List.setIfInBounds_toArray, List.set_cons_succ, List.set_cons_zero]
            repeat (first | go_big_quiet_skip | (with_reducible refine stopq (op := .load 27 _) ?_) | (with_reducible refine stopq (op := .load 28 _) ?_) | (with_reducible refine stopq (op := .load 30 _) ?_) | (with_reducible refine stopq (op := .load 33 _) ?_) | (with_reducible refine stopq (op := .load 35 _) ?_) | (with_reducible refine stopq (op := .load 40 _) ?_) | (with_reducible refine stopq (op := .load 76 _) ?_) | (with_reducible refine stopq (op := .load 77 _) ?_) | (with_reducible refine stopq (op := .build 27 _) ?_) | (with_reducible refine stopq (op := .build 28 _) ?_) | (with_reducible refine stopq (op := .build 30 _) ?_) | (with_reducible refine stopq (op := .build 33 _) ?_) | (with_reducible refine stopq (op := .build 35 _) ?_) | (with_reducible refine stopq (op := .build 40 _) ?_) | (with_reducible refine stopq (op := .build 76 _) ?_) | (with_reducible refine stopq (op := .build 77 _) ?_) | (with_reducible refine stopq (op := .lookup _ _ _ _) ?_) | (with_reducible refine stopq (op := .binOp .eql 28 _ _ _) ?_) | (with_reducible refine stopq (op := .binOp .eql 40 _ _ _) ?_) | (with_reducible refine stopq (op := .binOp .neq 28 _ _ _) ?_) | (with_reducible refine stopq (op := .binOp .neq 40 _ _ _) ?_) | go_big_quiet_step (fail))
            refine wpQuiet_nil ?_
            rintro w8 ⟨n8, rfl⟩
            go_wp2
            go_roundw
            case rel => exact ⟨j + 1, by omega, by go_num, HDR.out.drewN n8, HNX.out (fun e => absurd e HNE.out)⟩
            case measure => simp [intOf]; omega
        · have hjk2 : j = k := by omega
          subst hjk2
          have HJ := Lib.hid (upto_succ hup.out huj.out)
          have HDR := Lib.hid (HD.out.trans hd)
          clear hd
          go_wp2
          go_roundw
          case rel => exact ⟨j + 1, by omega, by go_num, HDR.out, HJ.out⟩
          case measure => simp [intOf]; omega
    · have hkl : k = cs.length := by omega
      subst hkl
      have ONE := Lib.hid (upto_one hup.out)
      have kd : Keeps Nb w wr := hd.keeps
      clear hup hd
      go_wp2_with fail
      refine (new_at _).mono ?_
      rintro _ w1 ⟨pa, rfl, hp1, kk1⟩
      go_wp2_with fail
      refine (new_at _).mono ?_
      rintro _ w2 ⟨pb, rfl, hp2, kk2⟩
      have T2 := Lib.hid (two_new kd hp1 kk1 hp2 kk2)
      clear kd hp1 hp2 kk1 kk2
      go_wp2_with fail
      go_loopw [9] (fun i wr => ∃ k : Nat, k ≤ cs.length ∧ i = .int .i64 k ∧ Two w wr pa (all [] (cs.take k)) pb []) (fun i _ => cs.length - (intOf i).toNat)
      case atStart => exact ⟨0, Nat.zero_le _, rfl, T2.out⟩
      case round =>
        clear T2
        obtain ⟨k, hk, rfl, hT⟩ := hrel
        by_cases hlt : k < cs.length
        · have i1 : (k : Int) < (cs.length : Int) := by omega
          have hne : cs ≠ [] := by rintro rfl; simp at hlt
          have ha := HA.out hne
          subst ha
          obtain ⟨s1, hv1⟩ := HV.out k cs[k] (List.getElem?_eq_getElem hlt)
          have ok1 := HOK.out cs[k] (List.getElem_mem hlt)
          have htk : all [] (cs.take (k + 1)) = addTo (all [] (cs.take k)) cs[k] := by rw [List.take_succ_eq_append_getElem hlt, all_snoc]
          have HTK := Lib.hid htk; clear htk
          have hAl : (all [] (cs.take k)).length ≤ 40 := by have := all_len (cs.take k) []; simp at this; omega
          generalize cs[k] = c at *
          generalize hA0 : all [] (cs.take k) = A at *
          have HA0 := Lib.hid hA0; clear hA0
          obtain ⟨F1, R1, hpA⟩ := hT.a
          have hwA := wt_le (cs := A) (B := 4294967296) (fun x hx => (hpA.good.lo x hx).2) c.link
          have hst1 := ok1.stake
          have lk1 : (valsK HK c.key).length = 32 := by rw [valsK_length ok1.key.length]; rfl
          have lv1 := vc_len ok1 s1
          have HV1 := Lib.hid hv1; have HT := Lib.hid hT; have OK1 := Lib.hid ok1
          have VV := Lib.hid (fun (u : World) (h : Keeps Nb w u) => hv1.nb h)
          clear hv1 hT ok1 hpA
          have HX := Lib.hid (fun (u : World) (h : Two w u pa (addTo A c) pb []) => h)
          go_wp2_with (first | go_skip | (with_reducible refine stop_load (t := 27) ?_) | (with_reducible refine stop_load (t := 28) ?_) | (with_reducible refine stop_load (t := 30) ?_) | (with_reducible refine stop_load (t := 33) ?_) | (with_reducible refine stop_load (t := 35) ?_) | (with_reducible refine stop_load (t := 40) ?_) | (with_reducible refine stop_load (t := 76) ?_) | (with_reducible refine stop_load (t := 77) ?_) | (with_reducible refine stop_box (t := 27) ?_) | (with_reducible refine stop_box (t := 28) ?_) | (with_reducible refine stop_box (t := 30) ?_) | (with_reducible refine stop_box (t := 33) ?_) | (with_reducible refine stop_box (t := 35) ?_) | (with_reducible refine stop_box (t := 40) ?_) | (with_reducible refine stop_box (t := 76) ?_) | (with_reducible refine stop_box (t := 77) ?_) | (with_reducible refine stop_alloc (t := 27) ?_) | (with_reducible refine stop_alloc (t := 28) ?_) | (with_reducible refine stop_alloc (t := 30) ?_) | (with_reducible refine stop_alloc (t := 33) ?_) | (with_reducible refine stop_alloc (t := 35) ?_) | (with_reducible refine stop_alloc (t := 40) ?_) | (with_reducible refine stop_alloc (t := 76) ?_) | (with_reducible refine stop_alloc (t := 77) ?_) | (with_reducible refine stop_alloc (t := 52) ?_) | (with_reducible refine stop_alloc (t := 68) ?_) | (with_reducible refine stop_alloc (t := 72) ?_) | (with_reducible refine stop_build (t := 27) ?_) | (with_reducible refine stop_build (t := 28) ?_) | (with_reducible refine stop_build (t := 30) ?_) | (with_reducible refine stop_build (t := 33) ?_) | (with_reducible refine stop_build (t := 35) ?_) | (with_reducible refine stop_build (t := 40) ?_) | (with_reducible refine stop_build (t := 76) ?_) | (with_reducible refine stop_build (t := 77) ?_) | (with_reducible refine stop_build (t := 52) ?_) | (with_reducible refine stop_build (t := 68) ?_) | (with_reducible refine stop_store (t := 27) ?_) | (with_reducible refine stop_store (t := 28) ?_) | (with_reducible refine stop_store (t := 30) ?_) | (with_reducible refine stop_store (t := 33) ?_) | (with_reducible refine stop_store (t := 35) ?_) | (with_reducible refine stop_store (t := 40) ?_) | (with_reducible refine stop_store (t := 76) ?_) | (with_reducible refine stop_store (t := 77) ?_) | (with_reducible refine stop_store (t := 22) ?_) | (with_reducible refine stop_store (t := 31) ?_) | (with_reducible refine stop_store (t := 47) ?_) | (with_reducible refine stop_store (t := 52) ?_) | (with_reducible refine stop_store (t := 68) ?_) | (with_reducible refine stop_store (t := 72) ?_) | (with_reducible refine stop_lookup ?_) | (with_reducible refine stop_buildSlice ?_) | (with_reducible refine stop_app ?_) | (with_reducible refine stop_mapEntry ?_) | (with_reducible refine stop_eql (t := 28) ?_) | (with_reducible refine stop_eql (t := 40) ?_) | (with_reducible refine stop_neq (t := 28) ?_) | (with_reducible refine stop_neq (t := 40) ?_))
          refine at_out (wpList_val rfl (rn_loadH aggV (by rfl) (VV.out _ HT.out.k).vote lv1) ?_)
          simp only [Nat.reduceAdd, Nat.zero_add, Act.put, List.setIfInBounds_toArray, List.set_cons_succ, List.set_cons_zero]
          go_wp2_with fail
          refine (linkOf_at c s1 _ OK1.out).mono ?_; rintro e w3 ⟨rfl, q3⟩
          have T3 := HT.out.nb q3
          clear q3
          obtain ⟨F2, R2, hpA⟩ := T3.a
          go_wp2_with fail
          refine (weight_at pa F2 R2 _ c.link _ hpA OK1.out.link).mono ?_; rintro e w4 ⟨rfl, q3⟩
          have T4 := T3.nb q3
          clear q3 T3 hpA
          have hS : VoteAt w4 (Was w) b (off + k * 101) c s1 := VV.out _ T4.k
          go_wp2_with fail
          have HS : Hid (VoteAt w4.drew (Was w) b (off + k * 101) c s1) := hS.nb ((Keeps.refl Nb _).drew)
          have T4d := T4.nb ((Keeps.refl Nb _).drew)
          refine WT.region (fun u => VoteAt u (Was w) b (off + k * 101) c s1) 22 22 [0, 1, 2, 3, 4, 5, 6, 7, 8, 9, 10, 11, 12, 13, 14, 15, 16, 17, 18, 19, 20, 21] (by kernel_rfl) rfl ?_
          refine WT.take 0 (v := _) (by simp only [List.getElem?_toArray, List.getElem?_cons_succ, List.getElem?_cons_zero]; rfl) (by kernel_rfl) (by exact fun _ _ _ h => h) (by rfl) (by intro w hS; have C1 := hS.stake; clear hS; go_simp; with_reducible rfl) HS.out ?_
          simp only [Nat.reduceAdd, Nat.zero_add, Act.put, List.setIfInBounds_toArray, List.set_cons_succ, List.set_cons_zero]
          refine WT.take 1 (v := _) (by simp only [List.getElem?_toArray, List.getElem?_cons_succ, List.getElem?_cons_zero]; rfl) (by kernel_rfl) (by exact fun _ _ _ h => h) (by rfl) (by intro w hS; have C1 := hS.stake; clear hS; go_simp; with_reducible rfl) HS.out ?_
          simp only [Nat.reduceAdd, Nat.zero_add, Act.put, List.setIfInBounds_toArray, List.set_cons_succ, List.set_cons_zero]
          refine WT.take 2 (v := _) (by simp only [List.getElem?_toArray, List.getElem?_cons_succ, List.getElem?_cons_zero]; rfl) (by kernel_rfl) (by exact fun _ _ _ h => h) (by rfl) (by intro w hS; have C1 := hS.stake; clear hS; go_simp; with_reducible rfl) HS.out ?_
          simp only [Nat.reduceAdd, Nat.zero_add, Act.put, List.setIfInBounds_toArray, List.set_cons_succ, List.set_cons_zero]
          refine WT.take 3 (v := _) (by simp only [List.getElem?_toArray, List.getElem?_cons_succ, List.getElem?_cons_zero]; rfl) (by kernel_rfl) (by exact fun _ _ _ h => h) (by rfl) (by intro w hS; have C1 := hS.stake; clear hS; go_simp; with_reducible rfl) HS.out ?_
          simp only [Nat.reduceAdd, Nat.zero_add, Act.put, List.setIfInBounds_toArray, List.set_cons_succ, List.set_cons_zero]
          refine WT.take 4 (v := _) (by simp only [List.getElem?_toArray, List.getElem?_cons_succ, List.getElem?_cons_zero]; rfl) (by kernel_rfl) (by exact fun _ _ _ h => h) (by rfl) (by intro w hS; have C1 := hS.stake; clear hS; go_simp; with_reducible rfl) HS.out ?_
          simp only [Nat.reduceAdd, Nat.zero_add, Act.put, List.setIfInBounds_toArray, List.set_cons_succ, List.set_cons_zero]
          refine WT.take 5 (v := .agg (vc c s1).toArray) (by simp only [List.getElem?_toArray, List.getElem?_cons_succ, List.getElem?_cons_zero]; rfl) (by kernel_rfl) (by exact fun _ _ _ h => h) (by rfl) (by intro w hS; exact rn_loadH aggV (by rfl) hS.vote lv1) HS.out ?_
          simp only [Nat.reduceAdd, Nat.zero_add, Act.put, List.setIfInBounds_toArray, List.set_cons_succ, List.set_cons_zero]
          refine WT.take 6 (v := _) (by simp only [List.getElem?_toArray, List.getElem?_cons_succ, List.getElem?_cons_zero]; rfl) (by kernel_rfl) (by exact fun _ _ _ h => h) (by rfl) (by intro w hS; have C1 := hS.stake; clear hS; go_simp; with_reducible rfl) HS.out ?_
          simp only [Nat.reduceAdd, Nat.zero_add, Act.put, List.setIfInBounds_toArray, List.set_cons_succ, List.set_cons_zero]
          refine WT.take 7 (v := _) (by simp only [List.getElem?_toArray, List.getElem?_cons_succ, List.getElem?_cons_zero]; rfl) (by kernel_rfl) (by exact fun _ _ _ h => h) (by rfl) (by intro w hS; have C1 := hS.stake; clear hS; go_simp; with_reducible rfl) HS.out ?_
          simp only [Nat.reduceAdd, Nat.zero_add, Act.put, List.setIfInBounds_toArray, List.set_cons_succ, List.set_cons_zero]
          refine WT.take 8 (v := _) (by simp only [List.getElem?_toArray, List.getElem?_cons_succ, List.getElem?_cons_zero]; rfl) (by kernel_rfl) (by exact fun _ _ _ h => h) (by rfl) (by intro w hS; have C1 := hS.stake; clear hS; go_simp; with_reducible rfl) HS.out ?_
          simp only [Nat.reduceAdd, Nat.zero_add, Act.put, List.setIfInBounds_toArray, List.set_cons_succ, List.set_cons_zero]
          refine WT.take 9 (v := _) (by simp only [List.getElem?_toArray, List.getElem?_cons_succ, List.getElem?_cons_zero]; rfl) (by kernel_rfl) (by exact fun _ _ _ h => h) (by rfl) (by intro w hS; have C1 := hS.stake; clear hS; go_simp; with_reducible rfl) HS.out ?_
          simp only [Nat.reduceAdd, Nat.zero_add, Act.put, List.setIfInBounds_toArray, List.set_cons_succ, List.set_cons_zero]
          refine WT.take 10 (v := kv HK c.key) (by simp only [List.getElem?_toArray, List.getElem?_cons_succ, List.getElem?_cons_zero]; rfl) (by kernel_rfl) (by exact fun _ _ _ h => h) (by rfl) (by intro w hS; exact rn_loadH aggH (by rfl) hS.key lk1) HS.out ?_
          simp only [Nat.reduceAdd, Nat.zero_add, Act.put, List.setIfInBounds_toArray, List.set_cons_succ, List.set_cons_zero]
          refine WT.take 11 (v := _) (by simp only [List.getElem?_toArray, List.getElem?_cons_succ, List.getElem?_cons_zero]; rfl) (by kernel_rfl) (by exact fun _ _ _ h => h) (by rfl) (by intro w hS; have C1 := hS.stake; clear hS; go_simp; with_reducible rfl) HS.out ?_
          simp only [Nat.reduceAdd, Nat.zero_add, Act.put, List.setIfInBounds_toArray, List.set_cons_succ, List.set_cons_zero]
          refine WT.take 12 (v := _) (by simp only [List.getElem?_toArray, List.getElem?_cons_succ, List.getElem?_cons_zero]; rfl) (by kernel_rfl) (by exact fun _ _ _ h => h) (by rfl) (by intro w hS; have C1 := hS.stake; clear hS; go_simp; with_reducible rfl) HS.out ?_
          simp only [Nat.reduceAdd, Nat.zero_add, Act.put, List.setIfInBounds_toArray, List.set_cons_succ, List.set_cons_zero]
          refine WT.take 13 (v := _) (by simp only [List.getElem?_toArray, List.getElem?_cons_succ, List.getElem?_cons_zero]; rfl) (by kernel_rfl) (by exact fun _ _ _ h => h) (by rfl) (by intro w hS; have C1 := hS.stake; clear hS; go_simp; with_reducible rfl) HS.out ?_
          simp only [Nat.reduceAdd, Nat.zero_add, Act.put, List.setIfInBounds_toArray, List.set_cons_succ, List.set_cons_zero]
          refine WT.take 14 (v := _) (by simp only [List.getElem?_toArray, List.getElem?_cons_succ, List.getElem?_cons_zero]; rfl) (by kernel_rfl) (by exact fun _ _ _ h => h) (by rfl) (by intro w hS; have C1 := hS.stake; clear hS; go_simp; with_reducible rfl) HS.out ?_
          simp only [Nat.reduceAdd, Nat.zero_add, Act.put, List.setIfInBounds_toArray, List.set_cons_succ, List.set_cons_zero]
          refine WT.take 15 (v := _) (by simp only [List.getElem?_toArray, List.getElem?_cons_succ, List.getElem?_cons_zero]; rfl) (by kernel_rfl) (by exact fun _ _ _ h => h) (by rfl) (by intro w hS; have C1 := hS.stake; clear hS; go_simp; with_reducible rfl) HS.out ?_
          simp only [Nat.reduceAdd, Nat.zero_add, Act.put, List.setIfInBounds_toArray, List.set_cons_succ, List.set_cons_zero]
          refine WT.call (R := fun e w' => e = .returned (.tuple #[.int .u64 (told A c : Nat), .int .i64 (chk A c : Nat)]) ∧ Two w w' pa (addTo A c) pb []) 16 (by simp only [List.getElem?_toArray, List.getElem?_cons_succ, List.getElem?_cons_zero]; rfl) (by kernel_rfl) (by rfl) (by go_simp) (T4d.add OK1.out HS.out.sig (by omega)) ?_
          rintro _ w5 ⟨rfl, T5⟩
          have hS5 : VoteAt w5 (Was w) b (off + k * 101) c s1 := VV.out _ T5.k
          refine ⟨_, rfl, hS5, ?_⟩
          replace HS := Lib.hid hS5
          clear hS hS5 T4 T4d
          simp only [Nat.reduceAdd, Nat.zero_add, Act.put, List.setIfInBounds_toArray, List.set_cons_succ, List.set_cons_zero]
          refine WT.take 17 (v := _) (by simp only [List.getElem?_toArray, List.getElem?_cons_succ, List.getElem?_cons_zero]; rfl) (by kernel_rfl) (by exact fun _ _ _ h => h) (by rfl) (by intro w hS; have C1 := hS.stake; clear hS; go_simp; with_reducible rfl) HS.out ?_
          simp only [Nat.reduceAdd, Nat.zero_add, Act.put, List.setIfInBounds_toArray, List.set_cons_succ, List.set_cons_zero]
          refine WT.take 18 (v := _) (by simp only [List.getElem?_toArray, List.getElem?_cons_succ, List.getElem?_cons_zero]; rfl) (by kernel_rfl) (by exact fun _ _ _ h => h) (by rfl) (by intro w hS; have C1 := hS.stake; clear hS; go_simp; with_reducible rfl) HS.out ?_
          simp only [Nat.reduceAdd, Nat.zero_add, Act.put, List.setIfInBounds_toArray, List.set_cons_succ, List.set_cons_zero]
          refine WT.take 19 (v := _) (by simp only [List.getElem?_toArray, List.getElem?_cons_succ, List.getElem?_cons_zero]; rfl) (by kernel_rfl) (by exact fun _ _ _ h => h) (by rfl) (by intro w hS; have C1 := hS.stake; clear hS; go_simp; with_reducible rfl) HS.out ?_
          simp only [Nat.reduceAdd, Nat.zero_add, Act.put, List.setIfInBounds_toArray, List.set_cons_succ, List.set_cons_zero]
          refine WT.take 20 (v := _) (by simp only [List.getElem?_toArray, List.getElem?_cons_succ, List.getElem?_cons_zero]; rfl) (by kernel_rfl) (by exact fun _ _ _ h => h) (by rfl) (by intro w hS; have C1 := hS.stake; clear hS; go_simp; with_reducible rfl) HS.out ?_
          simp only [Nat.reduceAdd, Nat.zero_add, Act.put, List.setIfInBounds_toArray, List.set_cons_succ, List.set_cons_zero]
          refine WT.take 21 (v := _) (by simp only [List.getElem?_toArray, List.getElem?_cons_succ, List.getElem?_cons_zero]; rfl) (by kernel_rfl) (by exact fun _ _ _ h => h) (by rfl) (by intro w hS; have C1 := hS.stake; clear hS; go_simp; with_reducible rfl) HS.out ?_
          simp only [Nat.reduceAdd, Nat.zero_add, Act.put, List.setIfInBounds_toArray, List.set_cons_succ, List.set_cons_zero]
          refine WT.stop (by kernel_rfl) (WP.done (by kernel_rfl) ?_)
          have st5 := HS.out.stake
          have HT5 := Lib.hid T5; clear T5 HT HS
          have hw5 : wt A c.link ≤ wt (addTo A c) c.link := by unfold addTo; split; rw [wt_snoc]; omega; exact Nat.le_refl _
          have t6 : decide (((wt (addTo A c) c.link : Nat) : Int) < ((wt A c.link : Nat) : Int)) = false := by simp; omega
          have t6' : decide ((wt (addTo A c) c.link : Nat) < (wt A c.link : Nat)) = false := by simp; omega
          have hw6 : wt (addTo A c) c.link ≤ 4294967296 * (addTo A c).length := by
            obtain ⟨F3, R3, hp3⟩ := HT5.out.a
            exact wt_le (fun x hx => (hp3.good.lo x hx).2) _
          have hl6 := addTo_len A c
          by_cases h0 : chk A c = 0
          · have t5 : ((chk A c : Int) == 0) = true := by rw [h0]; rfl
            have hs2 := (chk_stake h0).2.2.1
            have t7 : (((told A c : Nat) : Int) != ((wt A c.link : Nat) : Int) + (c.stake : Nat)) = false := by
              unfold told; rw [if_pos h0, wt_snoc, if_pos rfl]; simp
            have H0 := Lib.hid h0; clear h0
            go_wp2_with (first | go_skip | (with_reducible refine stop_load (t := 27) ?_) | (with_reducible refine stop_load (t := 28) ?_) | (with_reducible refine stop_load (t := 30) ?_) | (with_reducible refine stop_load (t := 33) ?_) | (with_reducible refine stop_load (t := 35) ?_) | (with_reducible refine stop_load (t := 40) ?_) | (with_reducible refine stop_load (t := 76) ?_) | (with_reducible refine stop_load (t := 77) ?_) | (with_reducible refine stop_box (t := 27) ?_) | (with_reducible refine stop_box (t := 28) ?_) | (with_reducible refine stop_box (t := 30) ?_) | (with_reducible refine stop_box (t := 33) ?_) | (with_reducible refine stop_box (t := 35) ?_) | (with_reducible refine stop_box (t := 40) ?_) | (with_reducible refine stop_box (t := 76) ?_) | (with_reducible refine stop_box (t := 77) ?_) | (with_reducible refine stop_alloc (t := 27) ?_) | (with_reducible refine stop_alloc (t := 28) ?_) | (with_reducible refine stop_alloc (t := 30) ?_) | (with_reducible refine stop_alloc (t := 33) ?_) | (with_reducible refine stop_alloc (t := 35) ?_) | (with_reducible refine stop_alloc (t := 40) ?_) | (with_reducible refine stop_alloc (t := 76) ?_) | (with_reducible refine stop_alloc (t := 77) ?_) | (with_reducible refine stop_alloc (t := 52) ?_) | (with_reducible refine stop_alloc (t := 68) ?_) | (with_reducible refine stop_alloc (t := 72) ?_) | (with_reducible refine stop_build (t := 27) ?_) | (with_reducible refine stop_build (t := 28) ?_) | (with_reducible refine stop_build (t := 30) ?_) | (with_reducible refine stop_build (t := 33) ?_) | (with_reducible refine stop_build (t := 35) ?_) | (with_reducible refine stop_build (t := 40) ?_) | (with_reducible refine stop_build (t := 76) ?_) | (with_reducible refine stop_build (t := 77) ?_) | (with_reducible refine stop_build (t := 52) ?_) | (with_reducible refine stop_build (t := 68) ?_) | (with_reducible refine stop_store (t := 27) ?_) | (with_reducible refine stop_store (t := 28) ?_) | (with_reducible refine stop_store (t := 30) ?_) | (with_reducible refine stop_store (t := 33) ?_) | (with_reducible refine stop_store (t := 35) ?_) | (with_reducible refine stop_store (t := 40) ?_) | (with_reducible refine stop_store (t := 76) ?_) | (with_reducible refine stop_store (t := 77) ?_) | (with_reducible refine stop_store (t := 22) ?_) | (with_reducible refine stop_store (t := 31) ?_) | (with_reducible refine stop_store (t := 47) ?_) | (with_reducible refine stop_store (t := 52) ?_) | (with_reducible refine stop_store (t := 68) ?_) | (with_reducible refine stop_store (t := 72) ?_) | (with_reducible refine stop_lookup ?_) | (with_reducible refine stop_buildSlice ?_) | (with_reducible refine stop_app ?_) | (with_reducible refine stop_mapEntry ?_) | (with_reducible refine stop_eql (t := 28) ?_) | (with_reducible refine stop_eql (t := 40) ?_) | (with_reducible refine stop_neq (t := 28) ?_) | (with_reducible refine stop_neq (t := 40) ?_))
            refine at_out (wpList_val rfl (rn_loadH aggV (by rfl) (VV.out _ HT5.out.k).vote lv1) ?_)
            simp only [Nat.reduceAdd, Nat.zero_add, Act.put, List.setIfInBounds_toArray, List.set_cons_succ, List.set_cons_zero]
            go_wp2_with fail
            refine (linkOf_at c s1 _ OK1.out).mono ?_; rintro e w6 ⟨rfl, q6⟩
            have T6 := HT5.out.nb q6
            clear q6
            obtain ⟨F2, R2, hpA⟩ := T6.a
            go_wp2_with fail
            refine (weight_at pa F2 R2 _ c.link _ hpA OK1.out.link).mono ?_; rintro e w7 ⟨rfl, q6⟩
            have T7 := T6.nb q6
            clear q6 T6 hpA
            go_wp2
            go_roundw
            case rel => exact ⟨k + 1, by omega, by go_num, by rw [HTK.out]; exact T7⟩
            case measure => simp [intOf]; omega
          · have t5 : ((chk A c : Int) == 0) = false := by rw [beq_eq_false_iff_ne]; omega
            go_wp2_with (first | go_skip | (with_reducible refine stop_load (t := 27) ?_) | (with_reducible refine stop_load (t := 28) ?_) | (with_reducible refine stop_load (t := 30) ?_) | (with_reducible refine stop_load (t := 33) ?_) | (with_reducible refine stop_load (t := 35) ?_) | (with_reducible refine stop_load (t := 40) ?_) | (with_reducible refine stop_load (t := 76) ?_) | (with_reducible refine stop_load (t := 77) ?_) | (with_reducible refine stop_box (t := 27) ?_) | (with_reducible refine stop_box (t := 28) ?_) | (with_reducible refine stop_box (t := 30) ?_) | (with_reducible refine stop_box (t := 33) ?_) | (with_reducible refine stop_box (t := 35) ?_) | (with_reducible refine stop_box (t := 40) ?_) | (with_reducible refine stop_box (t := 76) ?_) | (with_reducible refine stop_box (t := 77) ?_) | (with_reducible refine stop_alloc (t := 27) ?_) | (with_reducible refine stop_alloc (t := 28) ?_) | (with_reducible refine stop_alloc (t := 30) ?_) | (with_reducible refine stop_alloc (t := 33) ?_) | (with_reducible refine stop_alloc (t := 35) ?_) | (with_reducible refine stop_alloc (t := 40) ?_) | (with_reducible refine stop_alloc (t := 76) ?_) | (with_reducible refine stop_alloc (t := 77) ?_) | (with_reducible refine stop_alloc (t := 52) ?_) | (with_reducible refine stop_alloc (t := 68) ?_) | (with_reducible refine stop_alloc (t := 72) ?_) | (with_reducible refine stop_build (t := 27) ?_) | (with_reducible refine stop_build (t := 28) ?_) | (with_reducible refine stop_build (t := 30) ?_) | (with_reducible refine stop_build (t := 33) ?_) | (with_reducible refine stop_build (t := 35) ?_) | (with_reducible refine stop_build (t := 40) ?_) | (with_reducible refine stop_build (t := 76) ?_) | (with_reducible refine stop_build (t := 77) ?_) | (with_reducible refine stop_build (t := 52) ?_) | (with_reducible refine stop_build (t := 68) ?_) | (with_reducible refine stop_store (t := 27) ?_) | (with_reducible refine stop_store (t := 28) ?_) | (with_reducible refine stop_store (t := 30) ?_) | (with_reducible refine stop_store (t := 33) ?_) | (with_reducible refine stop_store (t := 35) ?_) | (with_reducible refine stop_store (t := 40) ?_) | (with_reducible refine stop_store (t := 76) ?_) | (with_reducible refine stop_store (t := 77) ?_) | (with_reducible refine stop_store (t := 22) ?_) | (with_reducible refine stop_store (t := 31) ?_) | (with_reducible refine stop_store (t := 47) ?_) | (with_reducible refine stop_store (t := 52) ?_) | (with_reducible refine stop_store (t := 68) ?_) | (with_reducible refine stop_store (t := 72) ?_) | (with_reducible refine stop_lookup ?_) | (with_reducible refine stop_buildSlice ?_) | (with_reducible refine stop_app ?_) | (with_reducible refine stop_mapEntry ?_) | (with_reducible refine stop_eql (t := 28) ?_) | (with_reducible refine stop_eql (t := 40) ?_) | (with_reducible refine stop_neq (t := 28) ?_) | (with_reducible refine stop_neq (t := 40) ?_))
            refine at_out (wpList_val rfl (rn_loadH aggV (by rfl) (VV.out _ HT5.out.k).vote lv1) ?_)
            simp only [Nat.reduceAdd, Nat.zero_add, Act.put, List.setIfInBounds_toArray, List.set_cons_succ, List.set_cons_zero]
            go_wp2_with fail
            refine (linkOf_at c s1 _ OK1.out).mono ?_; rintro e w6 ⟨rfl, q6⟩
            have T6 := HT5.out.nb q6
            clear q6
            obtain ⟨F2, R2, hpA⟩ := T6.a
            go_wp2_with fail
            refine (weight_at pa F2 R2 _ c.link _ hpA OK1.out.link).mono ?_; rintro e w7 ⟨rfl, q6⟩
            have T7 := T6.nb q6
            clear q6 T6 hpA
            go_wp2
            go_roundw
            case rel => exact ⟨k + 1, by omega, by go_num, by rw [HTK.out]; exact T7⟩
            case measure => simp [intOf]; omega
        · have hkl : k = cs.length := by omega
          subst hkl
          rw [List.take_of_length_le (Nat.le_refl _)] at hT
          have hAl : (all [] cs).length ≤ 40 := by have := all_len cs []; simp at this; omega
          generalize hA0 : all [] cs = A at *
          have HA0 := Lib.hid hA0; clear hA0
          have HT := Lib.hid hT; clear hT
          go_wp2_with fail
          go_loopw [13] (fun i wr => ∃ (k : Nat) (m : List Ct), k ≤ zs.length ∧ i = .int .i64 k ∧ Hid (m.length ≤ k ∧ ∀ c ∈ m, c ∈ cs) ∧ Two w wr pa A pb (all [] m)) (fun i _ => zs.length - (intOf i).toNat)
          case atStart => exact ⟨0, [], Nat.zero_le _, rfl, ⟨Nat.le_refl _, by simp⟩, HT.out⟩
          case round =>
            clear HT
            obtain ⟨k, m, hk, rfl, hm, hT⟩ := hrel
            by_cases hgo : k < zs.length ∧ 0 < cs.length
            · obtain ⟨hlt, hn0⟩ := hgo
              have i1 : (k : Int) < (zs.length : Int) := by omega
              have i0 : (0 : Int) < (cs.length : Int) := by omega
              have hne : cs ≠ [] := by rintro rfl; simp at hn0
              have ha := HA.out hne
              subst ha
              have hcell : ∃ b2 o2, a2 = some ⟨b2, o2, none⟩ ∧ ∀ u, Keeps Nb w u → u.cell? ⟨b2, o2 + k, none⟩ = some (.int .i64 (nth zs k)) := by
                rcases HRD.out with h | ⟨b2, o2, h, hc⟩
                · rw [h] at hlt; simp at hlt
                · exact ⟨b2, o2, h, fun u hu => (hu.cell (p := ⟨b2, o2 + k, none⟩) (lt_of_cell (hc k hlt)) (fun e => e)).trans (hc k hlt)⟩
              obtain ⟨b2, o2, ha2, hcell⟩ := hcell
              subst ha2
              generalize nth zs k = zk at *
              obtain ⟨z1, z2⟩ := tmod_in zk cs.length hn0
              have hj0 : 0 ≤ (zk.tmod cs.length + cs.length) % (cs.length : Int) := Int.emod_nonneg _ (by omega)
              have hj1 : (zk.tmod cs.length + cs.length) % (cs.length : Int) < cs.length := Int.emod_lt_of_pos _ (by omega)
              obtain ⟨j, hj⟩ := Int.eq_ofNat_of_zero_le hj0
              rw [hj] at hj1
              have hjl : j < cs.length := by omega
              obtain ⟨s1, hv1⟩ := HV.out j cs[j] (List.getElem?_eq_getElem hjl)
              have ok1 := HOK.out cs[j] (List.getElem_mem hjl)
              have hin := Lib.hid (List.getElem_mem hjl)
              generalize cs[j] = c at *
              have hst1 := ok1.stake
              have lk1 : (valsK HK c.key).length = 32 := by rw [valsK_length ok1.key.length]; rfl
              have lv1 := vc_len ok1 s1
              have lw1 := sc_len ok1 s1
              have one1 := Lib.hid (sc_one c s1 hv1.sig.one)
              have VV := Lib.hid (fun (u : World) (h : Keeps Nb w u) => hv1.nb h)
              have hc0 := hcell wr hT.k
              have HT := Lib.hid hT; have OK1 := Lib.hid ok1
              obtain ⟨z, hz0, hz1⟩ := zero35
              have hml : (all [] m).length < 1000 := by have := all_len m []; have := hm.out.1; simp at *; omega
              clear hv1 hT ok1 hcell hj0
              go_wp2_with (first | go_skip | (with_reducible refine stop_load (t := 27) ?_) | (with_reducible refine stop_load (t := 28) ?_) | (with_reducible refine stop_load (t := 30) ?_) | (with_reducible refine stop_load (t := 33) ?_) | (with_reducible refine stop_load (t := 35) ?_) | (with_reducible refine stop_load (t := 40) ?_) | (with_reducible refine stop_load (t := 76) ?_) | (with_reducible refine stop_load (t := 77) ?_) | (with_reducible refine stop_box (t := 27) ?_) | (with_reducible refine stop_box (t := 28) ?_) | (with_reducible refine stop_box (t := 30) ?_) | (with_reducible refine stop_box (t := 33) ?_) | (with_reducible refine stop_box (t := 35) ?_) | (with_reducible refine stop_box (t := 40) ?_) | (with_reducible refine stop_box (t := 76) ?_) | (with_reducible refine stop_box (t := 77) ?_) | (with_reducible refine stop_alloc (t := 27) ?_) | (with_reducible refine stop_alloc (t := 28) ?_) | (with_reducible refine stop_alloc (t := 30) ?_) | (with_reducible refine stop_alloc (t := 33) ?_) | (with_reducible refine stop_alloc (t := 35) ?_) | (with_reducible refine stop_alloc (t := 40) ?_) | (with_reducible refine stop_alloc (t := 76) ?_) | (with_reducible refine stop_alloc (t := 77) ?_) | (with_reducible refine stop_alloc (t := 52) ?_) | (with_reducible refine stop_alloc (t := 68) ?_) | (with_reducible refine stop_alloc (t := 72) ?_) | (with_reducible refine stop_build (t := 27) ?_) | (with_reducible refine stop_build (t := 28) ?_) | (with_reducible refine stop_build (t := 30) ?_) | (with_reducible refine stop_build (t := 33) ?_) | (with_reducible refine stop_build (t := 35) ?_) | (with_reducible refine stop_build (t := 40) ?_) | (with_reducible refine stop_build (t := 76) ?_) | (with_reducible refine stop_build (t := 77) ?_) | (with_reducible refine stop_build (t := 52) ?_) | (with_reducible refine stop_build (t := 68) ?_) | (with_reducible refine stop_store (t := 27) ?_) | (with_reducible refine stop_store (t := 28) ?_) | (with_reducible refine stop_store (t := 30) ?_) | (with_reducible refine stop_store (t := 33) ?_) | (with_reducible refine stop_store (t := 35) ?_) | (with_reducible refine stop_store (t := 40) ?_) | (with_reducible refine stop_store (t := 76) ?_) | (with_reducible refine stop_store (t := 77) ?_) | (with_reducible refine stop_store (t := 22) ?_) | (with_reducible refine stop_store (t := 31) ?_) | (with_reducible refine stop_store (t := 47) ?_) | (with_reducible refine stop_store (t := 52) ?_) | (with_reducible refine stop_store (t := 68) ?_) | (with_reducible refine stop_store (t := 72) ?_) | (with_reducible refine stop_lookup ?_) | (with_reducible refine stop_buildSlice ?_) | (with_reducible refine stop_app ?_) | (with_reducible refine stop_mapEntry ?_) | (with_reducible refine stop_eql (t := 28) ?_) | (with_reducible refine stop_eql (t := 40) ?_) | (with_reducible refine stop_neq (t := 28) ?_) | (with_reducible refine stop_neq (t := 40) ?_))
              refine at_out (wpList_val (v := .agg (sc c s1).toArray) rfl (rn_loadH aggS (by rfl) (VV.out _ HT.out.k).whole lw1) ?_)
              simp only [Nat.reduceAdd, Nat.zero_add, Act.put, List.setIfInBounds_toArray, List.set_cons_succ, List.set_cons_zero]
              go_wp2_with (first | go_skip | (with_reducible refine stop_load (t := 27) ?_) | (with_reducible refine stop_load (t := 28) ?_) | (with_reducible refine stop_load (t := 30) ?_) | (with_reducible refine stop_load (t := 33) ?_) | (with_reducible refine stop_load (t := 35) ?_) | (with_reducible refine stop_load (t := 40) ?_) | (with_reducible refine stop_load (t := 76) ?_) | (with_reducible refine stop_load (t := 77) ?_) | (with_reducible refine stop_box (t := 27) ?_) | (with_reducible refine stop_box (t := 28) ?_) | (with_reducible refine stop_box (t := 30) ?_) | (with_reducible refine stop_box (t := 33) ?_) | (with_reducible refine stop_box (t := 35) ?_) | (with_reducible refine stop_box (t := 40) ?_) | (with_reducible refine stop_box (t := 76) ?_) | (with_reducible refine stop_box (t := 77) ?_) | (with_reducible refine stop_alloc (t := 27) ?_) | (with_reducible refine stop_alloc (t := 28) ?_) | (with_reducible refine stop_alloc (t := 30) ?_) | (with_reducible refine stop_alloc (t := 33) ?_) | (with_reducible refine stop_alloc (t := 35) ?_) | (with_reducible refine stop_alloc (t := 40) ?_) | (with_reducible refine stop_alloc (t := 76) ?_) | (with_reducible refine stop_alloc (t := 77) ?_) | (with_reducible refine stop_alloc (t := 52) ?_) | (with_reducible refine stop_alloc (t := 68) ?_) | (with_reducible refine stop_alloc (t := 72) ?_) | (with_reducible refine stop_build (t := 27) ?_) | (with_reducible refine stop_build (t := 28) ?_) | (with_reducible refine stop_build (t := 30) ?_) | (with_reducible refine stop_build (t := 33) ?_) | (with_reducible refine stop_build (t := 35) ?_) | (with_reducible refine stop_build (t := 40) ?_) | (with_reducible refine stop_build (t := 76) ?_) | (with_reducible refine stop_build (t := 77) ?_) | (with_reducible refine stop_build (t := 52) ?_) | (with_reducible refine stop_build (t := 68) ?_) | (with_reducible refine stop_store (t := 27) ?_) | (with_reducible refine stop_store (t := 28) ?_) | (with_reducible refine stop_store (t := 30) ?_) | (with_reducible refine stop_store (t := 33) ?_) | (with_reducible refine stop_store (t := 35) ?_) | (with_reducible refine stop_store (t := 40) ?_) | (with_reducible refine stop_store (t := 76) ?_) | (with_reducible refine stop_store (t := 77) ?_) | (with_reducible refine stop_store (t := 22) ?_) | (with_reducible refine stop_store (t := 31) ?_) | (with_reducible refine stop_store (t := 47) ?_) | (with_reducible refine stop_store (t := 52) ?_) | (with_reducible refine stop_store (t := 68) ?_) | (with_reducible refine stop_store (t := 72) ?_) | (with_reducible refine stop_lookup ?_) | (with_reducible refine stop_buildSlice ?_) | (with_reducible refine stop_app ?_) | (with_reducible refine stop_mapEntry ?_) | (with_reducible refine stop_eql (t := 28) ?_) | (with_reducible refine stop_eql (t := 40) ?_) | (with_reducible refine stop_neq (t := 28) ?_) | (with_reducible refine stop_neq (t := 40) ?_))
              refine at_out (valloc hz0 ?_); intro g w3 n3
              simp only [Nat.reduceAdd, Nat.zero_add, Act.put, List.setIfInBounds_toArray, List.set_cons_succ, List.set_cons_zero]
              go_wp2_with (first | go_skip | (with_reducible refine stop_load (t := 27) ?_) | (with_reducible refine stop_load (t := 28) ?_) | (with_reducible refine stop_load (t := 30) ?_) | (with_reducible refine stop_load (t := 33) ?_) | (with_reducible refine stop_load (t := 35) ?_) | (with_reducible refine stop_load (t := 40) ?_) | (with_reducible refine stop_load (t := 76) ?_) | (with_reducible refine stop_load (t := 77) ?_) | (with_reducible refine stop_box (t := 27) ?_) | (with_reducible refine stop_box (t := 28) ?_) | (with_reducible refine stop_box (t := 30) ?_) | (with_reducible refine stop_box (t := 33) ?_) | (with_reducible refine stop_box (t := 35) ?_) | (with_reducible refine stop_box (t := 40) ?_) | (with_reducible refine stop_box (t := 76) ?_) | (with_reducible refine stop_box (t := 77) ?_) | (with_reducible refine stop_alloc (t := 27) ?_) | (with_reducible refine stop_alloc (t := 28) ?_) | (with_reducible refine stop_alloc (t := 30) ?_) | (with_reducible refine stop_alloc (t := 33) ?_) | (with_reducible refine stop_alloc (t := 35) ?_) | (with_reducible refine stop_alloc (t := 40) ?_) | (with_reducible refine stop_alloc (t := 76) ?_) | (with_reducible refine stop_alloc (t := 77) ?_) | (with_reducible refine stop_alloc (t := 52) ?_) | (with_reducible refine stop_alloc (t := 68) ?_) | (with_reducible refine stop_alloc (t := 72) ?_) | (with_reducible refine stop_build (t := 27) ?_) | (with_reducible refine stop_build (t := 28) ?_) | (with_reducible refine stop_build (t := 30) ?_) | (with_reducible refine stop_build (t := 33) ?_) | (with_reducible refine stop_build (t := 35) ?_) | (with_reducible refine stop_build (t := 40) ?_) | (with_reducible refine stop_build (t := 76) ?_) | (with_reducible refine stop_build (t := 77) ?_) | (with_reducible refine stop_build (t := 52) ?_) | (with_reducible refine stop_build (t := 68) ?_) | (with_reducible refine stop_store (t := 27) ?_) | (with_reducible refine stop_store (t := 28) ?_) | (with_reducible refine stop_store (t := 30) ?_) | (with_reducible refine stop_store (t := 33) ?_) | (with_reducible refine stop_store (t := 35) ?_) | (with_reducible refine stop_store (t := 40) ?_) | (with_reducible refine stop_store (t := 76) ?_) | (with_reducible refine stop_store (t := 77) ?_) | (with_reducible refine stop_store (t := 22) ?_) | (with_reducible refine stop_store (t := 31) ?_) | (with_reducible refine stop_store (t := 47) ?_) | (with_reducible refine stop_store (t := 52) ?_) | (with_reducible refine stop_store (t := 68) ?_) | (with_reducible refine stop_store (t := 72) ?_) | (with_reducible refine stop_lookup ?_) | (with_reducible refine stop_buildSlice ?_) | (with_reducible refine stop_app ?_) | (with_reducible refine stop_mapEntry ?_) | (with_reducible refine stop_eql (t := 28) ?_) | (with_reducible refine stop_eql (t := 40) ?_) | (with_reducible refine stop_neq (t := 28) ?_) | (with_reducible refine stop_neq (t := 40) ?_))
              refine at_out (wpList_skipE rfl (re_store (v := .agg (sc c s1).toArray) (n := 101) aggS.size (by rfl) (by rfl) n3.blk (by simpa [Value.cells] using lw1) (by simp [hz1]) (by simpa [Value.cells] using one1.out)) ?_)
              intro w4 s4
              simp only [Nat.reduceAdd, Nat.zero_add, Act.put, List.setIfInBounds_toArray, List.set_cons_succ, List.set_cons_zero]
              rw [splice_all (by rw [hz1]; simpa [Value.cells] using lw1)] at s4
              have q4 : Keeps Nb wr w4 := n3.k.own (k := g) n3.ge s4.k
              have T4 := HT.out.nb q4
              have hg := has_block s4.blk
              rw [show (Value.agg (sc c s1).toArray).cells.toList = sc c s1 by simp [Value.cells]] at hg
              obtain ⟨p1, p2, p3, -⟩ := sc_has OK1.out hg
              rw [Nat.zero_add] at p2 p3
              have P1 := Lib.hid p1; have P2 := Lib.hid p2
              clear HT n3 s4 q4 hg p1 p2 hc0
              go_wp2_with (first | go_skip | (with_reducible refine stop_load (t := 27) ?_) | (with_reducible refine stop_load (t := 28) ?_) | (with_reducible refine stop_load (t := 30) ?_) | (with_reducible refine stop_load (t := 33) ?_) | (with_reducible refine stop_load (t := 35) ?_) | (with_reducible refine stop_load (t := 40) ?_) | (with_reducible refine stop_load (t := 76) ?_) | (with_reducible refine stop_load (t := 77) ?_) | (with_reducible refine stop_box (t := 27) ?_) | (with_reducible refine stop_box (t := 28) ?_) | (with_reducible refine stop_box (t := 30) ?_) | (with_reducible refine stop_box (t := 33) ?_) | (with_reducible refine stop_box (t := 35) ?_) | (with_reducible refine stop_box (t := 40) ?_) | (with_reducible refine stop_box (t := 76) ?_) | (with_reducible refine stop_box (t := 77) ?_) | (with_reducible refine stop_alloc (t := 27) ?_) | (with_reducible refine stop_alloc (t := 28) ?_) | (with_reducible refine stop_alloc (t := 30) ?_) | (with_reducible refine stop_alloc (t := 33) ?_) | (with_reducible refine stop_alloc (t := 35) ?_) | (with_reducible refine stop_alloc (t := 40) ?_) | (with_reducible refine stop_alloc (t := 76) ?_) | (with_reducible refine stop_alloc (t := 77) ?_) | (with_reducible refine stop_alloc (t := 52) ?_) | (with_reducible refine stop_alloc (t := 68) ?_) | (with_reducible refine stop_alloc (t := 72) ?_) | (with_reducible refine stop_build (t := 27) ?_) | (with_reducible refine stop_build (t := 28) ?_) | (with_reducible refine stop_build (t := 30) ?_) | (with_reducible refine stop_build (t := 33) ?_) | (with_reducible refine stop_build (t := 35) ?_) | (with_reducible refine stop_build (t := 40) ?_) | (with_reducible refine stop_build (t := 76) ?_) | (with_reducible refine stop_build (t := 77) ?_) | (with_reducible refine stop_build (t := 52) ?_) | (with_reducible refine stop_build (t := 68) ?_) | (with_reducible refine stop_store (t := 27) ?_) | (with_reducible refine stop_store (t := 28) ?_) | (with_reducible refine stop_store (t := 30) ?_) | (with_reducible refine stop_store (t := 33) ?_) | (with_reducible refine stop_store (t := 35) ?_) | (with_reducible refine stop_store (t := 40) ?_) | (with_reducible refine stop_store (t := 76) ?_) | (with_reducible refine stop_store (t := 77) ?_) | (with_reducible refine stop_store (t := 22) ?_) | (with_reducible refine stop_store (t := 31) ?_) | (with_reducible refine stop_store (t := 47) ?_) | (with_reducible refine stop_store (t := 52) ?_) | (with_reducible refine stop_store (t := 68) ?_) | (with_reducible refine stop_store (t := 72) ?_) | (with_reducible refine stop_lookup ?_) | (with_reducible refine stop_buildSlice ?_) | (with_reducible refine stop_app ?_) | (with_reducible refine stop_mapEntry ?_) | (with_reducible refine stop_eql (t := 28) ?_) | (with_reducible refine stop_eql (t := 40) ?_) | (with_reducible refine stop_neq (t := 28) ?_) | (with_reducible refine stop_neq (t := 40) ?_))
              refine at_out (wpList_val (v := .agg (vc c s1).toArray) rfl (rn_loadH aggV (by rfl) P1.out lv1) ?_)
              simp only [Nat.reduceAdd, Nat.zero_add, Act.put, List.setIfInBounds_toArray, List.set_cons_succ, List.set_cons_zero]
              go_wp2_with (first | go_skip | (with_reducible refine stop_load (t := 27) ?_) | (with_reducible refine stop_load (t := 28) ?_) | (with_reducible refine stop_load (t := 30) ?_) | (with_reducible refine stop_load (t := 33) ?_) | (with_reducible refine stop_load (t := 35) ?_) | (with_reducible refine stop_load (t := 40) ?_) | (with_reducible refine stop_load (t := 76) ?_) | (with_reducible refine stop_load (t := 77) ?_) | (with_reducible refine stop_box (t := 27) ?_) | (with_reducible refine stop_box (t := 28) ?_) | (with_reducible refine stop_box (t := 30) ?_) | (with_reducible refine stop_box (t := 33) ?_) | (with_reducible refine stop_box (t := 35) ?_) | (with_reducible refine stop_box (t := 40) ?_) | (with_reducible refine stop_box (t := 76) ?_) | (with_reducible refine stop_box (t := 77) ?_) | (with_reducible refine stop_alloc (t := 27) ?_) | (with_reducible refine stop_alloc (t := 28) ?_) | (with_reducible refine stop_alloc (t := 30) ?_) | (with_reducible refine stop_alloc (t := 33) ?_) | (with_reducible refine stop_alloc (t := 35) ?_) | (with_reducible refine stop_alloc (t := 40) ?_) | (with_reducible refine stop_alloc (t := 76) ?_) | (with_reducible refine stop_alloc (t := 77) ?_) | (with_reducible refine stop_alloc (t := 52) ?_) | (with_reducible refine stop_alloc (t := 68) ?_) | (with_reducible refine stop_alloc (t := 72) ?_) | (with_reducible refine stop_build (t := 27) ?_) | (with_reducible refine stop_build (t := 28) ?_) | (with_reducible refine stop_build (t := 30) ?_) | (with_reducible refine stop_build (t := 33) ?_) | (with_reducible refine stop_build (t := 35) ?_) | (with_reducible refine stop_build (t := 40) ?_) | (with_reducible refine stop_build (t := 76) ?_) | (with_reducible refine stop_build (t := 77) ?_) | (with_reducible refine stop_build (t := 52) ?_) | (with_reducible refine stop_build (t := 68) ?_) | (with_reducible refine stop_store (t := 27) ?_) | (with_reducible refine stop_store (t := 28) ?_) | (with_reducible refine stop_store (t := 30) ?_) | (with_reducible refine stop_store (t := 33) ?_) | (with_reducible refine stop_store (t := 35) ?_) | (with_reducible refine stop_store (t := 40) ?_) | (with_reducible refine stop_store (t := 76) ?_) | (with_reducible refine stop_store (t := 77) ?_) | (with_reducible refine stop_store (t := 22) ?_) | (with_reducible refine stop_store (t := 31) ?_) | (with_reducible refine stop_store (t := 47) ?_) | (with_reducible refine stop_store (t := 52) ?_) | (with_reducible refine stop_store (t := 68) ?_) | (with_reducible refine stop_store (t := 72) ?_) | (with_reducible refine stop_lookup ?_) | (with_reducible refine stop_buildSlice ?_) | (with_reducible refine stop_app ?_) | (with_reducible refine stop_mapEntry ?_) | (with_reducible refine stop_eql (t := 28) ?_) | (with_reducible refine stop_eql (t := 40) ?_) | (with_reducible refine stop_neq (t := 28) ?_) | (with_reducible refine stop_neq (t := 40) ?_))
              refine at_out (wpList_val (v := kv HK c.key) rfl (rn_loadH aggH (by rfl) P2.out lk1) ?_)
              simp only [Nat.reduceAdd, Nat.zero_add, Act.put, List.setIfInBounds_toArray, List.set_cons_succ, List.set_cons_zero]
              go_wp2_with fail
              refine (T4.swap.add OK1.out (VV.out _ T4.k).sig hml).mono ?_
              rintro _ w5 ⟨rfl, T5⟩
              have HT5 := Lib.hid T5.swap
              clear T4 T5 P1 P2 p3
              go_wp2
              go_roundw
              case rel => exact ⟨k + 1, m ++ [c], by omega, by go_num, ⟨by have := hm.out.1; simp; omega, fun x hx => by rcases List.mem_append.1 hx with h | h; exact hm.out.2 x h; simp at h; subst h; exact hin.out⟩, by rw [all_snoc]; exact HT5.out⟩
              case measure => simp [intOf]; omega
            · have hgo' : zs.length ≤ k ∨ cs.length = 0 := by omega
              have HT := Lib.hid hT
              have hm1 : m.length ≤ 100 := by have := hm.out.1; omega
              clear hT hgo
              have hmem := Lib.hid hm.out.2
              rcases hgo' with hgo' | hgo'
              · have hkz : k = zs.length := by omega
                subst hkz
                go_wp2_with fail
                go_loopw [15] (fun i wr => ∃ k : Nat, k ≤ cs.length ∧ i = .int .i64 ((k : Int) - 1) ∧ Two w wr pa A pb (all [] (m ++ (cs.drop k).reverse))) (fun i _ => (intOf i + 1).toNat)
                case atStart => exact ⟨cs.length, Nat.le_refl _, rfl, by rw [List.drop_length]; simpa using HT.out⟩
                case round =>
                  clear HT
                  obtain ⟨k, hk, rfl, hT⟩ := hrel
                  rcases k with _ | k
                  · rw [show (((0 : Nat) : Int) - 1) = (-1 : Int) from rfl]
                    have HT := Lib.hid hT
                    rw [List.drop_zero] at HT
                    clear hT
                    generalize hB0 : all [] (m ++ cs.reverse) = B at *
                    have hsame := same_all (l := cs) (m := cs) (n := m ++ cs.reverse) ONE.out (fun _ => Iff.rfl) (fun c => by simp; exact fun h => hmem.out c h)
                    rw [HA0.out, hB0] at hsame
                    obtain ⟨hwv, hlen, hlks⟩ := hsame
                    have HWV := Lib.hid hwv; have HLEN := Lib.hid hlen; have HLKS := Lib.hid hlks
                    have hBl : B.length ≤ 1000 := by obtain ⟨_, _, h⟩ := HT.out.b; exact h.len
                    clear hB0 hwv hlen hlks
                    go_wp2_with fail
                    go_loopw [16] (fun i wr => ∃ k : Nat, k ≤ cs.length ∧ i = .int .i64 k ∧ Two w wr pa A pb B) (fun i _ => cs.length - (intOf i).toNat)
                    case atStart => exact ⟨0, Nat.zero_le _, rfl, HT.out⟩
                    case round =>
                      clear HT
                      obtain ⟨k, hk, rfl, hT⟩ := hrel
                      by_cases hlt : k < cs.length
                      · have i1 : (k : Int) < (cs.length : Int) := by omega
                        have hne : cs ≠ [] := by rintro rfl; simp at hlt
                        have ha := HA.out hne
                        subst ha
                        obtain ⟨s1, hv1⟩ := HV.out k cs[k] (List.getElem?_eq_getElem hlt)
                        have ok1 := HOK.out cs[k] (List.getElem_mem hlt)
                        generalize cs[k] = c at *
                        have lv1 := vc_len ok1 s1
                        have lL : (valsK LK c.link).length = 66 := by rw [valsK_length ok1.link.length]; rfl
                        have oneL := Lib.hid (valsK_one LK c.link)
                        have VV := Lib.hid (fun (u : World) (h : Keeps Nb w u) => hv1.nb h)
                        have HT := Lib.hid hT; have OK1 := Lib.hid ok1
                        obtain ⟨z, hz0, hz1⟩ := zero40s
                        clear hv1 hT ok1
                        go_wp2_with (first | go_skip | (with_reducible refine stop_load (t := 27) ?_) | (with_reducible refine stop_load (t := 28) ?_) | (with_reducible refine stop_load (t := 30) ?_) | (with_reducible refine stop_load (t := 33) ?_) | (with_reducible refine stop_load (t := 35) ?_) | (with_reducible refine stop_load (t := 40) ?_) | (with_reducible refine stop_load (t := 76) ?_) | (with_reducible refine stop_load (t := 77) ?_) | (with_reducible refine stop_box (t := 27) ?_) | (with_reducible refine stop_box (t := 28) ?_) | (with_reducible refine stop_box (t := 30) ?_) | (with_reducible refine stop_box (t := 33) ?_) | (with_reducible refine stop_box (t := 35) ?_) | (with_reducible refine stop_box (t := 40) ?_) | (with_reducible refine stop_box (t := 76) ?_) | (with_reducible refine stop_box (t := 77) ?_) | (with_reducible refine stop_alloc (t := 27) ?_) | (with_reducible refine stop_alloc (t := 28) ?_) | (with_reducible refine stop_alloc (t := 30) ?_) | (with_reducible refine stop_alloc (t := 33) ?_) | (with_reducible refine stop_alloc (t := 35) ?_) | (with_reducible refine stop_alloc (t := 40) ?_) | (with_reducible refine stop_alloc (t := 76) ?_) | (with_reducible refine stop_alloc (t := 77) ?_) | (with_reducible refine stop_alloc (t := 52) ?_) | (with_reducible refine stop_alloc (t := 68) ?_) | (with_reducible refine stop_alloc (t := 72) ?_) | (with_reducible refine stop_build (t := 27) ?_) | (with_reducible refine stop_build (t := 28) ?_) | (with_reducible refine stop_build (t := 30) ?_) | (with_reducible refine stop_build (t := 33) ?_) | (with_reducible refine stop_build (t := 35) ?_) | (with_reducible refine stop_build (t := 40) ?_) | (with_reducible refine stop_build (t := 76) ?_) | (with_reducible refine stop_build (t := 77) ?_) | (with_reducible refine stop_build (t := 52) ?_) | (with_reducible refine stop_build (t := 68) ?_) | (with_reducible refine stop_store (t := 27) ?_) | (with_reducible refine stop_store (t := 28) ?_) | (with_reducible refine stop_store (t := 30) ?_) | (with_reducible refine stop_store (t := 33) ?_) | (with_reducible refine stop_store (t := 35) ?_) | (with_reducible refine stop_store (t := 40) ?_) | (with_reducible refine stop_store (t := 76) ?_) | (with_reducible refine stop_store (t := 77) ?_) | (with_reducible refine stop_store (t := 22) ?_) | (with_reducible refine stop_store (t := 31) ?_) | (with_reducible refine stop_store (t := 47) ?_) | (with_reducible refine stop_store (t := 52) ?_) | (with_reducible refine stop_store (t := 68) ?_) | (with_reducible refine stop_store (t := 72) ?_) | (with_reducible refine stop_lookup ?_) | (with_reducible refine stop_buildSlice ?_) | (with_reducible refine stop_app ?_) | (with_reducible refine stop_mapEntry ?_) | (with_reducible refine stop_eql (t := 28) ?_) | (with_reducible refine stop_eql (t := 40) ?_) | (with_reducible refine stop_neq (t := 28) ?_) | (with_reducible refine stop_neq (t := 40) ?_))
                        refine at_out (wpList_val (v := .agg (vc c s1).toArray) rfl (rn_loadH aggV (by rfl) (VV.out _ HT.out.k).vote lv1) ?_)
                        simp only [Nat.reduceAdd, Nat.zero_add, Act.put, List.setIfInBounds_toArray, List.set_cons_succ, List.set_cons_zero]
                        go_wp2_with fail
                        refine (linkOf_at c s1 _ OK1.out).mono ?_; rintro e w3 ⟨rfl, q3⟩
                        go_wp2_with (first | go_skip | (with_reducible refine stop_load (t := 27) ?_) | (with_reducible refine stop_load (t := 28) ?_) | (with_reducible refine stop_load (t := 30) ?_) | (with_reducible refine stop_load (t := 33) ?_) | (with_reducible refine stop_load (t := 35) ?_) | (with_reducible refine stop_load (t := 40) ?_) | (with_reducible refine stop_load (t := 76) ?_) | (with_reducible refine stop_load (t := 77) ?_) | (with_reducible refine stop_box (t := 27) ?_) | (with_reducible refine stop_box (t := 28) ?_) | (with_reducible refine stop_box (t := 30) ?_) | (with_reducible refine stop_box (t := 33) ?_) | (with_reducible refine stop_box (t := 35) ?_) | (with_reducible refine stop_box (t := 40) ?_) | (with_reducible refine stop_box (t := 76) ?_) | (with_reducible refine stop_box (t := 77) ?_) | (with_reducible refine stop_alloc (t := 27) ?_) | (with_reducible refine stop_alloc (t := 28) ?_) | (with_reducible refine stop_alloc (t := 30) ?_) | (with_reducible refine stop_alloc (t := 33) ?_) | (with_reducible refine stop_alloc (t := 35) ?_) | (with_reducible refine stop_alloc (t := 40) ?_) | (with_reducible refine stop_alloc (t := 76) ?_) | (with_reducible refine stop_alloc (t := 77) ?_) | (with_reducible refine stop_alloc (t := 52) ?_) | (with_reducible refine stop_alloc (t := 68) ?_) | (with_reducible refine stop_alloc (t := 72) ?_) | (with_reducible refine stop_build (t := 27) ?_) | (with_reducible refine stop_build (t := 28) ?_) | (with_reducible refine stop_build (t := 30) ?_) | (with_reducible refine stop_build (t := 33) ?_) | (with_reducible refine stop_build (t := 35) ?_) | (with_reducible refine stop_build (t := 40) ?_) | (with_reducible refine stop_build (t := 76) ?_) | (with_reducible refine stop_build (t := 77) ?_) | (with_reducible refine stop_build (t := 52) ?_) | (with_reducible refine stop_build (t := 68) ?_) | (with_reducible refine stop_store (t := 27) ?_) | (with_reducible refine stop_store (t := 28) ?_) | (with_reducible refine stop_store (t := 30) ?_) | (with_reducible refine stop_store (t := 33) ?_) | (with_reducible refine stop_store (t := 35) ?_) | (with_reducible refine stop_store (t := 40) ?_) | (with_reducible refine stop_store (t := 76) ?_) | (with_reducible refine stop_store (t := 77) ?_) | (with_reducible refine stop_store (t := 22) ?_) | (with_reducible refine stop_store (t := 31) ?_) | (with_reducible refine stop_store (t := 47) ?_) | (with_reducible refine stop_store (t := 52) ?_) | (with_reducible refine stop_store (t := 68) ?_) | (with_reducible refine stop_store (t := 72) ?_) | (with_reducible refine stop_lookup ?_) | (with_reducible refine stop_buildSlice ?_) | (with_reducible refine stop_app ?_) | (with_reducible refine stop_mapEntry ?_) | (with_reducible refine stop_eql (t := 28) ?_) | (with_reducible refine stop_eql (t := 40) ?_) | (with_reducible refine stop_neq (t := 28) ?_) | (with_reducible refine stop_neq (t := 40) ?_))
                        refine at_out (valloc hz0 ?_); intro g w4 n4
                        simp only [Nat.reduceAdd, Nat.zero_add, Act.put, List.setIfInBounds_toArray, List.set_cons_succ, List.set_cons_zero]
                        go_wp2_with (first | go_skip | (with_reducible refine stop_load (t := 27) ?_) | (with_reducible refine stop_load (t := 28) ?_) | (with_reducible refine stop_load (t := 30) ?_) | (with_reducible refine stop_load (t := 33) ?_) | (with_reducible refine stop_load (t := 35) ?_) | (with_reducible refine stop_load (t := 40) ?_) | (with_reducible refine stop_load (t := 76) ?_) | (with_reducible refine stop_load (t := 77) ?_) | (with_reducible refine stop_box (t := 27) ?_) | (with_reducible refine stop_box (t := 28) ?_) | (with_reducible refine stop_box (t := 30) ?_) | (with_reducible refine stop_box (t := 33) ?_) | (with_reducible refine stop_box (t := 35) ?_) | (with_reducible refine stop_box (t := 40) ?_) | (with_reducible refine stop_box (t := 76) ?_) | (with_reducible refine stop_box (t := 77) ?_) | (with_reducible refine stop_alloc (t := 27) ?_) | (with_reducible refine stop_alloc (t := 28) ?_) | (with_reducible refine stop_alloc (t := 30) ?_) | (with_reducible refine stop_alloc (t := 33) ?_) | (with_reducible refine stop_alloc (t := 35) ?_) | (with_reducible refine stop_alloc (t := 40) ?_) | (with_reducible refine stop_alloc (t := 76) ?_) | (with_reducible refine stop_alloc (t := 77) ?_) | (with_reducible refine stop_alloc (t := 52) ?_) | (with_reducible refine stop_alloc (t := 68) ?_) | (with_reducible refine stop_alloc (t := 72) ?_) | (with_reducible refine stop_build (t := 27) ?_) | (with_reducible refine stop_build (t := 28) ?_) | (with_reducible refine stop_build (t := 30) ?_) | (with_reducible refine stop_build (t := 33) ?_) | (with_reducible refine stop_build (t := 35) ?_) | (with_reducible refine stop_build (t := 40) ?_) | (with_reducible refine stop_build (t := 76) ?_) | (with_reducible refine stop_build (t := 77) ?_) | (with_reducible refine stop_build (t := 52) ?_) | (with_reducible refine stop_build (t := 68) ?_) | (with_reducible refine stop_store (t := 27) ?_) | (with_reducible refine stop_store (t := 28) ?_) | (with_reducible refine stop_store (t := 30) ?_) | (with_reducible refine stop_store (t := 33) ?_) | (with_reducible refine stop_store (t := 35) ?_) | (with_reducible refine stop_store (t := 40) ?_) | (with_reducible refine stop_store (t := 76) ?_) | (with_reducible refine stop_store (t := 77) ?_) | (with_reducible refine stop_store (t := 22) ?_) | (with_reducible refine stop_store (t := 31) ?_) | (with_reducible refine stop_store (t := 47) ?_) | (with_reducible refine stop_store (t := 52) ?_) | (with_reducible refine stop_store (t := 68) ?_) | (with_reducible refine stop_store (t := 72) ?_) | (with_reducible refine stop_lookup ?_) | (with_reducible refine stop_buildSlice ?_) | (with_reducible refine stop_app ?_) | (with_reducible refine stop_mapEntry ?_) | (with_reducible refine stop_eql (t := 28) ?_) | (with_reducible refine stop_eql (t := 40) ?_) | (with_reducible refine stop_neq (t := 28) ?_) | (with_reducible refine stop_neq (t := 40) ?_))
                        refine at_out (wpList_skipE rfl (re_store (v := kv LK c.link) (n := 66) aggL.size (by rfl) (by rfl) n4.blk (by simpa [kv, Value.cells] using lL) (by simp [hz1]) (by simpa [kv, Value.cells] using oneL.out)) ?_)
                        intro w5 s5
                        simp only [Nat.reduceAdd, Nat.zero_add, Act.put, List.setIfInBounds_toArray, List.set_cons_succ, List.set_cons_zero]
                        rw [splice_all (by rw [hz1]; simpa [kv, Value.cells] using lL)] at s5
                        have q5 : Keeps Nb wr w5 := (q3.trans_nb n4.k).own (k := g) (Nat.le_trans q3.size n4.ge) s5.k
                        have T5 := HT.out.nb q5
                        have HG : Hid (∀ u : Sub w5, Has u.wd (some ⟨g, 0, none⟩) (valsK LK c.link)) := fun u => by
                          have := has_block (u.k.nb s5.blk)
                          rwa [show (kv LK c.link).cells.toList = valsK LK c.link by simp [kv, Value.cells]] at this
                        obtain ⟨FA, RA, hpA⟩ := T5.a
                        obtain ⟨FB, RB, hpB⟩ := T5.b
                        have CA := Lib.hid (fun (u : Sub w5) => weight_at pa FA RA A c.link u.wd (hpA.nb u.k) OK1.out.link)
                        have CB := Lib.hid (fun (u : Sub w5) => weight_at pb FB RB B c.link u.wd (hpB.nb u.k) OK1.out.link)
                        have DA := Lib.hid (fun (u : Sub w5) => voters_at pa FA RA A c.link u.wd (hpA.nb u.k) OK1.out.link)
                        have DB := Lib.hid (fun (u : Sub w5) => voters_at pb FB RB B c.link u.wd (hpB.nb u.k) OK1.out.link)
                        have hwv := HWV.out c.link
                        rw [← hwv.1] at CB
                        rw [← hwv.2] at DB
                        have t8 : (((wt A c.link : Nat) : Int) != ((wt A c.link : Nat) : Int)) = false := by simp
                        have t9 : (((vs A c.link : Nat) : Int) != ((vs A c.link : Nat) : Int)) = false := by simp
                        have HT5 := Lib.hid T5
                        clear hwv HT q3 n4 s5 q5 T5 hpA hpB
                        go_wp2_with fail
                        refine region_sub (by kernel_rfl) (by kernel_rfl) ?_
                        repeat (first | go_big_quiet_skip | (with_reducible refine stopq (op := .load 27 _) ?_) | (with_reducible refine stopq (op := .load 28 _) ?_) | (with_reducible refine stopq (op := .load 30 _) ?_) | (with_reducible refine stopq (op := .load 33 _) ?_) | (with_reducible refine stopq (op := .load 35 _) ?_) | (with_reducible refine stopq (op := .load 40 _) ?_) | (with_reducible refine stopq (op := .load 76 _) ?_) | (with_reducible refine stopq (op := .load 77 _) ?_) | (with_reducible refine stopq (op := .build 27 _) ?_) | (with_reducible refine stopq (op := .build 28 _) ?_) | (with_reducible refine stopq (op := .build 30 _) ?_) | (with_reducible refine stopq (op := .build 33 _) ?_) | (with_reducible refine stopq (op := .build 35 _) ?_) | (with_reducible refine stopq (op := .build 40 _) ?_) | (with_reducible refine stopq (op := .build 76 _) ?_) | (with_reducible refine stopq (op := .build 77 _) ?_) | (with_reducible refine stopq (op := .lookup _ _ _ _) ?_) | (with_reducible refine stopq (op := .binOp .eql 28 _ _ _) ?_) | (with_reducible refine stopq (op := .binOp .eql 40 _ _ _) ?_) | (with_reducible refine stopq (op := .binOp .neq 28 _ _ _) ?_) | (with_reducible refine stopq (op := .binOp .neq 40 _ _ _) ?_) | go_big_quiet_step (fail))
                        refine at_out (wpq_val (v := kv LK c.link) rfl (by rintro _ ⟨u, rfl⟩; exact rn_loadH aggL (by rfl) (HG.out u) lL) ?_)
                        simp only [Nat.reduceAdd, Nat.zero_add, Act.put, List.setIfInBounds_toArray, List.set_cons_succ, List.set_cons_zero]
                        go_big_quiet_step ((go_at_call 11; with_reducible exact quiet_sub (CA.out _)))
                        repeat (first | go_big_quiet_skip | (with_reducible refine stopq (op := .load 27 _) ?_) | (with_reducible refine stopq (op := .load 28 _) ?_) | (with_reducible refine stopq (op := .load 30 _) ?_) | (with_reducible refine stopq (op := .load 33 _) ?_) | (with_reducible refine stopq (op := .load 35 _) ?_) | (with_reducible refine stopq (op := .load 40 _) ?_) | (with_reducible refine stopq (op := .load 76 _) ?_) | (with_reducible refine stopq (op := .load 77 _) ?_) | (with_reducible refine stopq (op := .build 27 _) ?_) | (with_reducible refine stopq (op := .build 28 _) ?_) | (with_reducible refine stopq (op := .build 30 _) ?_) | (with_reducible refine stopq (op := .build 33 _) ?_) | (with_reducible refine stopq (op := .build 35 _) ?_) | (with_reducible refine stopq (op := .build 40 _) ?_) | (with_reducible refine stopq (op := .build 76 _) ?_) | (with_reducible refine stopq (op := .build 77 _) ?_) | (with_reducible refine stopq (op := .lookup _ _ _ _) ?_) | (with_reducible refine stopq (op := .binOp .eql 28 _ _ _) ?_) | (with_reducible refine stopq (op := .binOp .eql 40 _ _ _) ?_) | (with_reducible refine stopq (op := .binOp .neq 28 _ _ _) ?_) | (with_reducible refine stopq (op := .binOp .neq 40 _ _ _) ?_) | go_big_quiet_step (fail))
                        refine at_out (wpq_val (v := kv LK c.link) rfl (by rintro _ ⟨u, rfl⟩; exact rn_loadH aggL (by rfl) (HG.out u) lL) ?_)
                        simp only [Nat.reduceAdd, Nat.zero_add, Act.put, List.setIfInBounds_toArray, List.set_cons_succ, List.set_cons_zero]
                        go_big_quiet_step ((go_at_call 11; with_reducible exact quiet_sub (CB.out _)))
                        repeat (first | go_big_quiet_skip | (with_reducible refine stopq (op := .load 27 _) ?_) | (with_reducible refine stopq (op := .load 28 _) ?_) | (with_reducible refine stopq (op := .load 30 _) ?_) | (with_reducible refine stopq (op := .load 33 _) ?_) | (with_reducible refine stopq (op := .load 35 _) ?_) | (with_reducible refine stopq (op := .load 40 _) ?_) | (with_reducible refine stopq (op := .load 76 _) ?_) | (with_reducible refine stopq (op := .load 77 _) ?_) | (with_reducible refine stopq (op := .build 27 _) ?_) | (with_reducible refine stopq (op := .build 28 _) ?_) | (with_reducible refine stopq (op := .build 30 _) ?_) | (with_reducible refine stopq (op := .build 33 _) ?_) | (with_reducible refine stopq (op := .build 35 _) ?_) | (with_reducible refine stopq (op := .build 40 _) ?_) | (with_reducible refine stopq (op := .build 76 _) ?_) | (with_reducible refine stopq (op := .build 77 _) ?_) | (with_reducible refine stopq (op := .lookup _ _ _ _) ?_) | (with_reducible refine stopq (op := .binOp .eql 28 _ _ _) ?_) | (with_reducible refine stopq (op := .binOp .eql 40 _ _ _) ?_) | (with_reducible refine stopq (op := .binOp .neq 28 _ _ _) ?_) | (with_reducible refine stopq (op := .binOp .neq 40 _ _ _) ?_) | go_big_quiet_step (fail))
                        refine at_out (wpq_val (v := kv LK c.link) rfl (by rintro _ ⟨u, rfl⟩; exact rn_loadH aggL (by rfl) (HG.out u) lL) ?_)
                        simp only [Nat.reduceAdd, Nat.zero_add, Act.put, List.setIfInBounds_toArray, List.set_cons_succ, List.set_cons_zero]
                        go_big_quiet_step ((go_at_call 14; with_reducible exact quiet_sub (DA.out _)))
                        repeat (first | go_big_quiet_skip | (with_reducible refine stopq (op := .load 27 _) ?_) | (with_reducible refine stopq (op := .load 28 _) ?_) | (with_reducible refine stopq (op := .load 30 _) ?_) | (with_reducible refine stopq (op := .load 33 _) ?_) | (with_reducible refine stopq (op := .load 35 _) ?_) | (with_reducible refine stopq (op := .load 40 _) ?_) | (with_reducible refine stopq (op := .load 76 _) ?_) | (with_reducible refine stopq (op := .load 77 _) ?_) | (with_reducible refine stopq (op := .build 27 _) ?_) | (with_reducible refine stopq (op := .build 28 _) ?_) | (with_reducible refine stopq (op := .build 30 _) ?_) | (with_reducible refine stopq (op := .build 33 _) ?_) | (with_reducible refine stopq (op := .build 35 _) ?_) | (with_reducible refine stopq (op := .build 40 _) ?_) | (with_reducible refine stopq (op := .build 76 _) ?_) | (with_reducible refine stopq (op := .build 77 _) ?_) | (with_reducible refine stopq (op := .lookup _ _ _ _) ?_) | (with_reducible refine stopq (op := .binOp .eql 28 _ _ _) ?_) | (with_reducible refine stopq (op := .binOp .eql 40 _ _ _) ?_) | (with_reducible refine stopq (op := .binOp .neq 28 _ _ _) ?_) | (with_reducible refine stopq (op := .binOp .neq 40 _ _ _) ?_) | go_big_quiet_step (fail))
                        refine at_out (wpq_val (v := kv LK c.link) rfl (by rintro _ ⟨u, rfl⟩; exact rn_loadH aggL (by rfl) (HG.out u) lL) ?_)
                        simp only [Nat.reduceAdd, Nat.zero_add, Act.put, List.setIfInBounds_toArray, List.set_cons_succ, List.set_cons_zero]
                        go_big_quiet_step ((go_at_call 14; with_reducible exact quiet_sub (DB.out _)))
                        repeat (first | go_big_quiet_skip | (with_reducible refine stopq (op := .load 27 _) ?_) | (with_reducible refine stopq (op := .load 28 _) ?_) | (with_reducible refine stopq (op := .load 30 _) ?_) | (with_reducible refine stopq (op := .load 33 _) ?_) | (with_reducible refine stopq (op := .load 35 _) ?_) | (with_reducible refine stopq (op := .load 40 _) ?_) | (with_reducible refine stopq (op := .load 76 _) ?_) | (with_reducible refine stopq (op := .load 77 _) ?_) | (with_reducible refine stopq (op := .build 27 _) ?_) | (with_reducible refine stopq (op := .build 28 _) ?_) | (with_reducible refine stopq (op := .build 30 _) ?_) | (with_reducible refine stopq (op := .build 33 _) ?_) | (with_reducible refine stopq (op := .build 35 _) ?_) | (with_reducible refine stopq (op := .build 40 _) ?_) | (with_reducible refine stopq (op := .build 76 _) ?_) | (with_reducible refine stopq (op := .build 77 _) ?_) | (with_reducible refine stopq (op := .lookup _ _ _ _) ?_) | (with_reducible refine stopq (op := .binOp .eql 28 _ _ _) ?_) | (with_reducible refine stopq (op := .binOp .eql 40 _ _ _) ?_) | (with_reducible refine stopq (op := .binOp .neq 28 _ _ _) ?_) | (with_reducible refine stopq (op := .binOp .neq 40 _ _ _) ?_) | go_big_quiet_step (fail))
                        refine wpQuiet_nil ?_
                        rintro w6 ⟨u6, hu6⟩
                        have K6 : Keeps Nb w5 w6 := hu6 ▸ u6.k
                        clear hu6 u6 CA CB DA DB HG
                        have HT6 := Lib.hid (HT5.out.nb K6)
                        clear HT5 K6
                        go_wp2
                        go_roundw
                        case rel => exact ⟨k + 1, by omega, by go_num, HT6.out⟩
                        case measure => simp [intOf]; omega
                      · have hkl : k = cs.length := by omega
                        have HT := Lib.hid hT
                        clear hT hk
                        obtain ⟨FA, RA, hpA⟩ := HT.out.a
                        obtain ⟨FB, RB, hpB⟩ := HT.out.b
                        have t10 : ((A.length : Int) == (B.length : Int)) = true := by rw [HLEN.out]; simp
                        have t11 : (((lks A).length : Int) == ((lks B).length : Int)) = true := by rw [HLKS.out]; simp
                        have CA := Lib.hid (len_at pa FA RA A _ hpA)
                        have CB := Lib.hid (len_at pb FB RB B _ hpB)
                        clear hpA hpB
                        subst hkl
                        go_wp2_with fail
                        refine CA.out.mono ?_; rintro e w1 ⟨rfl, rfl⟩
                        go_wp2_with fail
                        refine CB.out.mono ?_; rintro e w1 ⟨rfl, rfl⟩
                        obtain ⟨FA, RA, hpA⟩ := HT.out.a
                        have LA := Lib.hid (links_at pa FA RA A _ hpA)
                        clear hpA CA CB
                        go_wp2_with fail
                        refine LA.out.mono ?_; rintro e w3 ⟨v3, rfl, o3, q3⟩
                        obtain ⟨a3, c3, rfl, -⟩ := owns_has o3
                        have HT3 := Lib.hid (HT.out.nb q3)
                        obtain ⟨FB, RB, hpB⟩ := HT3.out.b
                        have LB := Lib.hid (links_at pb FB RB B _ hpB)
                        clear hpB LA o3 q3 HT
                        go_wp2_with fail
                        refine LB.out.mono ?_; rintro e w4 ⟨v4, rfl, o4, q4⟩
                        obtain ⟨a4, c4, rfl, -⟩ := owns_has o4
                        have HT4 := Lib.hid (HT3.out.nb q4)
                        clear LB o4 q4 HT3
                        go_wp2_with fail
                        refine (KN.out _).mono ?_; rintro e w9 ⟨rfl, k9⟩
                        go_wp2; go_ret; exact ⟨rfl, ((HT4.out.k).trans_nb k9).below⟩
                  · rw [show (((k + 1 : Nat) : Int) - 1) = (k : Int) by omega]
                    have hlt : k < cs.length := by omega
                    have i1 : (k : Int) < (cs.length : Int) := by omega
                    have hne : cs ≠ [] := by rintro rfl; simp at hlt
                    have ha := HA.out hne
                    subst ha
                    obtain ⟨s1, hv1⟩ := HV.out k cs[k] (List.getElem?_eq_getElem hlt)
                    have ok1 := HOK.out cs[k] (List.getElem_mem hlt)
                    have hdr : m ++ (cs.drop k).reverse = (m ++ (cs.drop (k + 1)).reverse) ++ [cs[k]] := by rw [List.drop_eq_getElem_cons hlt]; simp
                    have HDR := Lib.hid hdr; clear hdr
                    generalize cs[k] = c at *
                    have hst1 := ok1.stake
                    have lk1 : (valsK HK c.key).length = 32 := by rw [valsK_length ok1.key.length]; rfl
                    have lv1 := vc_len ok1 s1
                    have VV := Lib.hid (fun (u : World) (h : Keeps Nb w u) => hv1.nb h)
                    have hml : (all [] (m ++ (cs.drop (k + 1)).reverse)).length < 1000 := by have := all_len (m ++ (cs.drop (k + 1)).reverse) []; simp at *; omega
                    have HT := Lib.hid hT; have OK1 := Lib.hid ok1
                    clear hv1 hT ok1
                    go_wp2_with fail
                    have hS : VoteAt wr (Was w) b (off + k * 101) c s1 := VV.out _ HT.out.k
                    have HS : Hid (VoteAt wr.drew (Was w) b (off + k * 101) c s1) := hS.nb ((Keeps.refl Nb _).drew)
                    have T4d := HT.out.nb ((Keeps.refl Nb _).drew)
                    refine WT.region (fun u => VoteAt u (Was w) b (off + k * 101) c s1) 17 17 [0, 1, 2, 3, 4, 5, 6, 7, 8, 9, 10, 11, 12, 13, 14, 15, 16] (by kernel_rfl) rfl ?_
                    refine WT.take 0 (v := _) (by simp only [List.getElem?_toArray, List.getElem?_cons_succ, List.getElem?_cons_zero]; rfl) (by kernel_rfl) (by exact fun _ _ _ h => h) (by rfl) (by intro w hS; have C1 := hS.stake; clear hS; go_simp; with_reducible rfl) HS.out ?_
                    simp only [Nat.reduceAdd, Nat.zero_add, Act.put, List.setIfInBounds_toArray, List.set_cons_succ, List.set_cons_zero]
                    refine WT.take 1 (v := _) (by simp only [List.getElem?_toArray, List.getElem?_cons_succ, List.getElem?_cons_zero]; rfl) (by kernel_rfl) (by exact fun _ _ _ h => h) (by rfl) (by intro w hS; have C1 := hS.stake; clear hS; go_simp; with_reducible rfl) HS.out ?_
                    simp only [Nat.reduceAdd, Nat.zero_add, Act.put, List.setIfInBounds_toArray, List.set_cons_succ, List.set_cons_zero]
                    refine WT.take 2 (v := _) (by simp only [List.getElem?_toArray, List.getElem?_cons_succ, List.getElem?_cons_zero]; rfl) (by kernel_rfl) (by exact fun _ _ _ h => h) (by rfl) (by intro w hS; have C1 := hS.stake; clear hS; go_simp; with_reducible rfl) HS.out ?_
                    simp only [Nat.reduceAdd, Nat.zero_add, Act.put, List.setIfInBounds_toArray, List.set_cons_succ, List.set_cons_zero]
                    refine WT.take 3 (v := _) (by simp only [List.getElem?_toArray, List.getElem?_cons_succ, List.getElem?_cons_zero]; rfl) (by kernel_rfl) (by exact fun _ _ _ h => h) (by rfl) (by intro w hS; have C1 := hS.stake; clear hS; go_simp; with_reducible rfl) HS.out ?_
                    simp only [Nat.reduceAdd, Nat.zero_add, Act.put, List.setIfInBounds_toArray, List.set_cons_succ, List.set_cons_zero]
                    refine WT.take 4 (v := _) (by simp only [List.getElem?_toArray, List.getElem?_cons_succ, List.getElem?_cons_zero]; rfl) (by kernel_rfl) (by exact fun _ _ _ h => h) (by rfl) (by intro w hS; have C1 := hS.stake; clear hS; go_simp; with_reducible rfl) HS.out ?_
                    simp only [Nat.reduceAdd, Nat.zero_add, Act.put, List.setIfInBounds_toArray, List.set_cons_succ, List.set_cons_zero]
                    refine WT.take 5 (v := .agg (vc c s1).toArray) (by simp only [List.getElem?_toArray, List.getElem?_cons_succ, List.getElem?_cons_zero]; rfl) (by kernel_rfl) (by exact fun _ _ _ h => h) (by rfl) (by intro w hS; exact rn_loadH aggV (by rfl) hS.vote lv1) HS.out ?_
                    simp only [Nat.reduceAdd, Nat.zero_add, Act.put, List.setIfInBounds_toArray, List.set_cons_succ, List.set_cons_zero]
                    refine WT.take 6 (v := _) (by simp only [List.getElem?_toArray, List.getElem?_cons_succ, List.getElem?_cons_zero]; rfl) (by kernel_rfl) (by exact fun _ _ _ h => h) (by rfl) (by intro w hS; have C1 := hS.stake; clear hS; go_simp; with_reducible rfl) HS.out ?_
                    simp only [Nat.reduceAdd, Nat.zero_add, Act.put, List.setIfInBounds_toArray, List.set_cons_succ, List.set_cons_zero]
                    refine WT.take 7 (v := _) (by simp only [List.getElem?_toArray, List.getElem?_cons_succ, List.getElem?_cons_zero]; rfl) (by kernel_rfl) (by exact fun _ _ _ h => h) (by rfl) (by intro w hS; have C1 := hS.stake; clear hS; go_simp; with_reducible rfl) HS.out ?_
                    simp only [Nat.reduceAdd, Nat.zero_add, Act.put, List.setIfInBounds_toArray, List.set_cons_succ, List.set_cons_zero]
                    refine WT.take 8 (v := _) (by simp only [List.getElem?_toArray, List.getElem?_cons_succ, List.getElem?_cons_zero]; rfl) (by kernel_rfl) (by exact fun _ _ _ h => h) (by rfl) (by intro w hS; have C1 := hS.stake; clear hS; go_simp; with_reducible rfl) HS.out ?_
                    simp only [Nat.reduceAdd, Nat.zero_add, Act.put, List.setIfInBounds_toArray, List.set_cons_succ, List.set_cons_zero]
                    refine WT.take 9 (v := _) (by simp only [List.getElem?_toArray, List.getElem?_cons_succ, List.getElem?_cons_zero]; rfl) (by kernel_rfl) (by exact fun _ _ _ h => h) (by rfl) (by intro w hS; have C1 := hS.stake; clear hS; go_simp; with_reducible rfl) HS.out ?_
                    simp only [Nat.reduceAdd, Nat.zero_add, Act.put, List.setIfInBounds_toArray, List.set_cons_succ, List.set_cons_zero]
                    refine WT.take 10 (v := kv HK c.key) (by simp only [List.getElem?_toArray, List.getElem?_cons_succ, List.getElem?_cons_zero]; rfl) (by kernel_rfl) (by exact fun _ _ _ h => h) (by rfl) (by intro w hS; exact rn_loadH aggH (by rfl) hS.key lk1) HS.out ?_
                    simp only [Nat.reduceAdd, Nat.zero_add, Act.put, List.setIfInBounds_toArray, List.set_cons_succ, List.set_cons_zero]
                    refine WT.take 11 (v := _) (by simp only [List.getElem?_toArray, List.getElem?_cons_succ, List.getElem?_cons_zero]; rfl) (by kernel_rfl) (by exact fun _ _ _ h => h) (by rfl) (by intro w hS; have C1 := hS.stake; clear hS; go_simp; with_reducible rfl) HS.out ?_
                    simp only [Nat.reduceAdd, Nat.zero_add, Act.put, List.setIfInBounds_toArray, List.set_cons_succ, List.set_cons_zero]
                    refine WT.take 12 (v := _) (by simp only [List.getElem?_toArray, List.getElem?_cons_succ, List.getElem?_cons_zero]; rfl) (by kernel_rfl) (by exact fun _ _ _ h => h) (by rfl) (by intro w hS; have C1 := hS.stake; clear hS; go_simp; with_reducible rfl) HS.out ?_
                    simp only [Nat.reduceAdd, Nat.zero_add, Act.put, List.setIfInBounds_toArray, List.set_cons_succ, List.set_cons_zero]
                    refine WT.take 13 (v := _) (by simp only [List.getElem?_toArray, List.getElem?_cons_succ, List.getElem?_cons_zero]; rfl) (by kernel_rfl) (by exact fun _ _ _ h => h) (by rfl) (by intro w hS; have C1 := hS.stake; clear hS; go_simp; with_reducible rfl) HS.out ?_
                    simp only [Nat.reduceAdd, Nat.zero_add, Act.put, List.setIfInBounds_toArray, List.set_cons_succ, List.set_cons_zero]
                    refine WT.take 14 (v := _) (by simp only [List.getElem?_toArray, List.getElem?_cons_succ, List.getElem?_cons_zero]; rfl) (by kernel_rfl) (by exact fun _ _ _ h => h) (by rfl) (by intro w hS; have C1 := hS.stake; clear hS; go_simp; with_reducible rfl) HS.out ?_
                    simp only [Nat.reduceAdd, Nat.zero_add, Act.put, List.setIfInBounds_toArray, List.set_cons_succ, List.set_cons_zero]
                    refine WT.take 15 (v := _) (by simp only [List.getElem?_toArray, List.getElem?_cons_succ, List.getElem?_cons_zero]; rfl) (by kernel_rfl) (by exact fun _ _ _ h => h) (by rfl) (by intro w hS; have C1 := hS.stake; clear hS; go_simp; with_reducible rfl) HS.out ?_
                    simp only [Nat.reduceAdd, Nat.zero_add, Act.put, List.setIfInBounds_toArray, List.set_cons_succ, List.set_cons_zero]
                    refine WT.call (R := fun e w' => e = .returned (.tuple #[.int .u64 (told (all [] (m ++ (cs.drop (k + 1)).reverse)) c : Nat), .int .i64 (chk (all [] (m ++ (cs.drop (k + 1)).reverse)) c : Nat)]) ∧ Two w w' pb (addTo (all [] (m ++ (cs.drop (k + 1)).reverse)) c) pa A) 16 (by simp only [List.getElem?_toArray, List.getElem?_cons_succ, List.getElem?_cons_zero]; rfl) (by kernel_rfl) (by rfl) (by go_simp) (T4d.swap.add OK1.out HS.out.sig hml) ?_
                    rintro _ w5 ⟨rfl, T5⟩
                    have hS5 : VoteAt w5 (Was w) b (off + k * 101) c s1 := VV.out _ T5.k
                    refine ⟨_, rfl, hS5, ?_⟩
                    have HT5 := Lib.hid T5.swap
                    clear hS hS5 T4d T5 HS
                    simp only [Nat.reduceAdd, Nat.zero_add, Act.put, List.setIfInBounds_toArray, List.set_cons_succ, List.set_cons_zero]
                    refine WT.stop (by kernel_rfl) (WP.done (by kernel_rfl) ?_)
                    go_wp2
                    go_roundw
                    case rel => exact ⟨k, by omega, rfl, by rw [HDR.out, all_snoc]; exact HT5.out⟩
                    case measure => simp [intOf] <;> omega
              · have tn : ¬ (0 < cs.length) := by omega
                have HZ := Lib.hid hgo'; clear hgo'
                by_cases hkz : k < zs.length
                · have ti : ¬ ((0 : Int) < (cs.length : Int)) := by omega
                  go_wp2_with fail
                  clear tn ti
                  go_loopw [15] (fun i wr => ∃ k : Nat, k ≤ cs.length ∧ i = .int .i64 ((k : Int) - 1) ∧ Two w wr pa A pb (all [] (m ++ (cs.drop k).reverse))) (fun i _ => (intOf i + 1).toNat)
                  case atStart => exact ⟨cs.length, Nat.le_refl _, rfl, by rw [List.drop_length]; simpa using HT.out⟩
                  case round =>
                    clear HT
                    obtain ⟨k, hk, rfl, hT⟩ := hrel
                    rcases k with _ | k
                    · rw [show (((0 : Nat) : Int) - 1) = (-1 : Int) from rfl]
                      have HT := Lib.hid hT
                      rw [List.drop_zero] at HT
                      clear hT
                      generalize hB0 : all [] (m ++ cs.reverse) = B at *
                      have hsame := same_all (l := cs) (m := cs) (n := m ++ cs.reverse) ONE.out (fun _ => Iff.rfl) (fun c => by simp; exact fun h => hmem.out c h)
                      rw [HA0.out, hB0] at hsame
                      obtain ⟨hwv, hlen, hlks⟩ := hsame
                      have HWV := Lib.hid hwv; have HLEN := Lib.hid hlen; have HLKS := Lib.hid hlks
                      have hBl : B.length ≤ 1000 := by obtain ⟨_, _, h⟩ := HT.out.b; exact h.len
                      clear hB0 hwv hlen hlks
                      go_wp2_with fail
                      go_loopw [16] (fun i wr => ∃ k : Nat, k ≤ cs.length ∧ i = .int .i64 k ∧ Two w wr pa A pb B) (fun i _ => cs.length - (intOf i).toNat)
                      case atStart => exact ⟨0, Nat.zero_le _, rfl, HT.out⟩
                      case round =>
                        clear HT
                        obtain ⟨k, hk, rfl, hT⟩ := hrel
                        by_cases hlt : k < cs.length
                        · have i1 : (k : Int) < (cs.length : Int) := by omega
                          have hne : cs ≠ [] := by rintro rfl; simp at hlt
                          have ha := HA.out hne
                          subst ha
                          obtain ⟨s1, hv1⟩ := HV.out k cs[k] (List.getElem?_eq_getElem hlt)
                          have ok1 := HOK.out cs[k] (List.getElem_mem hlt)
                          generalize cs[k] = c at *
                          have lv1 := vc_len ok1 s1
                          have lL : (valsK LK c.link).length = 66 := by rw [valsK_length ok1.link.length]; rfl
                          have oneL := Lib.hid (valsK_one LK c.link)
                          have VV := Lib.hid (fun (u : World) (h : Keeps Nb w u) => hv1.nb h)
                          have HT := Lib.hid hT; have OK1 := Lib.hid ok1
                          obtain ⟨z, hz0, hz1⟩ := zero40s
                          clear hv1 hT ok1
                          go_wp2_with (first | go_skip | (with_reducible refine stop_load (t := 27) ?_) | (with_reducible refine stop_load (t := 28) ?_) | (with_reducible refine stop_load (t := 30) ?_) | (with_reducible refine stop_load (t := 33) ?_) | (with_reducible refine stop_load (t := 35) ?_) | (with_reducible refine stop_load (t := 40) ?_) | (with_reducible refine stop_load (t := 76) ?_) | (with_reducible refine stop_load (t := 77) ?_) | (with_reducible refine stop_box (t := 27) ?_) | (with_reducible refine stop_box (t := 28) ?_) | (with_reducible refine stop_box (t := 30) ?_) | (with_reducible refine stop_box (t := 33) ?_) | (with_reducible refine stop_box (t := 35) ?_) | (with_reducible refine stop_box (t := 40) ?_) | (with_reducible refine stop_box (t := 76) ?_) | (with_reducible refine stop_box (t := 77) ?_) | (with_reducible refine stop_alloc (t := 27) ?_) | (with_reducible refine stop_alloc (t := 28) ?_) | (with_reducible refine stop_alloc (t := 30) ?_) | (with_reducible refine stop_alloc (t := 33) ?_) | (with_reducible refine stop_alloc (t := 35) ?_) | (with_reducible refine stop_alloc (t := 40) ?_) | (with_reducible refine stop_alloc (t := 76) ?_) | (with_reducible refine stop_alloc (t := 77) ?_) | (with_reducible refine stop_alloc (t := 52) ?_) | (with_reducible refine stop_alloc (t := 68) ?_) | (with_reducible refine stop_alloc (t := 72) ?_) | (with_reducible refine stop_build (t := 27) ?_) | (with_reducible refine stop_build (t := 28) ?_) | (with_reducible refine stop_build (t := 30) ?_) | (with_reducible refine stop_build (t := 33) ?_) | (with_reducible refine stop_build (t := 35) ?_) | (with_reducible refine stop_build (t := 40) ?_) | (with_reducible refine stop_build (t := 76) ?_) | (with_reducible refine stop_build (t := 77) ?_) | (with_reducible refine stop_build (t := 52) ?_) | (with_reducible refine stop_build (t := 68) ?_) | (with_reducible refine stop_store (t := 27) ?_) | (with_reducible refine stop_store (t := 28) ?_) | (with_reducible refine stop_store (t := 30) ?_) | (with_reducible refine stop_store (t := 33) ?_) | (with_reducible refine stop_store (t := 35) ?_) | (with_reducible refine stop_store (t := 40) ?_) | (with_reducible refine stop_store (t := 76) ?_) | (with_reducible refine stop_store (t := 77) ?_) | (with_reducible refine stop_store (t := 22) ?_) | (with_reducible refine stop_store (t := 31) ?_) | (with_reducible refine stop_store (t := 47) ?_) | (with_reducible refine stop_store (t := 52) ?_) | (with_reducible refine stop_store (t := 68) ?_) | (with_reducible refine stop_store (t := 72) ?_) | (with_reducible refine stop_lookup ?_) | (with_reducible refine stop_buildSlice ?_) | (with_reducible refine stop_app ?_) | (with_reducible refine stop_mapEntry ?_) | (with_reducible refine stop_eql (t := 28) ?_) | (with_reducible refine stop_eql (t := 40) ?_) | (with_reducible refine stop_neq (t := 28) ?_) | (with_reducible refine stop_neq (t := 40) ?_))
                          refine at_out (wpList_val (v := .agg (vc c s1).toArray) rfl (rn_loadH aggV (by rfl) (VV.out _ HT.out.k).vote lv1) ?_)
                          simp only [Nat.reduceAdd, Nat.zero_add, Act.put, List.setIfInBounds_toArray, List.set_cons_succ, List.set_cons_zero]
                          go_wp2_with fail
                          refine (linkOf_at c s1 _ OK1.out).mono ?_; rintro e w3 ⟨rfl, q3⟩
                          go_wp2_with (first | go_skip | (with_reducible refine stop_load (t := 27) ?_) | (with_reducible refine stop_load (t := 28) ?_) | (with_reducible refine stop_load (t := 30) ?_) | (with_reducible refine stop_load (t := 33) ?_) | (with_reducible refine stop_load (t := 35) ?_) | (with_reducible refine stop_load (t := 40) ?_) | (with_reducible refine stop_load (t := 76) ?_) | (with_reducible refine stop_load (t := 77) ?_) | (with_reducible refine stop_box (t := 27) ?_) | (with_reducible refine stop_box (t := 28) ?_) | (with_reducible refine stop_box (t := 30) ?_) | (with_reducible refine stop_box (t := 33) ?_) | (with_reducible refine stop_box (t := 35) ?_) | (with_reducible refine stop_box (t := 40) ?_) | (with_reducible refine stop_box (t := 76) ?_) | (with_reducible refine stop_box (t := 77) ?_) | (with_reducible refine stop_alloc (t := 27) ?_) | (with_reducible refine stop_alloc (t := 28) ?_) | (with_reducible refine stop_alloc (t := 30) ?_) | (with_reducible refine stop_alloc (t := 33) ?_) | (with_reducible refine stop_alloc (t := 35) ?_) | (with_reducible refine stop_alloc (t := 40) ?_) | (with_reducible refine stop_alloc (t := 76) ?_) | (with_reducible refine stop_alloc (t := 77) ?_) | (with_reducible refine stop_alloc (t := 52) ?_) | (with_reducible refine stop_alloc (t := 68) ?_) | (with_reducible refine stop_alloc (t := 72) ?_) | (with_reducible refine stop_build (t := 27) ?_) | (with_reducible refine stop_build (t := 28) ?_) | (with_reducible refine stop_build (t := 30) ?_) | (with_reducible refine stop_build (t := 33) ?_) | (with_reducible refine stop_build (t := 35) ?_) | (with_reducible refine stop_build (t := 40) ?_) | (with_reducible refine stop_build (t := 76) ?_) | (with_reducible refine stop_build (t := 77) ?_) | (with_reducible refine stop_build (t := 52) ?_) | (with_reducible refine stop_build (t := 68) ?_) | (with_reducible refine stop_store (t := 27) ?_) | (with_reducible refine stop_store (t := 28) ?_) | (with_reducible refine stop_store (t := 30) ?_) | (with_reducible refine stop_store (t := 33) ?_) | (with_reducible refine stop_store (t := 35) ?_) | (with_reducible refine stop_store (t := 40) ?_) | (with_reducible refine stop_store (t := 76) ?_) | (with_reducible refine stop_store (t := 77) ?_) | (with_reducible refine stop_store (t := 22) ?_) | (with_reducible refine stop_store (t := 31) ?_) | (with_reducible refine stop_store (t := 47) ?_) | (with_reducible refine stop_store (t := 52) ?_) | (with_reducible refine stop_store (t := 68) ?_) | (with_reducible refine stop_store (t := 72) ?_) | (with_reducible refine stop_lookup ?_) | (with_reducible refine stop_buildSlice ?_) | (with_reducible refine stop_app ?_) | (with_reducible refine stop_mapEntry ?_) | (with_reducible refine stop_eql (t := 28) ?_) | (with_reducible refine stop_eql (t := 40) ?_) | (with_reducible refine stop_neq (t := 28) ?_) | (with_reducible refine stop_neq (t := 40) ?_))
                          refine at_out (valloc hz0 ?_); intro g w4 n4
                          simp only [Nat.reduceAdd, Nat.zero_add, Act.put, List.setIfInBounds_toArray, List.set_cons_succ, List.set_cons_zero]
                          go_wp2_with (first | go_skip | (with_reducible refine stop_load (t := 27) ?_) | (with_reducible refine stop_load (t := 28) ?_) | (with_reducible refine stop_load (t := 30) ?_) | (with_reducible refine stop_load (t := 33) ?_) | (with_reducible refine stop_load (t := 35) ?_) | (with_reducible refine stop_load (t := 40) ?_) | (with_reducible refine stop_load (t := 76) ?_) | (with_reducible refine stop_load (t := 77) ?_) | (with_reducible refine stop_box (t := 27) ?_) | (with_reducible refine stop_box (t := 28) ?_) | (with_reducible refine stop_box (t := 30) ?_) | (with_reducible refine stop_box (t := 33) ?_) | (with_reducible refine stop_box (t := 35) ?_) | (with_reducible refine stop_box (t := 40) ?_) | (with_reducible refine stop_box (t := 76) ?_) | (with_reducible refine stop_box (t := 77) ?_) | (with_reducible refine stop_alloc (t := 27) ?_) | (with_reducible refine stop_alloc (t := 28) ?_) | (with_reducible refine stop_alloc (t := 30) ?_) | (with_reducible refine stop_alloc (t := 33) ?_) | (with_reducible refine stop_alloc (t := 35) ?_) | (with_reducible refine stop_alloc (t := 40) ?_) | (with_reducible refine stop_alloc (t := 76) ?_) | (with_reducible refine stop_alloc (t := 77) ?_) | (with_reducible refine stop_alloc (t := 52) ?_) | (with_reducible refine stop_alloc (t := 68) ?_) | (with_reducible refine stop_alloc (t := 72) ?_) | (with_reducible refine stop_build (t := 27) ?_) | (with_reducible refine stop_build (t := 28) ?_) | (with_reducible refine stop_build (t := 30) ?_) | (with_reducible refine stop_build (t := 33) ?_) | (with_reducible refine stop_build (t := 35) ?_) | (with_reducible refine stop_build (t := 40) ?_) | (with_reducible refine stop_build (t := 76) ?_) | (with_reducible refine stop_build (t := 77) ?_) | (with_reducible refine stop_build (t := 52) ?_) | (with_reducible refine stop_build (t := 68) ?_) | (with_reducible refine stop_store (t := 27) ?_) | (with_reducible refine stop_store (t := 28) ?_) | (with_reducible refine stop_store (t := 30) ?_) | (with_reducible refine stop_store (t := 33) ?_) | (with_reducible refine stop_store (t := 35) ?_) | (with_reducible refine stop_store (t := 40) ?_) | (with_reducible refine stop_store (t := 76) ?_) | (with_reducible refine stop_store (t := 77) ?_) | (with_reducible refine stop_store (t := 22) ?_) | (with_reducible refine stop_store (t := 31) ?_) | (with_reducible refine stop_store (t := 47) ?_) | (with_reducible refine stop_store (t := 52) ?_) | (with_reducible refine stop_store (t := 68) ?_) | (with_reducible refine stop_store (t := 72) ?_) | (with_reducible refine stop_lookup ?_) | (with_reducible refine stop_buildSlice ?_) | (with_reducible refine stop_app ?_) | (with_reducible refine stop_mapEntry ?_) | (with_reducible refine stop_eql (t := 28) ?_) | (with_reducible refine stop_eql (t := 40) ?_) | (with_reducible refine stop_neq (t := 28) ?_) | (with_reducible refine stop_neq (t := 40) ?_))
                          refine at_out (wpList_skipE rfl (re_store (v := kv LK c.link) (n := 66) aggL.size (by rfl) (by rfl) n4.blk (by simpa [kv, Value.cells] using lL) (by simp [hz1]) (by simpa [kv, Value.cells] using oneL.out)) ?_)
                          intro w5 s5
                          simp only [Nat.reduceAdd, Nat.zero_add, Act.put, List.setIfInBounds_toArray, List.set_cons_succ, List.set_cons_zero]
                          rw [splice_all (by rw [hz1]; simpa [kv, Value.cells] using lL)] at s5
                          have q5 : Keeps Nb wr w5 := (q3.trans_nb n4.k).own (k := g) (Nat.le_trans q3.size n4.ge) s5.k
                          have T5 := HT.out.nb q5
                          have HG : Hid (∀ u : Sub w5, Has u.wd (some ⟨g, 0, none⟩) (valsK LK c.link)) := fun u => by
                            have := has_block (u.k.nb s5.blk)
                            rwa [show (kv LK c.link).cells.toList = valsK LK c.link by simp [kv, Value.cells]] at this
                          obtain ⟨FA, RA, hpA⟩ := T5.a
                          obtain ⟨FB, RB, hpB⟩ := T5.b
                          have CA := Lib.hid (fun (u : Sub w5) => weight_at pa FA RA A c.link u.wd (hpA.nb u.k) OK1.out.link)
                          have CB := Lib.hid (fun (u : Sub w5) => weight_at pb FB RB B c.link u.wd (hpB.nb u.k) OK1.out.link)
                          have DA := Lib.hid (fun (u : Sub w5) => voters_at pa FA RA A c.link u.wd (hpA.nb u.k) OK1.out.link)
                          have DB := Lib.hid (fun (u : Sub w5) => voters_at pb FB RB B c.link u.wd (hpB.nb u.k) OK1.out.link)
                          have hwv := HWV.out c.link
                          rw [← hwv.1] at CB
                          rw [← hwv.2] at DB
                          have t8 : (((wt A c.link : Nat) : Int) != ((wt A c.link : Nat) : Int)) = false := by simp
                          have t9 : (((vs A c.link : Nat) : Int) != ((vs A c.link : Nat) : Int)) = false := by simp
                          have HT5 := Lib.hid T5
                          clear hwv HT q3 n4 s5 q5 T5 hpA hpB
                          go_wp2_with fail
                          refine region_sub (by kernel_rfl) (by kernel_rfl) ?_
                          repeat (first | go_big_quiet_skip | (with_reducible refine stopq (op := .load 27 _) ?_) | (with_reducible refine stopq (op := .load 28 _) ?_) | (with_reducible refine stopq (op := .load 30 _) ?_) | (with_reducible refine stopq (op := .load 33 _) ?_) | (with_reducible refine stopq (op := .load 35 _) ?_) | (with_reducible refine stopq (op := .load 40 _) ?_) | (with_reducible refine stopq (op := .load 76 _) ?_) | (with_reducible refine stopq (op := .load 77 _) ?_) | (with_reducible refine stopq (op := .build 27 _) ?_) | (with_reducible refine stopq (op := .build 28 _) ?_) | (with_reducible refine stopq (op := .build 30 _) ?_) | (with_reducible refine stopq (op := .build 33 _) ?_) | (with_reducible refine stopq (op := .build 35 _) ?_) | (with_reducible refine stopq (op := .build 40 _) ?_) | (with_reducible refine stopq (op := .build 76 _) ?_) | (with_reducible refine stopq (op := .build 77 _) ?_) | (with_reducible refine stopq (op := .lookup _ _ _ _) ?_) | (with_reducible refine stopq (op := .binOp .eql 28 _ _ _) ?_) | (with_reducible refine stopq (op := .binOp .eql 40 _ _ _) ?_) | (with_reducible refine stopq (op := .binOp .neq 28 _ _ _) ?_) | (with_reducible refine stopq (op := .binOp .neq 40 _ _ _) ?_) | go_big_quiet_step (fail))
                          refine at_out (wpq_val (v := kv LK c.link) rfl (by rintro _ ⟨u, rfl⟩; exact rn_loadH aggL (by rfl) (HG.out u) lL) ?_)
                          simp only [Nat.reduceAdd, Nat.zero_add, Act.put, List.setIfInBounds_toArray, List.set_cons_succ, List.set_cons_zero]
                          go_big_quiet_step ((go_at_call 11; with_reducible exact quiet_sub (CA.out _)))
                          repeat (first | go_big_quiet_skip | (with_reducible refine stopq (op := .load 27 _) ?_) | (with_reducible refine stopq (op := .load 28 _) ?_) | (with_reducible refine stopq (op := .load 30 _) ?_) | (with_reducible refine stopq (op := .load 33 _) ?_) | (with_reducible refine stopq (op := .load 35 _) ?_) | (with_reducible refine stopq (op := .load 40 _) ?_) | (with_reducible refine stopq (op := .load 76 _) ?_) | (with_reducible refine stopq (op := .load 77 _) ?_) | (with_reducible refine stopq (op := .build 27 _) ?_) | (with_reducible refine stopq (op := .build 28 _) ?_) | (with_reducible refine stopq (op := .build 30 _) ?_) | (with_reducible refine stopq (op := .build 33 _) ?_) | (with_reducible refine stopq (op := .build 35 _) ?_) | (with_reducible refine stopq (op := .build 40 _) ?_) | (with_reducible refine stopq (op := .build 76 _) ?_) | (with_reducible refine stopq (op := .build 77 _) ?_) | (with_reducible refine stopq (op := .lookup _ _ _ _) ?_) | (with_reducible refine stopq (op := .binOp .eql 28 _ _ _) ?_) | (with_reducible refine stopq (op := .binOp .eql 40 _ _ _) ?_) | (with_reducible refine stopq (op := .binOp .neq 28 _ _ _) ?_) | (with_reducible refine stopq (op := .binOp .neq 40 _ _ _) ?_) | go_big_quiet_step (fail))
                          refine at_out (wpq_val (v := kv LK c.link) rfl (by rintro _ ⟨u, rfl⟩; exact rn_loadH aggL (by rfl) (HG.out u) lL) ?_)
                          simp only [Nat.reduceAdd, Nat.zero_add, Act.put, List.setIfInBounds_toArray, List.set_cons_succ, List.set_cons_zero]
                          go_big_quiet_step ((go_at_call 11; with_reducible exact quiet_sub (CB.out _)))
                          repeat (first | go_big_quiet_skip | (with_reducible refine stopq (op := .load 27 _) ?_) | (with_reducible refine stopq (op := .load 28 _) ?_) | (with_reducible refine stopq (op := .load 30 _) ?_) | (with_reducible refine stopq (op := .load 33 _) ?_) | (with_reducible refine stopq (op := .load 35 _) ?_) | (with_reducible refine stopq (op := .load 40 _) ?_) | (with_reducible refine stopq (op := .load 76 _) ?_) | (with_reducible refine stopq (op := .load 77 _) ?_) | (with_reducible refine stopq (op := .build 27 _) ?_) | (with_reducible refine stopq (op := .build 28 _) ?_) | (with_reducible refine stopq (op := .build 30 _) ?_) | (with_reducible refine stopq (op := .build 33 _) ?_) | (with_reducible refine stopq (op := .build 35 _) ?_) | (with_reducible refine stopq (op := .build 40 _) ?_) | (with_reducible refine stopq (op := .build 76 _) ?_) | (with_reducible refine stopq (op := .build 77 _) ?_) | (with_reducible refine stopq (op := .lookup _ _ _ _) ?_) | (with_reducible refine stopq (op := .binOp .eql 28 _ _ _) ?_) | (with_reducible refine stopq (op := .binOp .eql 40 _ _ _) ?_) | (with_reducible refine stopq (op := .binOp .neq 28 _ _ _) ?_) | (with_reducible refine stopq (op := .binOp .neq 40 _ _ _) ?_) | go_big_quiet_step (fail))
                          refine at_out (wpq_val (v := kv LK c.link) rfl (by rintro _ ⟨u, rfl⟩; exact rn_loadH aggL (by rfl) (HG.out u) lL) ?_)
                          simp only [Nat.reduceAdd, Nat.zero_add, Act.put, List.setIfInBounds_toArray, List.set_cons_succ, List.set_cons_zero]
                          go_big_quiet_step ((go_at_call 14; with_reducible exact quiet_sub (DA.out _)))
                          repeat (first | go_big_quiet_skip | (with_reducible refine stopq (op := .load 27 _) ?_) | (with_reducible refine stopq (op := .load 28 _) ?_) | (with_reducible refine stopq (op := .load 30 _) ?_) | (with_reducible refine stopq (op := .load 33 _) ?_) | (with_reducible refine stopq (op := .load 35 _) ?_) | (with_reducible refine stopq (op := .load 40 _) ?_) | (with_reducible refine stopq (op := .load 76 _) ?_) | (with_reducible refine stopq (op := .load 77 _) ?_) | (with_reducible refine stopq (op := .build 27 _) ?_) | (with_reducible refine stopq (op := .build 28 _) ?_) | (with_reducible refine stopq (op := .build 30 _) ?_) | (with_reducible refine stopq (op := .build 33 _) ?_) | (with_reducible refine stopq (op := .build 35 _) ?_) | (with_reducible refine stopq (op := .build 40 _) ?_) | (with_reducible refine stopq (op := .build 76 _) ?_) | (with_reducible refine stopq (op := .build 77 _) ?_) | (with_reducible refine stopq (op := .lookup _ _ _ _) ?_) | (with_reducible refine stopq (op := .binOp .eql 28 _ _ _) ?_) | (with_reducible refine stopq (op := .binOp .eql 40 _ _ _) ?_) | (with_reducible refine stopq (op := .binOp .neq 28 _ _ _) ?_) | (with_reducible refine stopq (op := .binOp .neq 40 _ _ _) ?_) | go_big_quiet_step (fail))
                          refine at_out (wpq_val (v := kv LK c.link) rfl (by rintro _ ⟨u, rfl⟩; exact rn_loadH aggL (by rfl) (HG.out u) lL) ?_)
                          simp only [Nat.reduceAdd, Nat.zero_add, Act.put, List.setIfInBounds_toArray, List.set_cons_succ, List.set_cons_zero]
                          go_big_quiet_step ((go_at_call 14; with_reducible exact quiet_sub (DB.out _)))
                          repeat (first | go_big_quiet_skip | (with_reducible refine stopq (op := .load 27 _) ?_) | (with_reducible refine stopq (op := .load 28 _) ?_) | (with_reducible refine stopq (op := .load 30 _) ?_) | (with_reducible refine stopq (op := .load 33 _) ?_) | (with_reducible refine stopq (op := .load 35 _) ?_) | (with_reducible refine stopq (op := .load 40 _) ?_) | (with_reducible refine stopq (op := .load 76 _) ?_) | (with_reducible refine stopq (op := .load 77 _) ?_) | (with_reducible refine stopq (op := .build 27 _) ?_) | (with_reducible refine stopq (op := .build 28 _) ?_) | (with_reducible refine stopq (op := .build 30 _) ?_) | (with_reducible refine stopq (op := .build 33 _) ?_) | (with_reducible refine stopq (op := .build 35 _) ?_) | (with_reducible refine stopq (op := .build 40 _) ?_) | (with_reducible refine stopq (op := .build 76 _) ?_) | (with_reducible refine stopq (op := .build 77 _) ?_) | (with_reducible refine stopq (op := .lookup _ _ _ _) ?_) | (with_reducible refine stopq (op := .binOp .eql 28 _ _ _) ?_) | (with_reducible refine stopq (op := .binOp .eql 40 _ _ _) ?_) | (with_reducible refine stopq (op := .binOp .neq 28 _ _ _) ?_) | (with_reducible refine stopq (op := .binOp .neq 40 _ _ _) ?_) | go_big_quiet_step (fail))
                          refine wpQuiet_nil ?_
                          rintro w6 ⟨u6, hu6⟩
                          have K6 : Keeps Nb w5 w6 := hu6 ▸ u6.k
                          clear hu6 u6 CA CB DA DB HG
                          have HT6 := Lib.hid (HT5.out.nb K6)
                          clear HT5 K6
                          go_wp2
                          go_roundw
                          case rel => exact ⟨k + 1, by omega, by go_num, HT6.out⟩
                          case measure => simp [intOf]; omega
                        · have hkl : k = cs.length := by omega
                          have HT := Lib.hid hT
                          clear hT hk
                          obtain ⟨FA, RA, hpA⟩ := HT.out.a
                          obtain ⟨FB, RB, hpB⟩ := HT.out.b
                          have t10 : ((A.length : Int) == (B.length : Int)) = true := by rw [HLEN.out]; simp
                          have t11 : (((lks A).length : Int) == ((lks B).length : Int)) = true := by rw [HLKS.out]; simp
                          have CA := Lib.hid (len_at pa FA RA A _ hpA)
                          have CB := Lib.hid (len_at pb FB RB B _ hpB)
                          clear hpA hpB
                          subst hkl
                          go_wp2_with fail
                          refine CA.out.mono ?_; rintro e w1 ⟨rfl, rfl⟩
                          go_wp2_with fail
                          refine CB.out.mono ?_; rintro e w1 ⟨rfl, rfl⟩
                          obtain ⟨FA, RA, hpA⟩ := HT.out.a
                          have LA := Lib.hid (links_at pa FA RA A _ hpA)
                          clear hpA CA CB
                          go_wp2_with fail
                          refine LA.out.mono ?_; rintro e w3 ⟨v3, rfl, o3, q3⟩
                          obtain ⟨a3, c3, rfl, -⟩ := owns_has o3
                          have HT3 := Lib.hid (HT.out.nb q3)
                          obtain ⟨FB, RB, hpB⟩ := HT3.out.b
                          have LB := Lib.hid (links_at pb FB RB B _ hpB)
                          clear hpB LA o3 q3 HT
                          go_wp2_with fail
                          refine LB.out.mono ?_; rintro e w4 ⟨v4, rfl, o4, q4⟩
                          obtain ⟨a4, c4, rfl, -⟩ := owns_has o4
                          have HT4 := Lib.hid (HT3.out.nb q4)
                          clear LB o4 q4 HT3
                          go_wp2_with fail
                          refine (KN.out _).mono ?_; rintro e w9 ⟨rfl, k9⟩
                          go_wp2; go_ret; exact ⟨rfl, ((HT4.out.k).trans_nb k9).below⟩
                    · rw [show (((k + 1 : Nat) : Int) - 1) = (k : Int) by omega]
                      have hlt : k < cs.length := by omega
                      have i1 : (k : Int) < (cs.length : Int) := by omega
                      have hne : cs ≠ [] := by rintro rfl; simp at hlt
                      have ha := HA.out hne
                      subst ha
                      obtain ⟨s1, hv1⟩ := HV.out k cs[k] (List.getElem?_eq_getElem hlt)
                      have ok1 := HOK.out cs[k] (List.getElem_mem hlt)
                      have hdr : m ++ (cs.drop k).reverse = (m ++ (cs.drop (k + 1)).reverse) ++ [cs[k]] := by rw [List.drop_eq_getElem_cons hlt]; simp
                      have HDR := Lib.hid hdr; clear hdr
                      generalize cs[k] = c at *
                      have hst1 := ok1.stake
                      have lk1 : (valsK HK c.key).length = 32 := by rw [valsK_length ok1.key.length]; rfl
                      have lv1 := vc_len ok1 s1
                      have VV := Lib.hid (fun (u : World) (h : Keeps Nb w u) => hv1.nb h)
                      have hml : (all [] (m ++ (cs.drop (k + 1)).reverse)).length < 1000 := by have := all_len (m ++ (cs.drop (k + 1)).reverse) []; simp at *; omega
                      have HT := Lib.hid hT; have OK1 := Lib.hid ok1
                      clear hv1 hT ok1
                      go_wp2_with fail
                      have hS : VoteAt wr (Was w) b (off + k * 101) c s1 := VV.out _ HT.out.k
                      have HS : Hid (VoteAt wr.drew (Was w) b (off + k * 101) c s1) := hS.nb ((Keeps.refl Nb _).drew)
                      have T4d := HT.out.nb ((Keeps.refl Nb _).drew)
                      refine WT.region (fun u => VoteAt u (Was w) b (off + k * 101) c s1) 17 17 [0, 1, 2, 3, 4, 5, 6, 7, 8, 9, 10, 11, 12, 13, 14, 15, 16] (by kernel_rfl) rfl ?_
                      refine WT.take 0 (v := _) (by simp only [List.getElem?_toArray, List.getElem?_cons_succ, List.getElem?_cons_zero]; rfl) (by kernel_rfl) (by exact fun _ _ _ h => h) (by rfl) (by intro w hS; have C1 := hS.stake; clear hS; go_simp; with_reducible rfl) HS.out ?_
                      simp only [Nat.reduceAdd, Nat.zero_add, Act.put, List.setIfInBounds_toArray, List.set_cons_succ, List.set_cons_zero]
                      refine WT.take 1 (v := _) (by simp only [List.getElem?_toArray, List.getElem?_cons_succ, List.getElem?_cons_zero]; rfl) (by kernel_rfl) (by exact fun _ _ _ h => h) (by rfl) (by intro w hS; have C1 := hS.stake; clear hS; go_simp; with_reducible rfl) HS.out ?_
                      simp only [Nat.reduceAdd, Nat.zero_add, Act.put, List.setIfInBounds_toArray, List.set_cons_succ, List.set_cons_zero]
                      refine WT.take 2 (v := _) (by simp only [List.getElem?_toArray, List.getElem?_cons_succ, List.getElem?_cons_zero]; rfl) (by kernel_rfl) (by exact fun _ _ _ h => h) (by rfl) (by intro w hS; have C1 := hS.stake; clear hS; go_simp; with_reducible rfl) HS.out ?_
                      simp only [Nat.reduceAdd, Nat.zero_add, Act.put, List.setIfInBounds_toArray, List.set_cons_succ, List.set_cons_zero]
                      refine WT.take 3 (v := _) (by simp only [List.getElem?_toArray, List.getElem?_cons_succ, List.getElem?_cons_zero]; rfl) (by kernel_rfl) (by exact fun _ _ _ h => h) (by rfl) (by intro w hS; have C1 := hS.stake; clear hS; go_simp; with_reducible rfl) HS.out ?_
                      simp only [Nat.reduceAdd, Nat.zero_add, Act.put, List.setIfInBounds_toArray, List.set_cons_succ, List.set_cons_zero]
                      refine WT.take 4 (v := _) (by simp only [List.getElem?_toArray, List.getElem?_cons_succ, List.getElem?_cons_zero]; rfl) (by kernel_rfl) (by exact fun _ _ _ h => h) (by rfl) (by intro w hS; have C1 := hS.stake; clear hS; go_simp; with_reducible rfl) HS.out ?_
                      simp only [Nat.reduceAdd, Nat.zero_add, Act.put, List.setIfInBounds_toArray, List.set_cons_succ, List.set_cons_zero]
                      refine WT.take 5 (v := .agg (vc c s1).toArray) (by simp only [List.getElem?_toArray, List.getElem?_cons_succ, List.getElem?_cons_zero]; rfl) (by kernel_rfl) (by exact fun _ _ _ h => h) (by rfl) (by intro w hS; exact rn_loadH aggV (by rfl) hS.vote lv1) HS.out ?_
                      simp only [Nat.reduceAdd, Nat.zero_add, Act.put, List.setIfInBounds_toArray, List.set_cons_succ, List.set_cons_zero]
                      refine WT.take 6 (v := _) (by simp only [List.getElem?_toArray, List.getElem?_cons_succ, List.getElem?_cons_zero]; rfl) (by kernel_rfl) (by exact fun _ _ _ h => h) (by rfl) (by intro w hS; have C1 := hS.stake; clear hS; go_simp; with_reducible rfl) HS.out ?_
                      simp only [Nat.reduceAdd, Nat.zero_add, Act.put, List.setIfInBounds_toArray, List.set_cons_succ, List.set_cons_zero]
                      refine WT.take 7 (v := _) (by simp only [List.getElem?_toArray, List.getElem?_cons_succ, List.getElem?_cons_zero]; rfl) (by kernel_rfl) (by exact fun _ _ _ h => h) (by rfl) (by intro w hS; have C1 := hS.stake; clear hS; go_simp; with_reducible rfl) HS.out ?_
                      simp only [Nat.reduceAdd, Nat.zero_add, Act.put, List.setIfInBounds_toArray, List.set_cons_succ, List.set_cons_zero]
                      refine WT.take 8 (v := _) (by simp only [List.getElem?_toArray, List.getElem?_cons_succ, List.getElem?_cons_zero]; rfl) (by kernel_rfl) (by exact fun _ _ _ h => h) (by rfl) (by intro w hS; have C1 := hS.stake; clear hS; go_simp; with_reducible rfl) HS.out ?_
                      simp only [Nat.reduceAdd, Nat.zero_add, Act.put, List.setIfInBounds_toArray, List.set_cons_succ, List.set_cons_zero]
                      refine WT.take 9 (v := _) (by simp only [List.getElem?_toArray, List.getElem?_cons_succ, List.getElem?_cons_zero]; rfl) (by kernel_rfl) (by exact fun _ _ _ h => h) (by rfl) (by intro w hS; have C1 := hS.stake; clear hS; go_simp; with_reducible rfl) HS.out ?_
                      simp only [Nat.reduceAdd, Nat.zero_add, Act.put, List.setIfInBounds_toArray, List.set_cons_succ, List.set_cons_zero]
                      refine WT.take 10 (v := kv HK c.key) (by simp only [List.getElem?_toArray, List.getElem?_cons_succ, List.getElem?_cons_zero]; rfl) (by kernel_rfl) (by exact fun _ _ _ h => h) (by rfl) (by intro w hS; exact rn_loadH aggH (by rfl) hS.key lk1) HS.out ?_
                      simp only [Nat.reduceAdd, Nat.zero_add, Act.put, List.setIfInBounds_toArray, List.set_cons_succ, List.set_cons_zero]
                      refine WT.take 11 (v := _) (by simp only [List.getElem?_toArray, List.getElem?_cons_succ, List.getElem?_cons_zero]; rfl) (by kernel_rfl) (by exact fun _ _ _ h => h) (by rfl) (by intro w hS; have C1 := hS.stake; clear hS; go_simp; with_reducible rfl) HS.out ?_
                      simp only [Nat.reduceAdd, Nat.zero_add, Act.put, List.setIfInBounds_toArray, List.set_cons_succ, List.set_cons_zero]
                      refine WT.take 12 (v := _) (by simp only [List.getElem?_toArray, List.getElem?_cons_succ, List.getElem?_cons_zero]; rfl) (by kernel_rfl) (by exact fun _ _ _ h => h) (by rfl) (by intro w hS; have C1 := hS.stake; clear hS; go_simp; with_reducible rfl) HS.out ?_
                      simp only [Nat.reduceAdd, Nat.zero_add, Act.put, List.setIfInBounds_toArray, List.set_cons_succ, List.set_cons_zero]
                      refine WT.take 13 (v := _) (by simp only [List.getElem?_toArray, List.getElem?_cons_succ, List.getElem?_cons_zero]; rfl) (by kernel_rfl) (by exact fun _ _ _ h => h) (by rfl) (by intro w hS; have C1 := hS.stake; clear hS; go_simp; with_reducible rfl) HS.out ?_
                      simp only [Nat.reduceAdd, Nat.zero_add, Act.put, List.setIfInBounds_toArray, List.set_cons_succ, List.set_cons_zero]
                      refine WT.take 14 (v := _) (by simp only [List.getElem?_toArray, List.getElem?_cons_succ, List.getElem?_cons_zero]; rfl) (by kernel_rfl) (by exact fun _ _ _ h => h) (by rfl) (by intro w hS; have C1 := hS.stake; clear hS; go_simp; with_reducible rfl) HS.out ?_
                      simp only [Nat.reduceAdd, Nat.zero_add, Act.put, List.setIfInBounds_toArray, List.set_cons_succ, List.set_cons_zero]
                      refine WT.take 15 (v := _) (by simp only [List.getElem?_toArray, List.getElem?_cons_succ, List.getElem?_cons_zero]; rfl) (by kernel_rfl) (by exact fun _ _ _ h => h) (by rfl) (by intro w hS; have C1 := hS.stake; clear hS; go_simp; with_reducible rfl) HS.out ?_
                      simp only [Nat.reduceAdd, Nat.zero_add, Act.put, List.setIfInBounds_toArray, List.set_cons_succ, List.set_cons_zero]
                      refine WT.call (R := fun e w' => e = .returned (.tuple #[.int .u64 (told (all [] (m ++ (cs.drop (k + 1)).reverse)) c : Nat), .int .i64 (chk (all [] (m ++ (cs.drop (k + 1)).reverse)) c : Nat)]) ∧ Two w w' pb (addTo (all [] (m ++ (cs.drop (k + 1)).reverse)) c) pa A) 16 (by simp only [List.getElem?_toArray, List.getElem?_cons_succ, List.getElem?_cons_zero]; rfl) (by kernel_rfl) (by rfl) (by go_simp) (T4d.swap.add OK1.out HS.out.sig hml) ?_
                      rintro _ w5 ⟨rfl, T5⟩
                      have hS5 : VoteAt w5 (Was w) b (off + k * 101) c s1 := VV.out _ T5.k
                      refine ⟨_, rfl, hS5, ?_⟩
                      have HT5 := Lib.hid T5.swap
                      clear hS hS5 T4d T5 HS
                      simp only [Nat.reduceAdd, Nat.zero_add, Act.put, List.setIfInBounds_toArray, List.set_cons_succ, List.set_cons_zero]
                      refine WT.stop (by kernel_rfl) (WP.done (by kernel_rfl) ?_)
                      go_wp2
                      go_roundw
                      case rel => exact ⟨k, by omega, rfl, by rw [HDR.out, all_snoc]; exact HT5.out⟩
                      case measure => simp [intOf] <;> omega
                · have hkz : k = zs.length := by omega
                  subst hkz
                  clear tn
                  go_wp2_with fail
                  go_loopw [15] (fun i wr => ∃ k : Nat, k ≤ cs.length ∧ i = .int .i64 ((k : Int) - 1) ∧ Two w wr pa A pb (all [] (m ++ (cs.drop k).reverse))) (fun i _ => (intOf i + 1).toNat)
                  case atStart => exact ⟨cs.length, Nat.le_refl _, rfl, by rw [List.drop_length]; simpa using HT.out⟩
                  case round =>
                    clear HT
                    obtain ⟨k, hk, rfl, hT⟩ := hrel
                    rcases k with _ | k
                    · rw [show (((0 : Nat) : Int) - 1) = (-1 : Int) from rfl]
                      have HT := Lib.hid hT
                      rw [List.drop_zero] at HT
                      clear hT
                      generalize hB0 : all [] (m ++ cs.reverse) = B at *
                      have hsame := same_all (l := cs) (m := cs) (n := m ++ cs.reverse) ONE.out (fun _ => Iff.rfl) (fun c => by simp; exact fun h => hmem.out c h)
                      rw [HA0.out, hB0] at hsame
                      obtain ⟨hwv, hlen, hlks⟩ := hsame
                      have HWV := Lib.hid hwv; have HLEN := Lib.hid hlen; have HLKS := Lib.hid hlks
                      have hBl : B.length ≤ 1000 := by obtain ⟨_, _, h⟩ := HT.out.b; exact h.len
                      clear hB0 hwv hlen hlks
                      go_wp2_with fail
                      go_loopw [16] (fun i wr => ∃ k : Nat, k ≤ cs.length ∧ i = .int .i64 k ∧ Two w wr pa A pb B) (fun i _ => cs.length - (intOf i).toNat)
                      case atStart => exact ⟨0, Nat.zero_le _, rfl, HT.out⟩
                      case round =>
                        clear HT
                        obtain ⟨k, hk, rfl, hT⟩ := hrel
                        by_cases hlt : k < cs.length
                        · have i1 : (k : Int) < (cs.length : Int) := by omega
                          have hne : cs ≠ [] := by rintro rfl; simp at hlt
                          have ha := HA.out hne
                          subst ha
                          obtain ⟨s1, hv1⟩ := HV.out k cs[k] (List.getElem?_eq_getElem hlt)
                          have ok1 := HOK.out cs[k] (List.getElem_mem hlt)
                          generalize cs[k] = c at *
                          have lv1 := vc_len ok1 s1
                          have lL : (valsK LK c.link).length = 66 := by rw [valsK_length ok1.link.length]; rfl
                          have oneL := Lib.hid (valsK_one LK c.link)
                          have VV := Lib.hid (fun (u : World) (h : Keeps Nb w u) => hv1.nb h)
                          have HT := Lib.hid hT; have OK1 := Lib.hid ok1
                          obtain ⟨z, hz0, hz1⟩ := zero40s
                          clear hv1 hT ok1
                          go_wp2_with (first | go_skip | (with_reducible refine stop_load (t := 27) ?_) | (with_reducible refine stop_load (t := 28) ?_) | (with_reducible refine stop_load (t := 30) ?_) | (with_reducible refine stop_load (t := 33) ?_) | (with_reducible refine stop_load (t := 35) ?_) | (with_reducible refine stop_load (t := 40) ?_) | (with_reducible refine stop_load (t := 76) ?_) | (with_reducible refine stop_load (t := 77) ?_) | (with_reducible refine stop_box (t := 27) ?_) | (with_reducible refine stop_box (t := 28) ?_) | (with_reducible refine stop_box (t := 30) ?_) | (with_reducible refine stop_box (t := 33) ?_) | (with_reducible refine stop_box (t := 35) ?_) | (with_reducible refine stop_box (t := 40) ?_) | (with_reducible refine stop_box (t := 76) ?_) | (with_reducible refine stop_box (t := 77) ?_) | (with_reducible refine stop_alloc (t := 27) ?_) | (with_reducible refine stop_alloc (t := 28) ?_) | (with_reducible refine stop_alloc (t := 30) ?_) | (with_reducible refine stop_alloc (t := 33) ?_) | (with_reducible refine stop_alloc (t := 35) ?_) | (with_reducible refine stop_alloc (t := 40) ?_) | (with_reducible refine stop_alloc (t := 76) ?_) | (with_reducible refine stop_alloc (t := 77) ?_) | (with_reducible refine stop_alloc (t := 52) ?_) | (with_reducible refine stop_alloc (t := 68) ?_) | (with_reducible refine stop_alloc (t := 72) ?_) | (with_reducible refine stop_build (t := 27) ?_) | (with_reducible refine stop_build (t := 28) ?_) | (with_reducible refine stop_build (t := 30) ?_) | (with_reducible refine stop_build (t := 33) ?_) | (with_reducible refine stop_build (t := 35) ?_) | (with_reducible refine stop_build (t := 40) ?_) | (with_reducible refine stop_build (t := 76) ?_) | (with_reducible refine stop_build (t := 77) ?_) | (with_reducible refine stop_build (t := 52) ?_) | (with_reducible refine stop_build (t := 68) ?_) | (with_reducible refine stop_store (t := 27) ?_) | (with_reducible refine stop_store (t := 28) ?_) | (with_reducible refine stop_store (t := 30) ?_) | (with_reducible refine stop_store (t := 33) ?_) | (with_reducible refine stop_store (t := 35) ?_) | (with_reducible refine stop_store (t := 40) ?_) | (with_reducible refine stop_store (t := 76) ?_) | (with_reducible refine stop_store (t := 77) ?_) | (with_reducible refine stop_store (t := 22) ?_) | (with_reducible refine stop_store (t := 31) ?_) | (with_reducible refine stop_store (t := 47) ?_) | (with_reducible refine stop_store (t := 52) ?_) | (with_reducible refine stop_store (t := 68) ?_) | (with_reducible refine stop_store (t := 72) ?_) | (with_reducible refine stop_lookup ?_) | (with_reducible refine stop_buildSlice ?_) | (with_reducible refine stop_app ?_) | (with_reducible refine stop_mapEntry ?_) | (with_reducible refine stop_eql (t := 28) ?_) | (with_reducible refine stop_eql (t := 40) ?_) | (with_reducible refine stop_neq (t := 28) ?_) | (with_reducible refine stop_neq (t := 40) ?_))
                          refine at_out (wpList_val (v := .agg (vc c s1).toArray) rfl (rn_loadH aggV (by rfl) (VV.out _ HT.out.k).vote lv1) ?_)
                          simp only [Nat.reduceAdd, Nat.zero_add, Act.put, List.setIfInBounds_toArray, List.set_cons_succ, List.set_cons_zero]
                          go_wp2_with fail
                          refine (linkOf_at c s1 _ OK1.out).mono ?_; rintro e w3 ⟨rfl, q3⟩
                          go_wp2_with (first | go_skip | (with_reducible refine stop_load (t := 27) ?_) | (with_reducible refine stop_load (t := 28) ?_) | (with_reducible refine stop_load (t := 30) ?_) | (with_reducible refine stop_load (t := 33) ?_) | (with_reducible refine stop_load (t := 35) ?_) | (with_reducible refine stop_load (t := 40) ?_) | (with_reducible refine stop_load (t := 76) ?_) | (with_reducible refine stop_load (t := 77) ?_) | (with_reducible refine stop_box (t := 27) ?_) | (with_reducible refine stop_box (t := 28) ?_) | (with_reducible refine stop_box (t := 30) ?_) | (with_reducible refine stop_box (t := 33) ?_) | (with_reducible refine stop_box (t := 35) ?_) | (with_reducible refine stop_box (t := 40) ?_) | (with_reducible refine stop_box (t := 76) ?_) | (with_reducible refine stop_box (t := 77) ?_) | (with_reducible refine stop_alloc (t := 27) ?_) | (with_reducible refine stop_alloc (t := 28) ?_) | (with_reducible refine stop_alloc (t := 30) ?_) | (with_reducible refine stop_alloc (t := 33) ?_) | (with_reducible refine stop_alloc (t := 35) ?_) | (with_reducible refine stop_alloc (t := 40) ?_) | (with_reducible refine stop_alloc (t := 76) ?_) | (with_reducible refine stop_alloc (t := 77) ?_) | (with_reducible refine stop_alloc (t := 52) ?_) | (with_reducible refine stop_alloc (t := 68) ?_) | (with_reducible refine stop_alloc (t := 72) ?_) | (with_reducible refine stop_build (t := 27) ?_) | (with_reducible refine stop_build (t := 28) ?_) | (with_reducible refine stop_build (t := 30) ?_) | (with_reducible refine stop_build (t := 33) ?_) | (with_reducible refine stop_build (t := 35) ?_) | (with_reducible refine stop_build (t := 40) ?_) | (with_reducible refine stop_build (t := 76) ?_) | (with_reducible refine stop_build (t := 77) ?_) | (with_reducible refine stop_build (t := 52) ?_) | (with_reducible refine stop_build (t := 68) ?_) | (with_reducible refine stop_store (t := 27) ?_) | (with_reducible refine stop_store (t := 28) ?_) | (with_reducible refine stop_store (t := 30) ?_) | (with_reducible refine stop_store (t := 33) ?_) | (with_reducible refine stop_store (t := 35) ?_) | (with_reducible refine stop_store (t := 40) ?_) | (with_reducible refine stop_store (t := 76) ?_) | (with_reducible refine stop_store (t := 77) ?_) | (with_reducible refine stop_store (t := 22) ?_) | (with_reducible refine stop_store (t := 31) ?_) | (with_reducible refine stop_store (t := 47) ?_) | (with_reducible refine stop_store (t := 52) ?_) | (with_reducible refine stop_store (t := 68) ?_) | (with_reducible refine stop_store (t := 72) ?_) | (with_reducible refine stop_lookup ?_) | (with_reducible refine stop_buildSlice ?_) | (with_reducible refine stop_app ?_) | (with_reducible refine stop_mapEntry ?_) | (with_reducible refine stop_eql (t := 28) ?_) | (with_reducible refine stop_eql (t := 40) ?_) | (with_reducible refine stop_neq (t := 28) ?_) | (with_reducible refine stop_neq (t := 40) ?_))
                          refine at_out (valloc hz0 ?_); intro g w4 n4
                          simp only [Nat.reduceAdd, Nat.zero_add, Act.put, List.setIfInBounds_toArray, List.set_cons_succ, List.set_cons_zero]
                          go_wp2_with (first | go_skip | (with_reducible refine stop_load (t := 27) ?_) | (with_reducible refine stop_load (t := 28) ?_) | (with_reducible refine stop_load (t := 30) ?_) | (with_reducible refine stop_load (t := 33) ?_) | (with_reducible refine stop_load (t := 35) ?_) | (with_reducible refine stop_load (t := 40) ?_) | (with_reducible refine stop_load (t := 76) ?_) | (with_reducible refine stop_load (t := 77) ?_) | (with_reducible refine stop_box (t := 27) ?_) | (with_reducible refine stop_box (t := 28) ?_) | (with_reducible refine stop_box (t := 30) ?_) | (with_reducible refine stop_box (t := 33) ?_) | (with_reducible refine stop_box (t := 35) ?_) | (with_reducible refine stop_box (t := 40) ?_) | (with_reducible refine stop_box (t := 76) ?_) | (with_reducible refine stop_box (t := 77) ?_) | (with_reducible refine stop_alloc (t := 27) ?_) | (with_reducible refine stop_alloc (t := 28) ?_) | (with_reducible refine stop_alloc (t := 30) ?_) | (with_reducible refine stop_alloc (t := 33) ?_) | (with_reducible refine stop_alloc (t := 35) ?_) | (with_reducible refine stop_alloc (t := 40) ?_) | (with_reducible refine stop_alloc (t := 76) ?_) | (with_reducible refine stop_alloc (t := 77) ?_) | (with_reducible refine stop_alloc (t := 52) ?_) | (with_reducible refine stop_alloc (t := 68) ?_) | (with_reducible refine stop_alloc (t := 72) ?_) | (with_reducible refine stop_build (t := 27) ?_) | (with_reducible refine stop_build (t := 28) ?_) | (with_reducible refine stop_build (t := 30) ?_) | (with_reducible refine stop_build (t := 33) ?_) | (with_reducible refine stop_build (t := 35) ?_) | (with_reducible refine stop_build (t := 40) ?_) | (with_reducible refine stop_build (t := 76) ?_) | (with_reducible refine stop_build (t := 77) ?_) | (with_reducible refine stop_build (t := 52) ?_) | (with_reducible refine stop_build (t := 68) ?_) | (with_reducible refine stop_store (t := 27) ?_) | (with_reducible refine stop_store (t := 28) ?_) | (with_reducible refine stop_store (t := 30) ?_) | (with_reducible refine stop_store (t := 33) ?_) | (with_reducible refine stop_store (t := 35) ?_) | (with_reducible refine stop_store (t := 40) ?_) | (with_reducible refine stop_store (t := 76) ?_) | (with_reducible refine stop_store (t := 77) ?_) | (with_reducible refine stop_store (t := 22) ?_) | (with_reducible refine stop_store (t := 31) ?_) | (with_reducible refine stop_store (t := 47) ?_) | (with_reducible refine stop_store (t := 52) ?_) | (with_reducible refine stop_store (t := 68) ?_) | (with_reducible refine stop_store (t := 72) ?_) | (with_reducible refine stop_lookup ?_) | (with_reducible refine stop_buildSlice ?_) | (with_reducible refine stop_app ?_) | (with_reducible refine stop_mapEntry ?_) | (with_reducible refine stop_eql (t := 28) ?_) | (with_reducible refine stop_eql (t := 40) ?_) | (with_reducible refine stop_neq (t := 28) ?_) | (with_reducible refine stop_neq (t := 40) ?_))
                          refine at_out (wpList_skipE rfl (re_store (v := kv LK c.link) (n := 66) aggL.size (by rfl) (by rfl) n4.blk (by simpa [kv, Value.cells] using lL) (by simp [hz1]) (by simpa [kv, Value.cells] using oneL.out)) ?_)
                          intro w5 s5
                          simp only [Nat.reduceAdd, Nat.zero_add, Act.put, List.setIfInBounds_toArray, List.set_cons_succ, List.set_cons_zero]
                          rw [splice_all (by rw [hz1]; simpa [kv, Value.cells] using lL)] at s5
                          have q5 : Keeps Nb wr w5 := (q3.trans_nb n4.k).own (k := g) (Nat.le_trans q3.size n4.ge) s5.k
                          have T5 := HT.out.nb q5
                          have HG : Hid (∀ u : Sub w5, Has u.wd (some ⟨g, 0, none⟩) (valsK LK c.link)) := fun u => by
                            have := has_block (u.k.nb s5.blk)
                            rwa [show (kv LK c.link).cells.toList = valsK LK c.link by simp [kv, Value.cells]] at this
                          obtain ⟨FA, RA, hpA⟩ := T5.a
                          obtain ⟨FB, RB, hpB⟩ := T5.b
                          have CA := Lib.hid (fun (u : Sub w5) => weight_at pa FA RA A c.link u.wd (hpA.nb u.k) OK1.out.link)
                          have CB := Lib.hid (fun (u : Sub w5) => weight_at pb FB RB B c.link u.wd (hpB.nb u.k) OK1.out.link)
                          have DA := Lib.hid (fun (u : Sub w5) => voters_at pa FA RA A c.link u.wd (hpA.nb u.k) OK1.out.link)
                          have DB := Lib.hid (fun (u : Sub w5) => voters_at pb FB RB B c.link u.wd (hpB.nb u.k) OK1.out.link)
                          have hwv := HWV.out c.link
                          rw [← hwv.1] at CB
                          rw [← hwv.2] at DB
                          have t8 : (((wt A c.link : Nat) : Int) != ((wt A c.link : Nat) : Int)) = false := by simp
                          have t9 : (((vs A c.link : Nat) : Int) != ((vs A c.link : Nat) : Int)) = false := by simp
                          have HT5 := Lib.hid T5
                          clear hwv HT q3 n4 s5 q5 T5 hpA hpB
                          go_wp2_with fail
                          refine region_sub (by kernel_rfl) (by kernel_rfl) ?_
                          repeat (first | go_big_quiet_skip | (with_reducible refine stopq (op := .load 27 _) ?_) | (with_reducible refine stopq (op := .load 28 _) ?_) | (with_reducible refine stopq (op := .load 30 _) ?_) | (with_reducible refine stopq (op := .load 33 _) ?_) | (with_reducible refine stopq (op := .load 35 _) ?_) | (with_reducible refine stopq (op := .load 40 _) ?_) | (with_reducible refine stopq (op := .load 76 _) ?_) | (with_reducible refine stopq (op := .load 77 _) ?_) | (with_reducible refine stopq (op := .build 27 _) ?_) | (with_reducible refine stopq (op := .build 28 _) ?_) | (with_reducible refine stopq (op := .build 30 _) ?_) | (with_reducible refine stopq (op := .build 33 _) ?_) | (with_reducible refine stopq (op := .build 35 _) ?_) | (with_reducible refine stopq (op := .build 40 _) ?_) | (with_reducible refine stopq (op := .build 76 _) ?_) | (with_reducible refine stopq (op := .build 77 _) ?_) | (with_reducible refine stopq (op := .lookup _ _ _ _) ?_) | (with_reducible refine stopq (op := .binOp .eql 28 _ _ _) ?_) | (with_reducible refine stopq (op := .binOp .eql 40 _ _ _) ?_) | (with_reducible refine stopq (op := .binOp .neq 28 _ _ _) ?_) | (with_reducible refine stopq (op := .binOp .neq 40 _ _ _) ?_) | go_big_quiet_step (fail))
                          refine at_out (wpq_val (v := kv LK c.link) rfl (by rintro _ ⟨u, rfl⟩; exact rn_loadH aggL (by rfl) (HG.out u) lL) ?_)
                          simp only [Nat.reduceAdd, Nat.zero_add, Act.put, List.setIfInBounds_toArray, List.set_cons_succ, List.set_cons_zero]
                          go_big_quiet_step ((go_at_call 11; with_reducible exact quiet_sub (CA.out _)))
                          repeat (first | go_big_quiet_skip | (with_reducible refine stopq (op := .load 27 _) ?_) | (with_reducible refine stopq (op := .load 28 _) ?_) | (with_reducible refine stopq (op := .load 30 _) ?_) | (with_reducible refine stopq (op := .load 33 _) ?_) | (with_reducible refine stopq (op := .load 35 _) ?_) | (with_reducible refine stopq (op := .load 40 _) ?_) | (with_reducible refine stopq (op := .load 76 _) ?_) | (with_reducible refine stopq (op := .load 77 _) ?_) | (with_reducible refine stopq (op := .build 27 _) ?_) | (with_reducible refine stopq (op := .build 28 _) ?_) | (with_reducible refine stopq (op := .build 30 _) ?_) | (with_reducible refine stopq (op := .build 33 _) ?_) | (with_reducible refine stopq (op := .build 35 _) ?_) | (with_reducible refine stopq (op := .build 40 _) ?_) | (with_reducible refine stopq (op := .build 76 _) ?_) | (with_reducible refine stopq (op := .build 77 _) ?_) | (with_reducible refine stopq (op := .lookup _ _ _ _) ?_) | (with_reducible refine stopq (op := .binOp .eql 28 _ _ _) ?_) | (with_reducible refine stopq (op := .binOp .eql 40 _ _ _) ?_) | (with_reducible refine stopq (op := .binOp .neq 28 _ _ _) ?_) | (with_reducible refine stopq (op := .binOp .neq 40 _ _ _) ?_) | go_big_quiet_step (fail))
                          refine at_out (wpq_val (v := kv LK c.link) rfl (by rintro _ ⟨u, rfl⟩; exact rn_loadH aggL (by rfl) (HG.out u) lL) ?_)
                          simp only [Nat.reduceAdd, Nat.zero_add, Act.put, List.setIfInBounds_toArray, List.set_cons_succ, List.set_cons_zero]
                          go_big_quiet_step ((go_at_call 11; with_reducible exact quiet_sub (CB.out _)))
                          repeat (first | go_big_quiet_skip | (with_reducible refine stopq (op := .load 27 _) ?_) | (with_reducible refine stopq (op := .load 28 _) ?_) | (with_reducible refine stopq (op := .load 30 _) ?_) | (with_reducible refine stopq (op := .load 33 _) ?_) | (with_reducible refine stopq (op := .load 35 _) ?_) | (with_reducible refine stopq (op := .load 40 _) ?_) | (with_reducible refine stopq (op := .load 76 _) ?_) | (with_reducible refine stopq (op := .load 77 _) ?_) | (with_reducible refine stopq (op := .build 27 _) ?_) | (with_reducible refine stopq (op := .build 28 _) ?_) | (with_reducible refine stopq (op := .build 30 _) ?_) | (with_reducible refine stopq (op := .build 33 _) ?_) | (with_reducible refine stopq (op := .build 35 _) ?_) | (with_reducible refine stopq (op := .build 40 _) ?_) | (with_reducible refine stopq (op := .build 76 _) ?_) | (with_reducible refine stopq (op := .build 77 _) ?_) | (with_reducible refine stopq (op := .lookup _ _ _ _) ?_) | (with_reducible refine stopq (op := .binOp .eql 28 _ _ _) ?_) | (with_reducible refine stopq (op := .binOp .eql 40 _ _ _) ?_) | (with_reducible refine stopq (op := .binOp .neq 28 _ _ _) ?_) | (with_reducible refine stopq (op := .binOp .neq 40 _ _ _) ?_) | go_big_quiet_step (fail))
                          refine at_out (wpq_val (v := kv LK c.link) rfl (by rintro _ ⟨u, rfl⟩; exact rn_loadH aggL (by rfl) (HG.out u) lL) ?_)
                          simp only [Nat.reduceAdd, Nat.zero_add, Act.put, List.setIfInBounds_toArray, List.set_cons_succ, List.set_cons_zero]
                          go_big_quiet_step ((go_at_call 14; with_reducible exact quiet_sub (DA.out _)))
                          repeat (first | go_big_quiet_skip | (with_reducible refine stopq (op := .load 27 _) ?_) | (with_reducible refine stopq (op := .load 28 _) ?_) | (with_reducible refine stopq (op := .load 30 _) ?_) | (with_reducible refine stopq (op := .load 33 _) ?_) | (with_reducible refine stopq (op := .load 35 _) ?_) | (with_reducible refine stopq (op := .load 40 _) ?_) | (with_reducible refine stopq (op := .load 76 _) ?_) | (with_reducible refine stopq (op := .load 77 _) ?_) | (with_reducible refine stopq (op := .build 27 _) ?_) | (with_reducible refine stopq (op := .build 28 _) ?_) | (with_reducible refine stopq (op := .build 30 _) ?_) | (with_reducible refine stopq (op := .build 33 _) ?_) | (with_reducible refine stopq (op := .build 35 _) ?_) | (with_reducible refine stopq (op := .build 40 _) ?_) | (with_reducible refine stopq (op := .build 76 _) ?_) | (with_reducible refine stopq (op := .build 77 _) ?_) | (with_reducible refine stopq (op := .lookup _ _ _ _) ?_) | (with_reducible refine stopq (op := .binOp .eql 28 _ _ _) ?_) | (with_reducible refine stopq (op := .binOp .eql 40 _ _ _) ?_) | (with_reducible refine stopq (op := .binOp .neq 28 _ _ _) ?_) | (with_reducible refine stopq (op := .binOp .neq 40 _ _ _) ?_) | go_big_quiet_step (fail))
                          refine at_out (wpq_val (v := kv LK c.link) rfl (by rintro _ ⟨u, rfl⟩; exact rn_loadH aggL (by rfl) (HG.out u) lL) ?_)
                          simp only [Nat.reduceAdd, Nat.zero_add, Act.put, List.setIfInBounds_toArray, List.set_cons_succ, List.set_cons_zero]
                          go_big_quiet_step ((go_at_call 14; with_reducible exact quiet_sub (DB.out _)))
                          repeat (first | go_big_quiet_skip | (with_reducible refine stopq (op := .load 27 _) ?_) | (with_reducible refine stopq (op := .load 28 _) ?_) | (with_reducible refine stopq (op := .load 30 _) ?_) | (with_reducible refine stopq (op := .load 33 _) ?_) | (with_reducible refine stopq (op := .load 35 _) ?_) | (with_reducible refine stopq (op := .load 40 _) ?_) | (with_reducible refine stopq (op := .load 76 _) ?_) | (with_reducible refine stopq (op := .load 77 _) ?_) | (with_reducible refine stopq (op := .build 27 _) ?_) | (with_reducible refine stopq (op := .build 28 _) ?_) | (with_reducible refine stopq (op := .build 30 _) ?_) | (with_reducible refine stopq (op := .build 33 _) ?_) | (with_reducible refine stopq (op := .build 35 _) ?_) | (with_reducible refine stopq (op := .build 40 _) ?_) | (with_reducible refine stopq (op := .build 76 _) ?_) | (with_reducible refine stopq (op := .build 77 _) ?_) | (with_reducible refine stopq (op := .lookup _ _ _ _) ?_) | (with_reducible refine stopq (op := .binOp .eql 28 _ _ _) ?_) | (with_reducible refine stopq (op := .binOp .eql 40 _ _ _) ?_) | (with_reducible refine stopq (op := .binOp .neq 28 _ _ _) ?_) | (with_reducible refine stopq (op := .binOp .neq 40 _ _ _) ?_) | go_big_quiet_step (fail))
                          refine wpQuiet_nil ?_
                          rintro w6 ⟨u6, hu6⟩
                          have K6 : Keeps Nb w5 w6 := hu6 ▸ u6.k
                          clear hu6 u6 CA CB DA DB HG
                          have HT6 := Lib.hid (HT5.out.nb K6)
                          clear HT5 K6
                          go_wp2
                          go_roundw
                          case rel => exact ⟨k + 1, by omega, by go_num, HT6.out⟩
                          case measure => simp [intOf]; omega
                        · have hkl : k = cs.length := by omega
                          have HT := Lib.hid hT
                          clear hT hk
                          obtain ⟨FA, RA, hpA⟩ := HT.out.a
                          obtain ⟨FB, RB, hpB⟩ := HT.out.b
                          have t10 : ((A.length : Int) == (B.length : Int)) = true := by rw [HLEN.out]; simp
                          have t11 : (((lks A).length : Int) == ((lks B).length : Int)) = true := by rw [HLKS.out]; simp
                          have CA := Lib.hid (len_at pa FA RA A _ hpA)
                          have CB := Lib.hid (len_at pb FB RB B _ hpB)
                          clear hpA hpB
                          subst hkl
                          go_wp2_with fail
                          refine CA.out.mono ?_; rintro e w1 ⟨rfl, rfl⟩
                          go_wp2_with fail
                          refine CB.out.mono ?_; rintro e w1 ⟨rfl, rfl⟩
                          obtain ⟨FA, RA, hpA⟩ := HT.out.a
                          have LA := Lib.hid (links_at pa FA RA A _ hpA)
                          clear hpA CA CB
                          go_wp2_with fail
                          refine LA.out.mono ?_; rintro e w3 ⟨v3, rfl, o3, q3⟩
                          obtain ⟨a3, c3, rfl, -⟩ := owns_has o3
                          have HT3 := Lib.hid (HT.out.nb q3)
                          obtain ⟨FB, RB, hpB⟩ := HT3.out.b
                          have LB := Lib.hid (links_at pb FB RB B _ hpB)
                          clear hpB LA o3 q3 HT
                          go_wp2_with fail
                          refine LB.out.mono ?_; rintro e w4 ⟨v4, rfl, o4, q4⟩
                          obtain ⟨a4, c4, rfl, -⟩ := owns_has o4
                          have HT4 := Lib.hid (HT3.out.nb q4)
                          clear LB o4 q4 HT3
                          go_wp2_with fail
                          refine (KN.out _).mono ?_; rintro e w9 ⟨rfl, k9⟩
                          go_wp2; go_ret; exact ⟨rfl, ((HT4.out.k).trans_nb k9).below⟩
                    · rw [show (((k + 1 : Nat) : Int) - 1) = (k : Int) by omega]
                      have hlt : k < cs.length := by omega
                      have i1 : (k : Int) < (cs.length : Int) := by omega
                      have hne : cs ≠ [] := by rintro rfl; simp at hlt
                      have ha := HA.out hne
                      subst ha
                      obtain ⟨s1, hv1⟩ := HV.out k cs[k] (List.getElem?_eq_getElem hlt)
                      have ok1 := HOK.out cs[k] (List.getElem_mem hlt)
                      have hdr : m ++ (cs.drop k).reverse = (m ++ (cs.drop (k + 1)).reverse) ++ [cs[k]] := by rw [List.drop_eq_getElem_cons hlt]; simp
                      have HDR := Lib.hid hdr; clear hdr
                      generalize cs[k] = c at *
                      have hst1 := ok1.stake
                      have lk1 : (valsK HK c.key).length = 32 := by rw [valsK_length ok1.key.length]; rfl
                      have lv1 := vc_len ok1 s1
                      have VV := Lib.hid (fun (u : World) (h : Keeps Nb w u) => hv1.nb h)
                      have hml : (all [] (m ++ (cs.drop (k + 1)).reverse)).length < 1000 := by have := all_len (m ++ (cs.drop (k + 1)).reverse) []; simp at *; omega
                      have HT := Lib.hid hT; have OK1 := Lib.hid ok1
                      clear hv1 hT ok1
                      go_wp2_with fail
                      have hS : VoteAt wr (Was w) b (off + k * 101) c s1 := VV.out _ HT.out.k
                      have HS : Hid (VoteAt wr.drew (Was w) b (off + k * 101) c s1) := hS.nb ((Keeps.refl Nb _).drew)
                      have T4d := HT.out.nb ((Keeps.refl Nb _).drew)
                      refine WT.region (fun u => VoteAt u (Was w) b (off + k * 101) c s1) 17 17 [0, 1, 2, 3, 4, 5, 6, 7, 8, 9, 10, 11, 12, 13, 14, 15, 16] (by kernel_rfl) rfl ?_
                      refine WT.take 0 (v := _) (by simp only [List.getElem?_toArray, List.getElem?_cons_succ, List.getElem?_cons_zero]; rfl) (by kernel_rfl) (by exact fun _ _ _ h => h) (by rfl) (by intro w hS; have C1 := hS.stake; clear hS; go_simp; with_reducible rfl) HS.out ?_
                      simp only [Nat.reduceAdd, Nat.zero_add, Act.put, List.setIfInBounds_toArray, List.set_cons_succ, List.set_cons_zero]
                      refine WT.take 1 (v := _) (by simp only [List.getElem?_toArray, List.getElem?_cons_succ, List.getElem?_cons_zero]; rfl) (by kernel_rfl) (by exact fun _ _ _ h => h) (by rfl) (by intro w hS; have C1 := hS.stake; clear hS; go_simp; with_reducible rfl) HS.out ?_
                      simp only [Nat.reduceAdd, Nat.zero_add, Act.put, List.setIfInBounds_toArray, List.set_cons_succ, List.set_cons_zero]
                      refine WT.take 2 (v := _) (by simp only [List.getElem?_toArray, List.getElem?_cons_succ, List.getElem?_cons_zero]; rfl) (by kernel_rfl) (by exact fun _ _ _ h => h) (by rfl) (by intro w hS; have C1 := hS.stake; clear hS; go_simp; with_reducible rfl) HS.out ?_
                      simp only [Nat.reduceAdd, Nat.zero_add, Act.put, List.setIfInBounds_toArray, List.set_cons_succ, List.set_cons_zero]
                      refine WT.take 3 (v := _) (by simp only [List.getElem?_toArray, List.getElem?_cons_succ, List.getElem?_cons_zero]; rfl) (by kernel_rfl) (by exact fun _ _ _ h => h) (by rfl) (by intro w hS; have C1 := hS.stake; clear hS; go_simp; with_reducible rfl) HS.out ?_
                      simp only [Nat.reduceAdd, Nat.zero_add, Act.put, List.setIfInBounds_toArray, List.set_cons_succ, List.set_cons_zero]
                      refine WT.take 4 (v := _) (by simp only [List.getElem?_toArray, List.getElem?_cons_succ, List.getElem?_cons_zero]; rfl) (by kernel_rfl) (by exact fun _ _ _ h => h) (by rfl) (by intro w hS; have C1 := hS.stake; clear hS; go_simp; with_reducible rfl) HS.out ?_
                      simp only [Nat.reduceAdd, Nat.zero_add, Act.put, List.setIfInBounds_toArray, List.set_cons_succ, List.set_cons_zero]
                      refine WT.take 5 (v := .agg (vc c s1).toArray) (by simp only [List.getElem?_toArray, List.getElem?_cons_succ, List.getElem?_cons_zero]; rfl) (by kernel_rfl) (by exact fun _ _ _ h => h) (by rfl) (by intro w hS; exact rn_loadH aggV (by rfl) hS.vote lv1) HS.out ?_
                      simp only [Nat.reduceAdd, Nat.zero_add, Act.put, List.setIfInBounds_toArray, List.set_cons_succ, List.set_cons_zero]
                      refine WT.take 6 (v := _) (by simp only [List.getElem?_toArray, List.getElem?_cons_succ, List.getElem?_cons_zero]; rfl) (by kernel_rfl) (by exact fun _ _ _ h => h) (by rfl) (by intro w hS; have C1 := hS.stake; clear hS; go_simp; with_reducible rfl) HS.out ?_
                      simp only [Nat.reduceAdd, Nat.zero_add, Act.put, List.setIfInBounds_toArray, List.set_cons_succ, List.set_cons_zero]
                      refine WT.take 7 (v := _) (by simp only [List.getElem?_toArray, List.getElem?_cons_succ, List.getElem?_cons_zero]; rfl) (by kernel_rfl) (by exact fun _ _ _ h => h) (by rfl) (by intro w hS; have C1 := hS.stake; clear hS; go_simp; with_reducible rfl) HS.out ?_
                      simp only [Nat.reduceAdd, Nat.zero_add, Act.put, List.setIfInBounds_toArray, List.set_cons_succ, List.set_cons_zero]
                      refine WT.take 8 (v := _) (by simp only [List.getElem?_toArray, List.getElem?_cons_succ, List.getElem?_cons_zero]; rfl) (by kernel_rfl) (by exact fun _ _ _ h => h) (by rfl) (by intro w hS; have C1 := hS.stake; clear hS; go_simp; with_reducible rfl) HS.out ?_
                      simp only [Nat.reduceAdd, Nat.zero_add, Act.put, List.setIfInBounds_toArray, List.set_cons_succ, List.set_cons_zero]
                      refine WT.take 9 (v := _) (by simp only [List.getElem?_toArray, List.getElem?_cons_succ, List.getElem?_cons_zero]; rfl) (by kernel_rfl) (by exact fun _ _ _ h => h) (by rfl) (by intro w hS; have C1 := hS.stake; clear hS; go_simp; with_reducible rfl) HS.out ?_
                      simp only [Nat.reduceAdd, Nat.zero_add, Act.put, List.setIfInBounds_toArray, List.set_cons_succ, List.set_cons_zero]
                      refine WT.take 10 (v := kv HK c.key) (by simp only [List.getElem?_toArray, List.getElem?_cons_succ, List.getElem?_cons_zero]; rfl) (by kernel_rfl) (by exact fun _ _ _ h => h) (by rfl) (by intro w hS; exact rn_loadH aggH (by rfl) hS.key lk1) HS.out ?_
                      simp only [Nat.reduceAdd, Nat.zero_add, Act.put, List.setIfInBounds_toArray, List.set_cons_succ, List.set_cons_zero]
                      refine WT.take 11 (v := _) (by simp only [List.getElem?_toArray, List.getElem?_cons_succ, List.getElem?_cons_zero]; rfl) (by kernel_rfl) (by exact fun _ _ _ h => h) (by rfl) (by intro w hS; have C1 := hS.stake; clear hS; go_simp; with_reducible rfl) HS.out ?_
                      simp only [Nat.reduceAdd, Nat.zero_add, Act.put, List.setIfInBounds_toArray, List.set_cons_succ, List.set_cons_zero]
                      refine WT.take 12 (v := _) (by simp only [List.getElem?_toArray, List.getElem?_cons_succ, List.getElem?_cons_zero]; rfl) (by kernel_rfl) (by exact fun _ _ _ h => h) (by rfl) (by intro w hS; have C1 := hS.stake; clear hS; go_simp; with_reducible rfl) HS.out ?_
                      simp only [Nat.reduceAdd, Nat.zero_add, Act.put, List.setIfInBounds_toArray, List.set_cons_succ, List.set_cons_zero]
                      refine WT.take 13 (v := _) (by simp only [List.getElem?_toArray, List.getElem?_cons_succ, List.getElem?_cons_zero]; rfl) (by kernel_rfl) (by exact fun _ _ _ h => h) (by rfl) (by intro w hS; have C1 := hS.stake; clear hS; go_simp; with_reducible rfl) HS.out ?_
                      simp only [Nat.reduceAdd, Nat.zero_add, Act.put, List.setIfInBounds_toArray, List.set_cons_succ, List.set_cons_zero]
                      refine WT.take 14 (v := _) (by simp only [List.getElem?_toArray, List.getElem?_cons_succ, List.getElem?_cons_zero]; rfl) (by kernel_rfl) (by exact fun _ _ _ h => h) (by rfl) (by intro w hS; have C1 := hS.stake; clear hS; go_simp; with_reducible rfl) HS.out ?_
                      simp only [Nat.reduceAdd, Nat.zero_add, Act.put, List.setIfInBounds_toArray, List.set_cons_succ, List.set_cons_zero]
                      refine WT.take 15 (v := _) (by simp only [List.getElem?_toArray, List.getElem?_cons_succ, List.getElem?_cons_zero]; rfl) (by kernel_rfl) (by exact fun _ _ _ h => h) (by rfl) (by intro w hS; have C1 := hS.stake; clear hS; go_simp; with_reducible rfl) HS.out ?_
                      simp only [Nat.reduceAdd, Nat.zero_add, Act.put, List.setIfInBounds_toArray, List.set_cons_succ, List.set_cons_zero]
                      refine WT.call (R := fun e w' => e = .returned (.tuple #[.int .u64 (told (all [] (m ++ (cs.drop (k + 1)).reverse)) c : Nat), .int .i64 (chk (all [] (m ++ (cs.drop (k + 1)).reverse)) c : Nat)]) ∧ Two w w' pb (addTo (all [] (m ++ (cs.drop (k + 1)).reverse)) c) pa A) 16 (by simp only [List.getElem?_toArray, List.getElem?_cons_succ, List.getElem?_cons_zero]; rfl) (by kernel_rfl) (by rfl) (by go_simp) (T4d.swap.add OK1.out HS.out.sig hml) ?_
                      rintro _ w5 ⟨rfl, T5⟩
                      have hS5 : VoteAt w5 (Was w) b (off + k * 101) c s1 := VV.out _ T5.k
                      refine ⟨_, rfl, hS5, ?_⟩
                      have HT5 := Lib.hid T5.swap
                      clear hS hS5 T4d T5 HS
                      simp only [Nat.reduceAdd, Nat.zero_add, Act.put, List.setIfInBounds_toArray, List.set_cons_succ, List.set_cons_zero]
                      refine WT.stop (by kernel_rfl) (WP.done (by kernel_rfl) ?_)
                      go_wp2
                      go_roundw
                      case rel => exact ⟨k, by omega, rfl, by rw [HDR.out, all_snoc]; exact HT5.out⟩
                      case measure => simp [intOf] <;> omega
end poolOrder
end Go.Proofs.Ytffnaigkdocpmac
