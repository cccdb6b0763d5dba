/- SameVote and Same of the reference: votes of one content are the same. -/
import Derived.Test.YtffnaigkdocpmacSumL
import Derived.Laws.BytesArg
set_option linter.unusedVariables false
set_option linter.unusedSimpArgs false
namespace Go.Proofs.Ytffnaigkdocpmac
open Go.RowKit Go.Lk Go.Pool

theorem run_str0 (w : World) (a : Option Addr) (c : Nat) : (convert 31 9 (.slice a 0 c)).run Try.prog w = .ok (.string ByteArray.empty) w := by
  rw [run_convert_bytes_string w 31 9 5 a 0 c Try.underlying31 Try.underlying5 Try.underlying9]
  cases a <;> simp [Conv.bytesToString, loadCells, loadCellsFrom]
theorem run_strs (l : List Nat) : ∃ x : ByteArray, ∀ (w : World) (a : Option Addr) (c : Nat), ReadsN .u8 w a l → (convert 31 9 (.slice a l.length c)).run Try.prog w = .ok (.string x) w := by
  by_cases hne : l = []
  · subst hne; exact ⟨_, fun w a c _ => run_str0 w a c⟩
  · refine ⟨strOfNums (l.map fun x : Nat => (x : Int)), fun w a c h => ?_⟩
    rcases h with h | ⟨b, off, rfl, hc⟩
    · exact absurd h hne
    exact run_convert_bytes_arg (P := Try.prog) w 31 5 Try.underlying31 Try.underlying5 b off l.length c (l.map fun x : Nat => (x : Int)) (by simp) (fun i hi => by rw [hc i hi, ntn_eq hi]; simp [List.getD, hi]) 9 Try.underlying9

theorem rn_eqlS {P : Program} {a : Act} {w : World} {dst : Option Tmp} {x y : Operand} {ty t t2 : TypeId} {pos : String} {aft : Array Edge} {gd : Option (Nat × Bool)} {ks : List IntKind} {l : List Int} (A : AggK P t ks) (hx : a.eval x = kv ks l) (hy : a.eval y = kv ks l) (h : Fits ks l) :
    (execOp a.eval ⟨dst, .binOp .eql t x y t2, ty, pos, aft, gd⟩).run P w = .ok (.value (.bool true)) w := by
  rw [rn_eqlK A hx hy h h]; simp
theorem rn_neqS {P : Program} {a : Act} {w : World} {dst : Option Tmp} {x y : Operand} {ty t t2 : TypeId} {pos : String} {aft : Array Edge} {gd : Option (Nat × Bool)} {ks : List IntKind} {l : List Int} (A : AggK P t ks) (hx : a.eval x = kv ks l) (hy : a.eval y = kv ks l) (h : Fits ks l) :
    (execOp a.eval ⟨dst, .binOp .neq t x y t2, ty, pos, aft, gd⟩).run P w = .ok (.value (.bool false)) w := by
  rw [rn_neqK A hx hy h h]; simp
set_option maxRecDepth 100000 in
set_option maxHeartbeats 1000000 in
theorem sameVote_at (c : Ct) (s1 s2 : Value) (R1 R2 : Nat → Prop) (w : World) (hc : c.Ok) (h1 : SigAt w R1 c s1) (h2 : SigAt w R2 c s2) :
    Calls Try.prog 20 #[.agg (vc c s1).toArray, .agg (vc c s2).toArray] w fun e w' => e = .returned (.bool true) ∧ Keeps Nb w w' := by
  obtain ⟨x, hx⟩ := run_strs c.sig
  obtain ⟨a1, p1, rfl, b1, m1, r1, -, -⟩ := h1
  obtain ⟨a2, p2, rfl, b2, m2, r2, -, -⟩ := h2
  unfold maxLen at m1 m2
  have X1 := Lib.hid (fun (u : World) (h : Keeps Nb w u) => hx u a1 p1 (r1.keeps h (fun _ _ _ _ e => e)))
  have X2 := Lib.hid (fun (u : World) (h : Keeps Nb w u) => hx u a2 p2 (r2.keeps h (fun _ _ _ _ e => e)))
  have HR := Lib.hid (fun (w0 : World) (g : Nat) (s : Value) => @vote_reads w0 g c s 33 hc)
  have l1 : (valsK PK c.src).length = 33 := by rw [valsK_length hc.src.length]; rfl
  have l2 : (valsK PK c.tgt).length = 33 := by rw [valsK_length hc.tgt.length]; rfl
  have F1 := Lib.hid hc.src; have F2 := Lib.hid hc.tgt
  clear hx r1 r2 hc
  generalize hn : c.sig.length = n at *
  generalize hV1 : (vc c (.slice a1 n p1)).toArray = V1 at *
  generalize hV2 : (vc c (.slice a2 n p2)).toArray = V2 at *
  have HV1 := Lib.hid hV1; have HV2 := Lib.hid hV2; clear hV1 hV2 hn
  go_enter Try.func20, Try.ntmps20
  go_wp2_with (first | go_skip | (with_reducible refine stop_box (t := 33) ?_) | (with_reducible refine stop_load (t := 30) ?_) | (with_reducible refine stop_eql (t := 30) ?_))
  refine at_out (vbox rfl ?_); intro g1 w1 n1
  simp only [Nat.reduceAdd, Nat.zero_add, Act.put, List.setIfInBounds_toArray, List.set_cons_succ, List.set_cons_zero]
  go_wp2_with (first | go_skip | (with_reducible refine stop_box (t := 33) ?_) | (with_reducible refine stop_load (t := 30) ?_) | (with_reducible refine stop_eql (t := 30) ?_))
  refine at_out (vbox rfl ?_); intro g2 w2 n2
  simp only [Nat.reduceAdd, Nat.zero_add, Act.put, List.setIfInBounds_toArray, List.set_cons_succ, List.set_cons_zero]
  have n1b := n2.k.nb n1.blk
  have k2 := n1.k.trans_nb n2.k
  obtain ⟨x0, x1, x2, x3⟩ := HR.out w2 g1 _ (by rw [HV1.out]; exact n1b)
  obtain ⟨y0, y1, y2, y3⟩ := HR.out w2 g2 _ (by rw [HV2.out]; exact n2.blk)
  have u : Sub w2 := ⟨w2, Keeps.refl _ _⟩
  replace x0 := x0 ⟨w2, Keeps.refl _ _⟩; replace x1 := Lib.hid (x1 ⟨w2, Keeps.refl _ _⟩); replace x2 := Lib.hid (x2 ⟨w2, Keeps.refl _ _⟩); replace x3 := x3 ⟨w2, Keeps.refl _ _⟩
  replace y0 := y0 ⟨w2, Keeps.refl _ _⟩; replace y1 := Lib.hid (y1 ⟨w2, Keeps.refl _ _⟩); replace y2 := Lib.hid (y2 ⟨w2, Keeps.refl _ _⟩); replace y3 := y3 ⟨w2, Keeps.refl _ _⟩
  simp only at x0 x3 y0 y3
  have e1 := X1.out w2 k2; have e2 := X2.out w2 k2
  clear n1b n1 n2 u
  go_wp2_with (first | go_skip | (with_reducible refine stop_box (t := 33) ?_) | (with_reducible refine stop_load (t := 30) ?_) | (with_reducible refine stop_eql (t := 30) ?_))
  refine at_out (wpList_val (v := kv PK c.src) rfl (rn_loadH aggP (by rfl) x1.out l1) ?_)
  simp only [Nat.reduceAdd, Nat.zero_add, Act.put, List.setIfInBounds_toArray, List.set_cons_succ, List.set_cons_zero]
  go_wp2_with (first | go_skip | (with_reducible refine stop_box (t := 33) ?_) | (with_reducible refine stop_load (t := 30) ?_) | (with_reducible refine stop_eql (t := 30) ?_))
  refine at_out (wpList_val (v := kv PK c.src) rfl (rn_loadH aggP (by rfl) y1.out l1) ?_)
  simp only [Nat.reduceAdd, Nat.zero_add, Act.put, List.setIfInBounds_toArray, List.set_cons_succ, List.set_cons_zero]
  go_wp2_with (first | go_skip | (with_reducible refine stop_box (t := 33) ?_) | (with_reducible refine stop_load (t := 30) ?_) | (with_reducible refine stop_eql (t := 30) ?_))
  refine at_out (wpList_val (v := .bool true) rfl (rn_eqlS kkP (by rfl) (by rfl) F1.out) ?_)
  simp only [Nat.reduceAdd, Nat.zero_add, Act.put, List.setIfInBounds_toArray, List.set_cons_succ, List.set_cons_zero]
  go_wp2_with (first | go_skip | (with_reducible refine stop_box (t := 33) ?_) | (with_reducible refine stop_load (t := 30) ?_) | (with_reducible refine stop_eql (t := 30) ?_))
  refine at_out (wpList_val (v := kv PK c.tgt) rfl (rn_loadH aggP (by rfl) x2.out l2) ?_)
  simp only [Nat.reduceAdd, Nat.zero_add, Act.put, List.setIfInBounds_toArray, List.set_cons_succ, List.set_cons_zero]
  go_wp2_with (first | go_skip | (with_reducible refine stop_box (t := 33) ?_) | (with_reducible refine stop_load (t := 30) ?_) | (with_reducible refine stop_eql (t := 30) ?_))
  refine at_out (wpList_val (v := kv PK c.tgt) rfl (rn_loadH aggP (by rfl) y2.out l2) ?_)
  simp only [Nat.reduceAdd, Nat.zero_add, Act.put, List.setIfInBounds_toArray, List.set_cons_succ, List.set_cons_zero]
  go_wp2_with (first | go_skip | (with_reducible refine stop_box (t := 33) ?_) | (with_reducible refine stop_load (t := 30) ?_) | (with_reducible refine stop_eql (t := 30) ?_))
  refine at_out (wpList_val (v := .bool true) rfl (rn_eqlS kkP (by rfl) (by rfl) F2.out) ?_)
  simp only [Nat.reduceAdd, Nat.zero_add, Act.put, List.setIfInBounds_toArray, List.set_cons_succ, List.set_cons_zero]
  go_wp2
  go_ret
  exact ⟨rfl, k2⟩

set_option maxRecDepth 100000 in
set_option maxHeartbeats 1000000 in
theorem same_at (cs : List Ct) (a1 a2 : Option Addr) (p1 p2 : Nat) (R1 R2 : Nat → Prop) (w : World) (hok : ∀ c ∈ cs, c.Ok) (h1 : ListAt w R1 a1 cs.length p1 cs) (h2 : ListAt w R2 a2 cs.length p2 cs) :
    Calls Try.prog 33 #[.slice a1 cs.length p1, .slice a2 cs.length p2] w fun e w' => e = .returned (.bool true) ∧ Keeps Nb w w' := by
  have hc1 := h1.2.1
  have hm1 := h1.2.2.1
  have hc2 := h2.2.1
  have hm2 := h2.2.2.1
  unfold maxLen at hm1 hm2
  obtain ⟨b1, o1, ha1, hv1⟩ := votes_at h1 hok
  obtain ⟨b2, o2, ha2, hv2⟩ := votes_at h2 hok
  have HA1 := Lib.hid ha1; have HV1 := Lib.hid hv1; have HA2 := Lib.hid ha2; have HV2 := Lib.hid hv2; have HOK := Lib.hid hok
  clear h1 h2 ha1 hv1 ha2 hv2 hok
  go_enter Try.func33, Try.ntmps33
  go_wp2
  go_loopw [5] (fun i wr => ∃ k : Nat, k ≤ cs.length ∧ i = .int .i64 k ∧ Keeps Nb w wr) (fun i _ => cs.length - (intOf i).toNat)
  case atStart => exact ⟨0, Nat.zero_le _, rfl, Keeps.refl _ _⟩
  case round =>
    obtain ⟨k, hk, rfl, kw⟩ := hrel
    by_cases hlt : k < cs.length
    · have i1 : (k : Int) < (cs.length : Int) := by omega
      have hne : cs ≠ [] := by rintro rfl; simp at hlt
      have ha1 := HA1.out hne; have ha2 := HA2.out hne
      subst ha1
      subst ha2
      obtain ⟨s1, v1⟩ := HV1.out k cs[k] (List.getElem?_eq_getElem hlt)
      obtain ⟨s2, v2⟩ := HV2.out k cs[k] (List.getElem?_eq_getElem hlt)
      have ok1 := HOK.out cs[k] (List.getElem_mem hlt)
      generalize cs[k] = c at *
      have lv1 := vc_len ok1 s1
      have lv2 := vc_len ok1 s2
      have lk : (valsK HK c.key).length = 32 := by rw [valsK_length ok1.key.length]; rfl
      have V1 := Lib.hid (fun u : Sub wr => (v1.nb kw).nb u.k)
      have V2 := Lib.hid (fun u : Sub wr => (v2.nb kw).nb u.k)
      have C1 := fun u : Sub wr => (V1.out u).stake
      have C2 := fun u : Sub wr => (V2.out u).stake
      have SV := Lib.hid (fun u : Sub wr => sameVote_at c s1 s2 R1 R2 u.wd ok1 (V1.out u).sig (V2.out u).sig)
      have FK := Lib.hid ok1.key
      have t2 : (((c.stake : Nat) : Int) != ((c.stake : Nat) : Int)) = false := by simp
      have hst := ok1.stake
      clear v1 v2 ok1
      go_wp2_with fail
      refine region_sub (by kernel_rfl) (by kernel_rfl) ?_
      repeat (first | go_big_quiet_skip | (with_reducible refine stopq (op := .load 27 _) ?_) | (with_reducible refine stopq (op := .load 28 _) ?_) | (with_reducible refine stopq (op := .load 30 _) ?_) | (with_reducible refine stopq (op := .load 33 _) ?_) | (with_reducible refine stopq (op := .load 35 _) ?_) | (with_reducible refine stopq (op := .load 40 _) ?_) | (with_reducible refine stopq (op := .load 76 _) ?_) | (with_reducible refine stopq (op := .load 77 _) ?_) | (with_reducible refine stopq (op := .build 27 _) ?_) | (with_reducible refine stopq (op := .build 28 _) ?_) | (with_reducible refine stopq (op := .build 30 _) ?_) | (with_reducible refine stopq (op := .build 33 _) ?_) | (with_reducible refine stopq (op := .build 35 _) ?_) | (with_reducible refine stopq (op := .build 40 _) ?_) | (with_reducible refine stopq (op := .build 76 _) ?_) | (with_reducible refine stopq (op := .build 77 _) ?_) | (with_reducible refine stopq (op := .lookup _ _ _ _) ?_) | (with_reducible refine stopq (op := .binOp .eql 28 _ _ _) ?_) | (with_reducible refine stopq (op := .binOp .eql 40 _ _ _) ?_) | (with_reducible refine stopq (op := .binOp .neq 28 _ _ _) ?_) | (with_reducible refine stopq (op := .binOp .neq 40 _ _ _) ?_) | go_big_quiet_step (fail))
      refine at_out (wpq_val (v := kv HK c.key) rfl (by rintro _ ⟨u, rfl⟩; exact rn_loadH aggH (by rfl) (V1.out u).key lk) ?_)
      simp only [Nat.reduceAdd, Nat.zero_add, Act.put, List.setIfInBounds_toArray, List.set_cons_succ, List.set_cons_zero]
      repeat (first | go_big_quiet_skip | (with_reducible refine stopq (op := .load 27 _) ?_) | (with_reducible refine stopq (op := .load 28 _) ?_) | (with_reducible refine stopq (op := .load 30 _) ?_) | (with_reducible refine stopq (op := .load 33 _) ?_) | (with_reducible refine stopq (op := .load 35 _) ?_) | (with_reducible refine stopq (op := .load 40 _) ?_) | (with_reducible refine stopq (op := .load 76 _) ?_) | (with_reducible refine stopq (op := .load 77 _) ?_) | (with_reducible refine stopq (op := .build 27 _) ?_) | (with_reducible refine stopq (op := .build 28 _) ?_) | (with_reducible refine stopq (op := .build 30 _) ?_) | (with_reducible refine stopq (op := .build 33 _) ?_) | (with_reducible refine stopq (op := .build 35 _) ?_) | (with_reducible refine stopq (op := .build 40 _) ?_) | (with_reducible refine stopq (op := .build 76 _) ?_) | (with_reducible refine stopq (op := .build 77 _) ?_) | (with_reducible refine stopq (op := .lookup _ _ _ _) ?_) | (with_reducible refine stopq (op := .binOp .eql 28 _ _ _) ?_) | (with_reducible refine stopq (op := .binOp .eql 40 _ _ _) ?_) | (with_reducible refine stopq (op := .binOp .neq 28 _ _ _) ?_) | (with_reducible refine stopq (op := .binOp .neq 40 _ _ _) ?_) | go_big_quiet_step (fail))
      refine at_out (wpq_val (v := kv HK c.key) rfl (by rintro _ ⟨u, rfl⟩; exact rn_loadH aggH (by rfl) (V2.out u).key lk) ?_)
      simp only [Nat.reduceAdd, Nat.zero_add, Act.put, List.setIfInBounds_toArray, List.set_cons_succ, List.set_cons_zero]
      repeat (first | go_big_quiet_skip | (with_reducible refine stopq (op := .load 27 _) ?_) | (with_reducible refine stopq (op := .load 28 _) ?_) | (with_reducible refine stopq (op := .load 30 _) ?_) | (with_reducible refine stopq (op := .load 33 _) ?_) | (with_reducible refine stopq (op := .load 35 _) ?_) | (with_reducible refine stopq (op := .load 40 _) ?_) | (with_reducible refine stopq (op := .load 76 _) ?_) | (with_reducible refine stopq (op := .load 77 _) ?_) | (with_reducible refine stopq (op := .build 27 _) ?_) | (with_reducible refine stopq (op := .build 28 _) ?_) | (with_reducible refine stopq (op := .build 30 _) ?_) | (with_reducible refine stopq (op := .build 33 _) ?_) | (with_reducible refine stopq (op := .build 35 _) ?_) | (with_reducible refine stopq (op := .build 40 _) ?_) | (with_reducible refine stopq (op := .build 76 _) ?_) | (with_reducible refine stopq (op := .build 77 _) ?_) | (with_reducible refine stopq (op := .lookup _ _ _ _) ?_) | (with_reducible refine stopq (op := .binOp .eql 28 _ _ _) ?_) | (with_reducible refine stopq (op := .binOp .eql 40 _ _ _) ?_) | (with_reducible refine stopq (op := .binOp .neq 28 _ _ _) ?_) | (with_reducible refine stopq (op := .binOp .neq 40 _ _ _) ?_) | go_big_quiet_step (fail))
      refine at_out (wpq_val (v := .bool false) rfl (by rintro _ ⟨u, rfl⟩; exact rn_neqS kkH (by rfl) (by rfl) FK.out) ?_)
      simp only [Nat.reduceAdd, Nat.zero_add, Act.put, List.setIfInBounds_toArray, List.set_cons_succ, List.set_cons_zero]
      repeat (first | go_big_quiet_skip | (with_reducible refine stopq (op := .load 27 _) ?_) | (with_reducible refine stopq (op := .load 28 _) ?_) | (with_reducible refine stopq (op := .load 30 _) ?_) | (with_reducible refine stopq (op := .load 33 _) ?_) | (with_reducible refine stopq (op := .load 35 _) ?_) | (with_reducible refine stopq (op := .load 40 _) ?_) | (with_reducible refine stopq (op := .load 76 _) ?_) | (with_reducible refine stopq (op := .load 77 _) ?_) | (with_reducible refine stopq (op := .build 27 _) ?_) | (with_reducible refine stopq (op := .build 28 _) ?_) | (with_reducible refine stopq (op := .build 30 _) ?_) | (with_reducible refine stopq (op := .build 33 _) ?_) | (with_reducible refine stopq (op := .build 35 _) ?_) | (with_reducible refine stopq (op := .build 40 _) ?_) | (with_reducible refine stopq (op := .build 76 _) ?_) | (with_reducible refine stopq (op := .build 77 _) ?_) | (with_reducible refine stopq (op := .lookup _ _ _ _) ?_) | (with_reducible refine stopq (op := .binOp .eql 28 _ _ _) ?_) | (with_reducible refine stopq (op := .binOp .eql 40 _ _ _) ?_) | (with_reducible refine stopq (op := .binOp .neq 28 _ _ _) ?_) | (with_reducible refine stopq (op := .binOp .neq 40 _ _ _) ?_) | go_big_quiet_step (fail))
      refine at_out (wpq_val (v := .agg (vc c s1).toArray) rfl (by rintro _ ⟨u, rfl⟩; exact rn_loadH aggV (by rfl) (V1.out u).vote lv1) ?_)
      simp only [Nat.reduceAdd, Nat.zero_add, Act.put, List.setIfInBounds_toArray, List.set_cons_succ, List.set_cons_zero]
      repeat (first | go_big_quiet_skip | (with_reducible refine stopq (op := .load 27 _) ?_) | (with_reducible refine stopq (op := .load 28 _) ?_) | (with_reducible refine stopq (op := .load 30 _) ?_) | (with_reducible refine stopq (op := .load 33 _) ?_) | (with_reducible refine stopq (op := .load 35 _) ?_) | (with_reducible refine stopq (op := .load 40 _) ?_) | (with_reducible refine stopq (op := .load 76 _) ?_) | (with_reducible refine stopq (op := .load 77 _) ?_) | (with_reducible refine stopq (op := .build 27 _) ?_) | (with_reducible refine stopq (op := .build 28 _) ?_) | (with_reducible refine stopq (op := .build 30 _) ?_) | (with_reducible refine stopq (op := .build 33 _) ?_) | (with_reducible refine stopq (op := .build 35 _) ?_) | (with_reducible refine stopq (op := .build 40 _) ?_) | (with_reducible refine stopq (op := .build 76 _) ?_) | (with_reducible refine stopq (op := .build 77 _) ?_) | (with_reducible refine stopq (op := .lookup _ _ _ _) ?_) | (with_reducible refine stopq (op := .binOp .eql 28 _ _ _) ?_) | (with_reducible refine stopq (op := .binOp .eql 40 _ _ _) ?_) | (with_reducible refine stopq (op := .binOp .neq 28 _ _ _) ?_) | (with_reducible refine stopq (op := .binOp .neq 40 _ _ _) ?_) | go_big_quiet_step (fail))
      refine at_out (wpq_val (v := .agg (vc c s2).toArray) rfl (by rintro _ ⟨u, rfl⟩; exact rn_loadH aggV (by rfl) (V2.out u).vote lv2) ?_)
      simp only [Nat.reduceAdd, Nat.zero_add, Act.put, List.setIfInBounds_toArray, List.set_cons_succ, List.set_cons_zero]
      repeat (first | go_big_quiet_skip | (with_reducible refine stopq (op := .load 27 _) ?_) | (with_reducible refine stopq (op := .load 28 _) ?_) | (with_reducible refine stopq (op := .load 30 _) ?_) | (with_reducible refine stopq (op := .load 33 _) ?_) | (with_reducible refine stopq (op := .load 35 _) ?_) | (with_reducible refine stopq (op := .load 40 _) ?_) | (with_reducible refine stopq (op := .load 76 _) ?_) | (with_reducible refine stopq (op := .load 77 _) ?_) | (with_reducible refine stopq (op := .build 27 _) ?_) | (with_reducible refine stopq (op := .build 28 _) ?_) | (with_reducible refine stopq (op := .build 30 _) ?_) | (with_reducible refine stopq (op := .build 33 _) ?_) | (with_reducible refine stopq (op := .build 35 _) ?_) | (with_reducible refine stopq (op := .build 40 _) ?_) | (with_reducible refine stopq (op := .build 76 _) ?_) | (with_reducible refine stopq (op := .build 77 _) ?_) | (with_reducible refine stopq (op := .lookup _ _ _ _) ?_) | (with_reducible refine stopq (op := .binOp .eql 28 _ _ _) ?_) | (with_reducible refine stopq (op := .binOp .eql 40 _ _ _) ?_) | (with_reducible refine stopq (op := .binOp .neq 28 _ _ _) ?_) | (with_reducible refine stopq (op := .binOp .neq 40 _ _ _) ?_) | go_big_quiet_step (fail))
      go_big_quiet_step ((go_at_call 20; with_reducible exact quiet_sub (SV.out _)))
      repeat (first | go_big_quiet_skip | (with_reducible refine stopq (op := .load 27 _) ?_) | (with_reducible refine stopq (op := .load 28 _) ?_) | (with_reducible refine stopq (op := .load 30 _) ?_) | (with_reducible refine stopq (op := .load 33 _) ?_) | (with_reducible refine stopq (op := .load 35 _) ?_) | (with_reducible refine stopq (op := .load 40 _) ?_) | (with_reducible refine stopq (op := .load 76 _) ?_) | (with_reducible refine stopq (op := .load 77 _) ?_) | (with_reducible refine stopq (op := .build 27 _) ?_) | (with_reducible refine stopq (op := .build 28 _) ?_) | (with_reducible refine stopq (op := .build 30 _) ?_) | (with_reducible refine stopq (op := .build 33 _) ?_) | (with_reducible refine stopq (op := .build 35 _) ?_) | (with_reducible refine stopq (op := .build 40 _) ?_) | (with_reducible refine stopq (op := .build 76 _) ?_) | (with_reducible refine stopq (op := .build 77 _) ?_) | (with_reducible refine stopq (op := .lookup _ _ _ _) ?_) | (with_reducible refine stopq (op := .binOp .eql 28 _ _ _) ?_) | (with_reducible refine stopq (op := .binOp .eql 40 _ _ _) ?_) | (with_reducible refine stopq (op := .binOp .neq 28 _ _ _) ?_) | (with_reducible refine stopq (op := .binOp .neq 40 _ _ _) ?_) | go_big_quiet_step (fail))
      refine wpQuiet_nil ?_
      rintro w2 ⟨u2, hu2⟩
      have K2 : Keeps Nb wr w2 := hu2 ▸ u2.k
      clear hu2 u2 C1 C2 SV
      go_wp2
      go_roundw
      case rel => exact ⟨k + 1, by omega, by go_num, kw.trans_nb K2⟩
      case measure => simp [intOf]; omega
    · have hkl : k = cs.length := by omega
      subst hkl
      go_wp2
      go_ret
      exact ⟨rfl, kw⟩
end Go.Proofs.Ytffnaigkdocpmac
