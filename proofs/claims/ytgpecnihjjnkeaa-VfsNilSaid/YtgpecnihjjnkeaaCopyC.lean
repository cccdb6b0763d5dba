/- The closure of Copy: a file's copy, made once. -/
import Derived.Test.YtgpecnihjjnkeaaSdirW
import Derived.Test.YtgpecnihjjnkeaaPmap
set_option linter.unusedVariables false
set_option linter.unusedSimpArgs false
namespace Go.Vfs
open Go.Lk Go.RowKit
variable {w w' : World} {R R' S F F' : Nat → Prop} {d b : Nat} {x : Fl} {D : Dk} {fc : Nat → Fl}
theorem ptr_pk (x : Option Nat) : ptr x = pk x := by cases x <;> rfl
/-- The map of the copies made so far. -/
def pf (φ : Nat → Option Nat) : Option Nat → Option Value
  | none => none
  | some b => (φ b).map fun c => pk (some c)
/-- Rows of bytes made since base. -/
def Rn (w : World) (base : Nat) : Nat → Prop := fun k => base ≤ k ∧ k < w.heap.size ∧ IsT w 5 k
theorem Rn.keeps {base k : Nat} (h : Rn w base k) (hk : Keeps S w w') (hn : ¬ S k) : Rn w' base k := ⟨h.1, Nat.lt_of_lt_of_le h.2.1 hk.size, h.2.2.keeps hk hn⟩
/-- The copies made so far. -/
structure Copies (base : Nat) (w : World) (mo : Nat) (D : Dk) (fc : Nat → Fl) (φ : Nat → Option Nat) : Prop where
  map : PMap w mo (pf φ)
  new : ∀ b c, φ b = some c → base ≤ c ∧ FileAt w (Rn w base) c (fc b) ∧ Ref D b
  inj : ∀ b b' c, φ b = some c → φ b' = some c → b = b'
theorem Copies.keeps {base mo : Nat} {φ : Nat → Option Nat} (h : Copies base w mo D fc φ) (hk : Keeps S w w') (hm : ¬ S mo) (hf : ∀ k, IsT w 65 k → ¬ S k) (hr : ∀ k, Rn w base k → ¬ S k) (ho : ∀ b, Ref D b → ¬ S b) : Copies base w' mo D fc φ := by
  refine ⟨h.map.keeps hk hm (fun b hb => ?_), fun b c e => ?_, h.inj⟩
  · cases e : φ b with
    | none => exact absurd (by simp [pf, e]) hb
    | some c => exact ho b (h.new b c e).2.2
  · obtain ⟨h1, h2, h3⟩ := h.new b c e
    exact ⟨h1, (h2.keeps hk (hf c h2.isT) hr).mono (fun k hk2 => hk2.keeps hk (hr k hk2)), h3⟩
theorem Copies.nb {base mo : Nat} {φ : Nat → Option Nat} (h : Copies base w mo D fc φ) (hk : Keeps Nb w w') : Copies base w' mo D fc φ := h.keeps hk (fun e => e) (fun _ _ e => e) (fun _ _ e => e) (fun _ _ e => e)
theorem copies_new {base mo : Nat} (h : PMap w mo (fun _ => none)) : Copies base w mo D fc (fun _ => none) := by
  refine ⟨?_, fun b c e => (by cases e), fun b b' c e => (by cases e)⟩
  have : pf (fun _ => none) = fun _ => none := by funext x; cases x <;> rfl
  rw [this]; exact h
def pset (φ : Nat → Option Nat) (b c : Nat) : Nat → Option Nat := fun k => if k = b then some c else φ k
theorem pf_set (φ : Nat → Option Nat) (b c : Nat) : pput (pf φ) (some b) (pk (some c)) = pf (pset φ b c) := by
  funext x
  cases x with
  | none => simp [pput, pf]
  | some k =>
    unfold pput pf pset
    by_cases h : k = b
    · simp [h]
    · simp [h]
theorem pf_get (φ : Nat → Option Nat) (x : Option Nat) : (pf φ x).getD (.pointer none) = pk (x.bind φ) := by
  cases x with
  | none => rfl
  | some b => cases h : φ b <;> simp [pf, pk, h]
end Go.Vfs
namespace Go.Proofs.Ytgpecnihjjnkeaa
open Go.RowKit Go.Lk Go.Vfs
theorem pmT : PmT Try.prog 93 63 63 65 := ⟨Try.underlying93, Try.underlying63, by
  obtain ⟨j, h1, h2⟩ := Option.map_eq_some_iff.1 (show (Try.prog.info? 65).map (·.size) = some 2 by kernel_rfl)
  exact ⟨j, h1, by omega⟩⟩
/-- What the closure answers. -/
def CopyOne (base : Nat) (w : World) (mo : Nat) (D : Dk) (fc : Nat → Fl) (φ : Nat → Option Nat) (x : Option Nat) (e : Ending) (w' : World) : Prop :=
  ∃ φ', e = .returned (pk (x.bind φ')) ∧ Copies base w' mo D fc φ' ∧ (∀ b c, φ b = some c → φ' b = some c) ∧ (∀ b, x = some b → φ' b ≠ none) ∧ Keeps (· = mo) w w'
set_option maxHeartbeats 4000000 in
set_option maxRecDepth 100000 in
theorem copied_at (base a3 mo : Nat) (φ : Nat → Option Nat) (x : Option Nat) (D : Dk) (fc : Nat → Fl) (R : Nat → Prop) (w : World) (h : Copies base w mo D fc φ) (h1 : w.heap[a3]? = some (.cells #[.map (some mo)] 93 (0, 0))) (hb : base ≤ w.heap.size)
    (hx : ∀ b, x = some b → FileAt w R b (fc b) ∧ Ref D b) (hR : ∀ k, R k → k ≠ mo) : Calls Try.prog 56 #[pk x, .pointer (some ⟨a3, 0, none⟩)] w (CopyOne base w mo D fc φ x) := by
  have H := Lib.hid h
  have c1 : ∀ u : Sub w, u.wd.cell? ⟨a3, 0, none⟩ = some (.map (some mo)) := fun u => cell_of_block (u.k.nb h1)
  have C0 := c1 ⟨w, Keeps.refl _ _⟩
  have C0' : w.cell? ⟨a3, 0, none⟩ = some (.map (some mo)) := C0
  have HO : IsObj w x := fun b e => by obtain ⟨⟨v, z1, -⟩, -⟩ := hx b e; exact ⟨_, _, z1⟩
  have PG := Lib.hid (pf_get φ)
  cases x with
  | none =>
    have LK : (Instr.lookup 93 (.map (some mo)) (.pointer none) false).run Try.prog w = .ok (.pointer none) w := by
      have := h.map.look pmT (zero63 w) HO false
      simpa [pk, pf] using this
    clear h h1 hx C0
    show Calls Try.prog 56 #[.pointer none, .pointer (some ⟨a3, 0, none⟩)] w _
    go_enter Try.func56, Try.ntmps56
    go_wp2
    go_ret
    exact ⟨φ, rfl, H.out, fun _ _ e => e, fun b e => (by cases e), Keeps.refl _ _⟩
  | some b =>
    have LK := Lib.hid (h.map.look pmT (zero63 w) HO false)
    simp only [Bool.false_eq_true, if_false, PG.out] at LK
    cases hφ : φ b with
    | some c =>
      have LK2 : (Instr.lookup 93 (.map (some mo)) (.pointer (some ⟨b, 0, none⟩)) false).run Try.prog w = .ok (.pointer (some ⟨c, 0, none⟩)) w := by
        have := LK.out
        simpa [hφ, pk] using this
      have HP := Lib.hid hφ
      clear h h1 hx C0 hφ LK
      show Calls Try.prog 56 #[.pointer (some ⟨b, 0, none⟩), .pointer (some ⟨a3, 0, none⟩)] w _
      go_enter Try.func56, Try.ntmps56
      go_wp2
      go_ret
      exact ⟨φ, by rw [show (some b).bind φ = some c from HP.out]; rfl, H.out, fun _ _ e => e, fun b' e => (by cases e; rw [HP.out]; simp), Keeps.refl _ _⟩
    | none =>
      have LK2 : (Instr.lookup 93 (.map (some mo)) (.pointer (some ⟨b, 0, none⟩)) false).run Try.prog w = .ok (.pointer none) w := by
        have := LK.out
        simpa [hφ, pk] using this
      have HP := Lib.hid hφ
      obtain ⟨hf, hrf⟩ := hx b rfl
      have HF := Lib.hid hf
      have HRF := Lib.hid hrf
      have H1 := Lib.hid h1
      have HB := Lib.hid hb
      have HOB := Lib.hid HO
      clear h h1 hx C0 hφ LK hrf HO hb
      show Calls Try.prog 56 #[.pointer (some ⟨b, 0, none⟩), .pointer (some ⟨a3, 0, none⟩)] w _
      go_enter Try.func56, Try.ntmps56
      go_wp2
      obtain ⟨v, z1, z2, z3, z4⟩ := HF.out
      have Z2 := Lib.hid z2
      obtain ⟨va, vc, rfl, q6, q7, q8⟩ := z2.rows
      have hz : ∀ z ∈ (fc b).b, z < 256 := by obtain ⟨_, _, _, _, _, _, h, _⟩ := z2; exact h
      have QA := Lib.hid q8
      have Z1 := Lib.hid z1
      have Z3 := Lib.hid z3
      have HZ := Lib.hid hz
      obtain ⟨m, hm⟩ : ∃ m, m = (fc b).b.length := ⟨_, rfl⟩
      obtain ⟨j, hj⟩ : ∃ j, j = (fc b).lasts := ⟨_, rfl⟩
      have HM := Lib.hid hm
      have HJ := Lib.hid hj
      rw [← hm] at z1 q6 z3 z4
      rw [← hj] at z1 z3
      have Z1' := Lib.hid z1
      have c2 : w.cell? ⟨b, 0, none⟩ = some (.slice va m vc) := (cell_of_block z1).trans rfl
      have c3 : w.cell? ⟨b, 1, none⟩ = some (.int .i64 j) := (cell_of_block z1).trans rfl
      have hb65 : ∀ (W : World) (a : Option Addr) (n c k : Nat), (Instr.build 65 #[(0, .slice a n c), (1, .int .i64 (k : Nat))]).run Try.prog W = .ok (.agg #[.slice a n c, .int .i64 (k : Nat)]) W := fun _ _ _ _ _ => by kernel_rfl
      clear hm hj z1 z2 q8 hz LK2 c1
      have HS : Hid ((fun u : World => u.cell? ⟨a3, 0, none⟩ = some (.map (some mo)) ∧ u.cell? ⟨b, 0, none⟩ = some (.slice va m vc) ∧ u.cell? ⟨b, 1, none⟩ = some (.int .i64 j)) w.drew) := ⟨C0', c2, c3⟩
      refine WT.region (fun u : World => u.cell? ⟨a3, 0, none⟩ = some (.map (some mo)) ∧ u.cell? ⟨b, 0, none⟩ = some (.slice va m vc) ∧ u.cell? ⟨b, 1, none⟩ = some (.int .i64 j)) 13 14 [0, 1, 2, 3, 4, 5, 7, 8, 9, 10, 6, 11, 12, 13] (by kernel_rfl) rfl ?_
      refine WT.take 0 (v := .map (some mo)) (by simp only [List.getElem?_toArray, List.getElem?_cons_succ, List.getElem?_cons_zero]; rfl) (by kernel_rfl) (by exact fun _ _ _ h => h) (by rfl) (by rintro w ⟨C1, C2⟩; exact rn_load1 (by kernel_rfl) (by rfl) C1) HS.out ?_
      simp only [Nat.reduceAdd, Nat.zero_add, Act.put, List.setIfInBounds_toArray, List.set_cons_succ, List.set_cons_zero]
      refine WT.take 1 (v := _) (by simp only [List.getElem?_toArray, List.getElem?_cons_succ, List.getElem?_cons_zero]; rfl) (by kernel_rfl) (by exact fun _ _ _ h => h) (by rfl) (by rintro w ⟨C1, C2⟩; go_simp; with_reducible rfl) HS.out ?_
      simp only [Nat.reduceAdd, Nat.zero_add, Act.put, List.setIfInBounds_toArray, List.set_cons_succ, List.set_cons_zero]
      refine WT.take 2 (v := _) (by simp only [List.getElem?_toArray, List.getElem?_cons_succ, List.getElem?_cons_zero]; rfl) (by kernel_rfl) (by exact fun _ _ _ h => h) (by rfl) (by rintro w ⟨C1, C2⟩; go_simp; with_reducible rfl) HS.out ?_
      simp only [Nat.reduceAdd, Nat.zero_add, Act.put, List.setIfInBounds_toArray, List.set_cons_succ, List.set_cons_zero]
      refine WT.take 3 (v := _) (by simp only [List.getElem?_toArray, List.getElem?_cons_succ, List.getElem?_cons_zero]; rfl) (by kernel_rfl) (by exact fun _ _ _ h => h) (by rfl) (by rintro w ⟨C1, C2⟩; go_simp; with_reducible rfl) HS.out ?_
      simp only [Nat.reduceAdd, Nat.zero_add, Act.put, List.setIfInBounds_toArray, List.set_cons_succ, List.set_cons_zero]
      refine WT.take 4 (v := _) (by simp only [List.getElem?_toArray, List.getElem?_cons_succ, List.getElem?_cons_zero]; rfl) (by kernel_rfl) (by exact fun _ _ _ h => h) (by rfl) (by rintro w ⟨C1, C2⟩; go_simp; with_reducible rfl) HS.out ?_
      simp only [Nat.reduceAdd, Nat.zero_add, Act.put, List.setIfInBounds_toArray, List.set_cons_succ, List.set_cons_zero]
      refine WT.take 5 (v := .slice va m vc) (by simp only [List.getElem?_toArray, List.getElem?_cons_succ, List.getElem?_cons_zero]; rfl) (by kernel_rfl) (by exact fun _ _ _ h => h) (by rfl) (by rintro w ⟨C1, C2, C3⟩; exact rn_load1 (by kernel_rfl) (by rfl) C2) HS.out ?_
      simp only [Nat.reduceAdd, Nat.zero_add, Act.put, List.setIfInBounds_toArray, List.set_cons_succ, List.set_cons_zero]
      refine WT.take 7 (v := _) (by simp only [List.getElem?_toArray, List.getElem?_cons_succ, List.getElem?_cons_zero]; rfl) (by kernel_rfl) (by exact fun _ _ _ h => h) (by rfl) (by rintro w ⟨C1, C2⟩; go_simp; with_reducible rfl) HS.out ?_
      simp only [Nat.reduceAdd, Nat.zero_add, Act.put, List.setIfInBounds_toArray, List.set_cons_succ, List.set_cons_zero]
      refine WT.take 8 (v := _) (by simp only [List.getElem?_toArray, List.getElem?_cons_succ, List.getElem?_cons_zero]; rfl) (by kernel_rfl) (by exact fun _ _ _ h => h) (by rfl) (by rintro w ⟨C1, C2⟩; go_simp; with_reducible rfl) HS.out ?_
      simp only [Nat.reduceAdd, Nat.zero_add, Act.put, List.setIfInBounds_toArray, List.set_cons_succ, List.set_cons_zero]
      refine WT.take 9 (v := _) (by simp only [List.getElem?_toArray, List.getElem?_cons_succ, List.getElem?_cons_zero]; rfl) (by kernel_rfl) (by exact fun _ _ _ h => h) (by rfl) (by rintro w ⟨C1, C2⟩; go_simp; with_reducible rfl) HS.out ?_
      simp only [Nat.reduceAdd, Nat.zero_add, Act.put, List.setIfInBounds_toArray, List.set_cons_succ, List.set_cons_zero]
      refine WT.take 10 (v := .int .i64 j) (by simp only [List.getElem?_toArray, List.getElem?_cons_succ, List.getElem?_cons_zero]; rfl) (by kernel_rfl) (by exact fun _ _ _ h => h) (by rfl) (by rintro w ⟨C1, C2, C3⟩; exact rn_load1 (by kernel_rfl) (by rfl) C3) HS.out ?_
      simp only [Nat.reduceAdd, Nat.zero_add, Act.put, List.setIfInBounds_toArray, List.set_cons_succ, List.set_cons_zero]
      refine WT.call 6 (by simp only [List.getElem?_toArray, List.getElem?_cons_succ, List.getElem?_cons_zero]; rfl) (by kernel_rfl) (by rfl) (by go_simp; first | done | rfl | exact ⟨⟨rfl, rfl⟩, rfl⟩) (clone_row va m vc ((fc b).b.map fun x => Value.int .u8 (x : Nat)) w.drew ⟨QA.out, by rw [List.length_map, ← HM.out]; omega, one_nats⟩ ⟨q6, q7⟩ (by omega)) ?_
      rintro _ w2 ⟨v', rfl, ho, k2⟩
      have k02 : Keeps Nb w w2 := (Keeps.refl Nb w).drew.trans_nb k2
      have HS2 : Hid ((fun u : World => u.cell? ⟨a3, 0, none⟩ = some (.map (some mo)) ∧ u.cell? ⟨b, 0, none⟩ = some (.slice va m vc) ∧ u.cell? ⟨b, 1, none⟩ = some (.int .i64 j)) w2) := ⟨cell_of_block (k02.nb H1.out), (cell_of_block (k02.nb Z1'.out)).trans rfl, (cell_of_block (k02.nb Z1'.out)).trans rfl⟩
      refine ⟨_, rfl, HS2.out, ?_⟩
      simp only [Nat.reduceAdd, Nat.zero_add, Act.put, List.setIfInBounds_toArray, List.set_cons_succ, List.set_cons_zero]
      have hop := ho
      obtain ⟨ua, uc, rfl, u1, u2, u3, u4⟩ := owns_has hop
      refine WT.only 11 (v := .agg #[.slice ua m uc, .int .i64 j]) (by simp only [List.getElem?_toArray, List.getElem?_cons_succ, List.getElem?_cons_zero]; rfl) (by kernel_rfl) (by rfl) (rn_b01 (by rfl) (by rfl) (hb65 _ _ _ _ _)) HS2.out ?_
      simp only [Nat.reduceAdd, Nat.zero_add, Act.put, List.setIfInBounds_toArray, List.set_cons_succ, List.set_cons_zero]
      refine WT.onlyE 12 (by simp only [List.getElem?_toArray, List.getElem?_cons_succ, List.getElem?_cons_zero]; rfl) (by kernel_rfl) (by rfl) (re_box (by rfl)) ?_
      rintro _ w3 ⟨c, rfl, nc⟩
      have k03 : Keeps Nb w w3 := k02.trans_nb nc.k
      have HS3 : Hid ((fun u : World => u.cell? ⟨a3, 0, none⟩ = some (.map (some mo)) ∧ u.cell? ⟨b, 0, none⟩ = some (.slice va m vc) ∧ u.cell? ⟨b, 1, none⟩ = some (.int .i64 j)) w3) := ⟨cell_of_block (k03.nb H1.out), (cell_of_block (k03.nb Z1'.out)).trans rfl, (cell_of_block (k03.nb Z1'.out)).trans rfl⟩
      refine ⟨HS3.out, ?_⟩
      simp only [Nat.reduceAdd, Nat.zero_add, Act.put, List.setIfInBounds_toArray, List.set_cons_succ, List.set_cons_zero]
      refine WT.stop (by kernel_rfl) ?_
      have C3 := H.out.nb k03
      have HO3 : IsObj w3 (some b) := HOB.out.keeps k03 (fun _ _ e => e)
      refine WP.onlySkipE 13 (by simp only [List.getElem?_toArray, List.getElem?_cons_succ, List.getElem?_cons_zero]; rfl) (by kernel_rfl) (by rfl) (re_pput (a := some b) (v := pk (some c)) C3.map pmT (by rfl) (by rfl) (by rfl) HO3) ?_
      rintro w5 ⟨M5, k35⟩
      rw [pf_set] at M5
      simp only [Nat.reduceAdd, Nat.zero_add, Act.put, List.setIfInBounds_toArray, List.set_cons_succ, List.set_cons_zero]
      refine WP.done (by kernel_rfl) ?_
      have hcg : w2.heap.size ≤ c := nc.ge
      have hk02 := k02.size
      have hk23 := nc.k.size
      have hmo := H.out.map.lt
      have hmow : ¬ mo = c := by omega
      have B5 : w5.heap[c]? = some (.cells #[.slice ua m uc, .int .i64 j] 65 (0, 0)) := k35.at nc.blk (fun e => hmow e.symm)
      have hmapT : ∀ (e : TypeId) (k : Nat), IsT w3 e k → ¬ k = mo := fun e k hk e2 => by obtain ⟨es, cl, q, -⟩ := C3.map; exact hk.map q e2
      have ho5 : w5.ownsRow w.heap.size 5 1 (.slice ua m uc) (fc b).b.length ((fc b).b.map fun x => Value.int .u8 (x : Nat)) := by
        rw [← HM.out]
        exact owns_keeps (owns_keeps ho nc.k (fun _ _ e => e)) k35 (fun k hk e => by have : w.heap.size ≤ k := hk; omega)
      have hT5 : ∀ k off, ua = some ⟨k, off, none⟩ → IsT w5 5 k ∧ w.heap.size ≤ k ∧ k < w5.heap.size := fun k off e => by
        have h := u4 k off e
        have h5 : w.heap.size ≤ k := h.2.2.1
        exact ⟨(h.2.2.2.keeps nc.k (fun e => e)).keeps k35 (fun e => by omega), h5, by have := k35.size; omega⟩
      have hBy : Bytes w5 (Rn w5 base) (.slice ua m uc) (fc b).b := by
        have hb5 := owns_bytes ho5 HZ.out
        obtain ⟨a', c', e1, e2, e3, e4, e5, e6⟩ := hb5
        rw [HM.out] at e1 ⊢
        cases e1
        exact ⟨_, _, rfl, e2, e3, e4, e5, fun k off e hne => by have h5 := hT5 k off e; have := HB.out; exact ⟨by omega, h5.2.2, h5.1⟩⟩
      have HC5 : Copies base w5 mo D fc (pset φ b c) := by
        refine ⟨M5, fun b' c' e => ?_, fun b1 b2 c' e1 e2 => ?_⟩
        · unfold pset at e
          split at e
          · rename_i hbb
            subst hbb
            cases e
            refine ⟨by have := HB.out; omega, ⟨_, by rw [← HJ.out]; exact B5, hBy, Z3.out, by rw [← HM.out]; exact z4⟩, HRF.out⟩
          · obtain ⟨h1, h2, h3⟩ := C3.new b' c' e
            exact ⟨h1, (h2.keeps k35 (hmapT _ _ h2.isT) (fun k hk => hmapT _ _ hk.2.2)).mono (fun k hk => hk.keeps k35 (hmapT _ _ hk.2.2)), h3⟩
        · have hlt : ∀ b' c', φ b' = some c' → c' < w.heap.size := fun b' c' e => (H.out.new b' c' e).2.1.lt
          unfold pset at e1 e2
          split at e1 <;> split at e2
          · omega
          · cases e1; have := hlt _ _ e2; omega
          · cases e2; have := hlt _ _ e1; omega
          · exact H.out.inj b1 b2 c' e1 e2
      have K5 : Keeps (· = mo) w w5 := (Keeps.of_nb k03).trans k35 (fun _ _ e => e)
      have ha3 : ¬ a3 = mo := fun e => by obtain ⟨es, cl, q, -⟩ := H.out.map; rw [← e, H1.out] at q; cases q
      have C0 : w5.cell? ⟨a3, 0, none⟩ = some (.map (some mo)) := cell_of_block (K5.at H1.out ha3)
      have HO5 : IsObj w5 (some b) := HO3.keeps k35 (fun b' hb' => by cases hb'; exact hmapT 65 _ (IsT.keeps ⟨_, _, Z1'.out⟩ k03 (fun e => e)))
      have LK3 : (Instr.lookup 93 (.map (some mo)) (.pointer (some ⟨b, 0, none⟩)) false).run Try.prog w5 = .ok (.pointer (some ⟨c, 0, none⟩)) w5 := by
        have := HC5.map.look pmT (zero63 w5) HO5 false
        simpa [pf, pset, pk] using this
      have HC := Lib.hid HC5
      have KK := Lib.hid K5
      have HPS : Hid ((∀ b' c', φ b' = some c' → pset φ b c b' = some c') ∧ pset φ b c b = some c) := ⟨fun b' c' e => by
        unfold pset
        by_cases hbb : b' = b
        · subst hbb; rw [HP.out] at e; cases e
        · rw [if_neg hbb]; exact e, by simp [pset]⟩
      clear HC5 K5 hBy ho5 ho hop M5 C3 HS HS2 HS3 B5 hT5 k35 nc u3 u4 hmapT HO3 HO5
      go_wp2
      go_ret
      exact ⟨pset φ b c, by rw [show (some b).bind (pset φ b c) = some c from HPS.out.2]; rfl, HC.out, HPS.out.1, fun b' e => (by cases e; rw [HPS.out.2]; simp), KK.out⟩
end Go.Proofs.Ytgpecnihjjnkeaa
