/- Append: bytes are laid behind a file's. -/
import Derived.Test.YtgpecnihjjnkeaaCloneW
set_option linter.unusedVariables false
set_option linter.unusedSimpArgs false
namespace Go.Vfs
open Go.Lk Go.RowKit
variable {w w' : World} {R R' S F F' : Nat → Prop} {d b : Nat} {x : Fl} {D : Dk} {fc : Nat → Fl}
theorem Bytes.rows {v : Value} {l : List Nat} (h : Bytes w R v l) : ∃ a c, v = .slice a l.length c ∧ l.length ≤ c ∧ c ≤ maxLen ∧ Has w a (l.map fun x => .int .u8 (x : Nat)) := by
  obtain ⟨a, c, rfl, h1, h2, h3, -⟩ := h
  exact ⟨a, c, rfl, h1, h2, h3.has⟩
theorem has_take {a : Option Addr} {l : List Nat} (h : Has w a (l.map fun x => Value.int .u8 (x : Nat))) (n : Nat) : Has w a ((l.take n).map fun x => Value.int .u8 (x : Nat)) := by
  rcases h with h | ⟨b, off, rfl, h⟩
  · left; rw [List.map_take, h, List.take_nil]
  · refine .inr ⟨b, off, rfl, fun i v hv => ?_⟩
    rw [List.map_take, List.getElem?_take] at hv
    split at hv
    · exact h i v hv
    · cases hv
/-- What Append comes to. -/
def AppR (D : Dk) (fc : Nat → Fl) (s : ByteArray) (bs : List Nat) (e : Int) (D' : Dk) (fc' : Nat → Fl) : Prop :=
  (mnB s = false ∧ e = 2 ∧ D' = D ∧ fc' = fc) ∨ (mnB s = true ∧ flook D.files s = none ∧ e = 6 ∧ D' = D ∧ fc' = fc) ∨
  ∃ b, mnB s = true ∧ flook D.files s = some b ∧ ((D.cap - (tot D.files fc : Nat) < bs.length ∧ e = 5 ∧ D' = D ∧ fc' = fc) ∨ ((bs.length : Int) ≤ D.cap - (tot D.files fc : Nat) ∧ D.dead = true ∧ e = 8 ∧ D' = D ∧ fc' = fc) ∨
    ((bs.length : Int) ≤ D.cap - (tot D.files fc : Nat) ∧ D.dead = false ∧ e = (chg D).2.2 ∧ D' = (chg D).1 ∧ fc' = if (chg D).2.1 = 0 then fc else setf fc b ⟨(fc b).b ++ bs.take (if (chg D).2.1 = 2 then bs.length / 2 else bs.length), (fc b).lasts⟩))
end Go.Vfs
namespace Go.Proofs.Ytgpecnihjjnkeaa
open Go.RowKit Go.Lk Go.Vfs
set_option maxHeartbeats 4000000 in
set_option maxRecDepth 100000 in
theorem app2_at (d b a1 a2 a3 n : Nat) (v2 : Value) (bs : List Nat) (D : Dk) (F R Rb : Nat → Prop) (fc : Nat → Fl) (w : World) (h : DiskAt w d F R D fc) (hb : Ref D b) (h1 : w.heap[a1]? = some (.cells #[.pointer (some ⟨b, 0, none⟩)] 63 (0, 0)))
    (h2 : w.heap[a2]? = some (.cells #[v2] 31 (0, 0))) (h3 : w.heap[a3]? = some (.cells #[.int .i64 n] 3 (0, 0))) (hv : Bytes w Rb v2 bs) (hn : n ≤ bs.length) (hroom : (fc b).b.length + n ≤ 16777216) :
    Calls Try.prog 38 #[.pointer (some ⟨a1, 0, none⟩), .pointer (some ⟨a2, 0, none⟩), .pointer (some ⟨a3, 0, none⟩)] w fun e w' => (∃ v, e = .returned v) ∧ Now w w' d F R D (setf fc b ⟨(fc b).b ++ bs.take n, (fc b).lasts⟩) := by
  have H := Lib.hid h
  have HB := Lib.hid hb
  obtain ⟨⟨v, q1, q2, q3, q4⟩, q5⟩ := h.file b hb
  have Q2 := Lib.hid q2
  have HV := Lib.hid hv
  obtain ⟨va, vc, rfl, q6, q7, q8⟩ := q2.rows
  obtain ⟨ba, bc, rfl, b6, b7, b8⟩ := hv.rows
  have QA := Lib.hid (show Has w va ((fc b).b.map fun x => Value.int .u8 (x : Nat)) from q8)
  have BA := Lib.hid (has_take b8 n)
  have hz : ∀ z ∈ (fc b).b, z < 256 := by obtain ⟨_, _, _, _, _, _, h, _⟩ := q2; exact h
  have hz2 : ∀ z ∈ bs, z < 256 := by obtain ⟨_, _, _, _, _, _, h, _⟩ := hv; exact h
  have HZ := Lib.hid hz
  have HZ2 := Lib.hid hz2
  have QB := Lib.hid q1
  have q6b := Lib.hid q6
  have HQ3 := Lib.hid q3
  obtain ⟨m, hm⟩ : ∃ m, m = (fc b).b.length := ⟨_, rfl⟩
  obtain ⟨k, hk⟩ : ∃ k, k = bs.length := ⟨_, rfl⟩
  have HM := Lib.hid hm
  have HK := Lib.hid hk
  rw [← hm] at q1 hroom q6 q6b q3 q4
  rw [← hk] at hn b6 h2
  have H1 := Lib.hid h1
  have H2 := Lib.hid h2
  have H3 := Lib.hid h3
  have H4 := Lib.hid q1
  have hmx : bc ≤ 9223372036854775807 := by unfold maxLen at b7; exact b7
  have c1 : w.cell? ⟨a1, 0, none⟩ = some (.pointer (some ⟨b, 0, none⟩)) := cell_of_block h1
  have c2 : w.cell? ⟨a2, 0, none⟩ = some (.slice ba k bc) := cell_of_block h2
  have c3 : w.cell? ⟨a3, 0, none⟩ = some (.int .i64 n) := cell_of_block h3
  have c4 : w.cell? ⟨b, 0, none⟩ = some (.slice va m vc) := (cell_of_block q1).trans rfl
  clear h hb h1 h2 h3 hv hm hk q1 q2 q3 q5 q6 q8 b8 hz hz2
  go_enter Try.func38, Try.ntmps38
  have HS : Hid ((fun u : World => u.cell? ⟨a1, 0, none⟩ = some (.pointer (some ⟨b, 0, none⟩)) ∧ u.cell? ⟨a2, 0, none⟩ = some (.slice ba k bc) ∧ u.cell? ⟨a3, 0, none⟩ = some (.int .i64 n) ∧ u.cell? ⟨b, 0, none⟩ = some (.slice va m vc)) w.drew) := ⟨c1, c2, c3, c4⟩
  refine WT.region (fun u : World => u.cell? ⟨a1, 0, none⟩ = some (.pointer (some ⟨b, 0, none⟩)) ∧ u.cell? ⟨a2, 0, none⟩ = some (.slice ba k bc) ∧ u.cell? ⟨a3, 0, none⟩ = some (.int .i64 n) ∧ u.cell? ⟨b, 0, none⟩ = some (.slice va m vc)) 10 13 [0, 1, 2, 3, 4, 6, 7, 8, 5, 9, 10, 11, 12] (by kernel_rfl) rfl ?_
  refine WT.take 0 (v := .pointer (some ⟨b, 0, none⟩)) (by simp only [List.getElem?_toArray, List.getElem?_cons_succ, List.getElem?_cons_zero]; rfl) (by kernel_rfl) (by exact fun _ _ _ h => h) (by rfl) (by rintro w ⟨C1, C2⟩; exact rn_load1 (by kernel_rfl) (by rfl) C1) HS.out ?_
  simp only [Nat.reduceAdd, Nat.zero_add, Act.put, List.setIfInBounds_toArray, List.set_cons_succ, List.set_cons_zero]
  refine WT.take 1 (v := .pointer (some ⟨b, 0, none⟩)) (by simp only [List.getElem?_toArray, List.getElem?_cons_succ, List.getElem?_cons_zero]; rfl) (by kernel_rfl) (by exact fun _ _ _ h => h) (by rfl) (by rintro w ⟨C1, C2⟩; exact rn_load1 (by kernel_rfl) (by rfl) C1) HS.out ?_
  simp only [Nat.reduceAdd, Nat.zero_add, Act.put, List.setIfInBounds_toArray, List.set_cons_succ, List.set_cons_zero]
  refine WT.take 2 (v := _) (by simp only [List.getElem?_toArray, List.getElem?_cons_succ, List.getElem?_cons_zero]; rfl) (by kernel_rfl) (by exact fun _ _ _ h => h) (by rfl) (by rintro w ⟨C1, C2⟩; go_simp; with_reducible rfl) HS.out ?_
  simp only [Nat.reduceAdd, Nat.zero_add, Act.put, List.setIfInBounds_toArray, List.set_cons_succ, List.set_cons_zero]
  refine WT.take 3 (v := _) (by simp only [List.getElem?_toArray, List.getElem?_cons_succ, List.getElem?_cons_zero]; rfl) (by kernel_rfl) (by exact fun _ _ _ h => h) (by rfl) (by rintro w ⟨C1, C2⟩; go_simp; with_reducible rfl) HS.out ?_
  simp only [Nat.reduceAdd, Nat.zero_add, Act.put, List.setIfInBounds_toArray, List.set_cons_succ, List.set_cons_zero]
  refine WT.take 4 (v := .slice va m vc) (by simp only [List.getElem?_toArray, List.getElem?_cons_succ, List.getElem?_cons_zero]; rfl) (by kernel_rfl) (by exact fun _ _ _ h => h) (by rfl) (by rintro w ⟨C1, C2, C3, C4⟩; exact rn_load1 (by kernel_rfl) (by rfl) C4) HS.out ?_
  simp only [Nat.reduceAdd, Nat.zero_add, Act.put, List.setIfInBounds_toArray, List.set_cons_succ, List.set_cons_zero]
  refine WT.take 6 (v := .slice ba k bc) (by simp only [List.getElem?_toArray, List.getElem?_cons_succ, List.getElem?_cons_zero]; rfl) (by kernel_rfl) (by exact fun _ _ _ h => h) (by rfl) (by rintro w ⟨C1, C2, C3, C4⟩; exact rn_load1 (by kernel_rfl) (by rfl) C2) HS.out ?_
  simp only [Nat.reduceAdd, Nat.zero_add, Act.put, List.setIfInBounds_toArray, List.set_cons_succ, List.set_cons_zero]
  refine WT.take 7 (v := .int .i64 n) (by simp only [List.getElem?_toArray, List.getElem?_cons_succ, List.getElem?_cons_zero]; rfl) (by kernel_rfl) (by exact fun _ _ _ h => h) (by rfl) (by rintro w ⟨C1, C2, C3, C4⟩; exact rn_load1 (by kernel_rfl) (by rfl) C3) HS.out ?_
  simp only [Nat.reduceAdd, Nat.zero_add, Act.put, List.setIfInBounds_toArray, List.set_cons_succ, List.set_cons_zero]
  refine WT.take 8 (v := .slice ba n bc) (by simp only [List.getElem?_toArray, List.getElem?_cons_succ, List.getElem?_cons_zero]; rfl) (by kernel_rfl) (by exact fun _ _ _ h => h) (by rfl) (by rintro w ⟨C1, C2, C3, C4⟩; exact by go_simp; exact fun h => absurd h (by omega)) HS.out ?_
  simp only [Nat.reduceAdd, Nat.zero_add, Act.put, List.setIfInBounds_toArray, List.set_cons_succ, List.set_cons_zero]
  refine WT.call 5 (by simp only [List.getElem?_toArray, List.getElem?_cons_succ, List.getElem?_cons_zero]; rfl) (by kernel_rfl) (by rfl) (by go_simp; first | done | rfl | exact ⟨⟨rfl, rfl⟩, rfl⟩) (clone_row va m vc ((fc b).b.map fun x => Value.int .u8 (x : Nat)) w.drew ⟨QA.out, by rw [List.length_map, ← HM.out]; omega, one_nats⟩ ⟨q6b.out, q7⟩ (by omega)) ?_
  rintro _ w2 ⟨v', rfl, ho, k2⟩
  have k02 : Keeps Nb w w2 := (Keeps.refl Nb w).drew.trans_nb k2
  have HS2 : Hid ((fun u : World => u.cell? ⟨a1, 0, none⟩ = some (.pointer (some ⟨b, 0, none⟩)) ∧ u.cell? ⟨a2, 0, none⟩ = some (.slice ba k bc) ∧ u.cell? ⟨a3, 0, none⟩ = some (.int .i64 n) ∧ u.cell? ⟨b, 0, none⟩ = some (.slice va m vc)) w2) :=
    ⟨cell_of_block (k02.nb H1.out), cell_of_block (k02.nb H2.out), cell_of_block (k02.nb H3.out), (cell_of_block (k02.nb H4.out)).trans rfl⟩
  refine ⟨_, rfl, HS2.out, ?_⟩
  simp only [Nat.reduceAdd, Nat.zero_add, Act.put, List.setIfInBounds_toArray, List.set_cons_succ, List.set_cons_zero]
  refine WT.onlyE 9 (by simp only [List.getElem?_toArray, List.getElem?_cons_succ, List.getElem?_cons_zero]; rfl) (by kernel_rfl) (by rfl) (re_appO (wx := w.drew) (n := m) (m := n) (news := (bs.take n).map fun x => Value.int .u8 (x : Nat)) el31 k2 ho (by rfl) (by rfl) (BA.out.nb k02) (by rw [List.length_map, List.length_take, ← HK.out]; omega) one_nats (by unfold maxLen; omega) (by omega)) ?_
  rintro v3 w3 ⟨ho3, k3⟩
  have k03 : Keeps Nb w w3 := (Keeps.refl Nb w).drew.trans_nb k3
  have HS3 : Hid ((fun u : World => u.cell? ⟨a1, 0, none⟩ = some (.pointer (some ⟨b, 0, none⟩)) ∧ u.cell? ⟨a2, 0, none⟩ = some (.slice ba k bc) ∧ u.cell? ⟨a3, 0, none⟩ = some (.int .i64 n) ∧ u.cell? ⟨b, 0, none⟩ = some (.slice va m vc)) w3) :=
    ⟨cell_of_block (k03.nb H1.out), cell_of_block (k03.nb H2.out), cell_of_block (k03.nb H3.out), (cell_of_block (k03.nb H4.out)).trans rfl⟩
  refine ⟨HS3.out, ?_⟩
  simp only [Nat.reduceAdd, Nat.zero_add, Act.put, List.setIfInBounds_toArray, List.set_cons_succ, List.set_cons_zero]
  refine WT.stop (by kernel_rfl) ?_
  refine WP.only 10 (v := _) (by simp only [List.getElem?_toArray, List.getElem?_cons_succ, List.getElem?_cons_zero]; rfl) (by kernel_rfl) (by rfl) (by go_simp; first | with_reducible rfl | exact ⟨rfl, rfl⟩) ?_
  simp only [Nat.reduceAdd, Nat.zero_add, Act.put, List.setIfInBounds_toArray, List.set_cons_succ, List.set_cons_zero]
  refine WP.only 11 (v := _) (by simp only [List.getElem?_toArray, List.getElem?_cons_succ, List.getElem?_cons_zero]; rfl) (by kernel_rfl) (by rfl) (by go_simp; first | with_reducible rfl | exact ⟨rfl, rfl⟩) ?_
  simp only [Nat.reduceAdd, Nat.zero_add, Act.put, List.setIfInBounds_toArray, List.set_cons_succ, List.set_cons_zero]
  have o3 : v3.cells = #[v3] ∧ v3.oneCell' = true := by obtain ⟨_, _, rfl, -⟩ := owns_has ho3; exact ⟨rfl, rfl⟩
  refine WP.onlySkipE 12 (by simp only [List.getElem?_toArray, List.getElem?_cons_succ, List.getElem?_cons_zero]; rfl) (by kernel_rfl) (by rfl) (re_store (v := v3) (n := 1) (by kernel_rfl) (by rfl) (by rfl) (k03.nb H4.out) (by rw [o3.1]; rfl) (by simp) (by rw [o3.1]; simpa using o3.2)) ?_
  intro w5 s5
  rw [o3.1] at s5
  simp only [Nat.reduceAdd, Nat.zero_add, Act.put, List.setIfInBounds_toArray, List.set_cons_succ, List.set_cons_zero]
  refine WP.done (by kernel_rfl) ?_
  go_wp2
  go_end0
  have kb : Keeps (· = b) w w5 := (Keeps.of_nb k03).trans s5.k (fun _ _ e => e)
  have k5 : Keeps F w w5 := kb.mono (fun i _ e => e ▸ (H.out.file b HB.out).2)
  have hlen : ((fc b).b ++ bs.take n).length = m + n := by rw [List.length_append, List.length_take, ← HM.out, ← HK.out]; omega
  have hbl : b < w.heap.size := H.out.ltF b (H.out.file b HB.out).2
  have hz3 := k03.size
  have hz5 := s5.k.size
  have ho5 : w5.ownsRow w.heap.size 5 1 v3 ((fc b).b ++ bs.take n).length (((fc b).b ++ bs.take n).map fun x => Value.int .u8 (x : Nat)) := by
    rw [hlen, List.map_append]
    exact owns_keeps ho3 s5.k (fun k hk e => by have : w.heap.size ≤ k := hk; omega)
  have hB5 := owns_bytes ho5 (fun z hz => by
    rcases List.mem_append.1 hz with h | h
    · exact HZ.out z h
    · exact HZ2.out z (List.mem_of_mem_take h))
  refine ⟨⟨_, rfl⟩, F, (fun k => R k ∨ (w.heap.size ≤ k ∧ k < w5.heap.size)), ?_, fun k hk => .inl hk, fun k hk => hk.imp id fun h => h.1, k5⟩
  refine H.out.set HB.out kb ⟨v3, s5.blk, hB5.mono (fun k h => .inr h), ?_, ?_⟩ (fun _ h => .inl h) (fun _ h => h)
  · have := HQ3.out; simp only [List.length_append]; omega
  · simp only; rw [hlen]; omega
end Go.Proofs.Ytgpecnihjjnkeaa
