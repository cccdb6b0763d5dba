/- read: a file's bytes as a string. -/
import Derived.Test.YtgpecnihjjnkeaaLawV
import Derived.Laws.BytesArg
set_option linter.unusedVariables false
set_option linter.unusedSimpArgs false
namespace Go.Vfs
open Go.Lk Go.RowKit
/-- Bytes as a string. -/
def bstr (l : List Nat) : ByteArray := strOfNums (l.map fun x : Nat => (x : Int))
theorem rn_str {P : Program} {w : World} {dst : Option Tmp} {x : Operand} {src t e ty : TypeId} {pos : String} {aft : Array Edge} {gd : Option (Nat × Bool)} {a : Act} {ad : Option Addr} {n c : Nat} {l : List Nat} (hs : P.underlying src = some (.slice e)) (he : P.underlying e = some (.int .u8)) (hd : P.underlying t = some .string)
    (hx : a.eval x = .slice ad n c) (hh : Has w ad (l.map fun x => Value.int .u8 (x : Nat))) (hl : l.length = n) : (execOp a.eval ⟨dst, .convert src t x, ty, pos, aft, gd⟩).run P w = .ok (.value (.string (bstr l))) w := by
  unfold execOp
  rcases hh with h | ⟨b, off, rfl, hc⟩
  · have h0 : l = [] := List.map_eq_nil_iff.1 h
    subst h0
    simp at hl; subst hl
    cases ad with
    | none => simp only [hx, Sem.run_bind, run_convert_bytes_nil w src e hs he 0 c t hd, Result.andThen_ok, Sem.run_pure]; rfl
    | some ad =>
      have hz : (convert src t (.slice (some ad) 0 c)).run P w = .ok (.string (bstr [])) w := by
        rw [run_convert_bytes_string w src t e _ 0 c hs he hd, run_bytesToString w ad 0 c [] (by simpa using run_loadCells_list (P := P) w ad [] (by simp))]
        rfl
      simp only [hx, Sem.run_bind, hz, Result.andThen_ok, Sem.run_pure]
  · have := run_convert_bytes_arg w src e hs he b off n c (l.map fun x : Nat => (x : Int)) (by simpa using hl) (fun i hi => by
      have h1 := hc i (.int .u8 (ntn l i : Nat)) (by rw [List.getElem?_map, List.getElem?_eq_getElem (by omega), ntn_eq (by omega)]; rfl)
      rw [h1]
      simp [ntn, List.getD_eq_getElem?_getD, List.getElem?_eq_getElem (show i < l.length by omega)]) t hd
    simp only [hx, Sem.run_bind, this, Result.andThen_ok, Sem.run_pure]; rfl
end Go.Vfs
namespace Go.Proofs.Ytgpecnihjjnkeaa
open Go.RowKit Go.Lk Go.Vfs
/-- What read tells. -/
def rdS (D : Dk) (fc : Nat → Fl) (s : ByteArray) : ByteArray := if (readOf D fc s).2 = 0 then bstr (readOf D fc s).1 else if (readOf D fc s).2 = 2 then bstr [45, 50] else bstr [45, 54]
theorem read_cases (D : Dk) (fc : Nat → Fl) (s : ByteArray) : readOf D fc s = ([], 2) ∨ readOf D fc s = ([], 6) ∨ ∃ b, flook D.files s = some b ∧ readOf D fc s = ((fc b).b, 0) := by
  unfold readOf
  rcases found_cases D s with ⟨q1, q2⟩ | ⟨q1, q2, q3⟩ | ⟨b, q1, q2, q3⟩
  · rw [q2]; exact .inl rfl
  · rw [q3]; exact .inr (.inl rfl)
  · rw [q3]; exact .inr (.inr ⟨b, q2, rfl⟩)
variable {W0 w w' : World} {d : Nat} {D : Dk} {fc : Nat → Fl}
set_option maxHeartbeats 1000000 in
theorem lread (h : Db W0 w d D fc) (s : ByteArray) (hs : s.size ≤ maxLen) : Calls Try.prog 21 #[.pointer (some ⟨d, 0, none⟩), .string s] w fun e w' => e = .returned (.string (rdS D fc s)) ∧ Keeps Nb w w' := by
  obtain ⟨F, R, h⟩ := h
  have RA := Lib.hid (read_at d s D F R fc w h.at_ hs)
  clear h hs
  go_enter Try.func21, Try.ntmps21
  go_wp2_with fail
  refine RA.out.mono ?_
  rintro _ w1 ⟨v, rfl, ho, k1⟩
  rcases read_cases D fc s with hr | hr | ⟨b, hb, hr⟩
  · have HR : Hid (rdS D fc s = bstr [45, 50]) := by refine Lib.hid ?_; unfold rdS; rw [hr]; rfl
    rw [hr] at ho ⊢
    clear hr ho
    go_wp2_with (first | go_skip | (with_reducible refine stop_buildSlice ?_) | (with_reducible refine stop_convert (s := 31) ?_) | fail)
    refine (num_at 2 w1).mono ?_; rintro _ _ ⟨rfl, rfl⟩
    go_wp2_with (first | go_skip | (with_reducible refine stop_buildSlice ?_) | (with_reducible refine stop_convert (s := 31) ?_) | fail)
    refine (num_at 2 w1).mono ?_; rintro _ _ ⟨rfl, rfl⟩
    go_wp2_with (first | go_skip | (with_reducible refine stop_buildSlice ?_) | (with_reducible refine stop_convert (s := 31) ?_) | fail)
    refine at_out (wpList_valE rfl (re_buildSlice el31 [.int .u8 45, .int .u8 50] rfl (by simp [List.range'_succ]; first | done | rfl | exact ⟨rfl, rfl⟩) (by simp [Value.cells]) (by simp)) ?_)
    rintro _ w2 ⟨g, rfl, n2⟩
    simp only [Nat.reduceAdd, Nat.zero_add, Act.put, List.setIfInBounds_toArray, List.set_cons_succ, List.set_cons_zero]
    go_wp2_with (first | go_skip | (with_reducible refine stop_buildSlice ?_) | (with_reducible refine stop_convert (s := 31) ?_) | fail)
    refine at_out (wpList_val rfl (rn_str (l := [45, 50]) Try.underlying31 Try.underlying5 Try.underlying9 (by rfl) (has_block n2.blk) rfl) ?_)
    simp only [Nat.reduceAdd, Nat.zero_add, Act.put, List.setIfInBounds_toArray, List.set_cons_succ, List.set_cons_zero]
    have K2 := Lib.hid (k1.trans_nb n2.k)
    clear n2
    go_wp2
    go_ret
    exact ⟨by rw [HR.out]; rfl, K2.out⟩
  · have HR : Hid (rdS D fc s = bstr [45, 54]) := by refine Lib.hid ?_; unfold rdS; rw [hr]; rfl
    rw [hr] at ho ⊢
    clear hr ho
    go_wp2_with (first | go_skip | (with_reducible refine stop_buildSlice ?_) | (with_reducible refine stop_convert (s := 31) ?_) | fail)
    refine (num_at 6 w1).mono ?_; rintro _ _ ⟨rfl, rfl⟩
    go_wp2_with (first | go_skip | (with_reducible refine stop_buildSlice ?_) | (with_reducible refine stop_convert (s := 31) ?_) | fail)
    refine (num_at 6 w1).mono ?_; rintro _ _ ⟨rfl, rfl⟩
    go_wp2_with (first | go_skip | (with_reducible refine stop_buildSlice ?_) | (with_reducible refine stop_convert (s := 31) ?_) | fail)
    refine at_out (wpList_valE rfl (re_buildSlice el31 [.int .u8 45, .int .u8 54] rfl (by simp [List.range'_succ]; first | done | rfl | exact ⟨rfl, rfl⟩) (by simp [Value.cells]) (by simp)) ?_)
    rintro _ w2 ⟨g, rfl, n2⟩
    simp only [Nat.reduceAdd, Nat.zero_add, Act.put, List.setIfInBounds_toArray, List.set_cons_succ, List.set_cons_zero]
    go_wp2_with (first | go_skip | (with_reducible refine stop_buildSlice ?_) | (with_reducible refine stop_convert (s := 31) ?_) | fail)
    refine at_out (wpList_val rfl (rn_str (l := [45, 54]) Try.underlying31 Try.underlying5 Try.underlying9 (by rfl) (has_block n2.blk) rfl) ?_)
    simp only [Nat.reduceAdd, Nat.zero_add, Act.put, List.setIfInBounds_toArray, List.set_cons_succ, List.set_cons_zero]
    have K2 := Lib.hid (k1.trans_nb n2.k)
    clear n2
    go_wp2
    go_ret
    exact ⟨by rw [HR.out]; rfl, K2.out⟩
  · have HR : Hid (rdS D fc s = bstr (fc b).b) := by refine Lib.hid ?_; unfold rdS; rw [hr]; rfl
    rw [hr] at ho ⊢
    obtain ⟨va, vc, rfl, h1, h2, h3, -⟩ := owns_has ho
    have H3 := Lib.hid h3
    obtain ⟨m, hm⟩ : ∃ m, m = (fc b).b.length := ⟨_, rfl⟩
    have HM := Lib.hid hm
    simp only at h1 h2 ⊢
    rw [← hm] at h1 ⊢
    clear hr ho h3 hm hb
    go_wp2_with (first | go_skip | (with_reducible refine stop_buildSlice ?_) | (with_reducible refine stop_convert (s := 31) ?_) | fail)
    refine (num_at 0 w1).mono ?_; rintro _ _ ⟨rfl, rfl⟩
    go_wp2_with (first | go_skip | (with_reducible refine stop_buildSlice ?_) | (with_reducible refine stop_convert (s := 31) ?_) | fail)
    refine at_out (wpList_val rfl (rn_str (l := (fc b).b) Try.underlying31 Try.underlying5 Try.underlying9 (by rfl) H3.out HM.out.symm) ?_)
    simp only [Nat.reduceAdd, Nat.zero_add, Act.put, List.setIfInBounds_toArray, List.set_cons_succ, List.set_cons_zero]
    go_wp2
    go_ret
    exact ⟨by rw [HR.out]; rfl, k1⟩
end Go.Proofs.Ytgpecnihjjnkeaa
