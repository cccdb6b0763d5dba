/- The walk of crc.Fit, and what it gives. -/
import Derived.Test.YtffnaigkdocpmabTornW
import Derived.Test.YtffnaigkdocpmabArr
set_option linter.unusedVariables false
namespace Go.Crc
open Go.Lk
/-- A number's four bytes. -/
def four (d : Nat) : List Nat := [d % 256, d / 2 ^ 8 % 256, d / 2 ^ 16 % 256, d / 2 ^ 24 % 256]
theorem four_bytes (d : Nat) : Bytes (four d) := by intro x hx; simp [four] at hx; omega
theorem four_le {d : Nat} (h : d < 2 ^ 32) : le (four d) = d := by
  unfold four
  rw [le_cons _ (by omega), le_cons _ (by omega), le_cons _ (by omega), le_cons _ (by omega)]
  simp only [le]; omega
def noughts : List Nat := [0, 0, 0, 0]
theorem noughts_bytes : Bytes noughts := by intro x hx; simp [noughts] at hx; omega
theorem noughts_le : le noughts = 0 := by decide
/-- What must go in. -/
def diffs (s t : Nat) : Nat := outs (cpl t) noughts ^^^ cpl s
theorem diffs_lt (s t : Nat) : diffs s t < 2 ^ 32 := Nat.xor_lt_two_pow (outs_lt (cpl_lt _) noughts_bytes) (cpl_lt _)
theorem mor_fit {s t : Nat} (ht : t < 2 ^ 32) : mor s (four (diffs s t)) = t := by
  unfold mor
  rw [inns_le, four_le (diffs_lt s t)]
  unfold diffs
  rw [Nat.xor_comm (outs (cpl t) noughts), xor_cancel']
  have h := inns_outs (cpl_lt t) noughts_bytes
  rw [inns_le, noughts_le, Nat.xor_zero] at h
  have hl : ∀ d, (four d).length = noughts.length := fun _ => rfl
  rw [hl, h, cpl_cpl ht]
theorem fit_only {s t : Nat} {o : List Nat} (ht : t < 2 ^ 32) (ho : Bytes o) (hl : o.length = 4) : mor s o = t ↔ o = four (diffs s t) := by
  constructor
  · intro h
    refine inns_tell (cpl_lt s) ho (four_bytes _) hl (by omega) ?_
    exact cpl_inj (inns_lt (cpl_lt s) ho) (inns_lt (cpl_lt s) (four_bytes _)) (by rw [show cpl (inns (cpl s) o) = mor s o from rfl, h]; exact (mor_fit ht).symm)
  · rintro rfl; exact mor_fit ht
end Go.Crc
namespace Go.Proofs.Ytffnaigkdocpmab
open Go.RowKit Go.Lk Go.Crc

theorem zero34 : (Try.prog.info? 34).map (·.zero) = some (some (.agg (arrV .u8 noughts))) := by kernel_rfl
theorem agg34 : AggT Try.prog 34 4 := ⟨by kernel_rfl, by kernel_rfl⟩
/-- Four bytes come back. -/
def IsFour (m : List Nat) (w : World) (e : Ending) (w' : World) : Prop := e = .returned (.agg (arrV .u8 m)) ∧ Keeps Nb w w'

/-- k of them are laid. -/
def part (d k : Nat) : List Nat := (four d).take k ++ noughts.drop k
theorem part_set {d k : Nat} (h : k < 4) : (part d k).set k (d / 2 ^ (8 * k) % 256) = part d (k + 1) := by
  match k, h with
  | 0, _ => simp [part, four, noughts]
  | 1, _ => rfl
  | 2, _ => rfl
  | 3, _ => rfl
theorem part_len {d k : Nat} (h : k ≤ 4) : (part d k).length = 4 := by simp [part, four, noughts]; omega

set_option maxRecDepth 100000 in
set_option maxHeartbeats 1000000 in
theorem fit_at (s t : Nat) (w : World) (hs : s < 2 ^ 32) (ht : t < 2 ^ 32) : Calls Try.prog 14 #[.int .u32 s, .int .u32 t] w (IsFour (four (diffs s t)) w) := by
  have e1 := cpl_bits hs
  have e2 := cpl_bits ht
  have C := Lib.hid (fun (u : World) (h : ReadsN .u8 u (some ⟨w.heap.size, 0, none⟩) noughts) => out_at (cpl t) 4 4 (some ⟨w.heap.size, 0, none⟩) noughts u (cpl_lt t) rfl h noughts_bytes (by decide))
  have e3 : bits .xor .u32 ((outs (cpl t) noughts : Nat) : Int) ((cpl s : Nat) : Int) = ((diffs s t : Nat) : Int) := xor32 (outs_lt (cpl_lt t) noughts_bytes) (cpl_lt s)
  have hD := diffs_lt s t
  have HB : ArrB .u8 34 (w.alloc (.cells (arrV .u8 noughts) 34)) w.heap.size noughts := block_alloc _ _
  generalize diffs s t = d at *
  generalize outs (cpl t) noughts = x at *
  generalize cpl t = ct at *
  generalize cpl s = c at *
  go_enter Try.func14, Try.ntmps14
  go_wp2_with (first | (refine wp_alloc zero34 ?_) | (go_at_call 17; refine at_in ?_))
  refine at_out ((C.out _ HB.own.reads).mono ?_); rintro e w1 ⟨rfl, K⟩
  replace HB := HB.keeps K (fun e => e)
  replace K := ((Keeps.refl Nb w).alloc (.cells (arrV .u8 noughts) 34)).trans_nb K
  go_wp2
  go_loopw [14] (fun i wr => ∃ k : Nat, k ≤ 4 ∧ i = .int .i64 k ∧ ArrB .u8 34 wr w.heap.size (part d k) ∧ Keeps Nb w wr) (fun i _ => 4 - (intOf i).toNat)
  case atStart => exact ⟨0, by omega, rfl, HB, K⟩
  case round =>
    clear HB K
    obtain ⟨k, hk, rfl, HB, K⟩ := hrel
    by_cases hlt : k < 4
    · have hc := HB.own.cell (i := k) (by rw [part_len hk]; exact hlt)
      have hf := HB.own.free k
      have HS := Lib.hid (HB.set k (d / 2 ^ (8 * k) % 256))
      rw [part_set hlt, show ((d / 2 ^ (8 * k) % 256 : Nat) : Int) = (d : Int) / 2 ^ (8 * k) % 256 by push_cast; rfl] at HS
      generalize ntn (part d k) k = old at *
      have HB' := Lib.hid HB; clear HB
      go_wp2
      go_roundw
      case rel => exact ⟨k + 1, by omega, by go_num, HS.out, K.setCell (p := ⟨w.heap.size, k, none⟩) (fun h => absurd h (Nat.lt_irrefl _)) _⟩
      case measure => simp [intOf]; omega
    · obtain rfl : k = 4 := by omega
      have hp : part d 4 = four d := rfl
      rw [hp] at HB
      have hsz : (arrV .u8 (four d)).size = 4 := arrV_size _ _
      go_wp2_with (first | (refine wp_loadAll agg34 rfl HB hsz ?_) | (refine wp_storeAll (ds := arrV .u8 (four d)) agg34.size rfl rfl HB hsz hsz (arrV_one _ _) ?_))
      refine bodyPost_ret (results_all agg34 rfl _ rfl (setRow_heap wr w.heap.size (arrV .u8 (four d)) (arrV .u8 (four d)) 34 (0, 0) HB) hsz) rfl ⟨rfl, K.setRow (fun h => absurd h (Nat.lt_irrefl _)) _⟩
end Go.Proofs.Ytffnaigkdocpmab
