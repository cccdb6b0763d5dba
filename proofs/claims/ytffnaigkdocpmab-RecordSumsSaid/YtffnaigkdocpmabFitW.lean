/- The walk of SumsFit: it returns true and writes nothing that was there. -/
import Derived.Test.YtffnaigkdocpmabFit
import Derived.Test.YtffnaigkdocpmabEq
import Derived.ProofKit
import Derived.OpenShut
set_option linter.unusedVariables false
namespace Go.Proofs.Ytffnaigkdocpmab
open Go.RowKit Go.Lk Go.Crc

theorem arr34 : ArrT Try.prog 34 5 4 .u8 := ⟨Try.underlying34, Try.underlying5, by kernel_rfl, by kernel_rfl, by kernel_rfl, by kernel_rfl⟩
theorem wf_bytes {m : List Nat} (h : Bytes m) : ∀ x ∈ m, (Lit.int .u8 (x : Nat)).wf = true := fun x hx => by
  have := h x hx
  simp [Lit.wf]
  rw [show IntKind.u8.min = 0 from rfl, show IntKind.u8.max = 255 from rfl]; omega

theorem four_of {w : World} {base : Nat} {H : Type} {enc : TypeId × Value → H} {v : Value} {d : DataW H} {p : List MemPlace} (kv : Value.okWide Try.prog w .any base 34 v) (k : DataW.Trod enc Try.prog w 0 (fun _ => true) true 34 v d p) :
    ∃ o : List Nat, o.length = 4 ∧ Bytes o ∧ v = .agg (arrV .u8 o) := by
  unfold Value.okWide at kv
  rw [Try.underlying34] at kv
  obtain ⟨cs, rfl, hsz, -⟩ := kv
  obtain ⟨fuel, hf⟩ := k
  obtain ⟨xs, m, -, -, hl, hx, hi⟩ := DataW.trod_array Try.underlying34 hf
  have h4 : Try.prog.cellsOf 34 = 4 := by kernel_rfl
  have h1 : Try.prog.cellsOf 5 = 1 := by kernel_rfl
  rw [h4] at hsz
  rw [h1] at hi
  have each : ∀ i, i < 4 → ∃ n : Nat, n < 256 ∧ cs[i]? = some (.int .u8 (n : Nat)) := by
    intro i hi4
    have h := hi i hi4
    rw [List.getElem?_eq_getElem (by rw [hx]; exact hi4)] at h
    obtain ⟨n, hn, -, hw⟩ := DataW.trod_int Try.underlying5 h
    simp [Lit.wf] at hw
    rw [show IntKind.u8.min = 0 from rfl, show IntKind.u8.max = 255 from rfl] at hw
    refine ⟨n.toNat, by omega, ?_⟩
    have hcs : (Value.cells (.agg cs)).toList = cs.toList := rfl
    rw [hcs, Nat.mul_one] at hn
    have := congrArg (fun l => l[0]?) hn
    simp only [List.getElem?_take, List.getElem?_drop] at this
    simp at this
    rw [this]
    congr 2; omega
  obtain ⟨n0, a0, b0⟩ := each 0 (by decide)
  obtain ⟨n1, a1, b1⟩ := each 1 (by decide)
  obtain ⟨n2, a2, b2⟩ := each 2 (by decide)
  obtain ⟨n3, a3, b3⟩ := each 3 (by decide)
  refine ⟨[n0, n1, n2, n3], rfl, by intro x hx; simp at hx; omega, ?_⟩
  congr 1
  apply Array.ext_getElem?
  intro i
  match i with
  | 0 => rw [b0]; rfl
  | 1 => rw [b1]; rfl
  | 2 => rw [b2]; rfl
  | 3 => rw [b3]; rfl
  | i + 4 => rw [Array.getElem?_eq_none (by omega)]; rfl

namespace sumsFit
set_option maxRecDepth 100000 in
set_option maxHeartbeats 1000000 in
theorem walk {H : Type} {enc : TypeId × Value → H} {base : Nat} (w : World) {a0 : Int} (w0 : (Lit.int .u32 a0).wf = true) {a1 : Int} (w1 : (Lit.int .u32 a1).wf = true) {v2 : Value} {d2 : DataW H} {p2 : List MemPlace} (kv2 : Value.okWide Try.prog w .any base 34 v2) (k2 : DataW.Trod enc Try.prog w 0 (fun _ => true) true 34 v2 d2 p2) :
    Calls Try.prog 7 #[.int .u32 a0, .int .u32 a1, v2] w fun e w' => e = .returned (.bool true) ∧ Below w.heap.size w w' := by
  obtain ⟨s, rfl, hs⟩ := u32_nat w0
  obtain ⟨t, rfl, ht⟩ := u32_nat w1
  obtain ⟨o, hol, hob, rfl⟩ := four_of kv2 k2
  clear w0 w1 kv2 k2
  have ONLY := Lib.hid (fit_only (s := s) ht hob hol)
  have FIT := Lib.hid (mor_fit (s := s) ht)
  have hfb := four_bytes (diffs s t)
  have hfl : (four (diffs s t)).length = 4 := rfl
  have HF := Lib.hid (fit_at s t · hs ht)
  generalize four (diffs s t) = f at *
  have hfs : (arrV .u8 f).size = 4 := by rw [arrV_size]; exact hfl
  have hos : (arrV .u8 o).size = 4 := by rw [arrV_size]; exact hol
  have HFL := Lib.hid hfl; have HOL := Lib.hid hol; clear hfl hol
  have HB0 : ArrB .u8 34 (w.alloc (.cells (arrV .u8 o) 34)) w.heap.size o := block_alloc _ _
  have K0 := (Keeps.refl Nb w).alloc (.cells (arrV .u8 o) 34)
  have tt : ((t : Int) != t) = false := by simp
  go_enter Try.func7, Try.ntmps7
  go_wp2_with (first | (refine wp_box (cs := arrV .u8 o) rfl ?_) | (go_at_call 14; refine at_in ?_))
  generalize hw1 : w.alloc (.cells (arrV .u8 o) 34) = w1 at *
  have HW1 := Lib.hid hw1; clear hw1
  have hb1 := HB0.lt
  have hbw : w.heap.size ≤ w.heap.size := Nat.le_refl _
  refine at_out ((HF.out _).mono ?_); rintro e w2 ⟨rfl, K2⟩
  replace HB0 := HB0.keeps K2 (fun e => e)
  replace K0 := K0.trans_nb K2
  have hb2 := block_alloc w2 (.cells (arrV .u8 noughts) 34)
  have hn4 : (arrV .u8 noughts).size = 4 := rfl
  have K3 := ((Keeps.refl Nb w2).alloc (.cells (arrV .u8 noughts) 34)).setRow (g := w2.heap.size) (fun h => absurd h (Nat.lt_irrefl _)) (arrV .u8 f)
  have HB3 : ArrB .u8 34 ((w2.alloc (.cells (arrV .u8 noughts) 34)).setRow w2.heap.size (arrV .u8 f)) w2.heap.size f := setRow_heap _ _ _ _ _ _ hb2
  go_wp2_with (first | (refine wp_alloc zero34 ?_) | (refine wp_storeAll (ds := arrV .u8 f) (g := w2.heap.size) agg34.size rfl rfl hb2 hfs hn4 (arrV_one _ _) ?_) | (go_at_call 11; refine at_in ?_))
  generalize (w2.alloc (.cells (arrV .u8 noughts) 34)).setRow w2.heap.size (arrV .u8 f) = w3 at *
  replace HB0 := HB0.keeps K3 (fun e => e)
  replace K0 := K0.trans_nb K3
  clear hb2 K3 K2 hb1 hbw
  have C1 := Lib.hid (fun (u : World) (h : ReadsN .u8 u (some ⟨w2.heap.size, 0, none⟩) f) => more_at s 4 4 (some ⟨w2.heap.size, 0, none⟩) f u hs HFL.out.symm h hfb (by rw [HFL.out]; decide))
  have C2 := Lib.hid (fun (u : World) (h : ReadsN .u8 u (some ⟨w2.heap.size, 0, none⟩) f) => refmore_at s 4 4 (some ⟨w2.heap.size, 0, none⟩) f u hs HFL.out.symm h hfb (by rw [HFL.out]; decide))
  have C3 := Lib.hid (fun (u : World) (h : ReadsN .u8 u (some ⟨w.heap.size, 0, none⟩) o) => more_at s 4 4 (some ⟨w.heap.size, 0, none⟩) o u hs HOL.out.symm h hob (by rw [HOL.out]; decide))
  rw [FIT.out] at C1 C2
  generalize w2.heap.size = g at *
  refine at_out ((C1.out _ HB3.own.reads).mono ?_); rintro e w4 ⟨rfl, K4⟩
  replace HB0 := HB0.keeps K4 (fun e => e)
  replace HB3 := HB3.keeps K4 (fun e => e)
  replace K0 := K0.trans_nb K4
  clear K4
  go_wp2_with fail
  refine (C2.out _ HB3.own.reads).mono ?_; rintro e w' ⟨rfl, rfl⟩
  have hb : (((mor s o : Nat) : Int) == (t : Int)) = decide (o = f) := by
    rw [Bool.eq_iff_iff, beq_iff_eq, decide_eq_true_eq, ← ONLY.out]; omega
  have C9 := Lib.hid (fun (u : World) (h : Keeps Nb w4 u) => C3.out u (HB0.keeps h (fun e => e)).own.reads)
  have CK := Lib.hid (fun (u : World) => known_at u)
  have L0 := fun (u : World) (h : ∃ u' : Sub w4, u = u'.wd) => (h.elim fun u' hu => hu ▸ HB0.keeps u'.k (fun e => e) : ArrB .u8 34 u w.heap.size o)
  have L3 := fun (u : World) (h : ∃ u' : Sub w4, u = u'.wd) => (h.elim fun u' hu => hu ▸ HB3.keeps u'.k (fun e => e) : ArrB .u8 34 u g f)
  have H0 := Lib.hid L0; have H3 := Lib.hid L3
  clear C1 C2 C3 L0 L3
  have hself : (decide (o = f) == decide (o = f)) = true := by simp
  go_wp2_with fail
  generalize mor s o = x at *
  refine region_sub (by kernel_rfl) (by kernel_rfl) ?_
  repeat (go_big_quiet_step ((first | (go_at_call 11; with_reducible exact quiet_sub (C9.out _ (Sub.k _))) | (go_at_call 8; with_reducible exact quiet_sub (CK.out _)))))
  refine wpq_loadAll (x := .tmp 5) (cs := arrV .u8 o) agg34 rfl H0.out hos ?_
  simp only [Act.put, List.setIfInBounds_toArray, List.set_cons_succ, List.set_cons_zero]
  refine wpq_loadAll (x := .tmp 7) (cs := arrV .u8 f) agg34 rfl H3.out hfs ?_
  simp only [Act.put, List.setIfInBounds_toArray, List.set_cons_succ, List.set_cons_zero]
  refine wpq_eql arr34 (x := .tmp 28) (y := .tmp 29) (m := o) (n := f) rfl rfl HOL.out HFL.out (wf_bytes hob) (wf_bytes hfb) ?_
  simp only [Act.put, List.setIfInBounds_toArray, List.set_cons_succ, List.set_cons_zero]
  repeat (go_big_quiet_step ((first | (go_at_call 8; with_reducible exact quiet_sub (CK.out _)))))
  refine wpQuiet_nil ?_
  rintro w9 ⟨u9, hu9⟩
  have K9 : Keeps Nb w4 w9 := hu9 ▸ u9.k
  clear hu9 u9
  go_wp2
  go_ret
  exact ⟨rfl, (K0.trans_nb K9).below⟩
end sumsFit
end Go.Proofs.Ytffnaigkdocpmab
