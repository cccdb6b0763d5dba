/- VfsBack: the walk. -/
import Derived.Test.YtgpecnihjjnkeaaBackL
import Derived.Below
import Derived.ChangeMaps5
set_option linter.unusedVariables false
set_option linter.unusedSimpArgs false
namespace Go.Proofs.Ytgpecnihjjnkeaa.vfsBack
open Go.RowKit Go.Lk Go.Vfs Go.Proofs.Ytgpecnihjjnkeaa Go.ChangeShapes Go.WideShapes
theorem agg34 : AggT Try.prog 34 7 := ⟨by kernel_rfl, by kernel_rfl⟩
theorem last_len {W0 w : World} {d : Nat} {D : Dk} {fc : Nat → Fl} (h : Db W0 w d D fc) : D.lasting.length ≤ 1000000 := by obtain ⟨F, R, h⟩ := h; exact h.at_.nums.nl
theorem sync_ch {D D' : Dk} {fc fc' : Nat → Fl} {nm : ByteArray} {er : Int} (h : SyncR D fc nm er D' fc') : D'.changes ≤ D.changes + 1 := by
  rcases h with ⟨-, -, rfl, -⟩ | ⟨-, -, -, rfl, -⟩ | ⟨b, -, -, ⟨-, -, rfl, -⟩ | ⟨-, -, rfl, -⟩⟩
  · omega
  · omega
  · omega
  · rw [(chg_same D).2.2.2.1]; omega
theorem dcrashK {W0 w : World} {d : Nat} {D : Dk} {fc : Nat → Fl} (h : Db W0 w d D fc) (v : Value) (zs : List Int) (hp : PicksV w v zs) (hl : D.lasting.length + D.steps.length ≤ 1000000) :
    Calls Try.prog 23 #[.pointer (some ⟨d, 0, none⟩), v] w fun e w' => ∃ d' D' fc' φ l2 bs, e = .returned (.pointer (some ⟨d', 0, none⟩)) ∧ Db W0 w' d' D' fc' ∧ Keeps Nb w w' ∧ CrashR zs D fc D' fc' φ l2 bs := by
  obtain ⟨F, R, h⟩ := h
  obtain ⟨a, c, rfl, h1, h2, h3, h4⟩ := hp
  refine (crash_at d zs.length c a zs D F R fc w h.at_ h3 rfl h4 ⟨h1, h2⟩ hl).mono ?_
  rintro e w' ⟨d', D', fc', F', R', φ, l2, bs, rfl, g1, g2, g3, g4, g5⟩
  have hk := h.k.size
  exact ⟨d', D', fc', φ, l2, bs, rfl, ⟨F', R', h.k.trans_nb g4, g1, fun k e => by have := g2 k e; omega, fun k e => by have := g3 k e; omega⟩, g4, g5⟩
set_option maxHeartbeats 8000000 in
set_option maxRecDepth 100000 in
theorem body (w : World) (a a2 : Option Addr) (m c n2 c2 : Nat) (L : List StepD) (zs : List Int) (nm : ByteArray) (hs : StepsAt w w a m c L) (hz : PicksV w (.slice a2 n2 c2) zs) (hn : nm.size ≤ maxLen) : Calls Try.prog 5 #[.slice a m c, .slice a2 n2 c2, .string nm] w fun e w' => e = .returned (.bool true) ∧ Keeps Nb w w' := by
  have HS := Lib.hid hs
  have HZ := Lib.hid hz
  have HN := Lib.hid hn
  obtain ⟨hl, hmc, hcm, -⟩ := hs
  have hcm2 : m ≤ c ∧ c ≤ 9223372036854775807 := by unfold maxLen at hcm; exact ⟨hmc, hcm⟩
  have HL := Lib.hid hl
  clear hmc hcm hn hl hz
  go_enter Try.func5, Try.ntmps5
  go_wp2_with fail
  refine (known_at w).mono ?_
  rintro _ w0 ⟨rfl, k0⟩
  have K0 := Lib.hid k0
  clear k0
  go_wp2_with fail
  refine (much_at 150 a m c L w w0 (HS.out.nb K0.out) (by omega)).mono ?_
  rintro _ w1 ⟨r, rfl, hf, k1⟩
  have HF := Lib.hid hf
  have K1 := Lib.hid (K0.out.trans_nb k1)
  clear hf k1
  cases r with
  | true =>
    go_wp2
    go_ret
    exact ⟨rfl, K1.out⟩
  | false =>
    have hfew := HF.out rfl
    have HFEW := Lib.hid hfew
    have hm60 : m ≤ 150 := by have := hfew.1; rw [HL.out] at this; omega
    clear hfew HF
    by_cases hp : 300 < n2
    · go_wp2
      go_ret
      exact ⟨rfl, K1.out⟩
    · go_wp2_with fail
      refine (new_at 30000 w1 (by omega)).mono ?_
      rintro _ w2 ⟨d, rfl, -, hd⟩
      obtain ⟨F0, R0, hdb⟩ := hd
      have D2 : Hid (Db w w2 d (newD 30000) fun _ => ⟨[], 0⟩) := ⟨F0, R0, K1.out.trans_nb hdb.k, hdb.at_, fun k hk => Nat.le_trans K1.out.size (hdb.gF k hk), fun k hk => Nat.le_trans K1.out.size (hdb.gR k hk)⟩
      clear hdb
      go_wp2_with fail
      refine (num_at 0 w2).mono ?_; rintro _ _ ⟨rfl, rfl⟩
      go_wp2
      go_loopw [7, 9] (fun dv i wr => ∃ (k d : Nat) (D : Dk) (fc : Nat → Fl), k ≤ m ∧ i = .int .i64 k ∧ dv = .pointer (some ⟨d, 0, none⟩) ∧ Db w wr d D fc ∧ Bnd k D) (fun _ i _ => m - (intOf i).toNat)
      case atStart => exact ⟨0, d, _, _, Nat.zero_le _, rfl, rfl, D2.out, ⟨Int.le_refl _, Nat.le_refl _, Nat.le_refl _⟩⟩
      case round =>
        clear D2
        obtain ⟨k, d, D, fc, hk, rfl, rfl, hd, hb⟩ := hrel
        have HD := Lib.hid hd
        have HB := Lib.hid hb
        clear hd hb
        by_cases hlt : k < m
        · have i1 : (k : Int) < (m : Int) := by omega
          obtain ⟨s, hs⟩ : ∃ s, L[k]? = some s := ⟨_, List.getElem?_eq_getElem (by rw [HL.out]; exact hlt)⟩
          obtain ⟨b, off, cs, rfl, hv, hh⟩ := HS.out.2.2.2 k s hs
          have HV := Lib.hid (hv.nb HD.out.k)
          have HH := Lib.hid (hh.nb HD.out.k)
          have hbl : Hid (s.b.length ≤ 20000) := (HFEW.out.2 s (List.mem_of_getElem? hs)).1
          have hcl : cs.length = 7 := by obtain ⟨vb, vp, rfl, -⟩ := hv; rfl
          have HCL := Lib.hid hcl
          clear hs hv hh hcl
          go_wp2_with (first | go_skip | (with_reducible refine stop_load (t := 34) ?_) | fail)
          refine at_out (wpList_val (v := .agg cs.toArray) rfl (rn_loadH agg34 (by rfl) HH.out HCL.out) ?_)
          simp only [Nat.reduceAdd, Nat.zero_add, Act.put, List.setIfInBounds_toArray, List.set_cons_succ, List.set_cons_zero]
          go_wp2_with fail
          refine (do_at HD.out s cs HV.out (by have := HB.out.c; omega) hbl.out (by have := HB.out.l; omega)).mono ?_
          rintro _ w5 ⟨er, d', D', fc', rfl, hd', -, hr⟩
          have HD' := Lib.hid hd'
          have HB' := Lib.hid (bnd_do HB.out hr)
          clear hd' hr
          go_wp2
          go_roundw
          case rel => exact ⟨k + 1, d', D', fc', by omega, by go_num, rfl, HD'.out, HB'.out⟩
          case measure => simp [intOf]; omega
        · have hkl : k = m := by omega
          subst hkl
          go_wp2_with fail
          refine (dcrash HD.out (.slice a2 n2 c2) zs (HZ.out.nb HD.out.k) (by have := HB.out.l; omega)).mono ?_
          rintro _ w3 ⟨d3, D3, fc3, φ3, l3, bs3, rfl, hd3, hdd, hr3⟩
          obtain ⟨s1, s2, s3, s4, s5⟩ := crash_full hr3
          have DC := Lib.hid hd3
          have DD := Lib.hid hdd
          have S1 := Lib.hid s1
          have S2 := Lib.hid s2
          have S5 := Lib.hid s5
          have ND := Lib.hid (nodups hd3)
          have HDE := Lib.hid (ddead hd3)
          rw [s3] at HDE
          have HCH := Lib.hid (dchanges hd3)
          rw [s4] at HCH
          clear hd3 hdd hr3 s1 s2 s3 s4 s5 HD
          go_wp2_with fail
          refine HDE.out.mono ?_; rintro _ _ ⟨rfl, rfl⟩
          go_wp2_with fail
          refine HCH.out.mono ?_; rintro _ _ ⟨rfl, rfl⟩
          clear HDE HCH
          go_wp2_with fail
          refine (dcrashK DC.out _ [] (picks_nil w3) (by rw [S1.out]; have := last_len DC.out; simpa using this)).mono ?_
          rintro _ w4 ⟨d4, D4, fc4, φ4, l4, bs4, rfl, hd4, k4, hr4⟩
          have SM := Lib.hid (same_crash hr4 S1.out S2.out ND.out.2 S5.out)
          have D4' := Lib.hid hd4
          have DC4 := Lib.hid (DC.out.nb k4)
          have DD4 := Lib.hid (DD.out.nb k4)
          clear hd4 k4 hr4 DC DD
          go_wp2_with fail
          refine (again_law DC4.out D4'.out SM.out).mono ?_
          rintro _ w5 ⟨rfl, k5⟩
          have DC5 := Lib.hid (DC4.out.nb k5)
          have DD5 := Lib.hid (DD4.out.nb k5)
          clear k5 SM D4' DC4 DD4
          go_wp2_with (first | go_skip | (with_reducible refine stop_load (t := 72) ?_) | (with_reducible refine stop_load (t := 61) ?_) | (with_reducible refine stop_alloc ?_) | (with_reducible refine stop_store ?_) | (with_reducible refine stop_makeMap ?_) | (with_reducible refine stop_rangem ?_) | (with_reducible refine stop_next ?_) | (with_reducible refine stop_entry ?_) | (with_reducible refine stop_buildSlice ?_) | (with_reducible refine stop_app ?_) | (with_reducible refine stop_mapUpdate ?_) | (with_reducible refine stop_lookup ?_) | (with_reducible refine stop_delete ?_) | (with_reducible refine stop_box ?_))
          refine at_out (wpList_valE rfl (re_buildSlice el32 [.int .i64 1, .int .i64 1, .int .i64 1] rfl (by simp [List.range'_succ]; first | done | rfl | exact ⟨rfl, rfl, rfl⟩) (by simp [Value.cells]) (by simp)) ?_)
          rintro _ w6 ⟨g6, rfl, n6⟩
          simp only [Nat.reduceAdd, Nat.zero_add, Act.put, List.setIfInBounds_toArray, List.set_cons_succ, List.set_cons_zero]
          have P6 := Lib.hid (new_picks (n := 3) (l := [1, 1, 1]) n6 rfl (by simp [I64]) (by omega))
          have DC6 := Lib.hid (DC5.out.nb n6.k)
          have DD6 := Lib.hid (DD5.out.nb n6.k)
          clear n6 DC5 DD5
          go_wp2_with fail
          refine (dcrashK DC6.out _ [1, 1, 1] P6.out (by rw [S1.out]; have := last_len DC6.out; simpa using this)).mono ?_
          rintro _ w7 ⟨d7, D7, fc7, φ7, l7, bs7, rfl, hd7, k7, hr7⟩
          have SM := Lib.hid (same_crash hr7 S1.out S2.out ND.out.2 S5.out)
          have D7' := Lib.hid hd7
          have DC7 := Lib.hid (DC6.out.nb k7)
          have DD7 := Lib.hid (DD6.out.nb k7)
          clear hd7 k7 hr7 DC6 DD6 P6
          go_wp2_with fail
          refine (again_law DC7.out D7'.out SM.out).mono ?_
          rintro _ w8 ⟨rfl, k8⟩
          have DD8 := Lib.hid (DD7.out.nb k8)
          clear k8 SM D7' DC7 DD7 ND S1 S2 S5
          go_wp2_with fail
          refine (dsync DD8.out nm HN.out (by have := HB.out.c; omega)).mono ?_
          rintro _ w9 ⟨er, D9, fc9, rfl, hd9, hr9⟩
          have DD9 := Lib.hid hd9
          have R9 := Lib.hid hr9
          have C9 := Lib.hid (sync_ch hr9)
          clear hd9 hr9 DD8
          go_wp2_with fail
          refine (num_at er w9).mono ?_; rintro _ _ ⟨rfl, rfl⟩
          by_cases her : er = 0
          · subst her
            obtain ⟨b, hmn, hfb, hlb⟩ := sync_ok R9.out rfl
            have HMN := Lib.hid hmn
            have HFB := Lib.hid hfb
            have HLB := Lib.hid hlb
            clear hmn hfb hlb R9
            go_wp2_with fail
            refine (dsdir DD9.out (by have := HB.out.c; have := C9.out; omega)).mono ?_
            rintro _ w10 ⟨er2, D10, fc10, rfl, hd10, hr10, hfe⟩
            rw [hfe] at hd10
            have DD10 := Lib.hid hd10
            have R10 := Lib.hid hr10
            clear hd10 hr10 hfe DD9
            go_wp2_with fail
            refine (num_at er2 w10).mono ?_; rintro _ _ ⟨rfl, rfl⟩
            by_cases her2 : er2 = 0
            · subst her2
              obtain ⟨l1, l2, l3⟩ := sdir_ok R10.out rfl
              obtain ⟨bl, hbl⟩ : ∃ l, bstr (fc9 b).b = l := ⟨_, rfl⟩
              have HL1 : Hid (flook D10.lasting nm = some b) := by refine Lib.hid ?_; rw [l1]; exact HFB.out
              have HRD : Hid (rdS D10 fc9 nm = bl) := by refine Lib.hid ?_; rw [rd_some HMN.out (b := b) (by rw [l2]; exact HFB.out)]; exact hbl
              have HBL := Lib.hid hbl
              have HL3 := Lib.hid l3
              have ND := Lib.hid (nodups DD10.out)
              have qb : (bl == bl) = true := str_beq bl
              clear l1 l2 l3 hbl R10
              go_wp2_with fail
              refine (lread DD10.out nm HN.out).mono ?_
              rintro _ w11 ⟨rfl, k11⟩
              rw [HRD.out]
              have DD11 := Lib.hid (DD10.out.nb k11)
              clear k11 DD10
              go_wp2_with fail
              refine (dcrashK DD11.out (.slice a2 n2 c2) zs (HZ.out.nb DD11.out.k) (by rw [HL3.out]; have := last_len DD11.out; simpa using this)).mono ?_
              rintro _ w12 ⟨d12, D12, fc12, φ12, l12, bs12, rfl, hd12, k12, hr12⟩
              have DD12 := Lib.hid (DD11.out.nb k12)
              have DC12 := Lib.hid hd12
              obtain ⟨b2, hb2, hq2⟩ := crash_keep hr12 HL3.out ND.out.2 HL1.out HLB.out
              have HR2 : Hid (rdS D12 fc12 nm = bl) := by refine Lib.hid ?_; rw [rd_some HMN.out hb2, hq2]; exact HBL.out
              clear hd12 k12 hr12 hb2 hq2 DD11
              go_wp2_with fail
              refine (lread DC12.out nm HN.out).mono ?_
              rintro _ w13 ⟨rfl, k13⟩
              rw [HR2.out]
              have DD13 := Lib.hid (DD12.out.nb k13)
              clear k13 DC12 DD12 HR2
              go_wp2_with fail
              refine (dcrashK DD13.out _ [] (picks_nil w13) (by rw [HL3.out]; have := last_len DD13.out; simpa using this)).mono ?_
              rintro _ w14 ⟨d14, D14, fc14, φ14, l14, bs14, rfl, hd14, k14, hr14⟩
              have DC14 := Lib.hid hd14
              obtain ⟨b2, hb2, hq2⟩ := crash_keep hr14 HL3.out ND.out.2 HL1.out HLB.out
              have HR2 : Hid (rdS D14 fc14 nm = bl) := by refine Lib.hid ?_; rw [rd_some HMN.out hb2, hq2]; exact HBL.out
              clear hd14 k14 hr14 hb2 hq2 DD13
              go_wp2_with fail
              refine (lread DC14.out nm HN.out).mono ?_
              rintro _ w15 ⟨rfl, k15⟩
              rw [HR2.out]
              have KF := Lib.hid (DC14.out.k.trans_nb k15)
              clear k15 DC14 HR2
              go_wp2
              go_ret
              exact ⟨rfl, KF.out⟩
            · have q2 : (er2 != 0) = true := bne_iff_ne.2 her2
              have KF := Lib.hid DD10.out.k
              clear her2
              go_wp2
              go_ret
              exact ⟨rfl, KF.out⟩
          · have q2 : (er != 0) = true := bne_iff_ne.2 her
            have KF := Lib.hid DD9.out.k
            clear her
            go_wp2
            go_ret
            exact ⟨rfl, KF.out⟩
set_option maxRecDepth 100000 in
theorem walk {H : Type} {enc : TypeId × Value → H} {base : Nat} (w : World) {v0 : Value} {d0 : DataW H} {p0 : List MemPlace} (kv0 : Value.okWide Try.prog w .any base 22 v0) (k0 : DataW.Trod enc Try.prog w 0 (fun _ => true) true 22 v0 d0 p0) {v1 : Value} {d1 : DataW H} {p1 : List MemPlace} (kv1 : Value.okWide Try.prog w .any base 32 v1) (k1 : DataW.Trod enc Try.prog w 0 (fun _ => true) true 32 v1 d1 p1) {v2 : Value} {d2 : DataW H} {p2 : List MemPlace} (kv2 : Value.okWide Try.prog w .any base 9 v2) (k2 : DataW.Trod enc Try.prog w 0 (fun _ => true) true 9 v2 d2 p2) :
    Calls Try.prog 5 #[v0, v1, v2] w fun e w' => e = .returned (.bool true) ∧ Below w.heap.size w w' := by
  obtain ⟨a, c, L, rfl, hs⟩ := steps_of kv0 k0
  obtain ⟨nm, rfl, -, -, hn⟩ := Go.ChangeMaps.open_string Try.underlying9 kv2 k2
  obtain ⟨a2, n2, c2, rfl⟩ := okWide_slice Try.underlying32 kv1
  obtain ⟨zs, hz⟩ : ∃ zs, PicksV w (.slice a2 n2 c2) zs := by
    obtain ⟨m, hm⟩ := k1
    obtain ⟨vb, l, e, hb⟩ := picks_of hm
    have e1 : (Value.slice a2 n2 c2).cells.toList = [Value.slice a2 n2 c2] := rfl
    rw [e1] at e
    cases e
    exact ⟨l, hb⟩
  refine (body w a a2 L.length c n2 c2 L zs nm hs hz hn).mono ?_
  rintro e w' ⟨h1, h2⟩
  exact ⟨h1, h2.below⟩
end Go.Proofs.Ytgpecnihjjnkeaa.vfsBack
