/- The names of a directory, sorted: what maps.Keys and slices.Sorted hand back. -/
import Derived.Test.YtgpecnihjjnkeaaAgainW
import Derived.Test.YtgpecnihjjnkeaaLays
import Derived.Maps.Range
import Derived.Sort.KeysCollected
set_option linter.unusedVariables false
set_option linter.unusedSimpArgs false
namespace Go.Lk
open Go.RowKit Go.MapKept Go.Maps Go.WideElems Go.WideShapes
open Go.Proofs (encStr)
variable {P : Program} {t k e : TypeId} {w : World} {m : Nat} {l : List (ByteArray × Value)}
/-- A map of strings, for the kit's laws. -/
theorem SMap.owns (h : SMap w m l) (T : SmT P t k e) (hl : l.length ≤ 1000000) : ∃ D0 : DataW Unit, w.ownsMap P k (fun _ => some (.nil, [])) m 1000000 D0 ∧ (strKeys D0).Perm (l.map fun p => p.1.data.toList) ∧ Maps.size D0 ≤ 1000000 := by
  obtain ⟨es, clock, h1, h2, h3, h4⟩ := h
  have hlen := ent_len h3
  have hr : ∀ x ∈ es.toList, ∃ s : ByteArray, x.key = .string s ∧ rd (H := Unit) P k (fun _ => some (.nil, [])) x = some (.string s.data.toList, .nil) := fun x hx => by
    obtain ⟨j, hj⟩ := List.mem_iff_getElem?.1 hx
    obtain ⟨p, hp, h5, -⟩ := ent_at h3 hj
    have hs := h4 p (List.mem_of_getElem? hp)
    refine ⟨p.1, h5, ?_⟩
    unfold rd
    rw [h5, Go.WideMaps.keyOf_string_mk T.hk hs]; rfl
  refine ⟨.map ((es.toList.map (rg P k (fun _ => some (.nil, [])))).foldr DataW.insert []), ⟨es, clock, h1, ⟨by unfold maxLen; omega, h2, fun x hx => ⟨_, (hr x hx).choose_spec.2⟩⟩, by omega, rfl⟩, ?_, ?_⟩
  · show ((es.toList.map (rg P k (fun _ => some (.nil, [])))).foldr DataW.insert [] |>.map fun p => strOf p.1).Perm _
    refine ((sorted_perm _).map _).trans ?_
    rw [List.map_map]
    have : es.toList.map ((fun p => strOf p.1) ∘ rg (H := Unit) P k (fun _ => some (.nil, []))) = l.map fun p => p.1.data.toList := by
      apply List.ext_getElem?
      intro i
      rw [List.getElem?_map, List.getElem?_map]
      cases hi : es.toList[i]? with
      | none =>
        have : l[i]? = none := List.getElem?_eq_none (by have := List.getElem?_eq_none_iff.1 hi; simp at this; omega)
        rw [this]; rfl
      | some x =>
        obtain ⟨p, hp, h5, -⟩ := ent_at h3 hi
        obtain ⟨s, e1, e2⟩ := hr x (List.mem_of_getElem? hi)
        rw [hp]
        simp only [Option.map_some, Function.comp, rg_of e2, strOf]
        rw [h5] at e1; cases e1; rfl
    rw [this]
  · show ((es.toList.map (rg P k (fun _ => some (.nil, [])))).foldr DataW.insert []).length ≤ _
    rw [(sorted_perm _).length_eq, List.length_map, Array.length_toList]; omega
end Go.Lk
namespace Go.Proofs.Ytgpecnihjjnkeaa
open Go.RowKit Go.Lk Go.Vfs
theorem sorts49 (m : Nat) : Go.Proofs.AnyZ.SortsIn Try.prog Try.sorted49_ren Fence.wide m :=
  ⟨fun blk off cap ss W hH hblk hsz => callsIn_wide.2 (Go.Proofs.AnyM.slices_Sort_string Try.sort58 blk off cap ss W hH hblk hsz),
   fun p cap W => callsIn_wide.2 (Go.Proofs.AnyM.slices_Sort_string_none Try.sort58 p cap W)⟩
theorem keys_at (m : Nat) (w : World) : Calls Try.prog 50 #[.map (some m)] w fun e w' => e = .returned (.func (.func 59) #[] #[.pointer (some ⟨w.heap.size, 0, none⟩)]) ∧ w' = w.alloc (.cells #[.map (some m)] 56) :=
  callsIn_wide.1 (Go.Proofs.AnyZ.keys_in Try.keys50 Fence.wide 5 trivial rfl (some m) w)
set_option maxHeartbeats 1000000 in
theorem sorted_at (m : Nat) (l : List (ByteArray × Value)) (w : World) (h : SMap w m l) (hl : l.length ≤ 1000000) :
    Calls Try.prog 49 #[.func (.func 59) #[] #[.pointer (some ⟨w.heap.size, 0, none⟩)]] (w.alloc (.cells #[.map (some m)] 56)) fun e w' => ∃ (v : Value) (ns : List ByteArray), e = .returned v ∧ ns.Perm (l.map Prod.fst) ∧ w'.ownsRow w.heap.size 9 1 v ns.length (ns.map .string) ∧ Keeps Nb w w' := by
  obtain ⟨D0, hown, hperm, hsz⟩ := h.owns smT hl
  have hbl := hown.lt
  have hmax : Go.Maps.size D0 ≤ maxLen := by unfold maxLen; omega
  have hseq : Go.SeqGives Fence.wide 2 Try.prog 59 #[.pointer (some ⟨w.heap.size, 0, none⟩)] Go.Proofs.encStr (fun ss => ss.Perm (strKeys D0)) (Go.Maps.size D0) (w.alloc (.cells #[.map (some m)] 56)) :=
    Go.Proofs.AnyZ.keys_gives (ρ := Try.keys50_ren) { Try.keys50 with } Fence.wide _ trivial rfl (by omega) w.heap.size m _ D0 _ (by simp) (by simp) (by
      obtain ⟨es, clock, hb, Ft, hs, hD⟩ := hown
      exact ⟨es, clock, (Below.heap_alloc _ _ m hbl).trans hb, Ft, hs, hD⟩)
  have key := Go.Proofs.AnyZ.sorted_in Try.sorted49 Fence.wide 5 trivial trivial trivial trivial rfl (by omega) (sorts49 _) (enters_of Try.func58 (by kernel_rfl) rfl) 59 #[.pointer (some ⟨w.heap.size, 0, none⟩)] trivial (enters_of Try.func59 (by kernel_rfl) rfl) _ _ hmax (by omega) _ hseq
  refine (callsIn_wide.1 key).mono ?_
  rintro e w' ⟨v, ss, rfl, hS, hrow, hnil, hb⟩
  refine ⟨v, (ss.mergeSort (fun x y => decide (x ≤ y))).map (fun x => ⟨x.toArray⟩), rfl, ?_, ?_, ?_⟩
  · have h1 := ((List.mergeSort_perm ss (fun x y => decide (x ≤ y))).trans (hS.trans hperm)).map (fun x : List UInt8 => (⟨x.toArray⟩ : ByteArray))
    refine h1.trans ?_
    rw [List.map_map]
    refine List.Perm.of_eq (List.map_congr_left fun p hp => ?_)
    simp
  · rw [List.length_map, List.length_mergeSort, List.map_map]
    refine owns_mono ?_ (Nat.le_succ _)
    have e1 : (w.alloc (.cells #[.map (some m)] 56)).heap.size = w.heap.size + 1 := by simp
    rw [e1] at hrow
    exact hrow
  · exact ((Keeps.refl Nb w).alloc _).trans_nb (keeps_of_below hb)
end Go.Proofs.Ytgpecnihjjnkeaa
