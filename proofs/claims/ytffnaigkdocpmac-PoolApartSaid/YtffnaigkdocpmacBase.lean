/- Votes as lists of cells; the little functions: LinkOf, MayVote. -/
import Derived.Test.YtffnaigkdocpmacVw
import Derived.Test.YtffnaigkdocpmacRows
import Derived.ProofKit
set_option linter.unusedVariables false
namespace Go.Pool
open Go.Lk
def HK : List IntKind := List.replicate 32 .u8
def PK : List IntKind := .u64 :: HK
def LK : List IntKind := PK ++ PK
def MK : List IntKind := HK ++ LK
theorem hk_len : HK.length = 32 := rfl
theorem pk_len : PK.length = 33 := rfl
theorem lk_len : LK.length = 66 := rfl
theorem mk_len : MK.length = 98 := rfl
/-- What a vote says, whose it is, what it weighs. -/
structure Ct where
  who : Int
  src : List Int
  tgt : List Int
  sig : List Nat
  key : List Int
  stake : Nat
def Ct.link (c : Ct) : List Int := c.src ++ c.tgt
structure Ct.Ok (c : Ct) : Prop where
  who : (Lit.int .i64 c.who).wf = true
  src : Fits PK c.src
  tgt : Fits PK c.tgt
  key : Fits HK c.key
  stake : c.stake < 2 ^ 64
theorem Ct.Ok.link {c : Ct} (h : c.Ok) : Fits LK c.link := h.src.append h.tgt
/-- A vote's cells; s: its signature's slice. -/
def vc (c : Ct) (s : Value) : List Value := .int .i64 c.who :: (valsK PK c.src ++ (valsK PK c.tgt ++ [s]))
def sc (c : Ct) (s : Value) : List Value := vc c s ++ (valsK HK c.key ++ [.int .u64 (c.stake : Nat)])
theorem vc_len {c : Ct} (h : c.Ok) (s : Value) : (vc c s).length = 68 := by
  simp [vc, valsK_length h.src.length, valsK_length h.tgt.length, pk_len]
theorem sc_len {c : Ct} (h : c.Ok) (s : Value) : (sc c s).length = 101 := by
  simp [sc, vc_len h, valsK_length h.key.length, hk_len]
theorem vals_link (c : Ct) (h : c.Ok) : valsK LK c.link = valsK PK c.src ++ valsK PK c.tgt := valsK_append h.src.length
/-- A point's epoch. -/
def ep (l : List Int) : Int := l.headD 0
theorem ep_cons {l : List Int} (h : Fits PK l) : valsK PK l = .int .u64 (ep l) :: valsK HK l.tail := by
  rcases l with _ | ⟨z, l⟩
  · exact h.elim
  · rfl
theorem ep_range {l : List Int} (h : Fits PK l) : 0 ≤ ep l ∧ ep l < 2 ^ 64 := by
  rcases l with _ | ⟨z, l⟩
  · exact h.elim
  · have := h.1
    simp [Lit.wf] at this
    rw [show IntKind.u64.min = 0 from rfl, show IntKind.u64.max = 18446744073709551615 from rfl] at this
    simp only [ep, List.headD_cons]; omega
/-- May a vote be? -/
def mmB (z : Int) : Bool := decide (1 ≤ z) && decide (z ≤ 64)
def ptB (l : List Int) : Bool := decide (ep l ≤ 4611686018427387904)
def sgB (n : Nat) : Bool := decide (n ≤ 4096)
def may (c : Ct) : Bool := mmB c.who && (ptB c.src && (ptB c.tgt && sgB c.sig.length))
/-- A signature's slice reads as the vote says; it lies in blocks of R. -/
def SigAt (w : World) (R : Nat → Prop) (c : Ct) (s : Value) : Prop :=
  ∃ a cap, s = .slice a c.sig.length cap ∧ c.sig.length ≤ cap ∧ cap ≤ maxLen ∧ ReadsN .u8 w a c.sig ∧ (∀ x ∈ c.sig, x < 256) ∧ ∀ b off, a = some ⟨b, off, none⟩ → c.sig ≠ [] → R b
theorem SigAt.keeps {w w' : World} {R S : Nat → Prop} {c : Ct} {s : Value} (h : SigAt w R c s) (hk : Keeps S w w') (hn : ∀ b, R b → ¬ S b) : SigAt w' R c s := by
  obtain ⟨a, cap, h1, h2, h3, h4, h5, h6⟩ := h
  exact ⟨a, cap, h1, h2, h3, h4.keeps hk (fun b off e hz => hn b (h6 b off e hz)), h5, h6⟩
theorem SigAt.mono {w : World} {R R' : Nat → Prop} {c : Ct} {s : Value} (h : SigAt w R c s) (hn : ∀ b, R b → R' b) : SigAt w R' c s := by
  obtain ⟨a, cap, h1, h2, h3, h4, h5, h6⟩ := h
  exact ⟨a, cap, h1, h2, h3, h4, h5, fun b off e hz => hn b (h6 b off e hz)⟩
end Go.Pool
namespace Go.Proofs.Ytffnaigkdocpmac
open Go.RowKit Go.Lk Go.Pool

theorem aggH : AggT Try.prog 28 32 := ⟨by kernel_rfl, by kernel_rfl⟩
theorem aggP : AggT Try.prog 30 33 := ⟨by kernel_rfl, by kernel_rfl⟩
theorem aggL : AggT Try.prog 40 66 := ⟨by kernel_rfl, by kernel_rfl⟩
theorem aggV : AggT Try.prog 33 68 := ⟨by kernel_rfl, by kernel_rfl⟩
theorem aggS : AggT Try.prog 35 101 := ⟨by kernel_rfl, by kernel_rfl⟩
theorem stL : StructT Try.prog 40 [(0, 33), (33, 33)] 66 := ⟨by kernel_rfl, by kernel_rfl⟩
theorem stM : StructT Try.prog 77 [(0, 32), (32, 66)] 98 := ⟨by kernel_rfl, by kernel_rfl⟩
theorem stS : StructT Try.prog 35 [(0, 68), (68, 32), (100, 1)] 101 := ⟨by kernel_rfl, by kernel_rfl⟩
theorem kkH : AggK Try.prog 28 HK := ⟨by kernel_rfl, aggH, by kernel_rfl, by kernel_rfl⟩
theorem kkP : AggK Try.prog 30 PK := ⟨by kernel_rfl, aggP, by kernel_rfl, by kernel_rfl⟩
theorem kkL : AggK Try.prog 40 LK := ⟨by kernel_rfl, aggL, by kernel_rfl, by kernel_rfl⟩
theorem kkM : AggK Try.prog 77 MK := ⟨by kernel_rfl, ⟨by kernel_rfl, by kernel_rfl⟩, by kernel_rfl, by kernel_rfl⟩
theorem laidOut : laidOutB Try.prog = true := by kernel_rfl
theorem keyL : KeyK Try.prog 40 LK := ⟨kkL, by kernel_rfl, Maps.Keyed.of_law (deep_law_laid laidOut (m := 8) (by omega) (of_decide_eq_true (by kernel_rfl)) kkL.key (by rw [Try.underlying40]))⟩
theorem keyM : KeyK Try.prog 77 MK := ⟨kkM, by kernel_rfl, Maps.Keyed.of_law (deep_law_laid laidOut (m := 8) (by omega) (of_decide_eq_true (by kernel_rfl)) kkM.key (by rw [Try.underlying77]))⟩
def zL : Value := .agg ((Array.range 66).map fun i => if i = 0 ∨ i = 33 then .int .u64 0 else .int .u8 0)
theorem zero40 : (Try.prog.info? 40).map (·.zero) = some (some zL) := by kernel_rfl

theorem zL_size : zL.cells.size = 66 := by simp [zL, Value.cells]

end Go.Proofs.Ytffnaigkdocpmac
