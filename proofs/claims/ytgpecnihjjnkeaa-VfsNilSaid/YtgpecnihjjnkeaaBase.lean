/- A disk in memory: its cells; the small functions. -/
import Derived.Test.YtgpecnihjjnkeaaProg
import Derived.Test.YtgpecnihjjnkeaaRng
import Derived.Test.YtgpecnihjjnkeaaSmap
set_option linter.unusedVariables false
set_option linter.unusedSimpArgs false
namespace Go.Vfs
open Go.Lk Go.RowKit
/-- A file. -/
structure Fl where
  b : List Nat
  lasts : Nat
/-- A change of the directory that waits. -/
structure Stp where
  act : Nat
  name : ByteArray
  to : ByteArray
  f : Option Nat
/-- A disk (files by their blocks). -/
structure Dk where
  files : List (ByteArray × Nat)
  lasting : List (ByteArray × Nat)
  steps : List Stp
  cap : Int
  fuse : Int
  fn : Int
  fe : Int
  dead : Bool
  changes : Int
def ptr : Option Nat → Value
  | none => .pointer none
  | some b => .pointer (some ⟨b, 0, none⟩)
def vals (l : List (ByteArray × Nat)) : List (ByteArray × Value) := l.map fun p => (p.1, .pointer (some ⟨p.2, 0, none⟩))
def stp (s : Stp) : List Value := [.int .i64 (s.act : Nat), .string s.name, .string s.to, ptr s.f]
/-- The cells of a disk. -/
def dcs (m1 m2 : Nat) (sv : Value) (D : Dk) : Array Value := #[.map (some m1), .map (some m2), sv, .int .i64 D.cap, .int .i64 D.fuse, .int .i64 D.fn, .int .i64 D.fe, .bool D.dead, .int .i64 D.changes]
/-- What becomes of a disk's numbers at a change: 0 nothing more, 1 the whole change, 2 a part, 3 it is torn; the error. -/
def chg (D : Dk) : Dk × Nat × Int :=
  let D1 : Dk := { D with changes := D.changes + 1, fuse := if 0 < D.fuse then D.fuse - 1 else D.fuse }
  if D.fe ≠ 0 ∧ ¬ 0 < D.fn then ({ D1 with fn := 0, fe := 0 }, if D.fe = 9 then 2 else 0, D.fe)
  else
    let D2 : Dk := if D.fe ≠ 0 then { D1 with fn := D.fn - 1 } else D1
    if D.fuse = 0 then ({ D2 with dead := true }, 3, 8) else (D2, 1, 0)
end Go.Vfs
namespace Go.Proofs.Ytgpecnihjjnkeaa
open Go.RowKit Go.Lk Go.Vfs

theorem smT : SmT Try.prog 56 9 63 := ⟨Try.underlying56, Try.underlying9⟩
theorem there_at (d m1 : Nat) (m2 sv : Value) (rest : List Value) (w : World) (h : w.cell? ⟨d, 0, none⟩ = some (.map (some m1))) : Calls Try.prog 31 #[.pointer (some ⟨d, 0, none⟩)] w fun e w' => e = .returned (.bool true) ∧ w = w' := by
  have q : ∀ (w : World) (r : Option Nat), (binOp .neq 56 (.map r) (.map none)).run Try.prog w = .ok (.bool (!r.isNone)) w := fun w r => run_neq_map_nil w _ _ _ r Try.underlying56
  go_enter Try.func31, Try.ntmps31
  go_wp2
  go_ret
  exact ⟨rfl, rfl⟩
theorem there_nil (w : World) : Calls Try.prog 31 #[.pointer none] w fun e w' => e = .returned (.bool false) ∧ w = w' := by
  go_enter Try.func31, Try.ntmps31
  go_wp2
  go_ret
  exact ⟨rfl, rfl⟩
theorem there_zero (d : Nat) (w : World) (h : w.cell? ⟨d, 0, none⟩ = some (.map none)) : Calls Try.prog 31 #[.pointer (some ⟨d, 0, none⟩)] w fun e w' => e = .returned (.bool false) ∧ w = w' := by
  have q : ∀ (w : World) (r : Option Nat), (binOp .neq 56 (.map r) (.map none)).run Try.prog w = .ok (.bool (!r.isNone)) w := fun w r => run_neq_map_nil w _ _ _ r Try.underlying56
  go_enter Try.func31, Try.ntmps31
  go_wp2
  go_ret
  exact ⟨rfl, rfl⟩
theorem num_at (e : Int) (w : World) : Calls Try.prog 10 #[.int .i64 e] w fun r w' => r = .returned (.int .i64 e) ∧ w = w' := by
  go_enter Try.func10, Try.ntmps10
  go_wp2
  go_ret
  exact ⟨rfl, rfl⟩
theorem nothing_at (w : World) : Calls Try.prog 36 #[] w fun r w' => (∃ v, r = .returned v) ∧ w = w' := by
  go_enter Try.func36, Try.ntmps36
  go_wp2
  go_end0
  exact ⟨⟨_, rfl⟩, rfl⟩
end Go.Proofs.Ytgpecnihjjnkeaa
