/- The walks of the room functions: what they compute. -/
import Derived.Test.YtljlmhmmndfinaaDoorChecked
import Derived.WalkKit
import Derived.WalkLawsBesides
import Derived.WalkSpells
import Derived.Outline
import Derived.Lib.Hide
import Derived.IntWalk
import Derived.BigQuiet
import Derived.Deep.QuietTactic
namespace Go.Proofs.YtljlmhmmndfinaaDoor
open Go.RowKit

/-- A geometry as a value. -/
def geo (b p s x : Int) : Value := .agg #[.int .i64 b, .int .i64 p, .int .i64 s, .int .i64 x]

/-- The table's cells. -/
structure Tab (w : World) : Prop where
  c0 : w.cell? ⟨0, 0, none⟩ = some (.int .i64 8)
  c1 : w.cell? ⟨0, 1, none⟩ = some (.int .i64 64)
  c2 : w.cell? ⟨0, 2, none⟩ = some (.int .i64 4)
  c3 : w.cell? ⟨0, 3, none⟩ = some (.int .i64 32)
  c4 : w.cell? ⟨0, 4, none⟩ = some (.int .i64 128)
  c5 : w.cell? ⟨0, 5, none⟩ = some (.int .i64 256)
  c6 : w.cell? ⟨0, 6, none⟩ = some (.int .i64 0)
  c7 : w.cell? ⟨0, 7, none⟩ = some (.int .i64 4)

theorem Tab.pos {w : World} (T : Tab w) : 0 < w.heap.size := World.block_lt_of_cell? w ⟨0, 0, none⟩ T.c0

theorem idx0 (x0 x1 x2 x3 : Value) : ∀ w, (Instr.index 34 (.agg #[x0, x1, x2, x3]) (.int .i64 0)).run Tryd.prog w = .ok x0 w := fun _ => by kernel_rfl
theorem idx1 (x0 x1 x2 x3 : Value) : ∀ w, (Instr.index 34 (.agg #[x0, x1, x2, x3]) (.int .i64 1)).run Tryd.prog w = .ok x1 w := fun _ => by kernel_rfl
theorem idx2 (x0 x1 x2 x3 : Value) : ∀ w, (Instr.index 34 (.agg #[x0, x1, x2, x3]) (.int .i64 2)).run Tryd.prog w = .ok x2 w := fun _ => by kernel_rfl
theorem idx3 (x0 x1 x2 x3 : Value) : ∀ w, (Instr.index 34 (.agg #[x0, x1, x2, x3]) (.int .i64 3)).run Tryd.prog w = .ok x3 w := fun _ => by kernel_rfl

theorem below_box (w : World) (o : Obj) : Below w.heap.size w (w.alloc o) := (Below.refl _ _).alloc (Nat.le_refl _) o

set_option maxHeartbeats 400000 in
theorem within_yes (b p s x : Int) (w : World) (T : Tab w) (hb : 8 ≤ b) (hb' : b ≤ 64) (hp : 4 ≤ p) (hp' : p ≤ 32) (hs : 128 ≤ s) (hs' : s ≤ 256) (hx : 0 ≤ x) (hx' : x ≤ 4) :
    Calls Tryd.prog 13 #[.agg #[.int .i64 b, .int .i64 p, .int .i64 s, .int .i64 x]] w fun e w' => e = .returned (.bool true) ∧ Below w.heap.size w w' := by
  have hz : 0 < w.heap.size := T.pos
  obtain ⟨c0, c1, c2, c3, c4, c5, c6, c7⟩ := T
  have i0 := idx0 (.int .i64 b) (.int .i64 p) (.int .i64 s) (.int .i64 x)
  have i1 := idx1 (.int .i64 b) (.int .i64 p) (.int .i64 s) (.int .i64 x)
  have i2 := idx2 (.int .i64 b) (.int .i64 p) (.int .i64 s) (.int .i64 x)
  have i3 := idx3 (.int .i64 b) (.int .i64 p) (.int .i64 s) (.int .i64 x)
  go_enter Tryd.func13, Tryd.ntmps13
  go_wp2
  go_loop [14] (fun i => i = .int .i64 0 ∨ i = .int .i64 1 ∨ i = .int .i64 2 ∨ i = .int .i64 3 ∨ i = .int .i64 4) (fun i => 4 - (intOf i).toNat)
  case atStart => exact .inl rfl
  case round =>
    rcases hrel with rfl | rfl | rfl | rfl | rfl
    · go_wp2
      go_round
      case rel => exact .inr (.inl rfl)
      case measure => simp [intOf]
    · go_wp2
      go_round
      case rel => exact .inr (.inr (.inl rfl))
      case measure => simp [intOf]
    · go_wp2
      go_round
      case rel => exact .inr (.inr (.inr (.inl rfl)))
      case measure => simp [intOf]
    · go_wp2
      go_round
      case rel => exact .inr (.inr (.inr (.inr rfl)))
      case measure => simp [intOf]
    · go_wp2
      go_ret
      exact ⟨rfl, below_box _ _⟩

set_option maxHeartbeats 400000 in
theorem within_no (b p s x : Int) (w : World) (T : Tab w) (h : b < 8 ∨ 64 < b ∨ p < 4 ∨ 32 < p ∨ s < 128 ∨ 256 < s ∨ x < 0 ∨ 4 < x) :
    Calls Tryd.prog 13 #[.agg #[.int .i64 b, .int .i64 p, .int .i64 s, .int .i64 x]] w fun e w' => e = .returned (.bool false) ∧ Below w.heap.size w w' := by
  have hz : 0 < w.heap.size := T.pos
  obtain ⟨c0, c1, c2, c3, c4, c5, c6, c7⟩ := T
  have i0 := idx0 (.int .i64 b) (.int .i64 p) (.int .i64 s) (.int .i64 x)
  have i1 := idx1 (.int .i64 b) (.int .i64 p) (.int .i64 s) (.int .i64 x)
  have i2 := idx2 (.int .i64 b) (.int .i64 p) (.int .i64 s) (.int .i64 x)
  have i3 := idx3 (.int .i64 b) (.int .i64 p) (.int .i64 s) (.int .i64 x)
  have H := Lib.hid h
  clear h
  go_enter Tryd.func13, Tryd.ntmps13
  go_wp2
  go_loop [4, 14] (fun _ i => i = .int .i64 0 ∨ (i = .int .i64 1 ∧ 8 ≤ b ∧ b ≤ 64) ∨ (i = .int .i64 2 ∧ 8 ≤ b ∧ b ≤ 64 ∧ 4 ≤ p ∧ p ≤ 32) ∨ (i = .int .i64 3 ∧ 8 ≤ b ∧ b ≤ 64 ∧ 4 ≤ p ∧ p ≤ 32 ∧ 128 ≤ s ∧ s ≤ 256)) (fun _ i => 4 - (intOf i).toNat)
  case atStart => exact .inl rfl
  case round =>
    rcases hrel with rfl | ⟨rfl, a1, a2⟩ | ⟨rfl, a1, a2, a3, a4⟩ | ⟨rfl, a1, a2, a3, a4, a5, a6⟩
    · by_cases g1 : b < 8
      · go_wp2
        go_ret
        exact ⟨rfl, below_box _ _⟩
      · by_cases g2 : 64 < b
        · go_wp2
          go_ret
          exact ⟨rfl, below_box _ _⟩
        · go_wp2
          go_round
          case rel => exact .inr (.inl ⟨rfl, by omega, by omega⟩)
          case measure => simp [intOf]
    · by_cases g1 : p < 4
      · go_wp2
        go_ret
        exact ⟨rfl, below_box _ _⟩
      · by_cases g2 : 32 < p
        · go_wp2
          go_ret
          exact ⟨rfl, below_box _ _⟩
        · go_wp2
          go_round
          case rel => exact .inr (.inr (.inl ⟨rfl, by omega, by omega, by omega, by omega⟩))
          case measure => simp [intOf]
    · by_cases g1 : s < 128
      · go_wp2
        go_ret
        exact ⟨rfl, below_box _ _⟩
      · by_cases g2 : 256 < s
        · go_wp2
          go_ret
          exact ⟨rfl, below_box _ _⟩
        · go_wp2
          go_round
          case rel => exact .inr (.inr (.inr ⟨rfl, by omega, by omega, by omega, by omega, by omega, by omega⟩))
          case measure => simp [intOf]
    · have h := H.out
      by_cases g1 : x < 0
      · clear h
        go_wp2
        go_ret
        exact ⟨rfl, below_box _ _⟩
      · have g2 : 4 < x := by omega
        clear h
        go_wp2
        go_ret
        exact ⟨rfl, below_box _ _⟩
end Go.Proofs.YtljlmhmmndfinaaDoor
