/- The walk of the statement FactNil: it comes to true. -/
import Derived.Test.YtkkagnpidfnmpaaWorks06
import Derived.Handy
namespace Go.Proofs.Ytkkagnpidfnmpaa
open Go.RowKit

theorem take_nil (n : Int) (w : World) : Calls Try.prog 87 #[.pointer none, .int .i64 n] w fun e w' => e = .returned (.tuple #[.int .u64 0, .int .i64 1]) ∧ w = w' := by
  go_enter Try.func87, Try.ntmps87
  go_wp2
  go_ret2
  exact ⟨rfl, rfl⟩
theorem take_zero (n : Int) (b : Nat) (w : World) (h : w.cell? ⟨b, 0, none⟩ = some (.bool false)) : Calls Try.prog 87 #[.pointer (some ⟨b, 0, none⟩), .int .i64 n] w fun e w' => e = .returned (.tuple #[.int .u64 0, .int .i64 1]) ∧ w = w' := by
  go_enter Try.func87, Try.ntmps87
  go_wp2
  go_ret2
  exact ⟨rfl, rfl⟩

def key0 : Value := .agg #[.int .i64 0, .int .u8 0, .string ⟨#[]⟩, .int .i64 0]
theorem getKey_nil (w : World) : Calls Try.prog 40 #[.pointer none] w fun e w' => e = .returned (.tuple #[key0, .int .i64 1]) ∧ Below w.heap.size w w' := by
  unfold key0
  go_enter Try.func40, Try.ntmps40
  go_wp2_with fail
  refine (take_nil 2 _).mono ?_
  rintro e w1 ⟨rfl, rfl⟩
  go_wp2
  go_returns
  exact ⟨rfl, below_alloc1 _ _⟩
theorem getKey_zero (b : Nat) (w : World) (h : w.cell? ⟨b, 0, none⟩ = some (.bool false)) : Calls Try.prog 40 #[.pointer (some ⟨b, 0, none⟩)] w fun e w' => e = .returned (.tuple #[key0, .int .i64 1]) ∧ Below w.heap.size w w' := by
  unfold key0
  go_enter Try.func40, Try.ntmps40
  go_wp2_with fail
  refine (take_zero 2 b _ (cell_below (below_alloc1 _ _) h)).mono ?_
  rintro e w1 ⟨rfl, rfl⟩
  go_wp2
  go_returns
  exact ⟨rfl, below_alloc1 _ _⟩

set_option maxRecDepth 100000 in
set_option maxHeartbeats 1000000 in
theorem factNil_true (b : Bool) (w : World) : Calls Try.prog 6 #[.bool b] w (BoolEnd true w) := by
  cases b
  · go_enter Try.func6, Try.ntmps6
    go_wp2_with fail
    refine (getKey_nil _).mono ?_
    rintro e w1 ⟨rfl, hb⟩
    unfold key0
    go_wp2_with fail
    refine (works06 _).mono ?_
    rintro e w2 ⟨rfl, hb2⟩
    have hb := below_of hb (below_of (below_alloc1 _ _) hb2)
    go_wp2
    go_ret
    exact ⟨rfl, hb⟩
  · go_enter Try.func6, Try.ntmps6
    go_wp2_with fail
    refine (getKey_zero w.heap.size _ (by go_simp)).mono ?_
    rintro e w1 ⟨rfl, hb⟩
    unfold key0
    go_wp2_with fail
    refine (works06 _).mono ?_
    rintro e w2 ⟨rfl, hb2⟩
    have hb := below_of (below_of (below_alloc1 _ _) hb) (below_of (below_alloc1 _ _) hb2)
    go_wp2
    go_ret
    exact ⟨rfl, hb⟩
end Go.Proofs.Ytkkagnpidfnmpaa
