/- The walks of room's statements: each comes to true. -/
import Derived.Test.YtljlmhmmndfinaaDoorPlain
namespace Go.Proofs.YtljlmhmmndfinaaDoor
open Go.RowKit

set_option maxHeartbeats 400000 in
theorem pieces_true (n : Int) (w : World) (T : Tab w) : Calls Tryd.prog 5 #[.int .i64 n] w fun e w' => e = .returned (.bool true) ∧ Below w.heap.size w w' := by
  by_cases h1 : n < 128
  · go_enter Tryd.func5, Tryd.ntmps5
    go_wp2_with fail
    refine (piece_no n _ T (.inl h1)).mono ?_
    rintro e w' ⟨rfl, rfl⟩
    go_wp2_with fail
    refine (works_yes _ T).mono ?_
    rintro e w' ⟨rfl, hb⟩
    go_wp2
    go_ret
    exact ⟨rfl, hb⟩
  · by_cases h2 : 256 < n
    · go_enter Tryd.func5, Tryd.ntmps5
      go_wp2_with fail
      refine (piece_no n _ T (.inr h2)).mono ?_
      rintro e w' ⟨rfl, rfl⟩
      go_wp2_with fail
      refine (works_yes _ T).mono ?_
      rintro e w' ⟨rfl, hb⟩
      go_wp2
      go_ret
      exact ⟨rfl, hb⟩
    · have h3 : 128 ≤ n := by omega
      have h4 : n ≤ 256 := by omega
      clear h1 h2
      have t1 : decide (1 ≤ n - 56) = true := decide_eq_true (by omega)
      have t2 : decide (n - 56 + 51 ≤ n - 5) = true := decide_eq_true (by omega)
      have t3 : decide (82 ≤ n - 5) = true := decide_eq_true (by omega)
      have t4 : decide (8 * (n - 56) ≤ 65535) = true := decide_eq_true (by omega)
      have t5 : decide (n - 56 ≤ 255) = true := decide_eq_true (by omega)
      go_enter Tryd.func5, Tryd.ntmps5
      go_wp2_with fail
      refine (piece_yes n _ T h3 h4).mono ?_
      rintro e w' ⟨rfl, rfl⟩
      go_wp2_with fail
      refine (works_yes _ T).mono ?_
      rintro e w' ⟨rfl, hb⟩
      go_wp2
      go_ret
      exact ⟨rfl, hb⟩

set_option maxHeartbeats 400000 in
theorem turns_no (b p s x f g : Int) (w : World) (T : Tab w) (h : NoTurn b p s x f) (hf : f ≤ 9223372036854775807) : Calls Tryd.prog 4 #[.agg #[.int .i64 b, .int .i64 p, .int .i64 s, .int .i64 x], .int .i64 f, .int .i64 g] w fun e w' => e = .returned (.bool true) ∧ Below w.heap.size w w' := by
  go_enter Tryd.func4, Tryd.ntmps4
  go_wp2_with fail
  refine (turn_no b p s x f _ (T.alloc _) h hf).mono ?_
  rintro e w1 ⟨rfl, hb⟩
  have T1 := (T.alloc _).below hb
  have hb1 : Below w.heap.size w w1 := (below_box _ _).trans (hb.mono (by simp))
  clear hb
  go_wp2_with fail
  refine (works_yes _ T1).mono ?_
  rintro e w2 ⟨rfl, hb⟩
  go_wp2
  go_ret
  exact ⟨rfl, hb1.trans (hb.mono hb1.size)⟩

/-- Which number of facts the statement takes for 'fewer'. -/
structure Fewer (f g k : Int) : Prop where
  k0 : 0 ≤ k
  k1 : k ≤ f
  yes : (g < 0 ∨ f < g) ∧ k = f / 2 ∨ (0 ≤ g ∧ g ≤ f) ∧ k = g

def TurnsEnd (w : World) (e : Ending) (w' : World) : Prop := e = .returned (.bool true) ∧ Below w.heap.size w w'

set_option maxHeartbeats 1000000 in
theorem turns_yes (b p s x f g : Int) (w : World) (T : Tab w) (h : TurnG b p s x f) (hf : f ≤ 9223372036854775807) : Calls Tryd.prog 4 #[.agg #[.int .i64 b, .int .i64 p, .int .i64 s, .int .i64 x], .int .i64 f, .int .i64 g] w (TurnsEnd w) := by
  have hm := h.may
  have hi := hm.inb
  have f0 := h.f0
  have hcap := turn_cap h
  have hfew : ∀ k, 0 ≤ k → k ≤ f → TurnG b p s x k := fun k h0 h1 => turn_fewer h h0 h1
  have hfit := h.fits
  have hbb := hi.b1
  have hbx := hi.x0
  have hb8 := hi.b0
  have hx4 := hi.x1
  have hwb := wantF_bd (p := p) (x := x) (f := min f 1048576) hi.p0 (by omega) (by omega) hi.x0 hi.x1 hi.p1
  have hq : 0 ≤ f / 2 ∧ f / 2 ≤ f := by omega
  have HQ := Lib.hid hq
  have w1e : IntKind.i64.wrap (2 * wantF p x (min f 1048576)) = 2 * wantF p x (min f 1048576) := IntWalk.i64_in _ (by omega)
  have w2e : IntKind.i64.wrap (2 * wantF p x (min f 1048576) + 2) = 2 * wantF p x (min f 1048576) + 2 := IntWalk.i64_in _ (by omega)
  have w3e : IntKind.i64.wrap (b - x) = b - x := IntWalk.i64_in _ (by omega)
  have t1 : decide (f ≤ capF b p x) = true := decide_eq_true hcap
  have t2 : decide (2 * wantF p x (min f 1048576) + 2 ≤ b - x) = true := decide_eq_true hfit
  have HW := Lib.hid (And.intro w1e (And.intro w2e (And.intro w3e (And.intro t1 t2))))
  clear hfit hcap hbb hbx hb8 hx4 hwb w1e w2e w3e t1 t2 hq
  have key : ∀ (W : World) (Q : Exit → Act → World → Prop) (k : Int) (a : Act), True := fun _ _ _ _ => trivial
  clear key
  by_cases hg : g < 0
  · go_enter Tryd.func4, Tryd.ntmps4
    go_wp2_with fail
    refine (turn_yes b p s x f _ (T.alloc _) h hf).mono ?_
    rintro e w1 ⟨rfl, hb⟩
    have T1 := (T.alloc _).below hb
    have g0 : w1.cell? ⟨w.heap.size, 0, none⟩ = some (.int .i64 b) := (hb.cell (by simp)).trans (box_cell0 w b p s x)
    have g1 : w1.cell? ⟨w.heap.size, 1, none⟩ = some (.int .i64 p) := (hb.cell (by simp)).trans (box_cell1 w b p s x)
    have g2 : w1.cell? ⟨w.heap.size, 2, none⟩ = some (.int .i64 s) := (hb.cell (by simp)).trans (box_cell2 w b p s x)
    have g3 : w1.cell? ⟨w.heap.size, 3, none⟩ = some (.int .i64 x) := (hb.cell (by simp)).trans (box_cell3 w b p s x)
    have hb1 : Below w.heap.size w w1 := (below_box _ _).trans (hb.mono (by simp))
    clear hb
    go_wp2
    obtain ⟨w1e, w2e, w3e, t1, t2⟩ := HW.out
    have kq0 := cell_regrown g0
    have kq1 := cell_regrown g1
    have kq2 := cell_regrown g2
    have kq3 := cell_regrown g3
    refine wp_region_quiet_below (by kernel_rfl) (by kernel_rfl) ?_
    repeat (go_big_quiet_step ((first | (go_at_call 9; exact Calls.regrown_of (cap_yes b p s x _ (T1.below (below_regrown w1 _ _)) hi)) | (go_at_call 10; exact Calls.regrown_of (turn_yes b p s x (f / 2) _ (T1.below (below_regrown w1 _ _)) (hfew _ (by have := HQ.out; omega) (by have := HQ.out; omega)) (by have := HQ.out; omega))) | (go_at_call 8; exact Calls.regrown_of (Want_yes b p s x f _ (T1.below (below_regrown w1 _ _)) hm f0 hf)) | (go_at_call 7; exact Calls.regrown_of (works_yes _ (T1.below (below_regrown w1 _ _)))))))
    refine wpQuiet_nil ?_
    intro w1n hqw1
    replace hqw1 : Below w1.heap.size w1 w1n := by obtain ⟨⟨dq, osq⟩, rfl⟩ := hqw1; exact below_regrown w1 dq osq
    clear kq0 kq1 kq2 kq3
    go_wp2
    go_ret
    exact ⟨rfl, hb1.trans (hqw1.mono hb1.size)⟩
  · by_cases hg2 : f < g
    · go_enter Tryd.func4, Tryd.ntmps4
      go_wp2_with fail
      refine (turn_yes b p s x f _ (T.alloc _) h hf).mono ?_
      rintro e w1 ⟨rfl, hb⟩
      have T1 := (T.alloc _).below hb
      have g0 : w1.cell? ⟨w.heap.size, 0, none⟩ = some (.int .i64 b) := (hb.cell (by simp)).trans (box_cell0 w b p s x)
      have g1 : w1.cell? ⟨w.heap.size, 1, none⟩ = some (.int .i64 p) := (hb.cell (by simp)).trans (box_cell1 w b p s x)
      have g2 : w1.cell? ⟨w.heap.size, 2, none⟩ = some (.int .i64 s) := (hb.cell (by simp)).trans (box_cell2 w b p s x)
      have g3 : w1.cell? ⟨w.heap.size, 3, none⟩ = some (.int .i64 x) := (hb.cell (by simp)).trans (box_cell3 w b p s x)
      have hb1 : Below w.heap.size w w1 := (below_box _ _).trans (hb.mono (by simp))
      clear hb
      go_wp2
      obtain ⟨w1e, w2e, w3e, t1, t2⟩ := HW.out
      have kq0 := cell_regrown g0
      have kq1 := cell_regrown g1
      have kq2 := cell_regrown g2
      have kq3 := cell_regrown g3
      refine wp_region_quiet_below (by kernel_rfl) (by kernel_rfl) ?_
      repeat (go_big_quiet_step ((first | (go_at_call 9; exact Calls.regrown_of (cap_yes b p s x _ (T1.below (below_regrown w1 _ _)) hi)) | (go_at_call 10; exact Calls.regrown_of (turn_yes b p s x (f / 2) _ (T1.below (below_regrown w1 _ _)) (hfew _ (by have := HQ.out; omega) (by have := HQ.out; omega)) (by have := HQ.out; omega))) | (go_at_call 8; exact Calls.regrown_of (Want_yes b p s x f _ (T1.below (below_regrown w1 _ _)) hm f0 hf)) | (go_at_call 7; exact Calls.regrown_of (works_yes _ (T1.below (below_regrown w1 _ _)))))))
      refine wpQuiet_nil ?_
      intro w1n hqw1
      replace hqw1 : Below w1.heap.size w1 w1n := by obtain ⟨⟨dq, osq⟩, rfl⟩ := hqw1; exact below_regrown w1 dq osq
      clear kq0 kq1 kq2 kq3
      go_wp2
      go_ret
      exact ⟨rfl, hb1.trans (hqw1.mono hb1.size)⟩
    · go_enter Tryd.func4, Tryd.ntmps4
      go_wp2_with fail
      refine (turn_yes b p s x f _ (T.alloc _) h hf).mono ?_
      rintro e w1 ⟨rfl, hb⟩
      have T1 := (T.alloc _).below hb
      have g0 : w1.cell? ⟨w.heap.size, 0, none⟩ = some (.int .i64 b) := (hb.cell (by simp)).trans (box_cell0 w b p s x)
      have g1 : w1.cell? ⟨w.heap.size, 1, none⟩ = some (.int .i64 p) := (hb.cell (by simp)).trans (box_cell1 w b p s x)
      have g2 : w1.cell? ⟨w.heap.size, 2, none⟩ = some (.int .i64 s) := (hb.cell (by simp)).trans (box_cell2 w b p s x)
      have g3 : w1.cell? ⟨w.heap.size, 3, none⟩ = some (.int .i64 x) := (hb.cell (by simp)).trans (box_cell3 w b p s x)
      have hb1 : Below w.heap.size w w1 := (below_box _ _).trans (hb.mono (by simp))
      clear hb
      go_wp2
      obtain ⟨w1e, w2e, w3e, t1, t2⟩ := HW.out
      have kq0 := cell_regrown g0
      have kq1 := cell_regrown g1
      have kq2 := cell_regrown g2
      have kq3 := cell_regrown g3
      refine wp_region_quiet_below (by kernel_rfl) (by kernel_rfl) ?_
      repeat (go_big_quiet_step ((first | (go_at_call 9; exact Calls.regrown_of (cap_yes b p s x _ (T1.below (below_regrown w1 _ _)) hi)) | (go_at_call 10; exact Calls.regrown_of (turn_yes b p s x (g) _ (T1.below (below_regrown w1 _ _)) (hfew _ (by have := HQ.out; omega) (by have := HQ.out; omega)) (by have := HQ.out; omega))) | (go_at_call 8; exact Calls.regrown_of (Want_yes b p s x f _ (T1.below (below_regrown w1 _ _)) hm f0 hf)) | (go_at_call 7; exact Calls.regrown_of (works_yes _ (T1.below (below_regrown w1 _ _)))))))
      refine wpQuiet_nil ?_
      intro w1n hqw1
      replace hqw1 : Below w1.heap.size w1 w1n := by obtain ⟨⟨dq, osq⟩, rfl⟩ := hqw1; exact below_regrown w1 dq osq
      clear kq0 kq1 kq2 kq3
      go_wp2
      go_ret
      exact ⟨rfl, hb1.trans (hqw1.mono hb1.size)⟩
end Go.Proofs.YtljlmhmmndfinaaDoor
