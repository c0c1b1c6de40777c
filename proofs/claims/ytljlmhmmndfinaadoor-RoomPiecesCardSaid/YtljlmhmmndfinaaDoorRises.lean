/- The walk of room's statement RoomRises: it comes to true. -/
import Derived.Test.YtljlmhmmndfinaaDoorLaws
namespace Go.Proofs.YtljlmhmmndfinaaDoor
open Go.RowKit

theorem box_froz (w : World) (c : Array Value) (j : Nat) : (w.alloc (.cells c 23)).frozen? ⟨w.heap.size, j, none⟩ = false := by go_simp

def five (W : World) (A : Nat) (b p s x y : Int) : World := ((((W.setCell ⟨A, 0, none⟩ (.int .i64 b)).setCell ⟨A, 1, none⟩ (.int .i64 p)).setCell ⟨A, 2, none⟩ (.int .i64 s)).setCell ⟨A, 3, none⟩ (.int .i64 x)).setCell ⟨A, 3, none⟩ (.int .i64 y)
theorem five_at {W : World} {A : Nat} {b p s x y c0 c1 c2 c3 : Int} (h0 : W.cell? ⟨A, 0, none⟩ = some (.int .i64 c0)) (h1 : W.cell? ⟨A, 1, none⟩ = some (.int .i64 c1)) (h2 : W.cell? ⟨A, 2, none⟩ = some (.int .i64 c2)) (h3 : W.cell? ⟨A, 3, none⟩ = some (.int .i64 c3)) :
    (five W A b p s x y).cell? ⟨A, 0, none⟩ = some (.int .i64 b) ∧ (five W A b p s x y).cell? ⟨A, 1, none⟩ = some (.int .i64 p) ∧ (five W A b p s x y).cell? ⟨A, 2, none⟩ = some (.int .i64 s) ∧ (five W A b p s x y).cell? ⟨A, 3, none⟩ = some (.int .i64 y) := by
  unfold five
  refine ⟨by go_simp, by go_simp, by go_simp, ?_⟩
  have k : ((((W.setCell ⟨A, 0, none⟩ (.int .i64 b)).setCell ⟨A, 1, none⟩ (.int .i64 p)).setCell ⟨A, 2, none⟩ (.int .i64 s)).setCell ⟨A, 3, none⟩ (.int .i64 x)).cell? ⟨A, 3, none⟩ = some (.int .i64 x) := by go_simp
  generalize (((W.setCell ⟨A, 0, none⟩ (.int .i64 b)).setCell ⟨A, 1, none⟩ (.int .i64 p)).setCell ⟨A, 2, none⟩ (.int .i64 s)).setCell ⟨A, 3, none⟩ (.int .i64 x) = V at k ⊢
  clear h0 h1 h2 h3
  go_simp
theorem five_other {W : World} {A B : Nat} {b p s x y : Int} (j : Nat) (h : B ≠ A) : (five W A b p s x y).cell? ⟨B, j, none⟩ = W.cell? ⟨B, j, none⟩ := by
  unfold five
  go_simp
theorem five_below {w W : World} {B A : Nat} {b p s x y : Int} (h : Below B w W) (hA : B ≤ A) : Below B w (five W A b p s x y) :=
  ((((h.setCell hA _).setCell hA _).setCell hA _).setCell hA _).setCell hA _
theorem five_size {W : World} {A : Nat} {b p s x y : Int} : (five W A b p s x y).heap.size = W.heap.size := by
  unfold five; simp

set_option maxHeartbeats 400000 in
theorem rises_noMay (b p s x f m : Int) (w : World) (T : Tab w) (h : NoMay b p s x) : Calls Tryd.prog 3 #[.agg #[.int .i64 b, .int .i64 p, .int .i64 s, .int .i64 x], .int .i64 f, .int .i64 m] w (TurnsEnd w) := by
  go_enter Tryd.func3, Tryd.ntmps3
  go_wp2_with fail
  refine (may_no b p s x _ (T.alloc _) h).mono ?_
  rintro e w1 ⟨rfl, hb⟩
  have T1 := (T.alloc _).below hb
  have hb1 : Below w.heap.size w w1 := (below_box _ _).trans (hb.mono (by simp))
  clear hb
  go_wp2_with fail
  refine (works_yes _ T1).mono ?_
  rintro e w2 ⟨rfl, hb⟩
  go_wp2
  go_ret
  exact ⟨rfl, hb1.trans (hb.mono hb1.size)⟩

set_option maxHeartbeats 400000 in
theorem rises_out (b p s x f m : Int) (w : World) (T : Tab w) (h : MayG b p s x) (hf : f < 0 ∨ 1000 < f ∨ m < 0 ∨ 1000 < m) : Calls Tryd.prog 3 #[.agg #[.int .i64 b, .int .i64 p, .int .i64 s, .int .i64 x], .int .i64 f, .int .i64 m] w (TurnsEnd w) := by
  have t : ∃ t1 t2 t3 t4 : Bool, decide (f < 0) = t1 ∧ decide (1000 < f) = t2 ∧ decide (m < 0) = t3 ∧ decide (1000 < m) = t4 ∧ (t1 || t2 || t3 || t4) = true := by
    refine ⟨_, _, _, _, rfl, rfl, rfl, rfl, ?_⟩
    simp
    omega
  obtain ⟨t1, t2, t3, t4, h1, h2, h3, h4, ho⟩ := t
  clear hf
  cases t1 <;> cases t2 <;> cases t3 <;> cases t4 <;> first | (exact absurd ho (by decide)) | skip
  all_goals
    clear ho
    go_enter Tryd.func3, Tryd.ntmps3
    go_wp2_with fail
    refine (may_yes b p s x _ (T.alloc _) h).mono ?_
    rintro e w1 ⟨rfl, hb⟩
    have T1 := (T.alloc _).below hb
    have hb1 : Below w.heap.size w w1 := (below_box _ _).trans (hb.mono (by simp))
    clear hb
    go_wp2_with fail
    refine (works_yes _ T1).mono ?_
    rintro e w2 ⟨rfl, hb⟩
    go_wp2
    go_ret
    exact ⟨rfl, hb1.trans (hb.mono hb1.size)⟩

set_option maxHeartbeats 1000000 in
theorem rises_in (b p s x f m : Int) (w : World) (T : Tab w) (h : MayG b p s x) (hf0 : 0 ≤ f) (hf1 : f ≤ 1000) (hm0 : 0 ≤ m) (hm1 : m ≤ 1000) : Calls Tryd.prog 3 #[.agg #[.int .i64 b, .int .i64 p, .int .i64 s, .int .i64 x], .int .i64 f, .int .i64 m] w (TurnsEnd w) := by
  have hi := h.inb
  have wfm : IntKind.i64.wrap (f + m) = f + m := IntWalk.i64_in _ (by omega)
  have w5x : IntKind.i64.wrap (5 + x) = 5 + x := IntWalk.i64_in _ (by have := hi.x0; have := hi.x1; omega)
  have t1 : decide (wantF p x (min (f + m) 1048576) < wantF p x (min f 1048576)) = false := decide_eq_false (by have := wantF_mono (x := x) (f := min f 1048576) (g := min (f + m) 1048576) hi.p0 (by omega) (by omega); omega)
  have t2 : decide (wantF p x (min f 1048576) < 5 + x) = false := decide_eq_false (by have := wantF_least (x := x) (f := min f 1048576) hi.p0 (by omega); omega)
  have HW := Lib.hid (And.intro wfm (And.intro w5x (And.intro t1 t2)))
  clear wfm w5x t1 t2
  go_enter Tryd.func3, Tryd.ntmps3
  go_wp2_with fail
  refine (may_yes b p s x _ (T.alloc _) h).mono ?_
  rintro e w1 ⟨rfl, hb⟩
  have T1 := (T.alloc _).below hb
  have g0 : w1.cell? ⟨w.heap.size, 0, none⟩ = some (.int .i64 b) := (hb.cell (by simp)).trans (box_cell0 w b p s x)
  have g1 : w1.cell? ⟨w.heap.size, 1, none⟩ = some (.int .i64 p) := (hb.cell (by simp)).trans (box_cell1 w b p s x)
  have g2 : w1.cell? ⟨w.heap.size, 2, none⟩ = some (.int .i64 s) := (hb.cell (by simp)).trans (box_cell2 w b p s x)
  have g3 : w1.cell? ⟨w.heap.size, 3, none⟩ = some (.int .i64 x) := (hb.cell (by simp)).trans (box_cell3 w b p s x)
  have hb1 : Below w.heap.size w w1 := (below_box _ _).trans (hb.mono (by simp))
  have hx1 : w.heap.size < w1.heap.size := Nat.lt_of_lt_of_le (by simp) hb.size
  clear hb
  go_wp2
  obtain ⟨wfm, w5x, t1, t2⟩ := HW.out
  have kq0 := cell_regrown g0
  have kq1 := cell_regrown g1
  have kq2 := cell_regrown g2
  have kq3 := cell_regrown g3
  refine wp_region_quiet_below (by kernel_rfl) (by kernel_rfl) ?_
  repeat (go_big_quiet_step ((first | (go_at_call 8; exact Calls.regrown_of (Want_yes b p s x _ _ (T1.below (below_regrown w1 _ _)) h (by omega) (by omega))))))
  refine wpQuiet_nil ?_
  intro w1n hqw1
  replace hqw1 : Below w1.heap.size w1 w1n := by obtain ⟨⟨dq, osq⟩, rfl⟩ := hqw1; exact below_regrown w1 dq osq
  clear kq0 kq1 kq2 kq3

  clear wfm w5x t1 t2
  have T2 := T1.below hqw1
  obtain ⟨g0, g1, g2, g3, hx, T2, hb2⟩ := held_next ⟨g0, g1, g2, g3, hx1, T1, hb1⟩ hqw1
  have hbb := hi.b0
  have hbb2 := hi.b1
  have hxx := hi.x0
  have hxx2 := hi.x1
  have hib : b < 64 → InB (b + 1) p s x := fun h64 => ⟨by omega, by omega, hi.p0, hi.p1, hi.s0, hi.s1, hi.x0, hi.x1⟩
  have hix : x ≠ 0 → InB b p s (x - 1) := fun h0 => ⟨hi.b0, hi.b1, hi.p0, hi.p1, hi.s0, hi.s1, by omega, by omega⟩
  have ht4 : decide (capF (b + 1) p x < capF b p x) = false := decide_eq_false (by have := capF_blocks (b := b) (x := x) hi.p0; omega)
  have ht5 : decide (capF b p x ≤ capF b p (x - 1)) = true := decide_eq_true (capF_spares (b := b) (x := x) hi.p0)
  have HT := Lib.hid (And.intro ht4 ht5)
  clear ht4 ht5
  by_cases hb64 : b < 64
  · have t3 : decide (b < 64) = true := decide_eq_true hb64
    go_wp2
    obtain ⟨w3, hw3⟩ : ∃ W, w1n.alloc (.cells #[.int .i64 (b + 1), .int .i64 p, .int .i64 s, .int .i64 x] 23) = W := ⟨_, rfl⟩
    rw [hw3]
    have bb3 : Below w1n.heap.size w1n w3 := hw3 ▸ below_box _ _
    have bx3 : w1n.heap.size < w3.heap.size := by rw [← hw3]; simp
    have e0 : w3.cell? ⟨w1n.heap.size, 0, none⟩ = some (.int .i64 (b + 1)) := hw3 ▸ box_cell0 w1n (b + 1) p s x
    have e1 : w3.cell? ⟨w1n.heap.size, 1, none⟩ = some (.int .i64 p) := hw3 ▸ box_cell1 w1n (b + 1) p s x
    have e2 : w3.cell? ⟨w1n.heap.size, 2, none⟩ = some (.int .i64 s) := hw3 ▸ box_cell2 w1n (b + 1) p s x
    have e3 : w3.cell? ⟨w1n.heap.size, 3, none⟩ = some (.int .i64 x) := hw3 ▸ box_cell3 w1n (b + 1) p s x
    have z0 : w3.frozen? ⟨w1n.heap.size, 0, none⟩ = false := hw3 ▸ box_froz w1n _ 0
    have z1 : w3.frozen? ⟨w1n.heap.size, 1, none⟩ = false := hw3 ▸ box_froz w1n _ 1
    have z2 : w3.frozen? ⟨w1n.heap.size, 2, none⟩ = false := hw3 ▸ box_froz w1n _ 2
    have z3 : w3.frozen? ⟨w1n.heap.size, 3, none⟩ = false := hw3 ▸ box_froz w1n _ 3
    clear hw3
    obtain ⟨g0, g1, g2, g3, hx3, T3, hb3⟩ := held_next ⟨g0, g1, g2, g3, hx, T2, hb2⟩ bb3
    obtain ⟨t4, t5⟩ := HT.out
    have kq0 := cell_regrown g0
    have kq1 := cell_regrown g1
    have kq2 := cell_regrown g2
    have kq3 := cell_regrown g3
    have kq4 := cell_regrown e0
    have kq5 := cell_regrown e1
    have kq6 := cell_regrown e2
    have kq7 := cell_regrown e3
    refine wp_region_quiet_below (by kernel_rfl) (by kernel_rfl) ?_
    repeat (go_big_quiet_step ((first | (go_at_call 9; exact Calls.regrown_of (cap_yes _ p s x _ (T3.below (below_regrown w3 _ _)) (by first | exact hi | exact hib (by assumption)))))))
    refine wpQuiet_nil ?_
    intro w3n hqw3
    replace hqw3 : Below w3.heap.size w3 w3n := by obtain ⟨⟨dq, osq⟩, rfl⟩ := hqw3; exact below_regrown w3 dq osq
    clear kq0 kq1 kq2 kq3 kq4 kq5 kq6 kq7
    clear t4 t5
    obtain ⟨g0, g1, g2, g3, hx4, T4, hb4⟩ := held_next ⟨g0, g1, g2, g3, hx3, T3, hb3⟩ hqw3
    have bx4 : w1n.heap.size < w3n.heap.size := Nat.lt_of_lt_of_le bx3 hqw3.size
    have e0 : w3n.cell? ⟨w1n.heap.size, 0, none⟩ = some (.int .i64 (b + 1)) := (hqw3.cell bx3).trans e0
    have e1 : w3n.cell? ⟨w1n.heap.size, 1, none⟩ = some (.int .i64 p) := (hqw3.cell bx3).trans e1
    have e2 : w3n.cell? ⟨w1n.heap.size, 2, none⟩ = some (.int .i64 s) := (hqw3.cell bx3).trans e2
    have e3 : w3n.cell? ⟨w1n.heap.size, 3, none⟩ = some (.int .i64 x) := (hqw3.cell bx3).trans e3
    have z0 : w3n.frozen? ⟨w1n.heap.size, 0, none⟩ = false := (hqw3.frozen bx3).trans z0
    have z1 : w3n.frozen? ⟨w1n.heap.size, 1, none⟩ = false := (hqw3.frozen bx3).trans z1
    have z2 : w3n.frozen? ⟨w1n.heap.size, 2, none⟩ = false := (hqw3.frozen bx3).trans z2
    have z3 : w3n.frozen? ⟨w1n.heap.size, 3, none⟩ = false := (hqw3.frozen bx3).trans z3
    by_cases hx0 : x = 0
    · subst hx0
      go_wp2
      change Code.wp _ _ _ _ (five w3n w1n.heap.size b p s 0 (-1))
      obtain ⟨u0, u1, u2, u3⟩ := five_at (b := b) (p := p) (s := s) (x := 0) (y := (-1)) e0 e1 e2 e3
      have hne : w.heap.size ≠ w1n.heap.size := by omega
      have v0 := (five_other (W := w3n) (A := w1n.heap.size) (b := b) (p := p) (s := s) (x := 0) (y := (-1)) 0 hne).trans g0
      have v1 := (five_other (W := w3n) (A := w1n.heap.size) (b := b) (p := p) (s := s) (x := 0) (y := (-1)) 1 hne).trans g1
      have v2 := (five_other (W := w3n) (A := w1n.heap.size) (b := b) (p := p) (s := s) (x := 0) (y := (-1)) 2 hne).trans g2
      have v3 := (five_other (W := w3n) (A := w1n.heap.size) (b := b) (p := p) (s := s) (x := 0) (y := (-1)) 3 hne).trans g3
      have hb5 := five_below (b := b) (p := p) (s := s) (x := 0) (y := (-1)) hb4 (A := w1n.heap.size) (by omega)
      have T5 := T.below hb5
      have hz5 : w.heap.size ≤ (five w3n w1n.heap.size b p s 0 (-1)).heap.size := by rw [five_size]; omega
      generalize five w3n w1n.heap.size b p s 0 (-1) = w5 at *
      clear g0 g1 g2 g3 e0 e1 e2 e3 z0 z1 z2 z3 hne
      obtain ⟨t4, t5⟩ := HT.out
      have kq0 := cell_regrown u0
      have kq1 := cell_regrown u1
      have kq2 := cell_regrown u2
      have kq3 := cell_regrown u3
      have kq4 := cell_regrown v0
      have kq5 := cell_regrown v1
      have kq6 := cell_regrown v2
      have kq7 := cell_regrown v3
      refine wp_region_quiet_below (by kernel_rfl) (by kernel_rfl) ?_
      repeat (go_big_quiet_step ((first | (go_at_call 7; exact Calls.regrown_of (works_yes _ (T5.below (below_regrown w5 _ _)))))))
      refine wpQuiet_nil ?_
      intro w5n hqw5
      replace hqw5 : Below w5.heap.size w5 w5n := by obtain ⟨⟨dq, osq⟩, rfl⟩ := hqw5; exact below_regrown w5 dq osq
      clear kq0 kq1 kq2 kq3 kq4 kq5 kq6 kq7
      go_wp2
      go_ret
      exact ⟨rfl, hb5.trans (hqw5.mono hz5)⟩
    · have tx : (x == 0) = false := by simpa using hx0
      have hx0' : 0 < x := by omega
      go_wp2
      change Code.wp _ _ _ _ (five w3n w1n.heap.size b p s x (x - 1))
      obtain ⟨u0, u1, u2, u3⟩ := five_at (b := b) (p := p) (s := s) (x := x) (y := (x - 1)) e0 e1 e2 e3
      have hne : w.heap.size ≠ w1n.heap.size := by omega
      have v0 := (five_other (W := w3n) (A := w1n.heap.size) (b := b) (p := p) (s := s) (x := x) (y := (x - 1)) 0 hne).trans g0
      have v1 := (five_other (W := w3n) (A := w1n.heap.size) (b := b) (p := p) (s := s) (x := x) (y := (x - 1)) 1 hne).trans g1
      have v2 := (five_other (W := w3n) (A := w1n.heap.size) (b := b) (p := p) (s := s) (x := x) (y := (x - 1)) 2 hne).trans g2
      have v3 := (five_other (W := w3n) (A := w1n.heap.size) (b := b) (p := p) (s := s) (x := x) (y := (x - 1)) 3 hne).trans g3
      have hb5 := five_below (b := b) (p := p) (s := s) (x := x) (y := (x - 1)) hb4 (A := w1n.heap.size) (by omega)
      have T5 := T.below hb5
      have hz5 : w.heap.size ≤ (five w3n w1n.heap.size b p s x (x - 1)).heap.size := by rw [five_size]; omega
      generalize five w3n w1n.heap.size b p s x (x - 1) = w5 at *
      clear g0 g1 g2 g3 e0 e1 e2 e3 z0 z1 z2 z3 hne
      obtain ⟨t4, t5⟩ := HT.out
      have kq0 := cell_regrown u0
      have kq1 := cell_regrown u1
      have kq2 := cell_regrown u2
      have kq3 := cell_regrown u3
      have kq4 := cell_regrown v0
      have kq5 := cell_regrown v1
      have kq6 := cell_regrown v2
      have kq7 := cell_regrown v3
      refine wp_region_quiet_below (by kernel_rfl) (by kernel_rfl) ?_
      repeat (go_big_quiet_step ((first | (go_at_call 9; exact Calls.regrown_of (cap_yes _ p s _ _ (T5.below (below_regrown w5 _ _)) (by first | exact hi | exact hix (by omega)))) | (go_at_call 7; exact Calls.regrown_of (works_yes _ (T5.below (below_regrown w5 _ _)))))))
      refine wpQuiet_nil ?_
      intro w5n hqw5
      replace hqw5 : Below w5.heap.size w5 w5n := by obtain ⟨⟨dq, osq⟩, rfl⟩ := hqw5; exact below_regrown w5 dq osq
      clear kq0 kq1 kq2 kq3 kq4 kq5 kq6 kq7
      go_wp2
      go_ret
      exact ⟨rfl, hb5.trans (hqw5.mono hz5)⟩
  · have t3 : decide (b < 64) = false := decide_eq_false hb64
    go_wp2
    obtain ⟨w3, hw3⟩ : ∃ W, w1n.alloc (.cells #[.int .i64 (b + 1), .int .i64 p, .int .i64 s, .int .i64 x] 23) = W := ⟨_, rfl⟩
    rw [hw3]
    have bb3 : Below w1n.heap.size w1n w3 := hw3 ▸ below_box _ _
    have bx3 : w1n.heap.size < w3.heap.size := by rw [← hw3]; simp
    have e0 : w3.cell? ⟨w1n.heap.size, 0, none⟩ = some (.int .i64 (b + 1)) := hw3 ▸ box_cell0 w1n (b + 1) p s x
    have e1 : w3.cell? ⟨w1n.heap.size, 1, none⟩ = some (.int .i64 p) := hw3 ▸ box_cell1 w1n (b + 1) p s x
    have e2 : w3.cell? ⟨w1n.heap.size, 2, none⟩ = some (.int .i64 s) := hw3 ▸ box_cell2 w1n (b + 1) p s x
    have e3 : w3.cell? ⟨w1n.heap.size, 3, none⟩ = some (.int .i64 x) := hw3 ▸ box_cell3 w1n (b + 1) p s x
    have z0 : w3.frozen? ⟨w1n.heap.size, 0, none⟩ = false := hw3 ▸ box_froz w1n _ 0
    have z1 : w3.frozen? ⟨w1n.heap.size, 1, none⟩ = false := hw3 ▸ box_froz w1n _ 1
    have z2 : w3.frozen? ⟨w1n.heap.size, 2, none⟩ = false := hw3 ▸ box_froz w1n _ 2
    have z3 : w3.frozen? ⟨w1n.heap.size, 3, none⟩ = false := hw3 ▸ box_froz w1n _ 3
    clear hw3
    obtain ⟨g0, g1, g2, g3, hx3, T3, hb3⟩ := held_next ⟨g0, g1, g2, g3, hx, T2, hb2⟩ bb3
    obtain ⟨t4, t5⟩ := HT.out
    have kq0 := cell_regrown g0
    have kq1 := cell_regrown g1
    have kq2 := cell_regrown g2
    have kq3 := cell_regrown g3
    have kq4 := cell_regrown e0
    have kq5 := cell_regrown e1
    have kq6 := cell_regrown e2
    have kq7 := cell_regrown e3
    refine wp_region_quiet_below (by kernel_rfl) (by kernel_rfl) ?_
    repeat (go_big_quiet_step ((first | (go_at_call 9; exact Calls.regrown_of (cap_yes _ p s x _ (T3.below (below_regrown w3 _ _)) (by first | exact hi | exact hib (by assumption)))))))
    refine wpQuiet_nil ?_
    intro w3n hqw3
    replace hqw3 : Below w3.heap.size w3 w3n := by obtain ⟨⟨dq, osq⟩, rfl⟩ := hqw3; exact below_regrown w3 dq osq
    clear kq0 kq1 kq2 kq3 kq4 kq5 kq6 kq7
    clear t4 t5
    obtain ⟨g0, g1, g2, g3, hx4, T4, hb4⟩ := held_next ⟨g0, g1, g2, g3, hx3, T3, hb3⟩ hqw3
    have bx4 : w1n.heap.size < w3n.heap.size := Nat.lt_of_lt_of_le bx3 hqw3.size
    have e0 : w3n.cell? ⟨w1n.heap.size, 0, none⟩ = some (.int .i64 (b + 1)) := (hqw3.cell bx3).trans e0
    have e1 : w3n.cell? ⟨w1n.heap.size, 1, none⟩ = some (.int .i64 p) := (hqw3.cell bx3).trans e1
    have e2 : w3n.cell? ⟨w1n.heap.size, 2, none⟩ = some (.int .i64 s) := (hqw3.cell bx3).trans e2
    have e3 : w3n.cell? ⟨w1n.heap.size, 3, none⟩ = some (.int .i64 x) := (hqw3.cell bx3).trans e3
    have z0 : w3n.frozen? ⟨w1n.heap.size, 0, none⟩ = false := (hqw3.frozen bx3).trans z0
    have z1 : w3n.frozen? ⟨w1n.heap.size, 1, none⟩ = false := (hqw3.frozen bx3).trans z1
    have z2 : w3n.frozen? ⟨w1n.heap.size, 2, none⟩ = false := (hqw3.frozen bx3).trans z2
    have z3 : w3n.frozen? ⟨w1n.heap.size, 3, none⟩ = false := (hqw3.frozen bx3).trans z3
    by_cases hx0 : x = 0
    · subst hx0
      go_wp2
      change Code.wp _ _ _ _ (five w3n w1n.heap.size b p s 0 (-1))
      obtain ⟨u0, u1, u2, u3⟩ := five_at (b := b) (p := p) (s := s) (x := 0) (y := (-1)) e0 e1 e2 e3
      have hne : w.heap.size ≠ w1n.heap.size := by omega
      have v0 := (five_other (W := w3n) (A := w1n.heap.size) (b := b) (p := p) (s := s) (x := 0) (y := (-1)) 0 hne).trans g0
      have v1 := (five_other (W := w3n) (A := w1n.heap.size) (b := b) (p := p) (s := s) (x := 0) (y := (-1)) 1 hne).trans g1
      have v2 := (five_other (W := w3n) (A := w1n.heap.size) (b := b) (p := p) (s := s) (x := 0) (y := (-1)) 2 hne).trans g2
      have v3 := (five_other (W := w3n) (A := w1n.heap.size) (b := b) (p := p) (s := s) (x := 0) (y := (-1)) 3 hne).trans g3
      have hb5 := five_below (b := b) (p := p) (s := s) (x := 0) (y := (-1)) hb4 (A := w1n.heap.size) (by omega)
      have T5 := T.below hb5
      have hz5 : w.heap.size ≤ (five w3n w1n.heap.size b p s 0 (-1)).heap.size := by rw [five_size]; omega
      generalize five w3n w1n.heap.size b p s 0 (-1) = w5 at *
      clear g0 g1 g2 g3 e0 e1 e2 e3 z0 z1 z2 z3 hne
      obtain ⟨t4, t5⟩ := HT.out
      have kq0 := cell_regrown u0
      have kq1 := cell_regrown u1
      have kq2 := cell_regrown u2
      have kq3 := cell_regrown u3
      have kq4 := cell_regrown v0
      have kq5 := cell_regrown v1
      have kq6 := cell_regrown v2
      have kq7 := cell_regrown v3
      refine wp_region_quiet_below (by kernel_rfl) (by kernel_rfl) ?_
      repeat (go_big_quiet_step ((first | (go_at_call 7; exact Calls.regrown_of (works_yes _ (T5.below (below_regrown w5 _ _)))))))
      refine wpQuiet_nil ?_
      intro w5n hqw5
      replace hqw5 : Below w5.heap.size w5 w5n := by obtain ⟨⟨dq, osq⟩, rfl⟩ := hqw5; exact below_regrown w5 dq osq
      clear kq0 kq1 kq2 kq3 kq4 kq5 kq6 kq7
      go_wp2
      go_ret
      exact ⟨rfl, hb5.trans (hqw5.mono hz5)⟩
    · have tx : (x == 0) = false := by simpa using hx0
      have hx0' : 0 < x := by omega
      go_wp2
      change Code.wp _ _ _ _ (five w3n w1n.heap.size b p s x (x - 1))
      obtain ⟨u0, u1, u2, u3⟩ := five_at (b := b) (p := p) (s := s) (x := x) (y := (x - 1)) e0 e1 e2 e3
      have hne : w.heap.size ≠ w1n.heap.size := by omega
      have v0 := (five_other (W := w3n) (A := w1n.heap.size) (b := b) (p := p) (s := s) (x := x) (y := (x - 1)) 0 hne).trans g0
      have v1 := (five_other (W := w3n) (A := w1n.heap.size) (b := b) (p := p) (s := s) (x := x) (y := (x - 1)) 1 hne).trans g1
      have v2 := (five_other (W := w3n) (A := w1n.heap.size) (b := b) (p := p) (s := s) (x := x) (y := (x - 1)) 2 hne).trans g2
      have v3 := (five_other (W := w3n) (A := w1n.heap.size) (b := b) (p := p) (s := s) (x := x) (y := (x - 1)) 3 hne).trans g3
      have hb5 := five_below (b := b) (p := p) (s := s) (x := x) (y := (x - 1)) hb4 (A := w1n.heap.size) (by omega)
      have T5 := T.below hb5
      have hz5 : w.heap.size ≤ (five w3n w1n.heap.size b p s x (x - 1)).heap.size := by rw [five_size]; omega
      generalize five w3n w1n.heap.size b p s x (x - 1) = w5 at *
      clear g0 g1 g2 g3 e0 e1 e2 e3 z0 z1 z2 z3 hne
      obtain ⟨t4, t5⟩ := HT.out
      have kq0 := cell_regrown u0
      have kq1 := cell_regrown u1
      have kq2 := cell_regrown u2
      have kq3 := cell_regrown u3
      have kq4 := cell_regrown v0
      have kq5 := cell_regrown v1
      have kq6 := cell_regrown v2
      have kq7 := cell_regrown v3
      refine wp_region_quiet_below (by kernel_rfl) (by kernel_rfl) ?_
      repeat (go_big_quiet_step ((first | (go_at_call 9; exact Calls.regrown_of (cap_yes _ p s _ _ (T5.below (below_regrown w5 _ _)) (by first | exact hi | exact hix (by omega)))) | (go_at_call 7; exact Calls.regrown_of (works_yes _ (T5.below (below_regrown w5 _ _)))))))
      refine wpQuiet_nil ?_
      intro w5n hqw5
      replace hqw5 : Below w5.heap.size w5 w5n := by obtain ⟨⟨dq, osq⟩, rfl⟩ := hqw5; exact below_regrown w5 dq osq
      clear kq0 kq1 kq2 kq3 kq4 kq5 kq6 kq7
      go_wp2
      go_ret
      exact ⟨rfl, hb5.trans (hqw5.mono hz5)⟩

theorem rises_true (b p s x f m : Int) (w : World) (T : Tab w) : Calls Tryd.prog 3 #[.agg #[.int .i64 b, .int .i64 p, .int .i64 s, .int .i64 x], .int .i64 f, .int .i64 m] w (TurnsEnd w) := by
  rcases may_or b p s x with h | h
  · by_cases hh : f < 0 ∨ 1000 < f ∨ m < 0 ∨ 1000 < m
    · exact rises_out b p s x f m w T h hh
    · exact rises_in b p s x f m w T h (by omega) (by omega) (by omega) (by omega)
  · exact rises_noMay b p s x f m w T h
end Go.Proofs.YtljlmhmmndfinaaDoor
