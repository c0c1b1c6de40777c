/- The walks of room's Turn and Piece, and of the statements' own works. -/
import Derived.Test.YtljlmhmmndfinaaDoorCaps
import Derived.Lib.QuietBelow
namespace Go.Proofs.YtljlmhmmndfinaaDoor
open Go.RowKit

theorem box_cell0 (w : World) (b p s x : Int) : (w.alloc (.cells #[.int .i64 b, .int .i64 p, .int .i64 s, .int .i64 x] 23)).cell? ⟨w.heap.size, 0, none⟩ = some (.int .i64 b) := by go_simp
theorem box_cell1 (w : World) (b p s x : Int) : (w.alloc (.cells #[.int .i64 b, .int .i64 p, .int .i64 s, .int .i64 x] 23)).cell? ⟨w.heap.size, 1, none⟩ = some (.int .i64 p) := by go_simp
theorem box_cell2 (w : World) (b p s x : Int) : (w.alloc (.cells #[.int .i64 b, .int .i64 p, .int .i64 s, .int .i64 x] 23)).cell? ⟨w.heap.size, 2, none⟩ = some (.int .i64 s) := by go_simp
theorem box_cell3 (w : World) (b p s x : Int) : (w.alloc (.cells #[.int .i64 b, .int .i64 p, .int .i64 s, .int .i64 x] 23)).cell? ⟨w.heap.size, 3, none⟩ = some (.int .i64 x) := by go_simp

set_option maxHeartbeats 400000 in
theorem turn_noMay (b p s x f : Int) (w : World) (T : Tab w) (h : NoMay b p s x) :
    Calls Tryd.prog 10 #[.agg #[.int .i64 b, .int .i64 p, .int .i64 s, .int .i64 x], .int .i64 f] w fun e w' => e = .returned (.bool false) ∧ Below w.heap.size w w' := by
  go_enter Tryd.func10, Tryd.ntmps10
  go_wp2
  obtain ⟨W0, hW0⟩ : ∃ W0, w.alloc (.cells #[.int .i64 b, .int .i64 p, .int .i64 s, .int .i64 x] 23) = W0 := ⟨_, rfl⟩
  have T0 : Tab W0 := hW0 ▸ T.alloc _
  have hb0 : Below w.heap.size w W0 := hW0 ▸ below_box _ _
  have f0 : W0.cell? ⟨w.heap.size, 0, none⟩ = some (.int .i64 b) := hW0 ▸ box_cell0 w b p s x
  have f1 : W0.cell? ⟨w.heap.size, 1, none⟩ = some (.int .i64 p) := hW0 ▸ box_cell1 w b p s x
  have f2 : W0.cell? ⟨w.heap.size, 2, none⟩ = some (.int .i64 s) := hW0 ▸ box_cell2 w b p s x
  have f3 : W0.cell? ⟨w.heap.size, 3, none⟩ = some (.int .i64 x) := hW0 ▸ box_cell3 w b p s x
  rw [hW0]
  clear hW0
  have k0 := cell_regrown f0
  have k1 := cell_regrown f1
  have k2 := cell_regrown f2
  have k3 := cell_regrown f3
  refine wp_region_quiet_below (by kernel_rfl) (by kernel_rfl) ?_
  repeat (go_big_quiet_step ((go_at_call 6; exact Calls.regrown_of (may_no b p s x _ (T0.below (below_regrown W0 _ _)) h))))
  refine wpQuiet_nil ?_
  intro w1 hw'
  replace hw' : Below W0.heap.size W0 w1 := by obtain ⟨⟨dq, osq⟩, rfl⟩ := hw'; exact below_regrown W0 dq osq
  go_wp2
  go_ret
  exact ⟨rfl, hb0.trans (hw'.mono hb0.size)⟩

set_option maxHeartbeats 400000 in
theorem turn_neg (b p s x f : Int) (w : World) (T : Tab w) (h : MayG b p s x) (hf : f < 0) :
    Calls Tryd.prog 10 #[.agg #[.int .i64 b, .int .i64 p, .int .i64 s, .int .i64 x], .int .i64 f] w fun e w' => e = .returned (.bool false) ∧ Below w.heap.size w w' := by
  have hge : decide (0 ≤ f) = false := by simpa using hf
  go_enter Tryd.func10, Tryd.ntmps10
  go_wp2
  obtain ⟨W0, hW0⟩ : ∃ W0, w.alloc (.cells #[.int .i64 b, .int .i64 p, .int .i64 s, .int .i64 x] 23) = W0 := ⟨_, rfl⟩
  have T0 : Tab W0 := hW0 ▸ T.alloc _
  have hb0 : Below w.heap.size w W0 := hW0 ▸ below_box _ _
  have f0 : W0.cell? ⟨w.heap.size, 0, none⟩ = some (.int .i64 b) := hW0 ▸ box_cell0 w b p s x
  have f1 : W0.cell? ⟨w.heap.size, 1, none⟩ = some (.int .i64 p) := hW0 ▸ box_cell1 w b p s x
  have f2 : W0.cell? ⟨w.heap.size, 2, none⟩ = some (.int .i64 s) := hW0 ▸ box_cell2 w b p s x
  have f3 : W0.cell? ⟨w.heap.size, 3, none⟩ = some (.int .i64 x) := hW0 ▸ box_cell3 w b p s x
  rw [hW0]
  clear hW0
  have k0 := cell_regrown f0
  have k1 := cell_regrown f1
  have k2 := cell_regrown f2
  have k3 := cell_regrown f3
  refine wp_region_quiet_below (by kernel_rfl) (by kernel_rfl) ?_
  repeat (go_big_quiet_step ((go_at_call 6; exact Calls.regrown_of (may_yes b p s x _ (T0.below (below_regrown W0 _ _)) h))))
  refine wpQuiet_nil ?_
  intro w1 hw'
  replace hw' : Below W0.heap.size W0 w1 := by obtain ⟨⟨dq, osq⟩, rfl⟩ := hw'; exact below_regrown W0 dq osq
  go_wp2
  go_ret
  exact ⟨rfl, hb0.trans (hw'.mono hb0.size)⟩

set_option maxHeartbeats 400000 in
theorem turn_full (b p s x f : Int) (w : World) (T : Tab w) (hm : MayG b p s x) (hf : 0 ≤ f) (hf2 : f ≤ 9223372036854775807) (hfits : b - x < 2 * wantF p x (min f 1048576) + 2) :
    Calls Tryd.prog 10 #[.agg #[.int .i64 b, .int .i64 p, .int .i64 s, .int .i64 x], .int .i64 f] w fun e w' => e = .returned (.bool false) ∧ Below w.heap.size w w' := by
  obtain ⟨b0, b1, p0, p1, s0, s1, x0, x1⟩ := hm.inb
  have hge : decide (0 ≤ f) = true := by simpa using hf
  obtain ⟨m0, m1⟩ := wantF_bd (p := p) (x := x) (f := min f 1048576) p0 (by omega) (by omega) x0 x1 p1
  generalize hW : wantF p x (min f 1048576) = W at *
  have HW := Lib.hid hW
  clear hW
  have HF := Lib.hid hfits
  clear hfits
  go_enter Tryd.func10, Tryd.ntmps10
  go_wp2
  go_region_held3 (fun w' => w'.cell? ⟨w.heap.size, 0, none⟩ = some (.int .i64 b) ∧ w'.cell? ⟨w.heap.size, 1, none⟩ = some (.int .i64 p) ∧ w'.cell? ⟨w.heap.size, 2, none⟩ = some (.int .i64 s) ∧ w'.cell? ⟨w.heap.size, 3, none⟩ = some (.int .i64 x) ∧ w.heap.size < w'.heap.size ∧ Tab w' ∧ Below w.heap.size w w')
    (first | exact ⟨by go_keep, by go_keep, by go_keep, by go_keep, by go_keep, T.begin_ _, begin_below _ _⟩ | exact held_next ‹_ ∧ _› ‹Below _ _ _› | go_keep)
    (first | (go_at_call 6; refine (may_yes b p s x _ (by first | exact T.begin_ _ | exact (‹_ ∧ _ ∧ _ ∧ _ ∧ _ ∧ _ ∧ _› : _ ∧ _ ∧ _ ∧ _ ∧ _ ∧ Tab _ ∧ _).2.2.2.2.2.1) hm).mono ?_; rintro e w' ⟨rfl, hb⟩) | (go_at_call 8; refine (Want_yes b p s x f _ (by first | exact T.begin_ _ | exact (‹_ ∧ _ ∧ _ ∧ _ ∧ _ ∧ _ ∧ _› : _ ∧ _ ∧ _ ∧ _ ∧ _ ∧ Tab _ ∧ _).2.2.2.2.2.1) hm hf hf2).mono ?_; rintro e w' ⟨rfl, hb⟩))
  go_wp2
  go_ret
  rw [HW.out, IntWalk.i64_in (2 * W) (by omega), IntWalk.i64_in (2 * W + 2) (by omega), IntWalk.i64_in (b - x) (by omega)]
  have hfits := HF.out
  have hh := ‹_ ∧ _ ∧ _ ∧ _ ∧ _ ∧ _ ∧ _›
  exact ⟨by simp; omega, hh.2.2.2.2.2.2⟩

theorem turn_no (b p s x f : Int) (w : World) (T : Tab w) (h : NoTurn b p s x f) (hf2 : f ≤ 9223372036854775807) :
    Calls Tryd.prog 10 #[.agg #[.int .i64 b, .int .i64 p, .int .i64 s, .int .i64 x], .int .i64 f] w fun e w' => e = .returned (.bool false) ∧ Below w.heap.size w w' := by
  rcases may_or b p s x with hm | hm
  · by_cases hf : f < 0
    · exact turn_neg b p s x f w T hm hf
    · refine turn_full b p s x f w T hm (by omega) hf2 ?_
      rcases h.no with h | h | h
      · rcases h.no with h | h
        · exact (outB_not hm.inb h).elim
        · have := hm.cap; omega
      · omega
      · exact h
  · exact turn_noMay b p s x f w T hm

set_option maxHeartbeats 400000 in
theorem piece_no (n : Int) (w : World) (T : Tab w) (h : n < 128 ∨ 256 < n) :
    Calls Tryd.prog 11 #[.int .i64 n] w fun e w' => e = .returned (.int .i64 0) ∧ w = w' := by
  have c4 := T.c4
  have c5 := T.c5
  by_cases h1 : n < 128
  · clear h
    go_enter Tryd.func11, Tryd.ntmps11
    go_wp2
    go_ret
    exact ⟨rfl, rfl⟩
  · have h2 : 256 < n := by omega
    clear h
    go_enter Tryd.func11, Tryd.ntmps11
    go_wp2
    go_ret
    exact ⟨rfl, rfl⟩

set_option maxHeartbeats 400000 in
theorem piece_yes (n : Int) (w : World) (T : Tab w) (h1 : 128 ≤ n) (h2 : n ≤ 256) :
    Calls Tryd.prog 11 #[.int .i64 n] w fun e w' => e = .returned (.int .i64 (n - 56)) ∧ w = w' := by
  have c4 := T.c4
  have c5 := T.c5
  go_enter Tryd.func11, Tryd.ntmps11
  go_wp2
  go_ret
  exact ⟨rfl, rfl⟩

theorem inb1 : InB 16 8 128 0 := ⟨by omega, by omega, by omega, by omega, by omega, by omega, by omega, by omega⟩
theorem inb2 : InB 16 8 128 2 := ⟨by omega, by omega, by omega, by omega, by omega, by omega, by omega, by omega⟩
theorem may1 : MayG 16 8 128 0 := ⟨inb1, by decide⟩
theorem want1 : wantF 8 0 (min 5 1048576) = 11 := by decide
theorem cap2 : capF 16 8 2 = 6 := by decide
theorem turn1 : TurnG 16 8 128 0 1 := ⟨may1, by omega, by decide⟩
theorem turn3 : NoTurn 16 8 128 0 3 := ⟨.inr (.inr (by decide))⟩
theorem want_five (w : World) (T : Tab w) : Calls Tryd.prog 8 #[.agg #[.int .i64 16, .int .i64 8, .int .i64 128, .int .i64 0], .int .i64 5] w fun e w' => e = .returned (.int .i64 11) ∧ Below w.heap.size w w' :=
  (Want_yes 16 8 128 0 5 w T may1 (by omega) (by omega)).mono fun e w' ⟨he, hb⟩ => ⟨by rw [he, want1], hb⟩
theorem cap_two (w : World) (T : Tab w) : Calls Tryd.prog 9 #[.agg #[.int .i64 16, .int .i64 8, .int .i64 128, .int .i64 2]] w fun e w' => e = .returned (.int .i64 6) ∧ Below w.heap.size w w' :=
  (cap_yes 16 8 128 2 w T inb2).mono fun e w' ⟨he, hb⟩ => ⟨by rw [he, cap2], hb⟩
theorem turn_any (k : Int) (b : Bool) (hk : b = true ∧ k = 1 ∨ b = false ∧ k = 3) (w : World) (T : Tab w) : Calls Tryd.prog 10 #[.agg #[.int .i64 16, .int .i64 8, .int .i64 128, .int .i64 0], .int .i64 k] w fun e w' => e = .returned (.bool b) ∧ Below w.heap.size w w' := by
  rcases hk with ⟨rfl, rfl⟩ | ⟨rfl, rfl⟩
  · exact turn_yes 16 8 128 0 1 w T turn1 (by omega)
  · exact turn_no 16 8 128 0 3 w T turn3 (by omega)
theorem turn_one (w : World) (T : Tab w) : Calls Tryd.prog 10 #[.agg #[.int .i64 16, .int .i64 8, .int .i64 128, .int .i64 0], .int .i64 1] w fun e w' => e = .returned (.bool true) ∧ Below w.heap.size w w' := turn_any 1 true (.inl ⟨rfl, rfl⟩) w T
theorem turn_three (w : World) (T : Tab w) : Calls Tryd.prog 10 #[.agg #[.int .i64 16, .int .i64 8, .int .i64 128, .int .i64 0], .int .i64 3] w fun e w' => e = .returned (.bool false) ∧ Below w.heap.size w w' := turn_any 3 false (.inr ⟨rfl, rfl⟩) w T

set_option maxHeartbeats 1000000 in
theorem works_yes (w : World) (T : Tab w) : Calls Tryd.prog 7 #[] w fun e w' => e = .returned (.bool true) ∧ Below w.heap.size w w' := by
  go_enter Tryd.func7, Tryd.ntmps7
  go_wp2_with fail
  refine (want_five _ (T.alloc _)).mono ?_
  rintro e w1 ⟨rfl, hb⟩
  have hx : w.heap.size < w1.heap.size := Nat.lt_of_lt_of_le (by simp) hb.size
  have T1 := (T.alloc _).below hb
  have g0 : w1.cell? ⟨w.heap.size, 0, none⟩ = some (.int .i64 16) := (hb.cell (by simp)).trans (by go_simp)
  have g1 : w1.cell? ⟨w.heap.size, 1, none⟩ = some (.int .i64 8) := (hb.cell (by simp)).trans (by go_simp)
  have g2 : w1.cell? ⟨w.heap.size, 2, none⟩ = some (.int .i64 128) := (hb.cell (by simp)).trans (by go_simp)
  have g3 : w1.cell? ⟨w.heap.size, 3, none⟩ = some (.int .i64 0) := (hb.cell (by simp)).trans (by go_simp)
  have hb1 : Below w.heap.size w w1 := (below_box _ _).trans (hb.mono (by simp))
  clear hb
  go_wp2_with fail
  refine (cap_two _ T1).mono ?_
  rintro e w2 ⟨rfl, hb⟩
  obtain ⟨g0, g1, g2, g3, hx, T2, hb2⟩ := held_next ⟨g0, g1, g2, g3, hx, T1, hb1⟩ hb
  clear hb
  go_wp2_with fail
  refine (piece_yes 128 _ T2 (by omega) (by omega)).mono ?_
  rintro e w3 ⟨rfl, rfl⟩
  go_wp2_with fail
  refine (turn_one _ T2).mono ?_
  rintro e w4 ⟨rfl, hb⟩
  obtain ⟨g0, g1, g2, g3, hx, T4, hb4⟩ := held_next ⟨g0, g1, g2, g3, hx, T2, hb2⟩ hb
  clear hb
  go_wp2_with fail
  refine (turn_three _ T4).mono ?_
  rintro e w5 ⟨rfl, hb⟩
  obtain ⟨g0, g1, g2, g3, hx, T5, hb5⟩ := held_next ⟨g0, g1, g2, g3, hx, T4, hb4⟩ hb
  clear hb
  go_wp2
  go_ret
  exact ⟨rfl, hb5⟩
end Go.Proofs.YtljlmhmmndfinaaDoor
