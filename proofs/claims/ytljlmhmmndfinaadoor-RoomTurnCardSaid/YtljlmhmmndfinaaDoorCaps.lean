/- The walks of room's Cap, May, Piece: what they compute. -/
import Derived.Test.YtljlmhmmndfinaaDoorWalks
import Derived.Deep.RegionHeld3
namespace Go.Proofs.YtljlmhmmndfinaaDoor
open Go.RowKit

theorem ret_int {k : IntKind} {a b : Int} (h : a = b) : Ending.returned (.int k a) = .returned (.int k b) := by rw [h]
theorem pw_drew {B : Nat} {a w : World} (h : Below B a w) : Below B a w.drew := h.drew
theorem pw_drewN {B : Nat} {w W : World} (h : Below B w W) (n : Nat) : Below B w (W.drewN n) := ⟨h.os, h.tape, h.output, h.size, h.block⟩
theorem Tab.below {w w' : World} (T : Tab w) (h : Below w.heap.size w w') : Tab w' := by
  have hz := T.pos
  obtain ⟨c0, c1, c2, c3, c4, c5, c6, c7⟩ := T
  exact ⟨(h.cell hz).trans c0, (h.cell hz).trans c1, (h.cell hz).trans c2, (h.cell hz).trans c3, (h.cell hz).trans c4, (h.cell hz).trans c5, (h.cell hz).trans c6, (h.cell hz).trans c7⟩
theorem Tab.alloc {w : World} (T : Tab w) (o : Obj) : Tab (w.alloc o) := T.below (below_box w o)

theorem Tab.begin_ {w : World} (T : Tab w) (o : Obj) : Tab (w.alloc o).drew := T.below (below_box w o).drew
theorem begin_below (w : World) (o : Obj) : Below w.heap.size w (w.alloc o).drew := (below_box w o).drew

/-- Within the bounds. -/
structure InB (b p s x : Int) : Prop where
  b0 : 8 ≤ b
  b1 : b ≤ 64
  p0 : 4 ≤ p
  p1 : p ≤ 32
  s0 : 128 ≤ s
  s1 : s ≤ 256
  x0 : 0 ≤ x
  x1 : x ≤ 4
structure OutB (b p s x : Int) : Prop where
  out : b < 8 ∨ 64 < b ∨ p < 4 ∨ 32 < p ∨ s < 128 ∨ 256 < s ∨ x < 0 ∨ 4 < x
theorem outB_not {b p s x : Int} (k : InB b p s x) (h : OutB b p s x) : False := by
  have := k.b0; have := k.b1; have := k.p0; have := k.p1; have := k.s0; have := k.s1; have := k.x0; have := k.x1; have := h.out; omega
theorem inB_or (b p s x : Int) : InB b p s x ∨ OutB b p s x := by
  by_cases h : b < 8 ∨ 64 < b ∨ p < 4 ∨ 32 < p ∨ s < 128 ∨ 256 < s ∨ x < 0 ∨ 4 < x
  · exact .inr ⟨h⟩
  · exact .inl ⟨by omega, by omega, by omega, by omega, by omega, by omega, by omega, by omega⟩

def capF (b p x : Int) : Int := max 0 (((b - 2 * x - 4) * (p - 1) - 8).tdiv 8)

theorem prod_bd {b p x : Int} (hb : 8 ≤ b) (hb' : b ≤ 64) (hp : 4 ≤ p) (hp' : p ≤ 32) (hx : 0 ≤ x) (hx' : x ≤ 4) :
    -124 ≤ (b - 2 * x - 4) * (p - 1) ∧ (b - 2 * x - 4) * (p - 1) ≤ 1860 := by
  have h1 : (b - 2 * x - 4) * (p - 1) ≤ 60 * (p - 1) := Int.mul_le_mul_of_nonneg_right (by omega) (by omega)
  have h2 : (-4) * (p - 1) ≤ (b - 2 * x - 4) * (p - 1) := Int.mul_le_mul_of_nonneg_right (by omega) (by omega)
  omega

set_option maxHeartbeats 400000 in
theorem cap_no (b p s x : Int) (w : World) (T : Tab w) (h : OutB b p s x) :
    Calls Tryd.prog 9 #[.agg #[.int .i64 b, .int .i64 p, .int .i64 s, .int .i64 x]] w fun e w' => e = .returned (.int .i64 0) ∧ Below w.heap.size w w' := by
  go_enter Tryd.func9, Tryd.ntmps9
  go_wp2_with (go_at_call 13; refine (within_no b p s x _ (T.alloc _) h.out).mono ?_; rintro e w' ⟨rfl, hb⟩)
  go_ret
  exact ⟨rfl, (below_box _ _).trans (hb.mono (by simp))⟩

set_option maxHeartbeats 400000 in
theorem cap_yes (b p s x : Int) (w : World) (T : Tab w) (h : InB b p s x) :
    Calls Tryd.prog 9 #[.agg #[.int .i64 b, .int .i64 p, .int .i64 s, .int .i64 x]] w fun e w' => e = .returned (.int .i64 (capF b p x)) ∧ Below w.heap.size w w' := by
  obtain ⟨b0, b1, p0, p1, s0, s1, x0, x1⟩ := h
  obtain ⟨m0, m1⟩ := prod_bd b0 b1 p0 p1 x0 x1
  go_enter Tryd.func9, Tryd.ntmps9
  go_wp2_with fail
  refine (within_yes b p s x _ (T.alloc _) b0 b1 p0 p1 s0 s1 x0 x1).mono ?_
  rintro e w' ⟨rfl, hb⟩
  have g0 : w'.cell? ⟨w.heap.size, 0, none⟩ = some (.int .i64 b) := (hb.cell (by simp)).trans (by go_simp)
  have g1 : w'.cell? ⟨w.heap.size, 1, none⟩ = some (.int .i64 p) := (hb.cell (by simp)).trans (by go_simp)
  have g3 : w'.cell? ⟨w.heap.size, 3, none⟩ = some (.int .i64 x) := (hb.cell (by simp)).trans (by go_simp)
  have hb2 : Below w.heap.size w w' := (below_box _ _).trans (hb.mono (by simp))
  clear hb
  go_wp2
  all_goals
    go_ret
    exact ⟨ret_int (by unfold capF; omega), hb2⟩

/-- May a geometry be? -/
structure MayG (b p s x : Int) : Prop where
  inb : InB b p s x
  cap : 4 ≤ capF b p x
structure NoMay (b p s x : Int) : Prop where
  no : OutB b p s x ∨ capF b p x < 4
theorem may_or (b p s x : Int) : MayG b p s x ∨ NoMay b p s x := by
  rcases inB_or b p s x with h | h
  · by_cases g : capF b p x < 4
    · exact .inr ⟨.inr g⟩
    · exact .inl ⟨h, by omega⟩
  · exact .inr ⟨.inl h⟩

set_option maxHeartbeats 400000 in
theorem may_yes (b p s x : Int) (w : World) (T : Tab w) (h : MayG b p s x) :
    Calls Tryd.prog 6 #[.agg #[.int .i64 b, .int .i64 p, .int .i64 s, .int .i64 x]] w fun e w' => e = .returned (.bool true) ∧ Below w.heap.size w w' := by
  have hc := h.cap
  go_enter Tryd.func6, Tryd.ntmps6
  go_wp2_with fail
  refine (cap_yes b p s x _ (T.alloc _) h.inb).mono ?_
  rintro e w' ⟨rfl, hb⟩
  have hb2 : Below w.heap.size w w' := (below_box _ _).trans (hb.mono (by simp))
  clear hb
  go_wp2
  go_ret
  exact ⟨by simp, hb2⟩

set_option maxHeartbeats 400000 in
theorem may_no (b p s x : Int) (w : World) (T : Tab w) (h : NoMay b p s x) :
    Calls Tryd.prog 6 #[.agg #[.int .i64 b, .int .i64 p, .int .i64 s, .int .i64 x]] w fun e w' => e = .returned (.bool false) ∧ Below w.heap.size w w' := by
  rcases inB_or b p s x with g | g
  · have hc : capF b p x < 4 := by
      rcases h.no with h | h
      · have := g.b0; have := g.b1; have := g.p0; have := g.p1; have := g.s0; have := g.s1; have := g.x0; have := g.x1; have := h.out; omega
      · exact h
    go_enter Tryd.func6, Tryd.ntmps6
    go_wp2_with fail
    refine (cap_yes b p s x _ (T.alloc _) g).mono ?_
    rintro e w' ⟨rfl, hb⟩
    have hb2 : Below w.heap.size w w' := (below_box _ _).trans (hb.mono (by simp))
    clear hb
    go_wp2
    go_ret
    exact ⟨by simpa using hc, hb2⟩
  · go_enter Tryd.func6, Tryd.ntmps6
    go_wp2_with fail
    refine (cap_no b p s x _ (T.alloc _) g).mono ?_
    rintro e w' ⟨rfl, hb⟩
    have hb2 : Below w.heap.size w w' := (below_box _ _).trans (hb.mono (by simp))
    clear hb
    go_wp2
    go_ret
    exact ⟨rfl, hb2⟩

def wantF (p x f : Int) : Int := (8 * f + 8 + (p - 1) - 1).tdiv (p - 1) + 4 + x

theorem want_bd {p f : Int} (hp : 4 ≤ p) (hf : 0 ≤ f) (hf' : f ≤ 1048576) : 0 ≤ (8 * f + 8 + (p - 1) - 1).tdiv (p - 1) ∧ (8 * f + 8 + (p - 1) - 1).tdiv (p - 1) ≤ 8 * f + 8 + (p - 1) - 1 := by
  rw [Int.tdiv_eq_ediv_of_nonneg (by omega)]
  exact ⟨Int.ediv_nonneg (by omega) (by omega), Int.ediv_le_self _ (by omega)⟩

set_option maxHeartbeats 400000 in
theorem want_yes (b p s x f : Int) (w : World) (h : InB b p s x) (hf : 0 ≤ f) (hf' : f ≤ 1048576) :
    Calls Tryd.prog 12 #[.agg #[.int .i64 b, .int .i64 p, .int .i64 s, .int .i64 x], .int .i64 f] w fun e w' => e = .returned (.int .i64 (wantF p x f)) ∧ Below w.heap.size w w' := by
  obtain ⟨b0, b1, p0, p1, s0, s1, x0, x1⟩ := h
  obtain ⟨m0, m1⟩ := want_bd p0 hf hf'
  have hne : (p - 1 == 0) = false := by simp; omega
  go_enter Tryd.func12, Tryd.ntmps12
  go_wp2
  go_quiet (fail)
  go_wp2
  go_ret
  exact ⟨ret_int (by unfold wantF; omega), by first | exact pw_drew (below_box _ _) | exact pw_drewN (below_box _ _) _⟩

theorem wantF_bd {p x f : Int} (hp : 4 ≤ p) (hf : 0 ≤ f) (hf' : f ≤ 1048576) (hx : 0 ≤ x) (hx' : x ≤ 4) (hp' : p ≤ 32) : 0 ≤ wantF p x f ∧ wantF p x f ≤ 10000000 := by
  have := want_bd hp hf hf'
  unfold wantF
  omega

set_option maxHeartbeats 400000 in
theorem Want_yes (b p s x f : Int) (w : World) (T : Tab w) (hM : MayG b p s x) (hf : 0 ≤ f) (hf2 : f ≤ 9223372036854775807) :
    Calls Tryd.prog 8 #[.agg #[.int .i64 b, .int .i64 p, .int .i64 s, .int .i64 x], .int .i64 f] w fun e w' => e = .returned (.int .i64 (wantF p x (min f 1048576))) ∧ Below w.heap.size w w' := by
  have hlt : decide (f < 0) = false := by simpa using hf
  go_enter Tryd.func8, Tryd.ntmps8
  go_wp2_with fail
  refine (may_yes b p s x _ (T.alloc _) hM).mono ?_
  rintro e w' ⟨rfl, hb⟩
  have g0 : w'.cell? ⟨w.heap.size, 0, none⟩ = some (.int .i64 b) := (hb.cell (by simp)).trans (by go_simp)
  have g1 : w'.cell? ⟨w.heap.size, 1, none⟩ = some (.int .i64 p) := (hb.cell (by simp)).trans (by go_simp)
  have g2 : w'.cell? ⟨w.heap.size, 2, none⟩ = some (.int .i64 s) := (hb.cell (by simp)).trans (by go_simp)
  have g3 : w'.cell? ⟨w.heap.size, 3, none⟩ = some (.int .i64 x) := (hb.cell (by simp)).trans (by go_simp)
  have hb2 : Below w.heap.size w w' := (below_box _ _).trans (hb.mono (by simp))
  clear hb
  go_wp2_with fail
  · refine (want_yes b p s x 1048576 _ hM.inb (by omega) (by omega)).mono ?_
    rintro e w2 ⟨rfl, hb3⟩
    have hb4 := hb2.trans (hb3.mono hb2.size)
    clear hb3
    go_wp2
    go_ret
    exact ⟨ret_int (by rw [Int.min_eq_right (by omega)]), hb4⟩
  · refine (want_yes b p s x f _ hM.inb (by omega) (by omega)).mono ?_
    rintro e w2 ⟨rfl, hb3⟩
    have hb4 := hb2.trans (hb3.mono hb2.size)
    clear hb3
    go_wp2
    go_ret
    exact ⟨ret_int (by rw [Int.min_eq_left (by omega)]), hb4⟩

set_option maxHeartbeats 400000 in
theorem Want_no (b p s x f : Int) (w : World) (T : Tab w) (h : NoMay b p s x ∨ f < 0) :
    Calls Tryd.prog 8 #[.agg #[.int .i64 b, .int .i64 p, .int .i64 s, .int .i64 x], .int .i64 f] w fun e w' => e = .returned (.int .i64 0) ∧ Below w.heap.size w w' := by
  rcases may_or b p s x with g | g
  · have hf : f < 0 := by
      rcases h with h | h
      · rcases h.no with h | h
        · exact (outB_not g.inb h).elim
        · have := g.cap; omega
      · exact h
    have hd : decide (f < 0) = true := by simpa using hf
    clear h
    go_enter Tryd.func8, Tryd.ntmps8
    go_wp2_with fail
    refine (may_yes b p s x _ (T.alloc _) g).mono ?_
    rintro e w' ⟨rfl, hb⟩
    have hb2 : Below w.heap.size w w' := (below_box _ _).trans (hb.mono (by simp))
    clear hb
    go_wp2
    go_ret
    exact ⟨rfl, hb2⟩
  · clear h
    go_enter Tryd.func8, Tryd.ntmps8
    go_wp2_with fail
    refine (may_no b p s x _ (T.alloc _) g).mono ?_
    rintro e w' ⟨rfl, hb⟩
    have hb2 : Below w.heap.size w w' := (below_box _ _).trans (hb.mono (by simp))
    clear hb
    go_wp2
    go_ret
    exact ⟨rfl, hb2⟩

theorem held_next {b p s x : Int} {w w1 w2 : World}
    (h : w1.cell? ⟨w.heap.size, 0, none⟩ = some (.int .i64 b) ∧ w1.cell? ⟨w.heap.size, 1, none⟩ = some (.int .i64 p) ∧ w1.cell? ⟨w.heap.size, 2, none⟩ = some (.int .i64 s) ∧ w1.cell? ⟨w.heap.size, 3, none⟩ = some (.int .i64 x) ∧ w.heap.size < w1.heap.size ∧ Tab w1 ∧ Below w.heap.size w w1)
    (hb : Below w1.heap.size w1 w2) :
    w2.cell? ⟨w.heap.size, 0, none⟩ = some (.int .i64 b) ∧ w2.cell? ⟨w.heap.size, 1, none⟩ = some (.int .i64 p) ∧ w2.cell? ⟨w.heap.size, 2, none⟩ = some (.int .i64 s) ∧ w2.cell? ⟨w.heap.size, 3, none⟩ = some (.int .i64 x) ∧ w.heap.size < w2.heap.size ∧ Tab w2 ∧ Below w.heap.size w w2 := by
  obtain ⟨h0, h1, h2, h3, h4, h5, h6⟩ := h
  exact ⟨(hb.cell h4).trans h0, (hb.cell h4).trans h1, (hb.cell h4).trans h2, (hb.cell h4).trans h3, Nat.lt_of_lt_of_le h4 hb.size, h5.below hb, h6.trans (hb.mono (Nat.le_of_lt h4))⟩

/-- May so many be turned? -/
structure TurnG (b p s x f : Int) : Prop where
  may : MayG b p s x
  f0 : 0 ≤ f
  fits : 2 * wantF p x (min f 1048576) + 2 ≤ b - x
structure NoTurn (b p s x f : Int) : Prop where
  no : NoMay b p s x ∨ f < 0 ∨ b - x < 2 * wantF p x (min f 1048576) + 2
theorem turn_or (b p s x f : Int) : TurnG b p s x f ∨ NoTurn b p s x f := by
  rcases may_or b p s x with h | h
  · by_cases g : f < 0
    · exact .inr ⟨.inr (.inl g)⟩
    · by_cases k : b - x < 2 * wantF p x (min f 1048576) + 2
      · exact .inr ⟨.inr (.inr k)⟩
      · exact .inl ⟨h, by omega, by omega⟩
  · exact .inr ⟨.inl h⟩

set_option maxHeartbeats 400000 in
theorem turn_yes (b p s x f : Int) (w : World) (T : Tab w) (h : TurnG b p s x f) (hf2 : f ≤ 9223372036854775807) :
    Calls Tryd.prog 10 #[.agg #[.int .i64 b, .int .i64 p, .int .i64 s, .int .i64 x], .int .i64 f] w fun e w' => e = .returned (.bool true) ∧ Below w.heap.size w w' := by
  have hm := h.may
  obtain ⟨b0, b1, p0, p1, s0, s1, x0, x1⟩ := hm.inb
  have hf := h.f0
  have hfits := h.fits
  have hge : decide (0 ≤ f) = true := by simpa using hf
  obtain ⟨m0, m1⟩ := wantF_bd (p := p) (x := x) (f := min f 1048576) p0 (by omega) (by omega) x0 x1 p1
  have hd : decide (2 * wantF p x (min f 1048576) + 2 ≤ b - x) = true := by simpa using hfits
  generalize hW : wantF p x (min f 1048576) = W at *
  have HW := Lib.hid hW
  clear hW
  have TA := fun o => Tab.alloc T o
  have HF := Lib.hid hfits
  clear hfits
  go_enter Tryd.func10, Tryd.ntmps10
  go_wp2
  go_region_held3 (fun w' => w'.cell? ⟨w.heap.size, 0, none⟩ = some (.int .i64 b) ∧ w'.cell? ⟨w.heap.size, 1, none⟩ = some (.int .i64 p) ∧ w'.cell? ⟨w.heap.size, 2, none⟩ = some (.int .i64 s) ∧ w'.cell? ⟨w.heap.size, 3, none⟩ = some (.int .i64 x) ∧ w.heap.size < w'.heap.size ∧ Tab w' ∧ Below w.heap.size w w')
    (first | exact ⟨by go_keep, by go_keep, by go_keep, by go_keep, by go_keep, T.begin_ _, begin_below _ _⟩ | exact held_next ‹_ ∧ _› ‹Below _ _ _› | go_keep)
    (first | (go_at_call 6; refine (may_yes b p s x _ (by first | exact T.begin_ _ | exact (‹_ ∧ _ ∧ _ ∧ _ ∧ _ ∧ _ ∧ _› : _ ∧ _ ∧ _ ∧ _ ∧ _ ∧ Tab _ ∧ _).2.2.2.2.2.1) hm).mono ?_; rintro e w' ⟨rfl, hb⟩) | (go_at_call 8; refine (Want_yes b p s x f _ (by first | exact T.begin_ _ | exact (‹_ ∧ _ ∧ _ ∧ _ ∧ _ ∧ _ ∧ _› : _ ∧ _ ∧ _ ∧ _ ∧ _ ∧ Tab _ ∧ _).2.2.2.2.2.1) hm hf hf2).mono ?_; rintro e w' ⟨rfl, hb⟩))
  go_wp2
  go_ret
  rw [HW.out, IntWalk.i64_in (2 * W) (by omega), IntWalk.i64_in (2 * W + 2) (by omega), IntWalk.i64_in (b - x) (by omega)]
  have hfits := HF.out
  have hh := ‹_ ∧ _ ∧ _ ∧ _ ∧ _ ∧ _ ∧ _›
  exact ⟨by simp [hfits], hh.2.2.2.2.2.2⟩
end Go.Proofs.YtljlmhmmndfinaaDoor
