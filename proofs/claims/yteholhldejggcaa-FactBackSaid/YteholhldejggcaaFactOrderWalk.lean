/- The walk of the statement FactOrder: it comes to true. -/
import Derived.Test.YteholhldejggcaaFactOrder0
import Derived.Test.YteholhldejggcaaWorks06
namespace Go.Proofs.Yteholhldejggcaa
open Go.RowKit

theorem keyEq_no {i u : Int} {s : ByteArray} {c i' u' : Int} {s' : ByteArray} {c' : Int} (h : keyEq i u s c i' u' s' c' = false) : ¬ (i = i' ∧ u = u' ∧ s.toList = s'.toList ∧ c = c') := by
  unfold keyEq at h; rw [decide_eq_false_iff_not] at h; rw [Lib.toList_data, Lib.toList_data]; exact h
theorem keyEq_yes {i u : Int} {s : ByteArray} {c i' u' : Int} {s' : ByteArray} {c' : Int} (h : keyEq i u s c i' u' s' c' = true) : i = i' ∧ u = u' ∧ s = s' ∧ c = c' := by
  unfold keyEq at h; rw [decide_eq_true_iff] at h
  exact ⟨h.1, h.2.1, by obtain ⟨_, _, h3, _⟩ := h; cases s; cases s'; simp at h3; rw [ByteArray.mk.injEq]; exact h3, h.2.2.2⟩
/-- Three keys in boxes. -/
def threeKeys (w : World) (i u : Int) (s : ByteArray) (c i' u' : Int) (s' : ByteArray) (c' i2 u2 : Int) (s2 : ByteArray) (c2 : Int) : World :=
  (twoKeys w i u s c i' u' s' c').alloc (.cells #[.int .i64 i2, .int .u8 u2, .string s2, .int .i64 c2] 23)
theorem threeKeys_below (w : World) (i u : Int) (s : ByteArray) (c i' u' : Int) (s' : ByteArray) (c' i2 u2 : Int) (s2 : ByteArray) (c2 : Int) : Below w.heap.size w (threeKeys w i u s c i' u' s' c' i2 u2 s2 c2) :=
  below_of (twoKeys_below w i u s c i' u' s' c') (below_alloc1 _ _)
theorem threeKeys_cells (w : World) (i u : Int) (s : ByteArray) (c i' u' : Int) (s' : ByteArray) (c' i2 u2 : Int) (s2 : ByteArray) (c2 : Int) :
    ((threeKeys w i u s c i' u' s' c' i2 u2 s2 c2).cell? ⟨w.heap.size, 0, none⟩ = some (.int .i64 i) ∧ (threeKeys w i u s c i' u' s' c' i2 u2 s2 c2).cell? ⟨w.heap.size, 1, none⟩ = some (.int .u8 u) ∧ (threeKeys w i u s c i' u' s' c' i2 u2 s2 c2).cell? ⟨w.heap.size, 2, none⟩ = some (.string s) ∧ (threeKeys w i u s c i' u' s' c' i2 u2 s2 c2).cell? ⟨w.heap.size, 3, none⟩ = some (.int .i64 c)) ∧
    ((threeKeys w i u s c i' u' s' c' i2 u2 s2 c2).cell? ⟨w.heap.size + 1, 0, none⟩ = some (.int .i64 i') ∧ (threeKeys w i u s c i' u' s' c' i2 u2 s2 c2).cell? ⟨w.heap.size + 1, 1, none⟩ = some (.int .u8 u') ∧ (threeKeys w i u s c i' u' s' c' i2 u2 s2 c2).cell? ⟨w.heap.size + 1, 2, none⟩ = some (.string s') ∧ (threeKeys w i u s c i' u' s' c' i2 u2 s2 c2).cell? ⟨w.heap.size + 1, 3, none⟩ = some (.int .i64 c')) ∧
    ((threeKeys w i u s c i' u' s' c' i2 u2 s2 c2).cell? ⟨w.heap.size + 1 + 1, 0, none⟩ = some (.int .i64 i2) ∧ (threeKeys w i u s c i' u' s' c' i2 u2 s2 c2).cell? ⟨w.heap.size + 1 + 1, 1, none⟩ = some (.int .u8 u2) ∧ (threeKeys w i u s c i' u' s' c' i2 u2 s2 c2).cell? ⟨w.heap.size + 1 + 1, 2, none⟩ = some (.string s2) ∧ (threeKeys w i u s c i' u' s' c' i2 u2 s2 c2).cell? ⟨w.heap.size + 1 + 1, 3, none⟩ = some (.int .i64 c2)) := by
  obtain ⟨⟨a0, a1, a2, a3⟩, ⟨b0, b1, b2, b3⟩⟩ := twoKeys_cells w i u s c i' u' s' c'
  have hb := below_alloc1 (twoKeys w i u s c i' u' s' c') (.cells #[.int .i64 i2, .int .u8 u2, .string s2, .int .i64 c2] 23)
  have hz : w.heap.size + 1 + 1 = (twoKeys w i u s c i' u' s' c').heap.size := (twoKeys_size w i u s c i' u' s' c').symm
  refine ⟨⟨cell_below hb a0, cell_below hb a1, cell_below hb a2, cell_below hb a3⟩, ⟨cell_below hb b0, cell_below hb b1, cell_below hb b2, cell_below hb b3⟩, ?_⟩
  unfold threeKeys
  rw [hz]
  generalize twoKeys w i u s c i' u' s' c' = W
  refine ⟨by go_simp, by go_simp, by go_simp, by go_simp⟩

set_option maxRecDepth 100000 in
set_option maxHeartbeats 4000000 in
theorem factOrder_true (i u : Int) (s : ByteArray) (c i' u' : Int) (s' : ByteArray) (c' i2 u2 : Int) (s2 : ByteArray) (c2 : Int) (w : World) :
    Calls Try.prog 4 #[.agg #[.int .i64 i, .int .u8 u, .string s, .int .i64 c], .agg #[.int .i64 i', .int .u8 u', .string s', .int .i64 c'], .agg #[.int .i64 i2, .int .u8 u2, .string s2, .int .i64 c2]] w (BoolEnd true w) := by
  have B1 := Lib.hid (fun w => before_any i u s c i' u' s' c' w)
  have B2 := Lib.hid (fun w => before_any i' u' s' c' i u s c w)
  have B3 := Lib.hid (fun w => before_any i' u' s' c' i2 u2 s2 c2 w)
  have B4 := Lib.hid (fun w => before_any i u s c i2 u2 s2 c2 w)
  have J := just_one i u s c i' u' s' c'
  have T : before i u s c i' u' s' c' = true → before i' u' s' c' i2 u2 s2 c2 = true → before i u s c i2 u2 s2 c2 = true := before_trans
  generalize before i u s c i' u' s' c' = p at B1 J T
  generalize before i' u' s' c' i u s c = q at B2 J
  generalize before i' u' s' c' i2 u2 s2 c2 = r at B3 T
  generalize before i u s c i2 u2 s2 c2 = x at B4 T
  obtain ⟨e, he⟩ : ∃ e, keyEq i u s c i' u' s' c' = e := ⟨_, rfl⟩
  rw [he] at J
  go_enter Try.func4, Try.ntmps4
  go_wp2_with fail
  refine (B1.out _).mono ?_
  rintro e1 w1 ⟨rfl, hb1⟩
  change Below (threeKeys w i u s c i' u' s' c' i2 u2 s2 c2).heap.size (threeKeys w i u s c i' u' s' c' i2 u2 s2 c2) w1 at hb1
  obtain ⟨⟨a0, a1, a2, a3⟩, ⟨b0, b1, b2, b3⟩, ⟨c0, c1, c2', c3⟩⟩ := threeKeys_cells w i u s c i' u' s' c' i2 u2 s2 c2
  have hbw := threeKeys_below w i u s c i' u' s' c' i2 u2 s2 c2
  generalize threeKeys w i u s c i' u' s' c' i2 u2 s2 c2 = W0 at *
  have H0 := And.intro (And.intro a0 (And.intro a1 (And.intro a2 a3))) (And.intro (And.intro b0 (And.intro b1 (And.intro b2 b3))) (And.intro c0 (And.intro c1 (And.intro c2' c3))))
  clear a0 a1 a2 a3 b0 b1 b2 b3 c0 c1 c2' c3
  have HK := Lib.hid H0
  clear H0
  have a0 := (cell_below hb1 HK.out.1.1)
  have a1 := (cell_below hb1 HK.out.1.2.1)
  have a2 := (cell_below hb1 HK.out.1.2.2.1)
  have a3 := (cell_below hb1 HK.out.1.2.2.2)
  have b0 := (cell_below hb1 HK.out.2.1.1)
  have b1 := (cell_below hb1 HK.out.2.1.2.1)
  have b2 := (cell_below hb1 HK.out.2.1.2.2.1)
  have b3 := (cell_below hb1 HK.out.2.1.2.2.2)
  rcases J with ⟨rfl, rfl, rfl⟩ | ⟨rfl, rfl, rfl⟩ | ⟨rfl, rfl, rfl⟩
  · have hrx : r = false ∨ (r = true ∧ x = true) := by cases r <;> simp_all
    have hne := Lib.hid (keyEq_no he)
    clear he T
    go_wp2_with fail
    refine (B2.out _).mono ?_
    rintro e1 w2 ⟨rfl, hb2'⟩
    clear a0 a1 a2 a3 b0 b1 b2 b3
    have hb2 := below_of hb1 hb2'
    clear hb2' hb1
    have a0 := (cell_below hb2 HK.out.1.1)
    have a1 := (cell_below hb2 HK.out.1.2.1)
    have a2 := (cell_below hb2 HK.out.1.2.2.1)
    have a3 := (cell_below hb2 HK.out.1.2.2.2)
    have b0 := (cell_below hb2 HK.out.2.1.1)
    have b1 := (cell_below hb2 HK.out.2.1.2.1)
    have b2 := (cell_below hb2 HK.out.2.1.2.2.1)
    have b3 := (cell_below hb2 HK.out.2.1.2.2.2)
    go_wp2_with fail
    all_goals first | exact absurd ⟨‹i = i'›, ‹u = u'›, ‹s.toList = s'.toList›, ‹c = c'›⟩ hne.out | skip
    all_goals (
      clear a0 a1 a2 a3 b0 b1 b2 b3
      try (have hh : i = i' := by assumption
           subst hh)
      try (have hh : u = u' := by assumption
           subst hh)
      have a0 := (cell_below hb2 HK.out.1.1)
      have a1 := (cell_below hb2 HK.out.1.2.1)
      have a2 := (cell_below hb2 HK.out.1.2.2.1)
      have a3 := (cell_below hb2 HK.out.1.2.2.2)
      have b0 := (cell_below hb2 HK.out.2.1.1)
      have b1 := (cell_below hb2 HK.out.2.1.2.1)
      have b2 := (cell_below hb2 HK.out.2.1.2.2.1)
      have b3 := (cell_below hb2 HK.out.2.1.2.2.2)
      have c0 := (cell_below hb2 HK.out.2.2.1)
      have c1 := (cell_below hb2 HK.out.2.2.2.1)
      have c2' := (cell_below hb2 HK.out.2.2.2.2.1)
      have c3 := (cell_below hb2 HK.out.2.2.2.2.2)
      go_wp2_with fail
      refine (B1.out _).mono ?_
      rintro e1 w3 ⟨rfl, hb'⟩
      replace hb2 := below_of hb2 hb'
      clear hb'
      clear a0 a1 a2 a3 b0 b1 b2 b3 c0 c1 c2' c3
      have a0 := (cell_below hb2 HK.out.1.1)
      have a1 := (cell_below hb2 HK.out.1.2.1)
      have a2 := (cell_below hb2 HK.out.1.2.2.1)
      have a3 := (cell_below hb2 HK.out.1.2.2.2)
      have b0 := (cell_below hb2 HK.out.2.1.1)
      have b1 := (cell_below hb2 HK.out.2.1.2.1)
      have b2 := (cell_below hb2 HK.out.2.1.2.2.1)
      have b3 := (cell_below hb2 HK.out.2.1.2.2.2)
      have c0 := (cell_below hb2 HK.out.2.2.1)
      have c1 := (cell_below hb2 HK.out.2.2.2.1)
      have c2' := (cell_below hb2 HK.out.2.2.2.2.1)
      have c3 := (cell_below hb2 HK.out.2.2.2.2.2)
      go_wp2_with fail
      refine (B3.out _).mono ?_
      rintro e1 w4 ⟨rfl, hb'⟩
      replace hb2 := below_of hb2 hb'
      clear hb'
      clear a0 a1 a2 a3 b0 b1 b2 b3 c0 c1 c2' c3
      have a0 := (cell_below hb2 HK.out.1.1)
      have a1 := (cell_below hb2 HK.out.1.2.1)
      have a2 := (cell_below hb2 HK.out.1.2.2.1)
      have a3 := (cell_below hb2 HK.out.1.2.2.2)
      have b0 := (cell_below hb2 HK.out.2.1.1)
      have b1 := (cell_below hb2 HK.out.2.1.2.1)
      have b2 := (cell_below hb2 HK.out.2.1.2.2.1)
      have b3 := (cell_below hb2 HK.out.2.1.2.2.2)
      have c0 := (cell_below hb2 HK.out.2.2.1)
      have c1 := (cell_below hb2 HK.out.2.2.2.1)
      have c2' := (cell_below hb2 HK.out.2.2.2.2.1)
      have c3 := (cell_below hb2 HK.out.2.2.2.2.2)
      rcases hrx with rfl | ⟨rfl, rfl⟩
      · go_wp2_with fail
        refine (works06 _).mono ?_
        rintro e1 w5 ⟨rfl, hb'⟩
        replace hb2 := below_of hb2 hb'
        clear hb'
        clear a0 a1 a2 a3 b0 b1 b2 b3 c0 c1 c2' c3
        have a0 := (cell_below hb2 HK.out.1.1)
        have a1 := (cell_below hb2 HK.out.1.2.1)
        have a2 := (cell_below hb2 HK.out.1.2.2.1)
        have a3 := (cell_below hb2 HK.out.1.2.2.2)
        have b0 := (cell_below hb2 HK.out.2.1.1)
        have b1 := (cell_below hb2 HK.out.2.1.2.1)
        have b2 := (cell_below hb2 HK.out.2.1.2.2.1)
        have b3 := (cell_below hb2 HK.out.2.1.2.2.2)
        have c0 := (cell_below hb2 HK.out.2.2.1)
        have c1 := (cell_below hb2 HK.out.2.2.2.1)
        have c2' := (cell_below hb2 HK.out.2.2.2.2.1)
        have c3 := (cell_below hb2 HK.out.2.2.2.2.2)
        go_wp2
        go_ret
        exact ⟨rfl, below_of hbw hb2⟩
      · go_wp2_with fail
        refine (B4.out _).mono ?_
        rintro e1 w5 ⟨rfl, hb'⟩
        replace hb2 := below_of hb2 hb'
        clear hb'
        clear a0 a1 a2 a3 b0 b1 b2 b3 c0 c1 c2' c3
        have a0 := (cell_below hb2 HK.out.1.1)
        have a1 := (cell_below hb2 HK.out.1.2.1)
        have a2 := (cell_below hb2 HK.out.1.2.2.1)
        have a3 := (cell_below hb2 HK.out.1.2.2.2)
        have b0 := (cell_below hb2 HK.out.2.1.1)
        have b1 := (cell_below hb2 HK.out.2.1.2.1)
        have b2 := (cell_below hb2 HK.out.2.1.2.2.1)
        have b3 := (cell_below hb2 HK.out.2.1.2.2.2)
        have c0 := (cell_below hb2 HK.out.2.2.1)
        have c1 := (cell_below hb2 HK.out.2.2.2.1)
        have c2' := (cell_below hb2 HK.out.2.2.2.2.1)
        have c3 := (cell_below hb2 HK.out.2.2.2.2.2)
        go_wp2_with fail
        refine (works06 _).mono ?_
        rintro e1 w6 ⟨rfl, hb'⟩
        replace hb2 := below_of hb2 hb'
        clear hb'
        clear a0 a1 a2 a3 b0 b1 b2 b3 c0 c1 c2' c3
        have a0 := (cell_below hb2 HK.out.1.1)
        have a1 := (cell_below hb2 HK.out.1.2.1)
        have a2 := (cell_below hb2 HK.out.1.2.2.1)
        have a3 := (cell_below hb2 HK.out.1.2.2.2)
        have b0 := (cell_below hb2 HK.out.2.1.1)
        have b1 := (cell_below hb2 HK.out.2.1.2.1)
        have b2 := (cell_below hb2 HK.out.2.1.2.2.1)
        have b3 := (cell_below hb2 HK.out.2.1.2.2.2)
        have c0 := (cell_below hb2 HK.out.2.2.1)
        have c1 := (cell_below hb2 HK.out.2.2.2.1)
        have c2' := (cell_below hb2 HK.out.2.2.2.2.1)
        have c3 := (cell_below hb2 HK.out.2.2.2.2.2)
        go_wp2
        go_ret
        exact ⟨rfl, below_of hbw hb2⟩)
  · have hne := Lib.hid (keyEq_no he)
    clear he T
    go_wp2_with fail
    refine (B2.out _).mono ?_
    rintro e1 w2 ⟨rfl, hb2'⟩
    clear a0 a1 a2 a3 b0 b1 b2 b3
    have hb2 := below_of hb1 hb2'
    clear hb2' hb1
    have a0 := (cell_below hb2 HK.out.1.1)
    have a1 := (cell_below hb2 HK.out.1.2.1)
    have a2 := (cell_below hb2 HK.out.1.2.2.1)
    have a3 := (cell_below hb2 HK.out.1.2.2.2)
    have b0 := (cell_below hb2 HK.out.2.1.1)
    have b1 := (cell_below hb2 HK.out.2.1.2.1)
    have b2 := (cell_below hb2 HK.out.2.1.2.2.1)
    have b3 := (cell_below hb2 HK.out.2.1.2.2.2)
    go_wp2_with fail
    all_goals first | exact absurd ⟨‹i = i'›, ‹u = u'›, ‹s.toList = s'.toList›, ‹c = c'›⟩ hne.out | skip
    all_goals (
      clear a0 a1 a2 a3 b0 b1 b2 b3
      try (have hh : i = i' := by assumption
           subst hh)
      try (have hh : u = u' := by assumption
           subst hh)
      have a0 := (cell_below hb2 HK.out.1.1)
      have a1 := (cell_below hb2 HK.out.1.2.1)
      have a2 := (cell_below hb2 HK.out.1.2.2.1)
      have a3 := (cell_below hb2 HK.out.1.2.2.2)
      have b0 := (cell_below hb2 HK.out.2.1.1)
      have b1 := (cell_below hb2 HK.out.2.1.2.1)
      have b2 := (cell_below hb2 HK.out.2.1.2.2.1)
      have b3 := (cell_below hb2 HK.out.2.1.2.2.2)
      have c0 := (cell_below hb2 HK.out.2.2.1)
      have c1 := (cell_below hb2 HK.out.2.2.2.1)
      have c2' := (cell_below hb2 HK.out.2.2.2.2.1)
      have c3 := (cell_below hb2 HK.out.2.2.2.2.2)
      go_wp2_with fail
      refine (B1.out _).mono ?_
      rintro e1 w3 ⟨rfl, hb'⟩
      replace hb2 := below_of hb2 hb'
      clear hb'
      clear a0 a1 a2 a3 b0 b1 b2 b3 c0 c1 c2' c3
      have a0 := (cell_below hb2 HK.out.1.1)
      have a1 := (cell_below hb2 HK.out.1.2.1)
      have a2 := (cell_below hb2 HK.out.1.2.2.1)
      have a3 := (cell_below hb2 HK.out.1.2.2.2)
      have b0 := (cell_below hb2 HK.out.2.1.1)
      have b1 := (cell_below hb2 HK.out.2.1.2.1)
      have b2 := (cell_below hb2 HK.out.2.1.2.2.1)
      have b3 := (cell_below hb2 HK.out.2.1.2.2.2)
      have c0 := (cell_below hb2 HK.out.2.2.1)
      have c1 := (cell_below hb2 HK.out.2.2.2.1)
      have c2' := (cell_below hb2 HK.out.2.2.2.2.1)
      have c3 := (cell_below hb2 HK.out.2.2.2.2.2)
      go_wp2_with fail
      refine (works06 _).mono ?_
      rintro e1 w4 ⟨rfl, hb'⟩
      replace hb2 := below_of hb2 hb'
      clear hb'
      clear a0 a1 a2 a3 b0 b1 b2 b3 c0 c1 c2' c3
      have a0 := (cell_below hb2 HK.out.1.1)
      have a1 := (cell_below hb2 HK.out.1.2.1)
      have a2 := (cell_below hb2 HK.out.1.2.2.1)
      have a3 := (cell_below hb2 HK.out.1.2.2.2)
      have b0 := (cell_below hb2 HK.out.2.1.1)
      have b1 := (cell_below hb2 HK.out.2.1.2.1)
      have b2 := (cell_below hb2 HK.out.2.1.2.2.1)
      have b3 := (cell_below hb2 HK.out.2.1.2.2.2)
      have c0 := (cell_below hb2 HK.out.2.2.1)
      have c1 := (cell_below hb2 HK.out.2.2.2.1)
      have c2' := (cell_below hb2 HK.out.2.2.2.2.1)
      have c3 := (cell_below hb2 HK.out.2.2.2.2.2)
      go_wp2
      go_ret
      exact ⟨rfl, below_of hbw hb2⟩)
  · obtain ⟨rfl, rfl, rfl, rfl⟩ := keyEq_yes he
    clear he T
    go_wp2_with fail
    refine (B2.out _).mono ?_
    rintro e1 w2 ⟨rfl, hb2'⟩
    clear a0 a1 a2 a3 b0 b1 b2 b3
    have hb2 := below_of hb1 hb2'
    clear hb2' hb1
    have a0 := (cell_below hb2 HK.out.1.1)
    have a1 := (cell_below hb2 HK.out.1.2.1)
    have a2 := (cell_below hb2 HK.out.1.2.2.1)
    have a3 := (cell_below hb2 HK.out.1.2.2.2)
    have b0 := (cell_below hb2 HK.out.2.1.1)
    have b1 := (cell_below hb2 HK.out.2.1.2.1)
    have b2 := (cell_below hb2 HK.out.2.1.2.2.1)
    have b3 := (cell_below hb2 HK.out.2.1.2.2.2)
    go_wp2_with fail
    all_goals (
      clear a0 a1 a2 a3 b0 b1 b2 b3
      have a0 := (cell_below hb2 HK.out.1.1)
      have a1 := (cell_below hb2 HK.out.1.2.1)
      have a2 := (cell_below hb2 HK.out.1.2.2.1)
      have a3 := (cell_below hb2 HK.out.1.2.2.2)
      have b0 := (cell_below hb2 HK.out.2.1.1)
      have b1 := (cell_below hb2 HK.out.2.1.2.1)
      have b2 := (cell_below hb2 HK.out.2.1.2.2.1)
      have b3 := (cell_below hb2 HK.out.2.1.2.2.2)
      have c0 := (cell_below hb2 HK.out.2.2.1)
      have c1 := (cell_below hb2 HK.out.2.2.2.1)
      have c2' := (cell_below hb2 HK.out.2.2.2.2.1)
      have c3 := (cell_below hb2 HK.out.2.2.2.2.2)
      go_wp2_with fail
      refine (B1.out _).mono ?_
      rintro e1 w3 ⟨rfl, hb'⟩
      replace hb2 := below_of hb2 hb'
      clear hb'
      clear a0 a1 a2 a3 b0 b1 b2 b3 c0 c1 c2' c3
      have a0 := (cell_below hb2 HK.out.1.1)
      have a1 := (cell_below hb2 HK.out.1.2.1)
      have a2 := (cell_below hb2 HK.out.1.2.2.1)
      have a3 := (cell_below hb2 HK.out.1.2.2.2)
      have b0 := (cell_below hb2 HK.out.2.1.1)
      have b1 := (cell_below hb2 HK.out.2.1.2.1)
      have b2 := (cell_below hb2 HK.out.2.1.2.2.1)
      have b3 := (cell_below hb2 HK.out.2.1.2.2.2)
      have c0 := (cell_below hb2 HK.out.2.2.1)
      have c1 := (cell_below hb2 HK.out.2.2.2.1)
      have c2' := (cell_below hb2 HK.out.2.2.2.2.1)
      have c3 := (cell_below hb2 HK.out.2.2.2.2.2)
      go_wp2_with fail
      refine (works06 _).mono ?_
      rintro e1 w4 ⟨rfl, hb'⟩
      replace hb2 := below_of hb2 hb'
      clear hb'
      clear a0 a1 a2 a3 b0 b1 b2 b3 c0 c1 c2' c3
      have a0 := (cell_below hb2 HK.out.1.1)
      have a1 := (cell_below hb2 HK.out.1.2.1)
      have a2 := (cell_below hb2 HK.out.1.2.2.1)
      have a3 := (cell_below hb2 HK.out.1.2.2.2)
      have b0 := (cell_below hb2 HK.out.2.1.1)
      have b1 := (cell_below hb2 HK.out.2.1.2.1)
      have b2 := (cell_below hb2 HK.out.2.1.2.2.1)
      have b3 := (cell_below hb2 HK.out.2.1.2.2.2)
      have c0 := (cell_below hb2 HK.out.2.2.1)
      have c1 := (cell_below hb2 HK.out.2.2.2.1)
      have c2' := (cell_below hb2 HK.out.2.2.2.2.1)
      have c3 := (cell_below hb2 HK.out.2.2.2.2.2)
      go_wp2
      go_ret
      exact ⟨rfl, below_of hbw hb2⟩)
end Go.Proofs.Yteholhldejggcaa
