/- Keys: which may be, which stands ahead of which: what the program and the document compute. -/
import Derived.Test.YtkianpkkligljaaBytes
import Derived.Laws.StructEq
import Derived.Deep.RegionHeld3
namespace Go.Proofs.Ytkianpkkligljaa
open Go.RowKit

theorem below_alloc1 (w : World) (o : Obj) : Below w.heap.size w (w.alloc o) := (Below.refl _ _).alloc (Nat.le_refl _) o

/-- May a key be? -/
def mayKey (i u : Int) (s : ByteArray) (c : Int) : Bool :=
  decide (1 ≤ i) && decide (i ≤ 65535) && (if u = 1 then s.toList == [] && c == 0 else if u = 2 then nameB s && c == 0 else if u = 3 then s.toList == [] && decide (0 ≤ c) && decide (c < 8) else false)
def BoolEnd (b : Bool) (w : World) (e : Ending) (w' : World) : Prop := e = .returned (.bool b) ∧ Below w.heap.size w w'

theorem mayKey_out {i u c : Int} {s : ByteArray} (h : i < 1 ∨ 65535 < i) : mayKey i u s c = false := by
  unfold mayKey; rcases h with h | h
  · have : decide (1 ≤ i) = false := decide_eq_false (by omega)
    rw [this]; simp
  · have : decide (i ≤ 65535) = false := decide_eq_false (by omega)
    rw [this]; simp
theorem mayKey_in {i u c : Int} {s : ByteArray} (h : 1 ≤ i) (h' : i ≤ 65535) : mayKey i u s c = (if u = 1 then s.toList == [] && c == 0 else if u = 2 then nameB s && c == 0 else if u = 3 then s.toList == [] && decide (0 ≤ c) && decide (c < 8) else false) := by
  unfold mayKey
  rw [decide_eq_true h, decide_eq_true h']; simp

set_option maxHeartbeats 1000000 in
theorem mayKey_any (i u : Int) (s : ByteArray) (c : Int) (hs : s.size ≤ maxLen) (w : World) :
    Calls Try.prog 10 #[.agg #[.int .i64 i, .int .u8 u, .string s, .int .i64 c]] w (BoolEnd (mayKey i u s c) w) := by
  by_cases h1 : i < 1
  · have HM := Lib.hid (mayKey_out (u := u) (s := s) (c := c) (.inl h1))
    go_enter Try.func10, Try.ntmps10
    go_wp2
    go_ret
    exact ⟨ret_bool HM.out.symm, below_alloc1 _ _⟩
  · by_cases h2 : 65535 < i
    · have HM := Lib.hid (mayKey_out (u := u) (s := s) (c := c) (.inr h2))
      go_enter Try.func10, Try.ntmps10
      go_wp2
      go_ret
      exact ⟨ret_bool HM.out.symm, below_alloc1 _ _⟩
    · have HM := Lib.hid (mayKey_in (u := u) (s := s) (c := c) (Int.not_lt.1 h1) (Int.not_lt.1 h2))
      by_cases u1 : u = 1
      · subst u1
        go_enter Try.func10, Try.ntmps10
        go_wp2
        all_goals go_ret
        all_goals exact ⟨ret_bool (by have HN := HM.out; first | (rw [HN]; simp [*]; done) | (simp_all; done)), below_alloc1 _ _⟩
      · by_cases u2 : u = 2
        · subst u2
          cases hn : nameB s
          · go_enter Try.func10, Try.ntmps10
            go_wp2_with (go_at_call 32; refine (name_any s hs _).mono ?_; rintro e w' ⟨rfl, rfl⟩)
            all_goals go_ret
            all_goals exact ⟨ret_bool (by rw [HM.out, hn]; simp), below_alloc1 _ _⟩
          · go_enter Try.func10, Try.ntmps10
            go_wp2_with (go_at_call 32; refine (name_any s hs _).mono ?_; rintro e w' ⟨rfl, rfl⟩)
            all_goals go_ret
            all_goals exact ⟨ret_bool (by rw [HM.out, hn]; simp), below_alloc1 _ _⟩
        · by_cases u3 : u = 3
          · subst u3
            go_enter Try.func10, Try.ntmps10
            go_wp2
            all_goals go_ret
            all_goals exact ⟨ret_bool (by rw [HM.out]; first | (simp [*]; done) | (simp [*]; omega)), below_alloc1 _ _⟩
          · have e1 : (u == 1) = false := beq_eq_false_iff_ne.2 u1
            have e2 : (u == 2) = false := beq_eq_false_iff_ne.2 u2
            have e3 : (u == 3) = false := beq_eq_false_iff_ne.2 u3
            have HU := Lib.hid (And.intro u1 (And.intro u2 u3))
            clear u1 u2 u3
            go_enter Try.func10, Try.ntmps10
            go_wp2
            go_ret
            exact ⟨ret_bool (by rw [HM.out, if_neg HU.out.1, if_neg HU.out.2.1, if_neg HU.out.2.2]), below_alloc1 _ _⟩

set_option maxHeartbeats 1000000 in
theorem refMayKey_any (i u : Int) (s : ByteArray) (c : Int) (hs : s.size ≤ maxLen) (w : World) :
    Calls Try.prog 11 #[.agg #[.int .i64 i, .int .u8 u, .string s, .int .i64 c]] w (BoolEnd (mayKey i u s c) w) := by
  by_cases h1 : i < 1
  · have HM := Lib.hid (mayKey_out (u := u) (s := s) (c := c) (.inl h1))
    go_enter Try.func11, Try.ntmps11
    go_wp2
    go_ret
    exact ⟨ret_bool HM.out.symm, below_alloc1 _ _⟩
  · by_cases h2 : 65535 < i
    · have HM := Lib.hid (mayKey_out (u := u) (s := s) (c := c) (.inr h2))
      go_enter Try.func11, Try.ntmps11
      go_wp2
      go_ret
      exact ⟨ret_bool HM.out.symm, below_alloc1 _ _⟩
    · have HM := Lib.hid (mayKey_in (u := u) (s := s) (c := c) (Int.not_lt.1 h1) (Int.not_lt.1 h2))
      by_cases u1 : u = 1
      · subst u1
        go_enter Try.func11, Try.ntmps11
        go_wp2
        all_goals go_ret
        all_goals exact ⟨ret_bool (by have HN := HM.out; first | (rw [HN]; simp [*]; done) | (simp_all; done)), below_alloc1 _ _⟩
      · by_cases u2 : u = 2
        · subst u2
          cases hn : nameB s
          · go_enter Try.func11, Try.ntmps11
            go_wp2_with (go_at_call 33; refine (refName_any s hs _).mono ?_; rintro e w' ⟨rfl, rfl⟩)
            all_goals go_ret
            all_goals exact ⟨ret_bool (by rw [HM.out, hn]; simp), below_alloc1 _ _⟩
          · go_enter Try.func11, Try.ntmps11
            go_wp2_with (go_at_call 33; refine (refName_any s hs _).mono ?_; rintro e w' ⟨rfl, rfl⟩)
            all_goals go_ret
            all_goals exact ⟨ret_bool (by rw [HM.out, hn]; simp), below_alloc1 _ _⟩
        · by_cases u3 : u = 3
          · subst u3
            go_enter Try.func11, Try.ntmps11
            go_wp2
            all_goals go_ret
            all_goals exact ⟨ret_bool (by rw [HM.out]; first | (simp [*]; done) | (simp [*]; omega)), below_alloc1 _ _⟩
          · have e1 : (u == 1) = false := beq_eq_false_iff_ne.2 u1
            have e2 : (u == 2) = false := beq_eq_false_iff_ne.2 u2
            have e3 : (u == 3) = false := beq_eq_false_iff_ne.2 u3
            have HU := Lib.hid (And.intro u1 (And.intro u2 u3))
            clear u1 u2 u3
            go_enter Try.func11, Try.ntmps11
            go_wp2
            go_ret
            exact ⟨ret_bool (by rw [HM.out, if_neg HU.out.1, if_neg HU.out.2.1, if_neg HU.out.2.2]), below_alloc1 _ _⟩

/-! ### What stands ahead of what -/
def cmpI (a b : Int) : Int := if a < b then -1 else if b < a then 1 else 0
def cmpS (a b : ByteArray) : Int := if Op.bytesLess a.toList b.toList then -1 else if a.toList == b.toList then 0 else 1
theorem compareI_any (a b : Int) (w : World) : Calls Try.prog 44 #[.int .i64 a, .int .i64 b] w fun e w' => e = .returned (.int .i64 (cmpI a b)) ∧ w = w' := by
  by_cases h1 : a < b
  · go_enter Try.func44, Try.ntmps44
    go_wp2
    go_ret
    exact ⟨ret_int (by unfold cmpI; rw [if_pos (by omega)]), rfl⟩
  · by_cases h2 : b < a
    · go_enter Try.func44, Try.ntmps44
      go_wp2
      go_ret
      exact ⟨ret_int (by unfold cmpI; rw [if_neg (by omega), if_pos (by omega)]), rfl⟩
    · go_enter Try.func44, Try.ntmps44
      go_wp2
      go_ret
      exact ⟨ret_int (by unfold cmpI; rw [if_neg (by omega), if_neg (by omega)]), rfl⟩
theorem compareU_any (a b : Int) (w : World) : Calls Try.prog 45 #[.int .u8 a, .int .u8 b] w fun e w' => e = .returned (.int .i64 (cmpI a b)) ∧ w = w' := by
  by_cases h1 : a < b
  · go_enter Try.func45, Try.ntmps45
    go_wp2
    go_ret
    exact ⟨ret_int (by unfold cmpI; rw [if_pos (by omega)]), rfl⟩
  · by_cases h2 : b < a
    · go_enter Try.func45, Try.ntmps45
      go_wp2
      go_ret
      exact ⟨ret_int (by unfold cmpI; rw [if_neg (by omega), if_pos (by omega)]), rfl⟩
    · go_enter Try.func45, Try.ntmps45
      go_wp2
      go_ret
      exact ⟨ret_int (by unfold cmpI; rw [if_neg (by omega), if_neg (by omega)]), rfl⟩
theorem compareS_any (a b : ByteArray) (w : World) : Calls Try.prog 46 #[.string a, .string b] w fun e w' => e = .returned (.int .i64 (cmpS a b)) ∧ w = w' := by
  cases h1 : Op.bytesLess a.toList b.toList
  · cases h2 : (a.toList == b.toList)
    · have HC : Hid (cmpS a b = 1) := by show cmpS a b = 1; unfold cmpS; rw [h1, h2]; rfl
      go_enter Try.func46, Try.ntmps46
      go_wp2
      go_ret
      exact ⟨ret_int HC.out.symm, rfl⟩
    · have HC : Hid (cmpS a b = 0) := by show cmpS a b = 0; unfold cmpS; rw [h1, h2]; rfl
      go_enter Try.func46, Try.ntmps46
      go_wp2
      go_ret
      exact ⟨ret_int HC.out.symm, rfl⟩
  · have HC : Hid (cmpS a b = -1) := by show cmpS a b = -1; unfold cmpS; rw [h1]; rfl
    go_enter Try.func46, Try.ntmps46
    go_wp2
    go_ret
    exact ⟨ret_int HC.out.symm, rfl⟩

/-- The first of the four that is not 0. -/
def or4 (a b c d : Int) : Int := if a ≠ 0 then a else if b ≠ 0 then b else if c ≠ 0 then c else d
set_option maxHeartbeats 400000 in
theorem or_any (b : Nat) (x0 x1 x2 x3 : Int) (w : World) (h0 : w.cell? ⟨b, 0, none⟩ = some (.int .i64 x0)) (h1 : w.cell? ⟨b, 1, none⟩ = some (.int .i64 x1)) (h2 : w.cell? ⟨b, 2, none⟩ = some (.int .i64 x2)) (h3 : w.cell? ⟨b, 3, none⟩ = some (.int .i64 x3)) :
    Calls Try.prog 43 #[.slice (some ⟨b, 0, none⟩) 4 4] w fun e w' => e = .returned (.int .i64 (or4 x0 x1 x2 x3)) ∧ w = w' := by
  go_enter Try.func43, Try.ntmps43
  go_wp2
  go_loopg [8] 4 (fun n i wr => w = wr ∧ ((i = .int .i64 0 ∧ n = 4) ∨ (i = .int .i64 1 ∧ n = 3 ∧ Hid (x0 = 0)) ∨ (i = .int .i64 2 ∧ n = 2 ∧ Hid (x0 = 0 ∧ x1 = 0)) ∨ (i = .int .i64 3 ∧ n = 1 ∧ Hid (x0 = 0 ∧ x1 = 0 ∧ x2 = 0)) ∨ (i = .int .i64 4 ∧ n = 0 ∧ Hid (x0 = 0 ∧ x1 = 0 ∧ x2 = 0 ∧ x3 = 0))))
  case atStart => exact ⟨rfl, .inl ⟨rfl, rfl⟩⟩
  case round =>
    obtain ⟨rfl, ⟨rfl, rfl⟩ | ⟨rfl, rfl, hh⟩ | ⟨rfl, rfl, hh⟩ | ⟨rfl, rfl, hh⟩ | ⟨rfl, rfl, hh⟩⟩ := hrel
    · by_cases hz : x0 = 0
      · have q : (x0 != 0) = false := by simp [hz]
        have HZ : Hid (x0 = 0) := hz
        clear hz
        go_wp2
        go_roundg 3
        case measure => omega
        case rel => exact ⟨rfl, .inr (.inl ⟨rfl, rfl, HZ⟩)⟩
      · have q : (x0 != 0) = true := by simp [hz]
        have HO : Hid (or4 x0 x1 x2 x3 = x0) := by
          show or4 x0 x1 x2 x3 = x0
          unfold or4
          rw [if_pos hz]
        clear hz
        go_wp2
        go_ret
        exact ⟨ret_int HO.out.symm, rfl⟩
    · by_cases hz : x1 = 0
      · have q : (x1 != 0) = false := by simp [hz]
        have HZ : Hid (x0 = 0 ∧ x1 = 0) := ⟨hh.out, hz⟩
        clear hz
        go_wp2
        go_roundg 2
        case measure => omega
        case rel => exact ⟨rfl, .inr (.inr (.inl ⟨rfl, rfl, HZ⟩))⟩
      · have q : (x1 != 0) = true := by simp [hz]
        have HO : Hid (or4 x0 x1 x2 x3 = x1) := by
          show or4 x0 x1 x2 x3 = x1
          unfold or4
          rw [if_neg (by simp [hh.out]), if_pos hz]
        clear hz
        go_wp2
        go_ret
        exact ⟨ret_int HO.out.symm, rfl⟩
    · by_cases hz : x2 = 0
      · have q : (x2 != 0) = false := by simp [hz]
        have HZ : Hid (x0 = 0 ∧ x1 = 0 ∧ x2 = 0) := ⟨hh.out.1, hh.out.2, hz⟩
        clear hz
        go_wp2
        go_roundg 1
        case measure => omega
        case rel => exact ⟨rfl, .inr (.inr (.inr (.inl ⟨rfl, rfl, HZ⟩)))⟩
      · have q : (x2 != 0) = true := by simp [hz]
        have HO : Hid (or4 x0 x1 x2 x3 = x2) := by
          show or4 x0 x1 x2 x3 = x2
          unfold or4
          rw [if_neg (by simp [hh.out.1]), if_neg (by simp [hh.out.2]), if_pos hz]
        clear hz
        go_wp2
        go_ret
        exact ⟨ret_int HO.out.symm, rfl⟩
    · by_cases hz : x3 = 0
      · have q : (x3 != 0) = false := by simp [hz]
        have HZ : Hid (x0 = 0 ∧ x1 = 0 ∧ x2 = 0 ∧ x3 = 0) := ⟨hh.out.1, hh.out.2.1, hh.out.2.2, hz⟩
        clear hz
        go_wp2
        go_roundg 0
        case measure => omega
        case rel => exact ⟨rfl, .inr (.inr (.inr (.inr ⟨rfl, rfl, HZ⟩)))⟩
      · have q : (x3 != 0) = true := by simp [hz]
        have HO : Hid (or4 x0 x1 x2 x3 = x3) := by
          show or4 x0 x1 x2 x3 = x3
          unfold or4
          rw [if_neg (by simp [hh.out.1]), if_neg (by simp [hh.out.2.1]), if_neg (by simp [hh.out.2.2])]
        clear hz
        go_wp2
        go_ret
        exact ⟨ret_int HO.out.symm, rfl⟩
    · have HO : Hid (or4 x0 x1 x2 x3 = 0) := by
        show or4 x0 x1 x2 x3 = 0
        obtain ⟨z0, z1, z2, z3⟩ := hh.out
        unfold or4
        rw [if_neg (by simp [z0]), if_neg (by simp [z1]), if_neg (by simp [z2]), z3]
      go_wp2
      go_ret
      exact ⟨ret_int HO.out.symm, rfl⟩

end Go.Proofs.Ytkianpkkligljaa
