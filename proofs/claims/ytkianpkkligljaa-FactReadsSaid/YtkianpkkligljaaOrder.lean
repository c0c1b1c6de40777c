/- What stands ahead of what: the program's Before and the document's compute the same. -/
import Derived.Test.YtkianpkkligljaaKeys
namespace Go.Proofs.Ytkianpkkligljaa
open Go.RowKit

def order4 (i u : Int) (s : ByteArray) (c i' u' : Int) (s' : ByteArray) (c' : Int) : Int := or4 (cmpI i i') (cmpI u u') (cmpS s s') (cmpI c c')
def IntEnd (n : Int) (w : World) (e : Ending) (w' : World) : Prop := e = .returned (.int .i64 n) ∧ Below w.heap.size w w'

/-- Two keys in boxes. -/
def twoKeys (w : World) (i u : Int) (s : ByteArray) (c i' u' : Int) (s' : ByteArray) (c' : Int) : World :=
  (w.alloc (.cells #[.int .i64 i, .int .u8 u, .string s, .int .i64 c] 23)).alloc (.cells #[.int .i64 i', .int .u8 u', .string s', .int .i64 c'] 23)
theorem twoKeys_below (w : World) (i u : Int) (s : ByteArray) (c i' u' : Int) (s' : ByteArray) (c' : Int) : Below w.heap.size w (twoKeys w i u s c i' u' s' c') :=
  ((Below.refl _ _).alloc (Nat.le_refl _) _).alloc (by simp) _
theorem twoKeys_size (w : World) (i u : Int) (s : ByteArray) (c i' u' : Int) (s' : ByteArray) (c' : Int) : (twoKeys w i u s c i' u' s' c').heap.size = w.heap.size + 2 := by unfold twoKeys; simp
theorem twoKeys_cells (w : World) (i u : Int) (s : ByteArray) (c i' u' : Int) (s' : ByteArray) (c' : Int) :
    ((twoKeys w i u s c i' u' s' c').cell? ⟨w.heap.size, 0, none⟩ = some (.int .i64 i) ∧ (twoKeys w i u s c i' u' s' c').cell? ⟨w.heap.size, 1, none⟩ = some (.int .u8 u) ∧ (twoKeys w i u s c i' u' s' c').cell? ⟨w.heap.size, 2, none⟩ = some (.string s) ∧ (twoKeys w i u s c i' u' s' c').cell? ⟨w.heap.size, 3, none⟩ = some (.int .i64 c)) ∧
    ((twoKeys w i u s c i' u' s' c').cell? ⟨w.heap.size + 1, 0, none⟩ = some (.int .i64 i') ∧ (twoKeys w i u s c i' u' s' c').cell? ⟨w.heap.size + 1, 1, none⟩ = some (.int .u8 u') ∧ (twoKeys w i u s c i' u' s' c').cell? ⟨w.heap.size + 1, 2, none⟩ = some (.string s') ∧ (twoKeys w i u s c i' u' s' c').cell? ⟨w.heap.size + 1, 3, none⟩ = some (.int .i64 c')) := by
  unfold twoKeys
  refine ⟨⟨by go_simp, by go_simp, by go_simp, by go_simp⟩, ⟨by go_simp, by go_simp, by go_simp, by go_simp⟩⟩

set_option maxHeartbeats 1000000 in
theorem order_any (i u : Int) (s : ByteArray) (c i' u' : Int) (s' : ByteArray) (c' : Int) (w : World) :
    Calls Try.prog 34 #[.agg #[.int .i64 i, .int .u8 u, .string s, .int .i64 c], .agg #[.int .i64 i', .int .u8 u', .string s', .int .i64 c']] w (IntEnd (order4 i u s c i' u' s' c') w) := by
  unfold order4
  generalize hz1 : cmpI i i' = z1
  generalize hz2 : cmpI u u' = z2
  generalize hz3 : cmpS s s' = z3
  generalize hz4 : cmpI c c' = z4
  have C1 : ∀ w, Calls Try.prog 44 #[.int .i64 i, .int .i64 i'] w fun e w' => e = .returned (.int .i64 z1) ∧ w = w' := fun w => hz1 ▸ compareI_any i i' w
  have C2 : ∀ w, Calls Try.prog 45 #[.int .u8 u, .int .u8 u'] w fun e w' => e = .returned (.int .i64 z2) ∧ w = w' := fun w => hz2 ▸ compareU_any u u' w
  have C3 : ∀ w, Calls Try.prog 46 #[.string s, .string s'] w fun e w' => e = .returned (.int .i64 z3) ∧ w = w' := fun w => hz3 ▸ compareS_any s s' w
  have C4 : ∀ w, Calls Try.prog 44 #[.int .i64 c, .int .i64 c'] w fun e w' => e = .returned (.int .i64 z4) ∧ w = w' := fun w => hz4 ▸ compareI_any c c' w
  clear hz1 hz2 hz3 hz4
  have HC := Lib.hid (And.intro C1 (And.intro C2 (And.intro C3 C4)))
  clear C1 C2 C3 C4
  go_enter Try.func34, Try.ntmps34
  go_wp2
  change Code.wp _ _ _ _ (twoKeys w i u s c i' u' s' c')
  obtain ⟨⟨a0, a1, a2, a3⟩, ⟨b0, b1, b2, b3⟩⟩ := twoKeys_cells w i u s c i' u' s' c'
  have hbw := twoKeys_below w i u s c i' u' s' c'
  have hsz := Nat.le_of_eq (twoKeys_size w i u s c i' u' s' c').symm
  generalize twoKeys w i u s c i' u' s' c' = W0 at *
  have H0 := And.intro a0 (And.intro a1 (And.intro a2 (And.intro a3 (And.intro b0 (And.intro b1 (And.intro b2 b3))))))
  have keepA : ∀ (W1 : World), Below W0.heap.size W0 W1 → W1.cell? ⟨w.heap.size, 0, none⟩ = some (.int .i64 i) ∧ W1.cell? ⟨w.heap.size, 1, none⟩ = some (.int .u8 u) ∧ W1.cell? ⟨w.heap.size, 2, none⟩ = some (.string s) ∧ W1.cell? ⟨w.heap.size, 3, none⟩ = some (.int .i64 c) ∧ W1.cell? ⟨w.heap.size + 1, 0, none⟩ = some (.int .i64 i') ∧ W1.cell? ⟨w.heap.size + 1, 1, none⟩ = some (.int .u8 u') ∧ W1.cell? ⟨w.heap.size + 1, 2, none⟩ = some (.string s') ∧ W1.cell? ⟨w.heap.size + 1, 3, none⟩ = some (.int .i64 c') := fun W1 hb =>
    ⟨cell_below hb a0, cell_below hb a1, cell_below hb a2, cell_below hb a3, cell_below hb b0, cell_below hb b1, cell_below hb b2, cell_below hb b3⟩
  have HK := Lib.hid keepA
  clear keepA H0 a0 a1 a2 a3 b0 b1 b2 b3
  go_region_held3 (fun W1 => W1.cell? ⟨w.heap.size, 0, none⟩ = some (.int .i64 i) ∧ W1.cell? ⟨w.heap.size, 1, none⟩ = some (.int .u8 u) ∧ W1.cell? ⟨w.heap.size, 2, none⟩ = some (.string s) ∧ W1.cell? ⟨w.heap.size, 3, none⟩ = some (.int .i64 c) ∧ W1.cell? ⟨w.heap.size + 1, 0, none⟩ = some (.int .i64 i') ∧ W1.cell? ⟨w.heap.size + 1, 1, none⟩ = some (.int .u8 u') ∧ W1.cell? ⟨w.heap.size + 1, 2, none⟩ = some (.string s') ∧ W1.cell? ⟨w.heap.size + 1, 3, none⟩ = some (.int .i64 c'))
    (first | exact HK.out _ (Below.refl _ _).drew | exact HK.out _ ((Below.refl _ _).drew.alloc (Nat.le_refl _) _))
    (first | (go_at_call 45; refine (HC.out.2.1 _).mono ?_; rintro e w' ⟨rfl, rfl⟩) | (go_at_call 46; refine (HC.out.2.2.1 _).mono ?_; rintro e w' ⟨rfl, rfl⟩) | (go_at_call 44; (with_reducible refine (HC.out.1 _).mono ?_); rintro e w' ⟨rfl, rfl⟩) | (go_at_call 44; (with_reducible refine (HC.out.2.2.2 _).mono ?_); rintro e w' ⟨rfl, rfl⟩) | (go_at_call 43; refine (or_any _ z1 z2 z3 z4 _ (by go_simp) (by go_simp) (by go_simp) (by go_simp)).mono ?_; rintro e w' ⟨rfl, rfl⟩))
  go_wp2
  go_ret
  exact ⟨rfl, hbw.trans (((Below.refl W0.heap.size W0).drew.alloc (Nat.le_refl _) _).mono (by omega))⟩

/-- Does a key stand ahead of another? -/
def before (i u : Int) (s : ByteArray) (c i' u' : Int) (s' : ByteArray) (c' : Int) : Bool := decide (order4 i u s c i' u' s' c' < 0)

set_option maxHeartbeats 400000 in
theorem before_any (i u : Int) (s : ByteArray) (c i' u' : Int) (s' : ByteArray) (c' : Int) (w : World) :
    Calls Try.prog 12 #[.agg #[.int .i64 i, .int .u8 u, .string s, .int .i64 c], .agg #[.int .i64 i', .int .u8 u', .string s', .int .i64 c']] w (BoolEnd (before i u s c i' u' s' c') w) := by
  unfold before
  have C := order_any i u s c i' u' s' c'
  generalize order4 i u s c i' u' s' c' = n at *
  have HC := Lib.hid C
  clear C
  go_enter Try.func12, Try.ntmps12
  go_wp2_with fail
  refine (HC.out _).mono ?_
  rintro e w1 ⟨rfl, hw1⟩
  have hb1 := below_of (twoKeys_below w i u s c i' u' s' c') hw1
  clear hw1
  go_wp2
  go_ret
  exact ⟨rfl, hb1⟩

/-! ### The document's order of texts -/
def refOrder : List UInt8 → List UInt8 → Int
  | [], b => - (b.length : Int)
  | a, [] => a.length
  | x :: a, y :: b => if x = y then refOrder a b else (x.toNat : Int) - (y.toNat : Int)
theorem refOrder_nil (a : List UInt8) : refOrder a [] = a.length := by cases a <;> simp [refOrder]
theorem refOrder_at {a b : List UInt8} (k : Nat) (h : agree a b k) (ha : k < a.length) (hb : k < b.length) (hne : a[k] ≠ b[k]) : refOrder a b = (a[k].toNat : Int) - (b[k].toNat : Int) := by
  induction k generalizing a b with
  | zero =>
    cases a with
    | nil => simp at ha
    | cons x a =>
      cases b with
      | nil => simp at hb
      | cons y b =>
        have hxy : x ≠ y := by simpa using hne
        simp [refOrder, hxy]
  | succ k ih =>
    cases a with
    | nil => simp at ha
    | cons x a =>
      cases b with
      | nil => simp at hb
      | cons y b =>
        have h0 : x = y := by have := h 0 (by omega); simpa using this
        simp only [refOrder, if_pos h0]
        exact ih (fun j hj => by have := h (j + 1) (by omega); simpa using this) (by simpa using ha) (by simpa using hb) (by simpa using hne)
theorem refOrder_end {a b : List UInt8} (k : Nat) (h : agree a b k) (hk : k = a.length ∧ k ≤ b.length ∨ k = b.length ∧ k ≤ a.length) : refOrder a b = (a.length : Int) - (b.length : Int) := by
  induction k generalizing a b with
  | zero =>
    rcases hk with ⟨h1, _⟩ | ⟨h1, _⟩
    · obtain rfl : a = [] := List.eq_nil_of_length_eq_zero h1.symm
      simp [refOrder]
    · obtain rfl : b = [] := List.eq_nil_of_length_eq_zero h1.symm
      simp [refOrder_nil]
  | succ k ih =>
    cases a with
    | nil => simp at hk
    | cons x a =>
      cases b with
      | nil => simp at hk
      | cons y b =>
        have h0 : x = y := by have := h 0 (by omega); simpa using this
        simp only [refOrder, if_pos h0]
        rw [ih (fun j hj => by have := h (j + 1) (by omega); simpa using this) (by simp at hk; omega)]
        simp
        omega

set_option maxHeartbeats 1000000 in
theorem refOrder_any (a b : ByteArray) (ha : a.size ≤ maxLen) (hb : b.size ≤ maxLen) (w : World) :
    Calls Try.prog 35 #[.string a, .string b] w (IntEnd (refOrder a.data.toList b.data.toList) w) := by
  unfold maxLen at ha hb
  go_enter Try.func35, Try.ntmps35
  go_wp2
  go_loopg [5] a.size (fun n i wr => ∃ k : Nat, k ≤ a.size ∧ k ≤ b.size ∧ n = a.size - k ∧ i = .int .i64 k ∧ Hid (agree a.data.toList b.data.toList k) ∧ Below w.heap.size w wr)
  case atStart => exact ⟨0, Nat.zero_le _, Nat.zero_le _, by omega, rfl, fun j h => absurd h (by omega), Below.refl _ _⟩
  case round =>
    obtain ⟨k, hk, hk2, rfl, rfl, hag, hbw⟩ := hrel
    by_cases hlt : k < a.size
    · by_cases hlb : k < b.size
      · have i0 : (0 : Int) ≤ (k : Int) := by omega
        have i1 : (k : Int) < (a.size : Int) := by omega
        have i2 : (k : Int) < (b.size : Int) := by omega
        by_cases he : a[k] = b[k]
        · have he' : a.data[k] = b.data[k] := he
          have q : ((a[k].toNat : Int) != (b[k].toNat : Int)) = false := by rw [he]; simp
          have HE : Hid (agree a.data.toList b.data.toList (k + 1)) := agree_succ hag.out (by simpa using hlt) (by simpa using hlb) (by simpa using he')
          clear he he'
          go_wp2
          go_quiet (fail)
          go_wp2
          go_roundg (a.size - (k + 1))
          case measure => omega
          case rel => exact ⟨k + 1, by omega, by omega, rfl, by go_num, HE, below_drewN hbw _⟩
        · have he' : ¬ a.data[k] = b.data[k] := he
          have q : ((a[k].toNat : Int) != (b[k].toNat : Int)) = true := by
            rw [bne_iff_ne]; intro h; exact he (UInt8.toNat_inj.1 (by omega))
          have HR : Hid (refOrder a.data.toList b.data.toList = (a[k].toNat : Int) - (b[k].toNat : Int)) := refOrder_at k hag.out (by simpa using hlt) (by simpa using hlb) (by simpa using he')
          have b1 : (a[k].toNat : Int) < 256 := by have := a[k].toNat_lt; omega
          have b2 : (b[k].toNat : Int) < 256 := by have := b[k].toNat_lt; omega
          have w1 : IntKind.i64.wrap ((a[k].toNat : Int) - (b[k].toNat : Int)) = (a[k].toNat : Int) - (b[k].toNat : Int) := IntWalk.i64_in _ (by omega)
          have w2 : IntKind.i64.wrap (a[k].toNat : Int) = (a[k].toNat : Int) := IntWalk.i64_in _ (by omega)
          have w3 : IntKind.i64.wrap (b[k].toNat : Int) = (b[k].toNat : Int) := IntWalk.i64_in _ (by omega)
          clear he he'
          go_wp2
          go_quiet (fail)
          go_wp2
          go_quiet (fail)
          go_wp2
          go_ret
          exact ⟨ret_int HR.out.symm, below_drewN (below_drewN hbw _) _⟩
      · obtain rfl : k = b.size := by omega
        have HR : Hid (refOrder a.data.toList b.data.toList = (a.data.toList.length : Int) - (b.data.toList.length : Int)) := refOrder_end _ hag.out (.inr ⟨by simp, by simpa using hk⟩)
        have d1 : decide ((b.size : Int) < (b.size : Int)) = false := by simp
        go_wp2
        go_ret
        exact ⟨ret_int (by rw [HR.out]; simp), hbw⟩
    · obtain rfl : k = a.size := by omega
      have HR : Hid (refOrder a.data.toList b.data.toList = (a.data.toList.length : Int) - (b.data.toList.length : Int)) := refOrder_end _ hag.out (.inl ⟨by simp, by simpa using hk2⟩)
      go_wp2
      go_ret
      exact ⟨ret_int (by rw [HR.out]; simp), hbw⟩

theorem refOrder_zero : ∀ (a b : List UInt8), refOrder a b = 0 ↔ a = b
  | [], [] => by simp [refOrder]
  | [], y :: b => by simp [refOrder]; omega
  | x :: a, [] => by simp [refOrder]; omega
  | x :: a, y :: b => by
    by_cases h : x = y
    · subst h; simp [refOrder, refOrder_zero a b]
    · have : x.toNat ≠ y.toNat := fun e => h (UInt8.toNat_inj.1 e)
      simp [refOrder, h]; omega
theorem refOrder_neg : ∀ (a b : List UInt8), refOrder a b < 0 ↔ Op.bytesLess a b = true
  | [], [] => by simp [refOrder, Op.bytesLess]
  | [], y :: b => by simp [refOrder, Op.bytesLess]
  | x :: a, [] => by simp [refOrder, Op.bytesLess]; omega
  | x :: a, y :: b => by
    by_cases h : x = y
    · subst h; simp [refOrder, Op.bytesLess, refOrder_neg a b]
    · have h1 : (x == y) = false := beq_eq_false_iff_ne.2 h
      simp only [refOrder, if_neg h, Op.bytesLess, h1, Bool.false_and, Bool.or_false, decide_eq_true_eq]
      rw [UInt8.lt_iff_toNat_lt]; omega

/-- As the document has it. -/
def refBefore (i u : Int) (s : ByteArray) (c i' u' : Int) (s' : ByteArray) (c' : Int) : Bool :=
  if i = i' then (if u = u' then (if refOrder s.data.toList s'.data.toList = 0 then decide (c < c') else decide (refOrder s.data.toList s'.data.toList < 0)) else decide (u < u')) else decide (i < i')
theorem cmpI_zero (a b : Int) : cmpI a b = 0 ↔ a = b := by unfold cmpI; split <;> (try split) <;> omega
theorem cmpI_neg (a b : Int) : cmpI a b < 0 ↔ a < b := by unfold cmpI; split <;> (try split) <;> omega
theorem cmpS_zero (a b : ByteArray) : cmpS a b = 0 ↔ refOrder a.data.toList b.data.toList = 0 := by
  have h1 := refOrder_neg a.data.toList b.data.toList
  have h2 := refOrder_zero a.data.toList b.data.toList
  unfold cmpS
  rw [Lib.toList_data, Lib.toList_data]
  by_cases hl : Op.bytesLess a.data.toList b.data.toList = true
  · rw [if_pos hl]; have := h1.2 hl; omega
  · rw [if_neg hl]
    by_cases he : a.data.toList = b.data.toList
    · rw [if_pos (beq_iff_eq.2 he)]; simp [h2.2 he]
    · rw [if_neg (fun h => he (beq_iff_eq.1 h))]; simp; intro h; exact he (h2.1 h)
theorem cmpS_neg (a b : ByteArray) : cmpS a b < 0 ↔ refOrder a.data.toList b.data.toList < 0 := by
  have h1 := refOrder_neg a.data.toList b.data.toList
  unfold cmpS
  rw [Lib.toList_data, Lib.toList_data]
  by_cases hl : Op.bytesLess a.data.toList b.data.toList = true
  · rw [if_pos hl]; have := h1.2 hl; omega
  · rw [if_neg hl]
    have : ¬ refOrder a.data.toList b.data.toList < 0 := fun h => hl (h1.1 h)
    split <;> omega
theorem before_eq (i u : Int) (s : ByteArray) (c i' u' : Int) (s' : ByteArray) (c' : Int) : before i u s c i' u' s' c' = refBefore i u s c i' u' s' c' := by
  unfold before order4 or4 refBefore
  have := cmpI_zero i i'; have := cmpI_zero u u'; have := cmpS_zero s s'
  have := cmpI_neg i i'; have := cmpI_neg u u'; have := cmpS_neg s s'; have := cmpI_neg c c'
  by_cases h1 : i = i'
  · rw [if_neg (by omega), if_pos h1]
    by_cases h2 : u = u'
    · rw [if_neg (by omega), if_pos h2]
      by_cases h3 : refOrder s.data.toList s'.data.toList = 0
      · rw [if_neg (by omega), if_pos h3]; exact decide_eq_decide.2 (by omega)
      · rw [if_pos (by omega), if_neg h3]; exact decide_eq_decide.2 (by omega)
    · rw [if_pos (by omega), if_neg h2]; exact decide_eq_decide.2 (by omega)
  · rw [if_pos (by omega), if_neg h1]; exact decide_eq_decide.2 (by omega)

set_option maxHeartbeats 1000000 in
theorem refBefore_any (i u : Int) (s : ByteArray) (c i' u' : Int) (s' : ByteArray) (c' : Int) (hs : s.size ≤ maxLen) (hs' : s'.size ≤ maxLen) (w : World) :
    Calls Try.prog 13 #[.agg #[.int .i64 i, .int .u8 u, .string s, .int .i64 c], .agg #[.int .i64 i', .int .u8 u', .string s', .int .i64 c']] w (BoolEnd (before i u s c i' u' s' c') w) := by
  rw [before_eq]
  unfold refBefore
  by_cases h1 : i = i'
  · subst h1
    by_cases h2 : u = u'
    · subst h2
      have C := fun w => refOrder_any s s' hs hs' w
      rw [if_pos rfl, if_pos rfl]
      generalize refOrder s.data.toList s'.data.toList = n at *
      have HC := Lib.hid C
      clear C
      by_cases h3 : n = 0
      · subst h3
        rw [if_pos rfl]
        go_enter Try.func13, Try.ntmps13
        go_wp2_with fail
        refine (HC.out _).mono ?_
        rintro e w1 ⟨rfl, hw1⟩
        change Below (twoKeys w i u s c i u s' c').heap.size (twoKeys w i u s c i u s' c') w1 at hw1
        have hb1 := below_of (twoKeys_below w i u s c i u s' c') hw1
        obtain ⟨⟨a0, a1, a2, a3⟩, ⟨b0, b1, b2, b3⟩⟩ := twoKeys_cells w i u s c i u s' c'
        have a3 := cell_below hw1 a3
        have b3 := cell_below hw1 b3
        clear hw1 a0 a1 a2 b0 b1 b2
        go_wp2
        go_ret
        exact ⟨rfl, hb1⟩
      · have q : (n != 0) = true := by simp [h3]
        rw [if_neg h3]
        clear h3
        go_enter Try.func13, Try.ntmps13
        go_wp2_with fail
        refine (HC.out _).mono ?_
        rintro e w1 ⟨rfl, hw1⟩
        have hb1 := below_of (twoKeys_below w i u s c i u s' c') hw1
        clear hw1
        go_wp2
        go_ret
        exact ⟨rfl, hb1⟩
    · have q : (u != u') = true := by simp [h2]
      rw [if_pos rfl, if_neg h2]
      clear h2
      go_enter Try.func13, Try.ntmps13
      go_wp2
      go_ret
      exact ⟨rfl, twoKeys_below w i u s c i u' s' c'⟩
  · have q : (i != i') = true := by simp [h1]
    rw [if_neg h1]
    clear h1
    go_enter Try.func13, Try.ntmps13
    go_wp2
    go_ret
    exact ⟨rfl, twoKeys_below w i u s c i' u' s' c'⟩
end Go.Proofs.Ytkianpkkligljaa
