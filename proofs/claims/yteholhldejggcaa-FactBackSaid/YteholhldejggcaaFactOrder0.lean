/- The order of keys: just one of three; ahead of one that is ahead. Plain. -/
import Derived.Test.YteholhldejggcaaOrder
namespace Go.Proofs.Yteholhldejggcaa

theorem refOrder_swap : ∀ (a b : List UInt8), refOrder b a = - refOrder a b
  | [], [] => by simp [refOrder]
  | [], y :: b => by simp [refOrder]
  | x :: a, [] => by simp [refOrder]
  | x :: a, y :: b => by
    by_cases h : x = y
    · subst h; simp [refOrder, refOrder_swap a b]
    · have h' : ¬ y = x := fun e => h e.symm
      simp [refOrder, h, h']; omega
theorem refOrder_trans : ∀ (a b c : List UInt8), refOrder a b < 0 → refOrder b c < 0 → refOrder a c < 0
  | [], [], c => by simp [refOrder]
  | [], y :: b, [] => by simp [refOrder]; omega
  | [], y :: b, z :: c => by simp [refOrder]
  | x :: a, [], c => by simp [refOrder]; omega
  | x :: a, y :: b, [] => by simp [refOrder]; omega
  | x :: a, y :: b, z :: c => by
    by_cases h : x = y
    · subst h
      by_cases h2 : x = z
      · subst h2; simp only [refOrder, if_true]; exact refOrder_trans a b c
      · simp only [refOrder, if_neg h2, if_true]; intro _ h3; exact h3
    · have n1 : x.toNat ≠ y.toNat := fun e => h (UInt8.toNat_inj.1 e)
      by_cases h2 : y = z
      · subst h2; simp only [refOrder, if_neg h]; intro h3 _; exact h3
      · by_cases h3 : x = z
        · subst h3; simp only [refOrder, if_neg h, if_neg h2]; omega
        · simp only [refOrder, if_neg h, if_neg h2, if_neg h3]; omega

def keyEq (i u : Int) (s : ByteArray) (c i' u' : Int) (s' : ByteArray) (c' : Int) : Bool := decide (i = i' ∧ u = u' ∧ s.data.toList = s'.data.toList ∧ c = c')

/-- Just one of three. -/
def justOne (p q e : Bool) : Prop := (p = true ∧ q = false ∧ e = false) ∨ (p = false ∧ q = true ∧ e = false) ∨ (p = false ∧ q = false ∧ e = true)
theorem before_iff (i u : Int) (s : ByteArray) (c i' u' : Int) (s' : ByteArray) (c' : Int) : before i u s c i' u' s' c' = true ↔
    i < i' ∨ i = i' ∧ (u < u' ∨ u = u' ∧ (refOrder s.data.toList s'.data.toList < 0 ∨ refOrder s.data.toList s'.data.toList = 0 ∧ c < c')) := by
  rw [before_eq]; unfold refBefore
  by_cases h1 : i = i'
  · rw [if_pos h1]
    by_cases h2 : u = u'
    · rw [if_pos h2]
      by_cases h3 : refOrder s.data.toList s'.data.toList = 0
      · rw [if_pos h3, decide_eq_true_iff]; omega
      · rw [if_neg h3, decide_eq_true_iff]; omega
    · rw [if_neg h2, decide_eq_true_iff]; omega
  · rw [if_neg h1, decide_eq_true_iff]; omega
theorem keyEq_iff (i u : Int) (s : ByteArray) (c i' u' : Int) (s' : ByteArray) (c' : Int) : keyEq i u s c i' u' s' c' = true ↔
    i = i' ∧ u = u' ∧ refOrder s.data.toList s'.data.toList = 0 ∧ c = c' := by
  unfold keyEq; rw [decide_eq_true_iff, refOrder_zero]
theorem just_one (i u : Int) (s : ByteArray) (c i' u' : Int) (s' : ByteArray) (c' : Int) : justOne (before i u s c i' u' s' c') (before i' u' s' c' i u s c) (keyEq i u s c i' u' s' c') := by
  have h1 := before_iff i u s c i' u' s' c'
  have h2 := before_iff i' u' s' c' i u s c
  have h3 := keyEq_iff i u s c i' u' s' c'
  rw [refOrder_swap s.data.toList s'.data.toList] at h2
  unfold justOne
  generalize refOrder s.data.toList s'.data.toList = n at *
  generalize before i u s c i' u' s' c' = p at *
  generalize before i' u' s' c' i u s c = q at *
  generalize keyEq i u s c i' u' s' c' = e at *
  cases p <;> cases q <;> cases e <;> simp at h1 h2 h3 ⊢ <;> omega
theorem before_trans {i u : Int} {s : ByteArray} {c i' u' : Int} {s' : ByteArray} {c' i2 u2 : Int} {s2 : ByteArray} {c2 : Int}
    (h1 : before i u s c i' u' s' c' = true) (h2 : before i' u' s' c' i2 u2 s2 c2 = true) : before i u s c i2 u2 s2 c2 = true := by
  rw [before_iff] at *
  have t := refOrder_trans s.data.toList s'.data.toList s2.data.toList
  have z1 := refOrder_zero s.data.toList s'.data.toList
  have z2 := refOrder_zero s'.data.toList s2.data.toList
  by_cases e1 : s.data.toList = s'.data.toList
  · have := z1.2 e1
    have hx : refOrder s.data.toList s2.data.toList = refOrder s'.data.toList s2.data.toList := by rw [e1]
    omega
  · have n1 : refOrder s.data.toList s'.data.toList ≠ 0 := fun h => e1 (z1.1 h)
    by_cases e2 : s'.data.toList = s2.data.toList
    · have := z2.2 e2
      have hx : refOrder s.data.toList s2.data.toList = refOrder s.data.toList s'.data.toList := by rw [e2]
      omega
    · have n2 : refOrder s'.data.toList s2.data.toList ≠ 0 := fun h => e2 (z2.1 h)
      omega
end Go.Proofs.Yteholhldejggcaa
