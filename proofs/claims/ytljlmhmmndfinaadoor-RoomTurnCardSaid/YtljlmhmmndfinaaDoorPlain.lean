/- Plain facts on room's numbers, without any Go. -/
import Derived.Test.YtljlmhmmndfinaaDoorTurns
namespace Go.Proofs.YtljlmhmmndfinaaDoor

theorem max_tdiv (N : Int) : max 0 (N.tdiv 8) = max 0 (N / 8) := by
  by_cases h : 0 ≤ N
  · rw [Int.tdiv_eq_ediv_of_nonneg h]
  · obtain ⟨M, rfl⟩ : ∃ M, N = -M := ⟨-N, by omega⟩
    rw [Int.neg_tdiv, Int.tdiv_eq_ediv_of_nonneg (by omega)]
    omega
theorem capF_eq (b p x : Int) : capF b p x = max 0 (((b - 2 * x - 4) * (p - 1) - 8) / 8) := by unfold capF; exact max_tdiv _
theorem capF_blocks {b p x : Int} (hp : 4 ≤ p) : capF b p x ≤ capF (b + 1) p x := by
  rw [capF_eq, capF_eq]
  have : (b + 1 - 2 * x - 4) * (p - 1) = (b - 2 * x - 4) * (p - 1) + (p - 1) := by rw [show b + 1 - 2 * x - 4 = (b - 2 * x - 4) + 1 by omega, Int.add_mul]; omega
  omega
theorem capF_spares {b p x : Int} (hp : 4 ≤ p) : capF b p x ≤ capF b p (x - 1) := by
  rw [capF_eq, capF_eq]
  have : (b - 2 * (x - 1) - 4) * (p - 1) = (b - 2 * x - 4) * (p - 1) + 2 * (p - 1) := by rw [show b - 2 * (x - 1) - 4 = (b - 2 * x - 4) + 2 by omega, Int.add_mul]
  omega
theorem capF_le {b p s x : Int} (h : InB b p s x) : 0 ≤ capF b p x ∧ capF b p x ≤ 232 := by
  have := prod_bd h.b0 h.b1 h.p0 h.p1 h.x0 h.x1
  rw [capF_eq]
  omega
theorem wantF_eq {p x f : Int} (hp : 4 ≤ p) (hf : 0 ≤ f) : wantF p x f = (8 * f + 8 + (p - 1) - 1) / (p - 1) + 4 + x := by
  unfold wantF; rw [Int.tdiv_eq_ediv_of_nonneg (by omega)]
theorem wantF_mono {p x f g : Int} (hp : 4 ≤ p) (hf : 0 ≤ f) (h : f ≤ g) : wantF p x f ≤ wantF p x g := by
  rw [wantF_eq hp hf, wantF_eq hp (by omega)]
  have := Int.ediv_le_ediv (c := p - 1) (a := 8 * f + 8 + (p - 1) - 1) (b := 8 * g + 8 + (p - 1) - 1) (by omega) (by omega)
  omega
theorem wantF_least {p x f : Int} (hp : 4 ≤ p) (hf : 0 ≤ f) : 5 + x ≤ wantF p x f := by
  rw [wantF_eq hp hf]
  have := (Int.le_ediv_iff_mul_le (c := p - 1) (a := 1) (b := 8 * f + 8 + (p - 1) - 1) (by omega)).2 (by omega)
  omega
theorem turn_cap {b p s x f : Int} (h : TurnG b p s x f) : f ≤ capF b p x := by
  have hb := h.may.inb
  have hf := h.f0
  have hw := h.fits
  obtain ⟨b0, b1, p0, p1, s0, s1, x0, x1⟩ := hb
  have hc := capF_le h.may.inb
  rw [wantF_eq p0 (by omega)] at hw
  generalize hm : min f 1048576 = m at hw
  have hm0 : 0 ≤ m := by omega
  generalize hq : (8 * m + 8 + (p - 1) - 1) / (p - 1) = q at hw
  have h1 : 8 * m + 8 + (p - 1) - 1 < (q + 1) * (p - 1) := by rw [← hq]; exact Int.lt_ediv_add_one_mul_self _ (by omega)
  have h2 : (q + 1) * (p - 1) = q * (p - 1) + (p - 1) := by rw [Int.add_mul]; omega
  have h3 : q * (p - 1) ≤ (b - 2 * x - 4) * (p - 1) := Int.mul_le_mul_of_nonneg_right (by omega) (by omega)
  have h4 : m ≤ capF b p x := by rw [capF_eq]; omega
  omega
theorem turn_fewer {b p s x f g : Int} (h : TurnG b p s x f) (h0 : 0 ≤ g) (h1 : g ≤ f) : TurnG b p s x g := by
  refine ⟨h.may, h0, ?_⟩
  have := wantF_mono (x := x) (f := min g 1048576) (g := min f 1048576) h.may.inb.p0 (by omega) (by omega)
  have := h.fits
  omega
end Go.Proofs.YtljlmhmmndfinaaDoor
