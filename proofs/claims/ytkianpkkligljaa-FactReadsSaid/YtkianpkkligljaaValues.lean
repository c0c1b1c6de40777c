/- Values of nodes and of entries: the program's and the document's. -/
import Derived.Test.YtkianpkkligljaaPut
import Derived.Handy
namespace Go.Proofs.Ytkianpkkligljaa
open Go.RowKit

def nodeOk (k n s : Int) : Bool := (k == 1 || k == 2) && decide (0 ≤ n) && decide (n ≤ 255) && decide (0 ≤ s) && decide (s ≤ 65535)
def nodeBytes (k n s : Int) : List UInt8 := [UInt8.ofNat k.toNat, UInt8.ofNat n.toNat, lo s, hi s]
theorem nodeOk_kind {k n s : Int} (h1 : k ≠ 1) (h2 : k ≠ 2) : nodeOk k n s = false := by
  unfold nodeOk; rw [beq_eq_false_iff_ne.2 h1, beq_eq_false_iff_ne.2 h2]; rfl
theorem nodeOk_num {k n s : Int} (h : n < 0 ∨ 255 < n ∨ s < 0 ∨ 65535 < s) : nodeOk k n s = false := by
  cases hh : nodeOk k n s
  · rfl
  · unfold nodeOk at hh; simp only [Bool.and_eq_true, decide_eq_true_eq] at hh; omega
theorem nodeOk_yes {k n s : Int} (h1 : k = 1 ∨ k = 2) (h : 0 ≤ n ∧ n ≤ 255 ∧ 0 ≤ s ∧ s ≤ 65535) : nodeOk k n s = true := by
  unfold nodeOk; simp only [Bool.and_eq_true, decide_eq_true_eq, Bool.or_eq_true, beq_iff_eq]; exact ⟨⟨⟨⟨h1, h.1⟩, h.2.1⟩, h.2.2.1⟩, h.2.2.2⟩
theorem nodeVals {k n s : Int} (h1 : k = 1 ∨ k = 2) (h : 0 ≤ n ∧ n ≤ 255 ∧ 0 ≤ s ∧ s ≤ 65535) : vals (nodeBytes k n s) = [.int .u8 k, .int .u8 n, .int .u8 (s % 256), .int .u8 (s / 256)] := by
  unfold nodeBytes vals
  simp only [List.map_cons, List.map_nil, lo_int h.2.2.1, hi_int h.2.2.1 h.2.2.2, List.cons.injEq, Value.int.injEq, true_and, and_true]
  refine ⟨?_, ?_⟩
  · simp; omega
  · simp; omega

theorem bytes_lit {w W : World} {l : List UInt8} {vs : List Value} {b m : Nat} (hb : W.heap.size = b) (h : vals l = vs) (hm : l.length = m) (hl : m ≤ 1000) (hW : Below w.heap.size w W) :
    BytesEnd l w (.returned (.tuple #[.slice (some ⟨b, 0, none⟩) m m, .int .i64 0])) (W.alloc (.cells vs.toArray 5)) := by
  subst hb h hm
  exact ⟨_, rfl, OwnB.lit W w.heap.size l hW.size hl, hW.alloc hW.size _⟩

set_option maxHeartbeats 1000000 in
theorem nodeValue_any (k n s : Int) (w : World) :
    Calls Try.prog 16 #[.agg #[.int .u8 k, .int .i64 n, .int .i64 s]] w (KeyEnd (nodeOk k n s) (nodeBytes k n s) w) := by
  by_cases hk : k = 1 ∨ k = 2
  · by_cases h1 : n < 0
    · rw [nodeOk_num (.inl h1)]
      rcases hk with rfl | rfl
      all_goals
        go_enter Try.func16, Try.ntmps16
        go_wp2
        go_ret2
        exact .inl ⟨rfl, rfl, below_alloc1 _ _⟩
    · by_cases h2 : 255 < n
      · rw [nodeOk_num (.inr (.inl h2))]
        rcases hk with rfl | rfl
        all_goals
          go_enter Try.func16, Try.ntmps16
          go_wp2
          go_ret2
          exact .inl ⟨rfl, rfl, below_alloc1 _ _⟩
      · by_cases h3 : s < 0
        · rw [nodeOk_num (.inr (.inr (.inl h3)))]
          rcases hk with rfl | rfl
          all_goals
            go_enter Try.func16, Try.ntmps16
            go_wp2
            go_ret2
            exact .inl ⟨rfl, rfl, below_alloc1 _ _⟩
        · by_cases h4 : 65535 < s
          · rw [nodeOk_num (.inr (.inr (.inr h4)))]
            rcases hk with rfl | rfl
            all_goals
              go_enter Try.func16, Try.ntmps16
              go_wp2
              go_ret2
              exact .inl ⟨rfl, rfl, below_alloc1 _ _⟩
          · have hb : 0 ≤ n ∧ n ≤ 255 ∧ 0 ≤ s ∧ s ≤ 65535 := by omega
            rw [nodeOk_yes hk hb]
            have HV := Lib.hid (nodeVals hk hb)
            have e1 : IntKind.u8.wrap n = n := IntWalk.u8_in _ (by omega)
            have e2 : IntKind.u8.wrap s = s % 256 := by rw [IntKind.wrap_u8]
            rcases hk with rfl | rfl
            all_goals
              go_enter Try.func16, Try.ntmps16
              go_wp2
              go_ret2
              exact .inr ⟨rfl, bytes_lit (by simp) HV.out rfl (by decide) (below_alloc1 _ _)⟩
  · have k1 : k ≠ 1 := fun h => hk (.inl h)
    have k2 : k ≠ 2 := fun h => hk (.inr h)
    have q1 : (k != 1) = true := by simp [k1]
    have q2 : (k != 2) = true := by simp [k2]
    rw [nodeOk_kind k1 k2]
    clear hk k1 k2
    go_enter Try.func16, Try.ntmps16
    go_wp2
    go_ret2
    exact .inl ⟨rfl, rfl, below_alloc1 _ _⟩

set_option maxHeartbeats 1000000 in
theorem refNodeValue_any (k n s : Int) (w : World) :
    Calls Try.prog 17 #[.agg #[.int .u8 k, .int .i64 n, .int .i64 s]] w (KeyEnd (nodeOk k n s) (nodeBytes k n s) w) := by
  by_cases hk : k = 1 ∨ k = 2
  · by_cases h1 : n < 0
    · rw [nodeOk_num (.inl h1)]
      rcases hk with rfl | rfl
      all_goals
        go_enter Try.func17, Try.ntmps17
        go_wp2
        go_ret2
        exact .inl ⟨rfl, rfl, below_alloc1 _ _⟩
    · by_cases h2 : 255 < n
      · rw [nodeOk_num (.inr (.inl h2))]
        rcases hk with rfl | rfl
        all_goals
          go_enter Try.func17, Try.ntmps17
          go_wp2
          go_ret2
          exact .inl ⟨rfl, rfl, below_alloc1 _ _⟩
      · by_cases h3 : s < 0
        · rw [nodeOk_num (.inr (.inr (.inl h3)))]
          rcases hk with rfl | rfl
          all_goals
            go_enter Try.func17, Try.ntmps17
            go_wp2
            go_ret2
            exact .inl ⟨rfl, rfl, below_alloc1 _ _⟩
        · by_cases h4 : 65535 < s
          · rw [nodeOk_num (.inr (.inr (.inr h4)))]
            rcases hk with rfl | rfl
            all_goals
              go_enter Try.func17, Try.ntmps17
              go_wp2
              go_ret2
              exact .inl ⟨rfl, rfl, below_alloc1 _ _⟩
          · have hb : 0 ≤ n ∧ n ≤ 255 ∧ 0 ≤ s ∧ s ≤ 65535 := by omega
            rw [nodeOk_yes hk hb]
            have HV := Lib.hid (nodeVals hk hb)
            have e1 : IntKind.u8.wrap n = n := IntWalk.u8_in _ (by omega)
            have e2 : IntKind.u8.wrap s = s % 256 := by rw [IntKind.wrap_u8]
            rcases hk with rfl | rfl
            all_goals
              go_enter Try.func17, Try.ntmps17
              go_wp2
              go_ret2
              exact .inr ⟨rfl, bytes_lit (by simp) HV.out rfl (by decide) (below_alloc1 _ _)⟩
  · have k1 : k ≠ 1 := fun h => hk (.inl h)
    have k2 : k ≠ 2 := fun h => hk (.inr h)
    have q1 : (k != 1) = true := by simp [k1]
    have q2 : (k != 2) = true := by simp [k2]
    rw [nodeOk_kind k1 k2]
    clear hk k1 k2
    go_enter Try.func17, Try.ntmps17
    go_wp2
    go_ret2
    exact .inl ⟨rfl, rfl, below_alloc1 _ _⟩

/-! ### Of entries -/
def inoOk (i : Int) : Bool := decide (1 ≤ i) && decide (i ≤ 65535)
theorem inoOk_no {i : Int} (h : i < 1 ∨ 65535 < i) : inoOk i = false := by
  cases hh : inoOk i
  · rfl
  · unfold inoOk at hh; simp only [Bool.and_eq_true, decide_eq_true_eq] at hh; omega
theorem inoOk_yes {i : Int} (h : 1 ≤ i ∧ i ≤ 65535) : inoOk i = true := by
  unfold inoOk; simp only [Bool.and_eq_true, decide_eq_true_eq]; exact h
theorem inoVals {i : Int} (h : 1 ≤ i ∧ i ≤ 65535) : vals [lo i, hi i] = [.int .u8 (i % 256), .int .u8 (i / 256)] := by
  unfold vals; simp only [List.map_cons, List.map_nil, lo_int (by omega : 0 ≤ i), hi_int (by omega : 0 ≤ i) h.2]

set_option maxHeartbeats 1000000 in
theorem entryValue_any (i : Int) (w : World) : Calls Try.prog 18 #[.int .i64 i] w (KeyEnd (inoOk i) [lo i, hi i] w) := by
  by_cases h1 : i < 1
  · rw [inoOk_no (.inl h1)]
    go_enter Try.func18, Try.ntmps18
    go_wp2
    go_ret2
    exact .inl ⟨rfl, rfl, Below.refl _ _⟩
  · by_cases h2 : 65535 < i
    · rw [inoOk_no (.inr h2)]
      go_enter Try.func18, Try.ntmps18
      go_wp2
      go_ret2
      exact .inl ⟨rfl, rfl, Below.refl _ _⟩
    · rw [inoOk_yes (by omega)]
      have P := Lib.hid (fun w => put_bytes i (by omega) (by omega) w)
      have e1 : IntKind.u64.wrap i = i := IntWalk.u64_in _ (by omega)
      go_enter Try.func18, Try.ntmps18
      go_wp2_with fail
      refine (P.out _).mono ?_
      rintro e w1 ⟨v, rfl, ho, hb⟩
      go_wp2
      go_ret2
      exact .inr ⟨rfl, v, rfl, ho, hb⟩
set_option maxHeartbeats 1000000 in
theorem refEntryValue_any (i : Int) (w : World) : Calls Try.prog 19 #[.int .i64 i] w (KeyEnd (inoOk i) [lo i, hi i] w) := by
  by_cases h1 : i < 1
  · rw [inoOk_no (.inl h1)]
    go_enter Try.func19, Try.ntmps19
    go_wp2
    go_ret2
    exact .inl ⟨rfl, rfl, Below.refl _ _⟩
  · by_cases h2 : 65535 < i
    · rw [inoOk_no (.inr h2)]
      go_enter Try.func19, Try.ntmps19
      go_wp2
      go_ret2
      exact .inl ⟨rfl, rfl, Below.refl _ _⟩
    · rw [inoOk_yes (by omega)]
      have HV := Lib.hid (inoVals (by omega : 1 ≤ i ∧ i ≤ 65535))
      go_enter Try.func19, Try.ntmps19
      go_wp2
      go_ret2
      exact .inr ⟨rfl, bytes_lit rfl HV.out rfl (by decide) (Below.refl _ _)⟩
end Go.Proofs.Ytkianpkkligljaa
