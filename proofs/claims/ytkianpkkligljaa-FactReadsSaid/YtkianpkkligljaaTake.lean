/- The program's reader: New, Take, Left. -/
import Derived.Test.YtkianpkkligljaaReader
namespace Go.Proofs.Ytkianpkkligljaa
open Go.RowKit

theorem Rd.shut {w : World} {b : Nat} {l : List UInt8} {no : Bool} (h : Rd w b l no) : Rd (w.setCell ⟨b, 2, none⟩ (.bool true)) b l true := by
  obtain ⟨A, c, hr, hc, hm, hB, hn⟩ := h.at'
  exact ⟨A, c, hr.shut true, hc, hm, hB.grown (grown_setCell w ⟨b, 2, none⟩ _) (fun ad h => Nat.ne_of_lt (hn ad h)), hn⟩
/-- What is taken, or nothing. -/
def TakeEnd (b : Nat) (l : List UInt8) (no : Bool) (k : Nat) (v : Int) (w : World) (e : Ending) (w' : World) : Prop :=
  w.grownBy w' (some b) ∧ ((no = false ∧ k ≤ l.length ∧ e = .returned (.tuple #[.int .u64 v, .int .i64 0]) ∧ Rd w' b (l.drop k) false) ∨
    ((no = true ∨ l.length < k) ∧ e = .returned (.tuple #[.int .u64 0, .int .i64 4]) ∧ Rd w' b l true))
def CutEnd (b : Nat) (l : List UInt8) (no : Bool) (k : Nat) (w : World) (e : Ending) (w' : World) : Prop :=
  w.grownBy w' (some b) ∧ ((no = false ∧ k ≤ l.length ∧ (∃ A, e = .returned (.tuple #[.slice A k k, .int .i64 0]) ∧ Bs w' A (l.take k)) ∧ Rd w' b (l.drop k) false) ∨
    ((no = true ∨ l.length < k) ∧ e = .returned (.tuple #[.slice none 0 0, .int .i64 4]) ∧ Rd w' b l true))
theorem cut_any (b : Nat) (l : List UInt8) (no : Bool) (k : Nat) (w : World) (h : Rd w b l no) : Calls Try.prog 47 #[.pointer (some ⟨b, 0, none⟩), .int .i64 k] w (CutEnd b l no k w) := by
  cases no
  · by_cases hk : k ≤ l.length
    · refine (cut_some b l k w h hk).mono ?_
      rintro e w' ⟨A, he, hg, hB, hr⟩
      exact ⟨hg, .inl ⟨rfl, hk, ⟨A, he, hB⟩, hr⟩⟩
    · refine (cut_short b l k w h (by omega)).mono ?_
      rintro e w' ⟨he, rfl⟩
      exact ⟨grown_setCell w ⟨b, 2, none⟩ _, .inr ⟨.inr (by omega), he, h.shut⟩⟩
  · refine (cut_no b l k w h).mono ?_
    rintro e w' ⟨he, rfl⟩
    exact ⟨grown_setCell w ⟨b, 2, none⟩ _, .inr ⟨.inl rfl, he, h.shut⟩⟩

theorem off_not (b : Nat) (w : World) (h : w.cell? ⟨b, 0, none⟩ = some (.bool true)) : Calls Try.prog 40 #[.pointer (some ⟨b, 0, none⟩)] w fun e w' => e = .returned (.bool false) ∧ w = w' := by
  go_enter Try.func40, Try.ntmps40
  go_wp2
  go_ret
  exact ⟨rfl, rfl⟩
theorem or_zero {k : IntKind} (hk : k.bits = 64) {y : Int} (hy : 0 ≤ y ∧ y < 256) (hw : k.wrap y = y) : bits .or k 0 y = y := by
  unfold bits
  obtain ⟨y, rfl⟩ : ∃ x : Nat, y = x := ⟨y.toNat, by omega⟩
  rw [show (0 : Int) = ((0 : Nat) : Int) from rfl]
  simp only [BitVec.ofInt_natCast, BitVec.toNat_or, BitVec.toNat_ofNat, hk]
  rw [Nat.mod_eq_of_lt (by omega), Nat.mod_eq_of_lt (by omega), Nat.zero_or]
  exact hw
theorem isSize_one (w : World) : Calls Try.prog 41 #[.int .i64 1] w fun e w' => e = .returned (.bool true) ∧ w = w' := by
  go_enter Try.func41, Try.ntmps41
  go_wp2
  go_ret
  exact ⟨rfl, rfl⟩

set_option maxHeartbeats 1000000 in
theorem take_one (b : Nat) (l : List UInt8) (no : Bool) (w : World) (h : Rd w b l no) : Calls Try.prog 36 #[.pointer (some ⟨b, 0, none⟩), .int .i64 1] w (TakeEnd b l no 1 (byteAt l 0) w) := by
  have C0 : Calls Try.prog 47 #[.pointer (some ⟨b, 0, none⟩), .int .i64 1] w (CutEnd b l no 1 w) := cut_any b l no 1 w h
  have C := Lib.hid C0
  clear C0
  have c0 : w.cell? ⟨b, 0, none⟩ = some (.bool true) := by obtain ⟨A, c, hr, _⟩ := h.at'; exact hr.cells.1
  clear h
  go_enter Try.func36, Try.ntmps36
  go_wp2_with fail
  refine (off_not b w c0).mono ?_
  rintro e _ ⟨rfl, rfl⟩
  go_wp2_with fail
  refine (isSize_one w).mono ?_
  rintro e _ ⟨rfl, rfl⟩
  go_wp2_with fail
  refine C.out.mono ?_
  rintro e w' ⟨hg, ⟨hno, hk, ⟨A, rfl, hB⟩, hr⟩ | ⟨hno, rfl, hr⟩⟩
  · obtain ⟨ad, rfl, hc⟩ := hB.cell 0 (by simp; omega)
    simp only [List.getElem_take, add_zero] at hc
    have hv : byteAt l 0 = ((l[0]'(by omega)).toNat : Int) := by unfold byteAt; simp [List.getElem?_eq_getElem (show 0 < l.length by omega)]
    have hl : ((l[0]'(by omega)).toNat : Int) < 256 := by have := (l[0]'(by omega)).toNat_lt; omega
    rw [← hv] at hc hl
    clear hv
    have hz : 0 ≤ byteAt l 0 := by unfold byteAt; omega
    generalize byteAt l 0 = y at *
    have HH := Lib.hid (And.intro hg (And.intro hno (And.intro hk hr)))
    clear hg hno hk hr hB
    have HO := Lib.hid (or_zero (k := .u64) rfl (y := y) (by omega) (IntWalk.u64_in _ (by omega)))
    go_wp2
    go_loopg [8, 26] 1 (fun n v8 v26 wr => wr = w' ∧ ((n = 1 ∧ v8 = .int .u64 0 ∧ v26 = .int .i64 0) ∨ (n = 0 ∧ v8 = .int .u64 y ∧ v26 = .int .i64 1)))
    case atStart => exact ⟨rfl, .inl ⟨rfl, rfl, rfl⟩⟩
    case round =>
      obtain ⟨rfl, ⟨rfl, rfl, rfl⟩ | ⟨rfl, rfl, rfl⟩⟩ := hrel
      · go_wp2
        go_roundg 0
        case measure => omega
        case rel => exact ⟨rfl, .inr ⟨rfl, by rw [HO.out], rfl⟩⟩
      · go_wp2
        go_ret2
        exact ⟨HH.out.1, .inl ⟨HH.out.2.1, HH.out.2.2.1, rfl, HH.out.2.2.2⟩⟩
  · have HH := Lib.hid (And.intro hg (And.intro hno hr))
    clear hg hno hr
    go_wp2
    go_loopg [8, 26] 0 (fun n v8 v26 wr => wr = w' ∧ v8 = .int .u64 0 ∧ v26 = .int .i64 0)
    case atStart => exact ⟨rfl, rfl, rfl⟩
    case round =>
      obtain ⟨rfl, rfl, rfl⟩ := hrel
      go_wp2
      go_ret2
      exact ⟨HH.out.1, .inr ⟨HH.out.2.1, rfl, HH.out.2.2⟩⟩
set_option maxHeartbeats 1000000 in
theorem take_two (b : Nat) (l : List UInt8) (no : Bool) (w : World) (h : Rd w b l no) : Calls Try.prog 36 #[.pointer (some ⟨b, 0, none⟩), .int .i64 2] w (TakeEnd b l no 2 (byteAt l 0 + byteAt l 1 * 256) w) := by
  have C0 : Calls Try.prog 47 #[.pointer (some ⟨b, 0, none⟩), .int .i64 2] w (CutEnd b l no 2 w) := cut_any b l no 2 w h
  have C := Lib.hid C0
  clear C0
  have c0 : w.cell? ⟨b, 0, none⟩ = some (.bool true) := by obtain ⟨A, c, hr, _⟩ := h.at'; exact hr.cells.1
  clear h
  go_enter Try.func36, Try.ntmps36
  go_wp2_with fail
  refine (off_not b w c0).mono ?_
  rintro e _ ⟨rfl, rfl⟩
  go_wp2_with fail
  refine (isSize_two w).mono ?_
  rintro e _ ⟨rfl, rfl⟩
  go_wp2_with fail
  refine C.out.mono ?_
  rintro e w' ⟨hg, ⟨hno, hk, ⟨A, rfl, hB⟩, hr⟩ | ⟨hno, rfl, hr⟩⟩
  · obtain ⟨ad, rfl, hc⟩ := hB.cell 0 (by simp; omega)
    obtain ⟨_, e1, hd⟩ := hB.cell 1 (by simp; omega)
    cases e1
    rw [add_succ] at hd
    simp only [List.getElem_take, add_zero, Nat.zero_add] at hc hd
    have hv : byteAt l 0 = ((l[0]'(by omega)).toNat : Int) := by unfold byteAt; simp [List.getElem?_eq_getElem (show 0 < l.length by omega)]
    have hv1 : byteAt l 1 = ((l[1]'(by omega)).toNat : Int) := by unfold byteAt; simp [List.getElem?_eq_getElem (show 1 < l.length by omega)]
    have hl : ((l[0]'(by omega)).toNat : Int) < 256 := by have := (l[0]'(by omega)).toNat_lt; omega
    have hl1 : ((l[1]'(by omega)).toNat : Int) < 256 := by have := (l[1]'(by omega)).toNat_lt; omega
    rw [← hv] at hc hl
    rw [← hv1] at hd hl1
    clear hv hv1
    have hz : 0 ≤ byteAt l 0 := by unfold byteAt; omega
    have hz1 : 0 ≤ byteAt l 1 := by unfold byteAt; omega
    generalize byteAt l 0 = y at *
    generalize byteAt l 1 = z at *
    have HH := Lib.hid (And.intro hg (And.intro hno (And.intro hk hr)))
    clear hg hno hk hr hB
    have HO := Lib.hid (or_zero (k := .u64) rfl (y := y) (by omega) (IntWalk.u64_in _ (by omega)))
    have HP := Lib.hid (or_bytes (k := .u64) rfl (a := y) (b := z) (by omega) (by omega) (IntWalk.u64_in _ (by omega)))
    go_wp2
    go_loopg [8, 26] 2 (fun n v8 v26 wr => wr = w' ∧ ((n = 2 ∧ v8 = .int .u64 0 ∧ v26 = .int .i64 0) ∨ (n = 1 ∧ v8 = .int .u64 y ∧ v26 = .int .i64 1) ∨ (n = 0 ∧ v8 = .int .u64 (y + z * 256) ∧ v26 = .int .i64 2)))
    case atStart => exact ⟨rfl, .inl ⟨rfl, rfl, rfl⟩⟩
    case round =>
      obtain ⟨rfl, ⟨rfl, rfl, rfl⟩ | ⟨rfl, rfl, rfl⟩ | ⟨rfl, rfl, rfl⟩⟩ := hrel
      · go_wp2
        go_roundg 1
        case measure => omega
        case rel => exact ⟨rfl, .inr (.inl ⟨rfl, by rw [HO.out], rfl⟩)⟩
      · go_wp2
        go_roundg 0
        case measure => omega
        case rel => exact ⟨rfl, .inr (.inr ⟨rfl, by rw [HP.out], rfl⟩)⟩
      · go_wp2
        go_ret2
        exact ⟨HH.out.1, .inl ⟨HH.out.2.1, HH.out.2.2.1, rfl, HH.out.2.2.2⟩⟩
  · have HH := Lib.hid (And.intro hg (And.intro hno hr))
    clear hg hno hr
    go_wp2
    go_loopg [8, 26] 0 (fun n v8 v26 wr => wr = w' ∧ v8 = .int .u64 0 ∧ v26 = .int .i64 0)
    case atStart => exact ⟨rfl, rfl, rfl⟩
    case round =>
      obtain ⟨rfl, rfl, rfl⟩ := hrel
      go_wp2
      go_ret2
      exact ⟨HH.out.1, .inr ⟨HH.out.2.1, rfl, HH.out.2.2⟩⟩

/-! ### New and Left -/
def leftOf (l : List UInt8) (no : Bool) : Int := if no then 0 else l.length
theorem left_any (b : Nat) (l : List UInt8) (no : Bool) (w : World) (h : Rd w b l no) : Calls Try.prog 28 #[.pointer (some ⟨b, 0, none⟩)] w fun e w' => e = .returned (.int .i64 (leftOf l no)) ∧ w = w' := by
  obtain ⟨A, c, hr, hc, hm, hB, hn⟩ := h.at'
  obtain ⟨c0, c1, c2⟩ := hr.cells
  clear hr hB hn h
  cases no
  · go_enter Try.func28, Try.ntmps28
    go_wp2
    go_ret
    exact ⟨rfl, rfl⟩
  · go_enter Try.func28, Try.ntmps28
    go_wp2
    go_ret
    exact ⟨rfl, rfl⟩
theorem own_slice2 {w : World} {base n : Nat} {e : TypeId} {size : Nat} {v : Value} {xs : List Value} (h : w.ownsRow base e size v n xs) : ∃ A c, v = .slice A n c ∧ Src w A xs ∧ n ≤ c ∧ c ≤ maxLen ∧ ∀ ad, A = some ad → ad.block < w.heap.size := by
  have hlt := h.lt
  rcases h.2 with ⟨rfl, rfl⟩ | ⟨g, cap, cur, rfl, _, _, h1, h2, _⟩
  · refine ⟨none, 0, rfl, fun j u hu => ?_, Nat.le_refl _, by simp [maxLen], fun ad h => by cases h⟩
    have : xs = [] := List.eq_nil_of_length_eq_zero (by simpa using h.1)
    subst this; simp at hu
  · exact ⟨_, cap, rfl, fun j u hu => ⟨_, rfl, h.cells rfl j u hu⟩, h1, h2, fun ad he => by cases he; exact (hlt g rfl).2⟩
def NewEnd (l : List UInt8) (w : World) (e : Ending) (w' : World) : Prop := ∃ b, w.heap.size ≤ b ∧ e = .returned (.pointer (some ⟨b, 0, none⟩)) ∧ Rd w' b l false ∧ Below w.heap.size w w'
set_option maxHeartbeats 400000 in
theorem new_any (l : List UInt8) (n : Nat) (hn : l.length = n) (A : Option Addr) (c : Nat) (w : World) (hA : Bs w A l) : Calls Try.prog 24 #[.slice A n c] w (NewEnd l w) := by
  subst hn
  have own0 := OwnB.nil w w.heap.size
  have hsm := hA.small
  have src := hA.src
  have hlt : w.heap.size ≤ w.heap.size := Nat.le_refl _
  go_enter Try.func24, Try.ntmps24
  go_wp2_with (at_builtin; refine wpList_app rfl rfl Try.underlying24 info_u8 rfl (by omega) rfl own0 rfl (by simp [vals]) src (vals_one _) (by simp; omega) (by simp; omega) hlt ?_; intro v1 w1 happ; obtain ⟨P, c1, hv1, hS, hc1, hc2, hP⟩ := own_slice2 happ.own; subst hv1)
  go_ret
  refine ⟨w1.heap.size, happ.grown.size, rfl, ⟨P, c1, ?_, by omega, by unfold maxLen at hc2; omega, ?_, fun ad he => by have := hP ad he; omega⟩, ?_⟩
  · unfold RdIn World.alloc
    simp
  · exact (Bs.of_src hsm hS).below (below_alloc1 _ _)
  · exact (happ.below own0 (Below.refl _ _) hlt).alloc happ.grown.size _
end Go.Proofs.Ytkianpkkligljaa
