/- The program's reader: Row. -/
import Derived.Test.YtkianpkkligljaaEntry
import Derived.Maps.RangeWalk
namespace Go.Proofs.Ytkianpkkligljaa
open Go.RowKit

theorem Bs.free {w w' : World} {A : Option Addr} {l : List UInt8} (h : Bs w A l) (hg : w.grownBy w' none) : Bs w' A l :=
  ⟨h.small, fun j hj => by
    obtain ⟨ad, e, hc⟩ := h.cell j hj
    exact ⟨ad, e, (hg.cell_far _ (World.block_lt_of_cell? w _ hc) (by simp)).trans hc⟩⟩
theorem Rd.free {w w' : World} {b : Nat} {l : List UInt8} {no : Bool} (h : Rd w b l no) (hg : w.grownBy w' none) : Rd w' b l no := by
  obtain ⟨A, c, hr, hc, hm, hB, hn⟩ := h.at'
  have hlt : b < w.heap.size := World.block_lt_of_cell? w _ hr.cells.1
  exact ⟨A, c, (hg.block b hlt (by simp)).trans hr, hc, hm, hB.free hg, hn⟩
def RowTakeK (b : Nat) (l : List UInt8) (no : Bool) (k : Nat) (w : World) (e : Ending) (w' : World) : Prop :=
  w.grownBy w' (some b) ∧ (((no = true ∨ l.length < 1 + k) ∧ (∃ A c, e = .returned (.tuple #[.slice A 0 c, .int .i64 4])) ∧ ∃ l', Rd w' b l' true) ∨
    (no = false ∧ 1 + k ≤ l.length ∧ (∃ A c, e = .returned (.tuple #[.slice A k c, .int .i64 0]) ∧ Bs w' A ((l.drop 1).take k)) ∧ Rd w' b ((l.drop 1).drop k) false))
def RowTake (b : Nat) (l : List UInt8) (no : Bool) (w : World) (e : Ending) (w' : World) : Prop := RowTakeK b l no (byteAt l 0).toNat w e w'

set_option maxHeartbeats 1000000 in
theorem rdRow_any (b : Nat) (l : List UInt8) (no : Bool) (w : World) (h : Rd w b l no) : Calls Try.prog 37 #[.pointer (some ⟨b, 0, none⟩)] w (RowTake b l no w) := by
  have T := take_one b l no w h
  obtain ⟨k, hk⟩ : ∃ k : Nat, byteAt l 0 = k := ⟨(l.getD 0 0).toNat, rfl⟩
  have hlt := (byte_lt l 0).2
  unfold RowTake
  rw [hk] at T hlt ⊢
  rw [Int.toNat_natCast]
  have HT := Lib.hid T
  clear T h
  have q : IntKind.i64.wrap (k : Int) = (k : Int) := IntWalk.i64_in _ (by omega)
  go_enter Try.func37, Try.ntmps37
  go_wp2_with fail
  refine HT.out.mono ?_
  rintro e w1 ⟨hg, ⟨rfl, hl, rfl, hr⟩ | ⟨hs, rfl, hr⟩⟩
  · go_wp2_with fail
    refine (cut_any b (l.drop 1) false k w1 hr).mono ?_
    rintro e w2 ⟨hg2, ⟨_, hl2, ⟨A, rfl, hB⟩, hr2⟩ | ⟨hs, rfl, hr2⟩⟩
    · have own0 := OwnB.nil w2 w2.heap.size
      have hsm := hB.small
      have src := hB.src
      have hln : (List.take k (l.drop 1)).length = k := by simp at hl2 ⊢; omega
      have hlt2 : w2.heap.size ≤ w2.heap.size := Nat.le_refl _
      have HG := Lib.hid (And.intro (hg.trans hg2) (And.intro hl (And.intro hl2 hr2)))
      have HL : Hid (∃ l2, l2 = List.take k (l.drop 1)) := ⟨_, rfl⟩
      clear hg hg2 hl hl2 hr2 hr hB HT hk
      obtain ⟨l2, h2⟩ : ∃ l2, List.take k (l.drop 1) = l2 := ⟨_, rfl⟩
      rw [h2] at src hsm hln
      have H2 := Lib.hid h2
      clear h2 HL
      go_wp2_with (at_builtin; refine wpList_app rfl rfl Try.underlying24 info_u8 rfl (by omega) rfl own0 rfl (by simp [vals]; try omega) src (vals_one _) (by simp; try omega) (by simp; try omega) hlt2 ?_; intro v1 w3 happ; obtain ⟨P, c1, hv1, hS, hc1, hc2, hP⟩ := own_slice2 happ.own; subst hv1)
      go_ret2
      have hf : w2.grownBy w3 none := happ.grown
      refine ⟨HG.out.1.trans (hf.but _), .inr ⟨rfl, by have a1 := HG.out.2.2.1; have a2 := HG.out.2.1; rw [List.length_drop] at a1; omega, ⟨P, c1, ?_, ?_⟩, HG.out.2.2.2.free hf⟩⟩
      · first | rfl | (simp; done)
      · rw [H2.out]; exact Bs.of_src hsm hS
    · have own0 := OwnB.nil w2 w2.heap.size
      have src : Src w2 none [] := fun j u hu => by simp at hu
      have hlt2 : w2.heap.size ≤ w2.heap.size := Nat.le_refl _
      have HG := Lib.hid (And.intro (hg.trans hg2) (And.intro hl (And.intro hs hr2)))
      clear hg hg2 hl hs hr2 hr HT hk
      go_wp2_with (at_builtin; refine wpList_app rfl rfl Try.underlying24 info_u8 rfl (by omega) rfl own0 rfl (by simp) src (by simp) (by simp; try omega) (by simp; try omega) hlt2 ?_; intro v1 w3 happ; obtain ⟨P, c1, hv1, hS, hc1, hc2, hP⟩ := own_slice2 happ.own; subst hv1)
      go_ret2
      have hf : w2.grownBy w3 none := happ.grown
      refine ⟨HG.out.1.trans (hf.but _), .inl ⟨.inr ?_, ⟨P, c1, ?_⟩, _, HG.out.2.2.2.free hf⟩⟩
      · rcases HG.out.2.2.1 with h | h
        · cases h
        · simp at h; omega
      · first | rfl | (simp; done)
  · have HG := Lib.hid (And.intro hg (And.intro hs hr))
    clear hg hs hr HT
    go_wp2
    go_ret2
    exact ⟨HG.out.1, .inl ⟨by rcases HG.out.2.1 with h | h; exact .inl h; exact .inr (by omega), ⟨none, 0, rfl⟩, _, HG.out.2.2⟩⟩
end Go.Proofs.Ytkianpkkligljaa
