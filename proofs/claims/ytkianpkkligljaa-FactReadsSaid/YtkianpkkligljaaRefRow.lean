/- The document's reader: Row. -/
import Derived.Test.YtkianpkkligljaaRefReader
namespace Go.Proofs.Ytkianpkkligljaa
open Go.RowKit
set_option linter.unusedVariables false

def RfRowK (b : Nat) (l : List UInt8) (no : Bool) (k : Nat) (w : World) (e : Ending) (w' : World) : Prop :=
  w.grownBy w' (some b) ∧ (((no = true ∨ l.length < 1 + k) ∧ (∃ A c, e = .returned (.tuple #[.slice A 0 c, .int .i64 4])) ∧ ∃ l', Rf w' b l' true) ∨
    (no = false ∧ 1 + k ≤ l.length ∧ (∃ A c, e = .returned (.tuple #[.slice A k c, .int .i64 0]) ∧ Bs w' A ((l.drop 1).take k)) ∧ Rf w' b ((l.drop 1).drop k) false))

theorem drew_grown (w : World) (n : Nat) : w.grownBy (w.drewN n) none := grown_of_below (below_drewN (Below.refl _ _) n)
theorem Rf.gone {w : World} {b : Nat} {l : List UInt8} {no : Bool} (h : Rf w b l no) (n : Nat) : w.grownBy ((w.drewN n).setCell ⟨b, 1, none⟩ (.bool true)) (some b) ∧ Rf ((w.drewN n).setCell ⟨b, 1, none⟩ (.bool true)) b l true :=
  ⟨((drew_grown w n).but _).trans (grown_setCell _ ⟨b, 1, none⟩ _), (h.free (drew_grown w n)).shut⟩
set_option maxHeartbeats 1000000 in
theorem rfRow_no (b : Nat) (l : List UInt8) (k : Nat) (w : World) (h : Rf w b l true) : Calls Try.prog 39 #[.pointer (some ⟨b, 0, none⟩)] w (RfRowK b l true k w) := by
  have HS := Lib.hid h
  obtain ⟨A, c, hr, hc, hm, hB, hn⟩ := h.at'
  obtain ⟨c0, c1⟩ := hr.cells
  have f1 := hr.thaw 1
  clear hr hB hn h hc hm
  go_enter Try.func39, Try.ntmps39
  go_wp2
  go_quiet (fail)
  go_wp2
  go_ret2
  obtain ⟨hg, hf⟩ := HS.out.gone nq
  exact ⟨hg, .inl ⟨.inl rfl, ⟨none, 0, rfl⟩, l, hf⟩⟩
set_option maxHeartbeats 1000000 in
theorem rfRow_empty (b : Nat) (l : List UInt8) (k : Nat) (w : World) (h : Rf w b l false) (hl : l.length < 1) : Calls Try.prog 39 #[.pointer (some ⟨b, 0, none⟩)] w (RfRowK b l false k w) := by
  have HS := Lib.hid h
  have HK := Lib.hid hl
  obtain ⟨A, c, hr, hc, hm, hB, hn⟩ := h.at'
  obtain ⟨c0, c1⟩ := hr.cells
  have f1 := hr.thaw 1
  have d : decide ((l.length : Int) < 1) = true := by simp; omega
  clear hr hB hn h hc hm hl
  go_enter Try.func39, Try.ntmps39
  go_wp2
  go_quiet (fail)
  go_wp2
  go_ret2
  obtain ⟨hg, hf⟩ := HS.out.gone nq
  exact ⟨hg, .inl ⟨.inr (by have := HK.out; omega), ⟨none, 0, rfl⟩, l, hf⟩⟩
set_option maxHeartbeats 1000000 in
theorem rfRow_short (b : Nat) (l : List UInt8) (k : Nat) (hk : byteAt l 0 = k) (w : World) (h : Rf w b l false) (hl : 1 ≤ l.length) (hs : l.length < 1 + k) : Calls Try.prog 39 #[.pointer (some ⟨b, 0, none⟩)] w (RfRowK b l false k w) := by
  have HS := Lib.hid h
  have HK := Lib.hid hs
  obtain ⟨A, c, hr, hc, hm, hB, hn⟩ := h.at'
  obtain ⟨c0, c1⟩ := hr.cells
  have f1 := hr.thaw 1
  have d : decide ((l.length : Int) < 1) = false := by simp; omega
  have d2 : decide ((l.length : Int) - 1 < (k : Int)) = true := by simp; omega
  obtain ⟨ad, rfl, hd⟩ := hB.cell 0 (by omega)
  simp only [add_zero] at hd
  have hv : byteAt l 0 = ((l[0]'(by omega)).toNat : Int) := by unfold byteAt; simp [List.getElem?_eq_getElem (show 0 < l.length by omega)]
  rw [← hv, hk] at hd
  have i0 : (0 : Int) < (l.length : Int) := by omega
  have hsm := hB.small
  have hk255 := (byte_lt l 0).2
  rw [hk] at hk255
  have q1 : IntKind.i64.wrap ((l.length : Int) - 1) = (l.length : Int) - 1 := IntWalk.i64_in _ (by omega)
  have q2 : IntKind.i64.wrap (k : Int) = (k : Int) := IntWalk.i64_in _ (by omega)
  clear hr hB hn h hv hs hk
  go_enter Try.func39, Try.ntmps39
  go_wp2
  go_quiet (fail)
  go_wp2
  go_ret2
  obtain ⟨hg, hf⟩ := HS.out.gone nq
  exact ⟨hg, .inl ⟨.inr HK.out, ⟨none, 0, rfl⟩, l, hf⟩⟩
theorem RfIn.lt {w : World} {b : Nat} {A : Option Addr} {n c : Nat} {no : Bool} (h : RfIn w b A n c no) : b < w.heap.size := World.block_lt_of_cell? w _ h.cells.1
theorem RfIn.free {w w' : World} {b : Nat} {A : Option Addr} {n c : Nat} {no : Bool} (h : RfIn w b A n c no) (hg : w.grownBy w' none) : RfIn w' b A n c no := (hg.block b h.lt (by simp)).trans h
theorem drop_drop1 (l : List UInt8) (k : Nat) : (l.drop 1).drop k = l.drop (1 + k) := by rw [List.drop_drop]
theorem row_some_end {b : Nat} {l l2 : List UInt8} {k nq c2 : Nat} {w w3 w4 : World} {A P : Option Addr} {e : Ending} (hB : Bs w A l) (hn : ∀ ad, A = some ad → ad.block < b) (hlt : b < w.heap.size)
    (hf : (w.drewN nq).grownBy w3 none) (hS : Src w3 P (vals [] ++ vals l2)) (hP : ∀ ad, P = some ad → (w.drewN nq).heap.size ≤ ad.block) (hsm : l2.length ≤ 140737488355328) (h2 : List.take k (l.drop 1) = l2) (hk : 1 + k ≤ l.length)
    (he : e = .returned (.tuple #[.slice P k c2, .int .i64 0])) (h4 : w3.grownBy w4 (some b) ∧ Rf w4 b (l.drop (1 + k)) false) : RfRowK b l false k w e w4 := by
  refine ⟨(((drew_grown w nq).but _).trans (hf.but _)).trans h4.1, .inr ⟨rfl, hk, ⟨P, c2, he, ?_⟩, ?_⟩⟩
  · have hb3 : Bs w3 P l2 := Bs.of_src hsm hS
    have : Bs w4 P l2 := hb3.grown h4.1 (fun ad e => by
      have h5 := hP ad e
      have h6 : w.heap.size ≤ ad.block := h5
      omega)
    rw [h2]; exact this
  · rw [drop_drop1]; exact h4.2
set_option maxRecDepth 20000 in
set_option maxHeartbeats 2000000 in
theorem rfRow_some (b : Nat) (l : List UInt8) (k : Nat) (hk : byteAt l 0 = k) (w : World) (h : Rf w b l false) (hs : 1 + k ≤ l.length) : Calls Try.prog 39 #[.pointer (some ⟨b, 0, none⟩)] w (RfRowK b l false k w) := by
  have HK := Lib.hid hs
  obtain ⟨A, c, hr, hc, hm, hB, hn⟩ := h.at'
  obtain ⟨c0, c1⟩ := hr.cells
  have d : decide ((l.length : Int) < 1) = false := by simp; omega
  have d2 : decide ((l.length : Int) - 1 < (k : Int)) = false := by simp; omega
  obtain ⟨ad, rfl, hd⟩ := hB.cell 0 (by omega)
  simp only [add_zero] at hd
  have hv : byteAt l 0 = ((l[0]'(by omega)).toNat : Int) := by unfold byteAt; simp [List.getElem?_eq_getElem (show 0 < l.length by omega)]
  rw [← hv, hk] at hd
  have i0 : (0 : Int) < (l.length : Int) := by omega
  have hsm := hB.small
  have hk255 := (byte_lt l 0).2
  rw [hk] at hk255
  have q1 : IntKind.i64.wrap ((l.length : Int) - 1) = (l.length : Int) - 1 := IntWalk.i64_in _ (by omega)
  have q2 : IntKind.i64.wrap (k : Int) = (k : Int) := IntWalk.i64_in _ (by omega)
  have HB := Lib.hid (And.intro hB (And.intro hn hr))
  have s1 : (1 : Int) + (k : Int) ≤ (c : Int) := by omega
  have hln : (List.take k (l.drop 1)).length = k := by simp; omega
  have hsm2 : (List.take k (l.drop 1)).length ≤ 140737488355328 := by omega
  obtain ⟨l2, h2⟩ : ∃ l2, List.take k (l.drop 1) = l2 := ⟨_, rfl⟩
  have H2 := Lib.hid h2
  rw [h2] at hln hsm2
  have src1 : Src w (some (ad.add 1)) (vals l2) := by rw [← h2]; exact ((hB.drop 1).take k).src
  have HL : Hid (l2.length = k) := Lib.hid hln
  by_cases hc1 : c = 1
  · have hk0 : k = 0 := by omega
    subst hk0
    have hl2 : l2 = [] := List.eq_nil_of_length_eq_zero hln
    subst hl2
    have hc1' : 1 = c := hc1.symm
    clear hr hB hn h hv hk h2 hln hc1 src1
    subst hc1'
    go_enter Try.func39, Try.ntmps39
    go_wp2
    go_quiet (fail)
    have own0 := OwnB.nil (w.drewN nq) (w.drewN nq).heap.size
    have hlt2 : (w.drewN nq).heap.size ≤ (w.drewN nq).heap.size := Nat.le_refl _
    have src : Src (w.drewN nq) (some ad) (vals []) := fun j u hu => by simp [vals] at hu
    go_wp2_with (at_builtin; refine wpList_app rfl rfl Try.underlying24 info_u8 rfl (by omega) rfl own0 rfl (by have := HL.out; simp [vals]; try omega) src (vals_one _) (by have := HL.out; simp; try omega) (by have := HL.out; simp; try omega) hlt2 ?_; intro v1 w3 happ; obtain ⟨P, c2, hv1, hS, hc1, hc2, hP⟩ := own_slice2 happ.own; subst hv1; have hf : (w.drewN nq).grownBy w3 none := happ.grown; have hPB : ∀ ad, P = some ad → (w.drewN nq).heap.size ≤ ad.block := fun ad e => own_base happ.own _ (by rw [e]; rfl); have hr3 := (HB.out.2.2.free (drew_grown w nq)).free hf; obtain ⟨d0, d1⟩ := hr3.cells; have f3 := hr3.thaw 0; have HF := Lib.hid (And.intro hf (And.intro hr3 (And.intro hS hPB))); clear c0 c1 happ hf hr3 hS hP hPB src own0 hc1 hc2 hd hlt2)
    go_ret2
    exact row_some_end HB.out.1 HB.out.2.1 (HB.out.2.2.lt) HF.out.1 HF.out.2.2.1 HF.out.2.2.2 hsm2 H2.out HK.out rfl (by have h5 := Rf.next0 HF.out.2.1 ((HB.out.1.free (drew_grown w nq)).free HF.out.1) HB.out.2.1 HK.out hc rfl; rw [show l.length - (1 + 0) = 0 by have := HK.out; omega] at h5; exact h5)
  · have hc1' : 1 ≠ c := fun h => hc1 h.symm
    clear hr hB hn h hv hk h2 hln
    go_enter Try.func39, Try.ntmps39
    go_wp2
    go_quiet (fail)
    have own0 := OwnB.nil (w.drewN nq) (w.drewN nq).heap.size
    have hlt2 : (w.drewN nq).heap.size ≤ (w.drewN nq).heap.size := Nat.le_refl _
    have src : Src (w.drewN nq) (some ⟨ad.block, ad.off + 1, none⟩) (vals l2) := src1.below (below_drewN (Below.refl _ _) nq)
    clear src1
    go_wp2_with (at_builtin; refine wpList_app rfl rfl Try.underlying24 info_u8 rfl (by omega) rfl own0 rfl (by have := HL.out; simp [vals]; try omega) src (vals_one _) (by have := HL.out; simp; try omega) (by have := HL.out; simp; try omega) hlt2 ?_; intro v1 w3 happ; obtain ⟨P, c2, hv1, hS, hc1, hc2, hP⟩ := own_slice2 happ.own; subst hv1; have hf : (w.drewN nq).grownBy w3 none := happ.grown; have hPB : ∀ ad, P = some ad → (w.drewN nq).heap.size ≤ ad.block := fun ad e => own_base happ.own _ (by rw [e]; rfl); have hr3 := (HB.out.2.2.free (drew_grown w nq)).free hf; obtain ⟨d0, d1⟩ := hr3.cells; have f3 := hr3.thaw 0; have HF := Lib.hid (And.intro hf (And.intro hr3 (And.intro hS hPB))); clear c0 c1 happ hf hr3 hS hP hPB src own0 hc1 hc2 hd hlt2)
    all_goals go_ret2
    · exact row_some_end HB.out.1 HB.out.2.1 (HB.out.2.2.lt) HF.out.1 HF.out.2.2.1 HF.out.2.2.2 hsm2 H2.out HK.out rfl (Rf.next0 HF.out.2.1 ((HB.out.1.free (drew_grown w nq)).free HF.out.1) HB.out.2.1 HK.out hc (by assumption))
    · exact row_some_end HB.out.1 HB.out.2.1 (HB.out.2.2.lt) HF.out.1 HF.out.2.2.1 HF.out.2.2.2 hsm2 H2.out HK.out rfl (Rf.next HF.out.2.1 ((HB.out.1.free (drew_grown w nq)).free HF.out.1) HB.out.2.1 HK.out hc hm)
theorem rfRow_any (b : Nat) (l : List UInt8) (no : Bool) (w : World) (h : Rf w b l no) : Calls Try.prog 39 #[.pointer (some ⟨b, 0, none⟩)] w (RfRowK b l no (byteAt l 0).toNat w) := by
  obtain ⟨k, hk⟩ : ∃ k : Nat, byteAt l 0 = k := ⟨(l.getD 0 0).toNat, rfl⟩
  rw [hk, Int.toNat_natCast]
  cases no
  · by_cases h1 : l.length < 1
    · exact rfRow_empty b l k w h h1
    · by_cases h2 : l.length < 1 + k
      · exact rfRow_short b l k hk w h (by omega) h2
      · exact rfRow_some b l k hk w h (by omega)
  · exact rfRow_no b l k w h
end Go.Proofs.Ytkianpkkligljaa
