/- A key comes back of its bytes. Plain. -/
import Derived.Test.YteholhldejggcaaGetKey3
import Derived.Test.YteholhldejggcaaFactOrder0
namespace Go.Proofs.Yteholhldejggcaa
open Go.RowKit

theorem mk_empty {s : ByteArray} (h : s.toList = []) : s = ⟨#[]⟩ := by
  rw [Lib.toList_data] at h
  cases s with
  | mk d => simp at h; subst h; rfl
theorem mayKey_parts {i u c : Int} {s : ByteArray} (h : mayKey i u s c = true) : (u = 1 ∧ s = ⟨#[]⟩ ∧ c = 0) ∨ (u = 2 ∧ s.size ≤ 12 ∧ c = 0) ∨ (u = 3 ∧ s = ⟨#[]⟩ ∧ 0 ≤ c ∧ c < 8) := by
  have hw := (mayKey_what h).2
  unfold mayKey at h
  simp only [Bool.and_eq_true, decide_eq_true_eq] at h
  rcases hw with rfl | ⟨rfl, hn⟩ | ⟨rfl, hc⟩
  · have := h.2; simp at this; exact .inl ⟨rfl, mk_empty this.1, this.2⟩
  · have := h.2; simp at this; exact .inr (.inl ⟨rfl, nameB_size hn, this.2⟩)
  · have := h.2; simp at this; exact .inr (.inr ⟨rfl, mk_empty this.1.1, hc⟩)
theorem key_comes_back {i u c : Int} {s : ByteArray} (h : mayKey i u s c = true) (behind : List UInt8) : getK (some (keyBytes i u s c ++ behind)) = ⟨i, u, s, c, 0, some behind⟩ := by
  have hi := (mayKey_what h).1
  have hp := mayKey_parts h
  have b0 : ((lo i).toNat : Int) = i % 256 := lo_int (by omega)
  have b1 : ((Go.Proofs.Yteholhldejggcaa.hi i).toNat : Int) = i / 256 := hi_int (by omega) hi.2
  have hsum : ((lo i).toNat : Int) + ((Go.Proofs.Yteholhldejggcaa.hi i).toNat : Int) * 256 = i := by omega
  rcases hp with ⟨rfl, rfl, rfl⟩ | ⟨rfl, hn, rfl⟩ | ⟨rfl, rfl, hc0, hc8⟩
  · have hb : keyBytes i 1 ⟨#[]⟩ 0 ++ behind = lo i :: Go.Proofs.Yteholhldejggcaa.hi i :: 1 :: behind := by simp [keyBytes, keyTail]
    rw [hb]
    have e : getK (some (lo i :: Go.Proofs.Yteholhldejggcaa.hi i :: 1 :: behind)) = gotFin (((lo i).toNat : Int) + ((Go.Proofs.Yteholhldejggcaa.hi i).toNat : Int) * 256) 1 ⟨#[]⟩ 0 behind := by
      simp only [getK, byteAt, List.getD_cons_zero, List.getD_cons_succ, List.drop_succ_cons, List.drop_zero, List.length_cons]
      rw [if_neg (by omega), if_neg (by decide), if_neg (by decide)]
      rfl
    rw [e, hsum]; unfold gotFin; rw [if_pos h]
  · have hb : keyBytes i 2 s 0 ++ behind = lo i :: Go.Proofs.Yteholhldejggcaa.hi i :: 2 :: UInt8.ofNat s.size :: (s.data.toList ++ behind) := by simp [keyBytes, keyTail]
    rw [hb]
    have hz : (UInt8.ofNat s.size).toNat = s.size := by simp; omega
    have hl : s.data.toList.length = s.size := by simp
    have e : getK (some (lo i :: Go.Proofs.Yteholhldejggcaa.hi i :: 2 :: UInt8.ofNat s.size :: (s.data.toList ++ behind))) = gotFin (((lo i).toNat : Int) + ((Go.Proofs.Yteholhldejggcaa.hi i).toNat : Int) * 256) 2 ⟨((s.data.toList ++ behind).take s.size).toArray⟩ 0 ((s.data.toList ++ behind).drop s.size) := by
      have hlt : ¬ ((s.data.toList ++ behind).length + 1 < 1 + s.size) := by simp; omega
      simp only [getK, byteAt, List.getD_cons_zero, List.getD_cons_succ, List.drop_succ_cons, List.drop_zero, List.length_cons, hz]
      rw [if_neg (by omega), if_pos (by decide), Int.toNat_natCast, if_neg (by omega)]
    rw [e, hsum, ← hl, List.take_left, List.drop_left]
    have hs : (⟨s.data.toList.toArray⟩ : ByteArray) = s := by cases s; rfl
    rw [hs]; unfold gotFin; rw [if_pos h]
  · have hb : keyBytes i 3 ⟨#[]⟩ c ++ behind = lo i :: Go.Proofs.Yteholhldejggcaa.hi i :: 3 :: UInt8.ofNat c.toNat :: behind := by simp [keyBytes, keyTail]
    rw [hb]
    have hz : ((UInt8.ofNat c.toNat).toNat : Int) = c := by simp; omega
    have e : getK (some (lo i :: Go.Proofs.Yteholhldejggcaa.hi i :: 3 :: UInt8.ofNat c.toNat :: behind)) = gotFin (((lo i).toNat : Int) + ((Go.Proofs.Yteholhldejggcaa.hi i).toNat : Int) * 256) 3 ⟨#[]⟩ (((UInt8.ofNat c.toNat).toNat : Int)) behind := by
      simp only [getK, byteAt, List.getD_cons_zero, List.getD_cons_succ, List.drop_succ_cons, List.drop_zero, List.length_cons]
      rw [if_neg (by omega), if_neg (by decide), if_pos (by decide), if_neg (by omega)]
    rw [e, hsum, hz]; unfold gotFin; rw [if_pos h]

/-- Two keys have two rows of bytes. -/
theorem bytes_same {i u c : Int} {s : ByteArray} {i' u' c' : Int} {s' : ByteArray} (h : mayKey i u s c = true) (h' : mayKey i' u' s' c' = true) : (keyBytes i u s c == keyBytes i' u' s' c') = keyEq i u s c i' u' s' c' := by
  have e1 := key_comes_back h []
  have e2 := key_comes_back h' []
  rw [Bool.eq_iff_iff, beq_iff_eq]
  unfold keyEq
  rw [decide_eq_true_iff]
  constructor
  · intro e
    rw [e, e2] at e1
    injection e1 with a1 a2 a3 a4
    exact ⟨a1.symm, a2.symm, by rw [a3], a4.symm⟩
  · rintro ⟨rfl, rfl, hs, rfl⟩
    have : s = s' := by cases s; cases s'; simp at hs; rw [ByteArray.mk.injEq]; exact hs
    rw [this]
end Go.Proofs.Yteholhldejggcaa
