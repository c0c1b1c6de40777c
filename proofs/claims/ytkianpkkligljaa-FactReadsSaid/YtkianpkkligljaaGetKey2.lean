/- The program's GetKey, where bytes are left. -/
import Derived.Test.YtkianpkkligljaaGetKey
namespace Go.Proofs.Ytkianpkkligljaa
open Go.RowKit

theorem GotEnd.of {b : Nat} {g g' : Got} (h : g = g') {w w' : World} {e : Ending} (hx : GotEnd b g' w e w') : GotEnd b g w e w' := h ▸ hx
set_option maxRecDepth 20000 in
set_option maxHeartbeats 1000000 in
theorem getKey_two (b : Nat) (l : List UInt8) (w : World) (h : Rd w b l false) (hs : l.length = 2) : Calls Try.prog 26 #[.pointer (some ⟨b, 0, none⟩)] w (GotEnd b (.no 4 none) w) := by
  have hlt := h.lt
  have h0 := h.free (grown_of_below (below_alloc1 w (.cells #[.int .i64 0, .int .u8 0, .string ⟨#[]⟩, .int .i64 0] 23)))
  have hk0 : KeyIn (w.alloc (.cells #[.int .i64 0, .int .u8 0, .string ⟨#[]⟩, .int .i64 0] 23)) w.heap.size 0 0 ⟨#[]⟩ 0 := keyBox w 0 0 ⟨#[]⟩ 0
  have hg0 : w.grownBy (w.alloc (.cells #[.int .i64 0, .int .u8 0, .string ⟨#[]⟩, .int .i64 0] 23)) (some b) := grown_of_below (below_alloc1 _ _)
  have T := Lib.hid (take_two b l false _ h0)
  have hb0 := byte_lt l 0
  have hb1 := byte_lt l 1
  go_enter Try.func26, Try.ntmps26
  go_wp2_with fail
  refine T.out.mono ?_
  rintro e w1 ⟨hg, ⟨_, hl, rfl, hr⟩ | ⟨hs', rfl, hr⟩⟩
  · replace hg0 := hg0.trans hg
    replace hk0 := hk0.far hg (by omega)
    clear hg T h0
    generalize hy : byteAt l 0 + byteAt l 1 * 256 = y at *
    have q1 : IntKind.i64.wrap y = y := IntWalk.i64_in _ (by omega)
    clear hb0 hb1 hy
    have hd : (l.drop 2).length = 0 := by simp; omega
    generalize l.drop 2 = l2 at *
    go_wp2_with fail
    refine (take_one b l2 false w1 hr).mono ?_
    rintro e w2 ⟨hg, ⟨_, hl, _⟩ | ⟨_, rfl, hr2⟩⟩
    · exfalso; omega
    · replace hg0 := hg0.trans hg
      replace hk0 := hk0.far hg (by omega)
      clear hg hr
      have hz := below_alloc1 w2 (.cells #[.int .i64 y, .int .u8 0, .string ⟨#[]⟩, .int .i64 0] 23)
      replace hg0 := hg0.trans (grown_of_below hz)
      replace hk0 := hk0.free (grown_of_below hz)
      replace hr2 := hr2.free (grown_of_below hz)
      clear hz
      obtain ⟨⟨a0, a1, a2, a3⟩, f0, f1, f2, f3⟩ := hk0.cells
      obtain ⟨p0, p1, p2, p3⟩ := putBox_cells hk0 0 0 ⟨#[]⟩ 0
      have HG := Lib.hid (And.intro hg0 (And.intro hr2 hk0))
      unfold putBox at p3
      clear hg0 hr2 hk0
      go_wp2
      (try simp only [Exit.inBlock, Exit.then])
      refine bodyPost_ret (by simp [results, Try.results26, go_sem, p0, p1, p2, p3]; try rfl) rfl ?_
      have hp := putBox_grown (w2.alloc (.cells #[.int .i64 y, .int .u8 0, .string ⟨#[]⟩, .int .i64 0] 23)) w.heap.size 0 0 ⟨#[]⟩ 0
      exact ⟨rfl, HG.out.1.andThen hp (fun j hj => by cases hj; exact .inl (Nat.le_refl _)), _, HG.out.2.1.far hp hlt⟩
  · exfalso; rcases hs' with h | h
    · cases h
    · omega

set_option maxRecDepth 20000 in
set_option maxHeartbeats 1000000 in
theorem getKey_other (b : Nat) (l : List UInt8) (w : World) (h : Rd w b l false) (hs : 3 ≤ l.length) (hu2 : byteAt l 2 ≠ 2) (hu3 : byteAt l 2 ≠ 3) : Calls Try.prog 26 #[.pointer (some ⟨b, 0, none⟩)] w
    (GotEnd b (gotFin (byteAt l 0 + byteAt l 1 * 256) (byteAt l 2) ⟨#[]⟩ 0 (l.drop 3)) w) := by
  have hlt := h.lt
  have h0 := h.free (grown_of_below (below_alloc1 w (.cells #[.int .i64 0, .int .u8 0, .string ⟨#[]⟩, .int .i64 0] 23)))
  have hk0 : KeyIn (w.alloc (.cells #[.int .i64 0, .int .u8 0, .string ⟨#[]⟩, .int .i64 0] 23)) w.heap.size 0 0 ⟨#[]⟩ 0 := keyBox w 0 0 ⟨#[]⟩ 0
  have hg0 : w.grownBy (w.alloc (.cells #[.int .i64 0, .int .u8 0, .string ⟨#[]⟩, .int .i64 0] 23)) (some b) := grown_of_below (below_alloc1 _ _)
  have T := Lib.hid (take_two b l false _ h0)
  have hb0 := byte_lt l 0
  have hb1 := byte_lt l 1
  have hb2 := byte_lt l 2
  have hb2' : byteAt (l.drop 2) 0 = byteAt l 2 := by unfold byteAt; simp
  have hd3 : (l.drop 2).drop 1 = l.drop 3 := by simp
  have hd : 1 ≤ (l.drop 2).length := by simp; omega
  go_enter Try.func26, Try.ntmps26
  go_wp2_with fail
  refine T.out.mono ?_
  rintro e w1 ⟨hg, ⟨_, hl, rfl, hr⟩ | ⟨hs', rfl, hr⟩⟩
  · replace hg0 := hg0.trans hg
    replace hk0 := hk0.far hg (by omega)
    clear hg T h0
    have T2 := take_one b (l.drop 2) false w1 hr
    unfold TakeEnd at T2
    rw [hb2', hd3] at T2
    have HT2 := Lib.hid T2
    clear T2
    generalize l.drop 3 = l3 at *
    generalize hy : byteAt l 0 + byteAt l 1 * 256 = y at *
    generalize byteAt l 2 = u at *
    have q1 : IntKind.i64.wrap y = y := IntWalk.i64_in _ (by omega)
    have q2 : IntKind.u8.wrap u = u := IntWalk.u8_in _ (by omega)
    have q3 : (u == 2) = false := by simp; omega
    have q4 : (u == 3) = false := by simp; omega
    clear hb0 hb1 hb2 hy hu2 hu3 hb2'
    have M := Lib.hid (fun w => mayKey_any y u ⟨#[]⟩ 0 (by decide) w)
    have HF : Hid (∀ m, mayKey y u ⟨#[]⟩ 0 = m → gotFin y u ⟨#[]⟩ 0 l3 = if m then ⟨y, u, ⟨#[]⟩, 0, 0, some l3⟩ else .no 5 (some l3)) := fun m hm => by unfold gotFin; rw [hm]
    obtain ⟨m, hm⟩ : ∃ m, mayKey y u ⟨#[]⟩ 0 = m := ⟨_, rfl⟩
    rw [hm] at M
    replace HF := Lib.hid (HF.out m hm)
    clear hm
    go_wp2_with fail
    refine HT2.out.mono ?_
    rintro e w2 ⟨hg, ⟨_, hl, rfl, hr2⟩ | ⟨hx, rfl, hr2⟩⟩
    · replace hg0 := hg0.trans hg
      replace hk0 := hk0.far hg (by omega)
      clear hg hr
      have hz := below_alloc1 w2 (.cells #[.int .i64 y, .int .u8 u, .string ⟨#[]⟩, .int .i64 0] 23)
      have hq0 : KeyIn (w2.alloc (.cells #[.int .i64 y, .int .u8 u, .string ⟨#[]⟩, .int .i64 0] 23)) w2.heap.size y u ⟨#[]⟩ 0 := keyBox w2 y u ⟨#[]⟩ 0
      replace hg0 := hg0.trans (grown_of_below hz)
      replace hk0 := hk0.free (grown_of_below hz)
      replace hr2 := hr2.free (grown_of_below hz)
      clear hz
      have cq := hq0.cells.1
      obtain ⟨c0, c1, c2, c3⟩ := cq
      go_wp2_with fail
      refine (M.out _).mono ?_
      rintro e w3 ⟨rfl, hb⟩
      clear c0 c1 c2 c3
      replace hg0 := hg0.trans (grown_of_below hb)
      replace hk0 := hk0.free (grown_of_below hb)
      replace hq0 := hq0.free (grown_of_below hb)
      replace hr2 := hr2.free (grown_of_below hb)
      clear hb
      obtain ⟨⟨a0, a1, a2, a3⟩, f0, f1, f2, f3⟩ := hk0.cells
      obtain ⟨c0, c1, c2, c3⟩ := hq0.cells.1
      have HG := Lib.hid (And.intro hg0 (And.intro hr2 hk0))
      clear hg0 hr2 hq0
      cases m
      · obtain ⟨p0, p1, p2, p3⟩ := putBox_cells hk0 0 0 ⟨#[]⟩ 0
        unfold putBox at p3
        clear hk0
        go_wp2
        (try simp only [Exit.inBlock, Exit.then])
        refine bodyPost_ret (by simp [results, Try.results26, go_sem, p0, p1, p2, p3]; try rfl) rfl ?_
        have hp := putBox_grown w3 w.heap.size 0 0 ⟨#[]⟩ 0
        exact GotEnd.of HF.out ⟨rfl, HG.out.1.andThen hp (fun j hj => by cases hj; exact .inl (Nat.le_refl _)), HG.out.2.1.far hp hlt⟩
      · obtain ⟨p0, p1, p2, p3⟩ := putBox_cells hk0 y u ⟨#[]⟩ 0
        unfold putBox at p3
        clear hk0
        go_wp2
        (try simp only [Exit.inBlock, Exit.then])
        refine bodyPost_ret (by simp [results, Try.results26, go_sem, p0, p1, p2, p3]; try rfl) rfl ?_
        have hp := putBox_grown w3 w.heap.size y u ⟨#[]⟩ 0
        exact GotEnd.of HF.out ⟨rfl, HG.out.1.andThen hp (fun j hj => by cases hj; exact .inl (Nat.le_refl _)), HG.out.2.1.far hp hlt⟩
    · exfalso; rcases hx with h | h
      · cases h
      · omega
  · exfalso; rcases hs' with h | h
    · cases h
    · omega
end Go.Proofs.Ytkianpkkligljaa
