/- The document's GetKey. -/
import Derived.Test.YtkianpkkligljaaRefRow
import Derived.Test.YtkianpkkligljaaGetKey3
namespace Go.Proofs.Ytkianpkkligljaa
open Go.RowKit
set_option linter.unusedVariables false

/-- The document's reader's state. -/
def RfS (w : World) (b : Nat) : Option (List UInt8) → Prop
  | none => ∃ l, Rf w b l true
  | some l => Rf w b l false
def RfGot (b : Nat) (g : Got) (w : World) (e : Ending) (w' : World) : Prop :=
  e = .returned (.tuple #[.agg #[.int .i64 g.i, .int .u8 g.u, .string g.s, .int .i64 g.c], .int .i64 g.e]) ∧ w.grownBy w' (some b) ∧ RfS w' b g.left
theorem RfGot.of {b : Nat} {g g' : Got} (h : g = g') {w w' : World} {e : Ending} (hx : RfGot b g' w e w') : RfGot b g w e w' := h ▸ hx
set_option maxRecDepth 20000 in
set_option maxHeartbeats 1000000 in
theorem rfKey_refused (b : Nat) (l : List UInt8) (no : Bool) (w : World) (h : Rf w b l no) (hs : no = true ∨ l.length < 2) : Calls Try.prog 27 #[.pointer (some ⟨b, 0, none⟩)] w (RfGot b (.no 4 none) w) := by
  have hlt := h.lt
  have h0 := h.free (grown_of_below (below_alloc1 w (.cells #[.int .i64 0, .int .u8 0, .string ⟨#[]⟩, .int .i64 0] 23)))
  have hk0 : KeyIn (w.alloc (.cells #[.int .i64 0, .int .u8 0, .string ⟨#[]⟩, .int .i64 0] 23)) w.heap.size 0 0 ⟨#[]⟩ 0 := keyBox w 0 0 ⟨#[]⟩ 0
  have hg0 : w.grownBy (w.alloc (.cells #[.int .i64 0, .int .u8 0, .string ⟨#[]⟩, .int .i64 0] 23)) (some b) := grown_of_below (below_alloc1 _ _)
  have T := Lib.hid (rfTake_two b l no _ h0)
  go_enter Try.func27, Try.ntmps27
  go_wp2_with fail
  refine T.out.mono ?_
  rintro e w1 ⟨hg, ⟨rfl, hl, rfl, hr⟩ | ⟨_, rfl, hr⟩⟩
  · exfalso; rcases hs with h | h
    · cases h
    · omega
  · replace hg0 := hg0.trans hg
    replace hk0 := hk0.far hg (by omega)
    clear hg T h0
    obtain ⟨⟨a0, a1, a2, a3⟩, f0, f1, f2, f3⟩ := hk0.cells
    obtain ⟨p0, p1, p2, p3⟩ := putBox_cells hk0 0 0 ⟨#[]⟩ 0
    have HG := Lib.hid (And.intro hg0 (And.intro hr hk0))
    unfold putBox at p3
    clear hg0 hr hk0
    go_wp2
    (try simp only [Exit.inBlock, Exit.then])
    refine bodyPost_ret (by simp [results, Try.results27, go_sem, p0, p1, p2, p3]; try rfl) rfl ?_
    have hp := putBox_grown w1 w.heap.size 0 0 ⟨#[]⟩ 0
    exact ⟨rfl, HG.out.1.andThen hp (fun j hj => by cases hj; exact .inl (Nat.le_refl _)), _, HG.out.2.1.far hp hlt⟩
set_option maxRecDepth 20000 in
set_option maxHeartbeats 1000000 in
theorem rfKey_two (b : Nat) (l : List UInt8) (w : World) (h : Rf w b l false) (hs : l.length = 2) : Calls Try.prog 27 #[.pointer (some ⟨b, 0, none⟩)] w (RfGot b (.no 4 none) w) := by
  have hlt := h.lt
  have h0 := h.free (grown_of_below (below_alloc1 w (.cells #[.int .i64 0, .int .u8 0, .string ⟨#[]⟩, .int .i64 0] 23)))
  have hk0 : KeyIn (w.alloc (.cells #[.int .i64 0, .int .u8 0, .string ⟨#[]⟩, .int .i64 0] 23)) w.heap.size 0 0 ⟨#[]⟩ 0 := keyBox w 0 0 ⟨#[]⟩ 0
  have hg0 : w.grownBy (w.alloc (.cells #[.int .i64 0, .int .u8 0, .string ⟨#[]⟩, .int .i64 0] 23)) (some b) := grown_of_below (below_alloc1 _ _)
  have T := Lib.hid (rfTake_two b l false _ h0)
  have hb0 := byte_lt l 0
  have hb1 := byte_lt l 1
  go_enter Try.func27, Try.ntmps27
  go_wp2_with fail
  refine T.out.mono ?_
  rintro e w1 ⟨hg, ⟨_, hl, rfl, hr⟩ | ⟨hs', rfl, hr⟩⟩
  · replace hg0 := hg0.trans hg
    replace hk0 := hk0.far hg (by omega)
    clear hg T h0
    generalize hy : byteAt l 0 + byteAt l 1 * 256 = y at *
    have q1 : IntKind.i64.wrap y = y := IntWalk.i64_in _ (by omega)
    clear hb0 hb1 hy
    have hd : (l.drop 2).length = 0 := by simp; omega
    generalize l.drop 2 = l2 at *
    go_wp2_with fail
    refine (rfTake_one b l2 false w1 hr).mono ?_
    rintro e w2 ⟨hg, ⟨_, hl, _⟩ | ⟨_, rfl, hr2⟩⟩
    · exfalso; omega
    · replace hg0 := hg0.trans hg
      replace hk0 := hk0.far hg (by omega)
      clear hg hr
      obtain ⟨⟨a0, a1, a2, a3⟩, f0, f1, f2, f3⟩ := hk0.cells
      obtain ⟨p0, p1, p2, p3⟩ := putBox_cells hk0 0 0 ⟨#[]⟩ 0
      have HG := Lib.hid (And.intro hg0 (And.intro hr2 hk0))
      unfold putBox at p3
      clear hg0 hr2 hk0
      go_wp2
      (try simp only [Exit.inBlock, Exit.then])
      refine bodyPost_ret (by simp [results, Try.results27, go_sem, p0, p1, p2, p3]; try rfl) rfl ?_
      have hp := putBox_grown w2 w.heap.size 0 0 ⟨#[]⟩ 0
      exact ⟨rfl, HG.out.1.andThen hp (fun j hj => by cases hj; exact .inl (Nat.le_refl _)), _, HG.out.2.1.far hp hlt⟩
  · exfalso; rcases hs' with h | h
    · cases h
    · omega
set_option maxRecDepth 20000 in
set_option maxHeartbeats 1000000 in
theorem rfKey_other (b : Nat) (l : List UInt8) (w : World) (h : Rf w b l false) (hs : 3 ≤ l.length) (hu2 : byteAt l 2 ≠ 2) (hu3 : byteAt l 2 ≠ 3) : Calls Try.prog 27 #[.pointer (some ⟨b, 0, none⟩)] w
    (RfGot b (gotFin (byteAt l 0 + byteAt l 1 * 256) (byteAt l 2) ⟨#[]⟩ 0 (l.drop 3)) w) := by
  have hlt := h.lt
  have h0 := h.free (grown_of_below (below_alloc1 w (.cells #[.int .i64 0, .int .u8 0, .string ⟨#[]⟩, .int .i64 0] 23)))
  have hk0 : KeyIn (w.alloc (.cells #[.int .i64 0, .int .u8 0, .string ⟨#[]⟩, .int .i64 0] 23)) w.heap.size 0 0 ⟨#[]⟩ 0 := keyBox w 0 0 ⟨#[]⟩ 0
  have hg0 : w.grownBy (w.alloc (.cells #[.int .i64 0, .int .u8 0, .string ⟨#[]⟩, .int .i64 0] 23)) (some b) := grown_of_below (below_alloc1 _ _)
  have T := Lib.hid (rfTake_two b l false _ h0)
  have hb0 := byte_lt l 0
  have hb1 := byte_lt l 1
  have hb2 := byte_lt l 2
  have hb2' : byteAt (l.drop 2) 0 = byteAt l 2 := by unfold byteAt; simp
  have hd3 : (l.drop 2).drop 1 = l.drop 3 := by simp
  have hd : 1 ≤ (l.drop 2).length := by simp; omega
  go_enter Try.func27, Try.ntmps27
  go_wp2_with fail
  refine T.out.mono ?_
  rintro e w1 ⟨hg, ⟨_, hl, rfl, hr⟩ | ⟨hs', rfl, hr⟩⟩
  · replace hg0 := hg0.trans hg
    replace hk0 := hk0.far hg (by omega)
    clear hg T h0
    have T2 := rfTake_one b (l.drop 2) false w1 hr
    unfold RfTakeEnd at T2
    rw [hb2', hd3] at T2
    have HT2 := Lib.hid T2
    clear T2
    generalize l.drop 3 = l3 at *
    generalize hy : byteAt l 0 + byteAt l 1 * 256 = y at *
    generalize byteAt l 2 = u at *
    have q1 : IntKind.i64.wrap y = y := IntWalk.i64_in _ (by omega)
    have q2 : IntKind.u8.wrap u = u := IntWalk.u8_in _ (by omega)
    have q3 : (u == 2) = false := by simp; omega
    have q4 : (u == 3) = false := by simp; omega
    clear hb0 hb1 hb2 hy hu2 hu3 hb2'
    have M := Lib.hid (fun w => refMayKey_any y u ⟨#[]⟩ 0 (by decide) w)
    have HF : Hid (∀ m, mayKey y u ⟨#[]⟩ 0 = m → gotFin y u ⟨#[]⟩ 0 l3 = if m then ⟨y, u, ⟨#[]⟩, 0, 0, some l3⟩ else .no 5 (some l3)) := fun m hm => by unfold gotFin; rw [hm]
    obtain ⟨m, hm⟩ : ∃ m, mayKey y u ⟨#[]⟩ 0 = m := ⟨_, rfl⟩
    rw [hm] at M
    replace HF := Lib.hid (HF.out m hm)
    clear hm
    go_wp2_with fail
    refine HT2.out.mono ?_
    rintro e w2 ⟨hg, ⟨_, hl, rfl, hr2⟩ | ⟨hx, rfl, hr2⟩⟩
    · replace hg0 := hg0.trans hg
      replace hk0 := hk0.far hg (by omega)
      clear hg hr
      have hz := below_alloc1 w2 (.cells #[.int .i64 y, .int .u8 u, .string ⟨#[]⟩, .int .i64 0] 23)
      have hq0 : KeyIn (w2.alloc (.cells #[.int .i64 y, .int .u8 u, .string ⟨#[]⟩, .int .i64 0] 23)) w2.heap.size y u ⟨#[]⟩ 0 := keyBox w2 y u ⟨#[]⟩ 0
      replace hg0 := hg0.trans (grown_of_below hz)
      replace hk0 := hk0.free (grown_of_below hz)
      replace hr2 := hr2.free (grown_of_below hz)
      clear hz
      have cq := hq0.cells.1
      obtain ⟨c0, c1, c2, c3⟩ := cq
      go_wp2_with fail
      refine (M.out _).mono ?_
      rintro e w3 ⟨rfl, hb⟩
      clear c0 c1 c2 c3
      replace hg0 := hg0.trans (grown_of_below hb)
      replace hk0 := hk0.free (grown_of_below hb)
      replace hq0 := hq0.free (grown_of_below hb)
      replace hr2 := hr2.free (grown_of_below hb)
      clear hb
      obtain ⟨⟨a0, a1, a2, a3⟩, f0, f1, f2, f3⟩ := hk0.cells
      obtain ⟨c0, c1, c2, c3⟩ := hq0.cells.1
      have HG := Lib.hid (And.intro hg0 (And.intro hr2 hk0))
      clear hg0 hr2 hq0
      cases m
      · obtain ⟨p0, p1, p2, p3⟩ := putBox_cells hk0 0 0 ⟨#[]⟩ 0
        unfold putBox at p3
        clear hk0
        go_wp2
        (try simp only [Exit.inBlock, Exit.then])
        refine bodyPost_ret (by simp [results, Try.results27, go_sem, p0, p1, p2, p3]; try rfl) rfl ?_
        have hp := putBox_grown w3 w.heap.size 0 0 ⟨#[]⟩ 0
        exact RfGot.of HF.out ⟨rfl, HG.out.1.andThen hp (fun j hj => by cases hj; exact .inl (Nat.le_refl _)), HG.out.2.1.far hp hlt⟩
      · obtain ⟨p0, p1, p2, p3⟩ := putBox_cells hk0 y u ⟨#[]⟩ 0
        unfold putBox at p3
        clear hk0
        go_wp2
        (try simp only [Exit.inBlock, Exit.then])
        refine bodyPost_ret (by simp [results, Try.results27, go_sem, p0, p1, p2, p3]; try rfl) rfl ?_
        have hp := putBox_grown w3 w.heap.size y u ⟨#[]⟩ 0
        exact RfGot.of HF.out ⟨rfl, HG.out.1.andThen hp (fun j hj => by cases hj; exact .inl (Nat.le_refl _)), HG.out.2.1.far hp hlt⟩
    · exfalso; rcases hx with h | h
      · cases h
      · omega
  · exfalso; rcases hs' with h | h
    · cases h
    · omega
set_option maxRecDepth 20000 in
set_option maxHeartbeats 2000000 in
theorem rfKey_piece (b : Nat) (l : List UInt8) (w : World) (h : Rf w b l false) (hs : 3 ≤ l.length) (hu : byteAt l 2 = 3) : Calls Try.prog 27 #[.pointer (some ⟨b, 0, none⟩)] w
    (RfGot b (if (l.drop 3).length < 1 then .no 4 none else gotFin (byteAt l 0 + byteAt l 1 * 256) 3 ⟨#[]⟩ (byteAt (l.drop 3) 0) ((l.drop 3).drop 1)) w) := by
  obtain ⟨G, hG⟩ : ∃ G, (if (l.drop 3).length < 1 then Got.no 4 none else gotFin (byteAt l 0 + byteAt l 1 * 256) 3 ⟨#[]⟩ (byteAt (l.drop 3) 0) ((l.drop 3).drop 1)) = G := ⟨_, rfl⟩
  rw [hG]
  replace hG := Lib.hid hG
  have hlt := h.lt
  have h0 := h.free (grown_of_below (below_alloc1 w (.cells #[.int .i64 0, .int .u8 0, .string ⟨#[]⟩, .int .i64 0] 23)))
  have hk0 : KeyIn (w.alloc (.cells #[.int .i64 0, .int .u8 0, .string ⟨#[]⟩, .int .i64 0] 23)) w.heap.size 0 0 ⟨#[]⟩ 0 := keyBox w 0 0 ⟨#[]⟩ 0
  have hg0 : w.grownBy (w.alloc (.cells #[.int .i64 0, .int .u8 0, .string ⟨#[]⟩, .int .i64 0] 23)) (some b) := grown_of_below (below_alloc1 _ _)
  have T := Lib.hid (rfTake_two b l false _ h0)
  have hb0 := byte_lt l 0
  have hb1 := byte_lt l 1
  have hb2' : byteAt (l.drop 2) 0 = byteAt l 2 := by unfold byteAt; simp
  have hd3 : (l.drop 2).drop 1 = l.drop 3 := by simp
  have hd : 1 ≤ (l.drop 2).length := by simp; omega
  rw [hu] at hb2'
  go_enter Try.func27, Try.ntmps27
  go_wp2_with fail
  refine T.out.mono ?_
  rintro e w1 ⟨hg, ⟨_, hl, rfl, hr⟩ | ⟨hs', rfl, hr⟩⟩
  · replace hg0 := hg0.trans hg
    replace hk0 := hk0.far hg (by omega)
    clear hg T h0 h
    have T2 := rfTake_one b (l.drop 2) false w1 hr
    unfold RfTakeEnd at T2
    rw [hb2', hd3] at T2
    have HT2 := Lib.hid T2
    clear T2 hu hb2' hd3 hr
    generalize l.drop 3 = l3 at *
    generalize hy : byteAt l 0 + byteAt l 1 * 256 = y at *
    have q1 : IntKind.i64.wrap y = y := IntWalk.i64_in _ (by omega)
    clear hb0 hb1 hy hl hs
    go_wp2_with fail
    refine HT2.out.mono ?_
    rintro e w2 ⟨hg, ⟨_, hl, rfl, hr2⟩ | ⟨hx, rfl, hr2⟩⟩
    · replace hg0 := hg0.trans hg
      replace hk0 := hk0.far hg (by omega)
      clear hg hd hl HT2
      have hne := hk0.lt
      have hz := below_alloc1 w2 (.cells #[.int .i64 y, .int .u8 3, .string ⟨#[]⟩, .int .i64 0] 23)
      have hq0 : KeyIn (w2.alloc (.cells #[.int .i64 y, .int .u8 3, .string ⟨#[]⟩, .int .i64 0] 23)) w2.heap.size y 3 ⟨#[]⟩ 0 := keyBox w2 y 3 ⟨#[]⟩ 0
      replace hg0 := hg0.trans (grown_of_below hz)
      replace hk0 := hk0.free (grown_of_below hz)
      have hbq := hr2.lt
      replace hr2 := hr2.free (grown_of_below hz)
      clear hz
      have HT3 := Lib.hid (rfTake_one b l3 false _ hr2)
      have hb3 := byte_lt l3 0
      go_wp2_with fail
      refine HT3.out.mono ?_
      rintro e w3 ⟨hg, ⟨_, hl, rfl, hr⟩ | ⟨hx, rfl, hr⟩⟩
      · clear hr2
        have hr2 := hr
        replace hg0 := hg0.trans hg
        replace hk0 := hk0.far hg (by omega)
        replace hq0 := hq0.far hg (by omega)
        clear hg hr HT3
        have hfi : ¬ (l3.length < 1) := by omega
        generalize hv : byteAt l3 0 = v at *
        have q2 : IntKind.i64.wrap v = v := IntWalk.i64_in _ (by omega)
        clear hb3
        have M := Lib.hid (fun w => refMayKey_any y 3 ⟨#[]⟩ v (by decide) w)
        obtain ⟨m, hm⟩ : ∃ m, mayKey y 3 ⟨#[]⟩ v = m := ⟨_, rfl⟩
        have HF : Hid (gotFin y 3 ⟨#[]⟩ v (l3.drop 1) = if m then ⟨y, 3, ⟨#[]⟩, v, 0, some (l3.drop 1)⟩ else .no 5 (some (l3.drop 1))) := by show _ = _; unfold gotFin; rw [hm]
        rw [hm] at M
        clear hm
        replace HF := Lib.hid (hG.out.symm.trans ((if_neg hfi).trans HF.out))
        clear hG
        generalize l3.drop 1 = l4 at *
        clear hfi hl hv
        obtain ⟨⟨d0, d1, d2, d3⟩, e0, e1, e2, e3⟩ := hq0.cells
        have hst := grown_setCell w3 ⟨w2.heap.size, 3, none⟩ (.int .i64 v)
        have hqn : KeyIn (w3.setCell ⟨w2.heap.size, 3, none⟩ (.int .i64 v)) w2.heap.size y 3 ⟨#[]⟩ v := KeyIn.set3 hq0 _
        have hg1 := hg0.andThen hst (fun j hj => by cases hj; exact .inl (Nat.le_of_lt hne))
        have hk1 := hk0.far hst (Nat.ne_of_lt hne)
        have hr3 := hr2.far hst hbq
        obtain ⟨c0, c1, c2, c3⟩ := hqn.cells.1
        go_wp2_with fail
        refine (M.out _).mono ?_
        rintro e w4 ⟨rfl, hb⟩
        clear c0 c1 c2 c3 d0 d1 d2 d3 e0 e1 e2 e3
        replace hg1 := hg1.trans (grown_of_below hb)
        have hk0 := hk1.free (grown_of_below hb)
        have hq1 := hqn.free (grown_of_below hb)
        replace hr3 := hr3.free (grown_of_below hb)
        clear hb hk1 hqn hst
        obtain ⟨⟨a0, a1, a2, a3⟩, f0, f1, f2, f3⟩ := hk0.cells
        obtain ⟨c0, c1, c2, c3⟩ := hq1.cells.1
        have HG := Lib.hid (And.intro hg1 hr3)
        clear hg1 hr3 hq1
        cases m
        · obtain ⟨p0, p1, p2, p3⟩ := putBox_cells hk0 0 0 ⟨#[]⟩ 0
          unfold putBox at p3
          clear hk0
          go_wp2
          (try simp only [Exit.inBlock, Exit.then])
          refine bodyPost_ret (by simp [results, Try.results27, go_sem, p0, p1, p2, p3]; try rfl) rfl ?_
          have hp := putBox_grown w4 w.heap.size 0 0 ⟨#[]⟩ 0
          exact RfGot.of HF.out ⟨rfl, HG.out.1.andThen hp (fun j hj => by cases hj; exact .inl (Nat.le_refl _)), HG.out.2.far hp hlt⟩
        · obtain ⟨p0, p1, p2, p3⟩ := putBox_cells hk0 y 3 ⟨#[]⟩ v
          unfold putBox at p3
          clear hk0
          go_wp2
          (try simp only [Exit.inBlock, Exit.then])
          refine bodyPost_ret (by simp [results, Try.results27, go_sem, p0, p1, p2, p3]; try rfl) rfl ?_
          have hp := putBox_grown w4 w.heap.size y 3 ⟨#[]⟩ v
          exact RfGot.of HF.out ⟨rfl, HG.out.1.andThen hp (fun j hj => by cases hj; exact .inl (Nat.le_refl _)), HG.out.2.far hp hlt⟩
      · clear hr2
        have hr2 := hr
        replace hg0 := hg0.trans hg
        replace hk0 := hk0.far hg (by omega)
        replace hq0 := hq0.far hg (by omega)
        clear hg hr HT3
        have hfi : l3.length < 1 := by
          rcases hx with h | h
          · cases h
          · exact h
        have HF := (if_pos hfi : (if l3.length < 1 then Got.no 4 none else gotFin y 3 ⟨#[]⟩ (byteAt l3 0) (l3.drop 1)) = Got.no 4 none)
        replace HF := Lib.hid (hG.out.symm.trans HF)
        clear hfi hx hG
        obtain ⟨⟨a0, a1, a2, a3⟩, f0, f1, f2, f3⟩ := hk0.cells
        have HG := Lib.hid (And.intro hg0 hr2)
        clear hg0 hr2 hq0
        obtain ⟨p0, p1, p2, p3⟩ := putBox_cells hk0 0 0 ⟨#[]⟩ 0
        unfold putBox at p3
        clear hk0
        go_wp2
        (try simp only [Exit.inBlock, Exit.then])
        refine bodyPost_ret (by simp [results, Try.results27, go_sem, p0, p1, p2, p3]; try rfl) rfl ?_
        have hp := putBox_grown w3 w.heap.size 0 0 ⟨#[]⟩ 0
        exact RfGot.of HF.out ⟨rfl, HG.out.1.andThen hp (fun j hj => by cases hj; exact .inl (Nat.le_refl _)), _, HG.out.2.far hp hlt⟩
    · exfalso; rcases hx with h | h
      · cases h
      · omega
  · exfalso; rcases hs' with h | h
    · cases h
    · omega

set_option maxRecDepth 20000 in
set_option maxHeartbeats 2000000 in
theorem rfKey_entry (b : Nat) (l : List UInt8) (w : World) (h : Rf w b l false) (hs : 3 ≤ l.length) (hu : byteAt l 2 = 2) : Calls Try.prog 27 #[.pointer (some ⟨b, 0, none⟩)] w
    (RfGot b (if (l.drop 3).length < 1 + (byteAt (l.drop 3) 0).toNat then Got.no 4 none else gotFin (byteAt l 0 + byteAt l 1 * 256) 2 ⟨(((l.drop 3).drop 1).take (byteAt (l.drop 3) 0).toNat).toArray⟩ 0 (((l.drop 3).drop 1).drop (byteAt (l.drop 3) 0).toNat)) w) := by
  obtain ⟨G, hG⟩ : ∃ G, (if (l.drop 3).length < 1 + (byteAt (l.drop 3) 0).toNat then Got.no 4 none else gotFin (byteAt l 0 + byteAt l 1 * 256) 2 ⟨(((l.drop 3).drop 1).take (byteAt (l.drop 3) 0).toNat).toArray⟩ 0 (((l.drop 3).drop 1).drop (byteAt (l.drop 3) 0).toNat)) = G := ⟨_, rfl⟩
  rw [hG]
  replace hG := Lib.hid hG
  have hlt := h.lt
  have h0 := h.free (grown_of_below (below_alloc1 w (.cells #[.int .i64 0, .int .u8 0, .string ⟨#[]⟩, .int .i64 0] 23)))
  have hk0 : KeyIn (w.alloc (.cells #[.int .i64 0, .int .u8 0, .string ⟨#[]⟩, .int .i64 0] 23)) w.heap.size 0 0 ⟨#[]⟩ 0 := keyBox w 0 0 ⟨#[]⟩ 0
  have hg0 : w.grownBy (w.alloc (.cells #[.int .i64 0, .int .u8 0, .string ⟨#[]⟩, .int .i64 0] 23)) (some b) := grown_of_below (below_alloc1 _ _)
  have T := Lib.hid (rfTake_two b l false _ h0)
  have hb0 := byte_lt l 0
  have hb1 := byte_lt l 1
  have hb2' : byteAt (l.drop 2) 0 = byteAt l 2 := by unfold byteAt; simp
  have hd3 : (l.drop 2).drop 1 = l.drop 3 := by simp
  have hd : 1 ≤ (l.drop 2).length := by simp; omega
  rw [hu] at hb2'
  go_enter Try.func27, Try.ntmps27
  go_wp2_with fail
  refine T.out.mono ?_
  rintro e w1 ⟨hg, ⟨_, hl, rfl, hr⟩ | ⟨hs', rfl, hr⟩⟩
  · replace hg0 := hg0.trans hg
    replace hk0 := hk0.far hg (by omega)
    clear hg T h0 h
    have T2 := rfTake_one b (l.drop 2) false w1 hr
    unfold RfTakeEnd at T2
    rw [hb2', hd3] at T2
    have HT2 := Lib.hid T2
    clear T2 hu hb2' hd3 hr
    generalize l.drop 3 = l3 at *
    generalize hy : byteAt l 0 + byteAt l 1 * 256 = y at *
    have q1 : IntKind.i64.wrap y = y := IntWalk.i64_in _ (by omega)
    clear hb0 hb1 hy hl hs
    go_wp2_with fail
    refine HT2.out.mono ?_
    rintro e w2 ⟨hg, ⟨_, hl, rfl, hr2⟩ | ⟨hx, rfl, hr2⟩⟩
    · replace hg0 := hg0.trans hg
      replace hk0 := hk0.far hg (by omega)
      clear hg hd hl HT2
      have hne := hk0.lt
      have hz := below_alloc1 w2 (.cells #[.int .i64 y, .int .u8 2, .string ⟨#[]⟩, .int .i64 0] 23)
      have hq0 : KeyIn (w2.alloc (.cells #[.int .i64 y, .int .u8 2, .string ⟨#[]⟩, .int .i64 0] 23)) w2.heap.size y 2 ⟨#[]⟩ 0 := keyBox w2 y 2 ⟨#[]⟩ 0
      replace hg0 := hg0.trans (grown_of_below hz)
      replace hk0 := hk0.free (grown_of_below hz)
      have hbq := hr2.lt
      replace hr2 := hr2.free (grown_of_below hz)
      clear hz
      have hb3 := byte_lt l3 0
      have T3 := rfRow_any b l3 false _ hr2
      unfold RfRowK at T3
      obtain ⟨k, hk⟩ : ∃ k, (byteAt l3 0).toNat = k := ⟨_, rfl⟩
      have hk255 : k ≤ 255 := by omega
      rw [hk] at T3 hG
      have HT3 := Lib.hid T3
      clear hb3 hk T3
      go_wp2_with fail
      refine HT3.out.mono ?_
      rintro e w3 ⟨hg, ⟨hx, ⟨A, c, rfl⟩, l5, hr⟩ | ⟨_, hl, ⟨A, c, rfl, hB⟩, hr⟩⟩
      · clear hr2
        have hr2 := hr
        replace hg0 := hg0.trans hg
        replace hk0 := hk0.far hg (by omega)
        replace hq0 := hq0.far hg (by omega)
        clear hg hr HT3
        have hfi : l3.length < 1 + k := by
          rcases hx with h | h
          · cases h
          · exact h
        have HF := (if_pos hfi : (if l3.length < 1 + k then Got.no 4 none else gotFin y 2 ⟨((l3.drop 1).take k).toArray⟩ 0 ((l3.drop 1).drop k)) = Got.no 4 none)
        replace HF := Lib.hid (hG.out.symm.trans HF)
        clear hfi hx hG hk255
        obtain ⟨⟨a0, a1, a2, a3⟩, f0, f1, f2, f3⟩ := hk0.cells
        have HG := Lib.hid (And.intro hg0 hr2)
        clear hg0 hr2 hq0
        obtain ⟨p0, p1, p2, p3⟩ := putBox_cells hk0 0 0 ⟨#[]⟩ 0
        unfold putBox at p3
        clear hk0
        go_wp2
        (try simp only [Exit.inBlock, Exit.then])
        refine bodyPost_ret (by simp [results, Try.results27, go_sem, p0, p1, p2, p3]; try rfl) rfl ?_
        have hp := putBox_grown w3 w.heap.size 0 0 ⟨#[]⟩ 0
        exact RfGot.of HF.out ⟨rfl, HG.out.1.andThen hp (fun j hj => by cases hj; exact .inl (Nat.le_refl _)), _, HG.out.2.far hp hlt⟩
      · clear hr2
        have hr2 := hr
        replace hg0 := hg0.trans hg
        replace hk0 := hk0.far hg (by omega)
        replace hq0 := hq0.far hg (by omega)
        clear hg hr HT3
        have hfi : ¬ (l3.length < 1 + k) := by omega
        have hln : ((l3.drop 1).take k).length = k := by simp; omega
        have hcv := bs_string hB k hln c
        have hsz : (⟨((l3.drop 1).take k).toArray⟩ : ByteArray).size ≤ maxLen := by
          have : (⟨((l3.drop 1).take k).toArray⟩ : ByteArray).size = ((l3.drop 1).take k).length := by simp [ByteArray.size]
          rw [this, hln]; unfold maxLen; omega
        obtain ⟨S, hS⟩ : ∃ S, (⟨((l3.drop 1).take k).toArray⟩ : ByteArray) = S := ⟨_, rfl⟩
        rw [hS] at hcv hsz hG
        clear hB hln hk255 hS
        have M := Lib.hid (fun w => refMayKey_any y 2 S 0 hsz w)
        obtain ⟨m, hm⟩ : ∃ m, mayKey y 2 S 0 = m := ⟨_, rfl⟩
        have HF : Hid (gotFin y 2 S 0 ((l3.drop 1).drop k) = if m then ⟨y, 2, S, 0, 0, some ((l3.drop 1).drop k)⟩ else .no 5 (some ((l3.drop 1).drop k))) := by show _ = _; unfold gotFin; rw [hm]
        rw [hm] at M
        clear hm
        replace HF := Lib.hid (hG.out.symm.trans ((if_neg hfi).trans HF.out))
        clear hG
        generalize (l3.drop 1).drop k = l4 at *
        clear hfi hl hsz
        obtain ⟨⟨d0, d1, d2, d3⟩, e0, e1, e2, e3⟩ := hq0.cells
        have hst := grown_setCell w3 ⟨w2.heap.size, 2, none⟩ (.string S)
        have hqn : KeyIn (w3.setCell ⟨w2.heap.size, 2, none⟩ (.string S)) w2.heap.size y 2 S 0 := KeyIn.set2 hq0 _
        have hg1 := hg0.andThen hst (fun j hj => by cases hj; exact .inl (Nat.le_of_lt hne))
        have hk1 := hk0.far hst (Nat.ne_of_lt hne)
        have hr3 := hr2.far hst hbq
        obtain ⟨c0, c1, c2, c3⟩ := hqn.cells.1
        go_wp2_with fail
        refine (M.out _).mono ?_
        rintro e w4 ⟨rfl, hb⟩
        clear c0 c1 c2 c3 d0 d1 d2 d3 e0 e1 e2 e3
        replace hg1 := hg1.trans (grown_of_below hb)
        have hk0 := hk1.free (grown_of_below hb)
        have hq1 := hqn.free (grown_of_below hb)
        replace hr3 := hr3.free (grown_of_below hb)
        clear hb hk1 hqn hst
        obtain ⟨⟨a0, a1, a2, a3⟩, f0, f1, f2, f3⟩ := hk0.cells
        obtain ⟨c0, c1, c2, c3⟩ := hq1.cells.1
        have HG := Lib.hid (And.intro hg1 hr3)
        clear hg1 hr3 hq1
        cases m
        · obtain ⟨p0, p1, p2, p3⟩ := putBox_cells hk0 0 0 ⟨#[]⟩ 0
          unfold putBox at p3
          clear hk0
          go_wp2
          (try simp only [Exit.inBlock, Exit.then])
          refine bodyPost_ret (by simp [results, Try.results27, go_sem, p0, p1, p2, p3]; try rfl) rfl ?_
          have hp := putBox_grown w4 w.heap.size 0 0 ⟨#[]⟩ 0
          exact RfGot.of HF.out ⟨rfl, HG.out.1.andThen hp (fun j hj => by cases hj; exact .inl (Nat.le_refl _)), HG.out.2.far hp hlt⟩
        · obtain ⟨p0, p1, p2, p3⟩ := putBox_cells hk0 y 2 S 0
          unfold putBox at p3
          clear hk0
          go_wp2
          (try simp only [Exit.inBlock, Exit.then])
          refine bodyPost_ret (by simp [results, Try.results27, go_sem, p0, p1, p2, p3]; try rfl) rfl ?_
          have hp := putBox_grown w4 w.heap.size y 2 S 0
          exact RfGot.of HF.out ⟨rfl, HG.out.1.andThen hp (fun j hj => by cases hj; exact .inl (Nat.le_refl _)), HG.out.2.far hp hlt⟩
    · exfalso; rcases hx with h | h
      · cases h
      · omega
  · exfalso; rcases hs' with h | h
    · cases h
    · omega

theorem rfKey_any (b : Nat) (st : Option (List UInt8)) (w : World) (h : RfS w b st) : Calls Try.prog 27 #[.pointer (some ⟨b, 0, none⟩)] w (RfGot b (getK st) w) := by
  cases st with
  | none =>
    obtain ⟨l, hl⟩ := h
    exact rfKey_refused b l true w hl (.inl rfl)
  | some l =>
    have h : Rf w b l false := h
    by_cases h3 : l.length < 3
    · have e : getK (some l) = .no 4 none := if_pos h3
      rw [e]
      by_cases h2 : l.length < 2
      · exact rfKey_refused b l false w h (.inr h2)
      · exact rfKey_two b l w h (by omega)
    · by_cases u2 : byteAt l 2 = 2
      · have := rfKey_entry b l w h (by omega) u2
        simpa only [getK, if_neg h3, if_pos u2] using this
      · by_cases u3 : byteAt l 2 = 3
        · have := rfKey_piece b l w h (by omega) u3
          simpa only [getK, if_neg h3, if_neg u2, if_pos u3] using this
        · have := rfKey_other b l w h (by omega) u2 u3
          simpa only [getK, if_neg h3, if_neg u2, if_neg u3] using this
end Go.Proofs.Ytkianpkkligljaa
