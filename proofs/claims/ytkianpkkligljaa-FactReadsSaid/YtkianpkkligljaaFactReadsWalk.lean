/- The walk of the statement FactReads: it comes to true. -/
import Derived.Test.YtkianpkkligljaaRefGetKey
import Derived.Test.YtkianpkkligljaaWorks06
import Derived.Deep.LoopGhost
namespace Go.Proofs.Ytkianpkkligljaa
open Go.RowKit
set_option linter.unusedVariables false

set_option maxHeartbeats 400000 in
theorem copyR_any (l : List UInt8) (n : Nat) (hn : l.length = n) (A : Option Addr) (c : Nat) (w : World) (hA : Bs w A l) : Calls Try.prog 25 #[.slice A n c] w fun e w' => ∃ v, e = .returned v ∧ OwnB w' w.heap.size v l ∧ Below w.heap.size w w' := by
  subst hn
  have own0 := OwnB.nil w w.heap.size
  have hsm := hA.small
  have src := hA.src
  have hlt : w.heap.size ≤ w.heap.size := Nat.le_refl _
  go_enter Try.func25, Try.ntmps25
  go_wp2_with (at_builtin; refine wpList_app rfl rfl Try.underlying24 info_u8 rfl (by omega) rfl own0 rfl (by simp [vals]) src (vals_one _) (by simp; omega) (by simp; omega) hlt ?_; intro v1 w1 happ)
  go_ret
  refine ⟨v1, rfl, ?_, happ.below own0 (Below.refl _ _) hlt⟩
  have := happ.own
  simpa [OwnB, vals] using this
/-- Bytes do not lie in a block that holds none. -/
theorem Bs.apart {w w' : World} {A : Option Addr} {l : List UInt8} {q : Nat} (h : Bs w A l) (hg : w.grownBy w' (some q)) (hno : ∀ o x, w.cell? ⟨q, o, none⟩ ≠ some (.int .u8 x)) : Bs w' A l :=
  ⟨h.small, fun j hj => by
    obtain ⟨ad, e, hc⟩ := h.cell j hj
    refine ⟨ad, e, (hg.cell_far _ (World.block_lt_of_cell? w _ hc) ?_).trans hc⟩
    intro he
    injection he with he
    have hs : (ad.add j).spot = none := by
      unfold World.cell? at hc
      split at hc
      · split at hc
        · cases hc
        · rename_i hs
          cases hsp : (ad.add j).spot with
          | none => rfl
          | some n => rw [hsp] at hs; simp at hs
      · cases hc
    refine hno (ad.add j).off _ (Eq.trans ?_ hc)
    rw [← hs, ← he]⟩
theorem RdIn.nobyte {w : World} {b : Nat} {A : Option Addr} {n c : Nat} {no : Bool} (h : RdIn w b A n c no) (o : Nat) (x : Int) : w.cell? ⟨b, o, none⟩ ≠ some (.int .u8 x) := by
  unfold RdIn at h
  simp only [World.cell?, h]
  match o with
  | 0 => simp
  | 1 => simp
  | 2 => simp
  | o + 3 => simp
theorem RfIn.nobyte {w : World} {b : Nat} {A : Option Addr} {n c : Nat} {no : Bool} (h : RfIn w b A n c no) (o : Nat) (x : Int) : w.cell? ⟨b, o, none⟩ ≠ some (.int .u8 x) := by
  unfold RfIn at h
  simp only [World.cell?, h]
  match o with
  | 0 => simp
  | 1 => simp
  | o + 2 => simp
theorem RdS.lt {w : World} {b : Nat} {st : Option (List UInt8)} (h : RdS w b st) : b < w.heap.size := by
  cases st with
  | none => obtain ⟨l, h⟩ := h; exact h.lt
  | some l => exact Rd.lt h
theorem RfS.lt {w : World} {b : Nat} {st : Option (List UInt8)} (h : RfS w b st) : b < w.heap.size := by
  cases st with
  | none => obtain ⟨l, h⟩ := h; exact h.lt
  | some l => exact Rf.lt h
theorem RdS.nobyte {w : World} {b : Nat} {st : Option (List UInt8)} (h : RdS w b st) (o : Nat) (x : Int) : w.cell? ⟨b, o, none⟩ ≠ some (.int .u8 x) := by
  cases st with
  | none => obtain ⟨l, h⟩ := h; obtain ⟨A, c, hr, _⟩ := h.at'; exact hr.nobyte o x
  | some l => obtain ⟨A, c, hr, _⟩ := Rd.at' h; exact hr.nobyte o x
theorem RfS.nobyte {w : World} {b : Nat} {st : Option (List UInt8)} (h : RfS w b st) (o : Nat) (x : Int) : w.cell? ⟨b, o, none⟩ ≠ some (.int .u8 x) := by
  cases st with
  | none => obtain ⟨l, h⟩ := h; obtain ⟨A, c, hr, _⟩ := h.at'; exact hr.nobyte o x
  | some l => obtain ⟨A, c, hr, _⟩ := Rf.at' h; exact hr.nobyte o x
theorem Rd.apart {w w' : World} {b q : Nat} {l : List UInt8} {no : Bool} (h : Rd w b l no) (hg : w.grownBy w' (some q)) (hq : b ≠ q) (hno : ∀ o x, w.cell? ⟨q, o, none⟩ ≠ some (.int .u8 x)) : Rd w' b l no := by
  have hlt := h.lt
  obtain ⟨A, c, hr, hc, hm, hB, hn⟩ := h.at'
  exact ⟨A, c, (hg.block b hlt (by simpa using hq)).trans hr, hc, hm, hB.apart hg hno, hn⟩
theorem Rf.apart {w w' : World} {b q : Nat} {l : List UInt8} {no : Bool} (h : Rf w b l no) (hg : w.grownBy w' (some q)) (hq : b ≠ q) (hno : ∀ o x, w.cell? ⟨q, o, none⟩ ≠ some (.int .u8 x)) : Rf w' b l no := by
  have hlt := h.lt
  obtain ⟨A, c, hr, hc, hm, hB, hn⟩ := h.at'
  exact ⟨A, c, (hg.block b hlt (by simpa using hq)).trans hr, hc, hm, hB.apart hg hno, hn⟩
theorem RdS.apart {w w' : World} {b q : Nat} {st : Option (List UInt8)} (h : RdS w b st) (hg : w.grownBy w' (some q)) (hq : b ≠ q) (hno : ∀ o x, w.cell? ⟨q, o, none⟩ ≠ some (.int .u8 x)) : RdS w' b st := by
  cases st with
  | none => obtain ⟨l, h⟩ := h; exact ⟨l, h.apart hg hq hno⟩
  | some l => exact Rd.apart h hg hq hno
theorem RfS.apart {w w' : World} {b q : Nat} {st : Option (List UInt8)} (h : RfS w b st) (hg : w.grownBy w' (some q)) (hq : b ≠ q) (hno : ∀ o x, w.cell? ⟨q, o, none⟩ ≠ some (.int .u8 x)) : RfS w' b st := by
  cases st with
  | none => obtain ⟨l, h⟩ := h; exact ⟨l, h.apart hg hq hno⟩
  | some l => exact Rf.apart h hg hq hno
theorem RdS.free {w w' : World} {b : Nat} {st : Option (List UInt8)} (h : RdS w b st) (hg : w.grownBy w' none) : RdS w' b st := by
  cases st with
  | none => obtain ⟨l, h⟩ := h; exact ⟨l, h.free hg⟩
  | some l => exact Rd.free h hg
theorem RfS.free {w w' : World} {b : Nat} {st : Option (List UInt8)} (h : RfS w b st) (hg : w.grownBy w' none) : RfS w' b st := by
  cases st with
  | none => obtain ⟨l, h⟩ := h; exact ⟨l, h.free hg⟩
  | some l => exact Rf.free h hg
def leftS : Option (List UInt8) → Int
  | none => 0
  | some l => l.length
theorem leftS_any (b : Nat) (st : Option (List UInt8)) (w : World) (h : RdS w b st) : Calls Try.prog 28 #[.pointer (some ⟨b, 0, none⟩)] w fun e w' => e = .returned (.int .i64 (leftS st)) ∧ w = w' := by
  cases st with
  | none => obtain ⟨l, h⟩ := h; exact left_any b l true w h
  | some l => exact left_any b l false w h
theorem rfLeftS_any (b : Nat) (st : Option (List UInt8)) (w : World) (h : RfS w b st) : Calls Try.prog 29 #[.pointer (some ⟨b, 0, none⟩)] w fun e w' => e = .returned (.int .i64 (leftS st)) ∧ w = w' := by
  cases st with
  | none => obtain ⟨l, h⟩ := h; exact rfLeft_any b l true w h
  | some l => exact rfLeft_any b l false w h
/-- Both readers stand at one place. -/
def Both (w0 : World) (q p : Nat) (n : Nat) (v : Value) (w : World) : Prop := ∃ (k : Nat) (st : Option (List UInt8)), k + n = 20 ∧ v = .int .i64 k ∧ RdS w q st ∧ RfS w p st ∧ Below w0.heap.size w0 w

set_option maxRecDepth 100000 in
set_option maxHeartbeats 4000000 in
theorem factReads_true (l : List UInt8) (A : Option Addr) (cap : Nat) (w : World) (hB : Bs w A l) :
    Calls Try.prog 6 #[.slice A l.length cap] w (BoolEnd true w) := by
  go_enter Try.func6, Try.ntmps6
  go_wp2_with fail
  refine (new_any l l.length rfl A cap w hB).mono ?_
  rintro e w1 ⟨q, hq, rfl, hr, hb⟩
  have hB1 := hB.below hb
  go_wp2_with fail
  refine (copyR_any l l.length rfl A cap w1 hB1).mono ?_
  rintro e w2 ⟨v, rfl, own, hb2⟩
  obtain ⟨P, c2, rfl, hS2, hc1, hc2, hPB⟩ := own_slice2 own
  have hB2 : Bs w2 P l := Bs.of_src hB.small hS2
  have hqlt : q < w1.heap.size := hr.lt
  have hsz := hb2.size
  have hr3 : RdS (w2.alloc (.cells #[.slice P l.length c2, .bool false] 47)) q (some l) := Rd.free (hr.free (grown_of_below hb2)) (grown_of_below (below_alloc1 _ _))
  have hf3 : RfS (w2.alloc (.cells #[.slice P l.length c2, .bool false] 47)) w2.heap.size (some l) :=
    ⟨P, c2, by unfold RfIn World.alloc; simp, hc1, by unfold maxLen at hc2; omega, hB2.below (below_alloc1 _ _), hPB⟩
  have hb3 : Below w.heap.size w (w2.alloc (.cells #[.slice P l.length c2, .bool false] 47)) := below_of (below_of hb hb2) (below_alloc1 _ _)
  have hqp : q ≠ w2.heap.size := by omega
  have hp0 : w.heap.size ≤ w2.heap.size := by have := hb.size; omega
  have HI := Lib.hid (And.intro hr3 (And.intro hf3 (And.intro hb3 hqp)))
  have HQ := Lib.hid (And.intro hq hp0)
  clear hr3 hf3 hb3 hqp hsz hqlt hPB hB2 hc1 hc2 hS2 own hb2 hB1 hr hB hb hq hp0
  go_wp2
  generalize w2.alloc (.cells #[.slice P l.length c2, .bool false] 47) = W at *
  generalize w2.heap.size = p at *
  go_loopg [5] 20 (fun n v5 wr => Both w q p n v5 wr)
  case atStart => exact ⟨0, some l, rfl, rfl, HI.out.1, HI.out.2.1, HI.out.2.2.1⟩
  case round =>
    obtain ⟨k, st, hkn, rfl, hr, hf, hb⟩ := hrel
    have hqp := HI.out.2.2.2
    have hq0 := HQ.out.1
    have hp0 := HQ.out.2
    by_cases hk : k < 20
    · have d : decide ((k : Int) < 20) = true := by simp; omega
      have G := getKey_any q st wr hr
      have HN := Lib.hid (And.intro hkn (And.intro hr (And.intro hf (And.intro hb hqp))))
      have HK := Lib.hid hk
      clear hkn hr hf hb hqp HI
      have HG := Lib.hid G
      have H2 := Lib.hid (fun w h => rfKey_any p st w h)
      clear G
      generalize getK st = g at *
      go_wp2_with fail
      refine HG.out.mono ?_
      rintro e w1 ⟨rfl, hg, hr⟩
      have hf1 := HN.out.2.2.1.apart hg (fun h => HN.out.2.2.2.2 h.symm) HN.out.2.1.nobyte
      have hz1 : w1.grownBy (w1.alloc (.cells #[.int .i64 g.i, .int .u8 g.u, .string g.s, .int .i64 g.c] 23)) none := grown_of_below (below_alloc1 w1 (.cells #[.int .i64 g.i, .int .u8 g.u, .string g.s, .int .i64 g.c] 23))
      have hk1 : KeyIn (w1.alloc (.cells #[.int .i64 g.i, .int .u8 g.u, .string g.s, .int .i64 g.c] 23)) w1.heap.size g.i g.u g.s g.c := keyBox w1 _ _ _ _
      have hplt := hf1.lt
      have hr1 := hr.free hz1
      have hf2 := hf1.free hz1
      have hg1 : wr.grownBy (w1.alloc (.cells #[.int .i64 g.i, .int .u8 g.u, .string g.s, .int .i64 g.c] 23)) (some q) := hg.trans (hz1.but _)
      have G2 := H2.out _ hf2
      have HN2 := Lib.hid (And.intro hg1 (And.intro hr1 (And.intro hk1 (And.intro hf2 hplt))))
      clear hg hr hf1 hz1 hk1 hplt hr1 hf2 hg1 HG H2
      have HG2 := Lib.hid G2
      clear G2
      go_wp2_with fail
      refine HG2.out.mono ?_
      rintro e w2 ⟨rfl, hg, hr⟩
      have hr2 := HN2.out.2.1.apart hg HN.out.2.2.2.2 HN2.out.2.2.2.1.nobyte
      have hk2 := HN2.out.2.2.1.far hg (fun h => by have := HN2.out.2.2.2.2; omega)
      have hz2 : w2.grownBy (w2.alloc (.cells #[.int .i64 g.i, .int .u8 g.u, .string g.s, .int .i64 g.c] 23)) none := grown_of_below (below_alloc1 w2 (.cells #[.int .i64 g.i, .int .u8 g.u, .string g.s, .int .i64 g.c] 23))
      have hm2 : KeyIn (w2.alloc (.cells #[.int .i64 g.i, .int .u8 g.u, .string g.s, .int .i64 g.c] 23)) w2.heap.size g.i g.u g.s g.c := keyBox w2 _ _ _ _
      have hk3 := hk2.free hz2
      have hr3 := hr2.free hz2
      have hf3 := hr.free hz2
      have hb3 : Below w.heap.size w (w2.alloc (.cells #[.int .i64 g.i, .int .u8 g.u, .string g.s, .int .i64 g.c] 23)) := below_of (below_grown (below_grown HN.out.2.2.2.1 hq0 HN2.out.1) hp0 hg) (below_alloc1 _ _)
      obtain ⟨a0, a1, a2, a3⟩ := hk3.cells.1
      obtain ⟨b0, b1, b2, b3⟩ := hm2.cells.1
      have HN3 := Lib.hid (And.intro hr3 (And.intro hf3 (And.intro hb3 (And.intro HN.out.1 HN.out.2.2.2.2))))
      clear hg hr hr2 hk2 hz2 hm2 hk3 hr3 hf3 hb3 HN2 HN HG2
      go_wp2_with fail
      refine (leftS_any q g.left _ HN3.out.1).mono ?_
      rintro e _ ⟨rfl, rfl⟩
      go_wp2_with fail
      refine (rfLeftS_any p g.left _ HN3.out.2.1).mono ?_
      rintro e _ ⟨rfl, rfl⟩
      go_wp2
      go_roundg (gk - 1)
      case measure => have e1 : k + gk = 20 := HN3.out.2.2.2.1; have e2 : k < 20 := HK.out; omega
      case rel => exact ⟨k + 1, g.left, by have e1 : k + gk = 20 := HN3.out.2.2.2.1; have e2 : k < 20 := HK.out; omega, by go_num, HN3.out.1, HN3.out.2.1, HN3.out.2.2.1⟩
    · have d : decide ((k : Int) < 20) = false := by simp; omega
      have HN := Lib.hid hb
      have HK := Lib.hid hk
      clear hkn hr hf hb hqp hk HI
      go_wp2_with fail
      refine (works06 _).mono ?_
      rintro e w4 ⟨rfl, hb⟩
      go_wp2
      go_ret
      exact ⟨rfl, below_of HN.out hb⟩
end Go.Proofs.Ytkianpkkligljaa
