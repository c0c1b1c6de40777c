/- The program's GetKey. -/
import Derived.Test.YtkianpkkligljaaRdRow
import Derived.Test.YtkianpkkligljaaKeys
import Derived.Laws.IdiomStrings
import Derived.Lib.BufferRead
namespace Go.Proofs.Ytkianpkkligljaa
open Go.RowKit

theorem Rd.far {w w' : World} {b q : Nat} {l : List UInt8} {no : Bool} (h : Rd w b l no) (hg : w.grownBy w' (some q)) (hq : b < q) : Rd w' b l no := by
  obtain ⟨A, c, hr, hc, hm, hB, hn⟩ := h.at'
  have hlt : b < w.heap.size := World.block_lt_of_cell? w _ hr.cells.1
  exact ⟨A, c, (hg.block b hlt (by simp; omega)).trans hr, hc, hm, hB.grown hg (fun ad e => by have := hn ad e; omega), hn⟩
theorem Rd.lt {w : World} {b : Nat} {l : List UInt8} {no : Bool} (h : Rd w b l no) : b < w.heap.size := by
  obtain ⟨A, c, hr, _⟩ := h.at'
  exact World.block_lt_of_cell? w _ hr.cells.1
theorem bs_string {w : World} {A : Option Addr} {l : List UInt8} (h : Bs w A l) (n : Nat) (hn : l.length = n) (c : Nat) : (convert 24 9 (.slice A n c)).run Try.prog w = .ok (.string ⟨l.toArray⟩) w := by
  subst hn
  cases l with
  | nil =>
    cases A with
    | none => exact Lib.run_convert_nil_bytes w _ _ 5 c Try.underlying24 Try.underlying5 Try.underlying9
    | some ad => exact run_convert_bytes_back w _ _ 5 ad c [] Try.underlying24 Try.underlying5 Try.underlying9 (fun j hj => by simp at hj)
  | cons x l =>
    obtain ⟨ad, rfl, _⟩ := h.cell 0 (by simp)
    refine run_convert_bytes_back w _ _ 5 ad c (x :: l) Try.underlying24 Try.underlying5 Try.underlying9 (fun j hj => ?_)
    obtain ⟨_, e, hc⟩ := h.cell j hj
    cases e; exact hc

/-- A key, an error, what is left ('none': it refused). -/
structure Got where
  i : Int
  u : Int
  s : ByteArray
  c : Int
  e : Int
  left : Option (List UInt8)
def Got.no (e : Int) (left : Option (List UInt8)) : Got := ⟨0, 0, ⟨#[]⟩, 0, e, left⟩
def gotFin (i u : Int) (s : ByteArray) (c : Int) (r : List UInt8) : Got := if mayKey i u s c then ⟨i, u, s, c, 0, some r⟩ else .no 5 (some r)
def getK : Option (List UInt8) → Got
  | none => .no 4 none
  | some l =>
    if l.length < 3 then .no 4 none
    else
      if byteAt l 2 = 2 then (if (l.drop 3).length < 1 + (byteAt (l.drop 3) 0).toNat then .no 4 none else gotFin (byteAt l 0 + byteAt l 1 * 256) 2 ⟨(((l.drop 3).drop 1).take (byteAt (l.drop 3) 0).toNat).toArray⟩ 0 (((l.drop 3).drop 1).drop (byteAt (l.drop 3) 0).toNat))
      else if byteAt l 2 = 3 then (if (l.drop 3).length < 1 then .no 4 none else gotFin (byteAt l 0 + byteAt l 1 * 256) 3 ⟨#[]⟩ (byteAt (l.drop 3) 0) ((l.drop 3).drop 1))
      else gotFin (byteAt l 0 + byteAt l 1 * 256) (byteAt l 2) ⟨#[]⟩ 0 (l.drop 3)
/-- The reader's state. -/
def RdS (w : World) (b : Nat) : Option (List UInt8) → Prop
  | none => ∃ l, Rd w b l true
  | some l => Rd w b l false
def GotEnd (b : Nat) (g : Got) (w : World) (e : Ending) (w' : World) : Prop :=
  e = .returned (.tuple #[.agg #[.int .i64 g.i, .int .u8 g.u, .string g.s, .int .i64 g.c], .int .i64 g.e]) ∧ w.grownBy w' (some b) ∧ RdS w' b g.left

theorem keyBox (w : World) (i u : Int) (s : ByteArray) (c : Int) :
    (w.alloc (.cells #[.int .i64 i, .int .u8 u, .string s, .int .i64 c] 23)).heap[w.heap.size]? = some (.cells #[.int .i64 i, .int .u8 u, .string s, .int .i64 c] 23) := by
  unfold World.alloc; simp
/-- A box of a key. -/
def KeyIn (w : World) (q : Nat) (i u : Int) (s : ByteArray) (c : Int) : Prop := w.heap[q]? = some (.cells #[.int .i64 i, .int .u8 u, .string s, .int .i64 c] 23)
theorem KeyIn.cells {w : World} {q : Nat} {i u : Int} {s : ByteArray} {c : Int} (h : KeyIn w q i u s c) : (w.cell? ⟨q, 0, none⟩ = some (.int .i64 i) ∧ w.cell? ⟨q, 1, none⟩ = some (.int .u8 u) ∧ w.cell? ⟨q, 2, none⟩ = some (.string s) ∧ w.cell? ⟨q, 3, none⟩ = some (.int .i64 c)) ∧ w.frozen? ⟨q, 0, none⟩ = false ∧ w.frozen? ⟨q, 1, none⟩ = false ∧ w.frozen? ⟨q, 2, none⟩ = false ∧ w.frozen? ⟨q, 3, none⟩ = false := by
  unfold KeyIn at h
  refine ⟨⟨?_, ?_, ?_, ?_⟩, ?_, ?_, ?_, ?_⟩ <;> simp [World.cell?, World.frozen?, h]
theorem KeyIn.lt {w : World} {q : Nat} {i u : Int} {s : ByteArray} {c : Int} (h : KeyIn w q i u s c) : q < w.heap.size := World.block_lt_of_cell? w _ h.cells.1.1
theorem KeyIn.free {w w' : World} {q : Nat} {i u : Int} {s : ByteArray} {c : Int} (h : KeyIn w q i u s c) (hg : w.grownBy w' none) : KeyIn w' q i u s c := (hg.block q h.lt (by simp)).trans h
theorem KeyIn.far {w w' : World} {q : Nat} {i u : Int} {s : ByteArray} {c : Int} (h : KeyIn w q i u s c) {r : Nat} (hg : w.grownBy w' (some r)) (hne : q ≠ r) : KeyIn w' q i u s c := (hg.block q h.lt (by simpa using hne)).trans h

/-- A key is put into its box. -/
def putBox (w : World) (q : Nat) (i u : Int) (s : ByteArray) (c : Int) : World := (((w.setCell ⟨q, 0, none⟩ (.int .i64 i)).setCell ⟨q, 1, none⟩ (.int .u8 u)).setCell ⟨q, 2, none⟩ (.string s)).setCell ⟨q, 3, none⟩ (.int .i64 c)
theorem putBox_grown (w : World) (q : Nat) (i u : Int) (s : ByteArray) (c : Int) : w.grownBy (putBox w q i u s c) (some q) :=
  (((grown_setCell w ⟨q, 0, none⟩ _).trans (grown_setCell _ ⟨q, 1, none⟩ _)).trans (grown_setCell _ ⟨q, 2, none⟩ _)).trans (grown_setCell _ ⟨q, 3, none⟩ _)
theorem putBox_cells {w : World} {q : Nat} {i u : Int} {s : ByteArray} {c : Int} (h : KeyIn w q i u s c) (i' u' : Int) (s' : ByteArray) (c' : Int) :
    (w.setCell ⟨q, 0, none⟩ (.int .i64 i')).cell? ⟨q, 0, none⟩ = some (.int .i64 i') ∧
    ((w.setCell ⟨q, 0, none⟩ (.int .i64 i')).setCell ⟨q, 1, none⟩ (.int .u8 u')).cell? ⟨q, 1, none⟩ = some (.int .u8 u') ∧
    (((w.setCell ⟨q, 0, none⟩ (.int .i64 i')).setCell ⟨q, 1, none⟩ (.int .u8 u')).setCell ⟨q, 2, none⟩ (.string s')).cell? ⟨q, 2, none⟩ = some (.string s') ∧
    (putBox w q i' u' s' c').cell? ⟨q, 3, none⟩ = some (.int .i64 c') := by
  unfold KeyIn at h
  unfold putBox
  refine ⟨?_, ?_, ?_, ?_⟩ <;> simp [World.cell?, World.setCell, Array.getElem?_modify, h]

set_option maxRecDepth 20000 in
set_option maxHeartbeats 1000000 in
theorem getKey_refused (b : Nat) (l : List UInt8) (no : Bool) (w : World) (h : Rd w b l no) (hs : no = true ∨ l.length < 2) : Calls Try.prog 26 #[.pointer (some ⟨b, 0, none⟩)] w (GotEnd b (.no 4 none) w) := by
  have hlt := h.lt
  have h0 := h.free (grown_of_below (below_alloc1 w (.cells #[.int .i64 0, .int .u8 0, .string ⟨#[]⟩, .int .i64 0] 23)))
  have hk0 : KeyIn (w.alloc (.cells #[.int .i64 0, .int .u8 0, .string ⟨#[]⟩, .int .i64 0] 23)) w.heap.size 0 0 ⟨#[]⟩ 0 := keyBox w 0 0 ⟨#[]⟩ 0
  have hg0 : w.grownBy (w.alloc (.cells #[.int .i64 0, .int .u8 0, .string ⟨#[]⟩, .int .i64 0] 23)) (some b) := grown_of_below (below_alloc1 _ _)
  have T := Lib.hid (take_two b l no _ h0)
  go_enter Try.func26, Try.ntmps26
  go_wp2_with fail
  refine T.out.mono ?_
  rintro e w1 ⟨hg, ⟨rfl, hl, rfl, hr⟩ | ⟨_, rfl, hr⟩⟩
  · exfalso; rcases hs with h | h
    · cases h
    · omega
  · replace hg0 := hg0.trans hg
    replace hk0 := hk0.far hg (by omega)
    clear hg T h0
    go_wp2_with fail
    refine (take_one b l true w1 hr).mono ?_
    rintro e w2 ⟨hg, ⟨h, _⟩ | ⟨_, rfl, hr2⟩⟩
    · cases h
    · replace hg0 := hg0.trans hg
      replace hk0 := hk0.far hg (by omega)
      clear hg hr
      have hz := below_alloc1 w2 (.cells #[.int .i64 0, .int .u8 0, .string ⟨#[]⟩, .int .i64 0] 23)
      replace hg0 := hg0.trans (grown_of_below hz)
      replace hk0 := hk0.free (grown_of_below hz)
      replace hr2 := hr2.free (grown_of_below hz)
      clear hz
      obtain ⟨⟨a0, a1, a2, a3⟩, f0, f1, f2, f3⟩ := hk0.cells
      obtain ⟨p0, p1, p2, p3⟩ := putBox_cells hk0 0 0 ⟨#[]⟩ 0
      have HG := Lib.hid (And.intro hg0 (And.intro hr2 hk0))
      unfold putBox at p3
      clear hg0 hr2 hk0
      go_wp2
      (try simp only [Exit.inBlock, Exit.then])
      refine bodyPost_ret (by simp [results, Try.results26, go_sem, p0, p1, p2, p3]; try rfl) rfl ?_
      have hp := putBox_grown (w2.alloc (.cells #[.int .i64 0, .int .u8 0, .string ⟨#[]⟩, .int .i64 0] 23)) w.heap.size 0 0 ⟨#[]⟩ 0
      exact ⟨rfl, HG.out.1.andThen hp (fun j hj => by cases hj; exact .inl (Nat.le_refl _)), _, HG.out.2.1.far hp hlt⟩
end Go.Proofs.Ytkianpkkligljaa
