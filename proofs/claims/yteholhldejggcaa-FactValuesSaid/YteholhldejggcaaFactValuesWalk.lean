/- The walk of the statement FactValues: it comes to true. -/
import Derived.Test.YteholhldejggcaaEntry
import Derived.Test.YteholhldejggcaaWorks06
namespace Go.Proofs.Yteholhldejggcaa
open Go.RowKit

/-- Bytes and an error, as one. -/
def RowEnd (l : List UInt8) (er : Int) (w : World) (e : Ending) (w' : World) : Prop := ∃ A c, e = .returned (.tuple #[.slice A l.length c, .int .i64 er]) ∧ Bs w' A l ∧ Below w.heap.size w w'
theorem KeyEnd.row {ok : Bool} {l : List UInt8} {w w' : World} {e : Ending} (hl : ok = true → l.length ≤ 140737488355328) (h : KeyEnd ok l w e w') : RowEnd (if ok then l else []) (if ok then 0 else 2) w e w' := by
  rcases h with ⟨rfl, rfl, hb⟩ | ⟨rfl, v, rfl, ho, hb⟩
  · exact ⟨none, 0, rfl, Bs.nil _ _, hb⟩
  · obtain ⟨A, c, rfl, hB⟩ := ho.bs (hl rfl)
    exact ⟨A, c, rfl, hB, hb⟩
theorem same_one (l : List UInt8) (m : Nat) (hm : l.length = m) (A B : Option Addr) (ca cb : Nat) (w : World) (ha : Bs w A l) (hb : Bs w B l) :
    Calls Try.prog 13 #[.slice A m ca, .slice B m cb] w (BoolEnd true w) :=
  (same_n l l m m hm hm A B ca cb w ha hb).mono fun e w' ⟨he, hb⟩ => ⟨by rw [he]; simp, hb⟩

theorem nodeBox (w : World) (x0 x1 x2 : Int) :
    (w.alloc (.cells #[.int .u8 x0, .int .i64 x1, .int .i64 x2] 34)).cell? ⟨w.heap.size, 0, none⟩ = some (.int .u8 x0) ∧ (w.alloc (.cells #[.int .u8 x0, .int .i64 x1, .int .i64 x2] 34)).cell? ⟨w.heap.size, 1, none⟩ = some (.int .i64 x1) ∧ (w.alloc (.cells #[.int .u8 x0, .int .i64 x1, .int .i64 x2] 34)).cell? ⟨w.heap.size, 2, none⟩ = some (.int .i64 x2) := by
  refine ⟨by go_simp, by go_simp, by go_simp⟩

set_option maxRecDepth 100000 in
set_option maxHeartbeats 2000000 in
theorem factValues_true (k n s i : Int) (l : List UInt8) (m : Nat) (hm : l.length = m) (A : Option Addr) (c : Nat) (w : World) (hA : Bs w A l) :
    Calls Try.prog 5 #[.agg #[.int .u8 k, .int .i64 n, .int .i64 s], .int .i64 i, .slice A m c] w (BoolEnd true w) := by
  have P1 := Lib.hid (fun w => (nodeValue_any k n s w).mono fun e w' h => KeyEnd.row (fun _ => by simp [nodeBytes]) h)
  have P2 := Lib.hid (fun w => (refNodeValue_any k n s w).mono fun e w' h => KeyEnd.row (fun _ => by simp [nodeBytes]) h)
  have P3 := Lib.hid (fun w => (entryValue_any i w).mono fun e w' h => KeyEnd.row (fun _ => by simp) h)
  have P4 := Lib.hid (fun w => (refEntryValue_any i w).mono fun e w' h => KeyEnd.row (fun _ => by simp) h)
  have Q1 := Lib.hid (fun w h => node_any l m hm A c w h)
  have Q2 := Lib.hid (fun w h => refNode_any l m hm A c w h)
  have Q3 := Lib.hid (fun w h => entry_any l m hm A c w h)
  have Q4 := Lib.hid (fun w h => refEntry_any l m hm A c w h)
  generalize (if nodeOk k n s = true then nodeBytes k n s else []) = l1 at P1 P2
  generalize (if nodeOk k n s = true then (0 : Int) else 2) = e1 at P1 P2
  generalize (if inoOk i = true then [lo i, hi i] else []) = l2 at P3 P4
  generalize (if inoOk i = true then (0 : Int) else 2) = e2 at P3 P4
  unfold NodeEnd NodeIs at Q1 Q2
  unfold EntryEnd at Q3 Q4
  generalize nodeOf l = nd at Q1 Q2
  generalize entryOf l = en at Q3 Q4
  obtain ⟨x0, x1, x2, x3⟩ := nd
  obtain ⟨y0, y1⟩ := en
  dsimp only at Q1 Q2 Q3 Q4
  have q1 : (e1 == e1) = true := by simp
  have q2 : (e2 == e2) = true := by simp
  have q3 : (x3 == x3) = true := by simp
  have q4 : (y0 == y0) = true := by simp
  have q5 : (y1 == y1) = true := by simp
  obtain ⟨m1, hm1⟩ : ∃ m1, l1.length = m1 := ⟨_, rfl⟩
  obtain ⟨m2, hm2⟩ : ∃ m2, l2.length = m2 := ⟨_, rfl⟩
  unfold RowEnd at P1 P2 P3 P4
  rw [hm1] at P1 P2
  rw [hm2] at P3 P4
  have hB0 := hA.below (below_alloc1 w (.cells #[.int .u8 k, .int .i64 n, .int .i64 s] 34))
  have hw0 := below_alloc1 w (.cells #[.int .u8 k, .int .i64 n, .int .i64 s] 34)
  go_enter Try.func5, Try.ntmps5
  go_wp2_with fail
  refine (P1.out _).mono ?_
  rintro e w1 ⟨A1, c1, rfl, hB1, hb1⟩
  have b0 := cell_below hb1 (show (w.alloc (.cells #[.int .u8 k, .int .i64 n, .int .i64 s] 34)).cell? ⟨w.heap.size, 0, none⟩ = some (.int .u8 k) by go_simp)
  have b1 := cell_below hb1 (show (w.alloc (.cells #[.int .u8 k, .int .i64 n, .int .i64 s] 34)).cell? ⟨w.heap.size, 1, none⟩ = some (.int .i64 n) by go_simp)
  have b2 := cell_below hb1 (show (w.alloc (.cells #[.int .u8 k, .int .i64 n, .int .i64 s] 34)).cell? ⟨w.heap.size, 2, none⟩ = some (.int .i64 s) by go_simp)
  have hA := hB0.below hb1
  have hw := below_of hw0 hb1
  clear hB0 hw0 hb1
  go_wp2_with fail
  refine (P2.out _).mono ?_
  rintro e w2 ⟨A2, c2, rfl, hB2, hb⟩
  replace hA := hA.below hb
  replace hw := below_of hw hb
  replace hB1 := hB1.below hb
  clear hb b0 b1 b2
  go_wp2_with fail
  refine (P3.out _).mono ?_
  rintro e w3 ⟨A3, c3, rfl, hB3, hb⟩
  replace hA := hA.below hb
  replace hw := below_of hw hb
  replace hB1 := hB1.below hb
  replace hB2 := hB2.below hb
  clear hb
  go_wp2_with fail
  refine (P4.out _).mono ?_
  rintro e w4 ⟨A4, c4, rfl, hB4, hb⟩
  replace hA := hA.below hb
  replace hw := below_of hw hb
  replace hB1 := hB1.below hb
  replace hB2 := hB2.below hb
  replace hB3 := hB3.below hb
  clear hb
  go_wp2_with fail
  refine (Q1.out _ hA).mono ?_
  rintro e w5 ⟨rfl, hb⟩
  replace hb := below_of hb (below_alloc1 w5 (.cells #[.int .u8 x0, .int .i64 x1, .int .i64 x2] 34))
  replace hA := hA.below hb
  replace hw := below_of hw hb
  replace hB1 := hB1.below hb
  replace hB2 := hB2.below hb
  replace hB3 := hB3.below hb
  replace hB4 := hB4.below hb
  clear hb
  obtain ⟨n0, n1, n2⟩ := nodeBox w5 x0 x1 x2
  obtain ⟨W5, hW5⟩ : ∃ W, w5.alloc (.cells #[.int .u8 x0, .int .i64 x1, .int .i64 x2] 34) = W := ⟨_, rfl⟩
  rw [hW5] at hA hw hB1 hB2 hB3 hB4 n0 n1 n2
  go_wp2_with fail
  clear hW5
  refine (Q2.out _ hA).mono ?_
  rintro e w6 ⟨rfl, hb⟩
  replace hb := below_of hb (below_alloc1 w6 (.cells #[.int .u8 x0, .int .i64 x1, .int .i64 x2] 34))
  replace hA := hA.below hb
  replace hw := below_of hw hb
  replace hB1 := hB1.below hb
  replace hB2 := hB2.below hb
  replace hB3 := hB3.below hb
  replace hB4 := hB4.below hb
  replace n0 := cell_below hb n0
  replace n1 := cell_below hb n1
  replace n2 := cell_below hb n2
  clear hb
  obtain ⟨o0, o1, o2⟩ := nodeBox w6 x0 x1 x2
  obtain ⟨W6, hW6⟩ : ∃ W, w6.alloc (.cells #[.int .u8 x0, .int .i64 x1, .int .i64 x2] 34) = W := ⟨_, rfl⟩
  rw [hW6] at hA hw hB1 hB2 hB3 hB4 n0 n1 n2 o0 o1 o2
  go_wp2_with fail
  clear hW6
  refine (Q3.out _ hA).mono ?_
  rintro e w7 ⟨rfl, hb⟩
  replace hA := hA.below hb
  replace hw := below_of hw hb
  replace hB1 := hB1.below hb
  replace hB2 := hB2.below hb
  replace hB3 := hB3.below hb
  replace hB4 := hB4.below hb
  replace n0 := cell_below hb n0
  replace n1 := cell_below hb n1
  replace n2 := cell_below hb n2
  replace o0 := cell_below hb o0
  replace o1 := cell_below hb o1
  replace o2 := cell_below hb o2
  clear hb
  go_wp2_with fail
  refine (Q4.out _ hA).mono ?_
  rintro e w8 ⟨rfl, hb⟩
  replace hA := hA.below hb
  replace hw := below_of hw hb
  replace hB1 := hB1.below hb
  replace hB2 := hB2.below hb
  replace hB3 := hB3.below hb
  replace hB4 := hB4.below hb
  replace n0 := cell_below hb n0
  replace n1 := cell_below hb n1
  replace n2 := cell_below hb n2
  replace o0 := cell_below hb o0
  replace o1 := cell_below hb o1
  replace o2 := cell_below hb o2
  clear hb
  go_wp2_with fail
  refine (same_one l1 m1 hm1 A1 A2 c1 c2 _ hB1 hB2).mono ?_
  rintro e w9 ⟨rfl, hb⟩
  replace hA := hA.below hb
  replace hw := below_of hw hb
  replace hB1 := hB1.below hb
  replace hB2 := hB2.below hb
  replace hB3 := hB3.below hb
  replace hB4 := hB4.below hb
  replace n0 := cell_below hb n0
  replace n1 := cell_below hb n1
  replace n2 := cell_below hb n2
  replace o0 := cell_below hb o0
  replace o1 := cell_below hb o1
  replace o2 := cell_below hb o2
  clear hb
  go_wp2_with fail
  refine (same_one l2 m2 hm2 A3 A4 c3 c4 _ hB3 hB4).mono ?_
  rintro e w10 ⟨rfl, hb⟩
  replace hA := hA.below hb
  replace hw := below_of hw hb
  replace hB1 := hB1.below hb
  replace hB2 := hB2.below hb
  replace hB3 := hB3.below hb
  replace hB4 := hB4.below hb
  replace n0 := cell_below hb n0
  replace n1 := cell_below hb n1
  replace n2 := cell_below hb n2
  replace o0 := cell_below hb o0
  replace o1 := cell_below hb o1
  replace o2 := cell_below hb o2
  clear hb
  go_wp2_with fail
  refine (works06 _).mono ?_
  rintro e w11 ⟨rfl, hb⟩
  replace hw := below_of hw hb
  go_wp2
  go_ret
  exact ⟨rfl, hw⟩
end Go.Proofs.Yteholhldejggcaa
