/- The walk of the statement FactKeys: it comes to true. -/
import Derived.Test.YteholhldejggcaaWorks06
namespace Go.Proofs.Yteholhldejggcaa
open Go.RowKit

theorem same_self (l : List UInt8) (n : Nat) (hn : l.length = n) (A B : Option Addr) (ca cb : Nat) (w : World) (ha : Bs w A l) (hb : Bs w B l) :
    Calls Try.prog 13 #[.slice A n ca, .slice B n cb] w (BoolEnd true w) :=
  (same_n l l n n hn hn A B ca cb w ha hb).mono fun e w' ⟨he, hb⟩ => ⟨by rw [he]; simp, hb⟩
theorem keyBytes_small {i u : Int} {s : ByteArray} {c : Int} (h : mayKey i u s c = true) : (keyBytes i u s c).length ≤ 140737488355328 := by
  unfold keyBytes keyTail
  rcases (mayKey_what h).2 with rfl | ⟨rfl, hn⟩ | ⟨rfl, _⟩
  · simp
  · have := nameB_size hn
    simp; omega
  · simp

set_option maxRecDepth 100000 in
set_option maxHeartbeats 1000000 in
theorem factKeys_true (i u : Int) (s : ByteArray) (c i' u' : Int) (s' : ByteArray) (c' : Int) (hs : s.size ≤ maxLen) (hs' : s'.size ≤ maxLen) (w : World) :
    Calls Try.prog 3 #[.agg #[.int .i64 i, .int .u8 u, .string s, .int .i64 c], .agg #[.int .i64 i', .int .u8 u', .string s', .int .i64 c']] w (BoolEnd true w) := by
  have P1 := Lib.hid (fun w => putKey_any i u s c hs w)
  have P2 := Lib.hid (fun w => refPutKey_any i u s c hs w)
  have M1 := Lib.hid (fun w => mayKey_any i u s c hs w)
  have M2 := Lib.hid (fun w => refMayKey_any i u s c hs w)
  have B1 := Lib.hid (fun w => before_any i u s c i' u' s' c' w)
  have B2 := Lib.hid (fun w => refBefore_any i u s c i' u' s' c' hs hs' w)
  generalize before i u s c i' u' s' c' = b at B1 B2
  have hl := fun h : mayKey i u s c = true => keyBytes_small h
  generalize keyBytes i u s c = l at P1 P2 hl
  generalize mayKey i u s c = m at P1 P2 M1 M2 hl
  go_enter Try.func3, Try.ntmps3
  go_wp2_with fail
  refine (P1.out _).mono ?_
  rintro e w1 h1
  change KeyEnd m l (twoKeys w i u s c i' u' s' c') e w1 at h1
  obtain ⟨⟨a0, a1, a2, a3⟩, ⟨b0, b1, b2, b3⟩⟩ := twoKeys_cells w i u s c i' u' s' c'
  have hbw := twoKeys_below w i u s c i' u' s' c'
  generalize twoKeys w i u s c i' u' s' c' = W0 at *
  rcases h1 with ⟨rfl, rfl, hb1⟩ | ⟨rfl, v1, rfl, own1, hb1⟩
  · have a0 := cell_below hb1 a0
    have a1 := cell_below hb1 a1
    have a2 := cell_below hb1 a2
    have a3 := cell_below hb1 a3
    go_wp2_with fail
    refine (P2.out _).mono ?_
    rintro e w2 (⟨_, rfl, hb2⟩ | ⟨h, _⟩)
    · have hb12 := below_of hb1 hb2
      have a0 := cell_regrown (cell_below hb2 a0)
      have a1 := cell_regrown (cell_below hb2 a1)
      have a2 := cell_regrown (cell_below hb2 a2)
      have a3 := cell_regrown (cell_below hb2 a3)
      have b0 := cell_regrown (cell_below hb12 b0)
      have b1 := cell_regrown (cell_below hb12 b1)
      have b2 := cell_regrown (cell_below hb12 b2)
      have b3 := cell_regrown (cell_below hb12 b3)
      have S1 := Lib.hid (fun w => same_n [] [] 0 0 rfl rfl none none 0 0 w (Bs.nil w none) (Bs.nil w none))
      go_wp2_with fail
      refine wp_region_quiet_below (by kernel_rfl) (by kernel_rfl) ?_
      repeat (go_big_quiet_step ((first | (go_at_call 9; exact Calls.regrown_of (M1.out _)) | (go_at_call 10; exact Calls.regrown_of (M2.out _)) | (go_at_call 11; exact Calls.regrown_of (B1.out _)) | (go_at_call 12; exact Calls.regrown_of (B2.out _)) | (go_at_call 13; exact Calls.regrown_of (S1.out _)) | (go_at_call 14; exact Calls.regrown_of (works06 _)))))
      refine wpQuiet_nil ?_
      intro w3 hw3
      replace hw3 : Below w2.heap.size w2 w3 := by obtain ⟨⟨dq, osq⟩, rfl⟩ := hw3; exact below_regrown w2 dq osq
      go_wp2
      go_ret
      exact ⟨rfl, below_of hbw (below_of hb12 hw3)⟩
    · cases h
  · obtain ⟨A1, c1, rfl, src1⟩ := own_slice own1
    have a0 := cell_below hb1 a0
    have a1 := cell_below hb1 a1
    have a2 := cell_below hb1 a2
    have a3 := cell_below hb1 a3
    go_wp2_with fail
    refine (P2.out _).mono ?_
    rintro e w2 (⟨h, _⟩ | ⟨_, v2, rfl, own2, hb2⟩)
    · cases h
    · obtain ⟨A2, c2, rfl, src2⟩ := own_slice own2
      have hb12 := below_of hb1 hb2
      have a0 := cell_regrown (cell_below hb2 a0)
      have a1 := cell_regrown (cell_below hb2 a1)
      have a2 := cell_regrown (cell_below hb2 a2)
      have a3 := cell_regrown (cell_below hb2 a3)
      have b0 := cell_regrown (cell_below hb12 b0)
      have b1 := cell_regrown (cell_below hb12 b1)
      have b2 := cell_regrown (cell_below hb12 b2)
      have b3 := cell_regrown (cell_below hb12 b3)
      have hr1 : Bs w2 A1 l := (Bs.of_src (hl (by first | rfl | trivial)) src1).below hb2
      have hr2 : Bs w2 A2 l := Bs.of_src (hl (by first | rfl | trivial)) src2
      have S1 := Lib.hid (fun (d : Nat) (os : Array Obj) => same_self l l.length rfl A1 A2 c1 c2 _ (hr1.below (below_regrown w2 d os)) (hr2.below (below_regrown w2 d os)))
      go_wp2_with fail
      refine wp_region_quiet_below (by kernel_rfl) (by kernel_rfl) ?_
      repeat (go_big_quiet_step ((first | (go_at_call 9; exact Calls.regrown_of (M1.out _)) | (go_at_call 10; exact Calls.regrown_of (M2.out _)) | (go_at_call 11; exact Calls.regrown_of (B1.out _)) | (go_at_call 12; exact Calls.regrown_of (B2.out _)) | (go_at_call 13; exact Calls.regrown_of (S1.out _ _)) | (go_at_call 14; exact Calls.regrown_of (works06 _)))))
      refine wpQuiet_nil ?_
      intro w3 hw3
      replace hw3 : Below w2.heap.size w2 w3 := by obtain ⟨⟨dq, osq⟩, rfl⟩ := hw3; exact below_regrown w2 dq osq
      go_wp2
      go_ret
      exact ⟨rfl, below_of hbw (below_of hb12 hw3)⟩
end Go.Proofs.Yteholhldejggcaa
