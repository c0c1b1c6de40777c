/- The walk of the statement FactBack: it comes to true. -/
import Derived.Test.YteholhldejggcaaFactBack0
import Derived.Test.YteholhldejggcaaFactKeysWalk
import Derived.Test.YteholhldejggcaaFactOrderWalk
namespace Go.Proofs.Yteholhldejggcaa
open Go.RowKit

set_option maxHeartbeats 400000 in
theorem copy_any (l : List UInt8) (n : Nat) (hn : l.length = n) (A : Option Addr) (c : Nat) (w : World) (hA : Bs w A l) : Calls Try.prog 23 #[.slice A n c] w fun e w' => ∃ v, e = .returned v ∧ OwnB w' w.heap.size v l ∧ Below w.heap.size w w' := by
  subst hn
  have own0 := OwnB.nil w w.heap.size
  have hsm := hA.small
  have src := hA.src
  have hlt : w.heap.size ≤ w.heap.size := Nat.le_refl _
  go_enter Try.func23, Try.ntmps23
  go_wp2_with (at_builtin; refine wpList_app rfl rfl Try.underlying24 info_u8 rfl (by omega) rfl own0 rfl (by simp [vals]) src (vals_one _) (by simp; omega) (by simp; omega) hlt ?_; intro v1 w1 happ)
  go_ret
  refine ⟨v1, rfl, ?_, happ.below own0 (Below.refl _ _) hlt⟩
  have := happ.own
  simpa [OwnB, vals] using this
/-- Key and error of a KeyEnd, as one, the bytes with their row. -/
def BackEnd (l : List UInt8) (er : Int) (w : World) (e : Ending) (w' : World) : Prop := ∃ A c, e = .returned (.tuple #[.slice A l.length c, .int .i64 er]) ∧ Bs w' A l ∧ Below w.heap.size w w'
theorem KeyEnd.back {ok : Bool} {l : List UInt8} {w w' : World} {e : Ending} (hl : ok = true → l.length ≤ 140737488355328) (h : KeyEnd ok l w e w') : BackEnd (if ok then l else []) (if ok then 0 else 2) w e w' := by
  rcases h with ⟨rfl, rfl, hb⟩ | ⟨rfl, v, rfl, ho, hb⟩
  · exact ⟨none, 0, rfl, Bs.nil _ _, hb⟩
  · obtain ⟨A, c, rfl, hB⟩ := ho.bs (hl rfl)
    exact ⟨A, c, rfl, hB, hb⟩

set_option maxRecDepth 100000 in
set_option maxHeartbeats 2000000 in
/-- Where the first key may not be. -/
theorem factBack_no (i u : Int) (s : ByteArray) (c i' u' : Int) (s' : ByteArray) (c' : Int) (hs : s.size ≤ maxLen) (hs' : s'.size ≤ maxLen) (A : Option Addr) (n cap : Nat) (hm : mayKey i u s c = false) (w : World) :
    Calls Try.prog 6 #[.agg #[.int .i64 i, .int .u8 u, .string s, .int .i64 c], .agg #[.int .i64 i', .int .u8 u', .string s', .int .i64 c'], .slice A n cap] w (BoolEnd true w) := by
  have P1 := Lib.hid (fun w => putKey_any i u s c hs w)
  have P2 := Lib.hid (fun w => (putKey_any i' u' s' c' hs' w).mono fun e w' h => KeyEnd.back keyBytes_small h)
  have M1 := Lib.hid (fun w => mayKey_any i u s c hs w)
  rw [hm] at P1 M1
  clear hm
  generalize (if mayKey i' u' s' c' = true then keyBytes i' u' s' c' else []) = l2 at P2
  generalize (if mayKey i' u' s' c' = true then (0 : Int) else 2) = er at P2
  go_enter Try.func6, Try.ntmps6
  go_wp2_with fail
  refine (P1.out _).mono ?_
  rintro e w1 h1
  change KeyEnd false _ (twoKeys w i u s c i' u' s' c') e w1 at h1
  obtain ⟨⟨a0, a1, a2, a3⟩, ⟨b0, b1, b2, b3⟩⟩ := twoKeys_cells w i u s c i' u' s' c'
  have hbw := twoKeys_below w i u s c i' u' s' c'
  generalize twoKeys w i u s c i' u' s' c' = W0 at *
  rcases h1 with ⟨_, rfl, hb1⟩ | ⟨h, _⟩
  · replace a0 := cell_below hb1 a0
    replace a1 := cell_below hb1 a1
    replace a2 := cell_below hb1 a2
    replace a3 := cell_below hb1 a3
    replace b0 := cell_below hb1 b0
    replace b1 := cell_below hb1 b1
    replace b2 := cell_below hb1 b2
    replace b3 := cell_below hb1 b3
    replace hbw := below_of hbw hb1
    clear hb1
    go_wp2_with fail
    refine (P2.out _).mono ?_
    rintro e w2 ⟨A2, c2, rfl, _, hb⟩
    replace a0 := cell_below hb a0
    replace a1 := cell_below hb a1
    replace a2 := cell_below hb a2
    replace a3 := cell_below hb a3
    replace hbw := below_of hbw hb
    clear hb b0 b1 b2 b3
    go_wp2_with fail
    refine (M1.out _).mono ?_
    rintro e w3 ⟨rfl, hb⟩
    replace hbw := below_of hbw hb
    clear hb a0 a1 a2 a3
    go_wp2_with fail
    refine (works06 _).mono ?_
    rintro e w4 ⟨rfl, hb⟩
    replace hbw := below_of hbw hb
    go_wp2
    go_ret
    exact ⟨rfl, hbw⟩
  · cases h

set_option maxRecDepth 100000 in
set_option maxHeartbeats 2000000 in
/-- Up to the last line: the key has come back. -/
theorem factBack_yes (i u : Int) (s : ByteArray) (c i' u' : Int) (s' : ByteArray) (c' : Int) (hs : s.size ≤ maxLen) (hs' : s'.size ≤ maxLen) (behind : List UInt8) (n : Nat) (hn : behind.length = n) (hsmall : n ≤ 140737488351232) (A : Option Addr) (cap : Nat) (w : World) (hB : Bs w A behind) (hm : mayKey i u s c = true) :
    Calls Try.prog 6 #[.agg #[.int .i64 i, .int .u8 u, .string s, .int .i64 c], .agg #[.int .i64 i', .int .u8 u', .string s', .int .i64 c'], .slice A n cap] w (BoolEnd true w) := by
  have P1 := Lib.hid (fun w => (putKey_any i u s c hs w).mono fun e w' h => KeyEnd.back keyBytes_small h)
  have P2 := Lib.hid (fun w => (putKey_any i' u' s' c' hs' w).mono fun e w' h => KeyEnd.back keyBytes_small h)
  have HG := Lib.hid (key_comes_back hm behind)
  have hl1 : (keyBytes i u s c).length ≤ 16 := by
    unfold keyBytes keyTail
    rcases mayKey_parts hm with ⟨rfl, _⟩ | ⟨rfl, h12, _⟩ | ⟨rfl, _⟩
    · simp
    · simp; omega
    · simp
  rw [if_pos hm, if_pos hm] at P1
  have HE : Hid ((if mayKey i' u' s' c' = true then (0 : Int) else 2) = 2 ∨ ((if mayKey i' u' s' c' = true then (0 : Int) else 2) = 0 ∧ (keyBytes i u s c == (if mayKey i' u' s' c' = true then keyBytes i' u' s' c' else [])) = keyEq i u s c i' u' s' c')) := by
    show _ ∨ _
    cases hm' : mayKey i' u' s' c'
    · exact .inl rfl
    · exact .inr ⟨rfl, bytes_same hm hm'⟩
  generalize (if mayKey i' u' s' c' = true then keyBytes i' u' s' c' else []) = l2 at *
  generalize (if mayKey i' u' s' c' = true then (0 : Int) else 2) = er at *
  generalize keyBytes i u s c = l1 at *
  go_enter Try.func6, Try.ntmps6
  go_wp2_with fail
  refine (P1.out _).mono ?_
  rintro e w1 h1
  change BackEnd l1 0 (twoKeys w i u s c i' u' s' c') e w1 at h1
  obtain ⟨⟨a0, a1, a2, a3⟩, ⟨b0, b1, b2, b3⟩⟩ := twoKeys_cells w i u s c i' u' s' c'
  have hbw := twoKeys_below w i u s c i' u' s' c'
  replace hB := hB.below hbw
  generalize twoKeys w i u s c i' u' s' c' = W0 at *
  obtain ⟨A1, c1, rfl, hB1, hb⟩ := h1
  replace a0 := cell_below hb a0
  replace a1 := cell_below hb a1
  replace a2 := cell_below hb a2
  replace a3 := cell_below hb a3
  replace b0 := cell_below hb b0
  replace b1 := cell_below hb b1
  replace b2 := cell_below hb b2
  replace b3 := cell_below hb b3
  replace hbw := below_of hbw hb
  replace hB := hB.below hb
  clear hb
  go_wp2_with fail
  refine (P2.out _).mono ?_
  rintro e w2 ⟨A2, c2, rfl, hB2, hb⟩
  replace a0 := cell_below hb a0
  replace a1 := cell_below hb a1
  replace a2 := cell_below hb a2
  replace a3 := cell_below hb a3
  replace b0 := cell_below hb b0
  replace b1 := cell_below hb b1
  replace b2 := cell_below hb b2
  replace b3 := cell_below hb b3
  replace hbw := below_of hbw hb
  replace hB := hB.below hb
  replace hB1 := hB1.below hb
  clear hb
  go_wp2_with fail
  refine (copy_any l1 l1.length rfl A1 c1 w2 hB1).mono ?_
  rintro e w3 ⟨v3, rfl, own3, hb⟩
  have src3 := (hB.below hb).src
  have hx1 : (vals behind).length = n * 1 := by simp [vals]; omega
  have hlt3 := hb.size
  unfold OwnB at own3
  go_wp2_with (at_builtin; refine wpList_app rfl rfl Try.underlying24 info_u8 rfl (by omega) rfl own3 rfl hx1 src3 (vals_one _) (by omega) (by omega) hlt3 ?_; intro v4 w4 happ; obtain ⟨P4, c4, hv4, hS4, _, _, _⟩ := own_slice2 happ.own; subst hv4)
  replace hb := happ.below own3 hb hlt3
  replace a0 := cell_below hb a0
  replace a1 := cell_below hb a1
  replace a2 := cell_below hb a2
  replace a3 := cell_below hb a3
  replace b0 := cell_below hb b0
  replace b1 := cell_below hb b1
  replace b2 := cell_below hb b2
  replace b3 := cell_below hb b3
  replace hbw := below_of hbw hb
  replace hB1 := hB1.below hb
  replace hB2 := hB2.below hb
  clear hb
  clear happ own3 src3 hlt3 hB hx1
  rw [← vals_append] at hS4
  have hB4 : Bs w4 P4 (l1 ++ behind) := Bs.of_src (by simp; omega) hS4
  refine (new_any (l1 ++ behind) (l1.length + n) (by simp [hn]) P4 c4 w4 hB4).mono ?_
  rintro e w5 ⟨q, hq, rfl, hr, hb⟩
  have G := getKey_any q (some (l1 ++ behind)) w5 hr
  rw [HG.out] at G
  have HGG := Lib.hid G
  clear G HG hB4 hS4 hr
  go_wp2_with fail
  refine HGG.out.mono ?_
  rintro e w6 ⟨rfl, hg, hr⟩
  replace hb := below_grown hb hq hg
  clear hg HGG
  replace a0 := cell_below hb a0
  replace a1 := cell_below hb a1
  replace a2 := cell_below hb a2
  replace a3 := cell_below hb a3
  replace b0 := cell_below hb b0
  replace b1 := cell_below hb b1
  replace b2 := cell_below hb b2
  replace b3 := cell_below hb b3
  replace hbw := below_of hbw hb
  replace hB1 := hB1.below hb
  replace hB2 := hB2.below hb
  clear hb
  have hr : Rd w6 q behind false := hr
  have hb := below_alloc1 w6 (.cells #[.int .i64 i, .int .u8 u, .string s, .int .i64 c] 23)
  obtain ⟨n0, n1, n2, n3⟩ := keyBox_cells w6 i u s c
  replace hr := hr.free (grown_of_below hb)
  replace a0 := cell_below hb a0
  replace a1 := cell_below hb a1
  replace a2 := cell_below hb a2
  replace a3 := cell_below hb a3
  replace b0 := cell_below hb b0
  replace b1 := cell_below hb b1
  replace b2 := cell_below hb b2
  replace b3 := cell_below hb b3
  replace hbw := below_of hbw hb
  replace hB1 := hB1.below hb
  replace hB2 := hB2.below hb
  clear hb
  have hL : leftOf behind false = (n : Int) := by unfold leftOf; simp [hn]
  have L := left_any q behind false _ hr
  rw [hL] at L
  have HL := Lib.hid L
  clear L hL hr
  go_wp2_with fail
  refine HL.out.mono ?_
  rintro e _ ⟨rfl, rfl⟩
  go_wp2_with fail
  clear n0 n1 n2 n3
  generalize w6.alloc (.cells #[.int .i64 i, .int .u8 u, .string s, .int .i64 c] 23) = W7 at *
  clear HL P1 P2 hq
  rcases HE.out with rfl | ⟨rfl, hsame⟩
  · clear HE hB1 hB2
    refine wp_region_quiet_below (by kernel_rfl) (by kernel_rfl) ?_
    repeat (go_big_quiet_step ((go_at_call 14; exact Calls.regrown_of (works06 _))))
    refine wpQuiet_nil ?_
    intro w8 hw8
    replace hw8 : Below W7.heap.size W7 w8 := by obtain ⟨⟨dq, osq⟩, rfl⟩ := hw8; exact below_regrown W7 dq osq
    go_wp2
    go_ret
    exact ⟨rfl, below_of hbw hw8⟩
  · clear HE
    obtain ⟨e, he⟩ : ∃ e, keyEq i u s c i' u' s' c' = e := ⟨_, rfl⟩
    have S1 := Lib.hid (fun (d : Nat) (os : Array Obj) => (same_n l1 l2 l1.length l2.length rfl rfl A1 A2 c1 c2 _ (hB1.below (below_regrown W7 d os)) (hB2.below (below_regrown W7 d os))).mono (fun e' w' h => (show BoolEnd e _ e' w' from ⟨by rw [h.1, hsame, he], h.2⟩)))
    clear hB1 hB2 hsame
    replace a0 := cell_regrown a0
    replace a1 := cell_regrown a1
    replace a2 := cell_regrown a2
    replace a3 := cell_regrown a3
    replace b0 := cell_regrown b0
    replace b1 := cell_regrown b1
    replace b2 := cell_regrown b2
    replace b3 := cell_regrown b3
    cases e
    · have hne := keyEq_no he
      clear he
      by_cases h1 : i = i'
      · subst h1
        by_cases h2 : u = u'
        · subst h2
          by_cases h3 : s.toList = s'.toList
          · have h4 : ¬ c = c' := fun h => hne ⟨rfl, rfl, h3, h⟩
            clear hne
            refine wp_region_quiet_below (by kernel_rfl) (by kernel_rfl) ?_
            repeat (go_big_quiet_step ((first | (go_at_call 13; exact Calls.regrown_of (S1.out _ _)) | (go_at_call 14; exact Calls.regrown_of (works06 _)))))
            refine wpQuiet_nil ?_
            intro w8 hw8
            replace hw8 : Below W7.heap.size W7 w8 := by obtain ⟨⟨dq, osq⟩, rfl⟩ := hw8; exact below_regrown W7 dq osq
            go_wp2
            go_ret
            exact ⟨rfl, below_of hbw hw8⟩
          · clear hne
            refine wp_region_quiet_below (by kernel_rfl) (by kernel_rfl) ?_
            repeat (go_big_quiet_step ((first | (go_at_call 13; exact Calls.regrown_of (S1.out _ _)) | (go_at_call 14; exact Calls.regrown_of (works06 _)))))
            refine wpQuiet_nil ?_
            intro w8 hw8
            replace hw8 : Below W7.heap.size W7 w8 := by obtain ⟨⟨dq, osq⟩, rfl⟩ := hw8; exact below_regrown W7 dq osq
            go_wp2
            go_ret
            exact ⟨rfl, below_of hbw hw8⟩
        · clear hne
          refine wp_region_quiet_below (by kernel_rfl) (by kernel_rfl) ?_
          repeat (go_big_quiet_step ((first | (go_at_call 13; exact Calls.regrown_of (S1.out _ _)) | (go_at_call 14; exact Calls.regrown_of (works06 _)))))
          refine wpQuiet_nil ?_
          intro w8 hw8
          replace hw8 : Below W7.heap.size W7 w8 := by obtain ⟨⟨dq, osq⟩, rfl⟩ := hw8; exact below_regrown W7 dq osq
          go_wp2
          go_ret
          exact ⟨rfl, below_of hbw hw8⟩
      · clear hne
        refine wp_region_quiet_below (by kernel_rfl) (by kernel_rfl) ?_
        repeat (go_big_quiet_step ((first | (go_at_call 13; exact Calls.regrown_of (S1.out _ _)) | (go_at_call 14; exact Calls.regrown_of (works06 _)))))
        refine wpQuiet_nil ?_
        intro w8 hw8
        replace hw8 : Below W7.heap.size W7 w8 := by obtain ⟨⟨dq, osq⟩, rfl⟩ := hw8; exact below_regrown W7 dq osq
        go_wp2
        go_ret
        exact ⟨rfl, below_of hbw hw8⟩
    · obtain ⟨rfl, rfl, rfl, rfl⟩ := keyEq_yes he
      clear he
      refine wp_region_quiet_below (by kernel_rfl) (by kernel_rfl) ?_
      repeat (go_big_quiet_step ((first | (go_at_call 13; exact Calls.regrown_of (S1.out _ _)) | (go_at_call 14; exact Calls.regrown_of (works06 _)))))
      refine wpQuiet_nil ?_
      intro w8 hw8
      replace hw8 : Below W7.heap.size W7 w8 := by obtain ⟨⟨dq, osq⟩, rfl⟩ := hw8; exact below_regrown W7 dq osq
      go_wp2
      go_ret
      exact ⟨rfl, below_of hbw hw8⟩

theorem factBack_true (i u : Int) (s : ByteArray) (c i' u' : Int) (s' : ByteArray) (c' : Int) (hs : s.size ≤ maxLen) (hs' : s'.size ≤ maxLen) (behind : List UInt8) (hsmall : behind.length ≤ 140737488351232) (A : Option Addr) (cap : Nat) (w : World) (hB : Bs w A behind) :
    Calls Try.prog 6 #[.agg #[.int .i64 i, .int .u8 u, .string s, .int .i64 c], .agg #[.int .i64 i', .int .u8 u', .string s', .int .i64 c'], .slice A behind.length cap] w (BoolEnd true w) := by
  cases hm : mayKey i u s c
  · exact factBack_no i u s c i' u' s' c' hs hs' A _ cap hm w
  · exact factBack_yes i u s c i' u' s' c' hs hs' behind _ rfl hsmall A cap w hB hm
end Go.Proofs.Yteholhldejggcaa
