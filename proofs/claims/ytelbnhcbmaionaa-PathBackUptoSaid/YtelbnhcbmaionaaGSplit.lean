/- path.Split and the document's, as Lean functions, and their contracts. -/
import Derived.Test.YtelbnhcbmaionaaPx3
import Derived.Test.YtelbnhcbmaionaaPx4
import Derived.Lib.Hide
import Derived.IntWalk
namespace Go.Proofs.Ytelbnhcbmaionaa.P
open Go.RowKit Go.Proofs.YtelbnhcbmaionaaW.PrintWords Go.Proofs.YtelbnhcbmaionaaW.PrintLast Go.Proofs.YtelbnhcbmaionaaW.PrintMore
set_option linter.unusedVariables false
set_option linter.unusedSimpArgs false

def splitEnd (l : List ByteArray) (e : Int) : List ByteArray × ByteArray × Int :=
  if e = 0 then (if l = [] then ([], ⟨#[]⟩, 2) else (l.take (l.length - 1), l.getD (l.length - 1) ⟨#[]⟩, 0)) else ([], ⟨#[]⟩, e)
def path_Split.f (k : Nat) (a0 : ByteArray) : Option (List ByteArray × ByteArray × Int) := (path_Parse.f k a0).bind fun b => some (splitEnd b.1 b.2)
def carrackref05_Split.f (k : Nat) (a0 : ByteArray) : Option (List ByteArray × ByteArray × Int) := (carrackref05_Parse.f k a0).bind fun b => some (splitEnd b.1 b.2)
theorem path_Split.mono : ∀ a0 k, LeO (path_Split.f k a0) (path_Split.f (k + 1) a0) := fun a0 k => LeO.bind (path_Parse.mono a0 k) (fun _ => LeO.refl _)
theorem carrackref05_Split.mono : ∀ a0 k, LeO (carrackref05_Split.f k a0) (carrackref05_Split.f (k + 1) a0) := fun a0 k => LeO.bind (carrackref05_Parse.mono a0 k) (fun _ => LeO.refl _)

theorem last_cell {w : World} {A : Option Addr} {l : List ByteArray} {m : Nat} (h : Kd.C Kd.string w A l.length l) (hm : l.length = m + 1) :
    ∃ ad, A = some ad ∧ w.cell? (ad.add m) = some (.string (l.getD m ⟨#[]⟩)) := by
  obtain ⟨ad, rfl, hc⟩ := h.2.2 (by omega)
  obtain ⟨c, hcl, hcr, hcc⟩ := hc m _ (List.getElem?_eq_getElem (by omega))
  have e1 : c = [.string (l[m]'(by omega))] := hcr
  have := hcc 0 _ (by rw [e1]; rfl)
  refine ⟨ad, rfl, ?_⟩
  rw [List.getD_eq_getElem?_getD, List.getElem?_eq_getElem (by omega)]
  simpa [Kd.string, Kd.scalar] using this
theorem take_V {w1 : World} {B : Nat} {ad : Addr} {c m : Nat} {l : List ByteArray} (h : Kd.R Kd.string 9 w1 B (fun _ => True) (.slice (some ad) l.length c) l) (hm : l.length = m + 1) (nq : Nat) :
    Kd.V Kd.string 9 (w1.drewN nq) B (fun _ => True) (.slice (some ad) m m) (l.take m) := by
  have h1 := Kd.V_mk (e := 9) (base := B) (c := m) (by rw [List.length_take]; omega) (Kd.F_take (Kd.R_F h) (m := m) (by omega))
  rw [show (l.take m).length = m by rw [List.length_take]; omega] at h1
  exact Kd.V_drewN h1 nq
set_option maxHeartbeats 2000000 in
set_option maxRecDepth 100000 in
theorem path_Split.calls (k : Nat) (a0 : ByteArray) (r1 : List ByteArray) (r2 : ByteArray) (r3 : Int) (w : World) (h : path_Split.f k a0 = some (r1, r2, r3)) :
    Calls Try.prog 16 #[.string a0] w fun e w' => ∃ v0_ : Value, e = .returned (.tuple #[v0_, .string r2, .int .i64 r3]) ∧ Kd.V Kd.string 9 w' w.heap.size (fun _ => True) v0_ r1 ∧ Below w.heap.size w w' := by
  obtain ⟨⟨l, e0⟩, hp, h⟩ := Option.bind_eq_some_iff.mp h
  have h : splitEnd l e0 = (r1, r2, r3) := Option.some.inj h
  unfold splitEnd at h
  have HP := Lib.hid hp
  clear hp
  by_cases he : e0 = 0
  · subst he
    rw [if_pos rfl] at h
    by_cases hl : l = []
    · subst hl
      rw [if_pos rfl] at h
      simp only [Prod.mk.injEq] at h
      obtain ⟨rfl, rfl, rfl⟩ := h
      go_enter Try.func16, Try.ntmps16
      go_wp2_with (go_at_call 8; refine (path_Parse.calls k a0 _ _ _ HP.out).mono ?_; rintro e w1 ⟨v, rfl, ho, hb⟩; obtain ⟨A, c, rfl, hle, hC⟩ := Kd.R_reads ho; have HO := Lib.hid ho; clear ho hC)
      go_ret3
      exact ⟨_, rfl, Kd.V_nil _ _ _ _ _, hb⟩
    · rw [if_neg hl] at h
      obtain ⟨m, hm⟩ : ∃ m, l.length = m + 1 := ⟨l.length - 1, by have := List.length_pos_iff.2 hl; omega⟩
      simp only [Prod.mk.injEq] at h
      obtain ⟨rfl, rfl, rfl⟩ := h
      have hm1 : l.length - 1 = m := by omega
      rw [hm1]
      have d1 : ((l.length : Int) == 0) = false := by rw [beq_eq_false_iff_ne]; omega
      have HM := Lib.hid hm
      clear hm1 hl
      go_enter Try.func16, Try.ntmps16
      go_wp2_with (go_at_call 8; refine (path_Parse.calls k a0 _ _ _ HP.out).mono ?_; rintro e w1 ⟨v, rfl, ho, hb⟩; obtain ⟨A, c, rfl, hle, hC⟩ := Kd.R_reads ho; have HO := Lib.hid ho; clear ho)
      obtain ⟨ad, rfl, hcell⟩ := last_cell hC hm
      have hmx := hC.2.1
      have s1 : IntKind.i64.wrap ((l.length : Int) - 1) = (l.length : Int) - 1 := IntWalk.i64_in _ (by omega)
      have s2 : ((l.length : Int) - 1).toNat = m := by omega
      have s3 : (0 : Int) ≤ (l.length : Int) - 1 := by omega
      have s4 : (1 : Int) ≤ (l.length : Int) := by omega
      have s5 : (l.length : Int) - 1 ≤ (c : Int) := by omega
      have s6 : (l.length : Int) - 1 < (l.length : Int) := by omega
      have s7 : (l.length : Int) - 1 ≤ (l.length : Int) := by omega
      clear hC hm
      go_quiet (fail)
      go_wp2
      go_ret3
      exact ⟨.slice (some ad) m m, by first | rfl | simp, take_V HO.out HM.out _, pw_below_drewN hb _⟩
  · rw [if_neg he] at h
    simp only [Prod.mk.injEq] at h
    obtain ⟨rfl, rfl, rfl⟩ := h
    have d1 : (e0 != 0) = true := bne_iff_ne.mpr he
    go_enter Try.func16, Try.ntmps16
    go_wp2_with (go_at_call 8; refine (path_Parse.calls k a0 _ _ _ HP.out).mono ?_; rintro e w1 ⟨v, rfl, ho, hb⟩; obtain ⟨A, c, rfl, hle, hC⟩ := Kd.R_reads ho; have HO := Lib.hid ho; clear ho hC)
    go_ret3
    exact ⟨_, rfl, Kd.V_nil _ _ _ _ _, hb⟩
theorem take_V2 {w1 : World} {B : Nat} {ad : Addr} {c m : Nat} {l : List ByteArray} (h : Kd.R Kd.string 9 w1 B (fun _ => True) (.slice (some ad) l.length c) l) (hm : l.length = m + 1) (nq : Nat) :
    Kd.V Kd.string 9 (w1.drewN nq) B (fun _ => True) (.slice (some ad) m c) (l.take m) := by
  have hc : l.length ≤ c := (Kd.R_reads' h).2.1
  have h1 := Kd.V_mk (e := 9) (base := B) (c := c) (by rw [List.length_take]; omega) (Kd.F_take (Kd.R_F h) (m := m) (by omega))
  rw [show (l.take m).length = m by rw [List.length_take]; omega] at h1
  exact Kd.V_drewN h1 nq
set_option maxHeartbeats 2000000 in
set_option maxRecDepth 100000 in
theorem carrackref05_Split.calls (k : Nat) (a0 : ByteArray) (r1 : List ByteArray) (r2 : ByteArray) (r3 : Int) (w : World) (h : carrackref05_Split.f k a0 = some (r1, r2, r3)) :
    Calls Try.prog 17 #[.string a0] w fun e w' => ∃ v0_ : Value, e = .returned (.tuple #[v0_, .string r2, .int .i64 r3]) ∧ Kd.V Kd.string 9 w' w.heap.size (fun _ => True) v0_ r1 ∧ Below w.heap.size w w' := by
  obtain ⟨⟨l, e0⟩, hp, h⟩ := Option.bind_eq_some_iff.mp h
  have h : splitEnd l e0 = (r1, r2, r3) := Option.some.inj h
  unfold splitEnd at h
  have HP := Lib.hid hp
  clear hp
  by_cases he : e0 = 0
  · subst he
    rw [if_pos rfl] at h
    by_cases hl : l = []
    · subst hl
      rw [if_pos rfl] at h
      simp only [Prod.mk.injEq] at h
      obtain ⟨rfl, rfl, rfl⟩ := h
      go_enter Try.func17, Try.ntmps17
      go_wp2_with (go_at_call 9; refine (carrackref05_Parse.calls k a0 _ _ _ HP.out).mono ?_; rintro e w1 ⟨v, rfl, ho, hb⟩; obtain ⟨A, c, rfl, hle, hC⟩ := Kd.R_reads ho; have HO := Lib.hid ho; clear ho hC)
      go_ret3
      exact ⟨_, rfl, Kd.V_nil _ _ _ _ _, hb⟩
    · rw [if_neg hl] at h
      obtain ⟨m, hm⟩ : ∃ m, l.length = m + 1 := ⟨l.length - 1, by have := List.length_pos_iff.2 hl; omega⟩
      simp only [Prod.mk.injEq] at h
      obtain ⟨rfl, rfl, rfl⟩ := h
      have hm1 : l.length - 1 = m := by omega
      rw [hm1]
      have d1 : ((l.length : Int) == 0) = false := by rw [beq_eq_false_iff_ne]; omega
      have HM := Lib.hid hm
      clear hm1 hl
      go_enter Try.func17, Try.ntmps17
      go_wp2_with (go_at_call 9; refine (carrackref05_Parse.calls k a0 _ _ _ HP.out).mono ?_; rintro e w1 ⟨v, rfl, ho, hb⟩; obtain ⟨A, c, rfl, hle, hC⟩ := Kd.R_reads ho; have HO := Lib.hid ho; clear ho)
      obtain ⟨ad, rfl, hcell⟩ := last_cell hC hm
      have hmx := hC.2.1
      have s1 : IntKind.i64.wrap ((l.length : Int) - 1) = (l.length : Int) - 1 := IntWalk.i64_in _ (by omega)
      have s2 : ((l.length : Int) - 1).toNat = m := by omega
      have s3 : (0 : Int) ≤ (l.length : Int) - 1 := by omega
      have s4 : (1 : Int) ≤ (l.length : Int) := by omega
      have s5 : (l.length : Int) - 1 ≤ (c : Int) := by omega
      have s6 : (l.length : Int) - 1 < (l.length : Int) := by omega
      have s7 : (l.length : Int) - 1 ≤ (l.length : Int) := by omega
      clear hC hm
      go_quiet (fail)
      go_wp2
      go_ret3
      exact ⟨.slice (some ad) m c, by first | rfl | simp, take_V2 HO.out HM.out _, pw_below_drewN hb _⟩
  · rw [if_neg he] at h
    simp only [Prod.mk.injEq] at h
    obtain ⟨rfl, rfl, rfl⟩ := h
    have d1 : (e0 != 0) = true := bne_iff_ne.mpr he
    go_enter Try.func17, Try.ntmps17
    go_wp2_with (go_at_call 9; refine (carrackref05_Parse.calls k a0 _ _ _ HP.out).mono ?_; rintro e w1 ⟨v, rfl, ho, hb⟩; obtain ⟨A, c, rfl, hle, hC⟩ := Kd.R_reads ho; have HO := Lib.hid ho; clear ho hC)
    go_ret3
    exact ⟨_, rfl, Kd.V_nil _ _ _ _ _, hb⟩
end Go.Proofs.Ytelbnhcbmaionaa.P
