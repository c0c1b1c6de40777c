/- The plain laws of paths: each of the five statements' printed functions answers true. -/
import Derived.Test.YtelbnhcbmaionaaPath1
namespace Go.Proofs.Ytelbnhcbmaionaa.P
open Go.RowKit Go.Proofs.YtelbnhcbmaionaaW.PrintWords Go.Proofs.YtelbnhcbmaionaaW.PrintLast Go.Proofs.YtelbnhcbmaionaaW.PrintMore
set_option linter.unusedSimpArgs false
set_option linter.unusedVariables false

theorem lives_ev : Ev (fun k => carracklaw05_lives.f k) true := by
  unfold carracklaw05_lives.f
  refine Ev.bind (parse_ev _ (by decide)) (Ev.bind (parse_ev _ (by decide)) (Ev.bind (join_ev _ (by decide) (by intro s hs; simp at hs; rcases hs with rfl | rfl <;> decide)) ?_))
  have h1 : parseP (⟨#[47, 97, 47, 98, 46, 99]⟩ : ByteArray) = ([⟨#[97]⟩, ⟨#[98, 46, 99]⟩], 0) := by decide +kernel
  have h2 : parseP (⟨#[47, 46, 46]⟩ : ByteArray) = ([], 2) := by decide +kernel
  have h3 : joinP [(⟨#[97]⟩ : ByteArray), (⟨#[98]⟩ : ByteArray)] = (⟨#[47, 97, 47, 98]⟩, 0) := by decide +kernel
  rw [h1, h2, h3]
  dsimp only
  simp only [if_true]
  refine Ev.bind (texts_ev _ _ (by decide)) ?_
  have e1 : (⟨#[47, 97, 47, 98]⟩ : ByteArray).toList = [47, 97, 47, 98] := by rw [toList_bs]; rfl
  simp only [decide_true, if_true, e1]
  refine Ev.bind (under_ev _ _ (by decide) (by decide)) ?_
  have h4 : underB (⟨#[47, 97]⟩ : ByteArray) (⟨#[47]⟩ : ByteArray) = true := by decide +kernel
  rw [h4]
  simp only [if_true]
  refine Ev.bind (under_ev _ _ (by decide) (by decide)) ?_
  have h5 : underB (⟨#[47, 97, 98]⟩ : ByteArray) (⟨#[47, 97]⟩ : ByteArray) = false := by decide +kernel
  rw [h5]
  exact Ev.now _
theorem last_ev : Ev (fun k => (carracklaw05_lives.f k).bind fun t => some t) true := Ev.bind lives_ev (Ev.now _)
theorem parses_ev (s : ByteArray) (hs : s.size < 8796093022207) : Ev (fun k => carracklaw05_PathParses.f k s) true := by
  unfold carracklaw05_PathParses.f
  have hl := parse_len s
  refine Ev.bind (parse_ev s (by omega)) (Ev.bind (rparse_ev s hs) (Ev.bind (texts_ev _ _ (by omega)) ?_))
  simp only [decide_true, if_true]
  refine Ev.bind (name_ev s (by omega)) (Ev.bind (rname_ev s (by omega)) ?_)
  simp only [BEq.rfl, if_true]
  exact last_ev
theorem joins_ev (l : List ByteArray) (hl : l.length < 8796093022208) (hs : ∀ s ∈ l, s.size < 9223372036854775807) : Ev (fun k => carracklaw05_PathJoins.f k l) true := by
  unfold carracklaw05_PathJoins.f
  simp only [List.nil_append, Option.bind_some, List.length_nil, Nat.zero_add, if_pos hl]
  refine Ev.bind (join_ev l (by omega) hs) (Ev.bind (rjoin_ev l (by omega) hs) ?_)
  simp only [if_true]
  refine Ev.bind (texts_ev _ _ (by omega)) ?_
  simp only [decide_true, if_true]
  exact last_ev
theorem split_ev (s : ByteArray) (hs : s.size < 8796093022208) : Ev (fun k => path_Split.f k s) (splitEnd (parseP s).1 (parseP s).2) := Ev.bind (parse_ev s hs) (Ev.now _)
theorem rsplit_ev (s : ByteArray) (hs : s.size < 8796093022207) : Ev (fun k => carrackref05_Split.f k s) (splitEnd (parseP s).1 (parseP s).2) := Ev.bind (rparse_ev s hs) (Ev.now _)
theorem split_len (s : ByteArray) : (splitEnd (parseP s).1 (parseP s).2).1.length ≤ 6 := by
  have := parse_len s
  unfold splitEnd
  split
  · split
    · simp
    · simp; omega
  · simp
theorem splits_ev (a b : ByteArray) (ha : a.size < 8796093022207) (hb : b.size < 8796093022207) : Ev (fun k => carracklaw05_PathSplits.f k a b) true := by
  unfold carracklaw05_PathSplits.f
  have hl := split_len a
  refine Ev.bind (split_ev a (by omega)) (Ev.bind (rsplit_ev a ha) (Ev.bind (texts_ev _ _ (by omega)) ?_))
  simp only [decide_true, if_true]
  refine Ev.bind (under_ev a b (by omega) (by omega)) (Ev.bind (runder_ev a b ha hb) ?_)
  simp only [BEq.rfl, if_true]
  exact last_ev
theorem parse_names (s : ByteArray) (h : (parseP s).2 = 0) : allNames (parseP s).1 = true ∧ (parseP s).1.length ≤ 6 := by
  have hj := parse_back s h
  refine ⟨?_, parse_len s⟩
  unfold joinP at hj
  by_cases ha : allNames (parseP s).1 = true
  · exact ha
  · rw [if_neg ha] at hj
    simp at hj
theorem name_bound (l : List ByteArray) (h : allNames l = true) : ∀ s ∈ l, s.size < 9223372036854775807 := by
  intro s hs
  unfold allNames at h
  rw [List.all_eq_true] at h
  have := (name_len (h s hs)).2
  rw [bs_size] at this
  omega
theorem back0_ev (l : List ByteArray) (hl : l.length < 9223372036854775807) (hs : ∀ s ∈ l, s.size < 9223372036854775807) : Ev (fun k => carracklaw05_PathBack.j0 k l) true := by
  refine Ev.step' _ (fun k => by simp only [carracklaw05_PathBack.j0]; rfl) (Ev.bind (join_ev l hl hs) ?_)
  unfold joinP
  by_cases hn : allNames l = true
  · simp only [if_pos hn]
    by_cases h6 : 6 < l.length
    · simp only [if_pos h6]
      have e1 : (⟨#[]⟩ : ByteArray).toList = [] := by rw [toList_bs]; rfl
      simp only [show ¬ (3 : Int) = 0 by decide, if_false, e1, if_true]
      exact last_ev
    · simp only [if_neg h6, if_true]
      have hp := join_back l hn (by omega)
      have := pathOf_small l hn (by omega)
      refine Ev.bind (parse_ev _ (by omega)) ?_
      rw [hp]
      simp only [if_true]
      refine Ev.bind (texts_ev _ _ (by omega)) ?_
      simp only [decide_true, if_true]
      exact last_ev
  · simp only [if_neg hn]
    have e1 : (⟨#[]⟩ : ByteArray).toList = [] := by rw [toList_bs]; rfl
    simp only [show ¬ (2 : Int) = 0 by decide, if_false, e1, if_true]
    exact last_ev
theorem back_ev (s : ByteArray) (l : List ByteArray) (h1 : s.size < 8796093022208) (hl : l.length < 9223372036854775807) (hs : ∀ s ∈ l, s.size < 9223372036854775807) : Ev (fun k => carracklaw05_PathBack.f k s l) true := by
  unfold carracklaw05_PathBack.f
  refine Ev.bind (parse_ev s h1) ?_
  by_cases h : (parseP s).2 = 0
  · simp only [if_pos h]
    have hb := parse_back s h
    obtain ⟨hn, h6⟩ := parse_names s h
    refine Ev.bind (join_ev _ (by omega) (name_bound _ hn)) ?_
    rw [hb]
    simp only [if_true]
    exact back0_ev l hl hs
  · simp only [if_neg h]
    exact back0_ev l hl hs
theorem below_trans {a b c : List ByteArray} (h1 : below a b = true) (h2 : below b c = true) : below a c = true := by
  unfold below at *
  simp only [Bool.and_eq_true, decide_eq_true_eq] at *
  obtain ⟨l1, e1⟩ := h1
  obtain ⟨l2, e2⟩ := h2
  refine ⟨by omega, ?_⟩
  rw [← e2, ← e1, List.take_take, Nat.min_eq_left (by omega)]
  rw [List.length_take, Nat.min_eq_left (by omega)]
theorem under_trans {a b c : ByteArray} (h1 : underB a b = true) (h2 : underB b c = true) : underB a c = true := by
  unfold underB at *
  simp only [Bool.and_eq_true] at *
  exact ⟨h1.1, h2.2.1, below_trans h1.2.2 h2.2.2⟩
theorem under_irr (a : ByteArray) : underB a a = false := by
  unfold underB below
  rw [decide_eq_false (by omega)]
  simp
theorem under1_ev (a : ByteArray) (ha : a.size < 8796093022207) : Ev (fun k => carracklaw05_PathUnder.j1 k a false) true := by
  refine Ev.step' (fun k => (path_Split.f k a).bind fun b => if b.2.2 = 0 then (path_Join.f k b.1).bind fun c => if c.2 = 0 then (path_Under.f k a c.1).bind fun t => if t = true then (carracklaw05_lives.f k).bind fun t => some t else some false else some false else (carracklaw05_lives.f k).bind fun t => some t) (fun k => by simp only [carracklaw05_PathUnder.j1, Bool.false_eq_true, if_false]) (Ev.bind (split_ev a (by omega)) ?_)
  unfold splitEnd
  by_cases h : (parseP a).2 = 0
  · simp only [if_pos h]
    by_cases h0 : (parseP a).1 = []
    · simp only [if_pos h0]
      simp only [show ¬ (2 : Int) = 0 by decide, if_false]
      exact last_ev
    · simp only [if_neg h0, if_true]
      obtain ⟨hn, h6⟩ := parse_names a h
      have hn' : allNames ((parseP a).1.take ((parseP a).1.length - 1)) = true := by
        unfold allNames at *
        rw [List.all_eq_true] at *
        exact fun x hx => hn x (List.mem_of_mem_take hx)
      have hl : ((parseP a).1.take ((parseP a).1.length - 1)).length = (parseP a).1.length - 1 := by rw [List.length_take]; omega
      refine Ev.bind (join_ev _ (by omega) (name_bound _ hn')) ?_
      unfold joinP
      simp only [if_pos hn', if_neg (show ¬ 6 < ((parseP a).1.take ((parseP a).1.length - 1)).length by omega), if_true]
      have hs := pathOf_small _ hn' (by omega)
      refine Ev.bind (under_ev a _ (by omega) (by omega)) ?_
      have hp := join_back _ hn' (by omega)
      have hpos : 0 < (parseP a).1.length := List.length_pos_iff.2 h0
      have : underB a (pathOf ((parseP a).1.take ((parseP a).1.length - 1))) = true := by
        unfold underB below
        rw [hp, h, hl]
        simp
        omega
      rw [this]
      simp only [if_true]
      exact last_ev
  · simp only [if_neg h]
    exact last_ev
theorem under0_ev (a b : ByteArray) (ha : a.size < 8796093022207) (hb : b.size < 8796093022207) : Ev (fun k => carracklaw05_PathUnder.j0 k a b false) true := by
  refine Ev.step' (fun k => (path_Under.f k a b).bind fun t => if t = true then (path_Under.f k b a).bind fun t => if t = true then carracklaw05_PathUnder.j1 k a true else (path_Under.f k a a).bind fun t => carracklaw05_PathUnder.j1 k a t else (path_Under.f k a a).bind fun t => carracklaw05_PathUnder.j1 k a t) (fun k => by simp only [carracklaw05_PathUnder.j0, Bool.false_eq_true, if_false]) (Ev.bind (under_ev a b (by omega) (by omega)) ?_)
  have haa : Ev (fun k => (path_Under.f k a a).bind fun t => carracklaw05_PathUnder.j1 k a t) true := by
    refine Ev.bind (under_ev a a (by omega) (by omega)) ?_
    rw [under_irr]
    exact under1_ev a ha
  cases h : underB a b with
  | false => exact haa
  | true =>
    simp only [if_true]
    refine Ev.bind (under_ev b a (by omega) (by omega)) ?_
    cases h2 : underB b a with
    | false => exact haa
    | true => have := under_trans h h2; rw [under_irr] at this; cases this
theorem unders_ev (a b c : ByteArray) (ha : a.size < 8796093022207) (hb : b.size < 8796093022207) (hc : c.size < 8796093022207) : Ev (fun k => carracklaw05_PathUnder.f k a b c) true := by
  unfold carracklaw05_PathUnder.f
  refine Ev.bind (under_ev a b (by omega) (by omega)) ?_
  cases h : underB a b with
  | false => exact under0_ev a b ha hb
  | true =>
    simp only [if_true]
    refine Ev.bind (under_ev b c (by omega) (by omega)) ?_
    cases h2 : underB b c with
    | false => exact under0_ev a b ha hb
    | true =>
      simp only [if_true]
      refine Ev.bind (under_ev a c (by omega) (by omega)) ?_
      rw [under_trans h h2]
      exact under0_ev a b ha hb
end Go.Proofs.Ytelbnhcbmaionaa.P
