/- The plain law of paths, second part: lists that are compared, what is under what, what is joined; a path comes back of its names, names of their path. -/
import Derived.Test.YtelbnhcbmaionaaPath0
namespace Go.Proofs.Ytelbnhcbmaionaa.P
open Go.RowKit Go.Proofs.YtelbnhcbmaionaaW.PrintWords Go.Proofs.YtelbnhcbmaionaaW.PrintLast Go.Proofs.YtelbnhcbmaionaaW.PrintMore

set_option linter.unusedSimpArgs false
set_option linter.unusedVariables false

theorem rdOf_nat (l : List ByteArray) (i : Nat) (h : i < l.length) : rdOf ByteArray.empty l (i : Int) = l[i] := by
  simp [rdOf, List.getD_eq_getElem?_getD, List.getElem?_eq_getElem h]
theorem toList_eq (a b : ByteArray) : a.toList = b.toList ↔ a = b := by
  rw [toList_bs, toList_bs]
  exact ⟨fun h => bs_inj h, fun h => by rw [h]⟩
/-- All of b stands at a's beginning, from place i on. -/
theorem texts_loop (a b : List ByteArray) (ha : a.length < 9223372036854775807) (hab : a.length = b.length) : ∀ (d i : Nat), i + d = a.length →
    Ev (fun k => carrackref00_Texts.l0 k a b (i : Int)) (decide (a.drop i = b.drop i)) := by
  intro d
  induction d with
  | zero =>
    intro i hi
    refine Ev.step' (fun _ => some true) (fun k => by simp only [carrackref00_Texts.l0]; rw [if_neg (by omega)]) (ev_now ?_)
    rw [List.drop_eq_nil_of_le (by omega), List.drop_eq_nil_of_le (by omega)]; rfl
  | succ d ih =>
    intro i hi
    have h1 : i < a.length := by omega
    have h2 : i < b.length := by omega
    refine Ev.step' (fun k => if a[i] = b[i] then carrackref00_Texts.l0 k a b (((i + 1 : Nat) : Nat) : Int) else some false) (fun k => ?_) ?_
    · simp only [carrackref00_Texts.l0]
      rw [if_pos (by omega), if_pos (by omega), if_pos (by omega), rdOf_nat _ _ h1, rdOf_nat _ _ h2, wrapS (by omega)]
      simp only [toList_eq]
    · rw [List.drop_eq_getElem_cons h1, List.drop_eq_getElem_cons h2]
      by_cases e : a[i] = b[i]
      · simp only [if_pos e, List.cons.injEq, e, true_and]; exact ih (i + 1) (by omega)
      · simp only [if_neg e, List.cons.injEq, e, false_and]; exact Ev.now _
theorem texts_ev (a b : List ByteArray) (ha : a.length < 9223372036854775807) : Ev (fun k => carrackref00_Texts.f k a b) (decide (a = b)) := by
  unfold carrackref00_Texts.f
  by_cases h : a.length = b.length
  · simp only [if_pos (show (a.length : Int) = (b.length : Int) by omega)]
    have := texts_loop a b ha h a.length 0 (by omega)
    simpa using this
  · simp only [if_neg (show ¬ (a.length : Int) = (b.length : Int) by omega)]
    refine ev_now (Eq.symm (decide_eq_false ?_))
    rintro rfl
    exact h rfl
theorem equal_loop (a b : List ByteArray) (ha : a.length < 9223372036854775807) (hab : a.length = b.length) : ∀ (d i : Nat), i + d = a.length →
    Ev (fun k => slices_Equal_string_string.l0 k a b (a.length : Int) (i : Int)) (decide (a.drop i = b.drop i)) := by
  intro d
  induction d with
  | zero =>
    intro i hi
    refine Ev.step' (fun _ => some true) (fun k => by simp only [slices_Equal_string_string.l0]; rw [if_neg (by omega)]) (ev_now ?_)
    rw [List.drop_eq_nil_of_le (by omega), List.drop_eq_nil_of_le (by omega)]; rfl
  | succ d ih =>
    intro i hi
    have h1 : i < a.length := by omega
    have h2 : i < b.length := by omega
    refine Ev.step' (fun k => if a[i] = b[i] then slices_Equal_string_string.l0 k a b (a.length : Int) (((i + 1 : Nat) : Nat) : Int) else some false) (fun k => ?_) ?_
    · simp only [slices_Equal_string_string.l0]
      rw [if_pos (by omega), if_pos (by omega), if_pos (by omega), if_pos (by omega), rdOf_nat _ _ h1, rdOf_nat _ _ h2, wrapS (by omega)]
      simp only [toList_eq]
    · rw [List.drop_eq_getElem_cons h1, List.drop_eq_getElem_cons h2]
      by_cases e : a[i] = b[i]
      · simp only [if_pos e, List.cons.injEq, e, true_and]; exact ih (i + 1) (by omega)
      · simp only [if_neg e, List.cons.injEq, e, false_and]; exact Ev.now _
theorem equal_ev (a b : List ByteArray) (ha : a.length < 9223372036854775807) (hab : a.length = b.length) : Ev (fun k => slices_Equal_string_string.f k a b) (decide (a = b)) := by
  unfold slices_Equal_string_string.f
  simp only [if_pos (show (a.length : Int) = (b.length : Int) by omega)]
  have := equal_loop a b ha hab a.length 0 (by omega)
  simpa using this
theorem begins_loop (a b : List ByteArray) (hb : b.length < 9223372036854775807) (hab : b.length < a.length) : ∀ (d i : Nat), i + d = b.length →
    Ev (fun k => carrackref05_Begins.l0 k a b (i : Int)) (decide ((a.take b.length).drop i = b.drop i)) := by
  intro d
  induction d with
  | zero =>
    intro i hi
    refine Ev.step' (fun _ => some true) (fun k => by simp only [carrackref05_Begins.l0]; rw [if_neg (by omega)]) (ev_now ?_)
    rw [List.drop_eq_nil_of_le (by simp; omega), List.drop_eq_nil_of_le (by omega)]; rfl
  | succ d ih =>
    intro i hi
    have h1 : i < a.length := by omega
    have h2 : i < b.length := by omega
    have h3 : i < (a.take b.length).length := by simp; omega
    have e3 : (a.take b.length)[i] = a[i] := by simp
    refine Ev.step' (fun k => if a[i] = b[i] then carrackref05_Begins.l0 k a b (((i + 1 : Nat) : Nat) : Int) else some false) (fun k => ?_) ?_
    · simp only [carrackref05_Begins.l0]
      rw [if_pos (by omega), if_pos (by omega), if_pos (by omega), rdOf_nat _ _ h1, rdOf_nat _ _ h2, wrapS (by omega)]
      simp only [toList_eq]
    · rw [List.drop_eq_getElem_cons h3, List.drop_eq_getElem_cons h2, e3]
      by_cases e : a[i] = b[i]
      · simp only [if_pos e, List.cons.injEq, e, true_and]; exact ih (i + 1) (by omega)
      · simp only [if_neg e, List.cons.injEq, e, false_and]; exact Ev.now _

/-! ## Under -/
def below (a b : List ByteArray) : Bool := decide (b.length < a.length) && decide (a.take b.length = b)
def underB (s t : ByteArray) : Bool := ((parseP s).2 == 0) && (((parseP t).2 == 0) && below (parseP s).1 (parseP t).1)
theorem begins_ev (a b : List ByteArray) (hb : b.length < 9223372036854775807) : Ev (fun k => carrackref05_Begins.f k a b) (below a b) := by
  unfold carrackref05_Begins.f below
  by_cases h : a.length ≤ b.length
  · simp only [if_pos (show (a.length : Int) ≤ (b.length : Int) by omega)]
    refine ev_now ?_
    rw [decide_eq_false (show ¬ b.length < a.length by omega)]; rfl
  · simp only [if_neg (show ¬ (a.length : Int) ≤ (b.length : Int) by omega)]
    rw [decide_eq_true (show b.length < a.length by omega), Bool.true_and]
    have := begins_loop a b hb (by omega) b.length 0 (by omega)
    simpa using this
theorem parse_len (s : ByteArray) : (parseP s).1.length ≤ 6 := by
  unfold parseP
  split
  · simp
  · split
    · split
      · simp
      · unfold fin
        split
        · split
          · simp
          · rename_i h; simp at h ⊢; omega
        · simp
    · simp
theorem under_ev (s t : ByteArray) (hs : s.size < 8796093022208) (ht : t.size < 8796093022208) : Ev (fun k => path_Under.f k s t) (underB s t) := by
  unfold path_Under.f
  refine Ev.bind (parse_ev s hs) (Ev.bind (parse_ev t ht) ?_)
  have l1 := parse_len s
  have l2 := parse_len t
  unfold underB
  by_cases h1 : (parseP s).2 = 0
  · simp only [if_pos h1, h1, BEq.rfl, Bool.true_and]
    by_cases h2 : (parseP t).2 = 0
    · simp only [if_pos h2, h2, BEq.rfl, Bool.true_and]
      unfold below
      by_cases h3 : (parseP t).1.length < (parseP s).1.length
      · simp only [if_pos (show ((parseP s).1.length : Int) > ((parseP t).1.length : Int) by omega), if_pos (show (0 : Int) ≤ ((parseP t).1.length : Int) by omega), if_pos (show ((parseP t).1.length : Int) ≤ ((parseP s).1.length : Int) by omega), Int.toNat_natCast]
        rw [decide_eq_true h3, Bool.true_and]
        refine Ev.bind (equal_ev ((parseP s).1.take (parseP t).1.length) (parseP t).1 (by simp; omega) (by simp; omega)) (Ev.now _)
      · simp only [if_neg (show ¬ ((parseP s).1.length : Int) > ((parseP t).1.length : Int) by omega)]
        rw [decide_eq_false h3]; exact Ev.now _
    · simp only [if_neg h2, beq_eq_false_iff_ne.2 h2]; exact Ev.now _
  · simp only [if_neg h1, beq_eq_false_iff_ne.2 h1]; exact Ev.now _
theorem runder_ev (s t : ByteArray) (hs : s.size < 8796093022207) (ht : t.size < 8796093022207) : Ev (fun k => carrackref05_Under.f k s t) (underB s t) := by
  unfold carrackref05_Under.f
  refine Ev.bind (rparse_ev s hs) (Ev.bind (rparse_ev t ht) ?_)
  have l1 := parse_len s
  have l2 := parse_len t
  unfold underB
  by_cases h1 : (parseP s).2 = 0
  · simp only [if_pos h1, h1, BEq.rfl, Bool.true_and]
    by_cases h2 : (parseP t).2 = 0
    · simp only [if_pos h2, h2, BEq.rfl, Bool.true_and]
      exact Ev.bind (begins_ev _ _ (by omega)) (Ev.now _)
    · simp only [if_neg h2, beq_eq_false_iff_ne.2 h2]; exact Ev.now _
  · simp only [if_neg h1, beq_eq_false_iff_ne.2 h1]; exact Ev.now _

/-! ## Join -/
def allNames (l : List ByteArray) : Bool := l.all (fun s => isName (bs s))
def pathOf (l : List ByteArray) : ByteArray := (⟨#[47]⟩ : ByteArray) ++ joinOf l ⟨#[47]⟩
def joinP (l : List ByteArray) : ByteArray × Int := if allNames l = true then (if 6 < l.length then (⟨#[]⟩, 3) else (pathOf l, 0)) else (⟨#[]⟩, 2)
theorem bs_append (a b : ByteArray) : bs (a ++ b) = bs a ++ bs b := by simp [bs]
theorem bs_pathOf (l : List ByteArray) : bs (pathOf l) = 47 :: Lib.join (l.map bs) [47] := by
  unfold pathOf joinOf
  rw [bs_append, slash_one]
  show [47] ++ bs (ba _) = _
  rw [bs_ba]; rfl
theorem join_path (x : ByteArray) (r : List ByteArray) : bs (pathOf (x :: r)) = Lib.joinTail [47] ((x :: r).map bs) := by
  rw [bs_pathOf, List.map_cons, Lib.join_cons]
  simp [Lib.joinTail]
theorem tail_len (l : List (List UInt8)) (h : ∀ x ∈ l, x.length ≤ 12) : (Lib.joinTail [47] l).length ≤ 13 * l.length := by
  induction l with
  | nil => simp [Lib.joinTail]
  | cons x l ih =>
    have := ih (fun y hy => h y (List.mem_cons_of_mem _ hy))
    have := h x (List.mem_cons_self ..)
    simp [Lib.joinTail] at *
    omega
theorem name_len {L : List UInt8} (h : isName L = true) : 1 ≤ L.length ∧ L.length ≤ 12 := by
  unfold isName tailName at h
  simp only [Bool.and_eq_true, decide_eq_true_eq] at h
  exact ⟨h.2.1, h.2.2.1⟩
theorem name_slash {L : List UInt8} (h : isName L = true) : ∀ c ∈ L, c ≠ 47 := by
  unfold isName at h
  simp only [Bool.and_eq_true, List.all_eq_true] at h
  exact fun c hc => not_slash (h.1 c hc)
theorem pathOf_small (l : List ByteArray) (h : allNames l = true) (h6 : l.length ≤ 6) : (pathOf l).size ≤ 100 := by
  rw [← bs_size]
  cases l with
  | nil => decide
  | cons x r =>
    rw [join_path]
    have := tail_len ((x :: r).map bs) (fun y hy => by
      obtain ⟨z, hz, rfl⟩ := List.mem_map.1 hy
      unfold allNames at h
      rw [List.all_eq_true] at h
      exact (name_len (h z hz)).2)
    rw [List.length_map] at this
    omega
theorem joinOf_size (l : List ByteArray) : (pathOf l).size = 1 + (joinOf l ⟨#[47]⟩).size := by
  rw [← bs_size]
  unfold pathOf
  rw [bs_append, List.length_append, bs_size]; rfl
theorem joinS_ev (l : List ByteArray) (h : allNames l = true) (h6 : l.length ≤ 6) : Ev (fun _ => strings_Join.f l (⟨#[47]⟩ : ByteArray)) (joinOf l ⟨#[47]⟩) := by
  refine (Ev.now _ : Ev (fun _ => some (joinOf l ⟨#[47]⟩)) _).congr (fun k => ?_)
  unfold strings_Join.f
  have h1 := pathOf_small l h h6
  have h2 := joinOf_size l
  have h3 : (joinOf l ⟨#[47]⟩).size = (Lib.join (l.map (·.data.toList)) [47]).length := by rw [← bs_size]; exact congrArg List.length (bs_ba _)
  rw [if_pos (by show (Lib.join (l.map (·.data.toList)) [47]).length ≤ _; omega), if_pos (by omega)]
theorem join_loop (l : List ByteArray) (hl : l.length < 9223372036854775807) (hs : ∀ s ∈ l, s.size < 9223372036854775807) : ∀ (d i : Nat), i + d = l.length → allNames (l.take i) = true →
    Ev (fun k => path_Join.l0 k l l (l.length : Int) (i : Int)) (joinP l) := by
  intro d
  induction d with
  | zero =>
    intro i hi hn
    rw [List.take_of_length_le (by omega)] at hn
    unfold joinP
    simp only [if_pos hn]
    refine Ev.step' (fun _ => if 6 < l.length then some (⟨#[]⟩, 3) else (strings_Join.f l ⟨#[47]⟩).bind fun t => if 1 + t.size ≤ 9223372036854775807 then some (⟨#[47]⟩ ++ t, 0) else none) (fun k => ?_) ?_
    · simp only [path_Join.l0]
      rw [if_neg (by omega)]
      simp only [show ((l.length : Int) > 6) = (6 < l.length) from propext ⟨fun h => by omega, fun h => by omega⟩]
    · by_cases h6 : 6 < l.length
      · simp only [if_pos h6]; exact Ev.now _
      · simp only [if_neg h6]
        refine Ev.bind (joinS_ev l hn (by omega)) ?_
        have h1 := pathOf_small l hn (by omega)
        have h2 := joinOf_size l
        simp only [if_pos (show 1 + (joinOf l ⟨#[47]⟩).size ≤ 9223372036854775807 by omega)]
        exact Ev.now _
  | succ d ih =>
    intro i hi hn
    have h1 : i < l.length := by omega
    refine Ev.step' (fun k => (path_Name.f k l[i]).bind fun t => if t = true then path_Join.l0 k l l (l.length : Int) (((i + 1 : Nat) : Nat) : Int) else some (⟨#[]⟩, 2)) (fun k => ?_) ?_
    · simp only [path_Join.l0]
      rw [if_pos (by omega), if_pos (by omega), if_pos (by omega), rdOf_nat _ _ h1, wrapS (by omega)]
    · refine Ev.bind (name_ev _ (hs _ (List.getElem_mem _))) ?_
      cases hb : isName (bs l[i]) with
      | true =>
        simp only [if_true]
        refine ih (i + 1) (by omega) ?_
        unfold allNames at hn ⊢
        rw [List.take_succ_eq_append_getElem h1, List.all_append, hn]
        simp [hb]
      | false =>
        refine ev_now ?_
        unfold joinP
        rw [if_neg]
        intro h
        unfold allNames at h
        rw [List.all_eq_true] at h
        have := h _ (List.getElem_mem h1)
        rw [hb] at this; cases this
theorem join_ev (l : List ByteArray) (hl : l.length < 9223372036854775807) (hs : ∀ s ∈ l, s.size < 9223372036854775807) : Ev (fun k => path_Join.f k l) (joinP l) := join_loop l hl hs l.length 0 (by omega) rfl
theorem tail_snoc (l : List ByteArray) (i : Nat) (h : i < l.length) : Lib.joinTail [47] ((l.take (i + 1)).map bs) = Lib.joinTail [47] ((l.take i).map bs) ++ (47 :: bs l[i]) := by
  rw [List.take_succ_eq_append_getElem h, List.map_append]
  unfold Lib.joinTail
  rw [List.map_append, List.flatten_append]
  simp
theorem rjoin_out (l : List ByteArray) (hn : allNames l = true) (h6 : l.length ≤ 6) (h0 : l ≠ []) : ∀ (d i : Nat), i + d = l.length →
    Ev (fun k => carrackref05_Join.l1 k l (ba (Lib.joinTail [47] ((l.take i).map bs))) (i : Int)) (pathOf l, 0) := by
  have hsm : ∀ i, (Lib.joinTail [47] ((l.take i).map bs)).length ≤ 78 := by
    intro i
    have := tail_len ((l.take i).map bs) (fun y hy => by
      obtain ⟨z, hz, rfl⟩ := List.mem_map.1 hy
      unfold allNames at hn
      rw [List.all_eq_true] at hn
      exact (name_len (hn z (List.mem_of_mem_take hz))).2)
    rw [List.length_map, List.length_take] at this
    omega
  intro d
  induction d with
  | zero =>
    intro i hi
    refine Ev.step' (fun _ => some (ba (Lib.joinTail [47] ((l.take i).map bs)), 0)) (fun k => by simp only [carrackref05_Join.l1]; rw [if_neg (by omega)]) (ev_now ?_)
    rw [List.take_of_length_le (by omega)]
    cases l with
    | nil => exact absurd rfl h0
    | cons x r => rw [← join_path, ba_bs]
  | succ d ih =>
    intro i hi
    have h1 : i < l.length := by omega
    have s1 := hsm i
    have s2 := hsm (i + 1)
    have sz : (ba (Lib.joinTail [47] ((l.take i).map bs))).size = (Lib.joinTail [47] ((l.take i).map bs)).length := by rw [← bs_size, bs_ba]
    have e : (ba (Lib.joinTail [47] ((l.take i).map bs)) ++ (⟨#[47]⟩ : ByteArray)) ++ l[i] = ba (Lib.joinTail [47] ((l.take (i + 1)).map bs)) := by
      apply bs_inj
      rw [bs_append, bs_append, bs_ba, bs_ba, tail_snoc _ _ h1, slash_one]
      simp
    have e2 : ((ba (Lib.joinTail [47] ((l.take i).map bs)) ++ (⟨#[47]⟩ : ByteArray))).size + (l[i]).size = (Lib.joinTail [47] ((l.take (i + 1)).map bs)).length := by
      have := congrArg (fun z => (bs z).length) e
      simp only [bs_ba] at this
      rw [bs_append, List.length_append, bs_size, bs_size] at this
      exact this
    refine Ev.step' (fun k => carrackref05_Join.l1 k l (ba (Lib.joinTail [47] ((l.take (i + 1)).map bs))) (((i + 1 : Nat) : Nat) : Int)) (fun k => ?_) (ih (i + 1) (by omega))
    simp only [carrackref05_Join.l1]
    rw [if_pos (by omega), if_pos (by omega), if_pos (by omega), rdOf_nat _ _ h1, if_pos (by omega), wrapS (by omega), e]
theorem rjoin_loop (l : List ByteArray) (hl : l.length < 9223372036854775807) (hs : ∀ s ∈ l, s.size < 9223372036854775807) : ∀ (d i : Nat), i + d = l.length → allNames (l.take i) = true →
    Ev (fun k => carrackref05_Join.l0 k l (i : Int)) (joinP l) := by
  intro d
  induction d with
  | zero =>
    intro i hi hn
    rw [List.take_of_length_le (by omega)] at hn
    unfold joinP
    simp only [if_pos hn]
    refine Ev.step' (fun k => if 6 < l.length then some (⟨#[]⟩, 3) else if l = [] then some (⟨#[47]⟩, 0) else carrackref05_Join.l1 k l ⟨#[]⟩ 0) (fun k => ?_) ?_
    · simp only [carrackref05_Join.l0]
      rw [if_neg (by omega)]
      simp only [show ((l.length : Int) > 6) = (6 < l.length) from propext ⟨fun h => by omega, fun h => by omega⟩, show ((l.length : Int) = 0) = (l = []) from propext ⟨fun h => List.eq_nil_of_length_eq_zero (by omega), fun h => by rw [h]; rfl⟩]
    · by_cases h6 : 6 < l.length
      · simp only [if_pos h6]; exact Ev.now _
      · simp only [if_neg h6]
        by_cases h0 : l = []
        · subst h0; exact ev_now rfl
        · simp only [if_neg h0]
          exact rjoin_out l hn (by omega) h0 l.length 0 (by omega)
  | succ d ih =>
    intro i hi hn
    have h1 : i < l.length := by omega
    refine Ev.step' (fun k => (carrackref05_Name.f k l[i]).bind fun t => if t = true then carrackref05_Join.l0 k l (((i + 1 : Nat) : Nat) : Int) else some (⟨#[]⟩, 2)) (fun k => ?_) ?_
    · simp only [carrackref05_Join.l0]
      rw [if_pos (by omega), if_pos (by omega), rdOf_nat _ _ h1, wrapS (by omega)]
    · refine Ev.bind (rname_ev _ (hs _ (List.getElem_mem _))) ?_
      cases hb : isName (bs l[i]) with
      | true =>
        simp only [if_true]
        refine ih (i + 1) (by omega) ?_
        unfold allNames at hn ⊢
        rw [List.take_succ_eq_append_getElem h1, List.all_append, hn]
        simp [hb]
      | false =>
        refine ev_now ?_
        unfold joinP
        rw [if_neg]
        intro h
        unfold allNames at h
        rw [List.all_eq_true] at h
        have := h _ (List.getElem_mem h1)
        rw [hb] at this; cases this
theorem rjoin_ev (l : List ByteArray) (hl : l.length < 9223372036854775807) (hs : ∀ s ∈ l, s.size < 9223372036854775807) : Ev (fun k => carrackref05_Join.f k l) (joinP l) := rjoin_loop l hl hs l.length 0 (by omega) rfl

/-! ## back -/
theorem parts_join : ∀ (x : List UInt8) (r : List (List UInt8)), (∀ y ∈ x :: r, ∀ c ∈ y, c ≠ 47) → parts (Lib.join (x :: r) [47]) = x :: r := by
  intro x r
  induction r generalizing x with
  | nil => intro h; rw [Lib.join_one]; exact parts_none (h x (List.mem_cons_self ..))
  | cons y r ih =>
    intro h
    have e : Lib.join (x :: y :: r) [47] = x ++ 47 :: Lib.join (y :: r) [47] := by
      rw [Lib.join_cons, Lib.join_cons]; simp [Lib.joinTail]
    rw [e, parts_cut _ (h x (List.mem_cons_self ..)), ih y (fun z hz => h z (List.mem_cons_of_mem _ hz))]
theorem parts_ne : ∀ l : List UInt8, parts l ≠ []
  | [] => by simp [parts]
  | c :: l => by
    show (if c = 47 then [] :: parts l else consHead c (parts l)) ≠ []
    split
    · simp
    · cases parts l <;> simp [consHead]
theorem join_parts : ∀ l : List UInt8, Lib.join (parts l) [47] = l
  | [] => rfl
  | c :: l => by
    have ih := join_parts l
    show Lib.join (if c = 47 then [] :: parts l else consHead c (parts l)) [47] = _
    by_cases hc : c = 47
    · rw [if_pos hc]
      cases h : parts l with
      | nil => exact absurd h (parts_ne l)
      | cons p ps =>
        rw [h, Lib.join_cons] at ih
        rw [Lib.join_cons, hc, ← ih]
        simp [Lib.joinTail]
    · rw [if_neg hc]
      cases h : parts l with
      | nil => exact absurd h (parts_ne l)
      | cons p ps =>
        rw [h, Lib.join_cons] at ih
        show Lib.join ((c :: p) :: ps) [47] = _
        rw [Lib.join_cons, ← ih]
        simp
theorem parse_back (s : ByteArray) (h : (parseP s).2 = 0) : joinP (parseP s).1 = (s, 0) := by
  have hb0 : ∀ L, bs s = L → s = ba L := fun L h => by rw [← h, ba_bs]
  unfold parseP at h ⊢
  cases hb : bs s with
  | nil => rw [hb] at h; simp at h
  | cons c r =>
    rw [hb] at h
    dsimp only at h ⊢
    by_cases hc : c = 47
    · rw [if_pos hc] at h ⊢
      subst hc
      by_cases hr : r = []
      · rw [if_pos hr]
        subst hr
        rw [hb0 _ hb]
        rfl
      · rw [if_neg hr] at h ⊢
        unfold fin at h ⊢
        by_cases hn : (parts r).all isName = true
        · rw [if_pos hn] at h ⊢
          by_cases h6 : 6 < ([] : List ByteArray).length + (parts r).length
          · rw [if_pos h6] at h; simp at h
          · rw [if_neg h6]
            simp only [List.nil_append]
            have ha : allNames ((parts r).map ba) = true := by
              unfold allNames
              rw [List.all_map]
              rw [List.all_eq_true] at hn ⊢
              intro x hx
              show isName (bs (ba x)) = true
              rw [bs_ba]; exact hn x hx
            unfold joinP
            rw [if_pos ha, if_neg (by simp at h6 ⊢; omega)]
            refine Prod.ext ?_ rfl
            apply bs_inj
            show bs (pathOf ((parts r).map ba)) = bs s
            rw [bs_pathOf, hb, List.map_map]
            have : (bs ∘ ba) = id := by funext x; exact bs_ba x
            rw [this, List.map_id, join_parts]
        · rw [if_neg hn] at h; simp at h
    · rw [if_neg hc] at h; simp at h
theorem join_back (l : List ByteArray) (hn : allNames l = true) (h6 : l.length ≤ 6) : parseP (pathOf l) = (l, 0) := by
  unfold parseP
  rw [bs_pathOf]
  dsimp only
  rw [if_pos rfl]
  cases l with
  | nil => rfl
  | cons x r =>
    have hall : ∀ y ∈ (x :: r).map bs, isName y = true := by
      intro y hy
      obtain ⟨z, hz, rfl⟩ := List.mem_map.1 hy
      unfold allNames at hn
      rw [List.all_eq_true] at hn
      exact hn z hz
    rw [if_neg]
    · rw [List.map_cons, parts_join _ _ (fun y hy => name_slash (hall y hy)), ← List.map_cons]
      unfold fin
      rw [if_pos (List.all_eq_true.2 hall), if_neg (by simp at h6 ⊢; omega)]
      simp only [List.nil_append, List.map_map]
      have : (ba ∘ bs) = id := by funext x; exact ba_bs x
      rw [this, List.map_id]
    · rw [List.map_cons, Lib.join_cons]
      intro h
      have h1 := name_len (hall (bs x) (by simp))
      have := congrArg List.length h
      rw [List.length_append] at this
      simp at this
      rw [this.1] at h1
      simp at h1
end Go.Proofs.Ytelbnhcbmaionaa.P
