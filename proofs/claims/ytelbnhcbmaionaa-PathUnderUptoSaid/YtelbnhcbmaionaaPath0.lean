/- The plain law of paths, first part: names, the parts of a text, what Parse, Join, Split and Under answer, on lists of bytes: the printed functions come to these answers. -/
import Derived.Test.YtelbnhcbmaionaaPx5
import Derived.Test.YtelbnhcbmaionaaPx6
import Derived.Test.YtelbnhcbmaionaaPx7
import Derived.Lib.Join
namespace Go.Proofs.Ytelbnhcbmaionaa.P
open Go.RowKit Go.Proofs.YtelbnhcbmaionaaW.PrintWords Go.Proofs.YtelbnhcbmaionaaW.PrintLast Go.Proofs.YtelbnhcbmaionaaW.PrintMore

theorem wrapS {i : Nat} (h : i < 9223372036854775807) : wrap64 ((i : Int) + 1) = ((i + 1 : Nat) : Int) := by
  unfold wrap64
  omega
theorem Ev.step' {α : Type} {g : Nat → Option α} {r : α} (f : Nat → Option α) (h : ∀ k, g (k + 1) = f k) (k : Ev f r) : Ev g r := Ev.step h k
theorem ev_now {α : Type} {r r' : α} (e : r = r') : Ev (fun _ => some r) r' := e ▸ Ev.now r
def bs (s : ByteArray) : List UInt8 := s.data.toList
def ba (l : List UInt8) : ByteArray := ⟨l.toArray⟩
theorem bs_ba (l : List UInt8) : bs (ba l) = l := by simp [bs, ba]
theorem ba_bs (s : ByteArray) : ba (bs s) = s := Lib.mk_data s
theorem bs_size (s : ByteArray) : (bs s).length = s.size := data_length s
theorem toList_bs (s : ByteArray) : s.toList = bs s := Lib.toList_data s
theorem bs_inj {s t : ByteArray} (h : bs s = bs t) : s = t := by rw [← ba_bs s, h, ba_bs]
theorem bs_extract (s : ByteArray) (a b : Nat) : bs (s.extract a b) = ((bs s).drop a).take (b - a) := Lib.extract_data s a b
theorem bt_bs (s : ByteArray) (i : Nat) (h : i < (bs s).length) : bt s i = (((bs s)[i]).toNat : Int) := by
  have h2 : i < s.size := by rw [← bs_size]; exact h
  have := bt_at s i (by simpa using h2)
  rw [← this]
  simp only [Int.toNat_natCast]
  rfl

/-! ## names -/
def mayI (c : Int) : Bool := decide (97 ≤ c ∧ c ≤ 122) || (decide (48 ≤ c ∧ c ≤ 57) || (c == 46 || c == 45))
def mayB (c : UInt8) : Bool := mayI (c.toNat : Int)
def tailName (L : List UInt8) : Bool := decide (1 ≤ L.length) && (decide (L.length ≤ 12) && ((L != [46]) && (L != [46, 46])))
def isName (L : List UInt8) : Bool := L.all mayB && tailName L
theorem may_ev (c : Int) : Ev (fun k => path_may.f k c) (mayI c) := by
  refine ⟨2, fun k (hk : 2 ≤ k) => ?_⟩
  obtain ⟨k, rfl⟩ : ∃ m, k = m + 2 := ⟨k - 2, (Nat.sub_add_cancel hk).symm⟩
  unfold path_may.f
  simp only [path_may.j0, path_may.j1]
  unfold mayI
  by_cases a : c ≥ 97 <;> by_cases b : c ≤ 122 <;> by_cases d : c ≥ 48 <;> by_cases e : c ≤ 57 <;> by_cases f : c = 46 <;> by_cases g : c = 45 <;> first | (exfalso; omega) | simp [a, b, d, e, f, g]
theorem not_slash {c : UInt8} (h : mayB c = true) : c ≠ 47 := by
  rintro rfl
  revert h
  decide
theorem tail_text (s : ByteArray) : (if (s.size : Int) ≥ 1 then (if (s.size : Int) ≤ 12 then (if s.toList = ([46] : List UInt8) then (some false) else (some (s.toList != ([46, 46] : List UInt8)))) else (some false)) else (some false)) = some (tailName (bs s)) := by
  unfold tailName
  rw [toList_bs, bs_size]
  by_cases a : (s.size : Int) ≥ 1
  · rw [if_pos a]
    have a' : decide (1 ≤ s.size) = true := decide_eq_true (by omega)
    by_cases b : (s.size : Int) ≤ 12
    · rw [if_pos b]
      have b' : decide (s.size ≤ 12) = true := decide_eq_true (by omega)
      by_cases c : bs s = [46]
      · rw [if_pos c, a', b', c]; rfl
      · rw [if_neg c, a', b']
        have c' : (bs s != [46]) = true := by simpa using c
        rw [c']; rfl
    · rw [if_neg b]
      have b' : decide (s.size ≤ 12) = false := decide_eq_false (by omega)
      rw [a', b']; rfl
  · rw [if_neg a]
    have a' : decide (1 ≤ s.size) = false := decide_eq_false (by omega)
    rw [a']; rfl
theorem drop_cons (L : List UInt8) (i : Nat) (h : i < L.length) : L.drop i = L[i] :: L.drop (i + 1) := List.drop_eq_getElem_cons h
theorem name_loop (s : ByteArray) (hs : s.size < 9223372036854775807) : ∀ (d i : Nat), i + d = s.size →
    Ev (fun k => path_Name.l0 k s (s.size : Int) (i : Int)) (((bs s).drop i).all mayB && tailName (bs s)) := by
  intro d
  induction d with
  | zero =>
    intro i hi
    refine Ev.step' (fun _ => some (tailName (bs s))) (fun k => ?_) ?_
    · simp only [path_Name.l0]
      rw [if_neg (by omega), tail_text]
    · refine ev_now ?_
      rw [List.drop_eq_nil_of_le (by rw [bs_size]; omega)]; rfl
  | succ d ih =>
    intro i hi
    have hl : i < (bs s).length := by rw [bs_size]; omega
    refine Ev.step' (fun k => (path_may.f k (bt s (i : Int))).bind fun t => if t = true then path_Name.l0 k s (s.size : Int) (((i + 1 : Nat) : Nat) : Int) else some false) (fun k => ?_) ?_
    · simp only [path_Name.l0]
      rw [if_pos (by omega), if_pos (by omega), if_pos (by omega), wrapS (by omega)]
    · refine Ev.bind (may_ev _) ?_
      rw [drop_cons _ _ hl, List.all_cons]
      have e : mayI (bt s (i : Int)) = mayB (bs s)[i] := by rw [bt_bs s i hl]; rfl
      rw [e]
      cases mayB (bs s)[i] with
      | true => simpa using ih (i + 1) (by omega)
      | false => simpa using Ev.now false
theorem name_ev (s : ByteArray) (hs : s.size < 9223372036854775807) : Ev (fun k => path_Name.f k s) (isName (bs s)) := by
  have h := name_loop s hs s.size 0 (by omega)
  exact h
theorem rname_loop (s : ByteArray) (hs : s.size < 9223372036854775807) : ∀ (d i : Nat), i + d = s.size →
    Ev (fun k => carrackref05_Name.l0 k s (i : Int)) (((bs s).drop i).all mayB && tailName (bs s)) := by
  intro d
  induction d with
  | zero =>
    intro i hi
    refine Ev.step' (fun _ => some (tailName (bs s))) (fun k => ?_) ?_
    · simp only [carrackref05_Name.l0]
      rw [if_neg (by omega)]
      exact tail_text s
    · refine ev_now ?_
      rw [List.drop_eq_nil_of_le (by rw [bs_size]; omega)]; rfl
  | succ d ih =>
    intro i hi
    have hl : i < (bs s).length := by rw [bs_size]; omega
    refine Ev.step' (fun k => if mayI (bt s (i : Int)) = true then carrackref05_Name.l0 k s (((i + 1 : Nat) : Nat) : Int) else some false) (fun k => ?_) ?_
    · simp only [carrackref05_Name.l0]
      rw [if_pos (by omega), if_pos (by omega), wrapS (by omega)]
      generalize bt s (i : Int) = c
      unfold mayI
      by_cases a : c ≥ 97 <;> by_cases b : c ≤ 122 <;> by_cases d : c ≥ 48 <;> by_cases e : c ≤ 57 <;> by_cases f : c = 46 <;> by_cases g : c = 45 <;> first | (exfalso; omega) | simp [a, b, d, e, f, g]
    · rw [drop_cons _ _ hl, List.all_cons]
      have e : mayI (bt s (i : Int)) = mayB (bs s)[i] := by rw [bt_bs s i hl]; rfl
      rw [e]
      cases mayB (bs s)[i] with
      | true => simpa using ih (i + 1) (by omega)
      | false => simpa using Ev.now false
theorem rname_ev (s : ByteArray) (hs : s.size < 9223372036854775807) : Ev (fun k => carrackref05_Name.f k s) (isName (bs s)) := by
  have h := rname_loop s hs s.size 0 (by omega)
  exact h

/-! ## the parts of a text -/
def consHead (c : UInt8) : List (List UInt8) → List (List UInt8)
  | [] => [[c]]
  | p :: ps => (c :: p) :: ps
def parts : List UInt8 → List (List UInt8)
  | [] => [[]]
  | c :: l => if c = 47 then [] :: parts l else consHead c (parts l)
theorem parts_none : ∀ {l : List UInt8}, (∀ c ∈ l, c ≠ 47) → parts l = [l]
  | [], _ => rfl
  | c :: l, h => by
    unfold parts
    rw [if_neg (h c (List.mem_cons_self ..)), parts_none (fun x hx => h x (List.mem_cons_of_mem _ hx))]
    rfl
theorem parts_cut : ∀ {l : List UInt8} (r : List UInt8), (∀ c ∈ l, c ≠ 47) → parts (l ++ 47 :: r) = l :: parts r
  | [], r, _ => by simp [parts]
  | c :: l, r, h => by
    rw [List.cons_append, show parts (c :: (l ++ 47 :: r)) = (if c = 47 then [] :: parts (l ++ 47 :: r) else consHead c (parts (l ++ 47 :: r))) from rfl]
    rw [if_neg (h c (List.mem_cons_self ..)), parts_cut r (fun x hx => h x (List.mem_cons_of_mem _ hx))]
    rfl
theorem parts_length_le : ∀ l : List UInt8, (parts l).length ≤ l.length + 1
  | [] => by simp [parts]
  | c :: l => by
    have := parts_length_le l
    unfold parts
    split
    · simp; omega
    · cases h : parts l with
      | nil => simp [consHead]
      | cons p ps => rw [h] at this; simp [consHead] at this ⊢; omega
theorem index_none {l : List UInt8} {c : UInt8} (h : Lib.indexByte l c = -1) : ∀ x ∈ l, x ≠ c := by
  induction l with
  | nil => intro x hx; cases hx
  | cons b l ih =>
    unfold Lib.indexByte at h
    by_cases hb : (b == c) = true
    · rw [if_pos hb] at h; cases h
    · rw [if_neg hb] at h
      split at h
      · rename_i h2
        intro x hx
        rcases List.mem_cons.1 hx with rfl | hx
        · simpa using hb
        · exact ih (by simpa using h2) x hx
      · exact absurd h (by have := Lib.indexByte_ge l c; omega)
theorem index_some {l : List UInt8} {c : UInt8} : ∀ {i : Nat}, Lib.indexByte l c = i → l = l.take i ++ c :: l.drop (i + 1) ∧ ∀ x ∈ l.take i, x ≠ c := by
  induction l with
  | nil => intro i h; exact absurd h (by unfold Lib.indexByte; omega)
  | cons b l ih =>
    intro i h
    unfold Lib.indexByte at h
    by_cases hb : (b == c) = true
    · rw [if_pos hb] at h
      obtain rfl : i = 0 := by omega
      have : b = c := by simpa using hb
      subst this
      simp
    · rw [if_neg hb] at h
      split at h
      · omega
      · obtain ⟨j, rfl⟩ : ∃ j, i = j + 1 := ⟨i - 1, by have := Lib.indexByte_ge l c; rename_i h2; have : Lib.indexByte l c ≠ -1 := by simpa using h2
                                                       omega⟩
        obtain ⟨h1, h2⟩ := ih (i := j) (by omega)
        refine ⟨by rw [List.take_succ_cons, List.drop_succ_cons, List.cons_append, ← h1], fun x hx => ?_⟩
        rw [List.take_succ_cons] at hx
        rcases List.mem_cons.1 hx with rfl | hx
        · simpa using hb
        · exact h2 x hx
theorem cut_parts (s : ByteArray) : ((cutOf s).2.2 = false ∧ (cutOf s).1 = s ∧ parts (bs s) = [bs s]) ∨
    ((cutOf s).2.2 = true ∧ parts (bs s) = bs (cutOf s).1 :: parts (bs (cutOf s).2.1) ∧ (cutOf s).1.size + (cutOf s).2.1.size + 1 = s.size) := by
  rcases index_range s.data.toList 47 with h | ⟨i, h, hi⟩
  · left
    have e : cutOf s = (s, ⟨#[]⟩, false) := by unfold cutOf; rw [if_pos h]
    rw [e]
    exact ⟨rfl, rfl, parts_none (index_none h)⟩
  · right
    have hl : i < s.size := by rw [data_length] at hi; exact hi
    have e : cutOf s = (s.extract 0 i, s.extract (i + 1) s.size, true) := by unfold cutOf; rw [if_neg (by omega), h]; rfl
    rw [e]
    obtain ⟨h1, h2⟩ := index_some h
    have e1 : bs (s.extract 0 i) = (bs s).take i := by rw [bs_extract]; simp
    have e2 : bs (s.extract (i + 1) s.size) = (bs s).drop (i + 1) := by
      rw [bs_extract, List.take_of_length_le (by rw [List.length_drop, bs_size]; omega)]
    refine ⟨rfl, ?_, ?_⟩
    · dsimp only
      rw [e1, e2]
      have h3 := parts_cut (l := (bs s).take i) ((bs s).drop (i + 1)) h2
      rw [← h3]
      exact congrArg parts h1
    · dsimp only
      have s1 := bs_size (s.extract 0 i)
      have s2 := bs_size (s.extract (i + 1) s.size)
      rw [e1, List.length_take, bs_size] at s1
      rw [e2, List.length_drop, bs_size] at s2
      omega

/-! ## Parse -/
def fin (done : List ByteArray) (ps : List (List UInt8)) : List ByteArray × Int :=
  if ps.all isName = true then (if 6 < done.length + ps.length then ([], 3) else (done ++ ps.map ba, 0)) else ([], 2)
def parseP (s : ByteArray) : List ByteArray × Int :=
  match bs s with
  | [] => ([], 2)
  | c :: r => if c = 47 then (if r = [] then ([], 0) else fin [] (parts r)) else ([], 2)
theorem fin_more (done : List ByteArray) (p : ByteArray) (ps : List (List UInt8)) (h : isName (bs p) = true) : fin (done ++ [p]) ps = fin done (bs p :: ps) := by
  unfold fin
  rw [List.all_cons, h, Bool.true_and, List.length_append, List.length_singleton, List.length_cons, List.map_cons, ba_bs, List.append_assoc, List.singleton_append]
  rw [show done.length + 1 + ps.length = done.length + (ps.length + 1) by omega]
theorem cut_ev (s : ByteArray) (hs : s.size < 8796093022208) : Ev (fun _ => strings_Cut.f s (⟨#[47]⟩ : ByteArray)) (cutOf s) := by
  refine (Ev.now _ : Ev (fun _ => some (cutOf s)) (cutOf s)).congr (fun k => ?_)
  unfold strings_Cut.f
  rw [if_pos (by rw [toList_bs]; rfl), if_pos (by omega)]
theorem parse_round (rest : ByteArray) (done : List ByteArray) (hd : done.length + rest.size < 8796093022208)
    (ih : (cutOf rest).2.2 = true → isName (bs (cutOf rest).1) = true → Ev (fun k => path_Parse.l0 k (done ++ [(cutOf rest).1]) (cutOf rest).2.1) (fin (done ++ [(cutOf rest).1]) (parts (bs (cutOf rest).2.1)))) :
    Ev (fun k => path_Parse.l0 k done rest) (fin done (parts (bs rest))) := by
  refine Ev.step' (fun k => (strings_Cut.f rest (⟨#[47]⟩ : ByteArray)).bind fun b => (path_Name.f k b.1).bind fun t => if t = true then (if done.length < 8796093022208 then ((some (done ++ [b.1])).bind fun y => if b.2.2 = true then path_Parse.l0 k y b.2.1 else if (y.length : Int) > 6 then some ([], 3) else some (y, 0)) else none) else some ([], 2)) (fun k => by simp only [path_Parse.l0]) ?_
  refine Ev.bind (cut_ev rest (by omega)) ?_
  have hsz : (cutOf rest).1.size ≤ rest.size := by
    rcases cut_parts rest with ⟨c1, c2, c3⟩ | ⟨c1, c2, c3⟩
    · rw [c2]; exact Nat.le_refl _
    · omega
  refine Ev.bind (name_ev (cutOf rest).1 (by omega)) ?_
  simp only [Option.bind_some]
  simp only [if_pos (show done.length < 8796093022208 by omega)]
  cases hn : isName (bs (cutOf rest).1) with
  | false =>
    refine ev_now ?_
    unfold fin
    rcases cut_parts rest with ⟨c1, c2, c3⟩ | ⟨c1, c2, c3⟩
    · rw [c3, List.all_cons, ← c2, hn]; rfl
    · rw [c2, List.all_cons, hn]; rfl
  | true =>
    rcases cut_parts rest with ⟨c1, c2, c3⟩ | ⟨c1, c2, c3⟩
    · rw [c1]
      simp only [if_true, Bool.false_eq_true, if_false]
      by_cases h6 : ((done ++ [(cutOf rest).1]).length : Int) > 6
      · rw [if_pos h6]
        refine ev_now ?_
        unfold fin
        rw [c3, ← c2, List.all_cons, hn, List.all_nil]
        rw [List.length_append, List.length_singleton] at h6
        simp only [Bool.and_self, if_true, List.length_singleton]
        rw [if_pos (by omega)]
      · rw [if_neg h6]
        refine ev_now ?_
        unfold fin
        rw [c3, ← c2, List.all_cons, hn, List.all_nil]
        rw [List.length_append, List.length_singleton] at h6
        simp only [Bool.and_self, if_true, List.length_singleton, List.map_cons, List.map_nil, ba_bs]
        rw [if_neg (by omega), c2, c2]
    · rw [c1]
      simp only [if_true]
      have := ih c1 hn
      rw [fin_more _ _ _ hn, ← c2] at this
      exact this
theorem parse_loop : ∀ (n : Nat) (rest : ByteArray) (done : List ByteArray), rest.size < n → done.length + rest.size < 8796093022208 →
    Ev (fun k => path_Parse.l0 k done rest) (fin done (parts (bs rest))) := by
  intro n
  induction n with
  | zero => intro rest done h1 h2; omega
  | succ n ih =>
    intro rest done h1 h2
    refine parse_round rest done h2 (fun c1 hn => ?_)
    rcases cut_parts rest with ⟨c2, _⟩ | ⟨_, _, c3⟩
    · rw [c1] at c2; cases c2
    · exact ih _ _ (by omega) (by rw [List.length_append, List.length_singleton]; omega)
theorem slash_one : bs (⟨#[47]⟩ : ByteArray) = [47] := rfl
theorem parse_ev (s : ByteArray) (hs : s.size < 8796093022208) : Ev (fun k => path_Parse.f k s) (parseP s) := by
  unfold path_Parse.f parseP
  rw [toList_bs]
  cases hb : bs s with
  | nil =>
    have := bs_size s
    simpa using Ev.now _
  | cons c r =>
    have hl := bs_size s
    rw [hb, List.length_cons] at hl
    have hbt : bt s ((0 : Nat) : Int) = (c.toNat : Int) := by
      rw [bt_bs s 0 (by rw [hb]; simp)]
      simp [hb]
    have hbt : bt s 0 = (c.toNat : Int) := hbt
    rw [hbt]
    by_cases hc : c = 47
    · subst hc
      by_cases hr : r = []
      · subst hr
        simpa using Ev.now _
      · have e1 : ¬ ((47 : UInt8) :: r = [47]) := by simpa using hr
        have e2 : bs (s.extract 1 s.size) = r := by
          rw [bs_extract, hb, List.take_of_length_le (by simp; omega)]; rfl
        have h := parse_loop (s.size + 1) (s.extract 1 s.size) [] (by have := bs_size (s.extract 1 s.size); rw [e2] at this; omega) (by have := bs_size (s.extract 1 s.size); rw [e2] at this; simp; omega)
        rw [e2] at h
        have p1 : 0 < (s.size : Int) := by omega
        have p2 : 1 ≤ (s.size : Int) := by omega
        have p3 : 0 < s.size := by omega
        simpa [e1, hr, p1, p2, p3] using h
    · have e1 : ¬ (c :: r = [47]) := by simp [hc]
      have e3 : ¬ ((c.toNat : Int) = 47) := fun h => hc (by
        have : c.toNat = 47 := by omega
        exact UInt8.toNat_inj.1 this)
      have p1 : 0 < (s.size : Int) := by omega
      have := Ev.now (([] : List ByteArray), (2 : Int))
      have p3 : 0 < s.size := by omega
      simpa [e1, hc, e3, p1, p3] using this

/-! ## the document's Parse -/
theorem rp_done (s : ByteArray) (done : List ByteArray) : Ev (fun k => carrackref05_Parse.l0 k s done (((s.size + 1 : Nat) : Nat) : Int) (((s.size + 1 : Nat) : Nat) : Int)) (fin done []) := by
  refine Ev.step' (fun _ => if (done.length : Int) > 6 then some ([], 3) else some (done, 0)) (fun k => ?_) ?_
  · simp only [carrackref05_Parse.l0]
    rw [if_neg (by omega)]
  · unfold fin
    simp only [List.all_nil, if_true, List.length_nil, Nat.add_zero, List.map_nil, List.append_nil]
    by_cases h : 6 < done.length
    · simp only [if_pos h, if_pos (show (done.length : Int) > 6 by omega)]; exact Ev.now _
    · simp only [if_neg h, if_neg (show ¬ (done.length : Int) > 6 by omega)]; exact Ev.now _
theorem rp_loop (s : ByteArray) (hs : s.size < 8796093022207) : ∀ (d i fr : Nat) (done : List ByteArray), i + d = s.size → fr ≤ i → done.length + (s.size - fr) < 8796093022208 → (∀ c ∈ ((bs s).drop fr).take (i - fr), c ≠ 47) →
    Ev (fun k => carrackref05_Parse.l0 k s done (fr : Int) (i : Int)) (fin done (parts ((bs s).drop fr))) := by
  intro d
  induction d with
  | zero =>
    intro i fr done hi hf hd hn
    obtain rfl : i = s.size := by omega
    have e1 : bs (s.extract fr s.size) = (bs s).drop fr := by rw [bs_extract, List.take_of_length_le (by rw [List.length_drop, bs_size]; omega)]
    have e2 : parts ((bs s).drop fr) = [(bs s).drop fr] := parts_none (fun c hc => hn c (by rw [List.take_of_length_le (by rw [List.length_drop, bs_size]; omega)]; exact hc))
    refine Ev.step' (fun k => carrackref05_Parse.j2 k s done (fr : Int) (s.size : Int) false) (fun k => ?_) ?_
    · simp only [carrackref05_Parse.l0]
      rw [if_pos (by omega), if_neg (by omega)]
    · refine Ev.step' (fun k => (carrackref05_Name.f k (s.extract fr s.size)).bind fun t => if t = true then carrackref05_Parse.l0 k s (done ++ [s.extract fr s.size]) (((s.size + 1 : Nat) : Nat) : Int) (((s.size + 1 : Nat) : Nat) : Int) else some ([], 2)) (fun k => ?_) ?_
      · simp only [carrackref05_Parse.j2]
        rw [if_neg (by simp), if_pos (by omega), if_pos (by omega), if_pos (by omega), wrapS (by omega)]
        simp only [Int.toNat_natCast, if_pos (show done.length < 8796093022208 by omega)]
      · refine Ev.bind (rname_ev (s.extract fr s.size) (by have := bs_size (s.extract fr s.size); rw [e1, List.length_drop, bs_size] at this; omega)) ?_
        cases hnm : isName (bs (s.extract fr s.size)) with
        | true =>
          have h := rp_done s (done ++ [s.extract fr s.size])
          rw [fin_more _ _ _ hnm, e1, ← e2] at h
          exact h
        | false =>
          refine ev_now ?_
          unfold fin
          rw [e2, List.all_cons, ← e1, hnm]; rfl
  | succ d ih =>
    intro i fr done hi hf hd hn
    have hl : i < (bs s).length := by rw [bs_size]; omega
    have hb := bt_bs s i hl
    have el : (bs s).drop fr = ((bs s).drop fr).take (i - fr) ++ (bs s)[i] :: (bs s).drop (i + 1) := by
      have h1 := (List.take_append_drop (i - fr) ((bs s).drop fr)).symm
      rw [List.drop_drop, show fr + (i - fr) = i by omega, drop_cons _ _ hl] at h1
      exact h1
    refine Ev.step' (fun k => carrackref05_Parse.j2 k s done (fr : Int) (i : Int) ((bt s (i : Int)) != 47)) (fun k => ?_) ?_
    · simp only [carrackref05_Parse.l0]
      rw [if_pos (by omega), if_pos (by omega), if_pos (by omega)]
    · rw [hb]
      by_cases hc : (bs s)[i] = 47
      · have hc' : ((((bs s)[i]).toNat : Int) != 47) = false := by rw [hc]; rfl
        rw [hc']
        have e1 : bs (s.extract fr i) = ((bs s).drop fr).take (i - fr) := bs_extract s fr i
        have e2 : parts ((bs s).drop fr) = bs (s.extract fr i) :: parts ((bs s).drop (i + 1)) := by
          rw [e1, ← parts_cut _ hn, ← hc]
          exact congrArg parts el
        refine Ev.step' (fun k => (carrackref05_Name.f k (s.extract fr i)).bind fun t => if t = true then carrackref05_Parse.l0 k s (done ++ [s.extract fr i]) (((i + 1 : Nat) : Nat) : Int) (((i + 1 : Nat) : Nat) : Int) else some ([], 2)) (fun k => ?_) ?_
        · simp only [carrackref05_Parse.j2]
          rw [if_neg (by simp), if_pos (by omega), if_pos (by omega), if_pos (by omega), wrapS (by omega)]
          simp only [Int.toNat_natCast, if_pos (show done.length < 8796093022208 by omega)]
        · refine Ev.bind (rname_ev (s.extract fr i) (by have := bs_size (s.extract fr i); rw [e1, List.length_take] at this; omega)) ?_
          cases hnm : isName (bs (s.extract fr i)) with
          | true =>
            have h := ih (i + 1) (i + 1) (done ++ [s.extract fr i]) (by omega) (Nat.le_refl _) (by rw [List.length_append, List.length_singleton]; omega) (by rw [Nat.sub_self]; intro c hc; cases hc)
            rw [fin_more _ _ _ hnm, ← e2] at h
            exact h
          | false =>
            refine ev_now ?_
            unfold fin
            rw [e2, List.all_cons, hnm]; rfl
      · have hc' : ((((bs s)[i]).toNat : Int) != 47) = true := by
          rw [bne_iff_ne]
          intro h
          exact hc (UInt8.toNat_inj.1 (by have : ((bs s)[i]).toNat = 47 := by omega
                                          exact this))
        rw [hc']
        refine Ev.step' (fun k => carrackref05_Parse.l0 k s done (fr : Int) (((i + 1 : Nat) : Nat) : Int)) (fun k => ?_) ?_
        · simp only [carrackref05_Parse.j2]
          rw [if_pos trivial, wrapS (by omega)]
        · refine ih (i + 1) fr done (by omega) (by omega) hd (fun c hm => ?_)
          rw [show i + 1 - fr = (i - fr) + 1 by omega, List.take_add_one] at hm
          rcases List.mem_append.1 hm with hm | hm
          · exact hn c hm
          · rw [List.getElem?_drop, show fr + (i - fr) = i by omega, List.getElem?_eq_getElem hl] at hm
            simp at hm
            rw [hm]; exact hc
theorem rparse_ev (s : ByteArray) (hs : s.size < 8796093022207) : Ev (fun k => carrackref05_Parse.f k s) (parseP s) := by
  unfold carrackref05_Parse.f parseP
  rw [toList_bs]
  cases hb : bs s with
  | nil =>
    simp only [if_true]
    refine Ev.step' (fun _ => some ([], 2)) (fun k => by simp only [carrackref05_Parse.j0, if_true]) (Ev.now _)
  | cons c r =>
    have hl := bs_size s
    rw [hb, List.length_cons] at hl
    have hbt : bt s ((0 : Nat) : Int) = (c.toNat : Int) := by
      rw [bt_bs s 0 (by rw [hb]; simp)]
      simp [hb]
    have hbt : bt s 0 = (c.toNat : Int) := hbt
    rw [hbt]
    have p1 : 0 < (s.size : Int) := by omega
    simp only [reduceCtorEq, if_false, if_pos p1]
    by_cases hc : c = 47
    · subst hc
      refine Ev.step' (fun k => if r = [] then some ([], 0) else carrackref05_Parse.l0 k s [] 1 1) (fun k => ?_) ?_
      · simp only [carrackref05_Parse.j0]
        rw [if_neg (by decide), toList_bs, hb]
        simp only [List.cons.injEq, true_and]
      · by_cases hr : r = []
        · subst hr
          simpa using Ev.now _
        · simp only [if_neg hr]
          have h := rp_loop s hs (s.size - 1) 1 1 [] (by omega) (Nat.le_refl _) (by simp; omega) (by rw [Nat.sub_self]; intro c hc; cases hc)
          rw [hb] at h
          exact h
    · have e3 : (((c.toNat : Nat) : Int) != 47) = true := by
        rw [bne_iff_ne]
        intro h
        exact hc (UInt8.toNat_inj.1 (by have : c.toNat = 47 := by omega
                                        exact this))
      rw [e3, if_neg hc]
      refine Ev.step' (fun _ => some ([], 2)) (fun k => by simp only [carrackref05_Parse.j0, if_true]) (Ev.now _)
end Go.Proofs.Ytelbnhcbmaionaa.P
