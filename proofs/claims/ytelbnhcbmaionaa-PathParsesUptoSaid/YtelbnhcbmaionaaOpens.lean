/- How arguments are opened, kind by kind: what can be read as data is of the print's kinds; its bulk and its weights. Of no function. -/
import Derived.Test.YtelbnhcbmaionaaRows
import Derived.Test.YtelbnhcbmaionaaWMore
import Derived.Test.YtelbnhcbmaionaaEnd
import Derived.ChangeArms
import Derived.SizedLaws
import Derived.ChangeSlices
namespace Go.Proofs.Ytelbnhcbmaionaa
open Go.RowKit Go.WideShapes Go.ChangeShapes Go.Proofs.YtelbnhcbmaionaaW.PrintWords
set_option linter.unusedVariables false
set_option linter.unusedSimpArgs false

/-- What is asked of a value: its range, its bulk, its weights. -/
structure Gauge (α : Type) where
  ok : α → Prop
  sz : α → Nat
  pos : ∀ x, 1 ≤ sz x
  wt : α → List Nat
def gInt (k : IntKind) : Gauge Int := ⟨fun v => (Lit.int k v).wf = true, fun _ => 1, fun _ => Nat.le_refl _, fun _ => []⟩
def gBool : Gauge Bool := ⟨fun _ => True, fun _ => 1, fun _ => Nat.le_refl _, fun _ => []⟩
def gStr : Gauge ByteArray := ⟨fun s => s.size ≤ maxLen, fun s => s.size + 1, fun _ => by omega, fun s => [s.size]⟩
def gList {α : Type} (b : Nat) (g : Gauge α) : Gauge (List α) := ⟨fun l => l.length ≤ maxLen ∧ ∀ x ∈ l, g.ok x, fun l => (l.map g.sz).sum + 1, fun _ => by omega, fun l => l.length * b :: l.flatMap g.wt⟩
def gPair {α β : Type} (a : Gauge α) (b : Gauge β) : Gauge (α × β) := ⟨fun x => a.ok x.1 ∧ b.ok x.2, fun x => a.sz x.1 + b.sz x.2, fun x => by have := a.pos x.1; omega, fun x => a.wt x.1 ++ b.wt x.2⟩
def gIso {α β : Type} (g : Gauge α) (f : β → α) : Gauge β := ⟨fun x => g.ok (f x), fun x => g.sz (f x) + 1, fun x => by omega, fun x => g.wt (f x)⟩
theorem gList_mem {α : Type} {b : Nat} {g : Gauge α} {l : List α} {x : α} (hx : x ∈ l) : g.sz x ≤ (l.map g.sz).sum := by
  induction l with
  | nil => cases hx
  | cons y l ih =>
    rw [List.map_cons, List.sum_cons]
    rcases List.mem_cons.1 hx with rfl | hx
    · omega
    · have := ih hx; omega
theorem gList_len {α : Type} {b : Nat} {g : Gauge α} {l : List α} : l.length ≤ (l.map g.sz).sum := by
  induction l with
  | nil => simp
  | cons y l ih => rw [List.map_cons, List.sum_cons, List.length_cons]; have := g.pos y; omega

section
variable {H : Type} (enc : TypeId × Value → H) (P : Program)
/-- What is read at type t is of kind d. -/
def Opens (t : TypeId) {α : Type} (d : Kd α) (g : Gauge α) : Prop :=
  P.cellsOf t = d.sz ∧ ∀ (W : World) (base : Nat) (sp : Nat → Bool) (held : Bool) (fuel : Nat) (cs : List Value) (x : DataW H × List MemPlace), DataW.trod enc P W base sp held fuel t cs = some x →
    ∃ v, d.K W v cs ∧ g.ok v ∧ g.sz v ≤ Rows.uptoBulk x.1 ∧ ∀ N, (∀ m ∈ x.1.weights P t, m ≤ N) → ∀ n ∈ g.wt v, n ≤ N
/-- The same of a struct's fields, the first at offset o. -/
def OpensF (fs : List Field) (o : Nat) {α : Type} (d : Kd α) (g : Gauge α) : Prop :=
  ∀ (W : World) (base : Nat) (sp : Nat → Bool) (held : Bool) (n : Nat) (cs : List Value) (xs : List (DataW H × List MemPlace)), xs.length = fs.length → o + d.sz ≤ cs.length →
    (∀ (i : Nat) (f : Field), fs[i]? = some f → DataW.trod enc P W base sp held n f.type ((cs.drop f.offset).take (P.cellsOf f.type)) = xs[i]?) →
    ∃ v, d.K W v ((cs.drop o).take d.sz) ∧ g.ok v ∧ g.sz v ≤ Rows.uptoBulkAll (xs.map (·.1)) ∧ ∀ N, (∀ m ∈ DataW.weightsEach P (fs.map (·.type)) (xs.map (·.1)), m ≤ N) → ∀ n ∈ g.wt v, n ≤ N
variable {enc P}
theorem opens_int {t : TypeId} {k : IntKind} (ht : P.underlying t = some (.int k)) (hc : P.cellsOf t = 1) : Opens enc P t (Kd.int k) (gInt k) := by
  refine ⟨hc, fun W base sp held fuel cs x h => ?_⟩
  obtain ⟨n, rfl, rfl, hw⟩ := DataW.trod_int ht h
  exact ⟨n, rfl, hw, by simp [gInt, Rows.uptoBulk], fun N hN m hm => by simp [gInt] at hm⟩
theorem opens_bool {t : TypeId} (ht : P.underlying t = some .bool) (hc : P.cellsOf t = 1) : Opens enc P t Kd.bool gBool := by
  refine ⟨hc, fun W base sp held fuel cs x h => ?_⟩
  obtain ⟨b, rfl, rfl⟩ := DataW.trod_bool ht h
  exact ⟨b, rfl, trivial, by simp [gBool, Rows.uptoBulk], fun N hN m hm => by simp [gBool] at hm⟩
theorem opens_string {t : TypeId} (ht : P.underlying t = some .string) (hc : P.cellsOf t = 1) : Opens enc P t Kd.string gStr := by
  refine ⟨hc, fun W base sp held fuel cs x h => ?_⟩
  obtain ⟨s, rfl, rfl, hw⟩ := DataW.trod_string ht h
  refine ⟨s, rfl, hw, ?_, fun N hN m hm => ?_⟩
  · simp only [gStr, Rows.uptoBulk, data_length]; omega
  · simp only [gStr, List.mem_singleton] at hm
    subst hm
    have := hN s.data.toList.length (by simp [DataW.weights])
    rwa [data_length] at this
theorem weightsAll_mem {e : TypeId} {ds : List (DataW H)} {d : DataW H} (hd : d ∈ ds) {n : Nat} (hn : n ∈ d.weights P e) : n ∈ DataW.weightsAll P e ds := by
  induction ds with
  | nil => cases hd
  | cons y ds ih =>
    rw [DataW.weightsAll]
    rcases List.mem_cons.1 hd with rfl | hd
    · exact List.mem_append_left _ hn
    · exact List.mem_append_right _ (ih hd)
theorem bulkAll_append (l r : List (DataW H)) : Rows.uptoBulkAll (l ++ r) = Rows.uptoBulkAll l + Rows.uptoBulkAll r := by
  induction l with
  | nil => simp [Rows.uptoBulkAll]
  | cons x l ih => simp only [List.cons_append, Rows.uptoBulkAll, ih]; omega
theorem cells?_cells {w : World} {base : Nat} {a : Addr} {n : Nat} {cs : List Value} (h : w.cells? base a n = some cs) : cs.length = n ∧ (∀ i u, cs[i]? = some u → w.cell? (a.add i) = some u) := by
  unfold World.cells? at h
  split at h
  · refine ⟨by simpa using mapM_some_length h, fun i u hu => ?_⟩
    have hi : i < n := by
      have h1 := (List.getElem?_eq_some_iff.1 hu).1
      have h2 := mapM_some_length h
      simp at h2
      omega
    have h1 := mapM_some_get h i i (by simp [hi])
    exact h1.trans hu
  · cases h
theorem add_add' (ad : Addr) (k j : Nat) : (ad.add k).add j = ad.add (k + j) := by
  unfold Addr.add
  by_cases hk : k = 0
  · subst hk; simp
  · by_cases hj : j = 0
    · subst hj; simp
    · rw [if_neg hj, if_neg hk, if_neg (by omega)]; simp; omega
/-- Values that are chosen one for each place. -/
theorem choose_list {α : Type} (n : Nat) (R : Nat → α → Prop) (h : ∀ i, i < n → ∃ x, R i x) : ∃ l : List α, l.length = n ∧ ∀ (i : Nat) x, l[i]? = some x → R i x := by
  induction n with
  | zero => exact ⟨[], rfl, fun i x hx => by simp at hx⟩
  | succ n ih =>
    obtain ⟨l, hl, hr⟩ := ih (fun i hi => h i (by omega))
    obtain ⟨x, hx⟩ := h n (by omega)
    refine ⟨l ++ [x], by simp [hl], fun i y hy => ?_⟩
    rcases Nat.lt_or_ge i l.length with hi | hi
    · rw [List.getElem?_append_left hi] at hy
      exact hr i y hy
    · rw [List.getElem?_append_right hi] at hy
      have h0 : i - l.length = 0 := by
        have := (List.getElem?_eq_some_iff.1 hy).1
        simp at this; omega
      rw [h0] at hy
      have : i = n := by omega
      subst this
      simp at hy
      subst hy
      exact hx
theorem opens_slice {t e : TypeId} {α : Type} {d : Kd α} {g : Gauge α} (ht : P.underlying t = some (.slice e)) (hc : P.cellsOf t = 1) (ho : Opens enc P e d g) : Opens enc P t (Kd.slice e d) (gList (P.bytesOf e) g) := by
  refine ⟨hc, fun W base sp held fuel cs x h => ?_⟩
  rcases DataW.trod_slice ht h with ⟨rfl, rfl⟩ | ⟨a, len, cap, elems, rest, n, _, rfl, rfl, hb, hl, hm, hlen, hel, hsp, hns⟩
  · refine ⟨[], ⟨none, 0, rfl, Nat.le_refl _, rfl, by simp, fun h => by simp at h⟩, ⟨by simp [maxLen], fun x hx => by cases hx⟩, by simp [gList, Rows.uptoBulk], fun N hN m hm => ?_⟩
    simp [gList] at hm
    omega
  · have each : ∀ i, i < len → ∃ v : α, ∃ y, elems[i]? = some y ∧ (∃ c, c.length = d.sz ∧ d.K W v c ∧ ∀ j u, c[j]? = some u → W.cell? (a.add (i * d.sz + j)) = some u) ∧ g.ok v ∧ g.sz v ≤ Rows.uptoBulk y.1 ∧ ∀ N, (∀ m ∈ y.1.weights P e, m ≤ N) → ∀ n ∈ g.wt v, n ≤ N := by
      intro i hi
      have h1 := hel i hi
      rw [List.getElem?_eq_getElem (by omega)] at h1
      obtain ⟨c, hc1, hc2⟩ := Option.bind_eq_some_iff.1 h1
      obtain ⟨v, hK, hok, hsz, hw⟩ := ho.2 W base sp held n c _ hc2
      obtain ⟨hcl, hcell⟩ := cells?_cells hc1
      refine ⟨v, elems[i], List.getElem?_eq_getElem (by omega), ⟨c, by rw [hcl, ho.1], hK, fun j u hu => ?_⟩, hok, hsz, hw⟩
      have := hcell j u hu
      rw [ho.1] at this
      rw [← add_add', this]
    obtain ⟨l, hll, hl2⟩ := choose_list len _ each
    have hmx : len ≤ 9223372036854775807 := by unfold maxLen at hm; omega
    have hbulk : (l.map g.sz).sum ≤ Rows.uptoBulkAll (elems.map (·.1)) := by
      have key : ∀ k, k ≤ len → ((l.take k).map g.sz).sum ≤ Rows.uptoBulkAll ((elems.take k).map (·.1)) := by
        intro k
        induction k with
        | zero => intro _; simp
        | succ k ih =>
          intro hk
          obtain ⟨y, hy, _, _, hs, _⟩ := hl2 k _ (List.getElem?_eq_getElem (by omega))
          rw [List.take_succ_eq_append_getElem (by omega), List.take_add_one, hy, List.map_append, List.map_append, List.sum_append, bulkAll_append]
          have := ih (by omega)
          simp only [List.map_cons, List.map_nil, List.sum_cons, List.sum_nil, Rows.uptoBulkAll, Option.toList_some]
          omega
      have := key len (Nat.le_refl _)
      rwa [List.take_of_length_le (by omega), List.take_of_length_le (by omega)] at this
    refine ⟨l, ⟨some a, cap, by rw [hll], by omega, ?_⟩, ⟨by unfold maxLen at *; omega, fun x hx => ?_⟩, ?_, fun N hN m hm => ?_⟩
    · refine ⟨rfl, by omega, fun _ => ⟨a, rfl, fun j p hj => ?_⟩⟩
      obtain ⟨_, _, ⟨c, h1, h2, h3⟩, _⟩ := hl2 j p hj
      exact ⟨c, h1, h2, h3⟩
    · obtain ⟨i, hi⟩ := List.getElem?_of_mem hx
      obtain ⟨_, _, _, h, _⟩ := hl2 i x hi
      exact h
    · simp only [gList, Rows.uptoBulk]; omega
    · have hN1 : (elems.length + rest.length) * P.bytesOf e ≤ N := hN _ (by simp [DataW.weights, ht])
      simp only [gList, List.mem_cons] at hm
      rcases hm with rfl | hm
      · refine Nat.le_trans (Nat.mul_le_mul_right _ ?_) hN1
        omega
      · obtain ⟨x, hx, hxm⟩ := List.mem_flatMap.1 hm
        obtain ⟨i, hi⟩ := List.getElem?_of_mem hx
        obtain ⟨y, hy, _, _, _, hw⟩ := hl2 i x hi
        refine hw N (fun q hq => hN q ?_) m hxm
        simp only [DataW.weights, ht, List.mem_cons, List.mem_append]
        exact .inr (.inl (weightsAll_mem (List.mem_map.2 ⟨y, List.mem_of_getElem? hy, rfl⟩) hq))
theorem opensF_last {f : Field} {o : Nat} {α : Type} {d : Kd α} {g : Gauge α} (ho : Opens enc P f.type d g) (hf : f.offset = o) : OpensF enc P [f] o d g := by
  intro W base sp held n cs xs hx hl h
  have h0 := h 0 f rfl
  rw [List.getElem?_eq_getElem (by rw [hx]; exact Nat.zero_lt_one), hf, ho.1] at h0
  obtain ⟨v, hK, hok, hsz, hw⟩ := ho.2 W base sp held n _ _ h0
  obtain ⟨y, rfl⟩ : ∃ y, xs = [y] := by
    match xs, hx with
    | [y], _ => exact ⟨y, rfl⟩
  refine ⟨v, hK, hok, ?_, fun N hN => hw N (fun m hm => hN m ?_)⟩
  · simpa [Rows.uptoBulkAll] using hsz
  · simpa [DataW.weightsEach] using hm
theorem opensF_cons {f : Field} {fs : List Field} {o : Nat} {α β : Type} {d : Kd α} {d2 : Kd β} {g : Gauge α} {g2 : Gauge β} (ho : Opens enc P f.type d g) (hf : f.offset = o) (hr : OpensF enc P fs (o + d.sz) d2 g2) : OpensF enc P (f :: fs) o (Kd.pair d d2) (gPair g g2) := by
  intro W base sp held n cs xs hx hl h
  have h0 := h 0 f rfl
  rw [List.getElem?_eq_getElem (by rw [hx]; simp), hf, ho.1] at h0
  obtain ⟨v, hK, hok, hsz, hw⟩ := ho.2 W base sp held n _ _ h0
  obtain ⟨y, ys, rfl⟩ : ∃ y ys, xs = y :: ys := by
    match xs, hx with
    | y :: ys, _ => exact ⟨y, ys, rfl⟩
  have hl' : o + (d.sz + d2.sz) ≤ cs.length := hl
  obtain ⟨v2, hK2, hok2, hsz2, hw2⟩ := hr W base sp held n cs ys (by simpa using hx) (by omega) (fun i f' hi => h (i + 1) f' (by simpa using hi))
  refine ⟨(v, v2), ⟨(cs.drop o).take d.sz, (cs.drop (o + d.sz)).take d2.sz, ?_, hK, hK2⟩, ⟨hok, hok2⟩, ?_, fun N hN m hm => ?_⟩
  · show (cs.drop o).take (d.sz + d2.sz) = _
    rw [List.take_add, List.drop_drop]
  · simp only [List.map_cons, Rows.uptoBulkAll, gPair]
    have hsz' : g.sz v ≤ Rows.uptoBulk y.1 := hsz
    omega
  · simp only [gPair, List.mem_append] at hm
    rcases hm with hm | hm
    · exact hw N (fun q hq => hN q (by simp only [List.map_cons, DataW.weightsEach, List.mem_append]; exact .inl hq)) m hm
    · exact hw2 N (fun q hq => hN q (by simp only [List.map_cons, DataW.weightsEach, List.mem_append]; exact .inr hq)) m hm
theorem opens_struct {t : TypeId} {fs : Array Field} {α β : Type} {d : Kd α} {g : Gauge α} (f : β → α) (inv : α → β) (hi : ∀ v, f (inv v) = v) (ht : P.underlying t = some (.struct fs)) (hc : P.cellsOf t = d.sz) (ho : OpensF enc P fs.toList 0 d g) :
    Opens enc P t (Kd.iso d f) (gIso g f) := by
  refine ⟨hc, fun W base sp held fuel cs x h => ?_⟩
  obtain ⟨xs, n, rfl, rfl, hl, hlen, hf⟩ := DataW.trod_struct ht h
  obtain ⟨v, hK, hok, hsz, hw⟩ := ho W base sp held n cs xs (by simpa using hlen) (by omega) (fun i f' hi => hf i f' (by simpa using hi))
  rw [List.drop_zero, List.take_of_length_le (by omega)] at hK
  refine ⟨inv v, ?_, ?_, ?_, fun N hN m hm => hw N (fun q hq => hN q ?_) m ?_⟩
  · show d.K W (f (inv v)) cs
    rw [hi]; exact hK
  · show g.ok (f (inv v))
    rw [hi]; exact hok
  · simp only [gIso, Rows.uptoBulk, hi]
    omega
  · simpa [DataW.weights, ht] using hq
  · simpa [gIso, hi] using hm
/-! ## arguments -/
/-- What is known of an argument that was opened. -/
structure Opened {H : Type} (P : Program) (t : TypeId) {α : Type} (g : Gauge α) (v : α) (x : DataW H) : Prop where
  ok : g.ok v
  sz : g.sz v ≤ Rows.uptoBulk x
  wt : ∀ N, (∀ m ∈ x.weights P t, m ≤ N) → ∀ n ∈ g.wt v, n ≤ N
theorem arg_slice {t e : TypeId} {α : Type} {d : Kd α} {g : Gauge (List α)} {W : World} {b0 base : Nat} {sp : Nat → Bool} {held : Bool} {r : Reach} {v : Value} {x : DataW H} {ps : List MemPlace}
    (hO : Opens enc P t (Kd.slice e d) g) (ht : P.underlying t = some (.slice e)) (hv : Value.okWide P W r b0 t v) (h : DataW.Trod enc P W base sp held t v x ps) :
    ∃ A c l, v = .slice A l.length c ∧ l.length ≤ c ∧ Kd.C d W A l.length l ∧ Opened P t g l x := by
  obtain ⟨A, len, c, rfl⟩ := okWide_slice ht hv
  obtain ⟨fuel, hf⟩ := h
  obtain ⟨l, ⟨A', c', he, hl, hC⟩, h1, h2, h3⟩ := hO.2 _ _ _ _ _ _ _ hf
  have he' : [Value.slice A len c] = [Value.slice A' l.length c'] := he
  injection he' with he' _
  injection he' with ha hb hc
  subst ha hb hc
  exact ⟨A, c, l, rfl, hl, hC, h1, h2, h3⟩
theorem arg_struct {t : TypeId} {fs : Array Field} {α : Type} {d : Kd α} {g : Gauge α} {W : World} {b0 base : Nat} {sp : Nat → Bool} {held : Bool} {r : Reach} {v : Value} {x : DataW H} {ps : List MemPlace}
    (hO : Opens enc P t d g) (ht : P.underlying t = some (.struct fs)) (hv : Value.okWide P W r b0 t v) (h : DataW.Trod enc P W base sp held t v x ps) :
    ∃ cs y, v = .agg cs.toArray ∧ d.K W y cs ∧ Opened P t g y x := by
  obtain ⟨cs, rfl, hsz⟩ := okWide_struct ht hv
  obtain ⟨fuel, hf⟩ := h
  obtain ⟨y, hK, h1, h2, h3⟩ := hO.2 _ _ _ _ _ _ _ hf
  exact ⟨cs.toList, y, by simp, hK, h1, h2, h3⟩
theorem arg_string {t : TypeId} {W : World} {b0 base : Nat} {sp : Nat → Bool} {held : Bool} {r : Reach} {v : Value} {x : DataW H} {ps : List MemPlace}
    (ht : P.underlying t = some .string) (hc : P.cellsOf t = 1) (hv : Value.okWide P W r b0 t v) (h : DataW.Trod enc P W base sp held t v x ps) : ∃ s, v = .string s ∧ Opened P t gStr s x := by
  obtain ⟨s, rfl⟩ := okWide_string ht hv
  obtain ⟨fuel, hf⟩ := h
  obtain ⟨s', he, h1, h2, h3⟩ := (opens_string (enc := enc) ht hc).2 _ _ _ _ _ _ _ hf
  have he' : [Value.string s] = [Value.string s'] := he
  injection he' with he' _
  injection he' with ha
  subst ha
  exact ⟨s, rfl, h1, h2, h3⟩
theorem arg_int {t : TypeId} {k : IntKind} {W : World} {b0 base : Nat} {sp : Nat → Bool} {held : Bool} {r : Reach} {v : Value} {x : DataW H} {ps : List MemPlace}
    (ht : P.underlying t = some (.int k)) (hv : Value.okWide P W r b0 t v) (h : DataW.Trod enc P W base sp held t v x ps) : ∃ n, v = .int k n ∧ (Lit.int k n).wf = true := by
  obtain ⟨n, rfl, _, _, hw⟩ := open_int ht hv h
  exact ⟨n, rfl, hw⟩
theorem upto_le {ds gs : List (DataW H)} {d : DataW H} (hk : Rows.uptoSmall H (ds ++ gs) = true) (hd : d ∈ ds) : Rows.uptoBulk d ≤ 1048576 := by
  have h : Rows.uptoBulkAll (ds ++ gs) ≤ 1048576 := of_decide_eq_true hk
  rw [bulkAll_append] at h
  have : Rows.uptoBulk d ≤ Rows.uptoBulkAll ds := by
    clear h hk
    induction ds with
    | nil => cases hd
    | cons y l ih =>
      simp only [Rows.uptoBulkAll]
      rcases List.mem_cons.1 hd with rfl | hd
      · omega
      · have := ih hd; omega
  omega
theorem sized_le {ts : List TypeId} {ds : List (DataW H)} (h : (DataW.weightsEach P ts ds).all (· ≤ reachBytes) = true) {j : Nat} {t : TypeId} {d : DataW H} (ht : ts[j]? = some t) (hd : ds[j]? = some d) : ∀ m ∈ d.weights P t, m ≤ reachBytes := by
  intro m hm
  have := List.all_eq_true.1 h _ (DataW.weights_mem_each ht hd m hm)
  simpa using this
end
end Go.Proofs.Ytelbnhcbmaionaa
