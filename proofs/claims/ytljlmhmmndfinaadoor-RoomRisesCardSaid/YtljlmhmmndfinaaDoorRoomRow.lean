/- What the row's list gives: the table's cells; a world for the witness. -/
import Derived.Test.YtljlmhmmndfinaaDoorCards
import Derived.Test.YtljlmhmmndfinaaDoorTie
import Derived.Test.YtljlmhmmndfinaaDoorRises
import Derived.WalkKit
import Derived.ProofKit
import Derived.OpenShut
import Derived.Deep.DeepHandedRow
import Derived.Lib.LaidTab
import Derived.Lib.SmallJoins
import Derived.Test.YtljlmhmmndfinaaDoorEnd
namespace Go.Proofs.YtljlmhmmndfinaaDoor
open Go.ChangeShapes Go.WideShapes Go.ChangeAt Go.RowKit

theorem own : ownKnob Tryd.prog.godebug = none := by kernel_rfl
theorem gTab : Tryd.prog.globalNamed "carrack/room.bounds" = some 0 := by kernel_rfl
theorem gTabType : (Tryd.prog.globals[0]?).map (·.type) = some 33 := by kernel_rfl
theorem cells33 : Tryd.prog.cellsOf 33 = 8 := by kernel_rfl
theorem cells32 : Tryd.prog.cellsOf 32 = 2 := by kernel_rfl
theorem cells3 : Tryd.prog.cellsOf 3 = 1 := by kernel_rfl

/-- An array whose reading is known: each element's reading is known. -/
theorem array_parts {H : Type} {enc : TypeId × Value → H} {P : Program} {w : World} {base : Nat} {sp : Nat → Bool} {held : Bool} {fuel : Nat} {t e : TypeId} {n : Nat} {cs : List Value} {ds : List (DataW H)} {p : List MemPlace}
    (ht : P.underlying t = some (.array n e)) (h : DataW.trod enc P w base sp held fuel t cs = some (.agg ds, p)) (i : Nat) (hi : i < n) :
    ∃ d q fuel', ds[i]? = some d ∧ DataW.trod enc P w base sp held fuel' e ((cs.drop (i * P.cellsOf e)).take (P.cellsOf e)) = some (d, q) := by
  cases fuel with
  | zero => simp [DataW.trod] at h
  | succ fuel =>
    simp only [DataW.trod, ht] at h
    split at h
    · obtain ⟨xs, hm, hx⟩ := Option.map_eq_some_iff.1 h
      obtain ⟨b, hb, hf⟩ := Lib.mapM_at hm i i (by simp [hi])
      have hd : xs.map (·.1) = ds := by have := congrArg Prod.fst hx; simpa using this
      exact ⟨b.1, b.2, fuel, by rw [← hd]; simp [hb], hf⟩
    · cases h

theorem two_cells {W : World} {cs : Array Value} (hv : W.var? Tryd.prog "carrack/room.bounds" = some cs) {i : Nat} {a b : Int}
    (h : (cs.toList.drop (i * 2)).take 2 = [Value.int .i64 a, Value.int .i64 b]) : W.cell? ⟨0, i * 2, none⟩ = some (.int .i64 a) ∧ W.cell? ⟨0, i * 2 + 1, none⟩ = some (.int .i64 b) := by
  have h0 : cs[i * 2]? = some (.int .i64 a) := by
    have := congrArg (·[0]?) h
    simpa [List.getElem?_take, List.getElem?_drop] using this
  have h1 : cs[i * 2 + 1]? = some (.int .i64 b) := by
    have := congrArg (·[1]?) h
    simpa [List.getElem?_take, List.getElem?_drop] using this
  exact ⟨(World.var?_cell gTab hv _).trans h0, (World.var?_cell gTab hv _).trans h1⟩

theorem tab_of {W : World} (h : laidMetH Tryd.prog Rows.roomRisesRow.laid W) : Tab W := by
  obtain ⟨ps, ⟨g', t', cs, fuel, p, q, hg', ht', hvar, hd, _, _⟩, _⟩ := (h : laidMet Tryd.prog [("carrack/room.bounds", Rows.laid_carrack_room_bounds)] W)
  obtain rfl := Option.some.inj (gTab.symm.trans hg')
  obtain rfl := Option.some.inj (gTabType.symm.trans ht')
  have part := fun i hi => array_parts Tryd.underlying33 hd i hi
  have get : ∀ (i : Nat) (hi : i < 4) (a b : Int), [Lib.tabData .i64 [8, 64], Lib.tabData .i64 [4, 32], Lib.tabData .i64 [128, 256], Lib.tabData .i64 [0, 4]][i]? = some (Lib.tabData (H := Unit) .i64 [a, b]) →
      W.cell? ⟨0, i * 2, none⟩ = some (.int .i64 a) ∧ W.cell? ⟨0, i * 2 + 1, none⟩ = some (.int .i64 b) := by
    intro i hi a b hab
    obtain ⟨d, q, fuel', hd', hr⟩ := part i hi
    obtain rfl : d = Lib.tabData .i64 [a, b] := Option.some.inj (hd'.symm.trans hab)
    rw [cells32] at hr
    have := Lib.cells_of_tab Tryd.underlying32 Tryd.underlying3 cells3 cells32 hr
    exact two_cells hvar this
  obtain ⟨c0, c1⟩ := get 0 (by omega) 8 64 rfl
  obtain ⟨c2, c3⟩ := get 1 (by omega) 4 32 rfl
  obtain ⟨c4, c5⟩ := get 2 (by omega) 128 256 rfl
  obtain ⟨c6, c7⟩ := get 3 (by omega) 0 4 rfl
  exact ⟨c0, c1, c2, c3, c4, c5, c6, c7⟩

theorem i64_le {f : Int} (h : (Lit.int .i64 f).wf = true) : f ≤ 9223372036854775807 := by
  simp [Lit.wf] at h
  omega
theorem turn_law (b p s x f m : Int) (W : World) (T : Tab W) (hf : f ≤ 9223372036854775807) : Calls Tryd.prog 4 #[.agg #[.int .i64 b, .int .i64 p, .int .i64 s, .int .i64 x], .int .i64 f, .int .i64 m] W (TurnsEnd W) := by
  rcases turn_or b p s x f with h | h
  · exact turns_yes b p s x f m W T h hf
  · exact turns_no b p s x f m W T h hf

/-- A world for the witness: the settled one, the table (block 0) holding what its initialiser lays. -/
noncomputable def laidWorld (os : Os) : World :=
  { World.holding Tryd.prog os ⟨#[], #[], []⟩ with heap := (World.holding Tryd.prog os ⟨#[], #[], []⟩).heap.modify 0 fun
      | .cells _ t frozen => .cells #[.int .i64 8, .int .i64 64, .int .i64 4, .int .i64 32, .int .i64 128, .int .i64 256, .int .i64 0, .int .i64 4] t frozen
      | o => o }
end Go.Proofs.YtljlmhmmndfinaaDoor
