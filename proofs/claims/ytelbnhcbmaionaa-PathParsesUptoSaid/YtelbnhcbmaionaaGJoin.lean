/- strings.Join as a Lean function, and its contract (out of the shelf's). -/
import Derived.Test.YtelbnhcbmaionaaPx0
import Derived.Test.YtelbnhcbmaionaaShelf
namespace Go.Proofs.Ytelbnhcbmaionaa.P
open Go.RowKit Go.Proofs.YtelbnhcbmaionaaW.PrintWords Go.Proofs.YtelbnhcbmaionaaW.PrintLast Go.Proofs.YtelbnhcbmaionaaW.PrintMore

def joinOf (l : List ByteArray) (sep : ByteArray) : ByteArray := ⟨(Lib.join (l.map (·.data.toList)) sep.data.toList).toArray⟩
def strings_Join.f (l0 : List ByteArray) (a1 : ByteArray) : Option ByteArray :=
  if (Lib.join (l0.map (·.data.toList)) a1.data.toList).length ≤ 140737488355328 then (if l0.length ≤ 140737488355328 then some (joinOf l0 a1) else none) else none
theorem strings_Join.calls (A0 : Option Addr) (c0 : Nat) (l0 : List ByteArray) (a1 : ByteArray) (r : ByteArray) (w : World) (hr0 : Kd.C Kd.string w A0 l0.length l0) (hc0 : l0.length ≤ c0) (h : strings_Join.f l0 a1 = some r) :
    Calls Try.prog 22 #[.slice A0 l0.length c0, .string a1] w fun e w' => e = .returned (.string r) ∧ Below w.heap.size w w' := by
  unfold strings_Join.f at h
  split at h
  · rename_i h1
    split at h
    · rename_i h2
      obtain rfl : joinOf l0 a1 = r := Option.some.inj h
      cases hl : l0 with
      | nil =>
        refine (Try.strings_Join_none A0 c0 a1 w).mono ?_
        rintro e w' ⟨rfl, rfl⟩
        exact ⟨rfl, Below.refl _ _⟩
      | cons x xs =>
        have hn : 0 < l0.length := by rw [hl]; simp
        obtain ⟨ad, rfl, hc⟩ := hr0.2.2 hn
        have hcell : ∀ (j : Nat) x, l0[j]? = some x → w.cell? (ad.add j) = some (.string x) := by
          intro j x hj
          obtain ⟨c, hcl, hcr, hcc⟩ := hc j x hj
          have e1 : c = [.string x] := hcr
          have := hcc 0 (.string x) (by rw [e1]; rfl)
          simpa [Kd.string, Kd.scalar] using this
        have h0 := hcell 0 x (by rw [hl]; rfl)
        have hb : ad.block < w.heap.size := World.block_lt_of_cell? w _ (by simpa [Addr.add] using h0)
        have hs : ad.spot = none := by
          have h1 : w.cell? ad = some (.string x) := by simpa [Addr.add] using h0
          unfold World.cell? at h1
          split at h1
          · split at h1
            · cases h1
            · rename_i hs
              cases hsp : ad.spot with
              | none => rfl
              | some n => rw [hsp] at hs; simp at hs
          · cases h1
        obtain ⟨b, o, s⟩ := ad
        dsimp only at hs hb
        subst hs
        rw [← hl]
        refine (Try.strings_Join b o c0 l0 a1 w ?_ hb h2 hc0 h1).mono ?_
        · intro j y hj
          have := hcell j y hj
          rw [show (⟨b, o, none⟩ : Addr).add j = ⟨b, o + j, none⟩ by unfold Addr.add; split <;> simp_all] at this
          exact this
        · rintro e w' ⟨rfl, hbel⟩
          exact ⟨rfl, hbel⟩
    · cases h
  · cases h
end Go.Proofs.Ytelbnhcbmaionaa.P
