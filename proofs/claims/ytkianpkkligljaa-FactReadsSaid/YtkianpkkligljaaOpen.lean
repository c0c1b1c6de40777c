/- How arguments are opened: what a value that can be read looks like. -/
import Derived.Test.YtkianpkkligljaaEnd
import Derived.Test.YtkianpkkligljaaOwn
import Derived.ProofKit
import Derived.OpenShut
import Derived.Lib.SmallJoins
namespace Go.Proofs.Ytkianpkkligljaa
open Go.ChangeShapes Go.WideShapes Go.ChangeAt Go.RowKit Go.Joins

/-- A key's parts are of their kinds. -/
structure KeyOk (i u : Int) (s : ByteArray) (c : Int) : Prop where
  i0 : -9223372036854775808 ≤ i
  i1 : i ≤ 9223372036854775807
  u0 : 0 ≤ u
  u1 : u ≤ 255
  s : s.size ≤ maxLen
  c0 : -9223372036854775808 ≤ c
  c1 : c ≤ 9223372036854775807
theorem wf_i64 {f : Int} (h : (Lit.int .i64 f).wf = true) : -9223372036854775808 ≤ f ∧ f ≤ 9223372036854775807 := by
  simp [Lit.wf, IntKind.min, IntKind.max, IntKind.signed, IntKind.bits] at h; omega
theorem wf_u8 {f : Int} (h : (Lit.int .u8 f).wf = true) : 0 ≤ f ∧ f ≤ 255 := by
  simp [Lit.wf, IntKind.min, IntKind.max, IntKind.signed, IntKind.bits] at h; omega
set_option maxRecDepth 100000 in
theorem open_key {H : Type} {enc : TypeId × Value → H} {W : World} {b0 base : Nat} {sp : Nat → Bool} {held : Bool} {r : Reach} {v : Value} {d : DataW H} {p : List MemPlace}
    (hv : Value.okWide Try.prog W r b0 23 v) (h : DataW.Trod enc Try.prog W base sp held 23 v d p) :
    ∃ i u s c, v = .agg #[.int .i64 i, .int .u8 u, .string s, .int .i64 c] ∧ KeyOk i u s c := by
  have hc : Try.prog.cellsOf 23 = 4 := by kernel_rfl
  obtain ⟨c0, c1, c2, c3, y0, y1, y2, y3, k, rfl, rfl, rfl, z0, z1, z2, z3⟩ := open_agg4 Try.underlying23 (by kernel_rfl) hc hv h
  obtain ⟨i, e0, _, wi⟩ := DataW.trod_int Try.underlying3 z0
  obtain ⟨u, e1, _, wu⟩ := DataW.trod_int Try.underlying5 z1
  obtain ⟨s, e2, _, ws⟩ := DataW.trod_string Try.underlying9 z2
  obtain ⟨c, e3, _, wc⟩ := DataW.trod_int Try.underlying3 z3
  simp only [List.cons.injEq, and_true] at e0 e1 e2 e3
  subst e0 e1 e2 e3
  exact ⟨i, u, s, c, rfl, (wf_i64 wi).1, (wf_i64 wi).2, (wf_u8 wu).1, (wf_u8 wu).2, ws, (wf_i64 wc).1, (wf_i64 wc).2⟩
end Go.Proofs.Ytkianpkkligljaa
