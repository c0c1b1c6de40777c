/- PathUnder: of any three texts up to the bound the statement answers true. -/
import Derived.Test.YtelbnhcbmaionaaRows
import Derived.Test.YtelbnhcbmaionaaPath2
import Derived.Test.YtelbnhcbmaionaaOpens
import Derived.Test.YtelbnhcbmaionaaEnd
import Derived.WalkKit
import Derived.ProofKit
import Derived.OpenShut
import Derived.JoinedCond
import Derived.SizedLaws
import Derived.Deep.CondSized
namespace Go.Proofs.Ytelbnhcbmaionaa.pathUnder
open Go.ChangeShapes Go.WideShapes Go.ChangeAt Go.RowKit Go.Proofs.Ytelbnhcbmaionaa.P Go.Proofs.YtelbnhcbmaionaaW.PrintWords Go.Proofs.YtelbnhcbmaionaaW.PrintLast Go.Proofs.YtelbnhcbmaionaaW.PrintMore
set_option linter.unusedVariables false
set_option linter.unusedSimpArgs false

theorem own : ownKnob Try.prog.godebug = none := by kernel_rfl
theorem laidOut : laidOutB Try.prog = true := by kernel_rfl
set_option maxRecDepth 100000 in
theorem contract (H : Type) (enc : TypeId × Value → H) (W : World) (base : Nat) (args : Array Value) (ds gs : List (DataW H)) (before : List MemPlace)
    (hval : ∀ (j : Nat) t v, Try.f7.params[j]? = some t → args[j]? = some v → Value.okWide Try.prog W .any base t v)
    (hW : DataW.Whole enc Try.prog Try.f7.params.toList Rows.pathUnderSpec.vars false W args.toList ds gs before) (hk : Rows.uptoSmall H (ds ++ gs) = true) :
    Calls Try.prog 7 args W fun e W' => ∃ v, e = .returned v ∧ Rows.pathUnderSpec.post enc Try.prog Try.f7 false true false false W args v W' := by
  have hW' := hW
  obtain ⟨p, q, hA0, hV, rfl, hfz, hnd⟩ := hW
  have hA : DataW.TrodAll enc Try.prog W 0 (fun _ => true) true Try.f7.params.toList args.toList ds p := hA0
  rw [Try.params7] at hA hval
  obtain ⟨v0, vs0, d0, ds0, p0, q0, hargs, rfl, rfl, h0, r0⟩ := trodAll_cons hA
  obtain ⟨v1, vs1, d1, ds1, p1, q1, rfl, rfl, rfl, h1, r1⟩ := trodAll_cons r0
  obtain ⟨v2, vs2, d2, ds2, p2, q2, rfl, rfl, rfl, h2, r2⟩ := trodAll_cons r1
  obtain ⟨rfl, rfl, rfl⟩ := trodAll_nil r2
  obtain rfl : args = #[v0, v1, v2] := by cases args; simp_all
  obtain ⟨rfl, rfl⟩ := trodVars_none hV
  obtain ⟨a0, rfl, o0⟩ := arg_string Try.underlying9 (by kernel_rfl) (hval 0 9 v0 rfl rfl) h0
  have s0 := Nat.le_trans o0.sz (upto_le hk (by simp))
  obtain ⟨a1, rfl, o1⟩ := arg_string Try.underlying9 (by kernel_rfl) (hval 1 9 v1 rfl rfl) h1
  have s1 := Nat.le_trans o1.sz (upto_le hk (by simp))
  obtain ⟨a2, rfl, o2⟩ := arg_string Try.underlying9 (by kernel_rfl) (hval 2 9 v2 rfl rfl) h2
  have s2 := Nat.le_trans o2.sz (upto_le hk (by simp))
  have b0 : a0.size < 8796093022207 := by have : a0.size + 1 ≤ 1048576 := s0; omega
  have b1 : a1.size < 8796093022207 := by have : a1.size + 1 ≤ 1048576 := s1; omega
  have b2 : a2.size < 8796093022207 := by have : a2.size + 1 ≤ 1048576 := s2; omega
  obtain ⟨k, h⟩ := (unders_ev a0 a1 a2 b0 b1 b2).rounds
  refine (carracklaw05_PathUnder.calls k a0 a1 a2 true W h).mono fun e W' ⟨he, hg⟩ => ?_
  subst he
  exact ⟨_, rfl, law_post (t := 4) (by kernel_rfl) Try.underlying4 laidOut (read_of (by kernel_rfl)) rfl hW' rfl rfl rfl hg⟩

set_option maxRecDepth 100000 in
theorem lifted (os : Os) (started : os.Started) (H : Type) (enc : TypeId × Value → H) (F : Stop.Interp) :
    ReturnsInHanded {} Try.checked os 7 .any ((Rows.OpenSpec.upto Rows.pathUnderSpec).pre6 enc Try.prog Try.f7 Rows.pathUnderUptoRow.domain false) (((Rows.OpenSpec.upto Rows.pathUnderSpec).at F).post enc Try.prog Try.f7 false true false false) := by
  refine returnsInHanded_of_cond (C := Try.checked) (s := Rows.OpenSpec.upto Rows.pathUnderSpec) (k := Rows.uptoSmall) rfl own started (by kernel_rfl) Try.func7
    (OpenSpec.witness (enc := enc) (C := Try.checked) (s := Rows.OpenSpec.upto Rows.pathUnderSpec) (k := Rows.uptoSmall) rfl false ⟨#[], #[(.string ByteArray.empty), (.string ByteArray.empty), (.string ByteArray.empty)], []⟩ 8 (by kernel_rfl) (by kernel_rfl) (by kernel_rfl)
      (x := ([(.lit (.string [])), (.lit (.string [])), (.lit (.string []))], [], [])) (by kernel_rfl) rfl (by kernel_rfl)) ?_
  intro W base args ds gs before hval hW _ hk _
  exact contract H enc W base args ds gs before hval hW hk

set_option maxRecDepth 100000 in
set_option maxHeartbeats 0 in
theorem facts : joinedFacts Try.prog 7 Try.f7 (Rows.OpenSpec.upto Rows.pathUnderSpec).bare Rows.pathUnderUptoRow = true := by
  kernel_rfl
theorem proved : Rows.PathUnderUptoSaid :=
  OpenClaim.holds_of_cond 7 Try.f7 rfl rfl rfl rfl rfl rfl rfl ⟨rfl, rfl, rfl, rfl, rfl⟩ rfl rfl rfl rfl rfl (by kernel_rfl) Try.func7 facts
    (of_decide_eq_true (by kernel_rfl)) (by unfold Func.isWrapper; first | (rw [if_pos (by decide +kernel)]; kernel_rfl) | (rw [if_neg (by decide +kernel)]; exact ⟨rfl, rfl⟩))
    (fun os started H enc _ F => lifted os started H enc F)
end Go.Proofs.Ytelbnhcbmaionaa.pathUnder
