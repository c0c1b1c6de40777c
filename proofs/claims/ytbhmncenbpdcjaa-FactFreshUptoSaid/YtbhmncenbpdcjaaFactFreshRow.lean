/- FactFresh: of any facts, changes and key up to the bound the statement answers true. -/
import Derived.Test.YtbhmncenbpdcjaaRows
import Derived.WalkKit
import Derived.ProofKit
import Derived.OpenShut
import Derived.JoinedCond
import Derived.SizedLaws
import Derived.Deep.CondSized
import Derived.Test.YtbhmncenbpdcjaaZ1
import Derived.Test.YtbhmncenbpdcjaaZ2
import Derived.Test.YtbhmncenbpdcjaaZ3
import Derived.Test.YtbhmncenbpdcjaaZ4
import Derived.Test.YtbhmncenbpdcjaaZ5
namespace Go.Proofs.Ytbhmncenbpdcjaa.factFresh
open Go.ChangeShapes Go.WideShapes Go.ChangeAt Go.RowKit Go.Proofs.Ytbhmncenbpdcjaa.P Go.Proofs.YtbhmncenbpdcjaaW.PrintWords Go.Proofs.YtbhmncenbpdcjaaW.PrintLast Go.Proofs.YtbhmncenbpdcjaaW.PrintMore
set_option linter.unusedVariables false
set_option linter.unusedSimpArgs false

theorem opens30 {H : Type} {enc : TypeId × Value → H} : Opens enc Try.prog 30 k30 (gIso (gPair (gInt .i64) (gPair (gInt .u8) (gPair gStr (gInt .i64)))) (fun x : S30 => (x.f0, x.f1, x.f2, x.f3))) :=
  opens_struct (fun x : S30 => (x.f0, x.f1, x.f2, x.f3)) (fun p => ⟨p.1, p.2.1, p.2.2.1, p.2.2.2⟩) (fun _ => rfl) Try.underlying30 (by kernel_rfl) (opensF_cons (opens_int Try.underlying3 (by kernel_rfl)) rfl (opensF_cons (opens_int Try.underlying5 (by kernel_rfl)) rfl (opensF_cons (opens_string Try.underlying9 (by kernel_rfl)) rfl (opensF_last (opens_int Try.underlying3 (by kernel_rfl)) rfl))))
theorem opens47 {H : Type} {enc : TypeId × Value → H} : Opens enc Try.prog 47 k47 (gIso (gPair (gIso (gPair (gInt .i64) (gPair (gInt .u8) (gPair gStr (gInt .i64)))) (fun x : S30 => (x.f0, x.f1, x.f2, x.f3))) (gList (Try.prog.bytesOf 5) (gInt .u8))) (fun x : S47 => (x.f0, x.f1))) :=
  opens_struct (fun x : S47 => (x.f0, x.f1)) (fun p => ⟨p.1, p.2⟩) (fun _ => rfl) Try.underlying47 (by kernel_rfl) (opensF_cons opens30 rfl (opensF_last (opens_slice (e := 5) Try.underlying22 (by kernel_rfl) (opens_int Try.underlying5 (by kernel_rfl))) rfl))
theorem opens53 {H : Type} {enc : TypeId × Value → H} : Opens enc Try.prog 53 k53 (gIso (gPair (gIso (gPair (gInt .i64) (gPair (gInt .u8) (gPair gStr (gInt .i64)))) (fun x : S30 => (x.f0, x.f1, x.f2, x.f3))) (gPair (gList (Try.prog.bytesOf 5) (gInt .u8)) gBool)) (fun x : S53 => (x.f0, x.f1, x.f2))) :=
  opens_struct (fun x : S53 => (x.f0, x.f1, x.f2)) (fun p => ⟨p.1, p.2.1, p.2.2⟩) (fun _ => rfl) Try.underlying53 (by kernel_rfl) (opensF_cons opens30 rfl (opensF_cons (opens_slice (e := 5) Try.underlying22 (by kernel_rfl) (opens_int Try.underlying5 (by kernel_rfl))) rfl (opensF_last (opens_bool Try.underlying4 (by kernel_rfl)) rfl)))
theorem own : ownKnob Try.prog.godebug = none := by kernel_rfl
theorem laidOut : laidOutB Try.prog = true := by kernel_rfl
set_option maxRecDepth 100000 in
theorem contract (H : Type) (enc : TypeId × Value → H) (W : World) (base : Nat) (args : Array Value) (ds gs : List (DataW H)) (before : List MemPlace)
    (hval : ∀ (j : Nat) t v, Try.f4.params[j]? = some t → args[j]? = some v → Value.okWide Try.prog W .any base t v)
    (hW : DataW.Whole enc Try.prog Try.f4.params.toList Rows.factFreshSpec.vars false W args.toList ds gs before) (hk : Rows.uptoSmall H (ds ++ gs) = true) :
    Calls Try.prog 4 args W fun e W' => ∃ v, e = .returned v ∧ Rows.factFreshSpec.post enc Try.prog Try.f4 false true false false W args v W' := by
  have hW' := hW
  obtain ⟨p, q, hA0, hV, rfl, hfz, hnd⟩ := hW
  have hA : DataW.TrodAll enc Try.prog W 0 (fun _ => true) true Try.f4.params.toList args.toList ds p := hA0
  rw [Try.params4] at hA hval
  obtain ⟨v0, vs0, d0, ds0, p0, q0, hargs, rfl, rfl, h0, r0⟩ := trodAll_cons hA
  obtain ⟨v1, vs1, d1, ds1, p1, q1, rfl, rfl, rfl, h1, r1⟩ := trodAll_cons r0
  obtain ⟨v2, vs2, d2, ds2, p2, q2, rfl, rfl, rfl, h2, r2⟩ := trodAll_cons r1
  obtain ⟨rfl, rfl, rfl⟩ := trodAll_nil r2
  obtain rfl : args = #[v0, v1, v2] := by cases args; simp_all
  obtain ⟨rfl, rfl⟩ := trodVars_none hV
  obtain ⟨A0, c0, l0, rfl, hl0, hC0, o0⟩ := arg_slice (opens_slice (e := 47) Try.underlying38 (by kernel_rfl) opens47) Try.underlying38 (hval 0 38 v0 rfl rfl) h0
  have s0 := Nat.le_trans o0.sz (upto_le hk (by simp))
  obtain ⟨A1, c1, l1, rfl, hl1, hC1, o1⟩ := arg_slice (opens_slice (e := 53) Try.underlying39 (by kernel_rfl) opens53) Try.underlying39 (hval 1 39 v1 rfl rfl) h1
  have s1 := Nat.le_trans o1.sz (upto_le hk (by simp))
  obtain ⟨cs2, y2, rfl, hK2, o2⟩ := arg_struct opens30 Try.underlying30 (hval 2 30 v2 rfl rfl) h2
  have s2 := Nat.le_trans o2.sz (upto_le hk (by simp))
  obtain ⟨hf0, hm0⟩ := fit_of _ l0 s0
  have hf1 := fitC_of _ l1 s1
  obtain rfl := k30_open hK2
  refine (Q.factFresh_any A0 c0 l0 A1 c1 l1 y2 W hC0 hl0 hC1 hl1 hf0 hm0 hf1).mono fun e W' ⟨he, hg⟩ => ?_
  subst he
  exact ⟨_, rfl, law_post (t := 4) (by kernel_rfl) Try.underlying4 laidOut (read_of (by kernel_rfl)) rfl hW' rfl rfl rfl hg⟩

set_option maxRecDepth 100000 in
theorem lifted (os : Os) (started : os.Started) (H : Type) (enc : TypeId × Value → H) (F : Stop.Interp) :
    ReturnsInHanded {} Try.checked os 4 .any ((Rows.OpenSpec.upto Rows.factFreshSpec).pre6 enc Try.prog Try.f4 Rows.factFreshUptoRow.domain false) (((Rows.OpenSpec.upto Rows.factFreshSpec).at F).post enc Try.prog Try.f4 false true false false) := by
  refine returnsInHanded_of_cond (C := Try.checked) (s := Rows.OpenSpec.upto Rows.factFreshSpec) (k := Rows.uptoSmall) rfl own started (by kernel_rfl) Try.func4
    (OpenSpec.witness (enc := enc) (C := Try.checked) (s := Rows.OpenSpec.upto Rows.factFreshSpec) (k := Rows.uptoSmall) rfl false ⟨#[], #[(.slice none 0 0), (.slice none 0 0), (.agg #[(.int .i64 0), (.int .u8 0), (.string ByteArray.empty), (.int .i64 0)])], []⟩ 8 (by kernel_rfl) (by kernel_rfl) (by kernel_rfl)
      (x := ([.nil, .nil, (.agg [(.lit (.int .i64 0)), (.lit (.int .u8 0)), (.lit (.string [])), (.lit (.int .i64 0))])], [], [])) (by kernel_rfl) rfl (by kernel_rfl)) ?_
  intro W base args ds gs before hval hW _ hk _
  exact contract H enc W base args ds gs before hval hW hk

set_option maxRecDepth 100000 in
set_option maxHeartbeats 0 in
theorem facts : joinedFacts Try.prog 4 Try.f4 (Rows.OpenSpec.upto Rows.factFreshSpec).bare Rows.factFreshUptoRow = true := by
  kernel_rfl
theorem proved : Rows.FactFreshUptoSaid :=
  OpenClaim.holds_of_cond 4 Try.f4 rfl rfl rfl rfl rfl rfl rfl ⟨rfl, rfl, rfl, rfl, rfl⟩ rfl rfl rfl rfl rfl (by kernel_rfl) Try.func4 facts
    (of_decide_eq_true (by kernel_rfl)) (by unfold Func.isWrapper; first | (rw [if_pos (by decide +kernel)]; kernel_rfl) | (rw [if_neg (by decide +kernel)]; exact ⟨rfl, rfl⟩))
    (fun os started H enc _ F => lifted os started H enc F)
end Go.Proofs.Ytbhmncenbpdcjaa.factFresh
