/- Texts of this claim, laid one behind the other: Px0, Px1, Names, Bytes, Keys, Order, FactOrder0, FPlace, GBefore, Px5, Px7, FPure, RowOps, RowKd, InsFact, FStep, FClone, QFull, Given. -/
import Derived.Test.YtbhmncenbpdcjaaProg
import Derived.WalkMore
import Derived.Below
import Derived.Deep.Draws
import Derived.Deep.AppendLies
import Derived.Maps.AppendAt
import Derived.OwnWalk
import Derived.Laws.BytesArg
import Derived.Laws.MakeOwn
import Derived.Laws.OwnMore
import Derived.Deep.OwnRows
import Derived.Tactics
import Derived.Lib.ConvBytes
import Derived.Laws.Slices
import Derived.WalkKit
import Derived.KernelRfl
import Derived.RowKit3
import Derived.Deep.LoopGhost
import Derived.Deep.QuietTactic
import Derived.BigQuiet
import Derived.WideLaws
import Derived.Deep.DeepCutAuto
import Derived.Deep.CutBlock
import Derived.Deep.RegionHeld3
import Derived.Laws.Rows
import Derived.Lib.AppendStr
import Derived.ArgAppend
import Derived.Laws.IdiomCopy
import Derived.OrdersHeld
import Derived.Laws.BitsLemmas
import Derived.RowKit
import Derived.Test.YtbhmncenbpdcjaaWWords
import Derived.Test.YtbhmncenbpdcjaaWLast
import Derived.Test.YtbhmncenbpdcjaaWTab
import Derived.Test.YtbhmncenbpdcjaaWFour
import Derived.Test.YtbhmncenbpdcjaaWQPut
import Derived.Test.YtbhmncenbpdcjaaWApart
import Derived.Test.YtbhmncenbpdcjaaWArr
import Derived.Test.YtbhmncenbpdcjaaWZeros
import Derived.Test.YtbhmncenbpdcjaaWFoot
import Derived.Test.YtbhmncenbpdcjaaWKept
import Derived.Test.YtbhmncenbpdcjaaWShare
import Derived.Test.YtbhmncenbpdcjaaWN
import Derived.Test.YtbhmncenbpdcjaaWFootNe
import Derived.Test.YtbhmncenbpdcjaaWAt
import Derived.Test.YtbhmncenbpdcjaaWEqStruct
import Derived.Test.YtbhmncenbpdcjaaWRepsOne
import Derived.Test.YtbhmncenbpdcjaaWInv
import Derived.Test.YtbhmncenbpdcjaaWInvWords
import Derived.Test.YtbhmncenbpdcjaaWGuard
import Derived.Test.YtbhmncenbpdcjaaWNEv
import Derived.Test.YtbhmncenbpdcjaaWMore
import Derived.Test.YtbhmncenbpdcjaaChecked
import Derived.WalkLawsBesides
import Derived.WalkSpells
import Derived.Outline
import Derived.Lib.Hide
import Derived.IntWalk
import Derived.Lib.Strings
import Derived.Lib.QuietBelow
import Derived.Laws.StructEq
import Derived.Laws.CopyOwn
import Derived.Deep.RegionLaw
import Derived.Lib.SliceRun
import Derived.Lib.AppendZerosOnto
import Derived.Lib.Overlaps
import Derived.Shelf.Spec.SlicesInsert
import Derived.Shelf.Abstract
import Derived.RangeFuncBox
import Derived.RangeFuncCalls
import Derived.RangeFuncNested
section
/- Printed by a program of this workplace (wip/print/gprint.py, over the kit's print.py): functions of the program as Lean functions, and that the Go text comes to their answers. -/
namespace Go.Proofs.Ytbhmncenbpdcjaa.P
open Go.RowKit Go.Proofs.YtbhmncenbpdcjaaW.PrintWords Go.Proofs.YtbhmncenbpdcjaaW.PrintLast Go.Proofs.YtbhmncenbpdcjaaW.PrintMore
attribute [local go_sem] max2_int min2_int max_two min_two max_three min_three max_four min_four   -- for this text's walks alone
set_option linter.unusedVariables false
set_option linter.unusedSimpArgs false



def errW : Option Int → Value
  | none => .nilIface
  | some c => .iface 0 (.int .i64 c)
theorem errW_none : errW none = .nilIface := rfl
theorem errW_some (c : Int) : errW (some c) = .iface 0 (.int .i64 c) := rfl

theorem info5 : (Try.prog.info? 5).map (fun i => (i.zero, i.size, i.bytes)) = some (some (.int .u8 0), 1, 1) := by kernel_rfl
theorem info47 : (Try.prog.info? 47).map (fun i => (i.zero, i.size, i.bytes)) = some (some (.agg #[(.int .i64 0), (.int .u8 0), (.string ⟨#[]⟩), (.int .i64 0), (.slice none 0 0)]), 5, 64) := by kernel_rfl
theorem info53 : (Try.prog.info? 53).map (fun i => (i.zero, i.size, i.bytes)) = some (some (.agg #[(.int .i64 0), (.int .u8 0), (.string ⟨#[]⟩), (.int .i64 0), (.slice none 0 0), (.bool false)]), 6, 72) := by kernel_rfl
-- the values' own types
/-! #### struct type 30 -/
structure S30 where
  f0 : Int
  f1 : Int
  f2 : ByteArray
  f3 : Int
def z30 : S30 := ⟨(0 : Int), (0 : Int), (⟨#[]⟩ : ByteArray), (0 : Int)⟩
def k30 : Kd S30 := Kd.iso (Kd.pair (Kd.int .i64) (Kd.pair (Kd.int .u8) (Kd.pair Kd.string (Kd.int .i64)))) (fun x : S30 => (x.f0, x.f1, x.f2, x.f3))
theorem k30_open {w : World} {x : S30} {cs : List Value} (h : k30.K w x cs) : cs = [.int .i64 x.f0, .int .u8 x.f1, .string x.f2, .int .i64 x.f3] := by
  obtain ⟨_, _, rfl, rfl, ⟨_, _, rfl, rfl, ⟨_, _, rfl, rfl, rfl⟩⟩⟩ := h
  exact rfl
theorem k30_openM {w : World} {base : Nat} {ok : Nat → Prop} {x : S30} {cs : List Value} (h : k30.M w base ok x cs) : cs = [.int .i64 x.f0, .int .u8 x.f1, .string x.f2, .int .i64 x.f3] := by
  obtain ⟨_, _, rfl, rfl, ⟨_, _, rfl, rfl, ⟨_, _, rfl, rfl, rfl⟩⟩⟩ := h
  exact rfl
theorem k30_mk (w : World) (x : S30)  : k30.K w x [.int .i64 x.f0, .int .u8 x.f1, .string x.f2, .int .i64 x.f3] := ⟨[.int .i64 x.f0], [.int .u8 x.f1, .string x.f2, .int .i64 x.f3], rfl, rfl, ⟨[.int .u8 x.f1], [.string x.f2, .int .i64 x.f3], rfl, rfl, ⟨[.string x.f2], [.int .i64 x.f3], rfl, rfl, rfl⟩⟩⟩
theorem k30_mkM (w : World) (base : Nat) (ok : Nat → Prop) (x : S30)  : k30.M w base ok x [.int .i64 x.f0, .int .u8 x.f1, .string x.f2, .int .i64 x.f3] := ⟨[.int .i64 x.f0], [.int .u8 x.f1, .string x.f2, .int .i64 x.f3], rfl, rfl, ⟨[.int .u8 x.f1], [.string x.f2, .int .i64 x.f3], rfl, rfl, ⟨[.string x.f2], [.int .i64 x.f3], rfl, rfl, rfl⟩⟩⟩
theorem k30_mkF (W : World) (ok : Nat → Prop) (x : S30) : Kd.FK k30 W ok x [.int .i64 x.f0, .int .u8 x.f1, .string x.f2, .int .i64 x.f3] := fun W2 _ => k30_mk W2 x
def rd_T30 (xs : List S30) (i : Int) : S30 := xs.getD i.toNat z30
theorem at_T30 {w : World} {A : Option Addr} {n : Nat} {xs : List S30} (h : Kd.C k30 w A n xs) (i : Int) (h0 : 0 ≤ i) (h1 : i < n) : ∃ ad , A = some ad ∧ w.cell? (ad.add (i.toNat * 4)) = some (.int .i64 (rd_T30 xs i).f0) ∧ w.cell? ⟨(ad.add (i.toNat * 4)).block, (ad.add (i.toNat * 4)).off + 1, none⟩ = some (.int .u8 (rd_T30 xs i).f1) ∧ w.cell? ⟨(ad.add (i.toNat * 4)).block, (ad.add (i.toNat * 4)).off + 2, none⟩ = some (.string (rd_T30 xs i).f2) ∧ w.cell? ⟨(ad.add (i.toNat * 4)).block, (ad.add (i.toNat * 4)).off + 3, none⟩ = some (.int .i64 (rd_T30 xs i).f3) := by
  obtain ⟨ad, c, e, _, hK, hc0⟩ := Kd.C_get h z30 i h0 h1
  have hc : ∀ j u, c[j]? = some u → w.cell? (ad.add (i.toNat * 4 + j)) = some u := hc0
  obtain rfl := k30_open hK
  exact ⟨ad, e, hc 0 _ rfl, by rw [← add_field _ _ 1 (by omega)]; exact hc 1 _ rfl, by rw [← add_field _ _ 2 (by omega)]; exact hc 2 _ rfl, by rw [← add_field _ _ 3 (by omega)]; exact hc 3 _ rfl⟩

def rd_L5 (xs : List (List Int)) (i : Int) : (List Int) := xs.getD i.toNat ([] : List Int)
theorem at_L5 {w : World} {A : Option Addr} {n : Nat} {xs : List (List Int)} (h : Kd.C (Kd.slice 5 (Kd.int .u8)) w A n xs) (i : Int) (h0 : 0 ≤ i) (h1 : i < n) : ∃ ad A0 c0, A = some ad ∧ w.cell? (ad.add i.toNat) = some (.slice A0 (rd_L5 xs i).length c0) ∧ (rd_L5 xs i).length ≤ c0 ∧ (Kd.int .u8).C w A0 (rd_L5 xs i).length (rd_L5 xs i) := by
  obtain ⟨ad, c, e, _, hK, hc0⟩ := Kd.C_get h ([] : List Int) i h0 h1
  have hc : ∀ j u, c[j]? = some u → w.cell? (ad.add (i.toNat * 1 + j)) = some u := hc0
  obtain ⟨A0, c0, rfl, l0, g0⟩ := hK
  exact ⟨ad, A0, c0, e, by have hq := hc 0 _ rfl; rwa [Nat.mul_one, Nat.add_zero] at hq, l0, g0⟩

/-! #### struct type 47 -/
structure S47 where
  f0 : S30
  f1 : (List Int)
def z47 : S47 := ⟨z30, ([] : List Int)⟩
def k47 : Kd S47 := Kd.iso (Kd.pair k30 (Kd.slice 5 (Kd.int .u8))) (fun x : S47 => (x.f0, x.f1))
theorem k47_open {w : World} {x : S47} {cs : List Value} (h : k47.K w x cs) : ∃ A4 c4, cs = [.int .i64 x.f0.f0, .int .u8 x.f0.f1, .string x.f0.f2, .int .i64 x.f0.f3, .slice A4 x.f1.length c4] ∧ x.f1.length ≤ c4 ∧ (Kd.int .u8).C w A4 x.f1.length x.f1 := by
  obtain ⟨_, _, rfl, s0, ⟨A4, c4, rfl, l4, g4⟩⟩ := h
  obtain rfl := k30_open s0
  exact ⟨A4, c4, rfl, l4, g4⟩
theorem k47_openM {w : World} {base : Nat} {ok : Nat → Prop} {x : S47} {cs : List Value} (h : k47.M w base ok x cs) : ∃ v4, cs = [.int .i64 x.f0.f0, .int .u8 x.f0.f1, .string x.f0.f2, .int .i64 x.f0.f3, v4] ∧ (Kd.int .u8).R 5 w base ok v4 x.f1 := by
  obtain ⟨_, _, rfl, s0, ⟨v4, rfl, g4⟩⟩ := h
  obtain rfl := k30_openM s0
  exact ⟨v4, rfl, g4⟩
theorem k47_mk (w : World) (x : S47) {A4 : Option Addr} {c4 : Nat} (l4 : x.f1.length ≤ c4) (g4 : (Kd.int .u8).C w A4 x.f1.length x.f1) : k47.K w x [.int .i64 x.f0.f0, .int .u8 x.f0.f1, .string x.f0.f2, .int .i64 x.f0.f3, .slice A4 x.f1.length c4] := ⟨[.int .i64 x.f0.f0, .int .u8 x.f0.f1, .string x.f0.f2, .int .i64 x.f0.f3], [.slice A4 x.f1.length c4], rfl, (k30_mk w x.f0 ), ⟨A4, c4, rfl, l4, g4⟩⟩
theorem k47_mkM (w : World) (base : Nat) (ok : Nat → Prop) (x : S47) {v4 : Value} (g4 : (Kd.int .u8).R 5 w base ok v4 x.f1) : k47.M w base ok x [.int .i64 x.f0.f0, .int .u8 x.f0.f1, .string x.f0.f2, .int .i64 x.f0.f3, v4] := ⟨[.int .i64 x.f0.f0, .int .u8 x.f0.f1, .string x.f0.f2, .int .i64 x.f0.f3], [v4], rfl, (k30_mkM w base ok x.f0 ), ⟨v4, rfl, g4⟩⟩
theorem k47_openF {W : World} {ok : Nat → Prop} {x : S47} {cs : List Value} (h : Kd.FK k47 W ok x cs) : ∃ A4 c4, cs = [.int .i64 x.f0.f0, .int .u8 x.f0.f1, .string x.f0.f2, .int .i64 x.f0.f3, .slice A4 x.f1.length c4] ∧ x.f1.length ≤ c4 ∧ Kd.F (Kd.int .u8) W ok A4 x.f1.length x.f1 := by
  obtain ⟨A4, c4, rfl, l4, _⟩ := k47_open (Kd.FK_now h)
  exact ⟨A4, c4, rfl, l4, (fun W' hW => by obtain ⟨A4_, c4_, he, l4_, g4_⟩ := k47_open (h W' hW); injection (Option.some.inj (show some (Value.slice A4 x.f1.length c4) = some (Value.slice A4_ x.f1.length c4_) from congrArg (fun l => l[4]?) he)) with ha_ _ _; rw [ha_]; exact g4_)⟩
theorem k47_mkF (W : World) (ok : Nat → Prop) (x : S47) {A4 : Option Addr} {c4 : Nat} (l4 : x.f1.length ≤ c4) (g4 : Kd.F (Kd.int .u8) W ok A4 x.f1.length x.f1) : Kd.FK k47 W ok x [.int .i64 x.f0.f0, .int .u8 x.f0.f1, .string x.f0.f2, .int .i64 x.f0.f3, .slice A4 x.f1.length c4] := fun W2 hW => k47_mk W2 x l4 (g4 W2 hW)
def rd_T47 (xs : List S47) (i : Int) : S47 := xs.getD i.toNat z47
theorem at_T47 {w : World} {A : Option Addr} {n : Nat} {xs : List S47} (h : Kd.C k47 w A n xs) (i : Int) (h0 : 0 ≤ i) (h1 : i < n) : ∃ ad A4 c4, A = some ad ∧ w.cell? (ad.add (i.toNat * 5)) = some (.int .i64 (rd_T47 xs i).f0.f0) ∧ w.cell? ⟨(ad.add (i.toNat * 5)).block, (ad.add (i.toNat * 5)).off + 1, none⟩ = some (.int .u8 (rd_T47 xs i).f0.f1) ∧ w.cell? ⟨(ad.add (i.toNat * 5)).block, (ad.add (i.toNat * 5)).off + 2, none⟩ = some (.string (rd_T47 xs i).f0.f2) ∧ w.cell? ⟨(ad.add (i.toNat * 5)).block, (ad.add (i.toNat * 5)).off + 3, none⟩ = some (.int .i64 (rd_T47 xs i).f0.f3) ∧ w.cell? ⟨(ad.add (i.toNat * 5)).block, (ad.add (i.toNat * 5)).off + 4, none⟩ = some (.slice A4 (rd_T47 xs i).f1.length c4) ∧ (rd_T47 xs i).f1.length ≤ c4 ∧ (Kd.int .u8).C w A4 (rd_T47 xs i).f1.length (rd_T47 xs i).f1 := by
  obtain ⟨ad, c, e, _, hK, hc0⟩ := Kd.C_get h z47 i h0 h1
  have hc : ∀ j u, c[j]? = some u → w.cell? (ad.add (i.toNat * 5 + j)) = some u := hc0
  obtain ⟨A4, c4, rfl, l4, g4⟩ := k47_open hK
  exact ⟨ad, A4, c4, e, hc 0 _ rfl, by rw [← add_field _ _ 1 (by omega)]; exact hc 1 _ rfl, by rw [← add_field _ _ 2 (by omega)]; exact hc 2 _ rfl, by rw [← add_field _ _ 3 (by omega)]; exact hc 3 _ rfl, by rw [← add_field _ _ 4 (by omega)]; exact hc 4 _ rfl, l4, g4⟩

def rd_L7 (xs : List (List S47)) (i : Int) : (List S47) := xs.getD i.toNat ([] : List S47)
theorem at_L7 {w : World} {A : Option Addr} {n : Nat} {xs : List (List S47)} (h : Kd.C (Kd.slice 47 k47) w A n xs) (i : Int) (h0 : 0 ≤ i) (h1 : i < n) : ∃ ad A0 c0, A = some ad ∧ w.cell? (ad.add i.toNat) = some (.slice A0 (rd_L7 xs i).length c0) ∧ (rd_L7 xs i).length ≤ c0 ∧ k47.C w A0 (rd_L7 xs i).length (rd_L7 xs i) := by
  obtain ⟨ad, c, e, _, hK, hc0⟩ := Kd.C_get h ([] : List S47) i h0 h1
  have hc : ∀ j u, c[j]? = some u → w.cell? (ad.add (i.toNat * 1 + j)) = some u := hc0
  obtain ⟨A0, c0, rfl, l0, g0⟩ := hK
  exact ⟨ad, A0, c0, e, by have hq := hc 0 _ rfl; rwa [Nat.mul_one, Nat.add_zero] at hq, l0, g0⟩

/-! #### struct type 53 -/
structure S53 where
  f0 : S30
  f1 : (List Int)
  f2 : Bool
def z53 : S53 := ⟨z30, ([] : List Int), false⟩
def k53 : Kd S53 := Kd.iso (Kd.pair k30 (Kd.pair (Kd.slice 5 (Kd.int .u8)) Kd.bool)) (fun x : S53 => (x.f0, x.f1, x.f2))
theorem k53_open {w : World} {x : S53} {cs : List Value} (h : k53.K w x cs) : ∃ A4 c4, cs = [.int .i64 x.f0.f0, .int .u8 x.f0.f1, .string x.f0.f2, .int .i64 x.f0.f3, .slice A4 x.f1.length c4, .bool x.f2] ∧ x.f1.length ≤ c4 ∧ (Kd.int .u8).C w A4 x.f1.length x.f1 := by
  obtain ⟨_, _, rfl, s0, ⟨_, _, rfl, ⟨A4, c4, rfl, l4, g4⟩, rfl⟩⟩ := h
  obtain rfl := k30_open s0
  exact ⟨A4, c4, rfl, l4, g4⟩
theorem k53_openM {w : World} {base : Nat} {ok : Nat → Prop} {x : S53} {cs : List Value} (h : k53.M w base ok x cs) : ∃ v4, cs = [.int .i64 x.f0.f0, .int .u8 x.f0.f1, .string x.f0.f2, .int .i64 x.f0.f3, v4, .bool x.f2] ∧ (Kd.int .u8).R 5 w base ok v4 x.f1 := by
  obtain ⟨_, _, rfl, s0, ⟨_, _, rfl, ⟨v4, rfl, g4⟩, rfl⟩⟩ := h
  obtain rfl := k30_openM s0
  exact ⟨v4, rfl, g4⟩
theorem k53_mk (w : World) (x : S53) {A4 : Option Addr} {c4 : Nat} (l4 : x.f1.length ≤ c4) (g4 : (Kd.int .u8).C w A4 x.f1.length x.f1) : k53.K w x [.int .i64 x.f0.f0, .int .u8 x.f0.f1, .string x.f0.f2, .int .i64 x.f0.f3, .slice A4 x.f1.length c4, .bool x.f2] := ⟨[.int .i64 x.f0.f0, .int .u8 x.f0.f1, .string x.f0.f2, .int .i64 x.f0.f3], [.slice A4 x.f1.length c4, .bool x.f2], rfl, (k30_mk w x.f0 ), ⟨[.slice A4 x.f1.length c4], [.bool x.f2], rfl, ⟨A4, c4, rfl, l4, g4⟩, rfl⟩⟩
theorem k53_mkM (w : World) (base : Nat) (ok : Nat → Prop) (x : S53) {v4 : Value} (g4 : (Kd.int .u8).R 5 w base ok v4 x.f1) : k53.M w base ok x [.int .i64 x.f0.f0, .int .u8 x.f0.f1, .string x.f0.f2, .int .i64 x.f0.f3, v4, .bool x.f2] := ⟨[.int .i64 x.f0.f0, .int .u8 x.f0.f1, .string x.f0.f2, .int .i64 x.f0.f3], [v4, .bool x.f2], rfl, (k30_mkM w base ok x.f0 ), ⟨[v4], [.bool x.f2], rfl, ⟨v4, rfl, g4⟩, rfl⟩⟩
theorem k53_openF {W : World} {ok : Nat → Prop} {x : S53} {cs : List Value} (h : Kd.FK k53 W ok x cs) : ∃ A4 c4, cs = [.int .i64 x.f0.f0, .int .u8 x.f0.f1, .string x.f0.f2, .int .i64 x.f0.f3, .slice A4 x.f1.length c4, .bool x.f2] ∧ x.f1.length ≤ c4 ∧ Kd.F (Kd.int .u8) W ok A4 x.f1.length x.f1 := by
  obtain ⟨A4, c4, rfl, l4, _⟩ := k53_open (Kd.FK_now h)
  exact ⟨A4, c4, rfl, l4, (fun W' hW => by obtain ⟨A4_, c4_, he, l4_, g4_⟩ := k53_open (h W' hW); injection (Option.some.inj (show some (Value.slice A4 x.f1.length c4) = some (Value.slice A4_ x.f1.length c4_) from congrArg (fun l => l[4]?) he)) with ha_ _ _; rw [ha_]; exact g4_)⟩
theorem k53_mkF (W : World) (ok : Nat → Prop) (x : S53) {A4 : Option Addr} {c4 : Nat} (l4 : x.f1.length ≤ c4) (g4 : Kd.F (Kd.int .u8) W ok A4 x.f1.length x.f1) : Kd.FK k53 W ok x [.int .i64 x.f0.f0, .int .u8 x.f0.f1, .string x.f0.f2, .int .i64 x.f0.f3, .slice A4 x.f1.length c4, .bool x.f2] := fun W2 hW => k53_mk W2 x l4 (g4 W2 hW)
def rd_T53 (xs : List S53) (i : Int) : S53 := xs.getD i.toNat z53
theorem at_T53 {w : World} {A : Option Addr} {n : Nat} {xs : List S53} (h : Kd.C k53 w A n xs) (i : Int) (h0 : 0 ≤ i) (h1 : i < n) : ∃ ad A4 c4, A = some ad ∧ w.cell? (ad.add (i.toNat * 6)) = some (.int .i64 (rd_T53 xs i).f0.f0) ∧ w.cell? ⟨(ad.add (i.toNat * 6)).block, (ad.add (i.toNat * 6)).off + 1, none⟩ = some (.int .u8 (rd_T53 xs i).f0.f1) ∧ w.cell? ⟨(ad.add (i.toNat * 6)).block, (ad.add (i.toNat * 6)).off + 2, none⟩ = some (.string (rd_T53 xs i).f0.f2) ∧ w.cell? ⟨(ad.add (i.toNat * 6)).block, (ad.add (i.toNat * 6)).off + 3, none⟩ = some (.int .i64 (rd_T53 xs i).f0.f3) ∧ w.cell? ⟨(ad.add (i.toNat * 6)).block, (ad.add (i.toNat * 6)).off + 4, none⟩ = some (.slice A4 (rd_T53 xs i).f1.length c4) ∧ w.cell? ⟨(ad.add (i.toNat * 6)).block, (ad.add (i.toNat * 6)).off + 5, none⟩ = some (.bool (rd_T53 xs i).f2) ∧ (rd_T53 xs i).f1.length ≤ c4 ∧ (Kd.int .u8).C w A4 (rd_T53 xs i).f1.length (rd_T53 xs i).f1 := by
  obtain ⟨ad, c, e, _, hK, hc0⟩ := Kd.C_get h z53 i h0 h1
  have hc : ∀ j u, c[j]? = some u → w.cell? (ad.add (i.toNat * 6 + j)) = some u := hc0
  obtain ⟨A4, c4, rfl, l4, g4⟩ := k53_open hK
  exact ⟨ad, A4, c4, e, hc 0 _ rfl, by rw [← add_field _ _ 1 (by omega)]; exact hc 1 _ rfl, by rw [← add_field _ _ 2 (by omega)]; exact hc 2 _ rfl, by rw [← add_field _ _ 3 (by omega)]; exact hc 3 _ rfl, by rw [← add_field _ _ 4 (by omega)]; exact hc 4 _ rfl, by rw [← add_field _ _ 5 (by omega)]; exact hc 5 _ rfl, l4, g4⟩

def rd_L9 (xs : List (List S53)) (i : Int) : (List S53) := xs.getD i.toNat ([] : List S53)
theorem at_L9 {w : World} {A : Option Addr} {n : Nat} {xs : List (List S53)} (h : Kd.C (Kd.slice 53 k53) w A n xs) (i : Int) (h0 : 0 ≤ i) (h1 : i < n) : ∃ ad A0 c0, A = some ad ∧ w.cell? (ad.add i.toNat) = some (.slice A0 (rd_L9 xs i).length c0) ∧ (rd_L9 xs i).length ≤ c0 ∧ k53.C w A0 (rd_L9 xs i).length (rd_L9 xs i) := by
  obtain ⟨ad, c, e, _, hK, hc0⟩ := Kd.C_get h ([] : List S53) i h0 h1
  have hc : ∀ j u, c[j]? = some u → w.cell? (ad.add (i.toNat * 1 + j)) = some u := hc0
  obtain ⟨A0, c0, rfl, l0, g0⟩ := hK
  exact ⟨ad, A0, c0, e, by have hq := hc 0 _ rfl; rwa [Nat.mul_one, Nat.add_zero] at hq, l0, g0⟩

end Go.Proofs.Ytbhmncenbpdcjaa.P
end
section
/- Printed by a program of this workplace (wip/print/gprint.py, over the kit's print.py): functions of the program as Lean functions, and that the Go text comes to their answers. -/
namespace Go.Proofs.Ytbhmncenbpdcjaa.P
open Go.RowKit Go.Proofs.YtbhmncenbpdcjaaW.PrintWords Go.Proofs.YtbhmncenbpdcjaaW.PrintLast Go.Proofs.YtbhmncenbpdcjaaW.PrintMore
attribute [local go_sem] max2_int min2_int max_two min_two max_three min_three max_four min_four   -- for this text's walks alone
set_option linter.unusedVariables false
set_option linter.unusedSimpArgs false

theorem eqA30 (d : Nat) (w : World) (x0 y0 : Int) (x1 y1 : Int) (x2 y2 : ByteArray) (x3 y3 : Int) :
    (Op.equalIn (d + 2) 30 (.agg #[.int .i64 x0, .int .u8 x1, .string x2, .int .i64 x3]) (.agg #[.int .i64 y0, .int .u8 y1, .string y2, .int .i64 y3])).run Try.prog w = .ok (x0 == y0 && (x1 == y1 && (x2.toList == y2.toList && (x3 == y3)))) w := by
  refine eqA_of Try.underlying30 (by kernel_rfl) ?_
  refine eqf_cons (by rfl) (by go_simp; rfl) (by go_simp; rfl) (by go_simp) ?_
  refine eqf_cons (by rfl) (by go_simp; rfl) (by go_simp; rfl) (by go_simp) ?_
  refine eqf_cons (by rfl) (by go_simp; rfl) (by go_simp; rfl) (by go_simp) ?_
  exact eqf_last (by rfl) (by go_simp; rfl) (by go_simp; rfl) (by go_simp)
end Go.Proofs.Ytbhmncenbpdcjaa.P
end
section
/- Names: what path.Name and the document's Name compute. -/
namespace Go.Proofs.Ytbhmncenbpdcjaa
open Go.RowKit

theorem ret_bool {a b : Bool} (h : a = b) : Ending.returned (.bool a) = .returned (.bool b) := by rw [h]
theorem ret_int {k : IntKind} {a b : Int} (h : a = b) : Ending.returned (.int k a) = .returned (.int k b) := by rw [h]

/-- May a byte stand in a name? -/
def mayI (n : Int) : Bool := (decide (97 ≤ n) && decide (n ≤ 122)) || (decide (48 ≤ n) && decide (n ≤ 57)) || n == 46 || n == 45
theorem mayI_iff (n : Int) : mayI n = true ↔ (97 ≤ n ∧ n ≤ 122) ∨ (48 ≤ n ∧ n ≤ 57) ∨ n = 46 ∨ n = 45 := by
  unfold mayI; simp; omega
theorem mayI_yes {n : Int} (h : (97 ≤ n ∧ n ≤ 122) ∨ (48 ≤ n ∧ n ≤ 57) ∨ n = 46 ∨ n = 45) : true = mayI n := ((mayI_iff n).2 h).symm
theorem mayI_no {n : Int} (h : ¬ ((97 ≤ n ∧ n ≤ 122) ∨ (48 ≤ n ∧ n ≤ 57) ∨ n = 46 ∨ n = 45)) : false = mayI n := by
  have := mayI_iff n
  cases hm : mayI n
  · rfl
  · exact absurd (this.1 hm) h

set_option maxHeartbeats 400000 in
theorem may_any (n : Int) (w : World) : Calls Try.prog 63 #[.int .u8 n] w fun e w' => e = .returned (.bool (mayI n)) ∧ w = w' := by
  go_enter Try.func63, Try.ntmps63
  go_wp2
  all_goals go_ret
  all_goals exact ⟨ret_bool (by first | exact mayI_yes (by omega) | exact mayI_no (by omega) | (simp only [beq_iff_eq] at *; exact mayI_yes (by omega)) | (simp only [beq_eq_false_iff_ne, ne_eq] at *; exact mayI_no (by omega)) | (simp only [beq_eq_false_iff_ne, ne_eq, beq_iff_eq] at *; first | exact mayI_no (by omega) | exact mayI_yes (by omega))), rfl⟩

/-- The bytes up to k may all stand in a name. -/
def mayTo (s : ByteArray) (k : Nat) : Prop := ∀ j, (h : j < s.size) → j < k → mayI ((s[j]'h).toNat : Int) = true
/-- Is a text a name? -/
def nameB (s : ByteArray) : Bool := s.data.toList.all (fun c => mayI (c.toNat : Int)) && decide (1 ≤ s.size) && decide (s.size ≤ 12) && (s.data.toList != [46]) && (s.data.toList != [46, 46])
theorem all_of_mayTo {s : ByteArray} (h : mayTo s s.size) : s.data.toList.all (fun c => mayI (c.toNat : Int)) = true := by
  rw [List.all_eq_true]
  intro c hc
  obtain ⟨j, hj, rfl⟩ := List.getElem_of_mem hc
  exact h j (by simpa using hj) (by simpa using hj)
theorem not_all {s : ByteArray} {j : Nat} (h : j < s.size) (hm : mayI ((s[j]'h).toNat : Int) = false) : s.data.toList.all (fun c => mayI (c.toNat : Int)) = false := by
  rw [List.all_eq_false]
  refine ⟨s[j], ?_, by simp [hm]⟩
  show s.data[j] ∈ s.data.toList
  exact Array.mem_toList_iff.2 (Array.getElem_mem _)

theorem nameB_of {s : ByteArray} (h : s.data.toList.all (fun c => mayI (c.toNat : Int)) = true) : nameB s = (decide ((1 : Int) ≤ (s.size : Int)) && (decide ((s.size : Int) ≤ 12) && ((!(s.toList == [46])) && !(s.toList == [46, 46])))) := by
  unfold nameB
  rw [h, Lib.toList_data]
  simp only [Bool.true_and, bne, Bool.and_assoc]
  congr 1
  · rw [Bool.eq_iff_iff]; simp; omega
  · congr 1
    rw [Bool.eq_iff_iff]; simp; omega

set_option maxHeartbeats 400000 in
theorem name_any (s : ByteArray) (hs : s.size ≤ maxLen) (w : World) : Calls Try.prog 48 #[.string s] w fun e w' => e = .returned (.bool (nameB s)) ∧ w = w' := by
  unfold maxLen at hs
  go_enter Try.func48, Try.ntmps48
  go_wp2
  go_loop [3, 6] (fun _ i => ∃ k : Nat, k ≤ s.size ∧ i = .int .i64 k ∧ mayTo s k) (fun _ i => s.size - (intOf i).toNat)
  case atStart => exact ⟨0, Nat.zero_le _, rfl, fun j _ h => absurd h (by omega)⟩
  case round =>
    obtain ⟨k, hk, rfl, hm⟩ := hrel
    by_cases hlt : k < s.size
    · cases hc : mayI ((s[k]'hlt).toNat : Int)
      · clear hm
        go_wp2_with (go_at_call 63; refine (may_any _ _).mono ?_; rintro e w' ⟨rfl, rfl⟩)
        go_ret
        exact ⟨ret_bool (by unfold nameB; rw [not_all hlt hc]; simp), rfl⟩
      · have H := Lib.hid hm
        clear hm
        have HC := Lib.hid hc
        go_wp2_with (go_at_call 63; refine (may_any _ _).mono ?_; rintro e w' ⟨rfl, rfl⟩)
        go_round
        case rel => exact ⟨k + 1, by omega, by go_num, fun j h1 h2 => by
          by_cases hj : j = k
          · subst hj; exact HC.out
          · exact H.out j h1 (by omega)⟩
        case measure => simp [intOf]; omega
    · obtain rfl : k = s.size := by omega
      have ha := all_of_mayTo hm
      have HA := Lib.hid ha
      clear hm ha
      go_wp2
      all_goals go_ret
      all_goals exact ⟨ret_bool (by rw [nameB_of HA.out]; first | (simp [*]; done) | (simp [*]; omega) | (simp; omega)), rfl⟩

set_option maxHeartbeats 1000000 in
theorem refName_any (s : ByteArray) (hs : s.size ≤ maxLen) (w : World) : Calls Try.prog 50 #[.string s] w fun e w' => e = .returned (.bool (nameB s)) ∧ w = w' := by
  unfold maxLen at hs
  go_enter Try.func50, Try.ntmps50
  go_wp2
  go_loop [3, 4] (fun i _ => ∃ k : Nat, k ≤ s.size ∧ i = .int .i64 k ∧ mayTo s k) (fun i _ => s.size - (intOf i).toNat)
  case atStart => exact ⟨0, Nat.zero_le _, rfl, fun j _ h => absurd h (by omega)⟩
  case round =>
    obtain ⟨k, hk, rfl, hm⟩ := hrel
    by_cases hlt : k < s.size
    · have H := Lib.hid hm
      clear hm
      cases hc : mayI ((s[k]'hlt).toNat : Int)
      · have HC := Lib.hid hc
        have hno : ¬ ((97 ≤ ((s[k]'hlt).toNat : Int) ∧ ((s[k]'hlt).toNat : Int) ≤ 122) ∨ (48 ≤ ((s[k]'hlt).toNat : Int) ∧ ((s[k]'hlt).toNat : Int) ≤ 57) ∨ ((s[k]'hlt).toNat : Int) = 46 ∨ ((s[k]'hlt).toNat : Int) = 45) := fun h => Bool.false_ne_true (hc.symm.trans ((mayI_iff _).2 h))
        have e1 : (((s[k]'hlt).toNat : Int) == 46) = false := beq_eq_false_iff_ne.2 (by omega)
        have e2 : (((s[k]'hlt).toNat : Int) == 45) = false := beq_eq_false_iff_ne.2 (by omega)
        have hr : ((s[k]'hlt).toNat : Int) < 48 ∨ 122 < ((s[k]'hlt).toNat : Int) ∨ (57 < ((s[k]'hlt).toNat : Int) ∧ ((s[k]'hlt).toNat : Int) < 97) := by omega
        clear hno hc
        rcases hr with hr | hr | ⟨hr, hr2⟩
        · go_wp2
          go_ret
          exact ⟨ret_bool (by unfold nameB; rw [not_all hlt HC.out]; simp), rfl⟩
        · have d1 : decide (((s[k]'hlt).toNat : Int) ≤ 122) = false := decide_eq_false (by omega)
          have d2 : decide (((s[k]'hlt).toNat : Int) ≤ 57) = false := decide_eq_false (by omega)
          go_wp2
          go_ret
          exact ⟨ret_bool (by unfold nameB; rw [not_all hlt HC.out]; simp), rfl⟩
        · have d2 : decide (((s[k]'hlt).toNat : Int) ≤ 57) = false := decide_eq_false (by omega)
          go_wp2
          go_ret
          exact ⟨ret_bool (by unfold nameB; rw [not_all hlt HC.out]; simp), rfl⟩
      · have HC := Lib.hid hc
        have hr := (mayI_iff _).1 hc
        clear hc
        have fin : mayTo s (k + 1) := fun j h1 h2 => by
          by_cases hj : j = k
          · subst hj; exact HC.out
          · exact H.out j h1 (by omega)
        have FIN := Lib.hid fin
        clear fin
        rcases hr with ⟨h1, h2⟩ | ⟨h1, h2⟩ | hr | hr
        · go_wp2
          go_round
          case rel => exact ⟨k + 1, by omega, by go_num, FIN.out⟩
          case measure => simp [intOf]; omega
        · go_wp2
          go_round
          case rel => exact ⟨k + 1, by omega, by go_num, FIN.out⟩
          case measure => simp [intOf]; omega
        · have e1 : (((s[k]'hlt).toNat : Int) == 46) = true := by simp [hr]
          have h1 : ((s[k]'hlt).toNat : Int) < 48 := by omega
          clear hr
          go_wp2
          go_round
          case rel => exact ⟨k + 1, by omega, by go_num, FIN.out⟩
          case measure => simp [intOf]; omega
        · have e1 : (((s[k]'hlt).toNat : Int) == 46) = false := by simp; omega
          have e2 : (((s[k]'hlt).toNat : Int) == 45) = true := by simp [hr]
          have h1 : ((s[k]'hlt).toNat : Int) < 48 := by omega
          clear hr
          go_wp2
          go_round
          case rel => exact ⟨k + 1, by omega, by go_num, FIN.out⟩
          case measure => simp [intOf]; omega
    · obtain rfl : k = s.size := by omega
      have ha := all_of_mayTo hm
      have HA := Lib.hid ha
      clear hm ha
      go_wp2
      all_goals go_ret
      all_goals exact ⟨ret_bool (by rw [nameB_of HA.out]; first | (simp [*]; done) | (simp [*]; omega) | (simp; omega)), rfl⟩
end Go.Proofs.Ytbhmncenbpdcjaa
end
section
/- Bytes in memory, and what the references' Same computes. -/
namespace Go.Proofs.Ytbhmncenbpdcjaa
open Go.RowKit

/-- At an address (or nowhere, where there are none) these bytes stand. -/
structure Bs (w : World) (A : Option Addr) (l : List UInt8) : Prop where
  small : l.length ≤ 140737488355328
  cell : ∀ j (h : j < l.length), ∃ ad, A = some ad ∧ w.cell? (ad.add j) = some (.int .u8 ((l[j]'h).toNat : Int))
theorem Bs.nil (w : World) (A : Option Addr) : Bs w A [] := ⟨by simp, fun j h => absurd h (by simp)⟩
theorem cell_below {w w' : World} (h : Below w.heap.size w w') {a : Addr} {v : Value} (hc : w.cell? a = some v) : w'.cell? a = some v := (h.cell (World.block_lt_of_cell? w a hc)).trans hc
theorem Bs.below {w w' : World} {A : Option Addr} {l : List UInt8} (h : Bs w A l) (hb : Below w.heap.size w w') : Bs w' A l :=
  ⟨h.small, fun j hj => by obtain ⟨ad, e, hc⟩ := h.cell j hj; exact ⟨ad, e, cell_below hb hc⟩⟩
theorem below_then {B : Nat} {w w1 w2 : World} (h : Below B w w1) (hB : B ≤ w1.heap.size) (k : Below w1.heap.size w1 w2) : Below B w w2 := h.trans (k.mono hB)
theorem below_of {w w1 w2 : World} (h : Below w.heap.size w w1) (k : Below w1.heap.size w1 w2) : Below w.heap.size w w2 := h.trans (k.mono h.size)
theorem below_drewN {B : Nat} {w W : World} (h : Below B w W) (n : Nat) : Below B w (W.drewN n) := ⟨h.os, h.tape, h.output, h.size, h.block⟩

/-- Two rows of bytes agree up to k. -/
def agree (a b : List UInt8) (k : Nat) : Prop := ∀ j, j < k → a[j]? = b[j]?
theorem agree_all {a b : List UInt8} (hl : a.length = b.length) (h : agree a b a.length) : a = b := by
  apply List.ext_getElem?
  intro j
  by_cases hj : j < a.length
  · exact h j hj
  · rw [List.getElem?_eq_none (by omega), List.getElem?_eq_none (by omega)]

theorem agree_succ {a b : List UInt8} {k : Nat} (h : agree a b k) (ha : k < a.length) (hb : k < b.length) (he : (a[k]'ha) = (b[k]'hb)) : agree a b (k + 1) := fun j hj => by
  by_cases hjk : j = k
  · subst hjk; rw [List.getElem?_eq_getElem ha, List.getElem?_eq_getElem hb, he]
  · exact h j (by omega)

def SameEnd (w : World) (a b : List UInt8) (e : Ending) (w' : World) : Prop := e = .returned (.bool (a == b)) ∧ Below w.heap.size w w'

set_option maxHeartbeats 400000 in
theorem same_any (a b : List UInt8) (A B : Option Addr) (ca cb : Nat) (w : World) (ha : Bs w A a) (hb : Bs w B b) :
    Calls Try.prog 23 #[.slice A a.length ca, .slice B b.length cb] w (SameEnd w a b) := by
  have la := ha.small
  have lb := hb.small
  by_cases hl : a.length = b.length
  · have t : ((a.length : Int) == (b.length : Int)) = true := by simp [hl]
    have t2 : ((a.length : Int) != (b.length : Int)) = false := by simp [hl]
    have HL := Lib.hid hl
    clear hl
    go_enter Try.func23, Try.ntmps23
    go_wp2
    go_loopg [5] a.length (fun n i wr => ∃ k : Nat, k ≤ a.length ∧ n = a.length - k ∧ i = .int .i64 k ∧ Hid (agree a b k) ∧ Below w.heap.size w wr)
    case atStart => exact ⟨0, Nat.zero_le _, by omega, rfl, fun j h => absurd h (by omega), Below.refl _ _⟩
    case round =>
      obtain ⟨k, hk, rfl, rfl, hag, hbw⟩ := hrel
      by_cases hlt : k < a.length
      · have hlb : k < b.length := by have := HL.out; omega
        obtain ⟨ad, rfl, hc⟩ := (ha.below hbw).cell k hlt
        obtain ⟨bd, rfl, hd⟩ := (hb.below hbw).cell k hlb
        have i0 : (0 : Int) ≤ (k : Int) := by omega
        have i1 : (k : Int) < (a.length : Int) := by omega
        have i2 : (k : Int) < (b.length : Int) := by omega
        by_cases he : (a[k]'hlt) = (b[k]'hlb)
        · have q : ((((a[k]'hlt).toNat : Int)) != ((b[k]'hlb).toNat : Int)) = false := by rw [he]; simp
          have HE := Lib.hid he
          clear he
          go_wp2
          go_quiet (fail)
          go_wp2
          go_roundg (a.length - (k + 1))
          case measure => omega
          case rel => exact ⟨k + 1, by omega, rfl, by go_num, agree_succ hag.out hlt hlb HE.out, below_drewN hbw _⟩
        · have q : ((((a[k]'hlt).toNat : Int)) != ((b[k]'hlb).toNat : Int)) = true := by
            rw [bne_iff_ne]; intro h; exact he (UInt8.toNat_inj.1 (by omega))
          have HN : Hid ((a == b) = false) := by
            show (a == b) = false
            rw [beq_eq_false_iff_ne]; intro h; subst h; exact he rfl
          clear he
          go_wp2
          go_quiet (fail)
          go_wp2
          go_ret
          exact ⟨ret_bool HN.out.symm, below_drewN hbw _⟩
      · obtain rfl : k = a.length := by omega
        have HN : Hid ((a == b) = true) := by
          show (a == b) = true
          rw [beq_iff_eq]; exact agree_all HL.out hag.out
        go_wp2
        go_ret
        exact ⟨ret_bool HN.out.symm, hbw⟩
  · have t2 : ((a.length : Int) != (b.length : Int)) = true := by rw [bne_iff_ne]; omega
    have HN : Hid ((a == b) = false) := by
      show (a == b) = false
      rw [beq_eq_false_iff_ne]; intro h; exact hl (by rw [h])
    clear hl
    go_enter Try.func23, Try.ntmps23
    go_wp2
    go_ret
    exact ⟨ret_bool HN.out.symm, Below.refl _ _⟩
end Go.Proofs.Ytbhmncenbpdcjaa
end
section
/- Keys: which may be, which stands ahead of which: what the program and the document compute. -/
namespace Go.Proofs.Ytbhmncenbpdcjaa
open Go.RowKit

theorem below_alloc1 (w : World) (o : Obj) : Below w.heap.size w (w.alloc o) := (Below.refl _ _).alloc (Nat.le_refl _) o

/-- May a key be? -/
def mayKey (i u : Int) (s : ByteArray) (c : Int) : Bool :=
  decide (1 ≤ i) && decide (i ≤ 65535) && (if u = 1 then s.toList == [] && c == 0 else if u = 2 then nameB s && c == 0 else if u = 3 then s.toList == [] && decide (0 ≤ c) && decide (c < 8) else false)
def BoolEnd (b : Bool) (w : World) (e : Ending) (w' : World) : Prop := e = .returned (.bool b) ∧ Below w.heap.size w w'

theorem mayKey_out {i u c : Int} {s : ByteArray} (h : i < 1 ∨ 65535 < i) : mayKey i u s c = false := by
  unfold mayKey; rcases h with h | h
  · have : decide (1 ≤ i) = false := decide_eq_false (by omega)
    rw [this]; simp
  · have : decide (i ≤ 65535) = false := decide_eq_false (by omega)
    rw [this]; simp
theorem mayKey_in {i u c : Int} {s : ByteArray} (h : 1 ≤ i) (h' : i ≤ 65535) : mayKey i u s c = (if u = 1 then s.toList == [] && c == 0 else if u = 2 then nameB s && c == 0 else if u = 3 then s.toList == [] && decide (0 ≤ c) && decide (c < 8) else false) := by
  unfold mayKey
  rw [decide_eq_true h, decide_eq_true h']; simp

set_option maxHeartbeats 1000000 in
theorem mayKey_any (i u : Int) (s : ByteArray) (c : Int) (hs : s.size ≤ maxLen) (w : World) :
    Calls Try.prog 28 #[.agg #[.int .i64 i, .int .u8 u, .string s, .int .i64 c]] w (BoolEnd (mayKey i u s c) w) := by
  by_cases h1 : i < 1
  · have HM := Lib.hid (mayKey_out (u := u) (s := s) (c := c) (.inl h1))
    go_enter Try.func28, Try.ntmps28
    go_wp2
    go_ret
    exact ⟨ret_bool HM.out.symm, below_alloc1 _ _⟩
  · by_cases h2 : 65535 < i
    · have HM := Lib.hid (mayKey_out (u := u) (s := s) (c := c) (.inr h2))
      go_enter Try.func28, Try.ntmps28
      go_wp2
      go_ret
      exact ⟨ret_bool HM.out.symm, below_alloc1 _ _⟩
    · have HM := Lib.hid (mayKey_in (u := u) (s := s) (c := c) (Int.not_lt.1 h1) (Int.not_lt.1 h2))
      by_cases u1 : u = 1
      · subst u1
        go_enter Try.func28, Try.ntmps28
        go_wp2
        all_goals go_ret
        all_goals exact ⟨ret_bool (by have HN := HM.out; first | (rw [HN]; simp [*]; done) | (simp_all; done)), below_alloc1 _ _⟩
      · by_cases u2 : u = 2
        · subst u2
          cases hn : nameB s
          · go_enter Try.func28, Try.ntmps28
            go_wp2_with (go_at_call 48; refine (name_any s hs _).mono ?_; rintro e w' ⟨rfl, rfl⟩)
            all_goals go_ret
            all_goals exact ⟨ret_bool (by rw [HM.out, hn]; simp), below_alloc1 _ _⟩
          · go_enter Try.func28, Try.ntmps28
            go_wp2_with (go_at_call 48; refine (name_any s hs _).mono ?_; rintro e w' ⟨rfl, rfl⟩)
            all_goals go_ret
            all_goals exact ⟨ret_bool (by rw [HM.out, hn]; simp), below_alloc1 _ _⟩
        · by_cases u3 : u = 3
          · subst u3
            go_enter Try.func28, Try.ntmps28
            go_wp2
            all_goals go_ret
            all_goals exact ⟨ret_bool (by rw [HM.out]; first | (simp [*]; done) | (simp [*]; omega)), below_alloc1 _ _⟩
          · have e1 : (u == 1) = false := beq_eq_false_iff_ne.2 u1
            have e2 : (u == 2) = false := beq_eq_false_iff_ne.2 u2
            have e3 : (u == 3) = false := beq_eq_false_iff_ne.2 u3
            have HU := Lib.hid (And.intro u1 (And.intro u2 u3))
            clear u1 u2 u3
            go_enter Try.func28, Try.ntmps28
            go_wp2
            go_ret
            exact ⟨ret_bool (by rw [HM.out, if_neg HU.out.1, if_neg HU.out.2.1, if_neg HU.out.2.2]), below_alloc1 _ _⟩

set_option maxHeartbeats 1000000 in
theorem refMayKey_any (i u : Int) (s : ByteArray) (c : Int) (hs : s.size ≤ maxLen) (w : World) :
    Calls Try.prog 31 #[.agg #[.int .i64 i, .int .u8 u, .string s, .int .i64 c]] w (BoolEnd (mayKey i u s c) w) := by
  by_cases h1 : i < 1
  · have HM := Lib.hid (mayKey_out (u := u) (s := s) (c := c) (.inl h1))
    go_enter Try.func31, Try.ntmps31
    go_wp2
    go_ret
    exact ⟨ret_bool HM.out.symm, below_alloc1 _ _⟩
  · by_cases h2 : 65535 < i
    · have HM := Lib.hid (mayKey_out (u := u) (s := s) (c := c) (.inr h2))
      go_enter Try.func31, Try.ntmps31
      go_wp2
      go_ret
      exact ⟨ret_bool HM.out.symm, below_alloc1 _ _⟩
    · have HM := Lib.hid (mayKey_in (u := u) (s := s) (c := c) (Int.not_lt.1 h1) (Int.not_lt.1 h2))
      by_cases u1 : u = 1
      · subst u1
        go_enter Try.func31, Try.ntmps31
        go_wp2
        all_goals go_ret
        all_goals exact ⟨ret_bool (by have HN := HM.out; first | (rw [HN]; simp [*]; done) | (simp_all; done)), below_alloc1 _ _⟩
      · by_cases u2 : u = 2
        · subst u2
          cases hn : nameB s
          · go_enter Try.func31, Try.ntmps31
            go_wp2_with (go_at_call 50; refine (refName_any s hs _).mono ?_; rintro e w' ⟨rfl, rfl⟩)
            all_goals go_ret
            all_goals exact ⟨ret_bool (by rw [HM.out, hn]; simp), below_alloc1 _ _⟩
          · go_enter Try.func31, Try.ntmps31
            go_wp2_with (go_at_call 50; refine (refName_any s hs _).mono ?_; rintro e w' ⟨rfl, rfl⟩)
            all_goals go_ret
            all_goals exact ⟨ret_bool (by rw [HM.out, hn]; simp), below_alloc1 _ _⟩
        · by_cases u3 : u = 3
          · subst u3
            go_enter Try.func31, Try.ntmps31
            go_wp2
            all_goals go_ret
            all_goals exact ⟨ret_bool (by rw [HM.out]; first | (simp [*]; done) | (simp [*]; omega)), below_alloc1 _ _⟩
          · have e1 : (u == 1) = false := beq_eq_false_iff_ne.2 u1
            have e2 : (u == 2) = false := beq_eq_false_iff_ne.2 u2
            have e3 : (u == 3) = false := beq_eq_false_iff_ne.2 u3
            have HU := Lib.hid (And.intro u1 (And.intro u2 u3))
            clear u1 u2 u3
            go_enter Try.func31, Try.ntmps31
            go_wp2
            go_ret
            exact ⟨ret_bool (by rw [HM.out, if_neg HU.out.1, if_neg HU.out.2.1, if_neg HU.out.2.2]), below_alloc1 _ _⟩

/-! ### What stands ahead of what -/
def cmpI (a b : Int) : Int := if a < b then -1 else if b < a then 1 else 0
def cmpS (a b : ByteArray) : Int := if Op.bytesLess a.toList b.toList then -1 else if a.toList == b.toList then 0 else 1
theorem compareI_any (a b : Int) (w : World) : Calls Try.prog 60 #[.int .i64 a, .int .i64 b] w fun e w' => e = .returned (.int .i64 (cmpI a b)) ∧ w = w' := by
  by_cases h1 : a < b
  · go_enter Try.func60, Try.ntmps60
    go_wp2
    go_ret
    exact ⟨ret_int (by unfold cmpI; rw [if_pos (by omega)]), rfl⟩
  · by_cases h2 : b < a
    · go_enter Try.func60, Try.ntmps60
      go_wp2
      go_ret
      exact ⟨ret_int (by unfold cmpI; rw [if_neg (by omega), if_pos (by omega)]), rfl⟩
    · go_enter Try.func60, Try.ntmps60
      go_wp2
      go_ret
      exact ⟨ret_int (by unfold cmpI; rw [if_neg (by omega), if_neg (by omega)]), rfl⟩
theorem compareU_any (a b : Int) (w : World) : Calls Try.prog 61 #[.int .u8 a, .int .u8 b] w fun e w' => e = .returned (.int .i64 (cmpI a b)) ∧ w = w' := by
  by_cases h1 : a < b
  · go_enter Try.func61, Try.ntmps61
    go_wp2
    go_ret
    exact ⟨ret_int (by unfold cmpI; rw [if_pos (by omega)]), rfl⟩
  · by_cases h2 : b < a
    · go_enter Try.func61, Try.ntmps61
      go_wp2
      go_ret
      exact ⟨ret_int (by unfold cmpI; rw [if_neg (by omega), if_pos (by omega)]), rfl⟩
    · go_enter Try.func61, Try.ntmps61
      go_wp2
      go_ret
      exact ⟨ret_int (by unfold cmpI; rw [if_neg (by omega), if_neg (by omega)]), rfl⟩
theorem compareS_any (a b : ByteArray) (w : World) : Calls Try.prog 62 #[.string a, .string b] w fun e w' => e = .returned (.int .i64 (cmpS a b)) ∧ w = w' := by
  cases h1 : Op.bytesLess a.toList b.toList
  · cases h2 : (a.toList == b.toList)
    · have HC : Hid (cmpS a b = 1) := by show cmpS a b = 1; unfold cmpS; rw [h1, h2]; rfl
      go_enter Try.func62, Try.ntmps62
      go_wp2
      go_ret
      exact ⟨ret_int HC.out.symm, rfl⟩
    · have HC : Hid (cmpS a b = 0) := by show cmpS a b = 0; unfold cmpS; rw [h1, h2]; rfl
      go_enter Try.func62, Try.ntmps62
      go_wp2
      go_ret
      exact ⟨ret_int HC.out.symm, rfl⟩
  · have HC : Hid (cmpS a b = -1) := by show cmpS a b = -1; unfold cmpS; rw [h1]; rfl
    go_enter Try.func62, Try.ntmps62
    go_wp2
    go_ret
    exact ⟨ret_int HC.out.symm, rfl⟩

/-- The first of the four that is not 0. -/
def or4 (a b c d : Int) : Int := if a ≠ 0 then a else if b ≠ 0 then b else if c ≠ 0 then c else d
set_option maxHeartbeats 400000 in
theorem or_any (b : Nat) (x0 x1 x2 x3 : Int) (w : World) (h0 : w.cell? ⟨b, 0, none⟩ = some (.int .i64 x0)) (h1 : w.cell? ⟨b, 1, none⟩ = some (.int .i64 x1)) (h2 : w.cell? ⟨b, 2, none⟩ = some (.int .i64 x2)) (h3 : w.cell? ⟨b, 3, none⟩ = some (.int .i64 x3)) :
    Calls Try.prog 59 #[.slice (some ⟨b, 0, none⟩) 4 4] w fun e w' => e = .returned (.int .i64 (or4 x0 x1 x2 x3)) ∧ w = w' := by
  go_enter Try.func59, Try.ntmps59
  go_wp2
  go_loopg [8] 4 (fun n i wr => w = wr ∧ ((i = .int .i64 0 ∧ n = 4) ∨ (i = .int .i64 1 ∧ n = 3 ∧ Hid (x0 = 0)) ∨ (i = .int .i64 2 ∧ n = 2 ∧ Hid (x0 = 0 ∧ x1 = 0)) ∨ (i = .int .i64 3 ∧ n = 1 ∧ Hid (x0 = 0 ∧ x1 = 0 ∧ x2 = 0)) ∨ (i = .int .i64 4 ∧ n = 0 ∧ Hid (x0 = 0 ∧ x1 = 0 ∧ x2 = 0 ∧ x3 = 0))))
  case atStart => exact ⟨rfl, .inl ⟨rfl, rfl⟩⟩
  case round =>
    obtain ⟨rfl, ⟨rfl, rfl⟩ | ⟨rfl, rfl, hh⟩ | ⟨rfl, rfl, hh⟩ | ⟨rfl, rfl, hh⟩ | ⟨rfl, rfl, hh⟩⟩ := hrel
    · by_cases hz : x0 = 0
      · have q : (x0 != 0) = false := by simp [hz]
        have HZ : Hid (x0 = 0) := hz
        clear hz
        go_wp2
        go_roundg 3
        case measure => omega
        case rel => exact ⟨rfl, .inr (.inl ⟨rfl, rfl, HZ⟩)⟩
      · have q : (x0 != 0) = true := by simp [hz]
        have HO : Hid (or4 x0 x1 x2 x3 = x0) := by
          show or4 x0 x1 x2 x3 = x0
          unfold or4
          rw [if_pos hz]
        clear hz
        go_wp2
        go_ret
        exact ⟨ret_int HO.out.symm, rfl⟩
    · by_cases hz : x1 = 0
      · have q : (x1 != 0) = false := by simp [hz]
        have HZ : Hid (x0 = 0 ∧ x1 = 0) := ⟨hh.out, hz⟩
        clear hz
        go_wp2
        go_roundg 2
        case measure => omega
        case rel => exact ⟨rfl, .inr (.inr (.inl ⟨rfl, rfl, HZ⟩))⟩
      · have q : (x1 != 0) = true := by simp [hz]
        have HO : Hid (or4 x0 x1 x2 x3 = x1) := by
          show or4 x0 x1 x2 x3 = x1
          unfold or4
          rw [if_neg (by simp [hh.out]), if_pos hz]
        clear hz
        go_wp2
        go_ret
        exact ⟨ret_int HO.out.symm, rfl⟩
    · by_cases hz : x2 = 0
      · have q : (x2 != 0) = false := by simp [hz]
        have HZ : Hid (x0 = 0 ∧ x1 = 0 ∧ x2 = 0) := ⟨hh.out.1, hh.out.2, hz⟩
        clear hz
        go_wp2
        go_roundg 1
        case measure => omega
        case rel => exact ⟨rfl, .inr (.inr (.inr (.inl ⟨rfl, rfl, HZ⟩)))⟩
      · have q : (x2 != 0) = true := by simp [hz]
        have HO : Hid (or4 x0 x1 x2 x3 = x2) := by
          show or4 x0 x1 x2 x3 = x2
          unfold or4
          rw [if_neg (by simp [hh.out.1]), if_neg (by simp [hh.out.2]), if_pos hz]
        clear hz
        go_wp2
        go_ret
        exact ⟨ret_int HO.out.symm, rfl⟩
    · by_cases hz : x3 = 0
      · have q : (x3 != 0) = false := by simp [hz]
        have HZ : Hid (x0 = 0 ∧ x1 = 0 ∧ x2 = 0 ∧ x3 = 0) := ⟨hh.out.1, hh.out.2.1, hh.out.2.2, hz⟩
        clear hz
        go_wp2
        go_roundg 0
        case measure => omega
        case rel => exact ⟨rfl, .inr (.inr (.inr (.inr ⟨rfl, rfl, HZ⟩)))⟩
      · have q : (x3 != 0) = true := by simp [hz]
        have HO : Hid (or4 x0 x1 x2 x3 = x3) := by
          show or4 x0 x1 x2 x3 = x3
          unfold or4
          rw [if_neg (by simp [hh.out.1]), if_neg (by simp [hh.out.2.1]), if_neg (by simp [hh.out.2.2])]
        clear hz
        go_wp2
        go_ret
        exact ⟨ret_int HO.out.symm, rfl⟩
    · have HO : Hid (or4 x0 x1 x2 x3 = 0) := by
        show or4 x0 x1 x2 x3 = 0
        obtain ⟨z0, z1, z2, z3⟩ := hh.out
        unfold or4
        rw [if_neg (by simp [z0]), if_neg (by simp [z1]), if_neg (by simp [z2]), z3]
      go_wp2
      go_ret
      exact ⟨ret_int HO.out.symm, rfl⟩

end Go.Proofs.Ytbhmncenbpdcjaa
end
section
/- What stands ahead of what: the program's Before and the document's compute the same. -/
namespace Go.Proofs.Ytbhmncenbpdcjaa
open Go.RowKit

def order4 (i u : Int) (s : ByteArray) (c i' u' : Int) (s' : ByteArray) (c' : Int) : Int := or4 (cmpI i i') (cmpI u u') (cmpS s s') (cmpI c c')
def IntEnd (n : Int) (w : World) (e : Ending) (w' : World) : Prop := e = .returned (.int .i64 n) ∧ Below w.heap.size w w'

/-- Two keys in boxes. -/
def twoKeys (w : World) (i u : Int) (s : ByteArray) (c i' u' : Int) (s' : ByteArray) (c' : Int) : World :=
  (w.alloc (.cells #[.int .i64 i, .int .u8 u, .string s, .int .i64 c] 30)).alloc (.cells #[.int .i64 i', .int .u8 u', .string s', .int .i64 c'] 30)
theorem twoKeys_below (w : World) (i u : Int) (s : ByteArray) (c i' u' : Int) (s' : ByteArray) (c' : Int) : Below w.heap.size w (twoKeys w i u s c i' u' s' c') :=
  ((Below.refl _ _).alloc (Nat.le_refl _) _).alloc (by simp) _
theorem twoKeys_size (w : World) (i u : Int) (s : ByteArray) (c i' u' : Int) (s' : ByteArray) (c' : Int) : (twoKeys w i u s c i' u' s' c').heap.size = w.heap.size + 2 := by unfold twoKeys; simp
theorem twoKeys_cells (w : World) (i u : Int) (s : ByteArray) (c i' u' : Int) (s' : ByteArray) (c' : Int) :
    ((twoKeys w i u s c i' u' s' c').cell? ⟨w.heap.size, 0, none⟩ = some (.int .i64 i) ∧ (twoKeys w i u s c i' u' s' c').cell? ⟨w.heap.size, 1, none⟩ = some (.int .u8 u) ∧ (twoKeys w i u s c i' u' s' c').cell? ⟨w.heap.size, 2, none⟩ = some (.string s) ∧ (twoKeys w i u s c i' u' s' c').cell? ⟨w.heap.size, 3, none⟩ = some (.int .i64 c)) ∧
    ((twoKeys w i u s c i' u' s' c').cell? ⟨w.heap.size + 1, 0, none⟩ = some (.int .i64 i') ∧ (twoKeys w i u s c i' u' s' c').cell? ⟨w.heap.size + 1, 1, none⟩ = some (.int .u8 u') ∧ (twoKeys w i u s c i' u' s' c').cell? ⟨w.heap.size + 1, 2, none⟩ = some (.string s') ∧ (twoKeys w i u s c i' u' s' c').cell? ⟨w.heap.size + 1, 3, none⟩ = some (.int .i64 c')) := by
  unfold twoKeys
  refine ⟨⟨by go_simp, by go_simp, by go_simp, by go_simp⟩, ⟨by go_simp, by go_simp, by go_simp, by go_simp⟩⟩

set_option maxHeartbeats 1000000 in
theorem order_any (i u : Int) (s : ByteArray) (c i' u' : Int) (s' : ByteArray) (c' : Int) (w : World) :
    Calls Try.prog 45 #[.agg #[.int .i64 i, .int .u8 u, .string s, .int .i64 c], .agg #[.int .i64 i', .int .u8 u', .string s', .int .i64 c']] w (IntEnd (order4 i u s c i' u' s' c') w) := by
  unfold order4
  generalize hz1 : cmpI i i' = z1
  generalize hz2 : cmpI u u' = z2
  generalize hz3 : cmpS s s' = z3
  generalize hz4 : cmpI c c' = z4
  have C1 : ∀ w, Calls Try.prog 60 #[.int .i64 i, .int .i64 i'] w fun e w' => e = .returned (.int .i64 z1) ∧ w = w' := fun w => hz1 ▸ compareI_any i i' w
  have C2 : ∀ w, Calls Try.prog 61 #[.int .u8 u, .int .u8 u'] w fun e w' => e = .returned (.int .i64 z2) ∧ w = w' := fun w => hz2 ▸ compareU_any u u' w
  have C3 : ∀ w, Calls Try.prog 62 #[.string s, .string s'] w fun e w' => e = .returned (.int .i64 z3) ∧ w = w' := fun w => hz3 ▸ compareS_any s s' w
  have C4 : ∀ w, Calls Try.prog 60 #[.int .i64 c, .int .i64 c'] w fun e w' => e = .returned (.int .i64 z4) ∧ w = w' := fun w => hz4 ▸ compareI_any c c' w
  clear hz1 hz2 hz3 hz4
  have HC := Lib.hid (And.intro C1 (And.intro C2 (And.intro C3 C4)))
  clear C1 C2 C3 C4
  go_enter Try.func45, Try.ntmps45
  go_wp2
  change Code.wp _ _ _ _ (twoKeys w i u s c i' u' s' c')
  obtain ⟨⟨a0, a1, a2, a3⟩, ⟨b0, b1, b2, b3⟩⟩ := twoKeys_cells w i u s c i' u' s' c'
  have hbw := twoKeys_below w i u s c i' u' s' c'
  have hsz := Nat.le_of_eq (twoKeys_size w i u s c i' u' s' c').symm
  generalize twoKeys w i u s c i' u' s' c' = W0 at *
  have H0 := And.intro a0 (And.intro a1 (And.intro a2 (And.intro a3 (And.intro b0 (And.intro b1 (And.intro b2 b3))))))
  have keepA : ∀ (W1 : World), Below W0.heap.size W0 W1 → W1.cell? ⟨w.heap.size, 0, none⟩ = some (.int .i64 i) ∧ W1.cell? ⟨w.heap.size, 1, none⟩ = some (.int .u8 u) ∧ W1.cell? ⟨w.heap.size, 2, none⟩ = some (.string s) ∧ W1.cell? ⟨w.heap.size, 3, none⟩ = some (.int .i64 c) ∧ W1.cell? ⟨w.heap.size + 1, 0, none⟩ = some (.int .i64 i') ∧ W1.cell? ⟨w.heap.size + 1, 1, none⟩ = some (.int .u8 u') ∧ W1.cell? ⟨w.heap.size + 1, 2, none⟩ = some (.string s') ∧ W1.cell? ⟨w.heap.size + 1, 3, none⟩ = some (.int .i64 c') := fun W1 hb =>
    ⟨cell_below hb a0, cell_below hb a1, cell_below hb a2, cell_below hb a3, cell_below hb b0, cell_below hb b1, cell_below hb b2, cell_below hb b3⟩
  have HK := Lib.hid keepA
  clear keepA H0 a0 a1 a2 a3 b0 b1 b2 b3
  go_region_held3 (fun W1 => W1.cell? ⟨w.heap.size, 0, none⟩ = some (.int .i64 i) ∧ W1.cell? ⟨w.heap.size, 1, none⟩ = some (.int .u8 u) ∧ W1.cell? ⟨w.heap.size, 2, none⟩ = some (.string s) ∧ W1.cell? ⟨w.heap.size, 3, none⟩ = some (.int .i64 c) ∧ W1.cell? ⟨w.heap.size + 1, 0, none⟩ = some (.int .i64 i') ∧ W1.cell? ⟨w.heap.size + 1, 1, none⟩ = some (.int .u8 u') ∧ W1.cell? ⟨w.heap.size + 1, 2, none⟩ = some (.string s') ∧ W1.cell? ⟨w.heap.size + 1, 3, none⟩ = some (.int .i64 c'))
    (first | exact HK.out _ (Below.refl _ _).drew | exact HK.out _ ((Below.refl _ _).drew.alloc (Nat.le_refl _) _))
    (first | (go_at_call 61; refine (HC.out.2.1 _).mono ?_; rintro e w' ⟨rfl, rfl⟩) | (go_at_call 62; refine (HC.out.2.2.1 _).mono ?_; rintro e w' ⟨rfl, rfl⟩) | (go_at_call 60; (with_reducible refine (HC.out.1 _).mono ?_); rintro e w' ⟨rfl, rfl⟩) | (go_at_call 60; (with_reducible refine (HC.out.2.2.2 _).mono ?_); rintro e w' ⟨rfl, rfl⟩) | (go_at_call 59; refine (or_any _ z1 z2 z3 z4 _ (by go_simp) (by go_simp) (by go_simp) (by go_simp)).mono ?_; rintro e w' ⟨rfl, rfl⟩))
  go_wp2
  go_ret
  exact ⟨rfl, hbw.trans (((Below.refl W0.heap.size W0).drew.alloc (Nat.le_refl _) _).mono (by omega))⟩

/-- Does a key stand ahead of another? -/
def before (i u : Int) (s : ByteArray) (c i' u' : Int) (s' : ByteArray) (c' : Int) : Bool := decide (order4 i u s c i' u' s' c' < 0)

set_option maxHeartbeats 400000 in
theorem before_any (i u : Int) (s : ByteArray) (c i' u' : Int) (s' : ByteArray) (c' : Int) (w : World) :
    Calls Try.prog 25 #[.agg #[.int .i64 i, .int .u8 u, .string s, .int .i64 c], .agg #[.int .i64 i', .int .u8 u', .string s', .int .i64 c']] w (BoolEnd (before i u s c i' u' s' c') w) := by
  unfold before
  have C := order_any i u s c i' u' s' c'
  generalize order4 i u s c i' u' s' c' = n at *
  have HC := Lib.hid C
  clear C
  go_enter Try.func25, Try.ntmps25
  go_wp2_with fail
  refine (HC.out _).mono ?_
  rintro e w1 ⟨rfl, hw1⟩
  have hb1 := below_of (twoKeys_below w i u s c i' u' s' c') hw1
  clear hw1
  go_wp2
  go_ret
  exact ⟨rfl, hb1⟩

/-! ### The document's order of texts -/
def refOrder : List UInt8 → List UInt8 → Int
  | [], b => - (b.length : Int)
  | a, [] => a.length
  | x :: a, y :: b => if x = y then refOrder a b else (x.toNat : Int) - (y.toNat : Int)
theorem refOrder_nil (a : List UInt8) : refOrder a [] = a.length := by cases a <;> simp [refOrder]
theorem refOrder_at {a b : List UInt8} (k : Nat) (h : agree a b k) (ha : k < a.length) (hb : k < b.length) (hne : a[k] ≠ b[k]) : refOrder a b = (a[k].toNat : Int) - (b[k].toNat : Int) := by
  induction k generalizing a b with
  | zero =>
    cases a with
    | nil => simp at ha
    | cons x a =>
      cases b with
      | nil => simp at hb
      | cons y b =>
        have hxy : x ≠ y := by simpa using hne
        simp [refOrder, hxy]
  | succ k ih =>
    cases a with
    | nil => simp at ha
    | cons x a =>
      cases b with
      | nil => simp at hb
      | cons y b =>
        have h0 : x = y := by have := h 0 (by omega); simpa using this
        simp only [refOrder, if_pos h0]
        exact ih (fun j hj => by have := h (j + 1) (by omega); simpa using this) (by simpa using ha) (by simpa using hb) (by simpa using hne)
theorem refOrder_end {a b : List UInt8} (k : Nat) (h : agree a b k) (hk : k = a.length ∧ k ≤ b.length ∨ k = b.length ∧ k ≤ a.length) : refOrder a b = (a.length : Int) - (b.length : Int) := by
  induction k generalizing a b with
  | zero =>
    rcases hk with ⟨h1, _⟩ | ⟨h1, _⟩
    · obtain rfl : a = [] := List.eq_nil_of_length_eq_zero h1.symm
      simp [refOrder]
    · obtain rfl : b = [] := List.eq_nil_of_length_eq_zero h1.symm
      simp [refOrder_nil]
  | succ k ih =>
    cases a with
    | nil => simp at hk
    | cons x a =>
      cases b with
      | nil => simp at hk
      | cons y b =>
        have h0 : x = y := by have := h 0 (by omega); simpa using this
        simp only [refOrder, if_pos h0]
        rw [ih (fun j hj => by have := h (j + 1) (by omega); simpa using this) (by simp at hk; omega)]
        simp
        omega

set_option maxHeartbeats 1000000 in
theorem refOrder_any (a b : ByteArray) (ha : a.size ≤ maxLen) (hb : b.size ≤ maxLen) (w : World) :
    Calls Try.prog 65 #[.string a, .string b] w (IntEnd (refOrder a.data.toList b.data.toList) w) := by
  unfold maxLen at ha hb
  go_enter Try.func65, Try.ntmps65
  go_wp2
  go_loopg [5] a.size (fun n i wr => ∃ k : Nat, k ≤ a.size ∧ k ≤ b.size ∧ n = a.size - k ∧ i = .int .i64 k ∧ Hid (agree a.data.toList b.data.toList k) ∧ Below w.heap.size w wr)
  case atStart => exact ⟨0, Nat.zero_le _, Nat.zero_le _, by omega, rfl, fun j h => absurd h (by omega), Below.refl _ _⟩
  case round =>
    obtain ⟨k, hk, hk2, rfl, rfl, hag, hbw⟩ := hrel
    by_cases hlt : k < a.size
    · by_cases hlb : k < b.size
      · have i0 : (0 : Int) ≤ (k : Int) := by omega
        have i1 : (k : Int) < (a.size : Int) := by omega
        have i2 : (k : Int) < (b.size : Int) := by omega
        by_cases he : a[k] = b[k]
        · have he' : a.data[k] = b.data[k] := he
          have q : ((a[k].toNat : Int) != (b[k].toNat : Int)) = false := by rw [he]; simp
          have HE : Hid (agree a.data.toList b.data.toList (k + 1)) := agree_succ hag.out (by simpa using hlt) (by simpa using hlb) (by simpa using he')
          clear he he'
          go_wp2
          go_quiet (fail)
          go_wp2
          go_roundg (a.size - (k + 1))
          case measure => omega
          case rel => exact ⟨k + 1, by omega, by omega, rfl, by go_num, HE, below_drewN hbw _⟩
        · have he' : ¬ a.data[k] = b.data[k] := he
          have q : ((a[k].toNat : Int) != (b[k].toNat : Int)) = true := by
            rw [bne_iff_ne]; intro h; exact he (UInt8.toNat_inj.1 (by omega))
          have HR : Hid (refOrder a.data.toList b.data.toList = (a[k].toNat : Int) - (b[k].toNat : Int)) := refOrder_at k hag.out (by simpa using hlt) (by simpa using hlb) (by simpa using he')
          have b1 : (a[k].toNat : Int) < 256 := by have := a[k].toNat_lt; omega
          have b2 : (b[k].toNat : Int) < 256 := by have := b[k].toNat_lt; omega
          have w1 : IntKind.i64.wrap ((a[k].toNat : Int) - (b[k].toNat : Int)) = (a[k].toNat : Int) - (b[k].toNat : Int) := IntWalk.i64_in _ (by omega)
          have w2 : IntKind.i64.wrap (a[k].toNat : Int) = (a[k].toNat : Int) := IntWalk.i64_in _ (by omega)
          have w3 : IntKind.i64.wrap (b[k].toNat : Int) = (b[k].toNat : Int) := IntWalk.i64_in _ (by omega)
          clear he he'
          go_wp2
          go_quiet (fail)
          go_wp2
          go_quiet (fail)
          go_wp2
          go_ret
          exact ⟨ret_int HR.out.symm, below_drewN (below_drewN hbw _) _⟩
      · obtain rfl : k = b.size := by omega
        have HR : Hid (refOrder a.data.toList b.data.toList = (a.data.toList.length : Int) - (b.data.toList.length : Int)) := refOrder_end _ hag.out (.inr ⟨by simp, by simpa using hk⟩)
        have d1 : decide ((b.size : Int) < (b.size : Int)) = false := by simp
        go_wp2
        go_ret
        exact ⟨ret_int (by rw [HR.out]; simp), hbw⟩
    · obtain rfl : k = a.size := by omega
      have HR : Hid (refOrder a.data.toList b.data.toList = (a.data.toList.length : Int) - (b.data.toList.length : Int)) := refOrder_end _ hag.out (.inl ⟨by simp, by simpa using hk2⟩)
      go_wp2
      go_ret
      exact ⟨ret_int (by rw [HR.out]; simp), hbw⟩

theorem refOrder_zero : ∀ (a b : List UInt8), refOrder a b = 0 ↔ a = b
  | [], [] => by simp [refOrder]
  | [], y :: b => by simp [refOrder]; omega
  | x :: a, [] => by simp [refOrder]; omega
  | x :: a, y :: b => by
    by_cases h : x = y
    · subst h; simp [refOrder, refOrder_zero a b]
    · have : x.toNat ≠ y.toNat := fun e => h (UInt8.toNat_inj.1 e)
      simp [refOrder, h]; omega
theorem refOrder_neg : ∀ (a b : List UInt8), refOrder a b < 0 ↔ Op.bytesLess a b = true
  | [], [] => by simp [refOrder, Op.bytesLess]
  | [], y :: b => by simp [refOrder, Op.bytesLess]
  | x :: a, [] => by simp [refOrder, Op.bytesLess]; omega
  | x :: a, y :: b => by
    by_cases h : x = y
    · subst h; simp [refOrder, Op.bytesLess, refOrder_neg a b]
    · have h1 : (x == y) = false := beq_eq_false_iff_ne.2 h
      simp only [refOrder, if_neg h, Op.bytesLess, h1, Bool.false_and, Bool.or_false, decide_eq_true_eq]
      rw [UInt8.lt_iff_toNat_lt]; omega

/-- As the document has it. -/
def refBefore (i u : Int) (s : ByteArray) (c i' u' : Int) (s' : ByteArray) (c' : Int) : Bool :=
  if i = i' then (if u = u' then (if refOrder s.data.toList s'.data.toList = 0 then decide (c < c') else decide (refOrder s.data.toList s'.data.toList < 0)) else decide (u < u')) else decide (i < i')
theorem cmpI_zero (a b : Int) : cmpI a b = 0 ↔ a = b := by unfold cmpI; split <;> (try split) <;> omega
theorem cmpI_neg (a b : Int) : cmpI a b < 0 ↔ a < b := by unfold cmpI; split <;> (try split) <;> omega
theorem cmpS_zero (a b : ByteArray) : cmpS a b = 0 ↔ refOrder a.data.toList b.data.toList = 0 := by
  have h1 := refOrder_neg a.data.toList b.data.toList
  have h2 := refOrder_zero a.data.toList b.data.toList
  unfold cmpS
  rw [Lib.toList_data, Lib.toList_data]
  by_cases hl : Op.bytesLess a.data.toList b.data.toList = true
  · rw [if_pos hl]; have := h1.2 hl; omega
  · rw [if_neg hl]
    by_cases he : a.data.toList = b.data.toList
    · rw [if_pos (beq_iff_eq.2 he)]; simp [h2.2 he]
    · rw [if_neg (fun h => he (beq_iff_eq.1 h))]; simp; intro h; exact he (h2.1 h)
theorem cmpS_neg (a b : ByteArray) : cmpS a b < 0 ↔ refOrder a.data.toList b.data.toList < 0 := by
  have h1 := refOrder_neg a.data.toList b.data.toList
  unfold cmpS
  rw [Lib.toList_data, Lib.toList_data]
  by_cases hl : Op.bytesLess a.data.toList b.data.toList = true
  · rw [if_pos hl]; have := h1.2 hl; omega
  · rw [if_neg hl]
    have : ¬ refOrder a.data.toList b.data.toList < 0 := fun h => hl (h1.1 h)
    split <;> omega
theorem before_eq (i u : Int) (s : ByteArray) (c i' u' : Int) (s' : ByteArray) (c' : Int) : before i u s c i' u' s' c' = refBefore i u s c i' u' s' c' := by
  unfold before order4 or4 refBefore
  have := cmpI_zero i i'; have := cmpI_zero u u'; have := cmpS_zero s s'
  have := cmpI_neg i i'; have := cmpI_neg u u'; have := cmpS_neg s s'; have := cmpI_neg c c'
  by_cases h1 : i = i'
  · rw [if_neg (by omega), if_pos h1]
    by_cases h2 : u = u'
    · rw [if_neg (by omega), if_pos h2]
      by_cases h3 : refOrder s.data.toList s'.data.toList = 0
      · rw [if_neg (by omega), if_pos h3]; exact decide_eq_decide.2 (by omega)
      · rw [if_pos (by omega), if_neg h3]; exact decide_eq_decide.2 (by omega)
    · rw [if_pos (by omega), if_neg h2]; exact decide_eq_decide.2 (by omega)
  · rw [if_pos (by omega), if_neg h1]; exact decide_eq_decide.2 (by omega)

set_option maxHeartbeats 1000000 in
theorem refBefore_any (i u : Int) (s : ByteArray) (c i' u' : Int) (s' : ByteArray) (c' : Int) (hs : s.size ≤ maxLen) (hs' : s'.size ≤ maxLen) (w : World) :
    Calls Try.prog 58 #[.agg #[.int .i64 i, .int .u8 u, .string s, .int .i64 c], .agg #[.int .i64 i', .int .u8 u', .string s', .int .i64 c']] w (BoolEnd (before i u s c i' u' s' c') w) := by
  rw [before_eq]
  unfold refBefore
  by_cases h1 : i = i'
  · subst h1
    by_cases h2 : u = u'
    · subst h2
      have C := fun w => refOrder_any s s' hs hs' w
      rw [if_pos rfl, if_pos rfl]
      generalize refOrder s.data.toList s'.data.toList = n at *
      have HC := Lib.hid C
      clear C
      by_cases h3 : n = 0
      · subst h3
        rw [if_pos rfl]
        go_enter Try.func58, Try.ntmps58
        go_wp2_with fail
        refine (HC.out _).mono ?_
        rintro e w1 ⟨rfl, hw1⟩
        change Below (twoKeys w i u s c i u s' c').heap.size (twoKeys w i u s c i u s' c') w1 at hw1
        have hb1 := below_of (twoKeys_below w i u s c i u s' c') hw1
        obtain ⟨⟨a0, a1, a2, a3⟩, ⟨b0, b1, b2, b3⟩⟩ := twoKeys_cells w i u s c i u s' c'
        have a3 := cell_below hw1 a3
        have b3 := cell_below hw1 b3
        clear hw1 a0 a1 a2 b0 b1 b2
        go_wp2
        go_ret
        exact ⟨rfl, hb1⟩
      · have q : (n != 0) = true := by simp [h3]
        rw [if_neg h3]
        clear h3
        go_enter Try.func58, Try.ntmps58
        go_wp2_with fail
        refine (HC.out _).mono ?_
        rintro e w1 ⟨rfl, hw1⟩
        have hb1 := below_of (twoKeys_below w i u s c i u s' c') hw1
        clear hw1
        go_wp2
        go_ret
        exact ⟨rfl, hb1⟩
    · have q : (u != u') = true := by simp [h2]
      rw [if_pos rfl, if_neg h2]
      clear h2
      go_enter Try.func58, Try.ntmps58
      go_wp2
      go_ret
      exact ⟨rfl, twoKeys_below w i u s c i u' s' c'⟩
  · have q : (i != i') = true := by simp [h1]
    rw [if_neg h1]
    clear h1
    go_enter Try.func58, Try.ntmps58
    go_wp2
    go_ret
    exact ⟨rfl, twoKeys_below w i u s c i' u' s' c'⟩
end Go.Proofs.Ytbhmncenbpdcjaa
end
section
/- The order of keys: just one of three; ahead of one that is ahead. Plain. -/
namespace Go.Proofs.Ytbhmncenbpdcjaa

theorem refOrder_swap : ∀ (a b : List UInt8), refOrder b a = - refOrder a b
  | [], [] => by simp [refOrder]
  | [], y :: b => by simp [refOrder]
  | x :: a, [] => by simp [refOrder]
  | x :: a, y :: b => by
    by_cases h : x = y
    · subst h; simp [refOrder, refOrder_swap a b]
    · have h' : ¬ y = x := fun e => h e.symm
      simp [refOrder, h, h']; omega
theorem refOrder_trans : ∀ (a b c : List UInt8), refOrder a b < 0 → refOrder b c < 0 → refOrder a c < 0
  | [], [], c => by simp [refOrder]
  | [], y :: b, [] => by simp [refOrder]; omega
  | [], y :: b, z :: c => by simp [refOrder]
  | x :: a, [], c => by simp [refOrder]; omega
  | x :: a, y :: b, [] => by simp [refOrder]; omega
  | x :: a, y :: b, z :: c => by
    by_cases h : x = y
    · subst h
      by_cases h2 : x = z
      · subst h2; simp only [refOrder, if_true]; exact refOrder_trans a b c
      · simp only [refOrder, if_neg h2, if_true]; intro _ h3; exact h3
    · have n1 : x.toNat ≠ y.toNat := fun e => h (UInt8.toNat_inj.1 e)
      by_cases h2 : y = z
      · subst h2; simp only [refOrder, if_neg h]; intro h3 _; exact h3
      · by_cases h3 : x = z
        · subst h3; simp only [refOrder, if_neg h, if_neg h2]; omega
        · simp only [refOrder, if_neg h, if_neg h2, if_neg h3]; omega

def keyEq (i u : Int) (s : ByteArray) (c i' u' : Int) (s' : ByteArray) (c' : Int) : Bool := decide (i = i' ∧ u = u' ∧ s.data.toList = s'.data.toList ∧ c = c')

/-- Just one of three. -/
def justOne (p q e : Bool) : Prop := (p = true ∧ q = false ∧ e = false) ∨ (p = false ∧ q = true ∧ e = false) ∨ (p = false ∧ q = false ∧ e = true)
theorem before_iff (i u : Int) (s : ByteArray) (c i' u' : Int) (s' : ByteArray) (c' : Int) : before i u s c i' u' s' c' = true ↔
    i < i' ∨ i = i' ∧ (u < u' ∨ u = u' ∧ (refOrder s.data.toList s'.data.toList < 0 ∨ refOrder s.data.toList s'.data.toList = 0 ∧ c < c')) := by
  rw [before_eq]; unfold refBefore
  by_cases h1 : i = i'
  · rw [if_pos h1]
    by_cases h2 : u = u'
    · rw [if_pos h2]
      by_cases h3 : refOrder s.data.toList s'.data.toList = 0
      · rw [if_pos h3, decide_eq_true_iff]; omega
      · rw [if_neg h3, decide_eq_true_iff]; omega
    · rw [if_neg h2, decide_eq_true_iff]; omega
  · rw [if_neg h1, decide_eq_true_iff]; omega
theorem keyEq_iff (i u : Int) (s : ByteArray) (c i' u' : Int) (s' : ByteArray) (c' : Int) : keyEq i u s c i' u' s' c' = true ↔
    i = i' ∧ u = u' ∧ refOrder s.data.toList s'.data.toList = 0 ∧ c = c' := by
  unfold keyEq; rw [decide_eq_true_iff, refOrder_zero]
theorem just_one (i u : Int) (s : ByteArray) (c i' u' : Int) (s' : ByteArray) (c' : Int) : justOne (before i u s c i' u' s' c') (before i' u' s' c' i u s c) (keyEq i u s c i' u' s' c') := by
  have h1 := before_iff i u s c i' u' s' c'
  have h2 := before_iff i' u' s' c' i u s c
  have h3 := keyEq_iff i u s c i' u' s' c'
  rw [refOrder_swap s.data.toList s'.data.toList] at h2
  unfold justOne
  generalize refOrder s.data.toList s'.data.toList = n at *
  generalize before i u s c i' u' s' c' = p at *
  generalize before i' u' s' c' i u s c = q at *
  generalize keyEq i u s c i' u' s' c' = e at *
  cases p <;> cases q <;> cases e <;> simp at h1 h2 h3 ⊢ <;> omega
theorem before_trans {i u : Int} {s : ByteArray} {c i' u' : Int} {s' : ByteArray} {c' i2 u2 : Int} {s2 : ByteArray} {c2 : Int}
    (h1 : before i u s c i' u' s' c' = true) (h2 : before i' u' s' c' i2 u2 s2 c2 = true) : before i u s c i2 u2 s2 c2 = true := by
  rw [before_iff] at *
  have t := refOrder_trans s.data.toList s'.data.toList s2.data.toList
  have z1 := refOrder_zero s.data.toList s'.data.toList
  have z2 := refOrder_zero s'.data.toList s2.data.toList
  by_cases e1 : s.data.toList = s'.data.toList
  · have := z1.2 e1
    have hx : refOrder s.data.toList s2.data.toList = refOrder s'.data.toList s2.data.toList := by rw [e1]
    omega
  · have n1 : refOrder s.data.toList s'.data.toList ≠ 0 := fun h => e1 (z1.1 h)
    by_cases e2 : s'.data.toList = s2.data.toList
    · have := z2.2 e2
      have hx : refOrder s.data.toList s2.data.toList = refOrder s.data.toList s'.data.toList := by rw [e2]
      omega
    · have n2 : refOrder s'.data.toList s2.data.toList ≠ 0 := fun h => e2 (z2.1 h)
      omega
end Go.Proofs.Ytbhmncenbpdcjaa
end
section
/- fact.place: where a key stands, or would stand, in facts in order. -/
namespace Go.Proofs.Ytbhmncenbpdcjaa.P
open Go.RowKit Go.Proofs.YtbhmncenbpdcjaaW.PrintWords Go.Proofs.YtbhmncenbpdcjaaW.PrintLast Go.Proofs.YtbhmncenbpdcjaaW.PrintMore
set_option linter.unusedVariables false
set_option linter.unusedSimpArgs false
def bef (a b : S30) : Bool := before a.f0 a.f1 a.f2 a.f3 b.f0 b.f1 b.f2 b.f3
def encK (k : S30) : Value := .agg #[.int .i64 k.f0, .int .u8 k.f1, .string k.f2, .int .i64 k.f3]
theorem bef_any (a b : S30) (w : World) : Calls Try.prog 25 #[encK a, encK b] w fun e w' => e = .returned (.bool (bef a b)) ∧ Below w.heap.size w w' :=
  before_any a.f0 a.f1 a.f2 a.f3 b.f0 b.f1 b.f2 b.f3 w
/-- A key in its box. -/
def KeyAt (w : World) (b : Nat) (k : S30) : Prop := w.cell? ⟨b, 0, none⟩ = some (.int .i64 k.f0) ∧ w.cell? ⟨b, 1, none⟩ = some (.int .u8 k.f1) ∧ w.cell? ⟨b, 2, none⟩ = some (.string k.f2) ∧ w.cell? ⟨b, 3, none⟩ = some (.int .i64 k.f3)
theorem KeyAt.below {w w1 : World} {b : Nat} {k : S30} (h : KeyAt w b k) (hb : Below w.heap.size w w1) : KeyAt w1 b k := ⟨cell_below hb h.1, cell_below hb h.2.1, cell_below hb h.2.2.1, cell_below hb h.2.2.2⟩

set_option maxHeartbeats 2000000 in
set_option maxRecDepth 100000 in
theorem place1_any (ba bk : Nat) (A : Option Addr) (c : Nat) (l : List S47) (k : S30) (i : Nat) (hi : i < l.length) (w : World) (ha : w.cell? ⟨ba, 0, none⟩ = some (.slice A l.length c)) (hk : KeyAt w bk k) (hr : Kd.C k47 w A l.length l) :
    Calls Try.prog 55 #[.int .i64 i, .pointer (some ⟨ba, 0, none⟩), .pointer (some ⟨bk, 0, none⟩)] w fun e w' => e = .returned (.bool (!bef (rd_T47 l i).f0 k)) ∧ Below w.heap.size w w' := by
  obtain ⟨ad, A4, c4, hA, h0, h1, h2, h3, _, _, _⟩ := at_T47 hr i (by omega) (by omega)
  subst hA
  simp only [Int.toNat_natCast] at h0 h1 h2 h3
  obtain ⟨k0, k1, k2, k3⟩ := hk
  have H := Lib.hid (fun W => bef_any (rd_T47 l i).f0 k W)
  generalize rd_T47 l i = y at *
  have c1 : (i : Int) < (l.length : Int) := by omega
  clear hr
  go_enter Try.func55, Try.ntmps55
  go_wp2
  have q0 := cell_regrown h0
  have q1 := cell_regrown h1
  have q2 := cell_regrown h2
  have q3 := cell_regrown h3
  have p0 := cell_regrown k0
  have p1 := cell_regrown k1
  have p2 := cell_regrown k2
  have p3 := cell_regrown k3
  have pa := cell_regrown ha
  refine wp_region_quiet_below (by kernel_rfl) (by kernel_rfl) ?_
  repeat (go_big_quiet_step ((go_at_call 25; exact Calls.regrown_of (H.out _))))
  refine wpQuiet_nil ?_
  intro w1n hqw1
  replace hqw1 : Below w.heap.size w w1n := by obtain ⟨⟨dq, osq⟩, rfl⟩ := hqw1; exact below_regrown w dq osq
  clear q0 q1 q2 q3 p0 p1 p2 p3 pa
  go_wp2
  go_ret
  exact ⟨rfl, hqw1⟩
/-- How many of the first elements stand ahead of a key. -/
def cntB (l : List S47) (k : S30) : Nat := (l.takeWhile (fun x => bef x.f0 k)).length
/-- Once an element does not stand ahead, none behind it does. -/
def MonoB (l : List S47) (k : S30) : Prop := ∀ i j, i ≤ j → j < l.length → bef (rd_T47 l (i : Nat)).f0 k = false → bef (rd_T47 l (j : Nat)).f0 k = false
theorem rd_nat (l : List S47) (i : Nat) (h : i < l.length) : rd_T47 l (i : Nat) = l[i] := by
  unfold rd_T47
  simp [List.getD, h]
theorem cntB_of (l : List S47) (k : S30) (i : Nat) (hi : i ≤ l.length) (h1 : ∀ t, t < i → bef (rd_T47 l (t : Nat)).f0 k = true) (h2 : ∀ t, i ≤ t → t < l.length → bef (rd_T47 l (t : Nat)).f0 k = false) : cntB l k = i := by
  induction l generalizing i with
  | nil => simp at hi; subst hi; rfl
  | cons x xs ih =>
    unfold cntB
    rw [List.takeWhile_cons]
    rcases i with _ | i
    · have := h2 0 (Nat.le_refl _) (by simp)
      rw [rd_nat _ _ (by simp)] at this
      simp at this
      simp [this]
    · have := h1 0 (by omega)
      rw [rd_nat _ _ (by simp)] at this
      simp at this
      rw [if_pos this]
      simp only [List.length_cons] at hi ⊢
      have := ih i (by omega) (fun t ht => by
          have h := h1 (t + 1) (by omega)
          rw [rd_nat _ _ (by simp; omega)] at h
          rw [rd_nat _ _ (by omega)]
          simpa using h)
        (fun t ht hl => by
          have h := h2 (t + 1) (by omega) (by simp; omega)
          rw [rd_nat _ _ (by simp; omega)] at h
          rw [rd_nat _ _ (by omega)]
          simpa using h)
      unfold cntB at this
      rw [this]
set_option maxHeartbeats 4000000 in
set_option maxRecDepth 100000 in
theorem search_place (ba bk : Nat) (A : Option Addr) (c : Nat) (l : List S47) (k : S30) (hm : MonoB l k) (hsz : l.length < 4611686018427387904) (w : World) (ha : w.cell? ⟨ba, 0, none⟩ = some (.slice A l.length c)) (hk : KeyAt w bk k) (hr : Kd.C k47 w A l.length l) :
    Calls Try.prog 54 #[.int .i64 l.length, .func (.func 55) #[] #[.pointer (some ⟨ba, 0, none⟩), .pointer (some ⟨bk, 0, none⟩)]] w fun e w' => e = .returned (.int .i64 (cntB l k)) ∧ Below w.heap.size w w' := by
  have HF : Aside0 (∀ W, Below w.heap.size w W → ∀ i, i < l.length → Calls Try.prog 55 #[.int .i64 (i : Nat), .pointer (some ⟨ba, 0, none⟩), .pointer (some ⟨bk, 0, none⟩)] W fun e w' => e = .returned (.bool (!bef (rd_T47 l i).f0 k)) ∧ Below w.heap.size w w') := ⟨fun W hW i hi => (place1_any ba bk A c l k i hi W (cell_below hW ha) (hk.below hW) (Kd.C_below hr hW)).mono fun e w' ⟨h1, h2⟩ => ⟨h1, hW.trans (h2.mono hW.size)⟩⟩
  have M := Aside0.mk hm
  have HB := Aside0.mk (Below.refl w.heap.size w)
  clear ha hk hr hm
  obtain ⟨n, hn⟩ : ∃ n, n = l.length := ⟨_, rfl⟩
  have HN := Aside0.mk hn
  rw [← hn] at hsz ⊢
  clear hn
  generalize hcnt : cntB l k = cnt
  have CN := Aside0.mk hcnt
  clear hcnt
  go_enter Try.func54, Try.ntmps54
  go_wp2
  go_loopg [5, 6] n (fun kx s5 s6 wr => ∃ (lo hi : Nat), s5 = .int .i64 lo ∧ s6 = .int .i64 hi ∧ lo ≤ hi ∧ hi ≤ n ∧ hi - lo ≤ kx ∧ Aside0 (Below w.heap.size w wr) ∧
    Aside0 ((∀ t, t < lo → bef (rd_T47 l (t : Nat)).f0 k = true) ∧ (∀ t, hi ≤ t → t < l.length → bef (rd_T47 l (t : Nat)).f0 k = false)))
  case atStart => exact ⟨0, n, rfl, rfl, Nat.zero_le _, Nat.le_refl _, by omega, HB, ⟨fun t ht => absurd ht (Nat.not_lt_zero _), fun t h1 h2 => by have := HN.out; omega⟩⟩
  case round =>
    obtain ⟨lo, hi, rfl, rfl, hlh, hin, hg, HW, I⟩ := hrel
    by_cases hlt : lo < hi
    · have hc := HF.out _ HW.out ((lo + hi) / 2) (by have := HN.out; omega)
      rw [show (((lo + hi) / 2 : Nat) : Int) = ((lo : Int) + (hi : Int)) / 2 by omega] at hc
      cases hp : bef (rd_T47 l (((lo + hi) / 2 : Nat) : Int)).f0 k <;> rw [show (((lo + hi) / 2 : Nat) : Int) = ((lo : Int) + (hi : Int)) / 2 by omega] at hp <;> rw [hp] at hc
      · have HP := Aside0.mk hp
        clear hp
        go_wp2_with fail
        refine hc.mono ?_
        rintro e w' ⟨rfl, hb1⟩
        have HW1 := Aside0.mk hb1
        clear hb1
        go_wp2
        go_roundg ((lo + hi) / 2 - lo)
        case measure => omega
        case rel =>
          exact ⟨lo, (lo + hi) / 2, rfl, by rw [show ((lo : Int) + (hi : Int)) / 2 = (((lo + hi) / 2 : Nat) : Int) by omega], by omega, by omega, Nat.le_refl _, HW1, ⟨I.out.1, fun t ht htn => M.out ((lo + hi) / 2) t ht htn (by rw [show (((lo + hi) / 2 : Nat) : Int) = ((lo : Int) + (hi : Int)) / 2 by omega]; exact HP.out)⟩⟩
      · have HP := Aside0.mk hp
        clear hp
        go_wp2_with fail
        refine hc.mono ?_
        rintro e w' ⟨rfl, hb1⟩
        have HW1 := Aside0.mk hb1
        clear hb1
        go_wp2
        go_roundg (hi - ((lo + hi) / 2 + 1))
        case measure => omega
        case rel =>
          exact ⟨(lo + hi) / 2 + 1, hi, by rw [show ((lo : Int) + (hi : Int)) / 2 + 1 = (((lo + hi) / 2 + 1 : Nat) : Int) by omega], rfl, by omega, hin, Nat.le_refl _, HW1, ⟨fun t ht => (by
            cases h : bef (rd_T47 l (t : Nat)).f0 k with
            | true => rfl
            | false =>
              have := M.out t ((lo + hi) / 2) (by omega) (by have := HN.out; omega) h
              rw [show (((lo + hi) / 2 : Nat) : Int) = ((lo : Int) + (hi : Int)) / 2 by omega, HP.out] at this; cases this), I.out.2⟩⟩
    · obtain rfl : hi = lo := by omega
      have ecnt : cnt = hi := by
        rw [← CN.out]
        exact cntB_of l k hi (by have := HN.out; omega) I.out.1 I.out.2
      subst ecnt
      go_wp2
      go_ret
      exact ⟨rfl, HW.out⟩
/-- Two keys: one? -/
def keyQ (a b : S30) : Bool := a.f0 == b.f0 && (a.f1 == b.f1 && (a.f2.toList == b.f2.toList && (a.f3 == b.f3)))
theorem keyQ_iff (a b : S30) : keyQ a b = true ↔ a = b := by
  obtain ⟨a0, a1, a2, a3⟩ := a
  obtain ⟨b0, b1, b2, b3⟩ := b
  unfold keyQ
  simp only [Bool.and_eq_true, beq_iff_eq, S30.mk.injEq]
  constructor
  · rintro ⟨h0, h1, h2, h3⟩
    refine ⟨h0, h1, ?_, h3⟩
    rw [Lib.toList_data, Lib.toList_data] at h2
    have e1 := Lib.mk_data a2
    have e2 := Lib.mk_data b2
    rw [h2] at e1
    exact e1.symm.trans e2
  · rintro ⟨h0, h1, h2, h3⟩
    exact ⟨h0, h1, by rw [h2], h3⟩
def isB (l : List S47) (k : S30) : Bool := if cntB l k < l.length then keyQ (rd_T47 l (cntB l k : Nat)).f0 k else false
theorem cntB_le (l : List S47) (k : S30) : cntB l k ≤ l.length := by unfold cntB; exact (List.takeWhile_sublist _).length_le
attribute [local go_sem high] eqA30
set_option maxHeartbeats 4000000 in
set_option maxRecDepth 100000 in
theorem place_any (A : Option Addr) (c : Nat) (l : List S47) (k : S30) (hm : MonoB l k) (hsz : l.length < 4611686018427387904) (w : World) (hr : Kd.C k47 w A l.length l) :
    Calls Try.prog 36 #[.slice A l.length c, encK k] w fun e w' => e = .returned (.tuple #[.int .i64 (cntB l k), .bool (isB l k)]) ∧ Below w.heap.size w w' := by
  have hcl := cntB_le l k
  obtain ⟨n, hn⟩ : ∃ n, n = cntB l k := ⟨_, rfl⟩
  have hi : isB l k = if n < l.length then keyQ (rd_T47 l (n : Nat)).f0 k else false := by unfold isB; rw [hn]
  obtain ⟨q, hq⟩ : ∃ q, q = isB l k := ⟨_, rfl⟩
  rw [← hq] at hi ⊢
  rw [← hn] at hcl ⊢
  unfold encK
  have HS := Aside0.mk (fun W ha hk hr => hn ▸ search_place w.heap.size (w.heap.size + 1) A c l k hm hsz W ha hk hr)
  have HR := Aside0.mk hr
  clear hr hn hq hm
  by_cases hlt : n < l.length
  · rw [if_pos hlt] at hi
    obtain ⟨ad, A4, c4, hA, h0, h1, h2, h3, _⟩ := at_T47 HR.out (n : Nat) (by omega) (by omega)
    subst hA
    simp only [Int.toNat_natCast] at h0 h1 h2 h3
    have HI := Aside0.mk hi
    clear hi
    generalize rd_T47 l (n : Nat) = y at *
    have c1 : (0 : Int) ≤ (n : Int) := by omega
    have c2 : (n : Int) < (l.length : Int) := by omega
    have hd : decide ((n : Int) < (l.length : Int)) = true := decide_eq_true (by omega)
    have HH := Aside0.mk (And.intro h0 (And.intro h1 (And.intro h2 h3)))
    clear h0 h1 h2 h3
    go_enter Try.func36, Try.ntmps36
    go_wp2_with fail
    have hb0 : Below w.heap.size w ((w.alloc (Obj.cells #[Value.slice (some ad) l.length c] 38)).alloc (Obj.cells #[Value.int IntKind.i64 k.f0, Value.int IntKind.u8 k.f1, Value.string k.f2, Value.int IntKind.i64 k.f3] 30)) := ((Below.refl _ _).alloc (Nat.le_refl _) _).alloc (by simp) _
    have ha : ((w.alloc (Obj.cells #[Value.slice (some ad) l.length c] 38)).alloc (Obj.cells #[Value.int IntKind.i64 k.f0, Value.int IntKind.u8 k.f1, Value.string k.f2, Value.int IntKind.i64 k.f3] 30)).cell? ⟨w.heap.size, 0, none⟩ = some (.slice (some ad) l.length c) := by go_simp
    have hk : KeyAt ((w.alloc (Obj.cells #[Value.slice (some ad) l.length c] 38)).alloc (Obj.cells #[Value.int IntKind.i64 k.f0, Value.int IntKind.u8 k.f1, Value.string k.f2, Value.int IntKind.i64 k.f3] 30)) (w.heap.size + 1) k := ⟨by go_simp, by go_simp, by go_simp, by go_simp⟩
    have hz : w.heap.size + 2 ≤ ((w.alloc (Obj.cells #[Value.slice (some ad) l.length c] 38)).alloc (Obj.cells #[Value.int IntKind.i64 k.f0, Value.int IntKind.u8 k.f1, Value.string k.f2, Value.int IntKind.i64 k.f3] 30)).heap.size := by simp
    generalize (w.alloc (Obj.cells #[Value.slice (some ad) l.length c] 38)).alloc (Obj.cells #[Value.int IntKind.i64 k.f0, Value.int IntKind.u8 k.f1, Value.string k.f2, Value.int IntKind.i64 k.f3] 30) = W0 at *
    refine (HS.out W0 ha hk (Kd.C_below HR.out hb0)).mono ?_
    rintro e W1 ⟨rfl, hb1⟩
    have hb := hb0.trans (hb1.mono hb0.size)
    have ea := cell_below hb1 ha
    obtain ⟨k0, k1, k2, k3⟩ := hk.below hb1
    obtain ⟨h0, h1, h2, h3⟩ := HH.out
    have y0 := cell_below hb h0
    have y1 := cell_below hb h1
    have y2 := cell_below hb h2
    have y3 := cell_below hb h3
    have HB := Aside0.mk hb
    clear hb hb0 hb1 ha hk h0 h1 h2 h3 hz
    go_wp2
    repeat (go_quiet (fail); try go_wp2)
    go_ret2
    exact ⟨by rw [HI.out]; rfl, pw_below_drewN HB.out _⟩
  · rw [if_neg hlt] at hi
    subst hi
    obtain rfl : n = l.length := by omega
    have hd : decide ((l.length : Int) < (l.length : Int)) = false := decide_eq_false (by omega)
    go_enter Try.func36, Try.ntmps36
    go_wp2_with fail
    have hb0 : Below w.heap.size w ((w.alloc (Obj.cells #[Value.slice A l.length c] 38)).alloc (Obj.cells #[Value.int IntKind.i64 k.f0, Value.int IntKind.u8 k.f1, Value.string k.f2, Value.int IntKind.i64 k.f3] 30)) := ((Below.refl _ _).alloc (Nat.le_refl _) _).alloc (by simp) _
    have ha : ((w.alloc (Obj.cells #[Value.slice A l.length c] 38)).alloc (Obj.cells #[Value.int IntKind.i64 k.f0, Value.int IntKind.u8 k.f1, Value.string k.f2, Value.int IntKind.i64 k.f3] 30)).cell? ⟨w.heap.size, 0, none⟩ = some (.slice A l.length c) := by go_simp
    have hk : KeyAt ((w.alloc (Obj.cells #[Value.slice A l.length c] 38)).alloc (Obj.cells #[Value.int IntKind.i64 k.f0, Value.int IntKind.u8 k.f1, Value.string k.f2, Value.int IntKind.i64 k.f3] 30)) (w.heap.size + 1) k := ⟨by go_simp, by go_simp, by go_simp, by go_simp⟩
    have hz : w.heap.size + 2 ≤ ((w.alloc (Obj.cells #[Value.slice A l.length c] 38)).alloc (Obj.cells #[Value.int IntKind.i64 k.f0, Value.int IntKind.u8 k.f1, Value.string k.f2, Value.int IntKind.i64 k.f3] 30)).heap.size := by simp
    generalize ((w.alloc (Obj.cells #[Value.slice A l.length c] 38)).alloc (Obj.cells #[Value.int IntKind.i64 k.f0, Value.int IntKind.u8 k.f1, Value.string k.f2, Value.int IntKind.i64 k.f3] 30)) = W0 at *
    refine (HS.out W0 ha hk (Kd.C_below HR.out hb0)).mono ?_
    rintro e W1 ⟨rfl, hb1⟩
    have ea := cell_below hb1 ha
    have HB := Aside0.mk (hb0.trans (hb1.mono hb0.size))
    clear hb0 hb1 ha hk hz
    go_wp2
    repeat (go_quiet (fail); try go_wp2)
    go_ret2
    exact ⟨rfl, pw_below_drewN HB.out _⟩
end Go.Proofs.Ytbhmncenbpdcjaa.P
end
section
/- What stands ahead of what: given to the print. -/
namespace Go.Proofs.Ytbhmncenbpdcjaa.P
open Go.RowKit
def fact_Before.f (a0_0 : Int) (a0_1 : Int) (a0_2 : ByteArray) (a0_3 : Int) (a1_0 : Int) (a1_1 : Int) (a1_2 : ByteArray) (a1_3 : Int) : Option Bool := some (before a0_0 a0_1 a0_2 a0_3 a1_0 a1_1 a1_2 a1_3)
theorem fact_Before.calls (a0_0 : Int) (a0_1 : Int) (a0_2 : ByteArray) (a0_3 : Int) (a1_0 : Int) (a1_1 : Int) (a1_2 : ByteArray) (a1_3 : Int) (r : Bool) (w : World) (h : fact_Before.f a0_0 a0_1 a0_2 a0_3 a1_0 a1_1 a1_2 a1_3 = some r) :
    Calls Try.prog 25 #[.agg #[.int .i64 a0_0, .int .u8 a0_1, .string a0_2, .int .i64 a0_3], .agg #[.int .i64 a1_0, .int .u8 a1_1, .string a1_2, .int .i64 a1_3]] w fun e w' => e = .returned (.bool r) ∧ Below w.heap.size w w' := by
  have hr : before a0_0 a0_1 a0_2 a0_3 a1_0 a1_1 a1_2 a1_3 = r := Option.some.inj h
  subst hr
  exact before_any _ _ _ _ _ _ _ _ w
def carrackref06_Before.f (a0_0 : Int) (a0_1 : Int) (a0_2 : ByteArray) (a0_3 : Int) (a1_0 : Int) (a1_1 : Int) (a1_2 : ByteArray) (a1_3 : Int) : Option Bool := if a0_2.size ≤ maxLen then (if a1_2.size ≤ maxLen then some (before a0_0 a0_1 a0_2 a0_3 a1_0 a1_1 a1_2 a1_3) else none) else none
theorem carrackref06_Before.calls (a0_0 : Int) (a0_1 : Int) (a0_2 : ByteArray) (a0_3 : Int) (a1_0 : Int) (a1_1 : Int) (a1_2 : ByteArray) (a1_3 : Int) (r : Bool) (w : World) (h : carrackref06_Before.f a0_0 a0_1 a0_2 a0_3 a1_0 a1_1 a1_2 a1_3 = some r) :
    Calls Try.prog 58 #[.agg #[.int .i64 a0_0, .int .u8 a0_1, .string a0_2, .int .i64 a0_3], .agg #[.int .i64 a1_0, .int .u8 a1_1, .string a1_2, .int .i64 a1_3]] w fun e w' => e = .returned (.bool r) ∧ Below w.heap.size w w' := by
  unfold carrackref06_Before.f at h
  split at h
  · rename_i h1
    split at h
    · rename_i h2
      have hr : before a0_0 a0_1 a0_2 a0_3 a1_0 a1_1 a1_2 a1_3 = r := Option.some.inj h
      subst hr
      exact refBefore_any _ _ _ _ _ _ _ _ h1 h2 w
    · cases h
  · cases h
end Go.Proofs.Ytbhmncenbpdcjaa.P
end
section
/- Printed by a program of this workplace (wip/print/gprint.py, over the kit's print.py): functions of the program as Lean functions, and that the Go text comes to their answers. -/
namespace Go.Proofs.Ytbhmncenbpdcjaa.P
open Go.RowKit Go.Proofs.YtbhmncenbpdcjaaW.PrintWords Go.Proofs.YtbhmncenbpdcjaaW.PrintLast Go.Proofs.YtbhmncenbpdcjaaW.PrintMore
attribute [local go_sem] max2_int min2_int max_two min_two max_three min_three max_four min_four   -- for this text's walks alone
set_option linter.unusedVariables false
set_option linter.unusedSimpArgs false

/-! ### fact_isOrdered: function 34 -/
def fact_isOrdered.l0 : Nat → List (S47) → Int → Option (Bool)
  | 0, _, _ => none
  | k + 1, x0, x3 => if x3 < (x0.length : Int) then (if 0 ≤ (wrap64 (x3 - 1)) then (if (wrap64 (x3 - 1)) < (x0.length : Int) then (if 0 ≤ x3 then ((fact_Before.f ((rd_T47 x0 (wrap64 (x3 - 1))).f0.f0) ((rd_T47 x0 (wrap64 (x3 - 1))).f0.f1) ((rd_T47 x0 (wrap64 (x3 - 1))).f0.f2) ((rd_T47 x0 (wrap64 (x3 - 1))).f0.f3) ((rd_T47 x0 x3).f0.f0) ((rd_T47 x0 x3).f0.f1) ((rd_T47 x0 x3).f0.f2) ((rd_T47 x0 x3).f0.f3)).bind fun t133 => (if t133 = true then (fact_isOrdered.l0 k x0 (wrap64 (x3 + 1))) else (some false))) else (none)) else (none)) else (none)) else (some true)
def fact_isOrdered.f (k : Nat) (l0 : List (S47)) : Option (Bool) := fact_isOrdered.l0 k l0 1
theorem fact_isOrdered.mono_l : ∀ k, (∀ y0 y1, LeO (fact_isOrdered.l0 k y0 y1) (fact_isOrdered.l0 (k + 1) y0 y1))
  | 0 => fun _ _ r h => by simp [fact_isOrdered.l0] at h
  | k + 1 => by
    have ih0 := fact_isOrdered.mono_l k
    · intro y0 y1
      unfold fact_isOrdered.l0
      repeat' first
      | (with_reducible exact ih0 _ _)
      | (with_reducible exact LeO.refl _)
      | (with_reducible exact LeO.none _)
      | (with_reducible refine LeO.ite ?_ ?_)
      | (with_reducible refine LeO.bind ?_ (fun _ => ?_))
      | exact ih0 _ _
      | exact LeO.none _
      | refine LeO.ite ?_ ?_
      | refine LeO.bind ?_ (fun _ => ?_)
theorem fact_isOrdered.mono : ∀ a0 k, LeO (fact_isOrdered.f k a0) (fact_isOrdered.f (k + 1) a0) := by
  intro a0 k
  have ih0 := fact_isOrdered.mono_l k
  unfold fact_isOrdered.f
  repeat' first
      | (with_reducible exact ih0 _ _)
      | (with_reducible exact LeO.refl _)
      | (with_reducible exact LeO.none _)
      | (with_reducible refine LeO.ite ?_ ?_)
      | (with_reducible refine LeO.bind ?_ (fun _ => ?_))
      | exact ih0 _ _
      | exact LeO.none _
      | refine LeO.ite ?_ ?_
      | refine LeO.bind ?_ (fun _ => ?_)
def fact_isOrdered.T4 : Bool × List (List Nat × List Nat) := (true, [([], []), ([], []), ([1], [1]), ([0, 2], [0, 2]), ([3], [3]), ([4], [4]), ([], []), ([], []), ([6, 7], [6, 7]), ([8], [8]), ([9], [9]), ([5, 10], [5, 10]), ([11], [11])])
def fact_isOrdered.B4 : List Nat := [0, 0, 2, 7, 15, 31, 0, 0, 192, 448, 960, 2047, 4095]
theorem fact_isOrdered.tab4 : rtab .any (opsOf Try.f34 4) = fact_isOrdered.T4 := by kernel_rfl
theorem fact_isOrdered.bits4 : waitsOk fact_isOrdered.T4.2 fact_isOrdered.B4 = true := by kernel_rfl
set_option maxHeartbeats 8000000 in
set_option maxRecDepth 100000 in
theorem fact_isOrdered.calls (k : Nat) (A0 : Option Addr) (c0 : Nat) (l0 : List (S47)) (r : Bool) (w : World) (hr0 : Kd.C k47 w A0 l0.length l0) (hc0 : l0.length ≤ c0) (h : fact_isOrdered.f k l0 = some r) :
    Calls Try.prog 34 #[.slice A0 l0.length c0] w fun e w' => e = .returned (.bool r) ∧ Below w.heap.size w w' := by
  have hu30 := Try.underlying30
  have HR0 := Aside0.mk hr0
  have HC0 := Aside0.mk hc0
  clear hr0 hc0
  have HB := Aside0.mk (Below.refl w.heap.size w)
  have H : (fact_isOrdered.l0 k l0 1) = some r := h
  clear h
  have H' := Aside0.mk H
  clear H
  go_enter Try.func34, Try.ntmps34
  go_wp2
  go_loopg [3] k (fun kq v3 w' => ∃ (x3_1 : Int), v3 = .int .i64 x3_1 ∧ Aside0 (fact_isOrdered.l0 kq l0 x3_1 = some r) ∧ Aside0 (kq ≤ k) ∧ Aside0 (Below w.heap.size w w'))
  case atStart => exact ⟨(1), (by first | rfl | (simp; done) | (simp [*]; done)), H', ⟨Nat.le_refl _⟩, ⟨by repeat (first | (with_reducible first | exact HB.out | apply below_alloc | apply pw_below_drewN | apply below_drew1) | exact HB.out)⟩⟩
  case round =>
    clear H'
    obtain ⟨x3_1, rfl, HA, HK1, HB⟩ := hrel
    cases gk with
    | zero => exact absurd HA.out (by simp [fact_isOrdered.l0])
    | succ k1 =>
      have H := HA.out
      clear HA
      simp only [fact_isOrdered.l0] at H
      by_cases c2 : x3_1 < (l0.length : Int)
      · rw [if_pos c2] at H
        have c2b0 : decide (x3_1 < (l0.length : Int)) = true := decide_eq_true c2
        clear c2
        obtain ⟨ji3, hji3⟩ : ∃ j_ : Int, (wrap64 (x3_1 - 1)) = j_ := ⟨_, rfl⟩
        replace H : (if 0 ≤ (ji3) then (if (ji3) < (l0.length : Int) then (if 0 ≤ x3_1 then ((fact_Before.f ((rd_T47 l0 (ji3)).f0.f0) ((rd_T47 l0 (ji3)).f0.f1) ((rd_T47 l0 (ji3)).f0.f2) ((rd_T47 l0 (ji3)).f0.f3) ((rd_T47 l0 x3_1).f0.f0) ((rd_T47 l0 x3_1).f0.f1) ((rd_T47 l0 x3_1).f0.f2) ((rd_T47 l0 x3_1).f0.f3)).bind fun t133 => (if t133 = true then (fact_isOrdered.l0 k1 l0 (wrap64 (x3_1 + 1))) else (some false))) else (none)) else (none)) else (none)) = some r := by first | (rw [hji3] at H; exact H) | (simp only [hji3] at H ⊢; exact H)
        have hji3w : (IntKind.i64.wrap (x3_1 - 1)) = ji3 := (i64_w _).trans hji3
        by_cases c4 : 0 ≤ (ji3)
        · rw [if_pos c4] at H
          have c4b0 : decide (0 ≤ (ji3)) = true := decide_eq_true c4
          clear c4
          by_cases c5 : (ji3) < (l0.length : Int)
          · rw [if_pos c5] at H
            have c5b0 : decide ((ji3) < (l0.length : Int)) = true := decide_eq_true c5
            clear c5
            by_cases c6 : 0 ≤ x3_1
            · rw [if_pos c6] at H
              have c6b0 : decide (0 ≤ x3_1) = true := decide_eq_true c6
              clear c6
              replace H := Option.bind_eq_some_iff.mp H
              obtain ⟨t133, A70, H⟩ := H
              replace H : (if t133 = true then (fact_isOrdered.l0 k1 l0 (wrap64 (x3_1 + 1))) else (some false)) = some r := H
              have A7 := Aside0.mk A70
              clear A70
              by_cases c8 : t133 = true
              · subst c8
                have H1 : (fact_isOrdered.l0 k1 l0 (wrap64 (x3_1 + 1))) = some r := by rw [if_pos rfl] at H; exact H
                clear H
                have H := H1
                clear H1
                have H' := Aside0.mk H
                clear H
                try go_wp2
                have n0_ := Aside0.mk (below_drew1 HB.out)
                clear HB
                have HB := n0_
                clear n0_
                have p131 : 0 ≤ ((ji3) : Int) := of_decide_eq_true (by first | (with_reducible assumption) | assumption)
                have q131 : (ji3) < (l0.length : Int) := of_decide_eq_true (by first | (with_reducible assumption) | assumption)
                obtain ⟨ad131, A131_4, c131_4, e131, hx131_0, hx131_1, hx131_2, hx131_3, hx131_4, hl131_4, hi131_4⟩ := at_T47 HR0.out (ji3) p131 q131
                have hw131_4 := hx131_4
                have hw131_3 := hx131_3
                have hw131_2 := hx131_2
                have hw131_1 := hx131_1
                have hw131_0 := hx131_0
                cases e131
                replace hx131_0 := (HB.out.cell (World.block_lt_of_cell? w _ hx131_0)).trans hx131_0
                replace hx131_1 := (HB.out.cell (World.block_lt_of_cell? w _ hx131_1)).trans hx131_1
                replace hx131_2 := (HB.out.cell (World.block_lt_of_cell? w _ hx131_2)).trans hx131_2
                replace hx131_3 := (HB.out.cell (World.block_lt_of_cell? w _ hx131_3)).trans hx131_3
                replace hx131_4 := (HB.out.cell (World.block_lt_of_cell? w _ hx131_4)).trans hx131_4
                have HR131_4 := Aside0.mk hi131_4
                have HC131_4 := Aside0.mk hl131_4
                clear hi131_4 hl131_4
                replace p131 := eq_true p131
                replace q131 := eq_true q131
                have p132 : 0 ≤ (x3_1 : Int) := of_decide_eq_true (by first | (with_reducible assumption) | assumption)
                have q132 : x3_1 < (l0.length : Int) := of_decide_eq_true (by first | (with_reducible assumption) | assumption)
                obtain ⟨ad132, A132_4, c132_4, e132, hx132_0, hx132_1, hx132_2, hx132_3, hx132_4, hl132_4, hi132_4⟩ := at_T47 HR0.out x3_1 p132 q132
                have hw132_4 := hx132_4
                have hw132_3 := hx132_3
                have hw132_2 := hx132_2
                have hw132_1 := hx132_1
                have hw132_0 := hx132_0
                obtain rfl : ad131 = ad132 := (by injection e132)
                replace hx132_0 := (HB.out.cell (World.block_lt_of_cell? w _ hx132_0)).trans hx132_0
                replace hx132_1 := (HB.out.cell (World.block_lt_of_cell? w _ hx132_1)).trans hx132_1
                replace hx132_2 := (HB.out.cell (World.block_lt_of_cell? w _ hx132_2)).trans hx132_2
                replace hx132_3 := (HB.out.cell (World.block_lt_of_cell? w _ hx132_3)).trans hx132_3
                replace hx132_4 := (HB.out.cell (World.block_lt_of_cell? w _ hx132_4)).trans hx132_4
                have HR132_4 := Aside0.mk hi132_4
                have HC132_4 := Aside0.mk hl132_4
                clear hi132_4 hl132_4
                replace p132 := eq_true p132
                replace q132 := eq_true q132
                refine start_ (n := 13) (S := fun w' => w'.cell? (ad131.add (((ji3)).toNat * 5)) = some (.int .i64 ((rd_T47 l0 (ji3)).f0.f0)) ∧ w'.cell? ⟨(ad131.add (((ji3)).toNat * 5)).block, (ad131.add (((ji3)).toNat * 5)).off + 1, none⟩ = some (.int .u8 ((rd_T47 l0 (ji3)).f0.f1)) ∧ w'.cell? ⟨(ad131.add (((ji3)).toNat * 5)).block, (ad131.add (((ji3)).toNat * 5)).off + 2, none⟩ = some (.string ((rd_T47 l0 (ji3)).f0.f2)) ∧ w'.cell? ⟨(ad131.add (((ji3)).toNat * 5)).block, (ad131.add (((ji3)).toNat * 5)).off + 3, none⟩ = some (.int .i64 ((rd_T47 l0 (ji3)).f0.f3)) ∧ w'.cell? ⟨(ad131.add (((ji3)).toNat * 5)).block, (ad131.add (((ji3)).toNat * 5)).off + 4, none⟩ = some (.slice A131_4 ((rd_T47 l0 (ji3)).f1).length c131_4) ∧ w'.cell? (ad131.add ((x3_1).toNat * 5)) = some (.int .i64 ((rd_T47 l0 x3_1).f0.f0)) ∧ w'.cell? ⟨(ad131.add ((x3_1).toNat * 5)).block, (ad131.add ((x3_1).toNat * 5)).off + 1, none⟩ = some (.int .u8 ((rd_T47 l0 x3_1).f0.f1)) ∧ w'.cell? ⟨(ad131.add ((x3_1).toNat * 5)).block, (ad131.add ((x3_1).toNat * 5)).off + 2, none⟩ = some (.string ((rd_T47 l0 x3_1).f0.f2)) ∧ w'.cell? ⟨(ad131.add ((x3_1).toNat * 5)).block, (ad131.add ((x3_1).toNat * 5)).off + 3, none⟩ = some (.int .i64 ((rd_T47 l0 x3_1).f0.f3)) ∧ w'.cell? ⟨(ad131.add ((x3_1).toNat * 5)).block, (ad131.add ((x3_1).toNat * 5)).off + 4, none⟩ = some (.slice A132_4 ((rd_T47 l0 x3_1).f1).length c132_4)) (ds := []) #[false, false, false, false, false, false, false, false, false, false, false, false, false] (by kernel_rfl) rfl rfl ⟨((HB.out.cell (World.block_lt_of_cell? w _ hw131_0)).trans hw131_0), ((HB.out.cell (World.block_lt_of_cell? w _ hw131_1)).trans hw131_1), ((HB.out.cell (World.block_lt_of_cell? w _ hw131_2)).trans hw131_2), ((HB.out.cell (World.block_lt_of_cell? w _ hw131_3)).trans hw131_3), ((HB.out.cell (World.block_lt_of_cell? w _ hw131_4)).trans hw131_4), ((HB.out.cell (World.block_lt_of_cell? w _ hw132_0)).trans hw132_0), ((HB.out.cell (World.block_lt_of_cell? w _ hw132_1)).trans hw132_1), ((HB.out.cell (World.block_lt_of_cell? w _ hw132_2)).trans hw132_2), ((HB.out.cell (World.block_lt_of_cell? w _ hw132_3)).trans hw132_3), ((HB.out.cell (World.block_lt_of_cell? w _ hw132_4)).trans hw132_4)⟩ (fun hHeld => ?_); refine with_tabW fact_isOrdered.tab4 fact_isOrdered.bits4 (fun HT_ HW_ => ?_)
                generalize wr.drew = w9 at HB HR131_4 HR132_4 hx131_0 hx131_1 hx131_2 hx131_3 hx131_4 hx132_0 hx132_1 hx132_2 hx132_3 hx132_4 hHeld ⊢
                refine pure_ (i := 0) (N := some 10) (v := ?_) (a' := ?_) #[true, false, false, false, false, false, false, false, false, false, false, false, false] rfl rfl (any_of HT_.out (by kernel_rfl)) (fun _ _ _ h => h) (Or.inl ⟨by rfl, ?_⟩) ?_ ?_
                rotate_left
                · intro w'
                  go_simp
                  with_reducible rfl
                rotate_left
                · simp only [Act.put, List.setIfInBounds_toArray, List.set_cons_zero, List.set_cons_succ, i64_w, i32_w]
                  rfl
                refine pure_ (i := 1) (N := some 11) (v := ?_) (a' := ?_) #[true, true, false, false, false, false, false, false, false, false, false, false, false] rfl rfl (any_of HT_.out (by kernel_rfl)) (fun _ _ _ h => h) (Or.inl ⟨by rfl, ?_⟩) ?_ ?_
                rotate_left
                · intro w'
                  go_simp
                  with_reducible rfl
                rotate_left
                · simp only [Act.put, List.setIfInBounds_toArray, List.set_cons_zero, List.set_cons_succ, i64_w, i32_w]
                  rfl
                refine pure_ (i := 2) (N := some 12) (v := ?_) (a' := ?_) #[true, true, true, false, false, false, false, false, false, false, false, false, false] rfl rfl (any_of HT_.out (by kernel_rfl)) (fun _ _ _ h => h) (Or.inl ⟨by rfl, ?_⟩) ?_ ?_
                rotate_left
                · intro w'
                  go_simp
                  with_reducible rfl
                rotate_left
                · simp only [Act.put, List.setIfInBounds_toArray, List.set_cons_zero, List.set_cons_succ, i64_w, i32_w]
                  rfl
                refine pure_ (i := 3) (N := some 13) (v := ?_) (a' := ?_) #[true, true, true, true, false, false, false, false, false, false, false, false, false] rfl rfl (any_of HT_.out (by kernel_rfl)) (fun _ _ _ h => h) (Or.inl ⟨by rfl, ?_⟩) ?_ ?_
                rotate_left
                · intro w'
                  go_simp
                  with_reducible rfl
                rotate_left
                · simp only [Act.put, List.setIfInBounds_toArray, List.set_cons_zero, List.set_cons_succ, i64_w, i32_w]
                  rfl
                refine pure_ (i := 4) (N := some 14) (v := ?_) (a' := ?_) #[true, true, true, true, true, false, false, false, false, false, false, false, false] rfl rfl (any_of HT_.out (by kernel_rfl)) (fun _ _ _ h => h) (Or.inl ⟨by rfl, ?_⟩) ?_ ?_
                rotate_left
                · intro w'
                  go_simp
                  with_reducible rfl
                rotate_left
                · simp only [Act.put, List.setIfInBounds_toArray, List.set_cons_zero, List.set_cons_succ, i64_w, i32_w]
                  rfl
                refine pure_ (i := 6) (N := some 16) (v := ?_) (a' := ?_) #[true, true, true, true, true, false, true, false, false, false, false, false, false] rfl rfl (any_of HT_.out (by kernel_rfl)) (fun _ _ _ h => h) (Or.inl ⟨by rfl, ?_⟩) ?_ ?_
                rotate_left
                · intro w'
                  go_simp
                  with_reducible rfl
                rotate_left
                · simp only [Act.put, List.setIfInBounds_toArray, List.set_cons_zero, List.set_cons_succ, i64_w, i32_w]
                  rfl
                refine pure_ (i := 7) (N := some 17) (v := ?_) (a' := ?_) #[true, true, true, true, true, false, true, true, false, false, false, false, false] rfl rfl (any_of HT_.out (by kernel_rfl)) (fun _ _ _ h => h) (Or.inl ⟨by rfl, ?_⟩) ?_ ?_
                rotate_left
                · intro w'
                  go_simp
                  with_reducible rfl
                rotate_left
                · simp only [Act.put, List.setIfInBounds_toArray, List.set_cons_zero, List.set_cons_succ, i64_w, i32_w]
                  rfl
                refine pure_ (i := 8) (N := some 18) (v := ?_) (a' := ?_) #[true, true, true, true, true, false, true, true, true, false, false, false, false] rfl rfl (any_of HT_.out (by kernel_rfl)) (fun _ _ _ h => h) (Or.inl ⟨by rfl, ?_⟩) ?_ ?_
                rotate_left
                · intro w'
                  go_simp
                  with_reducible rfl
                rotate_left
                · simp only [Act.put, List.setIfInBounds_toArray, List.set_cons_zero, List.set_cons_succ, i64_w, i32_w]
                  rfl
                refine pure_ (i := 9) (N := some 19) (v := ?_) (a' := ?_) #[true, true, true, true, true, false, true, true, true, true, false, false, false] rfl rfl (any_of HT_.out (by kernel_rfl)) (fun _ _ _ h => h) (Or.inl ⟨by rfl, ?_⟩) ?_ ?_
                rotate_left
                · intro w'
                  go_simp
                  with_reducible rfl
                rotate_left
                · simp only [Act.put, List.setIfInBounds_toArray, List.set_cons_zero, List.set_cons_succ, i64_w, i32_w]
                  rfl
                refine take_ (i := 5) (N := some 15) (v := ?_) (a' := ?_) #[true, true, true, true, true, true, true, true, true, true, false, false, false] rfl rfl (take_ofW HT_.out HW_.out (by kernel_rfl)) (fun _ _ _ h => h) (Or.inl ⟨by rfl, ?_⟩) hHeld ?_ ?_
                rotate_left
                · rintro w' ⟨s0, s1, s2, s3, s4, s5, s6, s7, s8, s9⟩
                  go_simp
                  with_reducible rfl
                rotate_left
                · simp only [Act.put, List.setIfInBounds_toArray, List.set_cons_zero, List.set_cons_succ, i64_w, i32_w]
                  rfl
                refine take_ (i := 10) (N := some 20) (v := ?_) (a' := ?_) #[true, true, true, true, true, true, true, true, true, true, true, false, false] rfl rfl (take_ofW HT_.out HW_.out (by kernel_rfl)) (fun _ _ _ h => h) (Or.inl ⟨by rfl, ?_⟩) hHeld ?_ ?_
                rotate_left
                · rintro w' ⟨s0, s1, s2, s3, s4, s5, s6, s7, s8, s9⟩
                  go_simp
                  with_reducible rfl
                rotate_left
                · simp only [Act.put, List.setIfInBounds_toArray, List.set_cons_zero, List.set_cons_succ, i64_w, i32_w]
                  rfl
                refine one_ (i := 11) (N := some 21) #[true, true, true, true, true, true, true, true, true, true, true, true, false] rfl rfl (one_of HT_.out (by kernel_rfl)) (by decide) (fun K hK => ?_)
                refine goes_ Try.func25 (by kernel_rfl) rfl #[.agg #[.int .i64 ((rd_T47 l0 (ji3)).f0.f0), .int .u8 ((rd_T47 l0 (ji3)).f0.f1), .string ((rd_T47 l0 (ji3)).f0.f2), .int .i64 ((rd_T47 l0 (ji3)).f0.f3)], .agg #[.int .i64 ((rd_T47 l0 x3_1).f0.f0), .int .u8 ((rd_T47 l0 x3_1).f0.f1), .string ((rd_T47 l0 x3_1).f0.f2), .int .i64 ((rd_T47 l0 x3_1).f0.f3)]] (by rfl) rfl rfl (by (try simp only [List.map_toArray, List.map_cons, List.map_nil]); first | done | (simp only [hji3]; rfl) | rfl | (simp only [List.length_drop, List.length_take]; rfl)) ?_
                with_reducible refine (fact_Before.calls ((rd_T47 l0 (ji3)).f0.f0) ((rd_T47 l0 (ji3)).f0.f1) ((rd_T47 l0 (ji3)).f0.f2) ((rd_T47 l0 (ji3)).f0.f3) ((rd_T47 l0 x3_1).f0.f0) ((rd_T47 l0 x3_1).f0.f1) ((rd_T47 l0 x3_1).f0.f2) ((rd_T47 l0 x3_1).f0.f3) true _ A7.out).mono ?_
                rintro e w10 ⟨rfl, hb⟩
                refine ⟨_, rfl, ?_⟩
                have n0_ := Aside0.mk (below_step (by repeat (first | (with_reducible first | exact HB.out | apply below_alloc | apply pw_below_drewN | apply below_drew1) | exact HB.out)) hb)
                clear HB
                have HB := n0_
                clear n0_
                (try clear hb)
                (try clear hb2)
                (try clear hk)
                (try clear hi)
                refine hK.out _ _ ⟨((HB.out.cell (World.block_lt_of_cell? w _ hw131_0)).trans hw131_0), ((HB.out.cell (World.block_lt_of_cell? w _ hw131_1)).trans hw131_1), ((HB.out.cell (World.block_lt_of_cell? w _ hw131_2)).trans hw131_2), ((HB.out.cell (World.block_lt_of_cell? w _ hw131_3)).trans hw131_3), ((HB.out.cell (World.block_lt_of_cell? w _ hw131_4)).trans hw131_4), ((HB.out.cell (World.block_lt_of_cell? w _ hw132_0)).trans hw132_0), ((HB.out.cell (World.block_lt_of_cell? w _ hw132_1)).trans hw132_1), ((HB.out.cell (World.block_lt_of_cell? w _ hw132_2)).trans hw132_2), ((HB.out.cell (World.block_lt_of_cell? w _ hw132_3)).trans hw132_3), ((HB.out.cell (World.block_lt_of_cell? w _ hw132_4)).trans hw132_4)⟩ (fun hHeld => ?_)
                clear hK K
                refine norm_ (a' := ?_) ?_ ?_
                rotate_left
                · show Act.put _ (some 21) _ = _
                  simp only [Act.put, List.setIfInBounds_toArray, List.set_cons_zero, List.set_cons_succ, i64_w, i32_w]
                  rfl
                refine pure_ (i := 12) (N := some 22) (v := ?_) (a' := ?_) #[true, true, true, true, true, true, true, true, true, true, true, true, true] rfl rfl (any_of HT_.out (by kernel_rfl)) (fun _ _ _ h => h) (Or.inl ⟨by rfl, ?_⟩) ?_ ?_
                rotate_left
                · intro w'
                  go_simp
                  with_reducible rfl
                rotate_left
                · simp only [Act.put, List.setIfInBounds_toArray, List.set_cons_zero, List.set_cons_succ, i64_w, i32_w]
                  rfl
                refine done_ (done_of HT_.out (by kernel_rfl)) ?_
                try go_wp2
                go_roundg k1
                case measure => have := HK1.out; omega
                case rel => exact ⟨(wrap64 (x3_1 + 1)), (by first | rfl | (simp; done) | (simp [*]; done)), H', ⟨by have := HK1.out; omega⟩, ⟨by repeat (first | (with_reducible first | exact HB.out | apply below_alloc | apply pw_below_drewN | apply below_drew1) | exact HB.out)⟩⟩
              · replace c8 := Bool.eq_false_iff.mpr c8
                subst c8
                have H1 : (some false) = some r := by rw [if_neg (show ¬ (false = true) by decide)] at H; exact H
                clear H
                have H := H1
                clear H1
                obtain rfl := Option.some.inj H
                try go_wp2
                have n0_ := Aside0.mk (below_drew1 HB.out)
                clear HB
                have HB := n0_
                clear n0_
                have p131 : 0 ≤ ((ji3) : Int) := of_decide_eq_true (by first | (with_reducible assumption) | assumption)
                have q131 : (ji3) < (l0.length : Int) := of_decide_eq_true (by first | (with_reducible assumption) | assumption)
                obtain ⟨ad131, A131_4, c131_4, e131, hx131_0, hx131_1, hx131_2, hx131_3, hx131_4, hl131_4, hi131_4⟩ := at_T47 HR0.out (ji3) p131 q131
                have hw131_4 := hx131_4
                have hw131_3 := hx131_3
                have hw131_2 := hx131_2
                have hw131_1 := hx131_1
                have hw131_0 := hx131_0
                cases e131
                replace hx131_0 := (HB.out.cell (World.block_lt_of_cell? w _ hx131_0)).trans hx131_0
                replace hx131_1 := (HB.out.cell (World.block_lt_of_cell? w _ hx131_1)).trans hx131_1
                replace hx131_2 := (HB.out.cell (World.block_lt_of_cell? w _ hx131_2)).trans hx131_2
                replace hx131_3 := (HB.out.cell (World.block_lt_of_cell? w _ hx131_3)).trans hx131_3
                replace hx131_4 := (HB.out.cell (World.block_lt_of_cell? w _ hx131_4)).trans hx131_4
                have HR131_4 := Aside0.mk hi131_4
                have HC131_4 := Aside0.mk hl131_4
                clear hi131_4 hl131_4
                replace p131 := eq_true p131
                replace q131 := eq_true q131
                have p132 : 0 ≤ (x3_1 : Int) := of_decide_eq_true (by first | (with_reducible assumption) | assumption)
                have q132 : x3_1 < (l0.length : Int) := of_decide_eq_true (by first | (with_reducible assumption) | assumption)
                obtain ⟨ad132, A132_4, c132_4, e132, hx132_0, hx132_1, hx132_2, hx132_3, hx132_4, hl132_4, hi132_4⟩ := at_T47 HR0.out x3_1 p132 q132
                have hw132_4 := hx132_4
                have hw132_3 := hx132_3
                have hw132_2 := hx132_2
                have hw132_1 := hx132_1
                have hw132_0 := hx132_0
                obtain rfl : ad131 = ad132 := (by injection e132)
                replace hx132_0 := (HB.out.cell (World.block_lt_of_cell? w _ hx132_0)).trans hx132_0
                replace hx132_1 := (HB.out.cell (World.block_lt_of_cell? w _ hx132_1)).trans hx132_1
                replace hx132_2 := (HB.out.cell (World.block_lt_of_cell? w _ hx132_2)).trans hx132_2
                replace hx132_3 := (HB.out.cell (World.block_lt_of_cell? w _ hx132_3)).trans hx132_3
                replace hx132_4 := (HB.out.cell (World.block_lt_of_cell? w _ hx132_4)).trans hx132_4
                have HR132_4 := Aside0.mk hi132_4
                have HC132_4 := Aside0.mk hl132_4
                clear hi132_4 hl132_4
                replace p132 := eq_true p132
                replace q132 := eq_true q132
                refine start_ (n := 13) (S := fun w' => w'.cell? (ad131.add (((ji3)).toNat * 5)) = some (.int .i64 ((rd_T47 l0 (ji3)).f0.f0)) ∧ w'.cell? ⟨(ad131.add (((ji3)).toNat * 5)).block, (ad131.add (((ji3)).toNat * 5)).off + 1, none⟩ = some (.int .u8 ((rd_T47 l0 (ji3)).f0.f1)) ∧ w'.cell? ⟨(ad131.add (((ji3)).toNat * 5)).block, (ad131.add (((ji3)).toNat * 5)).off + 2, none⟩ = some (.string ((rd_T47 l0 (ji3)).f0.f2)) ∧ w'.cell? ⟨(ad131.add (((ji3)).toNat * 5)).block, (ad131.add (((ji3)).toNat * 5)).off + 3, none⟩ = some (.int .i64 ((rd_T47 l0 (ji3)).f0.f3)) ∧ w'.cell? ⟨(ad131.add (((ji3)).toNat * 5)).block, (ad131.add (((ji3)).toNat * 5)).off + 4, none⟩ = some (.slice A131_4 ((rd_T47 l0 (ji3)).f1).length c131_4) ∧ w'.cell? (ad131.add ((x3_1).toNat * 5)) = some (.int .i64 ((rd_T47 l0 x3_1).f0.f0)) ∧ w'.cell? ⟨(ad131.add ((x3_1).toNat * 5)).block, (ad131.add ((x3_1).toNat * 5)).off + 1, none⟩ = some (.int .u8 ((rd_T47 l0 x3_1).f0.f1)) ∧ w'.cell? ⟨(ad131.add ((x3_1).toNat * 5)).block, (ad131.add ((x3_1).toNat * 5)).off + 2, none⟩ = some (.string ((rd_T47 l0 x3_1).f0.f2)) ∧ w'.cell? ⟨(ad131.add ((x3_1).toNat * 5)).block, (ad131.add ((x3_1).toNat * 5)).off + 3, none⟩ = some (.int .i64 ((rd_T47 l0 x3_1).f0.f3)) ∧ w'.cell? ⟨(ad131.add ((x3_1).toNat * 5)).block, (ad131.add ((x3_1).toNat * 5)).off + 4, none⟩ = some (.slice A132_4 ((rd_T47 l0 x3_1).f1).length c132_4)) (ds := []) #[false, false, false, false, false, false, false, false, false, false, false, false, false] (by kernel_rfl) rfl rfl ⟨((HB.out.cell (World.block_lt_of_cell? w _ hw131_0)).trans hw131_0), ((HB.out.cell (World.block_lt_of_cell? w _ hw131_1)).trans hw131_1), ((HB.out.cell (World.block_lt_of_cell? w _ hw131_2)).trans hw131_2), ((HB.out.cell (World.block_lt_of_cell? w _ hw131_3)).trans hw131_3), ((HB.out.cell (World.block_lt_of_cell? w _ hw131_4)).trans hw131_4), ((HB.out.cell (World.block_lt_of_cell? w _ hw132_0)).trans hw132_0), ((HB.out.cell (World.block_lt_of_cell? w _ hw132_1)).trans hw132_1), ((HB.out.cell (World.block_lt_of_cell? w _ hw132_2)).trans hw132_2), ((HB.out.cell (World.block_lt_of_cell? w _ hw132_3)).trans hw132_3), ((HB.out.cell (World.block_lt_of_cell? w _ hw132_4)).trans hw132_4)⟩ (fun hHeld => ?_); refine with_tabW fact_isOrdered.tab4 fact_isOrdered.bits4 (fun HT_ HW_ => ?_)
                generalize wr.drew = w11 at HB HR131_4 HR132_4 hx131_0 hx131_1 hx131_2 hx131_3 hx131_4 hx132_0 hx132_1 hx132_2 hx132_3 hx132_4 hHeld ⊢
                refine pure_ (i := 0) (N := some 10) (v := ?_) (a' := ?_) #[true, false, false, false, false, false, false, false, false, false, false, false, false] rfl rfl (any_of HT_.out (by kernel_rfl)) (fun _ _ _ h => h) (Or.inl ⟨by rfl, ?_⟩) ?_ ?_
                rotate_left
                · intro w'
                  go_simp
                  with_reducible rfl
                rotate_left
                · simp only [Act.put, List.setIfInBounds_toArray, List.set_cons_zero, List.set_cons_succ, i64_w, i32_w]
                  rfl
                refine pure_ (i := 1) (N := some 11) (v := ?_) (a' := ?_) #[true, true, false, false, false, false, false, false, false, false, false, false, false] rfl rfl (any_of HT_.out (by kernel_rfl)) (fun _ _ _ h => h) (Or.inl ⟨by rfl, ?_⟩) ?_ ?_
                rotate_left
                · intro w'
                  go_simp
                  with_reducible rfl
                rotate_left
                · simp only [Act.put, List.setIfInBounds_toArray, List.set_cons_zero, List.set_cons_succ, i64_w, i32_w]
                  rfl
                refine pure_ (i := 2) (N := some 12) (v := ?_) (a' := ?_) #[true, true, true, false, false, false, false, false, false, false, false, false, false] rfl rfl (any_of HT_.out (by kernel_rfl)) (fun _ _ _ h => h) (Or.inl ⟨by rfl, ?_⟩) ?_ ?_
                rotate_left
                · intro w'
                  go_simp
                  with_reducible rfl
                rotate_left
                · simp only [Act.put, List.setIfInBounds_toArray, List.set_cons_zero, List.set_cons_succ, i64_w, i32_w]
                  rfl
                refine pure_ (i := 3) (N := some 13) (v := ?_) (a' := ?_) #[true, true, true, true, false, false, false, false, false, false, false, false, false] rfl rfl (any_of HT_.out (by kernel_rfl)) (fun _ _ _ h => h) (Or.inl ⟨by rfl, ?_⟩) ?_ ?_
                rotate_left
                · intro w'
                  go_simp
                  with_reducible rfl
                rotate_left
                · simp only [Act.put, List.setIfInBounds_toArray, List.set_cons_zero, List.set_cons_succ, i64_w, i32_w]
                  rfl
                refine pure_ (i := 4) (N := some 14) (v := ?_) (a' := ?_) #[true, true, true, true, true, false, false, false, false, false, false, false, false] rfl rfl (any_of HT_.out (by kernel_rfl)) (fun _ _ _ h => h) (Or.inl ⟨by rfl, ?_⟩) ?_ ?_
                rotate_left
                · intro w'
                  go_simp
                  with_reducible rfl
                rotate_left
                · simp only [Act.put, List.setIfInBounds_toArray, List.set_cons_zero, List.set_cons_succ, i64_w, i32_w]
                  rfl
                refine pure_ (i := 6) (N := some 16) (v := ?_) (a' := ?_) #[true, true, true, true, true, false, true, false, false, false, false, false, false] rfl rfl (any_of HT_.out (by kernel_rfl)) (fun _ _ _ h => h) (Or.inl ⟨by rfl, ?_⟩) ?_ ?_
                rotate_left
                · intro w'
                  go_simp
                  with_reducible rfl
                rotate_left
                · simp only [Act.put, List.setIfInBounds_toArray, List.set_cons_zero, List.set_cons_succ, i64_w, i32_w]
                  rfl
                refine pure_ (i := 7) (N := some 17) (v := ?_) (a' := ?_) #[true, true, true, true, true, false, true, true, false, false, false, false, false] rfl rfl (any_of HT_.out (by kernel_rfl)) (fun _ _ _ h => h) (Or.inl ⟨by rfl, ?_⟩) ?_ ?_
                rotate_left
                · intro w'
                  go_simp
                  with_reducible rfl
                rotate_left
                · simp only [Act.put, List.setIfInBounds_toArray, List.set_cons_zero, List.set_cons_succ, i64_w, i32_w]
                  rfl
                refine pure_ (i := 8) (N := some 18) (v := ?_) (a' := ?_) #[true, true, true, true, true, false, true, true, true, false, false, false, false] rfl rfl (any_of HT_.out (by kernel_rfl)) (fun _ _ _ h => h) (Or.inl ⟨by rfl, ?_⟩) ?_ ?_
                rotate_left
                · intro w'
                  go_simp
                  with_reducible rfl
                rotate_left
                · simp only [Act.put, List.setIfInBounds_toArray, List.set_cons_zero, List.set_cons_succ, i64_w, i32_w]
                  rfl
                refine pure_ (i := 9) (N := some 19) (v := ?_) (a' := ?_) #[true, true, true, true, true, false, true, true, true, true, false, false, false] rfl rfl (any_of HT_.out (by kernel_rfl)) (fun _ _ _ h => h) (Or.inl ⟨by rfl, ?_⟩) ?_ ?_
                rotate_left
                · intro w'
                  go_simp
                  with_reducible rfl
                rotate_left
                · simp only [Act.put, List.setIfInBounds_toArray, List.set_cons_zero, List.set_cons_succ, i64_w, i32_w]
                  rfl
                refine take_ (i := 5) (N := some 15) (v := ?_) (a' := ?_) #[true, true, true, true, true, true, true, true, true, true, false, false, false] rfl rfl (take_ofW HT_.out HW_.out (by kernel_rfl)) (fun _ _ _ h => h) (Or.inl ⟨by rfl, ?_⟩) hHeld ?_ ?_
                rotate_left
                · rintro w' ⟨s0, s1, s2, s3, s4, s5, s6, s7, s8, s9⟩
                  go_simp
                  with_reducible rfl
                rotate_left
                · simp only [Act.put, List.setIfInBounds_toArray, List.set_cons_zero, List.set_cons_succ, i64_w, i32_w]
                  rfl
                refine take_ (i := 10) (N := some 20) (v := ?_) (a' := ?_) #[true, true, true, true, true, true, true, true, true, true, true, false, false] rfl rfl (take_ofW HT_.out HW_.out (by kernel_rfl)) (fun _ _ _ h => h) (Or.inl ⟨by rfl, ?_⟩) hHeld ?_ ?_
                rotate_left
                · rintro w' ⟨s0, s1, s2, s3, s4, s5, s6, s7, s8, s9⟩
                  go_simp
                  with_reducible rfl
                rotate_left
                · simp only [Act.put, List.setIfInBounds_toArray, List.set_cons_zero, List.set_cons_succ, i64_w, i32_w]
                  rfl
                refine one_ (i := 11) (N := some 21) #[true, true, true, true, true, true, true, true, true, true, true, true, false] rfl rfl (one_of HT_.out (by kernel_rfl)) (by decide) (fun K hK => ?_)
                refine goes_ Try.func25 (by kernel_rfl) rfl #[.agg #[.int .i64 ((rd_T47 l0 (ji3)).f0.f0), .int .u8 ((rd_T47 l0 (ji3)).f0.f1), .string ((rd_T47 l0 (ji3)).f0.f2), .int .i64 ((rd_T47 l0 (ji3)).f0.f3)], .agg #[.int .i64 ((rd_T47 l0 x3_1).f0.f0), .int .u8 ((rd_T47 l0 x3_1).f0.f1), .string ((rd_T47 l0 x3_1).f0.f2), .int .i64 ((rd_T47 l0 x3_1).f0.f3)]] (by rfl) rfl rfl (by (try simp only [List.map_toArray, List.map_cons, List.map_nil]); first | done | (simp only [hji3]; rfl) | rfl | (simp only [List.length_drop, List.length_take]; rfl)) ?_
                with_reducible refine (fact_Before.calls ((rd_T47 l0 (ji3)).f0.f0) ((rd_T47 l0 (ji3)).f0.f1) ((rd_T47 l0 (ji3)).f0.f2) ((rd_T47 l0 (ji3)).f0.f3) ((rd_T47 l0 x3_1).f0.f0) ((rd_T47 l0 x3_1).f0.f1) ((rd_T47 l0 x3_1).f0.f2) ((rd_T47 l0 x3_1).f0.f3) false _ A7.out).mono ?_
                rintro e w12 ⟨rfl, hb⟩
                refine ⟨_, rfl, ?_⟩
                have n0_ := Aside0.mk (below_step (by repeat (first | (with_reducible first | exact HB.out | apply below_alloc | apply pw_below_drewN | apply below_drew1) | exact HB.out)) hb)
                clear HB
                have HB := n0_
                clear n0_
                (try clear hb)
                (try clear hb2)
                (try clear hk)
                (try clear hi)
                refine hK.out _ _ ⟨((HB.out.cell (World.block_lt_of_cell? w _ hw131_0)).trans hw131_0), ((HB.out.cell (World.block_lt_of_cell? w _ hw131_1)).trans hw131_1), ((HB.out.cell (World.block_lt_of_cell? w _ hw131_2)).trans hw131_2), ((HB.out.cell (World.block_lt_of_cell? w _ hw131_3)).trans hw131_3), ((HB.out.cell (World.block_lt_of_cell? w _ hw131_4)).trans hw131_4), ((HB.out.cell (World.block_lt_of_cell? w _ hw132_0)).trans hw132_0), ((HB.out.cell (World.block_lt_of_cell? w _ hw132_1)).trans hw132_1), ((HB.out.cell (World.block_lt_of_cell? w _ hw132_2)).trans hw132_2), ((HB.out.cell (World.block_lt_of_cell? w _ hw132_3)).trans hw132_3), ((HB.out.cell (World.block_lt_of_cell? w _ hw132_4)).trans hw132_4)⟩ (fun hHeld => ?_)
                clear hK K
                refine norm_ (a' := ?_) ?_ ?_
                rotate_left
                · show Act.put _ (some 21) _ = _
                  simp only [Act.put, List.setIfInBounds_toArray, List.set_cons_zero, List.set_cons_succ, i64_w, i32_w]
                  rfl
                refine pure_ (i := 12) (N := some 22) (v := ?_) (a' := ?_) #[true, true, true, true, true, true, true, true, true, true, true, true, true] rfl rfl (any_of HT_.out (by kernel_rfl)) (fun _ _ _ h => h) (Or.inl ⟨by rfl, ?_⟩) ?_ ?_
                rotate_left
                · intro w'
                  go_simp
                  with_reducible rfl
                rotate_left
                · simp only [Act.put, List.setIfInBounds_toArray, List.set_cons_zero, List.set_cons_succ, i64_w, i32_w]
                  rfl
                refine done_ (done_of HT_.out (by kernel_rfl)) ?_
                try go_wp2
                go_ret
                exact ⟨by first | rfl | (simp [errW_none, errW_some] <;> rfl) | (simp only [← hji3]; first | rfl | (simp [errW_none, errW_some] <;> rfl)) | (simp [*, errW_none, errW_some] <;> rfl), by repeat (first | (with_reducible first | exact HB.out | apply below_alloc | apply pw_below_drewN | apply below_drew1) | exact HB.out)⟩
            · rw [if_neg c6] at H
              exact absurd H (by simp)
          · rw [if_neg c5] at H
            exact absurd H (by simp)
        · rw [if_neg c4] at H
          exact absurd H (by simp)
      · rw [if_neg c2] at H
        have c2b0 : decide (x3_1 < (l0.length : Int)) = false := decide_eq_false c2
        clear c2
        obtain rfl := Option.some.inj H
        go_wp2
        go_ret
        exact ⟨by first | rfl | (simp [errW_none, errW_some] <;> rfl) | (simp [*, errW_none, errW_some] <;> rfl), by repeat (first | (with_reducible first | exact HB.out | apply below_alloc | apply pw_below_drewN | apply below_drew1) | exact HB.out)⟩

-- NOT PRINTED: function 35 (fact_own)

-- NOT PRINTED: function 54 (sort_Search)

-- NOT PRINTED: function 36 (fact_place)

-- NOT PRINTED: function 37 (slices_Clone_byte_byte)

-- NOT PRINTED: function 38 (api_Fact_38)

-- NOT PRINTED: function 56 (api_Fact_56)

-- NOT PRINTED: function 69 (api_Fact_69)

-- NOT PRINTED: function 64 (api_Fact_64)

-- NOT PRINTED: function 57 (api_Fact_57)

-- NOT PRINTED: function 39 (api_Fact_39)

end Go.Proofs.Ytbhmncenbpdcjaa.P
end
section
/- Printed by a program of this workplace (wip/print/gprint.py, over the kit's print.py): functions of the program as Lean functions, and that the Go text comes to their answers. -/
namespace Go.Proofs.Ytbhmncenbpdcjaa.P
open Go.RowKit Go.Proofs.YtbhmncenbpdcjaaW.PrintWords Go.Proofs.YtbhmncenbpdcjaaW.PrintLast Go.Proofs.YtbhmncenbpdcjaaW.PrintMore
attribute [local go_sem] max2_int min2_int max_two min_two max_three min_three max_four min_four   -- for this text's walks alone
set_option linter.unusedVariables false
set_option linter.unusedSimpArgs false

/-! ### carrackref06_Ordered: function 40 -/
def carrackref06_Ordered.l0 : Nat → List (S47) → Int → Option (Bool)
  | 0, _, _ => none
  | k + 1, x0, x3 => if x3 < (x0.length : Int) then (if 0 ≤ (wrap64 (x3 - 1)) then (if (wrap64 (x3 - 1)) < (x0.length : Int) then (if 0 ≤ x3 then ((carrackref06_Before.f ((rd_T47 x0 (wrap64 (x3 - 1))).f0.f0) ((rd_T47 x0 (wrap64 (x3 - 1))).f0.f1) ((rd_T47 x0 (wrap64 (x3 - 1))).f0.f2) ((rd_T47 x0 (wrap64 (x3 - 1))).f0.f3) ((rd_T47 x0 x3).f0.f0) ((rd_T47 x0 x3).f0.f1) ((rd_T47 x0 x3).f0.f2) ((rd_T47 x0 x3).f0.f3)).bind fun t151 => (if t151 = true then (carrackref06_Ordered.l0 k x0 (wrap64 (x3 + 1))) else (some false))) else (none)) else (none)) else (none)) else (some true)
def carrackref06_Ordered.f (k : Nat) (l0 : List (S47)) : Option (Bool) := carrackref06_Ordered.l0 k l0 1
theorem carrackref06_Ordered.mono_l : ∀ k, (∀ y0 y1, LeO (carrackref06_Ordered.l0 k y0 y1) (carrackref06_Ordered.l0 (k + 1) y0 y1))
  | 0 => fun _ _ r h => by simp [carrackref06_Ordered.l0] at h
  | k + 1 => by
    have ih0 := carrackref06_Ordered.mono_l k
    · intro y0 y1
      unfold carrackref06_Ordered.l0
      repeat' first
      | (with_reducible exact ih0 _ _)
      | (with_reducible exact LeO.refl _)
      | (with_reducible exact LeO.none _)
      | (with_reducible refine LeO.ite ?_ ?_)
      | (with_reducible refine LeO.bind ?_ (fun _ => ?_))
      | exact ih0 _ _
      | exact LeO.none _
      | refine LeO.ite ?_ ?_
      | refine LeO.bind ?_ (fun _ => ?_)
theorem carrackref06_Ordered.mono : ∀ a0 k, LeO (carrackref06_Ordered.f k a0) (carrackref06_Ordered.f (k + 1) a0) := by
  intro a0 k
  have ih0 := carrackref06_Ordered.mono_l k
  unfold carrackref06_Ordered.f
  repeat' first
      | (with_reducible exact ih0 _ _)
      | (with_reducible exact LeO.refl _)
      | (with_reducible exact LeO.none _)
      | (with_reducible refine LeO.ite ?_ ?_)
      | (with_reducible refine LeO.bind ?_ (fun _ => ?_))
      | exact ih0 _ _
      | exact LeO.none _
      | refine LeO.ite ?_ ?_
      | refine LeO.bind ?_ (fun _ => ?_)
def carrackref06_Ordered.T4 : Bool × List (List Nat × List Nat) := (true, [([], []), ([], []), ([1], [1]), ([0, 2], [0, 2]), ([3], [3]), ([4], [4]), ([], []), ([], []), ([6, 7], [6, 7]), ([8], [8]), ([9], [9]), ([5, 10], [5, 10]), ([11], [11])])
def carrackref06_Ordered.B4 : List Nat := [0, 0, 2, 7, 15, 31, 0, 0, 192, 448, 960, 2047, 4095]
theorem carrackref06_Ordered.tab4 : rtab .any (opsOf Try.f40 4) = carrackref06_Ordered.T4 := by kernel_rfl
theorem carrackref06_Ordered.bits4 : waitsOk carrackref06_Ordered.T4.2 carrackref06_Ordered.B4 = true := by kernel_rfl
set_option maxHeartbeats 8000000 in
set_option maxRecDepth 100000 in
theorem carrackref06_Ordered.calls (k : Nat) (A0 : Option Addr) (c0 : Nat) (l0 : List (S47)) (r : Bool) (w : World) (hr0 : Kd.C k47 w A0 l0.length l0) (hc0 : l0.length ≤ c0) (h : carrackref06_Ordered.f k l0 = some r) :
    Calls Try.prog 40 #[.slice A0 l0.length c0] w fun e w' => e = .returned (.bool r) ∧ Below w.heap.size w w' := by
  have hu30 := Try.underlying30
  have HR0 := Aside0.mk hr0
  have HC0 := Aside0.mk hc0
  clear hr0 hc0
  have HB := Aside0.mk (Below.refl w.heap.size w)
  have H : (carrackref06_Ordered.l0 k l0 1) = some r := h
  clear h
  have H' := Aside0.mk H
  clear H
  go_enter Try.func40, Try.ntmps40
  go_wp2
  go_loopg [3] k (fun kq v3 w' => ∃ (x3_1 : Int), v3 = .int .i64 x3_1 ∧ Aside0 (carrackref06_Ordered.l0 kq l0 x3_1 = some r) ∧ Aside0 (kq ≤ k) ∧ Aside0 (Below w.heap.size w w'))
  case atStart => exact ⟨(1), (by first | rfl | (simp; done) | (simp [*]; done)), H', ⟨Nat.le_refl _⟩, ⟨by repeat (first | (with_reducible first | exact HB.out | apply below_alloc | apply pw_below_drewN | apply below_drew1) | exact HB.out)⟩⟩
  case round =>
    clear H'
    obtain ⟨x3_1, rfl, HA, HK1, HB⟩ := hrel
    cases gk with
    | zero => exact absurd HA.out (by simp [carrackref06_Ordered.l0])
    | succ k1 =>
      have H := HA.out
      clear HA
      simp only [carrackref06_Ordered.l0] at H
      by_cases c2 : x3_1 < (l0.length : Int)
      · rw [if_pos c2] at H
        have c2b0 : decide (x3_1 < (l0.length : Int)) = true := decide_eq_true c2
        clear c2
        obtain ⟨ji3, hji3⟩ : ∃ j_ : Int, (wrap64 (x3_1 - 1)) = j_ := ⟨_, rfl⟩
        replace H : (if 0 ≤ (ji3) then (if (ji3) < (l0.length : Int) then (if 0 ≤ x3_1 then ((carrackref06_Before.f ((rd_T47 l0 (ji3)).f0.f0) ((rd_T47 l0 (ji3)).f0.f1) ((rd_T47 l0 (ji3)).f0.f2) ((rd_T47 l0 (ji3)).f0.f3) ((rd_T47 l0 x3_1).f0.f0) ((rd_T47 l0 x3_1).f0.f1) ((rd_T47 l0 x3_1).f0.f2) ((rd_T47 l0 x3_1).f0.f3)).bind fun t151 => (if t151 = true then (carrackref06_Ordered.l0 k1 l0 (wrap64 (x3_1 + 1))) else (some false))) else (none)) else (none)) else (none)) = some r := by first | (rw [hji3] at H; exact H) | (simp only [hji3] at H ⊢; exact H)
        have hji3w : (IntKind.i64.wrap (x3_1 - 1)) = ji3 := (i64_w _).trans hji3
        by_cases c4 : 0 ≤ (ji3)
        · rw [if_pos c4] at H
          have c4b0 : decide (0 ≤ (ji3)) = true := decide_eq_true c4
          clear c4
          by_cases c5 : (ji3) < (l0.length : Int)
          · rw [if_pos c5] at H
            have c5b0 : decide ((ji3) < (l0.length : Int)) = true := decide_eq_true c5
            clear c5
            by_cases c6 : 0 ≤ x3_1
            · rw [if_pos c6] at H
              have c6b0 : decide (0 ≤ x3_1) = true := decide_eq_true c6
              clear c6
              replace H := Option.bind_eq_some_iff.mp H
              obtain ⟨t151, A70, H⟩ := H
              replace H : (if t151 = true then (carrackref06_Ordered.l0 k1 l0 (wrap64 (x3_1 + 1))) else (some false)) = some r := H
              have A7 := Aside0.mk A70
              clear A70
              by_cases c8 : t151 = true
              · subst c8
                have H1 : (carrackref06_Ordered.l0 k1 l0 (wrap64 (x3_1 + 1))) = some r := by rw [if_pos rfl] at H; exact H
                clear H
                have H := H1
                clear H1
                have H' := Aside0.mk H
                clear H
                try go_wp2
                have n0_ := Aside0.mk (below_drew1 HB.out)
                clear HB
                have HB := n0_
                clear n0_
                have p149 : 0 ≤ ((ji3) : Int) := of_decide_eq_true (by first | (with_reducible assumption) | assumption)
                have q149 : (ji3) < (l0.length : Int) := of_decide_eq_true (by first | (with_reducible assumption) | assumption)
                obtain ⟨ad149, A149_4, c149_4, e149, hx149_0, hx149_1, hx149_2, hx149_3, hx149_4, hl149_4, hi149_4⟩ := at_T47 HR0.out (ji3) p149 q149
                have hw149_4 := hx149_4
                have hw149_3 := hx149_3
                have hw149_2 := hx149_2
                have hw149_1 := hx149_1
                have hw149_0 := hx149_0
                cases e149
                replace hx149_0 := (HB.out.cell (World.block_lt_of_cell? w _ hx149_0)).trans hx149_0
                replace hx149_1 := (HB.out.cell (World.block_lt_of_cell? w _ hx149_1)).trans hx149_1
                replace hx149_2 := (HB.out.cell (World.block_lt_of_cell? w _ hx149_2)).trans hx149_2
                replace hx149_3 := (HB.out.cell (World.block_lt_of_cell? w _ hx149_3)).trans hx149_3
                replace hx149_4 := (HB.out.cell (World.block_lt_of_cell? w _ hx149_4)).trans hx149_4
                have HR149_4 := Aside0.mk hi149_4
                have HC149_4 := Aside0.mk hl149_4
                clear hi149_4 hl149_4
                replace p149 := eq_true p149
                replace q149 := eq_true q149
                have p150 : 0 ≤ (x3_1 : Int) := of_decide_eq_true (by first | (with_reducible assumption) | assumption)
                have q150 : x3_1 < (l0.length : Int) := of_decide_eq_true (by first | (with_reducible assumption) | assumption)
                obtain ⟨ad150, A150_4, c150_4, e150, hx150_0, hx150_1, hx150_2, hx150_3, hx150_4, hl150_4, hi150_4⟩ := at_T47 HR0.out x3_1 p150 q150
                have hw150_4 := hx150_4
                have hw150_3 := hx150_3
                have hw150_2 := hx150_2
                have hw150_1 := hx150_1
                have hw150_0 := hx150_0
                obtain rfl : ad149 = ad150 := (by injection e150)
                replace hx150_0 := (HB.out.cell (World.block_lt_of_cell? w _ hx150_0)).trans hx150_0
                replace hx150_1 := (HB.out.cell (World.block_lt_of_cell? w _ hx150_1)).trans hx150_1
                replace hx150_2 := (HB.out.cell (World.block_lt_of_cell? w _ hx150_2)).trans hx150_2
                replace hx150_3 := (HB.out.cell (World.block_lt_of_cell? w _ hx150_3)).trans hx150_3
                replace hx150_4 := (HB.out.cell (World.block_lt_of_cell? w _ hx150_4)).trans hx150_4
                have HR150_4 := Aside0.mk hi150_4
                have HC150_4 := Aside0.mk hl150_4
                clear hi150_4 hl150_4
                replace p150 := eq_true p150
                replace q150 := eq_true q150
                refine start_ (n := 13) (S := fun w' => w'.cell? (ad149.add (((ji3)).toNat * 5)) = some (.int .i64 ((rd_T47 l0 (ji3)).f0.f0)) ∧ w'.cell? ⟨(ad149.add (((ji3)).toNat * 5)).block, (ad149.add (((ji3)).toNat * 5)).off + 1, none⟩ = some (.int .u8 ((rd_T47 l0 (ji3)).f0.f1)) ∧ w'.cell? ⟨(ad149.add (((ji3)).toNat * 5)).block, (ad149.add (((ji3)).toNat * 5)).off + 2, none⟩ = some (.string ((rd_T47 l0 (ji3)).f0.f2)) ∧ w'.cell? ⟨(ad149.add (((ji3)).toNat * 5)).block, (ad149.add (((ji3)).toNat * 5)).off + 3, none⟩ = some (.int .i64 ((rd_T47 l0 (ji3)).f0.f3)) ∧ w'.cell? ⟨(ad149.add (((ji3)).toNat * 5)).block, (ad149.add (((ji3)).toNat * 5)).off + 4, none⟩ = some (.slice A149_4 ((rd_T47 l0 (ji3)).f1).length c149_4) ∧ w'.cell? (ad149.add ((x3_1).toNat * 5)) = some (.int .i64 ((rd_T47 l0 x3_1).f0.f0)) ∧ w'.cell? ⟨(ad149.add ((x3_1).toNat * 5)).block, (ad149.add ((x3_1).toNat * 5)).off + 1, none⟩ = some (.int .u8 ((rd_T47 l0 x3_1).f0.f1)) ∧ w'.cell? ⟨(ad149.add ((x3_1).toNat * 5)).block, (ad149.add ((x3_1).toNat * 5)).off + 2, none⟩ = some (.string ((rd_T47 l0 x3_1).f0.f2)) ∧ w'.cell? ⟨(ad149.add ((x3_1).toNat * 5)).block, (ad149.add ((x3_1).toNat * 5)).off + 3, none⟩ = some (.int .i64 ((rd_T47 l0 x3_1).f0.f3)) ∧ w'.cell? ⟨(ad149.add ((x3_1).toNat * 5)).block, (ad149.add ((x3_1).toNat * 5)).off + 4, none⟩ = some (.slice A150_4 ((rd_T47 l0 x3_1).f1).length c150_4)) (ds := []) #[false, false, false, false, false, false, false, false, false, false, false, false, false] (by kernel_rfl) rfl rfl ⟨((HB.out.cell (World.block_lt_of_cell? w _ hw149_0)).trans hw149_0), ((HB.out.cell (World.block_lt_of_cell? w _ hw149_1)).trans hw149_1), ((HB.out.cell (World.block_lt_of_cell? w _ hw149_2)).trans hw149_2), ((HB.out.cell (World.block_lt_of_cell? w _ hw149_3)).trans hw149_3), ((HB.out.cell (World.block_lt_of_cell? w _ hw149_4)).trans hw149_4), ((HB.out.cell (World.block_lt_of_cell? w _ hw150_0)).trans hw150_0), ((HB.out.cell (World.block_lt_of_cell? w _ hw150_1)).trans hw150_1), ((HB.out.cell (World.block_lt_of_cell? w _ hw150_2)).trans hw150_2), ((HB.out.cell (World.block_lt_of_cell? w _ hw150_3)).trans hw150_3), ((HB.out.cell (World.block_lt_of_cell? w _ hw150_4)).trans hw150_4)⟩ (fun hHeld => ?_); refine with_tabW carrackref06_Ordered.tab4 carrackref06_Ordered.bits4 (fun HT_ HW_ => ?_)
                generalize wr.drew = w9 at HB HR149_4 HR150_4 hx149_0 hx149_1 hx149_2 hx149_3 hx149_4 hx150_0 hx150_1 hx150_2 hx150_3 hx150_4 hHeld ⊢
                refine pure_ (i := 0) (N := some 10) (v := ?_) (a' := ?_) #[true, false, false, false, false, false, false, false, false, false, false, false, false] rfl rfl (any_of HT_.out (by kernel_rfl)) (fun _ _ _ h => h) (Or.inl ⟨by rfl, ?_⟩) ?_ ?_
                rotate_left
                · intro w'
                  go_simp
                  with_reducible rfl
                rotate_left
                · simp only [Act.put, List.setIfInBounds_toArray, List.set_cons_zero, List.set_cons_succ, i64_w, i32_w]
                  rfl
                refine pure_ (i := 1) (N := some 11) (v := ?_) (a' := ?_) #[true, true, false, false, false, false, false, false, false, false, false, false, false] rfl rfl (any_of HT_.out (by kernel_rfl)) (fun _ _ _ h => h) (Or.inl ⟨by rfl, ?_⟩) ?_ ?_
                rotate_left
                · intro w'
                  go_simp
                  with_reducible rfl
                rotate_left
                · simp only [Act.put, List.setIfInBounds_toArray, List.set_cons_zero, List.set_cons_succ, i64_w, i32_w]
                  rfl
                refine pure_ (i := 2) (N := some 12) (v := ?_) (a' := ?_) #[true, true, true, false, false, false, false, false, false, false, false, false, false] rfl rfl (any_of HT_.out (by kernel_rfl)) (fun _ _ _ h => h) (Or.inl ⟨by rfl, ?_⟩) ?_ ?_
                rotate_left
                · intro w'
                  go_simp
                  with_reducible rfl
                rotate_left
                · simp only [Act.put, List.setIfInBounds_toArray, List.set_cons_zero, List.set_cons_succ, i64_w, i32_w]
                  rfl
                refine pure_ (i := 3) (N := some 13) (v := ?_) (a' := ?_) #[true, true, true, true, false, false, false, false, false, false, false, false, false] rfl rfl (any_of HT_.out (by kernel_rfl)) (fun _ _ _ h => h) (Or.inl ⟨by rfl, ?_⟩) ?_ ?_
                rotate_left
                · intro w'
                  go_simp
                  with_reducible rfl
                rotate_left
                · simp only [Act.put, List.setIfInBounds_toArray, List.set_cons_zero, List.set_cons_succ, i64_w, i32_w]
                  rfl
                refine pure_ (i := 4) (N := some 14) (v := ?_) (a' := ?_) #[true, true, true, true, true, false, false, false, false, false, false, false, false] rfl rfl (any_of HT_.out (by kernel_rfl)) (fun _ _ _ h => h) (Or.inl ⟨by rfl, ?_⟩) ?_ ?_
                rotate_left
                · intro w'
                  go_simp
                  with_reducible rfl
                rotate_left
                · simp only [Act.put, List.setIfInBounds_toArray, List.set_cons_zero, List.set_cons_succ, i64_w, i32_w]
                  rfl
                refine pure_ (i := 6) (N := some 16) (v := ?_) (a' := ?_) #[true, true, true, true, true, false, true, false, false, false, false, false, false] rfl rfl (any_of HT_.out (by kernel_rfl)) (fun _ _ _ h => h) (Or.inl ⟨by rfl, ?_⟩) ?_ ?_
                rotate_left
                · intro w'
                  go_simp
                  with_reducible rfl
                rotate_left
                · simp only [Act.put, List.setIfInBounds_toArray, List.set_cons_zero, List.set_cons_succ, i64_w, i32_w]
                  rfl
                refine pure_ (i := 7) (N := some 17) (v := ?_) (a' := ?_) #[true, true, true, true, true, false, true, true, false, false, false, false, false] rfl rfl (any_of HT_.out (by kernel_rfl)) (fun _ _ _ h => h) (Or.inl ⟨by rfl, ?_⟩) ?_ ?_
                rotate_left
                · intro w'
                  go_simp
                  with_reducible rfl
                rotate_left
                · simp only [Act.put, List.setIfInBounds_toArray, List.set_cons_zero, List.set_cons_succ, i64_w, i32_w]
                  rfl
                refine pure_ (i := 8) (N := some 18) (v := ?_) (a' := ?_) #[true, true, true, true, true, false, true, true, true, false, false, false, false] rfl rfl (any_of HT_.out (by kernel_rfl)) (fun _ _ _ h => h) (Or.inl ⟨by rfl, ?_⟩) ?_ ?_
                rotate_left
                · intro w'
                  go_simp
                  with_reducible rfl
                rotate_left
                · simp only [Act.put, List.setIfInBounds_toArray, List.set_cons_zero, List.set_cons_succ, i64_w, i32_w]
                  rfl
                refine pure_ (i := 9) (N := some 19) (v := ?_) (a' := ?_) #[true, true, true, true, true, false, true, true, true, true, false, false, false] rfl rfl (any_of HT_.out (by kernel_rfl)) (fun _ _ _ h => h) (Or.inl ⟨by rfl, ?_⟩) ?_ ?_
                rotate_left
                · intro w'
                  go_simp
                  with_reducible rfl
                rotate_left
                · simp only [Act.put, List.setIfInBounds_toArray, List.set_cons_zero, List.set_cons_succ, i64_w, i32_w]
                  rfl
                refine take_ (i := 5) (N := some 15) (v := ?_) (a' := ?_) #[true, true, true, true, true, true, true, true, true, true, false, false, false] rfl rfl (take_ofW HT_.out HW_.out (by kernel_rfl)) (fun _ _ _ h => h) (Or.inl ⟨by rfl, ?_⟩) hHeld ?_ ?_
                rotate_left
                · rintro w' ⟨s0, s1, s2, s3, s4, s5, s6, s7, s8, s9⟩
                  go_simp
                  with_reducible rfl
                rotate_left
                · simp only [Act.put, List.setIfInBounds_toArray, List.set_cons_zero, List.set_cons_succ, i64_w, i32_w]
                  rfl
                refine take_ (i := 10) (N := some 20) (v := ?_) (a' := ?_) #[true, true, true, true, true, true, true, true, true, true, true, false, false] rfl rfl (take_ofW HT_.out HW_.out (by kernel_rfl)) (fun _ _ _ h => h) (Or.inl ⟨by rfl, ?_⟩) hHeld ?_ ?_
                rotate_left
                · rintro w' ⟨s0, s1, s2, s3, s4, s5, s6, s7, s8, s9⟩
                  go_simp
                  with_reducible rfl
                rotate_left
                · simp only [Act.put, List.setIfInBounds_toArray, List.set_cons_zero, List.set_cons_succ, i64_w, i32_w]
                  rfl
                refine one_ (i := 11) (N := some 21) #[true, true, true, true, true, true, true, true, true, true, true, true, false] rfl rfl (one_of HT_.out (by kernel_rfl)) (by decide) (fun K hK => ?_)
                refine goes_ Try.func58 (by kernel_rfl) rfl #[.agg #[.int .i64 ((rd_T47 l0 (ji3)).f0.f0), .int .u8 ((rd_T47 l0 (ji3)).f0.f1), .string ((rd_T47 l0 (ji3)).f0.f2), .int .i64 ((rd_T47 l0 (ji3)).f0.f3)], .agg #[.int .i64 ((rd_T47 l0 x3_1).f0.f0), .int .u8 ((rd_T47 l0 x3_1).f0.f1), .string ((rd_T47 l0 x3_1).f0.f2), .int .i64 ((rd_T47 l0 x3_1).f0.f3)]] (by rfl) rfl rfl (by (try simp only [List.map_toArray, List.map_cons, List.map_nil]); first | done | (simp only [hji3]; rfl) | rfl | (simp only [List.length_drop, List.length_take]; rfl)) ?_
                with_reducible refine (carrackref06_Before.calls ((rd_T47 l0 (ji3)).f0.f0) ((rd_T47 l0 (ji3)).f0.f1) ((rd_T47 l0 (ji3)).f0.f2) ((rd_T47 l0 (ji3)).f0.f3) ((rd_T47 l0 x3_1).f0.f0) ((rd_T47 l0 x3_1).f0.f1) ((rd_T47 l0 x3_1).f0.f2) ((rd_T47 l0 x3_1).f0.f3) true _ A7.out).mono ?_
                rintro e w10 ⟨rfl, hb⟩
                refine ⟨_, rfl, ?_⟩
                have n0_ := Aside0.mk (below_step (by repeat (first | (with_reducible first | exact HB.out | apply below_alloc | apply pw_below_drewN | apply below_drew1) | exact HB.out)) hb)
                clear HB
                have HB := n0_
                clear n0_
                (try clear hb)
                (try clear hb2)
                (try clear hk)
                (try clear hi)
                refine hK.out _ _ ⟨((HB.out.cell (World.block_lt_of_cell? w _ hw149_0)).trans hw149_0), ((HB.out.cell (World.block_lt_of_cell? w _ hw149_1)).trans hw149_1), ((HB.out.cell (World.block_lt_of_cell? w _ hw149_2)).trans hw149_2), ((HB.out.cell (World.block_lt_of_cell? w _ hw149_3)).trans hw149_3), ((HB.out.cell (World.block_lt_of_cell? w _ hw149_4)).trans hw149_4), ((HB.out.cell (World.block_lt_of_cell? w _ hw150_0)).trans hw150_0), ((HB.out.cell (World.block_lt_of_cell? w _ hw150_1)).trans hw150_1), ((HB.out.cell (World.block_lt_of_cell? w _ hw150_2)).trans hw150_2), ((HB.out.cell (World.block_lt_of_cell? w _ hw150_3)).trans hw150_3), ((HB.out.cell (World.block_lt_of_cell? w _ hw150_4)).trans hw150_4)⟩ (fun hHeld => ?_)
                clear hK K
                refine norm_ (a' := ?_) ?_ ?_
                rotate_left
                · show Act.put _ (some 21) _ = _
                  simp only [Act.put, List.setIfInBounds_toArray, List.set_cons_zero, List.set_cons_succ, i64_w, i32_w]
                  rfl
                refine pure_ (i := 12) (N := some 22) (v := ?_) (a' := ?_) #[true, true, true, true, true, true, true, true, true, true, true, true, true] rfl rfl (any_of HT_.out (by kernel_rfl)) (fun _ _ _ h => h) (Or.inl ⟨by rfl, ?_⟩) ?_ ?_
                rotate_left
                · intro w'
                  go_simp
                  with_reducible rfl
                rotate_left
                · simp only [Act.put, List.setIfInBounds_toArray, List.set_cons_zero, List.set_cons_succ, i64_w, i32_w]
                  rfl
                refine done_ (done_of HT_.out (by kernel_rfl)) ?_
                try go_wp2
                go_roundg k1
                case measure => have := HK1.out; omega
                case rel => exact ⟨(wrap64 (x3_1 + 1)), (by first | rfl | (simp; done) | (simp [*]; done)), H', ⟨by have := HK1.out; omega⟩, ⟨by repeat (first | (with_reducible first | exact HB.out | apply below_alloc | apply pw_below_drewN | apply below_drew1) | exact HB.out)⟩⟩
              · replace c8 := Bool.eq_false_iff.mpr c8
                subst c8
                have H1 : (some false) = some r := by rw [if_neg (show ¬ (false = true) by decide)] at H; exact H
                clear H
                have H := H1
                clear H1
                obtain rfl := Option.some.inj H
                try go_wp2
                have n0_ := Aside0.mk (below_drew1 HB.out)
                clear HB
                have HB := n0_
                clear n0_
                have p149 : 0 ≤ ((ji3) : Int) := of_decide_eq_true (by first | (with_reducible assumption) | assumption)
                have q149 : (ji3) < (l0.length : Int) := of_decide_eq_true (by first | (with_reducible assumption) | assumption)
                obtain ⟨ad149, A149_4, c149_4, e149, hx149_0, hx149_1, hx149_2, hx149_3, hx149_4, hl149_4, hi149_4⟩ := at_T47 HR0.out (ji3) p149 q149
                have hw149_4 := hx149_4
                have hw149_3 := hx149_3
                have hw149_2 := hx149_2
                have hw149_1 := hx149_1
                have hw149_0 := hx149_0
                cases e149
                replace hx149_0 := (HB.out.cell (World.block_lt_of_cell? w _ hx149_0)).trans hx149_0
                replace hx149_1 := (HB.out.cell (World.block_lt_of_cell? w _ hx149_1)).trans hx149_1
                replace hx149_2 := (HB.out.cell (World.block_lt_of_cell? w _ hx149_2)).trans hx149_2
                replace hx149_3 := (HB.out.cell (World.block_lt_of_cell? w _ hx149_3)).trans hx149_3
                replace hx149_4 := (HB.out.cell (World.block_lt_of_cell? w _ hx149_4)).trans hx149_4
                have HR149_4 := Aside0.mk hi149_4
                have HC149_4 := Aside0.mk hl149_4
                clear hi149_4 hl149_4
                replace p149 := eq_true p149
                replace q149 := eq_true q149
                have p150 : 0 ≤ (x3_1 : Int) := of_decide_eq_true (by first | (with_reducible assumption) | assumption)
                have q150 : x3_1 < (l0.length : Int) := of_decide_eq_true (by first | (with_reducible assumption) | assumption)
                obtain ⟨ad150, A150_4, c150_4, e150, hx150_0, hx150_1, hx150_2, hx150_3, hx150_4, hl150_4, hi150_4⟩ := at_T47 HR0.out x3_1 p150 q150
                have hw150_4 := hx150_4
                have hw150_3 := hx150_3
                have hw150_2 := hx150_2
                have hw150_1 := hx150_1
                have hw150_0 := hx150_0
                obtain rfl : ad149 = ad150 := (by injection e150)
                replace hx150_0 := (HB.out.cell (World.block_lt_of_cell? w _ hx150_0)).trans hx150_0
                replace hx150_1 := (HB.out.cell (World.block_lt_of_cell? w _ hx150_1)).trans hx150_1
                replace hx150_2 := (HB.out.cell (World.block_lt_of_cell? w _ hx150_2)).trans hx150_2
                replace hx150_3 := (HB.out.cell (World.block_lt_of_cell? w _ hx150_3)).trans hx150_3
                replace hx150_4 := (HB.out.cell (World.block_lt_of_cell? w _ hx150_4)).trans hx150_4
                have HR150_4 := Aside0.mk hi150_4
                have HC150_4 := Aside0.mk hl150_4
                clear hi150_4 hl150_4
                replace p150 := eq_true p150
                replace q150 := eq_true q150
                refine start_ (n := 13) (S := fun w' => w'.cell? (ad149.add (((ji3)).toNat * 5)) = some (.int .i64 ((rd_T47 l0 (ji3)).f0.f0)) ∧ w'.cell? ⟨(ad149.add (((ji3)).toNat * 5)).block, (ad149.add (((ji3)).toNat * 5)).off + 1, none⟩ = some (.int .u8 ((rd_T47 l0 (ji3)).f0.f1)) ∧ w'.cell? ⟨(ad149.add (((ji3)).toNat * 5)).block, (ad149.add (((ji3)).toNat * 5)).off + 2, none⟩ = some (.string ((rd_T47 l0 (ji3)).f0.f2)) ∧ w'.cell? ⟨(ad149.add (((ji3)).toNat * 5)).block, (ad149.add (((ji3)).toNat * 5)).off + 3, none⟩ = some (.int .i64 ((rd_T47 l0 (ji3)).f0.f3)) ∧ w'.cell? ⟨(ad149.add (((ji3)).toNat * 5)).block, (ad149.add (((ji3)).toNat * 5)).off + 4, none⟩ = some (.slice A149_4 ((rd_T47 l0 (ji3)).f1).length c149_4) ∧ w'.cell? (ad149.add ((x3_1).toNat * 5)) = some (.int .i64 ((rd_T47 l0 x3_1).f0.f0)) ∧ w'.cell? ⟨(ad149.add ((x3_1).toNat * 5)).block, (ad149.add ((x3_1).toNat * 5)).off + 1, none⟩ = some (.int .u8 ((rd_T47 l0 x3_1).f0.f1)) ∧ w'.cell? ⟨(ad149.add ((x3_1).toNat * 5)).block, (ad149.add ((x3_1).toNat * 5)).off + 2, none⟩ = some (.string ((rd_T47 l0 x3_1).f0.f2)) ∧ w'.cell? ⟨(ad149.add ((x3_1).toNat * 5)).block, (ad149.add ((x3_1).toNat * 5)).off + 3, none⟩ = some (.int .i64 ((rd_T47 l0 x3_1).f0.f3)) ∧ w'.cell? ⟨(ad149.add ((x3_1).toNat * 5)).block, (ad149.add ((x3_1).toNat * 5)).off + 4, none⟩ = some (.slice A150_4 ((rd_T47 l0 x3_1).f1).length c150_4)) (ds := []) #[false, false, false, false, false, false, false, false, false, false, false, false, false] (by kernel_rfl) rfl rfl ⟨((HB.out.cell (World.block_lt_of_cell? w _ hw149_0)).trans hw149_0), ((HB.out.cell (World.block_lt_of_cell? w _ hw149_1)).trans hw149_1), ((HB.out.cell (World.block_lt_of_cell? w _ hw149_2)).trans hw149_2), ((HB.out.cell (World.block_lt_of_cell? w _ hw149_3)).trans hw149_3), ((HB.out.cell (World.block_lt_of_cell? w _ hw149_4)).trans hw149_4), ((HB.out.cell (World.block_lt_of_cell? w _ hw150_0)).trans hw150_0), ((HB.out.cell (World.block_lt_of_cell? w _ hw150_1)).trans hw150_1), ((HB.out.cell (World.block_lt_of_cell? w _ hw150_2)).trans hw150_2), ((HB.out.cell (World.block_lt_of_cell? w _ hw150_3)).trans hw150_3), ((HB.out.cell (World.block_lt_of_cell? w _ hw150_4)).trans hw150_4)⟩ (fun hHeld => ?_); refine with_tabW carrackref06_Ordered.tab4 carrackref06_Ordered.bits4 (fun HT_ HW_ => ?_)
                generalize wr.drew = w11 at HB HR149_4 HR150_4 hx149_0 hx149_1 hx149_2 hx149_3 hx149_4 hx150_0 hx150_1 hx150_2 hx150_3 hx150_4 hHeld ⊢
                refine pure_ (i := 0) (N := some 10) (v := ?_) (a' := ?_) #[true, false, false, false, false, false, false, false, false, false, false, false, false] rfl rfl (any_of HT_.out (by kernel_rfl)) (fun _ _ _ h => h) (Or.inl ⟨by rfl, ?_⟩) ?_ ?_
                rotate_left
                · intro w'
                  go_simp
                  with_reducible rfl
                rotate_left
                · simp only [Act.put, List.setIfInBounds_toArray, List.set_cons_zero, List.set_cons_succ, i64_w, i32_w]
                  rfl
                refine pure_ (i := 1) (N := some 11) (v := ?_) (a' := ?_) #[true, true, false, false, false, false, false, false, false, false, false, false, false] rfl rfl (any_of HT_.out (by kernel_rfl)) (fun _ _ _ h => h) (Or.inl ⟨by rfl, ?_⟩) ?_ ?_
                rotate_left
                · intro w'
                  go_simp
                  with_reducible rfl
                rotate_left
                · simp only [Act.put, List.setIfInBounds_toArray, List.set_cons_zero, List.set_cons_succ, i64_w, i32_w]
                  rfl
                refine pure_ (i := 2) (N := some 12) (v := ?_) (a' := ?_) #[true, true, true, false, false, false, false, false, false, false, false, false, false] rfl rfl (any_of HT_.out (by kernel_rfl)) (fun _ _ _ h => h) (Or.inl ⟨by rfl, ?_⟩) ?_ ?_
                rotate_left
                · intro w'
                  go_simp
                  with_reducible rfl
                rotate_left
                · simp only [Act.put, List.setIfInBounds_toArray, List.set_cons_zero, List.set_cons_succ, i64_w, i32_w]
                  rfl
                refine pure_ (i := 3) (N := some 13) (v := ?_) (a' := ?_) #[true, true, true, true, false, false, false, false, false, false, false, false, false] rfl rfl (any_of HT_.out (by kernel_rfl)) (fun _ _ _ h => h) (Or.inl ⟨by rfl, ?_⟩) ?_ ?_
                rotate_left
                · intro w'
                  go_simp
                  with_reducible rfl
                rotate_left
                · simp only [Act.put, List.setIfInBounds_toArray, List.set_cons_zero, List.set_cons_succ, i64_w, i32_w]
                  rfl
                refine pure_ (i := 4) (N := some 14) (v := ?_) (a' := ?_) #[true, true, true, true, true, false, false, false, false, false, false, false, false] rfl rfl (any_of HT_.out (by kernel_rfl)) (fun _ _ _ h => h) (Or.inl ⟨by rfl, ?_⟩) ?_ ?_
                rotate_left
                · intro w'
                  go_simp
                  with_reducible rfl
                rotate_left
                · simp only [Act.put, List.setIfInBounds_toArray, List.set_cons_zero, List.set_cons_succ, i64_w, i32_w]
                  rfl
                refine pure_ (i := 6) (N := some 16) (v := ?_) (a' := ?_) #[true, true, true, true, true, false, true, false, false, false, false, false, false] rfl rfl (any_of HT_.out (by kernel_rfl)) (fun _ _ _ h => h) (Or.inl ⟨by rfl, ?_⟩) ?_ ?_
                rotate_left
                · intro w'
                  go_simp
                  with_reducible rfl
                rotate_left
                · simp only [Act.put, List.setIfInBounds_toArray, List.set_cons_zero, List.set_cons_succ, i64_w, i32_w]
                  rfl
                refine pure_ (i := 7) (N := some 17) (v := ?_) (a' := ?_) #[true, true, true, true, true, false, true, true, false, false, false, false, false] rfl rfl (any_of HT_.out (by kernel_rfl)) (fun _ _ _ h => h) (Or.inl ⟨by rfl, ?_⟩) ?_ ?_
                rotate_left
                · intro w'
                  go_simp
                  with_reducible rfl
                rotate_left
                · simp only [Act.put, List.setIfInBounds_toArray, List.set_cons_zero, List.set_cons_succ, i64_w, i32_w]
                  rfl
                refine pure_ (i := 8) (N := some 18) (v := ?_) (a' := ?_) #[true, true, true, true, true, false, true, true, true, false, false, false, false] rfl rfl (any_of HT_.out (by kernel_rfl)) (fun _ _ _ h => h) (Or.inl ⟨by rfl, ?_⟩) ?_ ?_
                rotate_left
                · intro w'
                  go_simp
                  with_reducible rfl
                rotate_left
                · simp only [Act.put, List.setIfInBounds_toArray, List.set_cons_zero, List.set_cons_succ, i64_w, i32_w]
                  rfl
                refine pure_ (i := 9) (N := some 19) (v := ?_) (a' := ?_) #[true, true, true, true, true, false, true, true, true, true, false, false, false] rfl rfl (any_of HT_.out (by kernel_rfl)) (fun _ _ _ h => h) (Or.inl ⟨by rfl, ?_⟩) ?_ ?_
                rotate_left
                · intro w'
                  go_simp
                  with_reducible rfl
                rotate_left
                · simp only [Act.put, List.setIfInBounds_toArray, List.set_cons_zero, List.set_cons_succ, i64_w, i32_w]
                  rfl
                refine take_ (i := 5) (N := some 15) (v := ?_) (a' := ?_) #[true, true, true, true, true, true, true, true, true, true, false, false, false] rfl rfl (take_ofW HT_.out HW_.out (by kernel_rfl)) (fun _ _ _ h => h) (Or.inl ⟨by rfl, ?_⟩) hHeld ?_ ?_
                rotate_left
                · rintro w' ⟨s0, s1, s2, s3, s4, s5, s6, s7, s8, s9⟩
                  go_simp
                  with_reducible rfl
                rotate_left
                · simp only [Act.put, List.setIfInBounds_toArray, List.set_cons_zero, List.set_cons_succ, i64_w, i32_w]
                  rfl
                refine take_ (i := 10) (N := some 20) (v := ?_) (a' := ?_) #[true, true, true, true, true, true, true, true, true, true, true, false, false] rfl rfl (take_ofW HT_.out HW_.out (by kernel_rfl)) (fun _ _ _ h => h) (Or.inl ⟨by rfl, ?_⟩) hHeld ?_ ?_
                rotate_left
                · rintro w' ⟨s0, s1, s2, s3, s4, s5, s6, s7, s8, s9⟩
                  go_simp
                  with_reducible rfl
                rotate_left
                · simp only [Act.put, List.setIfInBounds_toArray, List.set_cons_zero, List.set_cons_succ, i64_w, i32_w]
                  rfl
                refine one_ (i := 11) (N := some 21) #[true, true, true, true, true, true, true, true, true, true, true, true, false] rfl rfl (one_of HT_.out (by kernel_rfl)) (by decide) (fun K hK => ?_)
                refine goes_ Try.func58 (by kernel_rfl) rfl #[.agg #[.int .i64 ((rd_T47 l0 (ji3)).f0.f0), .int .u8 ((rd_T47 l0 (ji3)).f0.f1), .string ((rd_T47 l0 (ji3)).f0.f2), .int .i64 ((rd_T47 l0 (ji3)).f0.f3)], .agg #[.int .i64 ((rd_T47 l0 x3_1).f0.f0), .int .u8 ((rd_T47 l0 x3_1).f0.f1), .string ((rd_T47 l0 x3_1).f0.f2), .int .i64 ((rd_T47 l0 x3_1).f0.f3)]] (by rfl) rfl rfl (by (try simp only [List.map_toArray, List.map_cons, List.map_nil]); first | done | (simp only [hji3]; rfl) | rfl | (simp only [List.length_drop, List.length_take]; rfl)) ?_
                with_reducible refine (carrackref06_Before.calls ((rd_T47 l0 (ji3)).f0.f0) ((rd_T47 l0 (ji3)).f0.f1) ((rd_T47 l0 (ji3)).f0.f2) ((rd_T47 l0 (ji3)).f0.f3) ((rd_T47 l0 x3_1).f0.f0) ((rd_T47 l0 x3_1).f0.f1) ((rd_T47 l0 x3_1).f0.f2) ((rd_T47 l0 x3_1).f0.f3) false _ A7.out).mono ?_
                rintro e w12 ⟨rfl, hb⟩
                refine ⟨_, rfl, ?_⟩
                have n0_ := Aside0.mk (below_step (by repeat (first | (with_reducible first | exact HB.out | apply below_alloc | apply pw_below_drewN | apply below_drew1) | exact HB.out)) hb)
                clear HB
                have HB := n0_
                clear n0_
                (try clear hb)
                (try clear hb2)
                (try clear hk)
                (try clear hi)
                refine hK.out _ _ ⟨((HB.out.cell (World.block_lt_of_cell? w _ hw149_0)).trans hw149_0), ((HB.out.cell (World.block_lt_of_cell? w _ hw149_1)).trans hw149_1), ((HB.out.cell (World.block_lt_of_cell? w _ hw149_2)).trans hw149_2), ((HB.out.cell (World.block_lt_of_cell? w _ hw149_3)).trans hw149_3), ((HB.out.cell (World.block_lt_of_cell? w _ hw149_4)).trans hw149_4), ((HB.out.cell (World.block_lt_of_cell? w _ hw150_0)).trans hw150_0), ((HB.out.cell (World.block_lt_of_cell? w _ hw150_1)).trans hw150_1), ((HB.out.cell (World.block_lt_of_cell? w _ hw150_2)).trans hw150_2), ((HB.out.cell (World.block_lt_of_cell? w _ hw150_3)).trans hw150_3), ((HB.out.cell (World.block_lt_of_cell? w _ hw150_4)).trans hw150_4)⟩ (fun hHeld => ?_)
                clear hK K
                refine norm_ (a' := ?_) ?_ ?_
                rotate_left
                · show Act.put _ (some 21) _ = _
                  simp only [Act.put, List.setIfInBounds_toArray, List.set_cons_zero, List.set_cons_succ, i64_w, i32_w]
                  rfl
                refine pure_ (i := 12) (N := some 22) (v := ?_) (a' := ?_) #[true, true, true, true, true, true, true, true, true, true, true, true, true] rfl rfl (any_of HT_.out (by kernel_rfl)) (fun _ _ _ h => h) (Or.inl ⟨by rfl, ?_⟩) ?_ ?_
                rotate_left
                · intro w'
                  go_simp
                  with_reducible rfl
                rotate_left
                · simp only [Act.put, List.setIfInBounds_toArray, List.set_cons_zero, List.set_cons_succ, i64_w, i32_w]
                  rfl
                refine done_ (done_of HT_.out (by kernel_rfl)) ?_
                try go_wp2
                go_ret
                exact ⟨by first | rfl | (simp [errW_none, errW_some] <;> rfl) | (simp only [← hji3]; first | rfl | (simp [errW_none, errW_some] <;> rfl)) | (simp [*, errW_none, errW_some] <;> rfl), by repeat (first | (with_reducible first | exact HB.out | apply below_alloc | apply pw_below_drewN | apply below_drew1) | exact HB.out)⟩
            · rw [if_neg c6] at H
              exact absurd H (by simp)
          · rw [if_neg c5] at H
            exact absurd H (by simp)
        · rw [if_neg c4] at H
          exact absurd H (by simp)
      · rw [if_neg c2] at H
        have c2b0 : decide (x3_1 < (l0.length : Int)) = false := decide_eq_false c2
        clear c2
        obtain rfl := Option.some.inj H
        go_wp2
        go_ret
        exact ⟨by first | rfl | (simp [errW_none, errW_some] <;> rfl) | (simp [*, errW_none, errW_some] <;> rfl), by repeat (first | (with_reducible first | exact HB.out | apply below_alloc | apply pw_below_drewN | apply below_drew1) | exact HB.out)⟩

-- NOT PRINTED: function 41 (carrackref06_one)

end Go.Proofs.Ytbhmncenbpdcjaa.P
end
section
/- Facts in order, plain: what a change does, and that order stays. -/
namespace Go.Proofs.Ytbhmncenbpdcjaa.P
open Go.RowKit Go.Proofs.YtbhmncenbpdcjaaW.PrintWords Go.Proofs.YtbhmncenbpdcjaaW.PrintLast Go.Proofs.YtbhmncenbpdcjaaW.PrintMore
abbrev F := S47
abbrev K := S30
abbrev Ch := S53
theorem wrapS {i : Nat} (h : i < 9223372036854775807) : wrap64 ((i : Int) + 1) = ((i + 1 : Nat) : Int) := by unfold wrap64; omega
theorem wrapP {i : Nat} (h : i < 9223372036854775807) : wrap64 (((i + 1 : Nat) : Int) - 1) = (i : Int) := by unfold wrap64; omega
theorem bef_trans {a b c : K} (h1 : bef a b = true) (h2 : bef b c = true) : bef a c = true := before_trans h1 h2
theorem keyQ_eq (a b : K) : keyQ a b = keyEq a.f0 a.f1 a.f2 a.f3 b.f0 b.f1 b.f2 b.f3 := by
  unfold keyQ keyEq
  rw [Lib.toList_data, Lib.toList_data, Bool.eq_iff_iff]
  simp [Bool.and_eq_true]
theorem bef_one (a b : K) : justOne (bef a b) (bef b a) (keyQ a b) := by rw [keyQ_eq]; exact just_one _ _ _ _ _ _ _ _
theorem bef_self (a : K) : bef a a = false := by
  have := bef_one a a
  have h : keyQ a a = true := (keyQ_iff a a).2 rfl
  rw [h] at this
  rcases this with ⟨_, _, h3⟩ | ⟨_, _, h3⟩ | ⟨h1, _, _⟩
  · cases h3
  · cases h3
  · exact h1
theorem bef_other {a b : K} (h : bef a b = false) (hq : keyQ a b = false) : bef b a = true := by
  have := bef_one a b
  rw [h, hq] at this
  rcases this with ⟨h1, _, _⟩ | ⟨_, h2, _⟩ | ⟨_, _, h3⟩
  · cases h1
  · exact h2
  · cases h3

def ordB : List F → Bool
  | x :: y :: l => bef x.f0 y.f0 && ordB (y :: l)
  | _ => true
def Ord (l : List F) : Prop := l.Pairwise (fun x y => bef x.f0 y.f0 = true)
theorem ordB_iff (l : List F) : ordB l = true ↔ Ord l := by
  unfold Ord
  induction l with
  | nil => simp [ordB]
  | cons x l ih =>
    cases l with
    | nil => simp [ordB]
    | cons y l =>
      rw [List.pairwise_cons, ← ih]
      simp only [ordB, Bool.and_eq_true]
      constructor
      · rintro ⟨h1, h2⟩
        refine ⟨fun z hz => ?_, h2⟩
        rcases List.mem_cons.1 hz with rfl | hz
        · exact h1
        · exact bef_trans h1 ((List.pairwise_cons.1 (ih.1 h2)).1 z hz)
      · rintro ⟨h1, h2⟩
        exact ⟨h1 y (by simp), h2⟩
theorem mono_of (l : List F) (h : Ord l) (k : K) : MonoB l k := by
  intro i j hij hj hi
  rw [rd_nat _ _ (by omega)] at hi
  rw [rd_nat _ _ hj]
  rcases Nat.lt_or_ge i j with hlt | hge
  · cases hb : bef (l[j]).f0 k with
    | false => rfl
    | true =>
      have := (List.pairwise_iff_getElem.1 h) i j (by omega) hj hlt
      have := bef_trans this hb
      rw [hi] at this; cases this
  · obtain rfl : i = j := by omega
    exact hi

/-! ## the printed checks of order -/
theorem ordered_l0 (l : List F) (hl : l.length ≤ 9223372036854775807) : ∀ (rest : List F) (x : F) (i k : Nat), l.drop i = x :: rest → rest.length < k → fact_isOrdered.l0 k l ((i + 1 : Nat) : Int) = some (ordB (x :: rest)) := by
  intro rest
  induction rest with
  | nil =>
    intro x i k hd hk
    obtain ⟨k, rfl⟩ : ∃ m, k = m + 1 := ⟨k - 1, by omega⟩
    have hlen : l.length = i + 1 := by have := congrArg List.length hd; simp at this; omega
    unfold fact_isOrdered.l0
    rw [if_neg (by omega)]
    rfl
  | cons y rest ih =>
    intro x i k hd hk
    obtain ⟨k, rfl⟩ : ∃ m, k = m + 1 := ⟨k - 1, by omega⟩
    have hlen : l.length = i + 2 + rest.length := by have := congrArg List.length hd; simp at this; omega
    have hd1 : l.drop (i + 1) = y :: rest := by
      have := congrArg (List.drop 1) hd
      rw [List.drop_drop] at this
      simpa [Nat.add_comm] using this
    have hx : rd_T47 l (i : Nat) = x := by
      rw [rd_nat l i (by omega)]
      have := congrArg (fun t => t[0]?) hd
      simp at this
      rw [List.getElem?_eq_getElem (by omega)] at this
      exact Option.some.inj this
    have hy : rd_T47 l ((i + 1 : Nat) : Int) = y := by
      rw [rd_nat l (i + 1) (by omega)]
      have := congrArg (fun t => t[0]?) hd1
      simp at this
      rw [List.getElem?_eq_getElem (by omega)] at this
      exact Option.some.inj this
    unfold fact_isOrdered.l0
    rw [wrapP (by omega), if_pos (by omega), if_pos (by omega), if_pos (by omega), if_pos (by omega), hx, hy, wrapS (by omega)]
    have hb : fact_Before.f x.f0.f0 x.f0.f1 x.f0.f2 x.f0.f3 y.f0.f0 y.f0.f1 y.f0.f2 y.f0.f3 = some (bef x.f0 y.f0) := rfl
    rw [hb, Option.bind_some]
    simp only [ordB]
    cases hc : bef x.f0 y.f0 with
    | false => rfl
    | true =>
      rw [if_pos rfl, ih y (i + 1) k hd1 (by simp at hk; omega)]
      rfl
theorem isOrdered_f (l : List F) (hl : l.length ≤ 9223372036854775807) (k : Nat) (hk : l.length < k) : fact_isOrdered.f k l = some (ordB l) := by
  unfold fact_isOrdered.f
  cases l with
  | nil =>
    obtain ⟨k, rfl⟩ : ∃ m, k = m + 1 := ⟨k - 1, by omega⟩
    unfold fact_isOrdered.l0
    rfl
  | cons x l => exact ordered_l0 (x :: l) hl l x 0 k rfl (by simp at hk; omega)
theorem refOrdered_l0 (l : List F) (hl : l.length ≤ 9223372036854775807) (hs : ∀ x ∈ l, x.f0.f2.size ≤ maxLen) : ∀ (rest : List F) (x : F) (i k : Nat), l.drop i = x :: rest → rest.length < k → carrackref06_Ordered.l0 k l ((i + 1 : Nat) : Int) = some (ordB (x :: rest)) := by
  intro rest
  induction rest with
  | nil =>
    intro x i k hd hk
    obtain ⟨k, rfl⟩ : ∃ m, k = m + 1 := ⟨k - 1, by omega⟩
    have hlen : l.length = i + 1 := by have := congrArg List.length hd; simp at this; omega
    unfold carrackref06_Ordered.l0
    rw [if_neg (by omega)]
    rfl
  | cons y rest ih =>
    intro x i k hd hk
    obtain ⟨k, rfl⟩ : ∃ m, k = m + 1 := ⟨k - 1, by omega⟩
    have hlen : l.length = i + 2 + rest.length := by have := congrArg List.length hd; simp at this; omega
    have hd1 : l.drop (i + 1) = y :: rest := by
      have := congrArg (List.drop 1) hd
      rw [List.drop_drop] at this
      simpa [Nat.add_comm] using this
    have hx : rd_T47 l (i : Nat) = x := by
      rw [rd_nat l i (by omega)]
      have := congrArg (fun t => t[0]?) hd
      simp at this
      rw [List.getElem?_eq_getElem (by omega)] at this
      exact Option.some.inj this
    have hy : rd_T47 l ((i + 1 : Nat) : Int) = y := by
      rw [rd_nat l (i + 1) (by omega)]
      have := congrArg (fun t => t[0]?) hd1
      simp at this
      rw [List.getElem?_eq_getElem (by omega)] at this
      exact Option.some.inj this
    have mx : x ∈ l := List.mem_of_mem_drop (i := i) (by rw [hd]; simp)
    have my : y ∈ l := List.mem_of_mem_drop (i := i) (by rw [hd]; simp)
    unfold carrackref06_Ordered.l0
    rw [wrapP (by omega), if_pos (by omega), if_pos (by omega), if_pos (by omega), if_pos (by omega), hx, hy, wrapS (by omega)]
    have hb : carrackref06_Before.f x.f0.f0 x.f0.f1 x.f0.f2 x.f0.f3 y.f0.f0 y.f0.f1 y.f0.f2 y.f0.f3 = some (bef x.f0 y.f0) := by
      unfold carrackref06_Before.f
      rw [if_pos (hs x mx), if_pos (hs y my)]
      rfl
    rw [hb, Option.bind_some]
    simp only [ordB]
    cases hc : bef x.f0 y.f0 with
    | false => rfl
    | true =>
      rw [if_pos rfl, ih y (i + 1) k hd1 (by simp at hk; omega)]
      rfl
theorem refOrdered_f (l : List F) (hl : l.length ≤ 9223372036854775807) (hs : ∀ x ∈ l, x.f0.f2.size ≤ maxLen) (k : Nat) (hk : l.length < k) : carrackref06_Ordered.f k l = some (ordB l) := by
  unfold carrackref06_Ordered.f
  cases l with
  | nil =>
    obtain ⟨k, rfl⟩ : ∃ m, k = m + 1 := ⟨k - 1, by omega⟩
    unfold carrackref06_Ordered.l0
    rfl
  | cons x l => exact refOrdered_l0 (x :: l) hl hs l x 0 k rfl (by simp at hk; omega)
end Go.Proofs.Ytbhmncenbpdcjaa.P
end
section
/- Builtins over a row that is known whole, whatever the size of its elements: append into its room, copy, clear. Of no program. -/
namespace Go.Proofs.Ytbhmncenbpdcjaa
open Go.RowKit
set_option linter.unusedVariables false
set_option linter.unusedSimpArgs false
section
variable {P : Program}
theorem splice_nil (L : List Value) (o : Nat) : splice L o [] = L := by simp [splice]
theorem setRow_splice_nil (w : World) (g : Nat) (cur : List Value) (t : TypeId) (o : Nat) (hg : w.heap[g]? = some (.cells cur.toArray t (0, 0))) : w.setRow g (splice cur o []).toArray = w := by
  rw [splice_nil]; exact setRow_self w g cur.toArray t (0, 0) hg
theorem setRow_blk (w : World) (g : Nat) (cur : List Value) (cs : List Value) (t : TypeId) (hg : w.heap[g]? = some (.cells cur.toArray t (0, 0))) : (w.setRow g cs.toArray).heap[g]? = some (.cells cs.toArray t (0, 0)) := setRow_heap w g _ _ t _ hg
theorem setRow_grown (w : World) (g : Nat) (cs : Array Value) : w.grownBy (w.setRow g cs) (some g) :=
  ⟨rfl, rfl, rfl, by simp [World.setRow], fun k hk hne => setRow_other w g k cs (fun h => hne (by rw [h]))⟩
theorem setRow_far (w : World) (g k : Nat) (cs : Array Value) (h : k ≠ g) : (w.setRow g cs).heap[k]? = w.heap[k]? := setRow_other w g k cs h

theorem run_copy_sz (w : World) (dT sT ty elem : TypeId) (i : TypeInfo) (hu : P.underlying dT = some (.slice elem)) (hi : P.info? elem = some i)
    (dp sp : Option Addr) (dLen dCap sLen sCap : Nat) (g off : Nat) (cur : List Value) (t : TypeId) (hg : w.heap[g]? = some (.cells cur.toArray t (0, 0))) (cs : List Value) (hn : cs.length = Nat.min sLen dLen * i.size) (hs : 0 < i.size)
    (hpos : 0 < cs.length → dp = some ⟨g, off, none⟩ ∧ ∃ ad, sp = some ad ∧ ∀ j v, cs[j]? = some v → w.cell? (ad.add j) = some v)
    (hfit : off + cs.length ≤ cur.length) (h1 : ∀ v ∈ cs, v.oneCell' = true) :
    (Builtin.copy_ #[dT, sT] ty #[.slice dp dLen dCap, .slice sp sLen sCap]).run P w = .ok (goInt (Nat.min sLen dLen)) (w.setRow g (splice cur off cs).toArray) := by
  by_cases h0 : cs.length = 0
  · obtain rfl : cs = [] := List.eq_nil_of_length_eq_zero h0
    rw [setRow_splice_nil w g cur t off hg]
    have hz : Nat.min sLen dLen = 0 := by
      rcases Nat.mul_eq_zero.1 (hn.symm.trans h0) with h | h
      · exact h
      · omega
    cases dp <;> cases sp <;> simp [Builtin.copy_, run_underlying hu, Builtin.lenOf, Builtin.firstCells, sizeOf, typeInfo, hi, hz, storeCells, loadCells, loadCellsFrom]
  · obtain ⟨rfl, ad, rfl, hsrc⟩ := hpos (by omega)
    have hl := run_loadCells_list (P := P) w ad cs hsrc
    have hst := run_storeCells_at P g off t cs 0 cur.toArray w hg (by simpa using hfit) h1
    simp only [Nat.add_zero] at hst
    have e : (cur.toArray.toList.take off ++ cs ++ cur.toArray.toList.drop (off + cs.length)) = splice cur off cs := by simp [splice]
    rw [e] at hst
    simp [Builtin.copy_, run_underlying hu, Builtin.lenOf, Builtin.firstCells, sizeOf, typeInfo, hi, ← hn, hl, hst]
theorem run_append_sz (w : World) (t ty e : TypeId) (i : TypeInfo) (ht : P.underlying t = some (.slice e)) (hi : P.info? e = some i)
    (dp sp : Option Addr) (n cap m c : Nat) (g off : Nat) (cur : List Value) (t' : TypeId) (hg : w.heap[g]? = some (.cells cur.toArray t' (0, 0))) (cs : List Value) (hn : cs.length = m * i.size) (hs : 0 < i.size)
    (hpos : 0 < cs.length → dp = some ⟨g, off, none⟩ ∧ ∃ ad, sp = some ad ∧ ∀ j v, cs[j]? = some v → w.cell? (ad.add j) = some v)
    (hroom : n + m ≤ cap) (hfit : off + n * i.size + cs.length ≤ cur.length) (h1 : ∀ v ∈ cs, v.oneCell' = true) :
    (Builtin.append_ #[t, t] ty #[.slice dp n cap, .slice sp m c]).run P w = .ok (.slice dp (n + m) cap) (w.setRow g (splice cur (off + n * i.size) cs).toArray) := by
  by_cases h0 : cs.length = 0
  · obtain rfl : cs = [] := List.eq_nil_of_length_eq_zero h0
    rw [setRow_splice_nil w g cur t' _ hg]
    have hz : m = 0 := by
      rcases Nat.mul_eq_zero.1 (hn.symm.trans h0) with h | h
      · exact h
      · omega
    subst hz
    cases dp <;> cases sp <;> simp [Builtin.append_, run_underlying ht, Builtin.lenOf, Builtin.firstCells, sizeOf, typeInfo, hi, storeCells, loadCells, loadCellsFrom] <;> omega
  · obtain ⟨rfl, ad, rfl, hsrc⟩ := hpos (by omega)
    have hfc := run_firstCells_some (P := P) w i.size m ad m c cs hn hsrc
    have hst := run_storeCells_at P g (off + n * i.size) t' cs 0 cur.toArray w hg (by simpa using hfit) h1
    simp only [Nat.add_zero] at hst
    have e : (cur.toArray.toList.take (off + n * i.size) ++ cs ++ cur.toArray.toList.drop (off + n * i.size + cs.length)) = splice cur (off + n * i.size) cs := by simp [splice]
    rw [e] at hst
    simp [Builtin.append_, run_underlying ht, sizeOf, typeInfo, hi, Builtin.lenOf, hroom, hfc, Addr.add_lit, hst]
theorem run_clear_sz (w : World) (t e ty : TypeId) (z : Value) (ht : P.underlying t = some (.slice e)) (hv : ∀ w, (zeroValue e).run P w = .ok z w) (n c : Nat) (hn : 0 < n)
    (g off : Nat) (cur : List Value) (t' : TypeId) (hg : w.heap[g]? = some (.cells cur.toArray t' (0, 0))) (cs : List Value) (hcs : (Builtin.zeroCells z.cells n).toList = cs) (hfit : off + cs.length ≤ cur.length) (h1 : ∀ v ∈ cs, v.oneCell' = true) :
    (Builtin.clear_ #[t] ty #[.slice (some ⟨g, off, none⟩) n c]).run P w = .ok (.tuple #[]) (w.setRow g (splice cur off cs).toArray) := by
  have hst := run_storeCells_at P g off t' cs 0 cur.toArray w hg (by simpa using hfit) h1
  simp only [Nat.add_zero] at hst
  have e2 : (cur.toArray.toList.take off ++ cs ++ cur.toArray.toList.drop (off + cs.length)) = splice cur off cs := by simp [splice]
  rw [e2] at hst
  obtain ⟨m, rfl⟩ : ∃ m, n = m + 1 := ⟨n - 1, by omega⟩
  simp [Builtin.clear_, run_underlying ht, hv, hcs, hst]

/-! ## as steps of a walk -/
variable {w : World} {ops : Array Oper} {rest : List Oper} {o : Oper} {a : Act} {Q : Exit → Act → World → Prop} {K : Act → World → Prop} {E : Prop}
theorem wpList_copy_sz (hgd : o.guard = none) (d s : Operand) (dT sT : TypeId) (ho : o.op = .call { callee := .builtin .copy, args := #[d, s], argTypes := #[dT, sT] }) (elem : TypeId) (i : TypeInfo) (hu : P.underlying dT = some (.slice elem)) (hi : P.info? elem = some i)
    (dp sp : Option Addr) (dLen dCap sLen sCap : Nat) (hd : a.eval d = .slice dp dLen dCap) (hsv : a.eval s = .slice sp sLen sCap) (g off : Nat) (cur : List Value) (t : TypeId) (hg : w.heap[g]? = some (.cells cur.toArray t (0, 0))) (cs : List Value) (hn : cs.length = Nat.min sLen dLen * i.size) (hs : 0 < i.size)
    (hpos : 0 < cs.length → dp = some ⟨g, off, none⟩ ∧ ∃ ad, sp = some ad ∧ ∀ j v, cs[j]? = some v → w.cell? (ad.add j) = some v) (hfit : off + cs.length ≤ cur.length) (h1 : ∀ v ∈ cs, v.oneCell' = true)
    (h : wpList P ops Q rest (a.put o.dst (goInt (Nat.min sLen dLen))) (w.setRow g (splice cur off cs).toArray)) : wpList P ops Q (o :: rest) a w := by
  refine wpList_plain hgd fun K hK => ?_
  have hrun := run_copy_sz (P := P) w dT sT o.type elem i hu hi dp sp dLen dCap sLen sCap g off cur t hg cs hn hs hpos hfit h1
  unfold Oper.wp
  simp only [execOp, ho, resolve, invoke, builtin, Sem.run_bind, Sem.run_pure, Result.andThen_ok, List.map_toArray, List.map_cons, List.map_nil, hd, hsv, hrun]
  exact hK _ _ h
theorem step_copy_sz (hgd : o.guard = none) (d s : Operand) (dT sT : TypeId) (ho : o.op = .call { callee := .builtin .copy, args := #[d, s], argTypes := #[dT, sT] }) (elem : TypeId) (i : TypeInfo) (hu : P.underlying dT = some (.slice elem)) (hi : P.info? elem = some i)
    (dp sp : Option Addr) (dLen dCap sLen sCap : Nat) (hd : a.eval d = .slice dp dLen dCap) (hsv : a.eval s = .slice sp sLen sCap) (g off : Nat) (cur : List Value) (t : TypeId) (hg : w.heap[g]? = some (.cells cur.toArray t (0, 0))) (cs : List Value) (hn : cs.length = Nat.min sLen dLen * i.size) (hs : 0 < i.size)
    (hpos : 0 < cs.length → dp = some ⟨g, off, none⟩ ∧ ∃ ad, sp = some ad ∧ ∀ j v, cs[j]? = some v → w.cell? (ad.add j) = some v) (hfit : off + cs.length ≤ cur.length) (h1 : ∀ v ∈ cs, v.oneCell' = true)
    (hK : K (a.put o.dst (goInt (Nat.min sLen dLen))) (w.setRow g (splice cur off cs).toArray)) : if Region.wanted o (yielded ops a.tmps) = true then Oper.wp P o a w K Q else E := by
  have hw : Region.wanted o (yielded ops a.tmps) = true := by simp [Region.wanted, hgd]
  rw [if_pos hw]
  have hrun := run_copy_sz (P := P) w dT sT o.type elem i hu hi dp sp dLen dCap sLen sCap g off cur t hg cs hn hs hpos hfit h1
  unfold Oper.wp
  simp only [execOp, ho, resolve, invoke, builtin, Sem.run_bind, Sem.run_pure, Result.andThen_ok, List.map_toArray, List.map_cons, List.map_nil, hd, hsv, hrun]
  exact hK
theorem wpList_append_sz (hgd : o.guard = none) (s x : Operand) (t : TypeId) (ho : o.op = .call { callee := .builtin .append, args := #[s, x], argTypes := #[t, t] }) (e : TypeId) (i : TypeInfo) (ht : P.underlying t = some (.slice e)) (hi : P.info? e = some i)
    (dp sp : Option Addr) (n cap m c : Nat) (hsv : a.eval s = .slice dp n cap) (hx : a.eval x = .slice sp m c) (g off : Nat) (cur : List Value) (t' : TypeId) (hg : w.heap[g]? = some (.cells cur.toArray t' (0, 0))) (cs : List Value) (hn : cs.length = m * i.size) (hs : 0 < i.size)
    (hpos : 0 < cs.length → dp = some ⟨g, off, none⟩ ∧ ∃ ad, sp = some ad ∧ ∀ j v, cs[j]? = some v → w.cell? (ad.add j) = some v) (hroom : n + m ≤ cap) (hfit : off + n * i.size + cs.length ≤ cur.length) (h1 : ∀ v ∈ cs, v.oneCell' = true)
    (h : wpList P ops Q rest (a.put o.dst (.slice dp (n + m) cap)) (w.setRow g (splice cur (off + n * i.size) cs).toArray)) : wpList P ops Q (o :: rest) a w := by
  refine wpList_plain hgd fun K hK => ?_
  have hrun := run_append_sz (P := P) w t o.type e i ht hi dp sp n cap m c g off cur t' hg cs hn hs hpos hroom hfit h1
  unfold Oper.wp
  simp only [execOp, ho, resolve, invoke, builtin, Sem.run_bind, Sem.run_pure, Result.andThen_ok, List.map_toArray, List.map_cons, List.map_nil, hsv, hx, hrun]
  exact hK _ _ h
theorem step_append_sz (hgd : o.guard = none) (s x : Operand) (t : TypeId) (ho : o.op = .call { callee := .builtin .append, args := #[s, x], argTypes := #[t, t] }) (e : TypeId) (i : TypeInfo) (ht : P.underlying t = some (.slice e)) (hi : P.info? e = some i)
    (dp sp : Option Addr) (n cap m c : Nat) (hsv : a.eval s = .slice dp n cap) (hx : a.eval x = .slice sp m c) (g off : Nat) (cur : List Value) (t' : TypeId) (hg : w.heap[g]? = some (.cells cur.toArray t' (0, 0))) (cs : List Value) (hn : cs.length = m * i.size) (hs : 0 < i.size)
    (hpos : 0 < cs.length → dp = some ⟨g, off, none⟩ ∧ ∃ ad, sp = some ad ∧ ∀ j v, cs[j]? = some v → w.cell? (ad.add j) = some v) (hroom : n + m ≤ cap) (hfit : off + n * i.size + cs.length ≤ cur.length) (h1 : ∀ v ∈ cs, v.oneCell' = true)
    (hK : K (a.put o.dst (.slice dp (n + m) cap)) (w.setRow g (splice cur (off + n * i.size) cs).toArray)) : if Region.wanted o (yielded ops a.tmps) = true then Oper.wp P o a w K Q else E := by
  have hw : Region.wanted o (yielded ops a.tmps) = true := by simp [Region.wanted, hgd]
  rw [if_pos hw]
  have hrun := run_append_sz (P := P) w t o.type e i ht hi dp sp n cap m c g off cur t' hg cs hn hs hpos hroom hfit h1
  unfold Oper.wp
  simp only [execOp, ho, resolve, invoke, builtin, Sem.run_bind, Sem.run_pure, Result.andThen_ok, List.map_toArray, List.map_cons, List.map_nil, hsv, hx, hrun]
  exact hK
theorem wpList_clear_sz (hgd : o.guard = none) (s : Operand) (t : TypeId) (ho : o.op = .call { callee := .builtin .clear, args := #[s], argTypes := #[t] }) (e : TypeId) (z : Value) (ht : P.underlying t = some (.slice e)) (hv : ∀ w, (zeroValue e).run P w = .ok z w)
    (n c : Nat) (hn : 0 < n) (g off : Nat) (hsv : a.eval s = .slice (some ⟨g, off, none⟩) n c) (cur : List Value) (t' : TypeId) (hg : w.heap[g]? = some (.cells cur.toArray t' (0, 0))) (cs : List Value) (hcs : (Builtin.zeroCells z.cells n).toList = cs) (hfit : off + cs.length ≤ cur.length) (h1 : ∀ v ∈ cs, v.oneCell' = true)
    (h : wpList P ops Q rest (a.put o.dst (.tuple #[])) (w.setRow g (splice cur off cs).toArray)) : wpList P ops Q (o :: rest) a w := by
  refine wpList_plain hgd fun K hK => ?_
  have hrun := run_clear_sz (P := P) w t e o.type z ht hv n c hn g off cur t' hg cs hcs hfit h1
  unfold Oper.wp
  simp only [execOp, ho, resolve, invoke, builtin, Sem.run_bind, Sem.run_pure, Result.andThen_ok, List.map_toArray, List.map_cons, List.map_nil, hsv, hrun]
  exact hK _ _ h
end
end Go.Proofs.Ytbhmncenbpdcjaa
end
section
/- Rows of the print's kinds that were written as a whole. Of no program. -/
namespace Go.Proofs.Ytbhmncenbpdcjaa
open Go.RowKit Go.Proofs.YtbhmncenbpdcjaaW.PrintWords
set_option linter.unusedVariables false
section
variable {α : Type} {d : Kd α} {e : Nat} {w w1 : World} {base : Nat} {ok : Nat → Prop}
/-- A row whose block was written anew, of elements that lie elsewhere. -/
theorem R_of_blk {g cap : Nat} {L inner : List Value} {xs : List α} (hok : ok g) (hbase : base ≤ g) (hg : w.grownBy w1 (some g)) (hb : w1.heap[g]? = some (.cells L.toArray e (0, 0))) (hL : L.length = cap * d.sz) (hc : cap ≤ maxLen) (hn : xs.length ≤ cap)
    (ht : L.take (xs.length * d.sz) = inner) (hr : Reps (d.M w base (fun k => ok k ∧ some k ≠ some g)) d.sz xs inner) : d.R e w1 base ok (.slice (some ⟨g, 0, none⟩) xs.length cap) xs := by
  refine ⟨fun k hk => ?_, inner, ⟨hr.1, .inr ⟨g, cap, L.toArray, rfl, hbase, hb, hn, hc, by simpa using hL, by simpa using ht⟩⟩, hr.imp_ fun p c hp => ?_⟩
  · have : g = k := by simpa [Value.ownBlock] using hk
    exact this ▸ hok
  · have := Kd.M_grown hp hg (fun k hk => hk.2)
    exact d.M_mono (fun k hk => ⟨hk.1, by simpa [Value.ownBlock] using hk.2⟩) this
/-- What a row is, laid open. -/
theorem R_form {v : Value} {xs : List α} (h : d.R e w base ok v xs) : (v = .slice none 0 0 ∧ xs = []) ∨
    ∃ g cap L inner, v = .slice (some ⟨g, 0, none⟩) xs.length cap ∧ ok g ∧ base ≤ g ∧ w.heap[g]? = some (.cells (List.toArray L) e (0, 0)) ∧ xs.length ≤ cap ∧ cap ≤ maxLen ∧ L.length = cap * d.sz ∧ L.take (xs.length * d.sz) = inner ∧
      inner.length = xs.length * d.sz ∧ Reps (d.M w base (fun k => ok k ∧ some k ≠ some g)) d.sz xs inner := by
  obtain ⟨hok, inner, ⟨hlen, hown⟩, hr⟩ := h
  rcases hown with ⟨hv, h0⟩ | ⟨g, cap, cur, rfl, hbase, hg, hnc, hcm, hcs, ht⟩
  · exact .inl ⟨hv, List.eq_nil_of_length_eq_zero h0⟩
  · refine .inr ⟨g, cap, cur.toList, inner, rfl, hok g (by simp [Value.ownBlock]), hbase, by simpa using hg, hnc, hcm, by simpa using hcs, ht, hlen, ?_⟩
    simpa [Value.ownBlock] using hr
theorem reps_cells_one {xs : List α} {inner : List Value} {okx : Nat → Prop} (hs : 0 < d.sz) (hr : Reps (d.M w base okx) d.sz xs inner) : ∀ u ∈ inner, u.oneCell' = true :=
  Kd.reps_one hr hs (fun p c hp => d.K_one (d.K_of_M hp))
/-- A known block's cells. -/
theorem blk_cells {g : Nat} {L : List Value} {t : TypeId} (h : w.heap[g]? = some (.cells L.toArray t (0, 0))) {o : Nat} {cs : List Value} (hc : ∀ j u, cs[j]? = some u → L[o + j]? = some u) : ∀ j u, cs[j]? = some u → w.cell? ((⟨g, o, none⟩ : Addr).add j) = some u := by
  intro j u hj
  have h1 := hc j u hj
  have : (⟨g, o, none⟩ : Addr).add j = ⟨g, o + j, none⟩ := by unfold Addr.add; split <;> simp_all
  rw [this]
  simp [World.cell?, h, h1]
theorem eraseIdx_eq (xs : List α) (i : Nat) (hi : i < xs.length) : xs.eraseIdx i = xs.take i ++ xs.drop (i + 1) := by
  rw [List.eraseIdx_eq_take_drop_succ]
theorem getElem_of_take {L inner : List Value} {m i j : Nat} {u : Value} (h : L.take m = inner) (hj : (inner.drop i)[j]? = some u) : L[i + j]? = some u := by
  rw [List.getElem?_drop, ← h, List.getElem?_take] at hj
  split at hj
  · exact hj
  · cases hj
end
end Go.Proofs.Ytbhmncenbpdcjaa
end
section
/- slices.Insert of one element into a row of the call's own: its contract, road by road. -/
namespace Go.Proofs.Ytbhmncenbpdcjaa.P
open Go.RowKit Go.Proofs.YtbhmncenbpdcjaaW.PrintWords Go.Proofs.YtbhmncenbpdcjaaW.PrintLast Go.Proofs.YtbhmncenbpdcjaaW.PrintMore
set_option linter.unusedVariables false
set_option linter.unusedSimpArgs false

theorem splice_take (M : List Value) (k : Nat) (N : List Value) (h : k ≤ M.length) : (splice M k N).take k = M.take k := by
  unfold splice
  rw [List.take_append_of_le_length (by rw [List.length_take]; omega), List.take_take, Nat.min_self]
theorem splice_take_end (M : List Value) (k : Nat) (N : List Value) (h : k ≤ M.length) : (splice M k N).take (k + N.length) = M.take k ++ N := by
  unfold splice
  have e : (M.take k ++ N).length = k + N.length := by rw [List.length_append, List.length_take]; omega
  rw [← List.append_assoc, ← e, List.take_left]
theorem splice_drop_end (M : List Value) (k : Nat) (N : List Value) (h : k ≤ M.length) : (splice M k N).drop (k + N.length) = M.drop (k + N.length) := by
  unfold splice
  have e : (M.take k ++ N).length = k + N.length := by rw [List.length_append, List.length_take]; omega
  rw [← List.append_assoc]
  exact List.drop_left' e
/-- The road on which the row is laid anew. -/
theorem ins_take_new (ROW D cs : List Value) (a s t : Nat) (hcs : cs.length = s) (hD : D.length = t) (hR : a + s ≤ ROW.length) :
    (splice (splice ROW a cs) (a + s) D).take (a + s + t) = ROW.take a ++ cs ++ D := by
  have hl : (splice ROW a cs).length = ROW.length := length_splice _ _ _ (by omega)
  rw [← hD, splice_take_end _ _ _ (by omega), ← hcs, splice_take_end _ _ _ (by omega)]
/-- The road on which what stands behind moves up. -/
theorem ins_take_old (L D cs : List Value) (a s t : Nat) (hcs : cs.length = s) (hD : D.length = t) (hL : a + s + t ≤ L.length) :
    (splice (splice L (a + s) D) a cs).take (a + s + t) = L.take a ++ cs ++ D := by
  have hl : (splice L (a + s) D).length = L.length := length_splice _ _ _ (by omega)
  have hl2 : (splice (splice L (a + s) D) a cs).length = L.length := by rw [length_splice _ _ _ (by omega), hl]
  have e1 : (splice (splice L (a + s) D) a cs).take (a + s) = L.take a ++ cs := by
    rw [← hcs, splice_take_end _ _ _ (by rw [hcs]; omega)]
    congr 1
    have := splice_take L (a + s) D (by omega)
    have e2 := congrArg (List.take a) this
    rw [List.take_take, List.take_take, Nat.min_eq_left (by omega)] at e2
    rw [hcs]
    exact e2
  have e3 : (splice (splice L (a + s) D) a cs).drop (a + s) = (splice L (a + s) D).drop (a + s) := by
    have := splice_drop_end (splice L (a + s) D) a cs (by omega)
    rw [hcs] at this
    exact this
  have e4 : ((splice L (a + s) D).drop (a + s)).take t = D := by
    have := splice_take_end L (a + s) D (by omega)
    rw [hD] at this
    have e5 := congrArg (List.drop (a + s)) this
    rw [List.drop_take] at e5
    rw [show a + s + t - (a + s) = t from by omega] at e5
    rw [e5]
    have : (L.take (a + s)).length = a + s := by rw [List.length_take]; omega
    exact List.drop_left' this
  have e6 : ∀ (Z : List Value), Z.take (a + s + t) = Z.take (a + s) ++ (Z.drop (a + s)).take t := fun Z => by rw [List.take_add]
  rw [e6, e1, e3, e4]
theorem insertIdx_eq {α : Type} (xs : List α) (i : Nat) (x : α) (hi : i ≤ xs.length) : xs.insertIdx i x = xs.take i ++ [x] ++ xs.drop i := by
  induction xs generalizing i with
  | nil => have : i = 0 := by simpa using hi
           subst this; rfl
  | cons y ys ih =>
    cases i with
    | zero => rfl
    | succ i => simp at hi; simp [ih i hi]
def ZI : Value := .agg #[.int .i64 0, .int .u8 0, .string ⟨#[]⟩, .int .i64 0, .slice none 0 0]
theorem zeroI (w : World) : (zeroValue 47).run Try.prog w = .ok ZI w := by kernel_rfl
theorem sizeI (w : World) : (Go.sizeOf 47).run Try.prog w = .ok 5 w := by kernel_rfl
set_option maxHeartbeats 4000000 in
set_option maxRecDepth 100000 in
/-- In place: there is room. -/
theorem insFact_shift (g cap i r b : Nat) (L inner cs : List Value) (w : World) (hgL : w.heap[g]? = some (.cells L.toArray 47 (0, 0))) (hL : L.length = cap * 5) (hroom : i + (r + 1) + 1 ≤ cap) (hcm : cap ≤ 9223372036854775807) (htake : L.take ((i + (r + 1)) * 5) = inner) (hone : ∀ u ∈ inner, u.oneCell' = true)
    (hb : w.heap[b]? = some (.cells cs.toArray 47 (0, 0))) (hcs : cs.length = 5) (hcs1 : ∀ u ∈ cs, u.oneCell' = true) (hne : b ≠ g) :
    Calls Try.prog 39 #[.slice (some ⟨g, 0, none⟩) (i + (r + 1)) cap, .int .i64 i, .slice (some ⟨b, 0, none⟩) 1 1] w fun e w' => e = .returned (.slice (some ⟨g, 0, none⟩) (i + (r + 1) + 1) cap) ∧
      w.grownBy w' (some g) ∧ ∃ L', w'.heap[g]? = some (.cells (List.toArray L') 47 (0, 0)) ∧ L'.length = cap * 5 ∧ L'.take ((i + (r + 1) + 1) * 5) = inner.take (i * 5) ++ cs ++ inner.drop (i * 5) := by
  obtain ⟨n, hn⟩ : ∃ n, n = i + (r + 1) := ⟨_, rfl⟩
  rw [← hn] at hroom htake ⊢
  have hlen : inner.length = n * 5 := by rw [← htake, List.length_take, hL]; omega
  obtain ⟨D, hD⟩ : ∃ D, D = inner.drop (i * 5) := ⟨_, rfl⟩
  have hDl : D.length = (r + 1) * 5 := by rw [hD, List.length_drop, hlen]; omega
  have hz2 : ¬ ((i : Int) = (n : Int)) := by omega
  have hov : ∀ lb cb, (callFunc 56 #[.slice (some ⟨b, 0, none⟩) 1 1, .slice (some ⟨g, (i + 1) * 5, none⟩) lb cb]).run Try.prog w = .ok (.value (.bool false)) w := fun lb cb => by
    rw [run_callFunc_extern Try.func56 (by kernel_rfl) (by kernel_rfl) (by kernel_rfl) (e := Extern.SlicesOverlaps.overlaps #[38, 38] #[4]) (by kernel_rfl),
      Lib.run_overlaps_apart w 38 4 47 Try.underlying38 5 sizeI ⟨b, 0, none⟩ ⟨g, (i + 1) * 5, none⟩ 1 1 lb cb hne 47 47 cs.toArray.size L.toArray.size (by simp [World.shape?, hb]) (by simp [World.shape?, hgL]) (by simp [hL]; omega) (by simp [World.frozen?, hb]) (by simp [World.frozen?, hb])]
    rfl
  obtain ⟨i0, hi0, hz0, hz1, hz2'⟩ := info_parts info47
  have hD1 : ∀ u ∈ D, u.oneCell' = true := fun u hu => hone u (by rw [hD] at hu; exact List.mem_of_mem_drop hu)
  have hi0s : 0 < i0.size := by rw [hz1]; decide
  have hm1 : Nat.min (r + 1 + 1) (r + 1) = r + 1 := by simp only [Nat.min_def]; split <;> omega
  have hm2 : Nat.min 1 (r + 1 + 1) = 1 := by simp only [Nat.min_def]; split <;> omega
  have hn1 : D.length = Nat.min (r + 1 + 1) (r + 1) * i0.size := by rw [hm1, hDl, hz1]
  have hn2 : cs.length = Nat.min 1 (r + 1 + 1) * i0.size := by rw [hm2, hcs, hz1, Nat.one_mul]
  have hfit1 : (i + 1) * 5 + D.length ≤ L.length := by rw [hDl, hL]; omega
  have hsrc1 : ∀ j u, D[j]? = some u → w.drew.cell? ((⟨g, i * 5, none⟩ : Addr).add j) = some u := by
    refine blk_cells (w := w.drew) hgL fun j u hj => ?_
    rw [hD] at hj
    exact getElem_of_take htake hj
  obtain ⟨M, hM⟩ : ∃ M, M = splice L ((i + 1) * 5) D := ⟨_, rfl⟩
  have hMl : M.length = cap * 5 := by rw [hM, length_splice _ _ _ hfit1, hL]
  have hg2 : (w.drew.setRow g M.toArray).heap[g]? = some (.cells M.toArray 47 (0, 0)) := setRow_blk w.drew g L M 47 hgL
  have hb2 : (w.drew.setRow g M.toArray).heap[b]? = some (.cells cs.toArray 47 (0, 0)) := by rw [setRow_far w.drew g b _ hne]; exact hb
  have hfit2 : i * 5 + cs.length ≤ M.length := by rw [hcs, hMl]; omega
  have hsrc2 : ∀ j u, cs[j]? = some u → (w.drew.setRow g M.toArray).cell? ((⟨b, 0, none⟩ : Addr).add j) = some u := blk_cells hb2 (fun j u hj => by rw [Nat.zero_add]; exact hj)
  have hgr : w.grownBy ((w.drew.setRow g M.toArray).setRow g (splice M (i * 5) cs).toArray) (some g) := by
    have h1 := setRow_grown w.drew g M.toArray
    have h2 := setRow_grown (w.drew.setRow g M.toArray) g (splice M (i * 5) cs).toArray
    exact (show w.grownBy _ (some g) from ⟨h1.os, h1.tape, h1.output, h1.size, h1.block⟩).trans h2
  have hg3 := setRow_blk (w.drew.setRow g M.toArray) g M (splice M (i * 5) cs) 47 hg2
  have HT : Hid ((splice M (i * 5) cs).length = cap * 5 ∧ (splice M (i * 5) cs).take ((n + 1) * 5) = inner.take (i * 5) ++ cs ++ inner.drop (i * 5)) := by
    refine ⟨by rw [length_splice _ _ _ hfit2, hMl], ?_⟩
    have e := ins_take_old L D cs (i * 5) 5 ((r + 1) * 5) hcs hDl (by rw [hL]; omega)
    rw [hM, show (i + 1) * 5 = i * 5 + 5 from by omega, show (n + 1) * 5 = i * 5 + 5 + (r + 1) * 5 from by omega, e, ← hD]
    congr 2
    rw [← htake, List.take_take, Nat.min_eq_left (by omega)]
  have hM1 : ∀ t dc sc, (Builtin.copy_ #[38, 38] t #[.slice (some ⟨g, (i + 1) * 5, none⟩) (r + 1) dc, .slice (some ⟨g, i * 5, none⟩) (r + 1 + 1) sc]).run Try.prog w.drew = .ok (goInt (Nat.min (r + 1 + 1) (r + 1))) (w.drew.setRow g M.toArray) := fun t dc sc => by
    rw [hM]
    exact run_copy_sz w.drew 38 38 t 47 i0 Try.underlying38 hi0 _ _ _ _ _ _ g _ L 47 hgL D hn1 hi0s (fun _ => ⟨rfl, _, rfl, hsrc1⟩) hfit1 hD1
  have hM2 : ∀ t dc, (Builtin.copy_ #[38, 38] t #[.slice (some ⟨g, i * 5, none⟩) (r + 1 + 1) dc, .slice (some ⟨b, 0, none⟩) 1 1]).run Try.prog (w.drew.setRow g M.toArray) = .ok (goInt (Nat.min 1 (r + 1 + 1))) ((w.drew.setRow g M.toArray).setRow g (splice M (i * 5) cs).toArray) := fun t dc =>
    run_copy_sz (w.drew.setRow g M.toArray) 38 38 t 47 i0 Try.underlying38 hi0 _ _ _ _ _ _ g _ M 47 hg2 cs hn2 hi0s (fun _ => ⟨rfl, _, rfl, hsrc2⟩) hfit2 hcs1
  have c1 : (0 : Int) ≤ (i : Int) + 1 := by omega
  have c2 : i ≤ n := by omega
  have c3 : ¬ (cap = i + 1) := by omega
  have c4 : (i : Int) ≤ (n : Int) + 1 := by omega
  have c5 : ¬ (cap = i) := by omega
  have c6 : n + 1 - (i + 1) = r + 1 := by omega
  have c7 : n + 1 - i = r + 1 + 1 := by omega
  have c8 : ¬ ((cap : Int) < (n : Int) + 1) := by omega
  have c9 : (n : Int) + 1 ≤ (cap : Int) := by omega
  have c10 : (i : Int) + 1 ≤ (n : Int) + 1 := by omega
  have c11 : i + 1 ≤ n + 1 := by omega
  have c12 : i ≤ n + 1 := by omega
  have c13 : (0 : Int) ≤ (n : Int) + 1 := by omega
  have c14 : ((i : Int) + 1).toNat = i + 1 := by omega
  have c15 : IntKind.i64.wrap ((i : Int) + 1) = (i : Int) + 1 := by rw [IntKind.wrap_i64]; omega
  have c16 : (i : Int) + 1 ≤ (i : Int) + ((r : Int) + 1) + 1 := by omega
  have c19 : (i : Int) ≤ (i : Int) + ((r : Int) + 1) + 1 := by omega
  have c17 : i + (r + 1) + 1 - (i + 1) = r + 1 := by omega
  have c18 : i + (r + 1) + 1 - i = r + 1 + 1 := by omega
  clear hone hD hD1 hn1 hn2 hfit1 hfit2 hsrc1 hsrc2 hMl hM hm1 hm2 hg2 hb2 htake hlen hDl hL
  go_enter Try.func39, Try.ntmps39
  go_wp2_with (simp only [hov])
  go_region_law (refine step_copy_runI rfl (.tmp 73) (.tmp 76) 38 38 rfl _ _ (by simp [Act.eval, Act.put]) (by simp [Act.eval, Act.put]) (hM1 _ _ _) ?_)
  go_wp2_with (at_builtin; refine wpList_copy_runI _ rfl _ _ 38 38 rfl _ _ rfl rfl (hM2 _ _) ?_)
  go_ret
  exact ⟨by rw [hn]; rfl, hgr, _, hg3, HT.out⟩
set_option maxHeartbeats 4000000 in
set_option maxRecDepth 100000 in
/-- No room: a new row. -/
theorem insFact_grow (g cap i r b : Nat) (L inner cs : List Value) (w : World) (hgL : w.heap[g]? = some (.cells L.toArray 47 (0, 0))) (hL : L.length = cap * 5) (hnc : i + (r + 1) ≤ cap) (hroom : cap < i + (r + 1) + 1) (hbig : (i + (r + 1) + 1) * 64 ≤ 140737488355328) (htake : L.take ((i + (r + 1)) * 5) = inner) (hone : ∀ u ∈ inner, u.oneCell' = true)
    (hb : w.heap[b]? = some (.cells cs.toArray 47 (0, 0))) (hcs : cs.length = 5) (hcs1 : ∀ u ∈ cs, u.oneCell' = true) (hne : b ≠ g) :
    Calls Try.prog 39 #[.slice (some ⟨g, 0, none⟩) (i + (r + 1)) cap, .int .i64 i, .slice (some ⟨b, 0, none⟩) 1 1] w fun e w' => ∃ G L', e = .returned (.slice (some ⟨w.heap.size, 0, none⟩) (i + (r + 1) + 1) G) ∧ i + (r + 1) + 1 ≤ G ∧ G ≤ maxLen ∧
      w.grownBy w' none ∧ w'.heap[w.heap.size]? = some (.cells (List.toArray L') 47 (0, 0)) ∧ L'.length = G * 5 ∧ L'.take ((i + (r + 1) + 1) * 5) = inner.take (i * 5) ++ cs ++ inner.drop (i * 5) := by
  obtain ⟨n, hn⟩ : ∃ n, n = i + (r + 1) := ⟨_, rfl⟩
  rw [← hn] at hroom htake hnc hbig ⊢
  have hcn : cap = n := by omega
  subst hcn
  have hlen : inner.length = cap * 5 := by rw [← htake, List.length_take, hL]; omega
  obtain ⟨D, hD⟩ : ∃ D, D = inner.drop (i * 5) := ⟨_, rfl⟩
  have hDl : D.length = (r + 1) * 5 := by rw [hD, List.length_drop, hlen]; omega
  obtain ⟨i0, hi0, hz0, hz1, hz2'⟩ := info_parts info47
  have hi0s : 0 < i0.size := by rw [hz1]; decide
  have hglt : g < w.heap.size := by
    rcases Nat.lt_or_ge g w.heap.size with h | h
    · exact h
    · rw [Array.getElem?_eq_none h] at hgL; cases hgL
  have hblt : b < w.heap.size := by
    rcases Nat.lt_or_ge b w.heap.size with h | h
    · exact h
    · rw [Array.getElem?_eq_none h] at hb; cases hb
  have hsrc0 : ∀ k, ∀ j u, (inner.take k)[j]? = some u → w.drew.cell? ((⟨g, 0, none⟩ : Addr).add j) = some u := fun k => by
    refine blk_cells (w := w.drew) hgL fun j u hj => ?_
    rw [Nat.zero_add]
    refine getElem_of_take (i := 0) htake ?_ |> fun h => by rwa [Nat.zero_add] at h
    rw [List.drop_zero]
    rw [List.getElem?_take] at hj
    split at hj
    · exact hj
    · cases hj
  have hold : (Builtin.firstCells i0.size i (.slice (some ⟨g, 0, none⟩) i cap)).run Try.prog w.drew = .ok (inner.take (i * 5)).toArray w.drew := by
    rw [hz1]
    exact run_firstCells_some w.drew 5 i ⟨g, 0, none⟩ i cap (inner.take (i * 5)) (by rw [List.length_take]; omega) (hsrc0 _)
  obtain ⟨G, hG⟩ : ∃ G, G = grownCap w (cap + 1) cap 47 := ⟨_, rfl⟩
  obtain ⟨ROW, hROW⟩ : ∃ ROW : Array Value, ROW = (inner.take (i * 5)).toArray ++ Builtin.zeroCells ZI.cells (cap + 1 - i) ++ Builtin.zeroCells ZI.cells (G - (cap + 1)) := ⟨_, rfl⟩
  have hik : i + (cap + 1 - i) = cap + 1 := by omega
  have hmx : cap + 1 ≤ maxLen := by unfold maxLen; omega
  have hrz : ∀ ty, (Builtin.append_ #[38, 3] ty #[.slice (some ⟨g, 0, none⟩) i cap, .int .i64 ((r : Int) + 1 + 1)]).run Try.prog w =
      .ok (.slice (some ⟨w.heap.size, 0, none⟩) (cap + 1) G) (w.drew.alloc (.cells ROW 47)) := fun ty => by
    have h := Lib.run_append_grow_zeros w 38 3 ty 47 i0 _ .i64 .i64 Try.underlying38 Try.underlying3 hi0 hz0 (some ⟨g, 0, none⟩) i cap _ hold (cap + 1 - i) (by omega) hi0s (by omega) (by omega) (by rw [hz2']; omega) (by rw [hz2', hik]; exact growslice_fits (by omega) hbig)
    rw [hik, ← hG, show ((cap + 1 - i : Nat) : Int) = (r : Int) + 1 + 1 from by omega] at h
    rw [hROW]
    exact h
  have hGn : cap + 1 ≤ G := by rw [hG]; exact grownCap_ge w _ _ _
  have hG63 : G ≤ maxLen := by rw [hG]; exact grownCap_le_maxLen w _ _ _ hmx
  have hRl : ROW.toList.length = G * 5 := by
    rw [hROW]
    simp only [Array.toList_append, List.length_append, Array.length_toList, size_zeroCells, List.length_take, hlen]
    have : ZI.cells.size = 5 := by decide +kernel
    rw [this]
    omega
  obtain ⟨W1, hW1⟩ : ∃ W1, W1 = w.drew.alloc (.cells ROW 47) := ⟨_, rfl⟩
  rw [← hW1] at hrz
  have hBb : W1.heap[w.heap.size]? = some (.cells ROW.toList.toArray 47 (0, 0)) := by
    rw [hW1]; simpa using heap_alloc_new w.drew (.cells ROW 47)
  have hbW : W1.heap[b]? = some (.cells cs.toArray 47 (0, 0)) := by rw [hW1]; exact (heap_alloc_old w.drew _ hblt).trans hb
  have hgW : W1.heap[g]? = some (.cells L.toArray 47 (0, 0)) := by rw [hW1]; exact (heap_alloc_old w.drew _ hglt).trans hgL
  have hm1 : Nat.min 1 (r + 1 + 1) = 1 := by simp only [Nat.min_def]; split <;> omega
  have hm2 : Nat.min (r + 1) (r + 1) = r + 1 := Nat.min_self _
  have hn1 : cs.length = Nat.min 1 (r + 1 + 1) * i0.size := by rw [hm1, hcs, hz1, Nat.one_mul]
  have hn2 : D.length = Nat.min (r + 1) (r + 1) * i0.size := by rw [hm2, hDl, hz1]
  have hfit1 : i * 5 + cs.length ≤ ROW.toList.length := by rw [hcs, hRl]; omega
  obtain ⟨M, hM⟩ : ∃ M, M = splice ROW.toList (i * 5) cs := ⟨_, rfl⟩
  have hMl : M.length = G * 5 := by rw [hM, length_splice _ _ _ hfit1, hRl]
  have hM1 : ∀ t dc, (Builtin.copy_ #[38, 38] t #[.slice (some ⟨w.heap.size, i * 5, none⟩) (r + 1 + 1) dc, .slice (some ⟨b, 0, none⟩) 1 1]).run Try.prog W1 = .ok (goInt (Nat.min 1 (r + 1 + 1))) (W1.setRow w.heap.size M.toArray) := fun t dc => by
    rw [hM]
    exact run_copy_sz W1 38 38 t 47 i0 Try.underlying38 hi0 _ _ _ _ _ _ w.heap.size _ ROW.toList 47 hBb cs hn1 hi0s (fun _ => ⟨rfl, _, rfl, blk_cells hbW (fun j u hj => by rw [Nat.zero_add]; exact hj)⟩) hfit1 hcs1
  have hBb2 : (W1.setRow w.heap.size M.toArray).drew.heap[w.heap.size]? = some (.cells M.toArray 47 (0, 0)) := setRow_blk W1 w.heap.size ROW.toList M 47 hBb
  have hgW2 : (W1.setRow w.heap.size M.toArray).drew.heap[g]? = some (.cells L.toArray 47 (0, 0)) := (setRow_far W1 w.heap.size g _ (by omega)).trans hgW
  have hfit2 : (i + 1) * 5 + D.length ≤ M.length := by rw [hDl, hMl]; omega
  have hsrc2 : ∀ j u, D[j]? = some u → (W1.setRow w.heap.size M.toArray).drew.cell? ((⟨g, i * 5, none⟩ : Addr).add j) = some u := by
    refine blk_cells hgW2 fun j u hj => ?_
    rw [hD] at hj
    exact getElem_of_take htake hj
  have hD1 : ∀ u ∈ D, u.oneCell' = true := fun u hu => hone u (by rw [hD] at hu; exact List.mem_of_mem_drop hu)
  have hM2 : ∀ t dc sc, (Builtin.copy_ #[38, 38] t #[.slice (some ⟨w.heap.size, (i + 1) * 5, none⟩) (r + 1) dc, .slice (some ⟨g, i * 5, none⟩) (r + 1) sc]).run Try.prog (W1.setRow w.heap.size M.toArray).drew = .ok (goInt (Nat.min (r + 1) (r + 1))) ((W1.setRow w.heap.size M.toArray).drew.setRow w.heap.size (splice M ((i + 1) * 5) D).toArray) := fun t dc sc =>
    run_copy_sz _ 38 38 t 47 i0 Try.underlying38 hi0 _ _ _ _ _ _ w.heap.size _ M 47 hBb2 D hn2 hi0s (fun _ => ⟨rfl, _, rfl, hsrc2⟩) hfit2 hD1
  have hg3 := setRow_blk (W1.setRow w.heap.size M.toArray).drew w.heap.size M (splice M ((i + 1) * 5) D) 47 hBb2
  have hgr : w.grownBy ((W1.setRow w.heap.size M.toArray).drew.setRow w.heap.size (splice M ((i + 1) * 5) D).toArray) none := by
    have h0 : w.grownBy W1 none := by rw [hW1]; exact ⟨rfl, rfl, rfl, by simp, fun k hk _ => heap_alloc_old w.drew _ hk⟩
    have h1 := setRow_grown W1 w.heap.size M.toArray
    have h2 := setRow_grown (W1.setRow w.heap.size M.toArray).drew w.heap.size (splice M ((i + 1) * 5) D).toArray
    refine ⟨h2.os.trans (h1.os.trans h0.os), h2.tape.trans (h1.tape.trans h0.tape), h2.output.trans (h1.output.trans h0.output), Nat.le_trans h0.size (Nat.le_trans h1.size h2.size), fun k hk _ => ?_⟩
    have hk1 : k < W1.heap.size := Nat.lt_of_lt_of_le hk h0.size
    have hkB : some k ≠ some w.heap.size := fun e => by injection e with e; omega
    exact (h2.block k (Nat.lt_of_lt_of_le hk1 h1.size) hkB).trans ((h1.block k hk1 hkB).trans (h0.block k hk (by simp)))
  have HT : Hid ((splice M ((i + 1) * 5) D).length = G * 5 ∧ (splice M ((i + 1) * 5) D).take ((cap + 1) * 5) = inner.take (i * 5) ++ cs ++ inner.drop (i * 5)) := by
    refine ⟨by rw [length_splice _ _ _ hfit2, hMl], ?_⟩
    have e := ins_take_new ROW.toList D cs (i * 5) 5 ((r + 1) * 5) hcs hDl (by rw [hRl]; omega)
    rw [hM, show (i + 1) * 5 = i * 5 + 5 from by omega, show (cap + 1) * 5 = i * 5 + 5 + (r + 1) * 5 from by omega, e, ← hD]
    congr 2
    rw [hROW]
    simp only [Array.toList_append, List.append_assoc]
    have e2 : (inner.take (i * 5)).length = i * 5 := by rw [List.length_take, hlen]; omega
    rw [List.take_append_of_le_length (by omega)]
    rw [List.take_of_length_le (by omega)]
  have hG7 : G ≤ 9223372036854775807 := by unfold maxLen at hG63; exact hG63
  have HGs := Lib.hid (And.intro hGn hG63)
  have c1 : (0 : Int) ≤ (i : Int) + 1 := by omega
  have c2 : i ≤ i + (r + 1) := by omega
  have c5 : ¬ (cap = i) := by omega
  have c20 : ¬ (G = i) := by omega
  have c21 : ¬ (G = i + 1) := by omega
  have c22 : (i : Int) + ((r : Int) + 1) < (i : Int) + ((r : Int) + 1) + 1 := by omega
  have c23 : (i : Int) + ((r : Int) + 1) + 1 - (i : Int) = (r : Int) + 1 + 1 := by omega
  have c15 : IntKind.i64.wrap ((i : Int) + 1) = (i : Int) + 1 := by rw [IntKind.wrap_i64]; omega
  have c14 : ((i : Int) + 1).toNat = i + 1 := by omega
  have c16 : (i : Int) + 1 ≤ (i : Int) + ((r : Int) + 1) + 1 := by omega
  have c19 : (i : Int) ≤ (i : Int) + ((r : Int) + 1) + 1 := by omega
  have c17 : i + (r + 1) + 1 - (i + 1) = r + 1 := by omega
  have c18 : i + (r + 1) + 1 - i = r + 1 + 1 := by omega
  have c24 : (i : Int) ≤ (i : Int) + ((r : Int) + 1) := by omega
  clear hone hD hD1 hn1 hn2 hfit1 hfit2 hsrc2 hMl hM hm1 hm2 htake hlen hDl hL hRl hROW hG hold hsrc0 hBb hBb2 hgW hgW2 hbW
  subst hn
  clear hW1
  go_enter Try.func39, Try.ntmps39
  go_wp2_with (first
    | (at_builtin; refine Lib.wpList_append_run _ rfl _ _ _ _ rfl _ _ rfl rfl _ _ (hrz _) ?_)
    | (at_builtin; refine wpList_copy_runI _ rfl _ _ 38 38 rfl _ _ rfl rfl (hM1 _ _) ?_))
  go_region_law (refine step_copy_runI rfl (.tmp 50) (.tmp 53) 38 38 rfl _ _ (by simp [Act.eval, Act.put]) (by simp [Act.eval, Act.put]) (hM2 _ _ _) ?_)
  go_wp2
  go_ret
  exact ⟨G, _, rfl, HGs.out.1, HGs.out.2, hgr, hg3, HT.out⟩
set_option maxHeartbeats 4000000 in
set_option maxRecDepth 100000 in
/-- At the end: append. -/
theorem insFact_end (v : Value) (xs : List S47) (x : S47) (cs : List Value) (b : Nat) (w : World) (base : Nat) (hbase : base ≤ w.heap.size) (ok okx : Nat → Prop) (h : Kd.R k47 47 w base ok v xs) (hfresh : ∀ k, w.heap.size ≤ k → ok k)
    (hb : w.heap[b]? = some (.cells cs.toArray 47 (0, 0))) (hx : k47.M w base okx x cs) (hokx : ∀ k, okx k → ok k ∧ some k ≠ v.ownBlock) (hbig : (xs.length + 1) * 64 ≤ 140737488355328) :
    Calls Try.prog 39 #[v, .int .i64 xs.length, .slice (some ⟨b, 0, none⟩) 1 1] w fun e w' => ∃ v', e = .returned v' ∧ Kd.R k47 47 w' base ok v' (xs ++ [x]) ∧ w.grownBy w' v.ownBlock ∧ (v'.ownBlock = v.ownBlock ∨ ∃ b, v'.ownBlock = some b ∧ w.heap.size ≤ b) := by
  have hrow : ReadsRow (fun p c => p = x ∧ c = cs) 5 w (some ⟨b, 0, none⟩) 1 [x] := ⟨rfl, by omega, fun _ => ⟨_, rfl, fun j p hj => by
    rcases j with _ | j
    · simp at hj
      subst hj
      refine ⟨cs, k47.K_len (k47.K_of_M hx), ⟨rfl, rfl⟩, fun i u hu => ?_⟩
      rw [Nat.zero_mul]
      exact blk_cells (o := 0) hb (fun j u hj => by rw [Nat.zero_add]; exact hj) (0 + i) u (by rw [Nat.zero_add]; exact hu)
    · simp at hj⟩⟩
  have HR := Aside0.mk hrow
  have HX := Aside0.mk hx
  have HF := Aside0.mk hokx
  have HW := Aside0.mk hfresh
  have HH := Aside0.mk h
  have HL := Aside0.mk hbig
  have HS := Aside0.mk hbase
  have HL2 : (xs.length : Int) ≤ 9223372036854775806 := by omega
  obtain ⟨A, c, hv, hc, _⟩ := Kd.R_reads h
  obtain ⟨vo, hvo⟩ : ∃ vo, vo = v.ownBlock := ⟨_, rfl⟩
  rw [← hvo]
  have HV := Aside0.mk hvo
  clear hrow hx hokx hfresh h hbig hb hbase hvo
  have hv' := Aside0.mk hv
  subst hv
  go_enter Try.func39, Try.ntmps39
  go_wp2_with ((with_reducible refine gate_builtin (b := .append) (xs := #[.tmp 23, .tmp 24]) rfl ?_); at_builtin; refine Kd.R_append_rows k47 (w0 := w) base rfl (.tmp 23) (.tmp 24) 38 47 ZI 64 rfl Try.underlying38 info47 rfl (by decide) (by decide) (.slice A xs.length c) xs [x] (some ⟨b, 0, none⟩) 1 1 ok okx rfl rfl HH.out HR.out (fun p c hp => by rw [hp.1, hp.2]; exact HX.out) HF.out HW.out (Below.refl _ _) HS.out HL.out ?_; intro v1 w1 h1 _ h3 h4; have H1 := Aside0.mk h1; have H3 := Aside0.mk h3; have H4 := Aside0.mk h4; clear h1 h3 h4)
  all_goals
    go_ret
    exact ⟨_, rfl, H1.out, by rw [HV.out]; exact H3.out, by rw [HV.out]; exact H4.out⟩
set_option maxRecDepth 100000 in
/-- slices.Insert of one element. -/
theorem insFact_any (v : Value) (xs : List S47) (x : S47) (i : Nat) (hi : i ≤ xs.length) (cs : List Value) (b : Nat) (w : World) (base : Nat) (hbase : base ≤ w.heap.size) (ok okx : Nat → Prop) (h : Kd.R k47 47 w base ok v xs) (hfresh : ∀ k, w.heap.size ≤ k → ok k)
    (hb : w.heap[b]? = some (.cells cs.toArray 47 (0, 0))) (hne : some b ≠ v.ownBlock) (hx : k47.M w base okx x cs) (hokx : ∀ k, okx k → ok k ∧ some k ≠ v.ownBlock) (hbig : (xs.length + 1) * 64 ≤ 140737488355328) :
    Calls Try.prog 39 #[v, .int .i64 i, .slice (some ⟨b, 0, none⟩) 1 1] w fun e w' => ∃ v', e = .returned v' ∧ Kd.R k47 47 w' base ok v' (xs.insertIdx i x) ∧ w.grownBy w' v.ownBlock ∧ (v'.ownBlock = v.ownBlock ∨ ∃ b, v'.ownBlock = some b ∧ w.heap.size ≤ b) := by
  rw [insertIdx_eq xs i x hi]
  by_cases hil : i = xs.length
  · subst hil
    rw [List.take_length, List.drop_length, List.append_nil]
    exact insFact_end v xs x cs b w base hbase ok okx h hfresh hb hx hokx hbig
  · obtain ⟨r, hr⟩ : ∃ r, xs.length = i + (r + 1) := ⟨xs.length - i - 1, by omega⟩
    rcases R_form h with ⟨_, rfl⟩ | ⟨g, cap, L, inner, rfl, hok, hbg, hgL, hnc, hcm, hL, htake, hlen, hreps⟩
    · simp at hr
    have hL : L.length = cap * 5 := hL
    have hone := reps_cells_one (by decide) hreps
    have hcs : cs.length = 5 := k47.K_len (k47.K_of_M hx)
    have hcs1 := k47.K_one (k47.K_of_M hx)
    have hbg' : b ≠ g := fun e => hne (by rw [e]; rfl)
    have hok1 : ∀ k, okx k → ok k ∧ some k ≠ some g := hokx
    have hrows : Reps (k47.M w base (fun k => ok k ∧ some k ≠ some g)) 5 (xs.take i ++ [x] ++ xs.drop i) (inner.take (i * 5) ++ cs ++ inner.drop (i * 5)) :=
      Kd.reps_append ((Kd.reps_take hreps hi).snoc (k47.M_mono hok1 hx) hcs) (Kd.reps_drop hreps)
    have hll : (xs.take i ++ [x] ++ xs.drop i).length = i + (r + 1) + 1 := by simp; omega
    rw [hr] at htake hbig hnc ⊢
    by_cases hroom : i + (r + 1) + 1 ≤ cap
    · refine (insFact_shift g cap i r b L inner cs w hgL hL hroom (by unfold maxLen at hcm; exact hcm) htake hone hb hcs hcs1 hbg').mono ?_
      rintro e w' ⟨rfl, hgr, L', h1, h2, h3⟩
      refine ⟨_, rfl, ?_, hgr, .inl rfl⟩
      have := R_of_blk (d := k47) (w := w) (w1 := w') hok hbg hgr h1 h2 hcm (by rw [hll]; exact hroom) (by rw [hll]; exact h3) hrows
      rw [hll] at this
      exact this
    · refine (insFact_grow g cap i r b L inner cs w hgL hL hnc (by omega) hbig htake hone hb hcs hcs1 hbg').mono ?_
      rintro e w' ⟨G, L', rfl, hG1, hG2, hgr, h1, h2, h3⟩
      have hgr' : ∀ row, w.grownBy w' row := fun row => ⟨hgr.os, hgr.tape, hgr.output, hgr.size, fun k hk _ => hgr.block k hk (by simp)⟩
      refine ⟨_, rfl, ?_, hgr' _, .inr ⟨w.heap.size, rfl, Nat.le_refl _⟩⟩
      have hrows2 := hrows.imp_ (fun p c hp => k47.M_mono (ok' := fun k => ok k ∧ some k ≠ some w.heap.size) (fun k hk => ⟨hk.1.1, fun e => by injection e with e; omega⟩) (k47.M_bound hp))
      have := R_of_blk (d := k47) (w := w) (w1 := w') (ok := ok) (hfresh _ (Nat.le_refl _)) hbase (hgr' _) h1 h2 hG2 (by rw [hll]; exact hG1) (by rw [hll]; exact h3) hrows2
      rw [hll] at this
      exact this
end Go.Proofs.Ytbhmncenbpdcjaa.P
end
section
/- What a change does to facts in order, plain. -/
namespace Go.Proofs.Ytbhmncenbpdcjaa.P
open Go.RowKit Go.Proofs.YtbhmncenbpdcjaaW.PrintWords Go.Proofs.YtbhmncenbpdcjaaW.PrintLast Go.Proofs.YtbhmncenbpdcjaaW.PrintMore
def stepB (l : List F) (c : Ch) : List F :=
  if isB l c.f0 then (if c.f2 then l.eraseIdx (cntB l c.f0) else l.set (cntB l c.f0) ⟨c.f0, c.f1⟩)
  else (if c.f2 then l else l.insertIdx (cntB l c.f0) ⟨c.f0, c.f1⟩)
def applyB (l : List F) (cs : List Ch) : List F := cs.foldl stepB l
theorem Ord_map (l : List F) : Ord l ↔ (l.map (·.f0)).Pairwise (fun x y => bef x y = true) := by
  unfold Ord
  rw [List.pairwise_map]
theorem isB_at {l : List F} {k : K} (h : isB l k = true) : ∃ hi : cntB l k < l.length, (l[cntB l k]).f0 = k := by
  unfold isB at h
  split at h
  · rename_i hi
    refine ⟨hi, ?_⟩
    rw [rd_nat l _ hi] at h
    exact (keyQ_iff _ _).1 h
  · cases h
theorem take_cnt (l : List F) (k : K) : l.take (cntB l k) = l.takeWhile (fun x => bef x.f0 k) := by
  unfold cntB
  have := List.takeWhile_append_dropWhile (p := fun x : F => bef x.f0 k) (l := l)
  conv => lhs; rw [← this]
  exact List.take_left' (by rw [this])
theorem drop_cnt (l : List F) (k : K) : l.drop (cntB l k) = l.dropWhile (fun x => bef x.f0 k) := by
  unfold cntB
  have := List.takeWhile_append_dropWhile (p := fun x : F => bef x.f0 k) (l := l)
  conv => lhs; rw [← this]
  exact List.drop_left' (by rw [this])
theorem take_bef (l : List F) (k : K) : ∀ x ∈ l.take (cntB l k), bef x.f0 k = true := by
  rw [take_cnt]
  intro x hx
  have := List.all_takeWhile (p := fun x : F => bef x.f0 k) (l := l)
  rw [List.all_eq_true] at this
  exact this x hx
theorem dropWhile_head {α : Type} (p : α → Bool) : ∀ (l : List α) (x : α) (r : List α), l.dropWhile p = x :: r → p x = false
  | [], _, _, h => by cases h
  | y :: l, x, r, h => by
    rw [List.dropWhile_cons] at h
    split at h
    · exact dropWhile_head p l x r h
    · rename_i hp
      injection h with h1 h2
      rw [← h1]
      simpa using hp
theorem drop_bef (l : List F) (h : Ord l) (k : K) (hb : isB l k = false) : ∀ x ∈ l.drop (cntB l k), bef k x.f0 = true := by
  intro x hx
  have hi : cntB l k < l.length := by
    rcases Nat.lt_or_ge (cntB l k) l.length with h | h
    · exact h
    · rw [List.drop_eq_nil_of_le h] at hx; cases hx
  have hh : bef (l[cntB l k]).f0 k = false := by
    have hd := drop_cnt l k
    rw [List.drop_eq_getElem_cons hi] at hd
    exact dropWhile_head (fun x : F => bef x.f0 k) l _ _ hd.symm
  have hq : keyQ (l[cntB l k]).f0 k = false := by
    unfold isB at hb
    rw [if_pos hi, rd_nat l _ hi] at hb
    exact hb
  have h1 := bef_other hh hq
  rw [List.drop_eq_getElem_cons hi] at hx
  rcases List.mem_cons.1 hx with rfl | hx
  · exact h1
  · obtain ⟨j, hj, rfl⟩ := List.mem_iff_getElem.1 hx
    rw [List.getElem_drop]
    rw [List.length_drop] at hj
    exact bef_trans h1 ((List.pairwise_iff_getElem.1 h) _ _ hi (by omega) (by omega))
theorem ord_step (l : List F) (c : Ch) (h : Ord l) : Ord (stepB l c) := by
  unfold stepB
  cases hb : isB l c.f0 with
  | true =>
    rw [if_pos rfl]
    split
    · exact List.Pairwise.sublist (List.eraseIdx_sublist _ _) h
    · obtain ⟨hi, hk⟩ := isB_at hb
      rw [Ord_map] at h ⊢
      rw [List.map_set]
      have : (l.map (·.f0)).set (cntB l c.f0) c.f0 = l.map (·.f0) := by
        apply List.ext_getElem
        · simp
        · intro j h1 h2
          rw [List.getElem_set]
          split
          · rename_i e
            subst e
            simp [hk]
          · rfl
      show List.Pairwise _ ((l.map (·.f0)).set (cntB l c.f0) c.f0)
      rw [this]
      exact h
  | false =>
    rw [if_neg (by simp)]
    split
    · exact h
    · rw [insertIdx_eq l _ _ (cntB_le l _)]
      have hT := take_bef l c.f0
      have hD := drop_bef l h c.f0 hb
      have hl : Ord (l.take (cntB l c.f0) ++ l.drop (cntB l c.f0)) := by rw [List.take_append_drop]; exact h
      unfold Ord at hl ⊢
      rw [List.pairwise_append] at hl
      rw [List.append_assoc, List.pairwise_append]
      refine ⟨hl.1, ?_, ?_⟩
      · rw [List.singleton_append, List.pairwise_cons]
        exact ⟨fun y hy => hD y hy, hl.2.1⟩
      · intro x hx y hy
        rcases List.mem_append.1 hy with hy | hy
        · have : y = ⟨c.f0, c.f1⟩ := by simpa using hy
          rw [this]
          exact hT x hx
        · exact hl.2.2 x hx y hy
theorem step_length (l : List F) (c : Ch) : (stepB l c).length ≤ l.length + 1 := by
  unfold stepB
  split <;> split
  · rw [List.length_eraseIdx]; split <;> omega
  · simp
  · omega
  · rw [List.length_insertIdx]; split <;> omega
theorem ord_apply (cs : List Ch) : ∀ l, Ord l → Ord (applyB l cs) := by
  induction cs with
  | nil => intro l h; exact h
  | cons c cs ih => intro l h; exact ih _ (ord_step l c h)
theorem apply_snoc (l : List F) (cs : List Ch) (c : Ch) : applyB l (cs ++ [c]) = stepB (applyB l cs) c := by simp [applyB]
theorem apply_length (cs : List Ch) : ∀ l, (applyB l cs).length ≤ l.length + cs.length := by
  induction cs with
  | nil => intro l; exact Nat.le_refl _
  | cons c cs ih => intro l; have := ih (stepB l c); have := step_length l c; simp only [List.length_cons]; show (applyB (stepB l c) cs).length ≤ _; omega
end Go.Proofs.Ytbhmncenbpdcjaa.P
end
section
/- slices.Clone of bytes: its contract. -/
namespace Go.Proofs.Ytbhmncenbpdcjaa.P
open Go.RowKit Go.Proofs.YtbhmncenbpdcjaaW.PrintWords Go.Proofs.YtbhmncenbpdcjaaW.PrintLast Go.Proofs.YtbhmncenbpdcjaaW.PrintMore
set_option linter.unusedVariables false
set_option linter.unusedSimpArgs false
theorem al_old (w : World) (o : Obj) {r : Nat} (h : r < w.heap.size) : (w.alloc o).heap[r]? = w.heap[r]? := by
  show (w.heap.push o)[r]? = w.heap[r]?
  rw [Array.getElem?_push, if_neg (Nat.ne_of_lt h)]
theorem al_new (w : World) (o : Obj) : (w.alloc o).heap[w.heap.size]? = some o := by
  show (w.heap.push o)[w.heap.size]? = some o
  simp
set_option maxHeartbeats 4000000 in
set_option maxRecDepth 100000 in
theorem clone_any (A0 : Option Addr) (c0 : Nat) (l0 : List Int) (w : World) (hr0 : Kd.C (Kd.int .u8) w A0 l0.length l0) (hc0 : l0.length ≤ c0) (hsz : l0.length < 140737488355328) :
    Calls Try.prog 37 #[.slice A0 l0.length c0] w fun e w' => ∃ v : Value, e = .returned v ∧ Kd.R (Kd.int .u8) 5 w' w.heap.size (fun _ => True) v l0 ∧ Below w.heap.size w w' := by
  have q22 : ∀ (w : World) (a : Option Addr) (n c n' c' : Nat), (binOp .eql 22 (.slice a n c) (.slice none n' c')).run Try.prog w = .ok (.bool a.isNone) w := fun w a n c n' c' => Lib.run_eql_slice_nil w _ _ a n c n' c' Try.underlying22
  cases A0 with
  | none =>
    have hl : l0 = [] := by
      rcases Nat.eq_zero_or_pos l0.length with h0 | h0
      · exact List.eq_nil_of_length_eq_zero h0
      · obtain ⟨ad, e, _⟩ := hr0.2.2 h0
        cases e
    subst hl
    clear hr0
    go_enter Try.func37, Try.ntmps37
    go_wp2
    go_ret
    exact ⟨_, rfl, Kd.R_nil _ _ _ _ _, Below.refl _ _⟩
  | some ad =>
    have HR0 := Aside0.mk hr0
    have HC0 := Aside0.mk hc0
    clear hr0 hc0
    have HB := Aside0.mk (Below.refl w.heap.size w)
    have LMc2 := Aside0.mk hsz
    clear hsz
    go_enter Try.func37, Try.ntmps37
    go_wp2_with ((with_reducible refine gate_builtin (b := .append) (xs := #[.tmp 5, .tmp 6]) rfl ?_); at_builtin; refine Kd.R_append_rows (Kd.int .u8) (w0 := w) w.heap.size rfl (.tmp 5) (.tmp 6) 22 5 (.int .u8 0) 1 rfl Try.underlying22 info5 rfl (by decide) (by omega) (.slice (some ⟨w.heap.size, 0, none⟩) 0 0) ([] : List Int) l0 _ _ _ (fun _ => True) (fun _ => False) rfl rfl ?aO ?aR (fun _ _ h => h) (fun _ h => h.elim) ?aF ?aB ?aS ?aL ?_; (case aR => exact Kd.C_alloc HR0.out _); (case aB => exact below_alloc HB.out _); (case aF => exact (fun _ _ => trivial)); (case aO => exact Kd.R_of_own (World.ownsRow_made w #[] 0 (Nat.le_refl _) (Nat.zero_le _) rfl) (fun _ _ => trivial)); (case aS => simp); (case aL => have := LMc2.out; simp; omega); intro v222 w3 ho hb hg hat; rw [List.nil_append] at ho; have n0_ := Aside0.mk (hb); have n1_ := Aside0.mk (ho); clear HB; have HB := n0_; have HO223 := n1_; clear n0_ n1_; clear ho hb hg hat)
    go_ret
    exact ⟨_, rfl, HO223.out, HB.out⟩
end Go.Proofs.Ytbhmncenbpdcjaa.P
end
section
/- Rows of bytes that are known to the end of their block; facts with such values. -/
namespace Go.Proofs.Ytbhmncenbpdcjaa.P.Q
open Go Go.Shelf Go.RowKit Go.Proofs.Ytbhmncenbpdcjaa.P Go.Proofs.YtbhmncenbpdcjaaW.PrintWords Go.Proofs.YtbhmncenbpdcjaaW.PrintLast Go.Proofs.YtbhmncenbpdcjaaW.PrintMore
set_option linter.unusedVariables false
set_option linter.unusedSimpArgs false
def Full8 (cells : Array Value) : Prop := ∀ u ∈ cells.toList, ∃ n : Int, u = .int .u8 n
def FullB (w : World) (v : Value) : Prop := ∀ g, v.ownBlock = some g → ∃ cells : Array Value, w.heap[g]? = some (.cells cells 5 (0, 0)) ∧ Full8 cells
def R8 (w : World) (base : Nat) (v : Value) (xs : List Int) : Prop := Kd.R (Kd.int .u8) 5 w base (fun _ => True) v xs ∧ FullB w v
theorem FullB.keep {W W' : World} {v : Value} (h : FullB W v) (hk : ∀ (k : Nat) (cells : Array Value), W.heap[k]? = some (Obj.cells cells 5 (0, 0)) → W'.heap[k]? = some (Obj.cells cells 5 (0, 0))) : FullB W' v := fun g hg => by
  obtain ⟨cells, h1, h2⟩ := h g hg
  exact ⟨cells, hk g cells h1, h2⟩
/-- A row of bytes, where every block of bytes is kept. -/
theorem R8_keep {W W' : World} {b : Nat} {v : Value} {xs : List Int} (h : R8 W b v xs) (hk : ∀ (k : Nat) (cells : Array Value), W.heap[k]? = some (Obj.cells cells 5 (0, 0)) → W'.heap[k]? = some (Obj.cells cells 5 (0, 0))) : R8 W' b v xs := by
  refine ⟨Kd.R_mono (Kd.R_move (Kd.R_bound h.1) fun k ⟨_, _, _, q, hq, cells, hc⟩ => ?_) (fun _ _ => trivial), h.2.keep hk⟩
  have : q = 5 := by simpa [Kd.int, Kd.scalar] using hq
  subst this
  exact (hk k cells hc).trans hc.symm
def kF : Kd S47 where
  sz := 5
  E := k47.E
  K := k47.K
  M := fun w base ok x cs => k47.M w base ok x cs ∧ ∀ u ∈ cs, FullB w u
  K_len := fun h => k47.K_len h
  K_one := fun h => k47.K_one h
  K_below := fun hb h => k47.K_below hb h
  K_of_M := fun h => k47.K_of_M h.1
  M_mono := fun hok h => ⟨k47.M_mono hok h.1, h.2⟩
  M_bound := fun h => ⟨k47.M_bound h.1, h.2⟩
  M_move := fun {w w1 base ok x cs} hm h => ⟨k47.M_move hm h.1, fun u hu g hg => by
    obtain ⟨v4, hcs, hR⟩ := k47_openM h.1
    obtain ⟨cells, h1, h2⟩ := h.2 u hu g hg
    refine ⟨cells, (hm g ?_).trans h1, h2⟩
    rw [hcs] at hu
    simp only [List.mem_cons, List.not_mem_nil, or_false] at hu
    rcases hu with rfl | rfl | rfl | rfl | rfl
    · simp [Value.ownBlock] at hg
    · simp [Value.ownBlock] at hg
    · simp [Value.ownBlock] at hg
    · simp [Value.ownBlock] at hg
    · exact hR.1 g hg⟩
  M_lower := fun hb h => ⟨k47.M_lower hb h.1, h.2⟩
theorem kF_mkM (w : World) (base : Nat) (ok : Nat → Prop) (x : S47) {v4 : Value} (g4 : (Kd.int .u8).R 5 w base ok v4 x.f1) (hf : FullB w v4) : kF.M w base ok x [.int .i64 x.f0.f0, .int .u8 x.f0.f1, .string x.f0.f2, .int .i64 x.f0.f3, v4] := by
  refine ⟨k47_mkM w base ok x g4, fun u hu => ?_⟩
  simp only [List.mem_cons, List.not_mem_nil, or_false] at hu
  rcases hu with rfl | rfl | rfl | rfl | rfl
  · intro g hg; simp [Value.ownBlock] at hg
  · intro g hg; simp [Value.ownBlock] at hg
  · intro g hg; simp [Value.ownBlock] at hg
  · intro g hg; simp [Value.ownBlock] at hg
  · exact hf
theorem full_zeros (n : Nat) : Full8 (Builtin.zeroCells (Value.int .u8 0).cells n) := by
  intro u hu
  unfold Builtin.zeroCells at hu
  simp only [Array.toList_map, List.mem_map] at hu
  obtain ⟨i, _, rfl⟩ := hu
  refine ⟨0, ?_⟩
  have : (Value.int .u8 0).cells = #[.int .u8 0] := rfl
  rw [this]
  have h1 : (#[Value.int .u8 0] : Array Value).size = 1 := rfl
  rw [h1, Nat.mod_one]
  rfl
theorem full_ints (l : List Int) : Full8 (l.map (Value.int .u8)).toArray := by
  intro u hu
  simp only [List.mem_map] at hu
  obtain ⟨n, _, rfl⟩ := hu
  exact ⟨n, rfl⟩
theorem full_append {a b : Array Value} (ha : Full8 a) (hb : Full8 b) : Full8 (a ++ b) := by
  intro u hu
  rw [Array.toList_append] at hu
  rcases List.mem_append.1 hu with h | h
  · exact ha u h
  · exact hb u h
theorem ints_cells {W : World} {ad : Addr} {l : List Int} (hC : Kd.C (Kd.int .u8) W (some ad) l.length l) : ∀ j u, (l.map (Value.int .u8))[j]? = some u → W.cell? (ad.add j) = some u := by
  intro j u hj
  rw [List.getElem?_map, Option.map_eq_some_iff] at hj
  obtain ⟨x, hx, rfl⟩ := hj
  have hjl : j < l.length := (List.getElem?_eq_some_iff.1 hx).1
  obtain ⟨ad', he, hc⟩ := hC.2.2 (by omega)
  injection he with he
  subst he
  obtain ⟨cs, _, hcs, hcc⟩ := hc j x hx
  have hcs : cs = [Value.int .u8 x] := hcs
  have := hcc 0 (Value.int .u8 x) (by rw [hcs]; rfl)
  simpa [Kd.int, Kd.scalar] using this
/-- append of bytes to an empty row without room: all of the new block is bytes. -/
theorem append8_run (base : Nat) (W : World) (g0 : Nat) (ty : TypeId) (l : List Int) (ad : Addr) (c : Nat) (h0 : W.heap[g0]? = some (.cells #[] 5 (0, 0))) (hg0 : base ≤ g0) (hbase : base ≤ W.heap.size) (hC : Kd.C (Kd.int .u8) W (some ad) l.length l) (hl : l.length < 140737488355328) :
    ∃ v w1, (Builtin.append_ #[22, 22] ty #[.slice (some ⟨g0, 0, none⟩) 0 0, .slice (some ad) l.length c]).run Try.prog W = .ok v w1 ∧ Kd.R (Kd.int .u8) 5 w1 base (fun _ => True) v l ∧ FullB w1 v ∧ Below W.heap.size W w1 := by
  obtain ⟨i0, hi, hz0, hz1, hz2⟩ := info_parts info5
  have hown0 : W.ownsRow base 5 1 (.slice (some ⟨g0, 0, none⟩) 0 0) 0 [] := ⟨rfl, .inr ⟨g0, 0, #[], rfl, hg0, h0, Nat.le_refl _, by decide, rfl, rfl⟩⟩
  cases l with
  | nil =>
    refine ⟨.slice (some ⟨g0, 0, none⟩) 0 0, W, ?_, ?_, ?_, Below.refl _ _⟩
    · simp [Builtin.append_, run_underlying (P := Try.prog) Try.underlying22, sizeOf, typeInfo, hi, Builtin.lenOf, Builtin.firstCells, loadCells, loadCellsFrom, storeCells]
    · exact Kd.R_of_own hown0 fun _ _ => trivial
    · intro g hg
      obtain rfl : g0 = g := by simpa [Value.ownBlock] using hg
      exact ⟨#[], h0, fun u hu => by cases hu⟩
  | cons x l =>
    have hnews := ints_cells hC
    have h63 : ((0 + (x :: l).length : Nat) : Int) ≤ 9223372036854775807 := by omega
    obtain ⟨v', w', hrun, hown, hgr, _, _⟩ := run_append_own_at (P := Try.prog) (w := W) base 22 ty 5 i0 (.int .u8 0) 1 1 Try.underlying22 hi hz0 hz1 hz2 rfl (by decide) (.slice (some ⟨g0, 0, none⟩) 0 0) 0 [] hown0 ad (x :: l).length c ((x :: l).map (Value.int .u8)) (by simp) hnews (fun u hu => by obtain ⟨n, _, rfl⟩ := List.mem_map.1 hu; rfl) (by unfold maxLen; omega) (by omega) hbase
    have hrun2 := run_append_grow (P := Try.prog) W 22 ty 5 i0 (.int .u8 0) Try.underlying22 hi hz0 ⟨g0, 0, none⟩ 0 0 [] (by simp) (fun j v h => by simp at h) ad (x :: l).length c ((x :: l).map (Value.int .u8)) (by rw [hz1]; simp) hnews (by simp) h63 (by rw [hz2]; exact growslice_fits (by simp) (by omega))
    have he := hrun.symm.trans hrun2
    injection he with hv hw
    refine ⟨v', w', hrun, Kd.R_of_own (by rw [List.nil_append, Nat.zero_add] at hown; exact hown) fun _ _ => trivial, ?_, ?_⟩
    · intro g hg
      rw [hv] at hg
      obtain rfl : W.heap.size = g := by simpa [Value.ownBlock] using hg
      rw [hw]
      exact ⟨_, al_new W.drew _, full_append (full_append (full_ints []) (full_ints (x :: l))) (full_zeros _)⟩
    · rw [hw]
      exact (Below.refl _ _).drew.alloc (Nat.le_refl _) _
theorem clone_full (A0 : Option Addr) (c0 : Nat) (l0 : List Int) (w : World) (hr0 : Kd.C (Kd.int .u8) w A0 l0.length l0) (hc0 : l0.length ≤ c0) (hsz : l0.length < 140737488355328) :
    Calls Try.prog 37 #[.slice A0 l0.length c0] w fun e w' => ∃ v : Value, e = .returned v ∧ Kd.R (Kd.int .u8) 5 w' w.heap.size (fun _ => True) v l0 ∧ FullB w' v ∧ Below w.heap.size w w' := by
  have q22 : ∀ (w : World) (a : Option Addr) (n c n' c' : Nat), (binOp .eql 22 (.slice a n c) (.slice none n' c')).run Try.prog w = .ok (.bool a.isNone) w := fun w a n c n' c' => Lib.run_eql_slice_nil w _ _ a n c n' c' Try.underlying22
  cases A0 with
  | none =>
    have hl : l0 = [] := by
      rcases Nat.eq_zero_or_pos l0.length with h0 | h0
      · exact List.eq_nil_of_length_eq_zero h0
      · obtain ⟨ad, e, _⟩ := hr0.2.2 h0
        cases e
    subst hl
    clear hr0
    go_enter Try.func37, Try.ntmps37
    go_wp2
    go_ret
    exact ⟨_, rfl, Kd.R_nil _ _ _ _ _, fun g hg => by simp [Value.ownBlock] at hg, Below.refl _ _⟩
  | some ad =>
    have hrun := append8_run w.heap.size (w.alloc (.cells #[] 5)) w.heap.size 22 l0 ad c0 (al_new w _) (Nat.le_refl _) (by simp) (Kd.C_alloc hr0 _) hsz
    obtain ⟨v, w1, hr, hR, hF, hB⟩ := hrun
    have HZ := Aside0.mk (And.intro hR (And.intro hF (((Below.refl w.heap.size w).alloc (Nat.le_refl _) _).trans (hB.mono (by simp)))))
    have HR := Aside0.mk hr
    clear hr0 hc0 hR hF hB hr hsz
    go_enter Try.func37, Try.ntmps37
    go_wp2_with ((with_reducible refine gate_builtin (b := .append) (xs := #[.tmp 5, .tmp 6]) rfl ?_); at_builtin; (refine Kd.event_run (v := v) (w1 := w1) rfl ?hrr ?_; (case hrr => unfold execOp; simp only [resolve, invoke, builtin, Sem.run_bind, Sem.run_pure, Result.andThen_ok, List.map_toArray, List.map_cons, List.map_nil]; exact congrArg (fun r => Result.andThen r fun a w' => Result.ok (Next.value a) w') HR.out)))
    go_ret
    exact ⟨_, rfl, HZ.out⟩
end Go.Proofs.Ytbhmncenbpdcjaa.P.Q
end
section
/- A loop over an iterator that hands over memory of its own making: what the iterator says of the world at its call of yield (G) comes to the round; what it says at its end (S) may name the world. The round goes on always. Of no program. -/
namespace Go.Proofs.Ytbhmncenbpdcjaa
open Go Go.RowKit
variable {F : Fence} {n : Nat} {P : Program}

/-- What the iterator owes. -/
def Iter {α : Type} (F : Fence) (n : Nat) (P : Program) (gf : Nat) (lb : Array Value) (encs : α → Array Value) (G : List α → α → World → Prop) (Kp : World → World → Prop) (S : List α → World → Prop) (w : World) : Prop :=
  ∀ (l : Nat) (J : List α → World → Prop) (W : World), Below w.heap.size w W → AbidesFrom W.heap.size J →
    (∀ pre x W1, J pre W1 → G pre x W1 → YieldAt F (n - 1) P l (encs x) W1 fun e W' => e = .returned (.bool true) ∧ J (pre ++ [x]) W' ∧ Kp W1 W') → J [] W →
    CallsIn F n P gf (#[.func (.yield l) #[] #[]] ++ lb) W fun e W' => (∃ v, e = .returned v) ∧ ∃ xs, S xs W' ∧ J xs W'

/-- What a round that goes on owes. -/
def goesOn {α : Type} (B : Nat) (Kp : World → World → Prop) (I : List α → World → Prop) (xs : List α) (W : World) : Exit → Act → World → Prop
  | .normal, _, W' => KeepsFrom B W W' ∧ Kp W W' ∧ I xs W'
  | _, _, _ => False

theorem wpIn_rangeFunc_given {α : Type} {g : Operand} {ps : Array Tmp} {assign body : Code} {Q : Exit → Act → World → Prop} {a : Act} {w : World}
    (hro : F.round = none) (h1 : 1 ≤ n) {gf : Nat} {lb : Array Value} (hg : a.eval g = .func (.func gf) #[] lb) (hFg : F.fn gf) (eg : ∀ args w, (callFunc gf args).run P w = .ok (.enter gf args) w)
    {encs : α → Array Value} {G : List α → α → World → Prop} {Kp : World → World → Prop} {S : List α → World → Prop} (iter : Iter F (n - 1) P gf lb encs G Kp S w)
    (hKt : ∀ {A B C : World}, Kp A B → Kp B C → Kp A C) (hKb : ∀ (W : World) (l : Nat) (o o' : Obj), w.heap.size ≤ l → W.heap[l]? = some o → o.isCells = false → Kp W (W.putObj l o')) (hps : ∀ x, (encs x).size = ps.size)
    (I : List α → World → Prop) (hI : OwnFrom w.heap.size I) (hS : OwnFrom w.heap.size S) (h0 : I [] w) (Ax : List α → α → Act → World → Prop) (hAx : ∀ pre x a', OwnFrom w.heap.size (fun (_ : Unit) W => Ax pre x a' W))
    (hassign : ∀ (l : Nat) (pre : List α) (x : α) (W : World) (K : Act → World → Prop), I pre W → G pre x W → (∀ a' W', KeepsFrom w.heap.size W W' → Kp W W' → I pre W' → Ax pre x a' W' → K a' W') →
      assign.wpIn (F.inRound l) (n - 1 - 1) P (Exit.then K (fun _ _ _ => False)) { tmps := (ps.zip (encs x)).foldl (fun t (p, v) => t.setIfInBounds p v) a.tmps, defers := [] } W)
    (hbody : ∀ (l : Nat) (pre : List α) (x : α) (a' : Act) (W : World), I pre W → Ax pre x a' W → body.wpIn (F.inRound l) (n - 1 - 1) P (goesOn w.heap.size Kp I (pre ++ [x]) W) a' W)
    (hdone : ∀ (D : Nat) (xs : List α) (W : World), w.heap.size ≤ D → S xs W → I xs W → W.heap[D]? = some (.deferred (some [])) → Q .normal { a with defers := { target := .collected D, args := #[] } :: a.defers } W) :
    (Code.rangeFunc g ps assign body).wpIn F n P Q a w := by
  refine wpIn_rangeFunc fun fn hfn => ?_
  rw [hro]
  obtain ⟨B, hB⟩ : ∃ B, B = w.heap.size := ⟨_, rfl⟩
  -- the loop's record, by its state
  obtain ⟨rec, hrec⟩ : ∃ rec : LoopState → Loop, rec = fun st => { state := st, pending := none, fn, tmps := a.tmps, params := ps, assign, body, defers := B } := ⟨_, rfl⟩
  have hst : ∀ st st', { rec st with state := st' } = rec st' := fun st st' => by rw [hrec]
  have hpe : ∀ st, (rec st).pending = none := fun st => by rw [hrec]
  have hss : ∀ st, (rec st).state = st := fun st => by rw [hrec]
  -- how the world stands where the rounds begin
  obtain ⟨W1, hW1⟩ : ∃ W1, W1 = (w.alloc (.deferred (some []))).alloc (.loop (rec .ready)) := ⟨_, rfl⟩
  let Rd : LoopState → World → Prop := fun st W => W.heap[B + 1]? = some (.loop (rec st)) ∧ W.heap[B]? = some (.deferred (some []))
  have hR1 : Rd .ready W1 := by
    subst hB
    refine ⟨?_, ?_⟩
    · rw [hW1]; have := World.alloc_heap_new (w.alloc (.deferred (some []))) (.loop (rec .ready)); rwa [World.size_alloc] at this
    · rw [hW1]; exact (Below.heap_alloc _ _ _ (by simp)).trans (World.alloc_heap_new w _)
  have hI1 : I [] W1 := by rw [hW1]; exact hI.alloc _ (hI.alloc _ h0)
  have hb1 : Below w.heap.size w W1 := by rw [hW1]; exact ((Below.refl _ w).alloc (Nat.le_refl _) _).alloc (by simp) _
  have hs1 : B + 2 = W1.heap.size := by rw [hW1, hB]; simp
  -- a turn of the record
  have turn : ∀ {st : LoopState} (st' : LoopState) {W : World}, Rd st W → Rd st' (W.putObj (B + 1) (.loop (rec st'))) := fun st' W hr =>
    ⟨World.putObj_heap_same (Array.getElem?_eq_some_iff.1 hr.1).1, (World.putObj_heap_other (by omega)).trans hr.2⟩
  have keepR : ∀ {st : LoopState} {W W' : World}, Rd st W → KeepsFrom w.heap.size W W' → Rd st W' := fun hr hk => ⟨hk.same _ _ (by omega) hr.1 rfl, hk.same _ _ (by omega) hr.2 rfl⟩
  have turnI : ∀ {st : LoopState} (st' : LoopState) {W : World} {xs : List α}, Rd st W → I xs W → I xs (W.putObj (B + 1) (.loop (rec st'))) := fun st' W xs hr hi => hI.putObj _ hi (by omega) hr.1 rfl
  have turnK : ∀ {st : LoopState} (st' : LoopState) {W : World}, Rd st W → Kp W (W.putObj (B + 1) (.loop (rec st'))) := fun st' W hr => hKb _ _ _ _ (by omega) hr.1 rfl
  refine ⟨B + 1, [{ target := .collected B, args := #[] }], W1, { target := .fn (.func gf) lb, args := #[.func (.yield (B + 1)) #[] #[]] }, W1, gf, #[.func (.yield (B + 1)) #[] #[]] ++ lb, W1, ?_, ?_, ?_, ?_, fun _ => h1, ?_⟩
  · rw [hW1, hrec, hB]; exact run_enterLoop_outer _ _ _ _ _
  · simp only [resolve, hg]
    simp [go_sem]
  · intro f' hf'
    simp [Target.leads] at hf'
    subst hf'
    exact hFg
  · simp [invoke, go_sem, eg]
  refine (iter (B + 1) (fun xs W => I xs W ∧ Rd .ready W) W1 hb1 ?_ ?_ ⟨hI1, hR1⟩).mono ?_
  · -- the invariant abides the iterator's own doings
    rintro xs X Y row ⟨hi, hr⟩ hg' hrow
    have hnc : ∀ r, row = some r → w.heap.size ≤ r ∧ ∃ o : Obj, X.heap[r]? = some o ∧ o.isCells = false := fun r e => by
      obtain ⟨hle, o, ho, hw⟩ := hrow r e
      exact ⟨by omega, o, ho, Obj.not_cells_of_walk hw⟩
    exact ⟨hI xs X Y row hi hg' hnc, (grownBy_keeps hg' (fun r e => (hrow r e).2) hr.1 rfl).trans hr.1, (grownBy_keeps hg' (fun r e => (hrow r e).2) hr.2 rfl).trans hr.2⟩
  · -- one round
    rintro pre x W ⟨hi, hr⟩ hgx
    have hy := run_yield (P := P) (args := encs x) hr.1 (by rw [hrec]; exact hps x)
    rw [hrec] at hy
    refine ⟨fn, _, assign, body, hy, roundIn_of_wpIn hfn (hassign _ pre x W _ hi hgx fun a' W2 hk2 hp2 hi2 hax => ?_)⟩
    have hr2 := keepR hr hk2
    refine ⟨_, run_beginRound hr2.1 (hss _), ?_⟩
    rw [hst]
    have hr3 := turn .busy hr2
    refine wpIn_mono (hbody _ pre x a' _ (turnI .busy hr2 hi2) ((hAx pre x a').putObj (s := ()) _ hax (by omega) hr2.1 rfl)) ?_
    rintro e a3 W3 hp
    cases e with
    | normal =>
      obtain ⟨hk3, hp3, hi3⟩ := hp
      have hr4 := keepR hr3 hk3
      have he := run_endRound (P := P) none hr4.1
      have e5 : ({ rec .busy with state := .ready, pending := none } : Loop) = rec .ready := by rw [hrec]
      simp only [Option.isNone_none, if_true, e5] at he
      exact ⟨_, _, he, rfl, ⟨turnI .ready hr4 hi3, turn .ready hr4⟩, hKt hp2 (hKt (turnK .busy hr2) (hKt hp3 (turnK .ready hr4)))⟩
    | ret => exact hp.elim
    | exit id => exact hp.elim
    | goto t => exact hp.elim
    | panic ch => exact hp.elim
    | outgrown => exact hp.elim
  · -- behind the iterator
    rintro e W2 ⟨⟨v, rfl⟩, xs, hs, hi, hr⟩
    have he : (Instr.endLoop (B + 1)).run P W2 = .ok none (W2.putObj (B + 1) (.loop (rec .exhausted))) := by
      have h := run_endLoop (P := P) hr.1 (by rw [hss]; simp)
      rw [hrec] at h ⊢
      exact h
    have := hdone B xs _ (by omega) (hS.putObj (.loop (rec .exhausted)) hs (by omega) hr.1 rfl) (turnI .exhausted hr hi) (turn .exhausted hr).2
    exact ⟨none, _, he, this⟩
end Go.Proofs.Ytbhmncenbpdcjaa
end
