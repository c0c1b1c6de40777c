/- Texts of this claim, laid one behind the other: QOwn, QReg, QDel, QIns, RowSet, QRound, QLoop, QApply, QSpoil, QRows, FOwn, FReg, DelFact, FRound, FLoop, FApply, FFind, QFind, Px2. -/
import Derived.RangeFuncBound
import Derived.RangeFuncLeaves
import Derived.Shelf.Abstract
import Derived.Shelf.RegionOpen
import Derived.WalkKit
import Derived.OwnWalkIn
import Derived.TacticsInMore
import Derived.LoopNIn
import Derived.LoopIn
import Derived.Stop.RegionWithIn
import Derived.Deep.RegionHeld3
import Derived.Deep.DrawnRows
import Derived.Lib.Hide
import Derived.IntWalk
import Derived.Maps.AppendAt
import Derived.Lib.AppendZerosOnto
import Derived.Lib.Overlaps
import Derived.Shelf.Spec.SlicesInsert
import Derived.Outline
import Derived.LoopN
import Derived.Test.YtbhmncenbpdcjaaZ1
section
/- fact.own: facts one by one, each with a copy of its value: what its iterator owes. -/
namespace Go.Proofs.Ytbhmncenbpdcjaa.P.Q
open Go.Proofs.Ytbhmncenbpdcjaa.P
open Go Go.Shelf Go.RowKit Go.Proofs.YtbhmncenbpdcjaaW.PrintWords Go.Proofs.YtbhmncenbpdcjaaW.PrintLast Go.Proofs.YtbhmncenbpdcjaaW.PrintMore
set_option linter.unusedVariables false
set_option linter.unusedSimpArgs false
attribute [local go_sem] Oper.semAt_some

/-- What a round leaves: all that lay below n₀, and every block of bytes. -/
def KpB (n₀ : Nat) (W W' : World) : Prop := Below n₀ W W' ∧ ∀ (k : Nat) (cells : Array Value), W.heap[k]? = some (Obj.cells cells 5 (0, 0)) → W'.heap[k]? = some (Obj.cells cells 5 (0, 0))
theorem KpB.trans {n₀ : Nat} {A B C : World} (h : KpB n₀ A B) (k : KpB n₀ B C) : KpB n₀ A C := ⟨h.1.trans k.1, fun i c hi => k.2 i c (h.2 i c hi)⟩
theorem KpB.turn {n₀ : Nat} (W : World) (l : Nat) (o o' : Obj) (hl : n₀ ≤ l) (h : W.heap[l]? = some o) (ho : o.isCells = false) : KpB n₀ W (W.putObj l o') :=
  ⟨(Below.refl n₀ W).grown (grownBy_putObj' W l o') (by have := (Array.getElem?_eq_some_iff.1 h).1; omega) (fun k e => by cases e; omega), fun k cells hk => by
    have hne : k ≠ l := fun e => by subst e; rw [h] at hk; injection hk with hk; rw [hk] at ho; cases ho
    exact (World.putObj_heap_other hne).trans hk⟩
abbrev Own := S47 × Value
def encF (p : Own) : Value := .agg #[.int .i64 p.1.f0.f0, .int .u8 p.1.f0.f1, .string p.1.f0.f2, .int .i64 p.1.f0.f3, p.2]
def OwnG (n₀ : Nat) (p : Own) (W : World) : Prop := R8 W n₀ p.2 p.1.f1
def OwnS (n₀ : Nat) (l : List S47) (ps : List Own) (W : World) : Prop := ps.map Prod.fst = l ∧ ∀ p ∈ ps, OwnG n₀ p W
theorem ownS_from (n₀ B : Nat) (l : List S47) : OwnFrom B (OwnS n₀ l) := fun ps W W' row hs hg hr =>
  ⟨hs.1, fun p hp => R8_keep (hs.2 p hp) fun k cells hk => (hg.block k (Array.getElem?_eq_some_iff.1 hk).1 fun e => by
    obtain ⟨_, o, ho, hc⟩ := hr k e.symm
    rw [hk] at ho; injection ho with ho; subst ho; cases hc).trans hk⟩

set_option maxRecDepth 100000 in
set_option maxHeartbeats 2000000 in
theorem own_iter (n : Nat) (ba n₀ : Nat) (A : Option Addr) (c : Nat) (l : List S47) (hsz : ∀ x ∈ l, x.f1.length < 140737488355328) (w : World) (hw : n₀ ≤ w.heap.size) (ha : w.cell? ⟨ba, 0, none⟩ = some (.slice A l.length c)) (hr : Kd.C k47 w A l.length l)
    (hlow : ∀ W, Below n₀ w W → Kd.C k47 W A l.length l) :
    Iter Fence.wide n Try.prog 53 #[.pointer (some ⟨ba, 0, none⟩)] (fun p => #[encF p]) (fun pre p W => pre.length < l.length ∧ OwnG n₀ p W) (KpB n₀) (OwnS n₀ l) w := by
  intro id J W hbw hJ hY h0
  refine callsIn_of_wp Try.func53 rfl trivial ?_ rfl
  simp only [Try.ntmps53, List.size_toArray, List.length_cons, List.length_nil, Nat.reduceAdd, Nat.reduceSub, Array.replicate_succ, Array.replicate_zero, List.push_toArray, List.append_toArray, List.nil_append, List.cons_append]
  have hba' : W.cell? ⟨ba, 0, none⟩ = some (.slice A l.length c) := cell_below hbw ha
  gi_wp2
  gi_loopw [7] (fun i wr => ∃ (k : Nat) (ps : List Own), k ≤ l.length ∧ i = .int .i64 k ∧ J ps wr ∧ KpB n₀ W wr ∧ ps.map Prod.fst = l.take k ∧ (∀ p ∈ ps, OwnG n₀ p wr))
    (fun i _ => l.length - (intOf i).toNat)
  case atStart => exact ⟨0, [], Nat.zero_le _, rfl, h0, ⟨Below.refl _ _, fun _ _ h => h⟩, rfl, fun _ h => absurd h (by simp)⟩
  case round =>
    obtain ⟨k, ps, hk, rfl, hJs, hkp, hps, hgs⟩ := hrel
    by_cases hlt : k < l.length
    · have hlo : Below n₀ w wr := (hbw.mono hw).trans hkp.1
      obtain ⟨ad, A4, c4, hA, h0, h1, h2, h3, h4, h5, h6⟩ := at_T47 (hlow wr hlo) (k : Nat) (by omega) (by omega)
      subst hA
      simp only [Int.toNat_natCast] at h0 h1 h2 h3 h4
      generalize hy : rd_T47 l (k : Nat) = y at *
      have c1 : (k : Int) < (l.length : Int) := by omega
      have hym : y.f1.length < 140737488355328 := hsz y (by rw [← hy, rd_nat l k hlt]; exact List.getElem_mem _)
      have HJ := Lib.hid (fun (W' : World) (hb : Below wr.heap.size wr W') => hJ ps wr W' none hJs ⟨hb.os, hb.tape, hb.output, hb.size, fun k hk _ => hb.block k hk⟩ (fun r e => by cases e))
      have HY := Lib.hid (fun (v : Value) (W' : World) (h1 : J ps W') (h2 : OwnG n₀ (y, v) W') => hY ps (y, v) W' h1 ⟨(by have := congrArg List.length hps; rw [List.length_map, List.length_take] at this; omega), h2⟩)
      have HS := Lib.hid hym
      have HA := Lib.hid (And.intro h5 h6)
      have HW := Lib.hid (Nat.le_trans hw (Nat.le_trans hbw.size (Nat.le_trans hkp.1.size (Nat.le_refl _))))
      have HN := Lib.hid (Nat.le_trans hw (Nat.le_trans hbw.size hkp.1.size))
      obtain ⟨WB, hWB⟩ : ∃ WB, WB = (wr.alloc (Obj.cells #[Value.int IntKind.i64 y.f0.f0, Value.int IntKind.u8 y.f0.f1, Value.string y.f0.f2, Value.int IntKind.i64 y.f0.f3, Value.slice A4 y.f1.length c4] 47)).drew := ⟨_, rfl⟩
      have hBX : Below wr.heap.size wr WB := by rw [hWB]; exact ((Below.refl _ _).alloc (Nat.le_refl _) _).drew
      have hB0 : WB.cell? ⟨wr.heap.size, 0, none⟩ = some (.int .i64 y.f0.f0) := by rw [hWB]; go_simp
      have hB1 : WB.cell? ⟨wr.heap.size, 1, none⟩ = some (.int .u8 y.f0.f1) := by rw [hWB]; go_simp
      have hB2 : WB.cell? ⟨wr.heap.size, 2, none⟩ = some (.string y.f0.f2) := by rw [hWB]; go_simp
      have hB3 : WB.cell? ⟨wr.heap.size, 3, none⟩ = some (.int .i64 y.f0.f3) := by rw [hWB]; go_simp
      have hB4 : WB.cell? ⟨wr.heap.size, 4, none⟩ = some (.slice A4 y.f1.length c4) := by rw [hWB]; go_simp
      have HX : Hid (∀ W', Below WB.heap.size WB W' → W'.cell? ⟨wr.heap.size, 0, none⟩ = some (.int .i64 y.f0.f0) ∧ W'.cell? ⟨wr.heap.size, 1, none⟩ = some (.int .u8 y.f0.f1) ∧ W'.cell? ⟨wr.heap.size, 2, none⟩ = some (.string y.f0.f2) ∧ W'.cell? ⟨wr.heap.size, 3, none⟩ = some (.int .i64 y.f0.f3) ∧ W'.cell? ⟨wr.heap.size, 4, none⟩ = some (.slice A4 y.f1.length c4) ∧ Below wr.heap.size wr W') := Lib.hid fun W' hb => ⟨cell_below hb hB0, cell_below hb hB1, cell_below hb hB2, cell_below hb hB3, cell_below hb hB4, hBX.trans (hb.mono hBX.size)⟩
      have HC : Hid (Calls Try.prog 37 #[.slice A4 y.f1.length c4] (wr.alloc (Obj.cells #[Value.int IntKind.i64 y.f0.f0, Value.int IntKind.u8 y.f0.f1, Value.string y.f0.f2, Value.int IntKind.i64 y.f0.f3, Value.slice A4 y.f1.length c4] 47)).drew fun e w' => ∃ (A1 : Option Addr) (c1 : Nat), e = .returned (.slice A1 y.f1.length c1) ∧ (J ps w' ∧ OwnG n₀ (y, .slice A1 y.f1.length c1) w' ∧ Below WB.heap.size WB w')) := Lib.hid (by
        rw [← hWB]
        refine (clone_full A4 c4 y.f1 WB (Kd.C_below h6 hBX) h5 hym).mono ?_
        rintro e w' ⟨v, rfl, hR, hF, hB⟩
        obtain ⟨A1, c1, rfl⟩ := Kd.R_slice hR
        exact ⟨A1, c1, rfl, HJ.out w' (hBX.trans (hB.mono hBX.size)), ⟨Kd.R_lower hR (Nat.le_trans HN.out hBX.size), hF⟩, hB⟩)
      have HP := Lib.hid (And.intro hps (And.intro hgs hkp))
      have HL := Lib.hid (And.intro hlt (And.intro hy (Kd.C_below hr hbw).2.1))
      clear hJ hY hym h5 h6 hgs hps hkp hlo hba' hsz hlow hr ha hB0 hB1 hB2 hB3 hB4 hBX hWB
      gi_wp2
      gi_region_with (first | (refine ⟨trivial, fun h => absurd h (by decide), callsIn_wide.2 ?_⟩; refine HC.out.mono ?_; rintro e w' ⟨A1, c1', rfl, hj, hg, hb⟩; obtain ⟨b0, b1, b2, b3, b4, hb5⟩ := HX.out w' hb; obtain ⟨fn, tmps, assign, body, hy1, hR1⟩ := HY.out _ w' hj hg; dsimp only [encF] at hy1; have HV1 := Lib.hid (And.intro hg hb5); have HR1 := Lib.hid hR1; clear hR1; clear hj hg hb hb5) | (refine ⟨fun h => absurd h (by decide), HR1.out.mono ?_⟩; rintro e W3 ⟨rfl, hJ3, hK3⟩; have HJ3 := Lib.hid hJ3; have HK3 := Lib.hid hK3; clear hJ3 hK3) | (trace_state; fail))
      all_goals gi_wp2
      all_goals
        obtain ⟨hps, hgs, hkp⟩ := HP.out
        obtain ⟨hlt, hy, hl63⟩ := HL.out
        have hb5 := HV1.out.2
        have hk5 : KpB n₀ wr w' := ⟨hb5.mono HN.out, fun i cells hi => (hb5.block i (Array.getElem?_eq_some_iff.1 hi).1).trans hi⟩
        have hk6 := hk5.trans HK3.out
        have hwr : wrap64 ((k : Int) + 1) = (k : Int) + 1 := by unfold wrap64; omega
        rw [hwr]
        refine ⟨⟨k + 1, _, by omega, by simp, HJ3.out, hkp.trans hk6, ?_, ?_⟩, by simp [intOf]; omega⟩
        · rw [List.map_append, hps, List.take_add_one, List.getElem?_eq_getElem hlt]
          simp only [List.map_cons, List.map_nil, Option.toList]
          rw [← hy, rd_nat l k hlt]
        · intro p hp
          rcases List.mem_append.1 hp with hp | hp
          · exact R8_keep (hgs p hp) hk6.2
          · have e : p = (y, Value.slice A1 y.f1.length c1') := by simpa using hp
            rw [e]
            exact R8_keep HV1.out.1 HK3.out.2
    · obtain rfl : k = l.length := by omega
      gi_wp2
      go_end0
      exact ⟨⟨_, rfl⟩, ps, ⟨by rw [hps, List.take_length], hgs⟩, hJs⟩
end Go.Proofs.Ytbhmncenbpdcjaa.P.Q
end
section
/- fact.Apply: the region that lays a change's fact. -/
namespace Go.Proofs.Ytbhmncenbpdcjaa.P.Q
open Go.Proofs.Ytbhmncenbpdcjaa.P
open Go Go.Shelf Go.RowKit Go.Proofs.YtbhmncenbpdcjaaW.PrintWords Go.Proofs.YtbhmncenbpdcjaaW.PrintLast Go.Proofs.YtbhmncenbpdcjaaW.PrintMore
set_option linter.unusedVariables false
set_option linter.unusedSimpArgs false
attribute [local go_sem] Oper.semAt_some
attribute [local go_sem ↓] Go.wp_at_zero Go.wp_at_succ
def regionAt (n : Nat) : Code → Option Code
  | .region i ops d => if i = n then some (.region i ops d) else none
  | .loop c => regionAt n c
  | .seq a b => match regionAt n a with
    | some c => some c
    | none => regionAt n b
  | .block _ c => regionAt n c
  | .scope c => regionAt n c
  | .cond _ a b => match regionAt n a with
    | some c => some c
    | none => regionAt n b
  | .rangeFunc _ _ a b => match regionAt n a with
    | some c => some c
    | none => regionAt n b
  | _ => none
def cells6 (c : Ch) (A4 : Option Addr) (c4 : Nat) : List Value := [.int .i64 c.f0.f0, .int .u8 c.f0.f1, .string c.f0.f2, .int .i64 c.f0.f3, .slice A4 c.f1.length c4, .bool c.f2]
noncomputable def reg11 : Code := ((Try.f16.body.bind (regionAt 11)).getD .skip)
/-- What stands behind it. -/
def Laid (c : Ch) (W2 : World) (B : Nat) (A5 : Option Addr) (c5 : Nat) (W3 : World) : Prop :=
  W2.heap.size ≤ B ∧ W3.heap[B]? = some (.cells #[.int .i64 c.f0.f0, .int .u8 c.f0.f1, .string c.f0.f2, .int .i64 c.f0.f3, .slice A5 c.f1.length c5] 47 (0, 0)) ∧
    R8 W3 W2.heap.size (.slice A5 c.f1.length c5) c.f1 ∧ Below W2.heap.size W2 W3
theorem laid_new {c : Ch} {W2 w' : World} {A5 : Option Addr} {c5 : Nat} (hr : R8 w' W2.drew.heap.size (.slice A5 c.f1.length c5) c.f1) (hb : Below W2.drew.heap.size W2.drew w') :
    Laid c W2 w'.heap.size A5 c5 (w'.alloc (.cells #[.int .i64 c.f0.f0, .int .u8 c.f0.f1, .string c.f0.f2, .int .i64 c.f0.f3, .slice A5 c.f1.length c5] 47)) := by
  have hb' : Below W2.heap.size W2 w' := (Below.refl _ _).drew.trans (hb.mono (Nat.le_refl _))
  exact ⟨hb'.size, World.alloc_heap_new _ _, R8_keep hr fun k cells hk => (al_old _ _ (Array.getElem?_eq_some_iff.1 hk).1).trans hk, hb'.alloc hb'.size _⟩
theorem laid_old {c : Ch} {W2 w' : World} {A5 : Option Addr} {c5 : Nat} (hr : R8 w' (W2.alloc (.cells #[.int .i64 0, .int .u8 0, .string ⟨#[]⟩, .int .i64 0, .slice none 0 0] 47)).drew.heap.size (.slice A5 c.f1.length c5) c.f1)
    (hb : Below (W2.alloc (.cells #[.int .i64 0, .int .u8 0, .string ⟨#[]⟩, .int .i64 0, .slice none 0 0] 47)).drew.heap.size (W2.alloc (.cells #[.int .i64 0, .int .u8 0, .string ⟨#[]⟩, .int .i64 0, .slice none 0 0] 47)).drew w') :
    Laid c W2 W2.heap.size A5 c5 (((((w'.setCell ⟨W2.heap.size, 0, none⟩ (.int .i64 c.f0.f0)).setCell ⟨W2.heap.size, 1, none⟩ (.int .u8 c.f0.f1)).setCell ⟨W2.heap.size, 2, none⟩ (.string c.f0.f2)).setCell ⟨W2.heap.size, 3, none⟩ (.int .i64 c.f0.f3)).setCell ⟨W2.heap.size, 4, none⟩ (.slice A5 c.f1.length c5)) := by
  have hs : (W2.alloc (.cells #[.int .i64 0, .int .u8 0, .string ⟨#[]⟩, .int .i64 0, .slice none 0 0] 47)).drew.heap.size = W2.heap.size + 1 := by simp
  have hz : w'.heap[W2.heap.size]? = some (.cells #[.int .i64 0, .int .u8 0, .string ⟨#[]⟩, .int .i64 0, .slice none 0 0] 47 (0, 0)) :=
    (hb.block W2.heap.size (by rw [hs]; omega)).trans (World.alloc_heap_new W2 _)
  have hb' : Below W2.heap.size W2 w' := ((Below.refl _ _).alloc (Nat.le_refl _) _).drew.trans (hb.mono (by rw [hs]; omega))
  refine ⟨Nat.le_refl _, ?_, ?_, ((((hb'.setCell (p := ⟨W2.heap.size, 0, none⟩) (Nat.le_refl _) _).setCell (p := ⟨W2.heap.size, 1, none⟩) (Nat.le_refl _) _).setCell (p := ⟨W2.heap.size, 2, none⟩) (Nat.le_refl _) _).setCell (p := ⟨W2.heap.size, 3, none⟩) (Nat.le_refl _) _).setCell (p := ⟨W2.heap.size, 4, none⟩) (Nat.le_refl _) _⟩
  · exact blk_put (blk_put (blk_put (blk_put (blk_put hz 0 _ rfl) 1 _ rfl) 2 _ rfl) 3 _ rfl) 4 _ rfl
  · have hk : ∀ (k : Nat) (cells : Array Value), w'.heap[k]? = some (Obj.cells cells 5 (0, 0)) → (((((w'.setCell ⟨W2.heap.size, 0, none⟩ (.int .i64 c.f0.f0)).setCell ⟨W2.heap.size, 1, none⟩ (.int .u8 c.f0.f1)).setCell ⟨W2.heap.size, 2, none⟩ (.string c.f0.f2)).setCell ⟨W2.heap.size, 3, none⟩ (.int .i64 c.f0.f3)).setCell ⟨W2.heap.size, 4, none⟩ (.slice A5 c.f1.length c5)).heap[k]? = some (Obj.cells cells 5 (0, 0)) := fun k cells hk => by
      have hne : k ≠ W2.heap.size := fun e => by
        rw [e, hz] at hk
        injection hk with hk
        injection hk with _ h2 _
        cases h2
      rw [Below.heap_setCell _ _ _ k hne, Below.heap_setCell _ _ _ k hne, Below.heap_setCell _ _ _ k hne, Below.heap_setCell _ _ _ k hne, Below.heap_setCell _ _ _ k hne]
      exact hk
    have h8 := R8_keep hr hk
    exact ⟨Kd.R_lower h8.1 (by rw [hs]; omega), h8.2⟩
theorem bcell {W w1 : World} (hb : Below W.heap.size W w1) : (∀ b o, b < W.heap.size → w1.cell? ⟨b, o, none⟩ = W.cell? ⟨b, o, none⟩) ∧ (∀ b o, b < W.heap.size → w1.frozen? ⟨b, o, none⟩ = W.frozen? ⟨b, o, none⟩) :=
  ⟨fun b o h => hb.cell (p := ⟨b, o, none⟩) h, fun b o h => hb.frozen (p := ⟨b, o, none⟩) h⟩
set_option maxRecDepth 100000 in
set_option maxHeartbeats 4000000 in
theorem reg11_any (u0 u1 u2 u3 u4 u5 u6 u7 u9 u10 u11 u12 u13 u14 u15 u16 u17 u18 u19 u20 u21 u22 u23 u24 u25 u26 u27 u28 u29 u30 u31 u32 u33 u34 u35 u36 u37 u38 u39 u40 u41 u42 u43 u44 u45 u46 u47 u48 u49 u50 u51 u52 u53 u54 u55 u56 u57 u58 u59 u60 u61 u62 u63 u64 u65 u66 u67 u68 : Value) (ds : List Deferred) (x : Nat) (c : Ch) (A4 : Option Addr) (c4 : Nat) (W2 : World) (hx : W2.heap[x]? = some (.cells (cells6 c A4 c4).toArray 53 (0, 0)))
    (hC : Kd.C (Kd.int .u8) W2 A4 c.f1.length c.f1) (hc4 : c.f1.length ≤ c4) (hcv : c.f1.length < 140737488355328) (Q : Exit → Act → World → Prop)
    (hQ : ∀ (v35 v36 v37 v38 v39 v40 : Value) (W3 : World) (B : Nat) (A5 : Option Addr) (c5 : Nat), Laid c W2 B A5 c5 W3 → Q .normal { tmps := #[u0, u1, u2, u3, u4, u5, u6, u7, .pointer (some ⟨x, 0, none⟩), u9, u10, .pointer (some ⟨B, 0, none⟩), u12, u13, u14, u15, u16, u17, u18, u19, u20, u21, u22, u23, u24, u25, u26, u27, u28, u29, u30, u31, u32, u33, u34, v35, v36, v37, v38, v39, v40, u41, u42, u43, u44, u45, u46, u47, u48, u49, u50, u51, u52, u53, u54, u55, u56, u57, u58, u59, u60, u61, u62, u63, u64, u65, u66, u67, u68], defers := ds } W3) :
    Code.wp Try.prog reg11 Q { tmps := #[u0, u1, u2, u3, u4, u5, u6, u7, .pointer (some ⟨x, 0, none⟩), u9, u10, u11, u12, u13, u14, u15, u16, u17, u18, u19, u20, u21, u22, u23, u24, u25, u26, u27, u28, u29, u30, u31, u32, u33, u34, u35, u36, u37, u38, u39, u40, u41, u42, u43, u44, u45, u46, u47, u48, u49, u50, u51, u52, u53, u54, u55, u56, u57, u58, u59, u60, u61, u62, u63, u64, u65, u66, u67, u68], defers := ds } W2 := by
  conv => arg 2; whnf
  have k0 : W2.cell? ⟨x, 0, none⟩ = some (.int .i64 c.f0.f0) := by simp [World.cell?, hx, cells6]
  have k1 : W2.cell? ⟨x, 1, none⟩ = some (.int .u8 c.f0.f1) := by simp [World.cell?, hx, cells6]
  have k2 : W2.cell? ⟨x, 2, none⟩ = some (.string c.f0.f2) := by simp [World.cell?, hx, cells6]
  have k3 : W2.cell? ⟨x, 3, none⟩ = some (.int .i64 c.f0.f3) := by simp [World.cell?, hx, cells6]
  have k4 : W2.cell? ⟨x, 4, none⟩ = some (.slice A4 c.f1.length c4) := by simp [World.cell?, hx, cells6]
  have hlt : x < W2.heap.size := (Array.getElem?_eq_some_iff.1 hx).1
  have HC : Hid (∀ W', Below W2.heap.size W2 W' → Calls Try.prog 37 #[.slice A4 c.f1.length c4] W' fun e w' => ∃ (A5 : Option Addr) (c5 : Nat), e = .returned (.slice A5 c.f1.length c5) ∧ R8 w' W'.heap.size (.slice A5 c.f1.length c5) c.f1 ∧ Below W'.heap.size W' w' ∧ w'.cell? ⟨x, 0, none⟩ = some (.int .i64 c.f0.f0) ∧ w'.cell? ⟨x, 1, none⟩ = some (.int .u8 c.f0.f1) ∧ w'.cell? ⟨x, 2, none⟩ = some (.string c.f0.f2) ∧ w'.cell? ⟨x, 3, none⟩ = some (.int .i64 c.f0.f3) ∧ w'.cell? ⟨x, 4, none⟩ = some (.slice A4 c.f1.length c4)) := Lib.hid fun W' hb => by
    refine (clone_full A4 c4 c.f1 W' (Kd.C_below hC hb) hc4 hcv).mono ?_
    rintro e w' ⟨v, rfl, hR, hF, hB⟩
    obtain ⟨A5, c5, rfl⟩ := Kd.R_slice hR
    have hb2 := hb.trans (hB.mono hb.size)
    exact ⟨A5, c5, rfl, ⟨hR, hF⟩, hB, cell_below hb2 k0, cell_below hb2 k1, cell_below hb2 k2, cell_below hb2 k3, cell_below hb2 k4⟩
  have HQ := Lib.hid hQ
  clear hx hC hQ
  have hne : x ≠ W2.heap.size := by omega
  have m0 := World.new_ne W2 _ k0
  have m1 := World.new_ne W2 _ k1
  have m2 := World.new_ne W2 _ k2
  have m3 := World.new_ne W2 _ k3
  have m4 := World.new_ne W2 _ k4
  refine wp_region_noPanic ?_
  go_region_held3 (fun w' => w'.cell? ⟨x, 0, none⟩ = some (.int .i64 c.f0.f0) ∧ w'.cell? ⟨x, 1, none⟩ = some (.int .u8 c.f0.f1) ∧ w'.cell? ⟨x, 2, none⟩ = some (.string c.f0.f2) ∧ w'.cell? ⟨x, 3, none⟩ = some (.int .i64 c.f0.f3) ∧ w'.cell? ⟨x, 4, none⟩ = some (.slice A4 c.f1.length c4)) (go_keep)
    (first | (go_at_call 37; (with_reducible refine (HC.out _ ?_).mono ?_); ((first | exact (((Below.refl _ _).alloc (Nat.le_refl _) _).drew) | exact (Below.refl _ _).drew | exact ((Below.refl _ _).alloc (Nat.le_refl _) _))); rintro e w' ⟨A5, c5, rfl, hr5, hb5, q0, q1, q2, q3, q4⟩; obtain ⟨hc, hf⟩ := bcell hb5; have hsz := hb5.size))
  all_goals refine NoPanic.normal ?_
  all_goals refine HQ.out _ _ _ _ _ _ _ _ A5 c5 ?_
  all_goals first
    | with_reducible exact laid_new hr5 hb5
    | with_reducible exact laid_old hr5 hb5
end Go.Proofs.Ytbhmncenbpdcjaa.P.Q
end
section
/- slices.Delete of one element of a row of the call's own: its contract. -/
namespace Go.Proofs.Ytbhmncenbpdcjaa.P.Q
open Go.Proofs.Ytbhmncenbpdcjaa.P
open Go.RowKit Go.Proofs.YtbhmncenbpdcjaaW.PrintWords Go.Proofs.YtbhmncenbpdcjaaW.PrintLast Go.Proofs.YtbhmncenbpdcjaaW.PrintMore
set_option linter.unusedVariables false
set_option linter.unusedSimpArgs false

theorem del_take (L inner zs : List Value) (i r s cap : Nat) (h : L.take ((i + 1 + r) * s) = inner) (hn : i + 1 + r ≤ cap) (hL : L.length = cap * s) (hz : zs.length = s) :
    (splice (splice L (i * s) (inner.drop ((i + 1) * s))) ((i + r) * s) zs).take ((i + r) * s) = inner.take (i * s) ++ inner.drop ((i + 1) * s) := by
  have e1 : (i + 1 + r) * s = i * s + s + r * s := by rw [Nat.add_mul, Nat.add_mul, Nat.one_mul]
  have e2 : (i + r) * s = i * s + r * s := Nat.add_mul _ _ _
  have e3 : (i + 1) * s = i * s + s := by rw [Nat.add_mul, Nat.one_mul]
  have hc : (i + 1 + r) * s ≤ cap * s := Nat.mul_le_mul_right _ hn
  rw [e1] at h hc
  rw [e2, e3]
  have hil : inner.length = i * s + s + r * s := by rw [← h, List.length_take]; omega
  have hdl : (inner.drop (i * s + s)).length = r * s := by rw [List.length_drop]; omega
  have ht : L.take (i * s) = inner.take (i * s) := by rw [← h, List.take_take, Nat.min_eq_left (by omega)]
  have e4 : splice L (i * s) (inner.drop (i * s + s)) = inner.take (i * s) ++ (inner.drop (i * s + s) ++ L.drop (i * s + r * s)) := by
    unfold splice; rw [ht, hdl]
  have hA : (inner.take (i * s) ++ inner.drop (i * s + s)).length = i * s + r * s := by rw [List.length_append, hdl, List.length_take]; omega
  have e5 : (splice L (i * s) (inner.drop (i * s + s))).take (i * s + r * s) = inner.take (i * s) ++ inner.drop (i * s + s) := by
    rw [e4, ← List.append_assoc, ← hA, List.take_left]
  generalize splice L (i * s) (inner.drop (i * s + s)) = M at e5 ⊢
  show (M.take (i * s + r * s) ++ (zs ++ _)).take (i * s + r * s) = _
  rw [e5, ← hA, List.take_left]
def Z0 : Value := .agg #[.int .i64 0, .int .u8 0, .string ⟨#[]⟩, .int .i64 0, .slice none 0 0]
theorem zero0 (w : World) : (zeroValue 47).run Try.prog w = .ok Z0 w := by kernel_rfl
set_option maxHeartbeats 2000000 in
set_option maxRecDepth 100000 in
theorem delFact_any (v : Value) (xs : List S47) (i : Nat) (w : World) (base : Nat) (ok : Nat → Prop) (h : Kd.R kF 47 w base ok v xs) (hi : i < xs.length) :
    Calls Try.prog 38 #[v, .int .i64 i, .int .i64 ((i : Int) + 1)] w fun e w' => ∃ v', e = .returned v' ∧ Kd.R kF 47 w' base ok v' (xs.eraseIdx i) ∧ w.grownBy w' v.ownBlock ∧ v'.ownBlock = v.ownBlock := by
  rcases R_form h with ⟨_, rfl⟩ | ⟨g, cap, L, inner, rfl, hok, hbase, hgL, hnc, hcm, hLlen, htake, hlen, hreps⟩
  · simp at hi
  have hone := reps_cells_one (by decide) hreps
  obtain ⟨r, hn⟩ : ∃ r, xs.length = i + 1 + r := ⟨xs.length - (i + 1), by omega⟩
  rw [hn] at hlen hnc htake ⊢
  have hLlen : L.length = cap * 5 := hLlen
  have hlen : inner.length = (i + 1 + r) * 5 := hlen
  have htake : L.take ((i + 1 + r) * 5) = inner := htake
  have hcm' : cap ≤ 9223372036854775807 := by unfold maxLen at hcm; exact hcm
  have hel : (xs.eraseIdx i).length = i + r := by rw [List.length_eraseIdx, if_pos hi, hn]; omega
  have HE : Hid (∀ w', w.grownBy w' (some g) → (∃ L', w'.heap[g]? = some (.cells (List.toArray L') 47 (0, 0)) ∧ L'.length = cap * 5 ∧ L'.take ((i + r) * 5) = inner.take (i * 5) ++ inner.drop ((i + 1) * 5)) → Kd.R kF 47 w' base ok (.slice (some ⟨g, 0, none⟩) (i + r) cap) (xs.eraseIdx i)) := by
    rintro w' hg' ⟨L', h1, h2, h3⟩
    have hr : Reps (kF.M w base (fun k => ok k ∧ some k ≠ some g)) 5 (xs.eraseIdx i) (inner.take (i * 5) ++ inner.drop ((i + 1) * 5)) := by
      rw [eraseIdx_eq _ _ hi]
      exact Kd.reps_append (Kd.reps_take hreps (by omega)) (Kd.reps_drop hreps)
    have := R_of_blk (d := kF) (w := w) (w1 := w') hok hbase hg' h1 h2 hcm (by rw [hel]; omega) (by rw [hel]; exact h3) hr
    rw [hel] at this
    exact this
  have b2 : (i : Int) ≤ (i : Int) + 1 := by omega
  have b4 : (0 : Int) ≤ (i : Int) + 1 := by omega
  have b5 : ((i : Int) == (i : Int) + 1) = false := by rw [beq_eq_false_iff_ne]; omega
  have b6 : i ≤ cap := by omega
  have b7 : i + 1 ≤ i + 1 + r := by omega
  have b8 : (i : Int) + (r : Int) ≤ (i : Int) + 1 + (r : Int) := by omega
  have b9 : (i : Int) + 1 ≤ (i : Int) + 1 + (r : Int) := by omega
  have b10 : (i : Int) + 1 + (r : Int) ≤ (cap : Int) := by omega
  have b11 : (0 : Int) ≤ (i : Int) + (r : Int) := by omega
  have hroom : i + r ≤ cap := by omega
  have b12 : cap ≠ i := by omega
  have b14 : i + 1 + r - (i + r) = 1 := by omega
  have b13 : cap ≠ i + r := by omega
  obtain ⟨i0, hi0, hz0, hz1, hz2⟩ := info_parts info47
  obtain ⟨news, hnews⟩ : ∃ news, news = inner.drop ((i + 1) * 5) := ⟨_, rfl⟩
  have hnl : news.length = r * i0.size := by
    rw [hnews, List.length_drop, hlen, hz1]
    omega
  have hn1 : ∀ u ∈ news, u.oneCell' = true := fun u hu => hone u (by rw [hnews] at hu; exact List.mem_of_mem_drop hu)
  have hi0s : 0 < i0.size := by rw [hz1]; decide
  have hfit : 0 + i * i0.size + news.length ≤ L.length := by
    rw [hnl, hLlen, hz1]
    omega
  have hsrc : ∀ j u, news[j]? = some u → w.cell? ((⟨g, (i + 1) * 5, none⟩ : Addr).add j) = some u := by
    refine blk_cells hgL fun j u hj => ?_
    rw [hnews] at hj
    exact getElem_of_take htake hj
  obtain ⟨zs, hzs⟩ : ∃ zs, (Builtin.zeroCells Z0.cells 1).toList = zs := ⟨_, rfl⟩
  have hzl : zs.length = 5 := by rw [← hzs]; decide +kernel
  have hz1' : ∀ u ∈ zs, u.oneCell' = true := by rw [← hzs]; decide +kernel
  have hfit2 : (i + r) * 5 + zs.length ≤ (splice L (0 + i * i0.size) news).length := by
    rw [length_splice _ _ _ hfit, hLlen, hzl]
    have : (i + r + 1) * 5 ≤ cap * 5 := Nat.mul_le_mul_right _ (by omega)
    rw [Nat.add_mul] at this
    omega
  have HT : Hid ((splice (splice L (0 + i * i0.size) news) ((i + r) * 5) zs).length = cap * 5 ∧ (splice (splice L (0 + i * i0.size) news) ((i + r) * 5) zs).take ((i + r) * 5) = inner.take (i * 5) ++ inner.drop ((i + 1) * 5)) := by
    refine ⟨by rw [length_splice _ _ _ hfit2, length_splice _ _ _ hfit, hLlen], ?_⟩
    rw [hz1, Nat.zero_add, hnews]
    exact del_take L inner zs i r 5 cap htake hnc hLlen hzl
  clear hone hn hlen htake hLlen hnews hzl hel h hi hreps hok hbase hcm
  by_cases hcap : cap = i + 1
  · have hr0 : r = 0 := by omega
    subst hr0
    have hnil : news = [] := List.eq_nil_of_length_eq_zero (by omega)
    subst hcap
    subst hnil
    clear hsrc
    go_enter Try.func38, Try.ntmps38
    go_wp2
    go_region_law (refine step_append_sz rfl (.tmp 22) (.tmp 25) 38 rfl 47 i0 Try.underlying38 hi0 _ _ _ _ _ _ rfl rfl g 0 L 47 hgL [] hnl hi0s (fun h => absurd h (by simp)) hroom hfit hn1 ?_)
    have hg2 := setRow_blk w.drew g L (splice L (0 + i * i0.size) []) 47 hgL
    have hgr := setRow_grown w.drew g (splice L (0 + i * i0.size) []).toArray
    simp only [hz1, Nat.zero_add] at hg2 hgr hfit2 HT
    go_wp2
    rw [run_clear_sz (P := Try.prog) _ 38 47 0 Z0 Try.underlying38 zero0 1 _ (by omega) g (i * 5) _ 47 hg2 zs hzs hfit2 hz1']
    simp only [Result.andThen_ok]
    have hgq := (show w.grownBy _ (some g) from ⟨hgr.os, hgr.tape, hgr.output, hgr.size, hgr.block⟩).trans (setRow_grown _ g (splice (splice L (i * 5) []) (i * 5) zs).toArray)
    have hbq := setRow_blk _ g (splice L (i * 5) []) (splice (splice L (i * 5) []) (i * 5) zs) 47 hg2
    go_wp2
    go_ret
    exact ⟨_, rfl, HE.out _ hgq ⟨_, hbq, HT.out.1, HT.out.2⟩, hgq, rfl⟩
  · go_enter Try.func38, Try.ntmps38
    go_wp2
    go_region_law (refine step_append_sz rfl (.tmp 22) (.tmp 25) 38 rfl 47 i0 Try.underlying38 hi0 _ _ _ _ _ _ rfl rfl g 0 L 47 hgL news hnl hi0s (fun h => ⟨rfl, _, rfl, hsrc⟩) hroom hfit hn1 ?_)
    have hg2 := setRow_blk w.drew g L (splice L (0 + i * i0.size) news) 47 hgL
    have hgr := setRow_grown w.drew g (splice L (0 + i * i0.size) news).toArray
    simp only [hz1, Nat.zero_add] at hg2 hgr hfit2 HT
    go_wp2
    rw [run_clear_sz (P := Try.prog) _ 38 47 0 Z0 Try.underlying38 zero0 1 _ (by omega) g ((i + r) * 5) _ 47 hg2 zs hzs hfit2 hz1']
    simp only [Result.andThen_ok]
    have hgq := (show w.grownBy _ (some g) from ⟨hgr.os, hgr.tape, hgr.output, hgr.size, hgr.block⟩).trans (setRow_grown _ g (splice (splice L (i * 5) news) ((i + r) * 5) zs).toArray)
    have hbq := setRow_blk _ g (splice L (i * 5) news) (splice (splice L (i * 5) news) ((i + r) * 5) zs) 47 hg2
    go_wp2
    go_ret
    exact ⟨_, rfl, HE.out _ hgq ⟨_, hbq, HT.out.1, HT.out.2⟩, hgq, rfl⟩
end Go.Proofs.Ytbhmncenbpdcjaa.P.Q
end
section
/- slices.Insert of one element into a row of the call's own: its contract, road by road. -/
namespace Go.Proofs.Ytbhmncenbpdcjaa.P.Q
open Go.Proofs.Ytbhmncenbpdcjaa.P
open Go.RowKit Go.Proofs.YtbhmncenbpdcjaaW.PrintWords Go.Proofs.YtbhmncenbpdcjaaW.PrintLast Go.Proofs.YtbhmncenbpdcjaaW.PrintMore
set_option linter.unusedVariables false
set_option linter.unusedSimpArgs false

theorem splice_take (M : List Value) (k : Nat) (N : List Value) (h : k ≤ M.length) : (splice M k N).take k = M.take k := by
  unfold splice
  rw [List.take_append_of_le_length (by rw [List.length_take]; omega), List.take_take, Nat.min_self]
theorem splice_take_end (M : List Value) (k : Nat) (N : List Value) (h : k ≤ M.length) : (splice M k N).take (k + N.length) = M.take k ++ N := by
  unfold splice
  have e : (M.take k ++ N).length = k + N.length := by rw [List.length_append, List.length_take]; omega
  rw [← List.append_assoc, ← e, List.take_left]
theorem splice_drop_end (M : List Value) (k : Nat) (N : List Value) (h : k ≤ M.length) : (splice M k N).drop (k + N.length) = M.drop (k + N.length) := by
  unfold splice
  have e : (M.take k ++ N).length = k + N.length := by rw [List.length_append, List.length_take]; omega
  rw [← List.append_assoc]
  exact List.drop_left' e
/-- The road on which the row is laid anew. -/
theorem ins_take_new (ROW D cs : List Value) (a s t : Nat) (hcs : cs.length = s) (hD : D.length = t) (hR : a + s ≤ ROW.length) :
    (splice (splice ROW a cs) (a + s) D).take (a + s + t) = ROW.take a ++ cs ++ D := by
  have hl : (splice ROW a cs).length = ROW.length := length_splice _ _ _ (by omega)
  rw [← hD, splice_take_end _ _ _ (by omega), ← hcs, splice_take_end _ _ _ (by omega)]
/-- The road on which what stands behind moves up. -/
theorem ins_take_old (L D cs : List Value) (a s t : Nat) (hcs : cs.length = s) (hD : D.length = t) (hL : a + s + t ≤ L.length) :
    (splice (splice L (a + s) D) a cs).take (a + s + t) = L.take a ++ cs ++ D := by
  have hl : (splice L (a + s) D).length = L.length := length_splice _ _ _ (by omega)
  have hl2 : (splice (splice L (a + s) D) a cs).length = L.length := by rw [length_splice _ _ _ (by omega), hl]
  have e1 : (splice (splice L (a + s) D) a cs).take (a + s) = L.take a ++ cs := by
    rw [← hcs, splice_take_end _ _ _ (by rw [hcs]; omega)]
    congr 1
    have := splice_take L (a + s) D (by omega)
    have e2 := congrArg (List.take a) this
    rw [List.take_take, List.take_take, Nat.min_eq_left (by omega)] at e2
    rw [hcs]
    exact e2
  have e3 : (splice (splice L (a + s) D) a cs).drop (a + s) = (splice L (a + s) D).drop (a + s) := by
    have := splice_drop_end (splice L (a + s) D) a cs (by omega)
    rw [hcs] at this
    exact this
  have e4 : ((splice L (a + s) D).drop (a + s)).take t = D := by
    have := splice_take_end L (a + s) D (by omega)
    rw [hD] at this
    have e5 := congrArg (List.drop (a + s)) this
    rw [List.drop_take] at e5
    rw [show a + s + t - (a + s) = t from by omega] at e5
    rw [e5]
    have : (L.take (a + s)).length = a + s := by rw [List.length_take]; omega
    exact List.drop_left' this
  have e6 : ∀ (Z : List Value), Z.take (a + s + t) = Z.take (a + s) ++ (Z.drop (a + s)).take t := fun Z => by rw [List.take_add]
  rw [e6, e1, e3, e4]
theorem insertIdx_eq {α : Type} (xs : List α) (i : Nat) (x : α) (hi : i ≤ xs.length) : xs.insertIdx i x = xs.take i ++ [x] ++ xs.drop i := by
  induction xs generalizing i with
  | nil => have : i = 0 := by simpa using hi
           subst this; rfl
  | cons y ys ih =>
    cases i with
    | zero => rfl
    | succ i => simp at hi; simp [ih i hi]
def ZI : Value := .agg #[.int .i64 0, .int .u8 0, .string ⟨#[]⟩, .int .i64 0, .slice none 0 0]
theorem zeroI (w : World) : (zeroValue 47).run Try.prog w = .ok ZI w := by kernel_rfl
theorem sizeI (w : World) : (Go.sizeOf 47).run Try.prog w = .ok 5 w := by kernel_rfl
set_option maxHeartbeats 4000000 in
set_option maxRecDepth 100000 in
/-- In place: there is room. -/
theorem insFact_shift (g cap i r b : Nat) (L inner cs : List Value) (w : World) (hgL : w.heap[g]? = some (.cells L.toArray 47 (0, 0))) (hL : L.length = cap * 5) (hroom : i + (r + 1) + 1 ≤ cap) (hcm : cap ≤ 9223372036854775807) (htake : L.take ((i + (r + 1)) * 5) = inner) (hone : ∀ u ∈ inner, u.oneCell' = true)
    (hb : w.heap[b]? = some (.cells cs.toArray 47 (0, 0))) (hcs : cs.length = 5) (hcs1 : ∀ u ∈ cs, u.oneCell' = true) (hne : b ≠ g) :
    Calls Try.prog 39 #[.slice (some ⟨g, 0, none⟩) (i + (r + 1)) cap, .int .i64 i, .slice (some ⟨b, 0, none⟩) 1 1] w fun e w' => e = .returned (.slice (some ⟨g, 0, none⟩) (i + (r + 1) + 1) cap) ∧
      w.grownBy w' (some g) ∧ ∃ L', w'.heap[g]? = some (.cells (List.toArray L') 47 (0, 0)) ∧ L'.length = cap * 5 ∧ L'.take ((i + (r + 1) + 1) * 5) = inner.take (i * 5) ++ cs ++ inner.drop (i * 5) := by
  obtain ⟨n, hn⟩ : ∃ n, n = i + (r + 1) := ⟨_, rfl⟩
  rw [← hn] at hroom htake ⊢
  have hlen : inner.length = n * 5 := by rw [← htake, List.length_take, hL]; omega
  obtain ⟨D, hD⟩ : ∃ D, D = inner.drop (i * 5) := ⟨_, rfl⟩
  have hDl : D.length = (r + 1) * 5 := by rw [hD, List.length_drop, hlen]; omega
  have hz2 : ¬ ((i : Int) = (n : Int)) := by omega
  have hov : ∀ lb cb, (callFunc 56 #[.slice (some ⟨b, 0, none⟩) 1 1, .slice (some ⟨g, (i + 1) * 5, none⟩) lb cb]).run Try.prog w = .ok (.value (.bool false)) w := fun lb cb => by
    rw [run_callFunc_extern Try.func56 (by kernel_rfl) (by kernel_rfl) (by kernel_rfl) (e := Extern.SlicesOverlaps.overlaps #[38, 38] #[4]) (by kernel_rfl),
      Lib.run_overlaps_apart w 38 4 47 Try.underlying38 5 sizeI ⟨b, 0, none⟩ ⟨g, (i + 1) * 5, none⟩ 1 1 lb cb hne 47 47 cs.toArray.size L.toArray.size (by simp [World.shape?, hb]) (by simp [World.shape?, hgL]) (by simp [hL]; omega) (by simp [World.frozen?, hb]) (by simp [World.frozen?, hb])]
    rfl
  obtain ⟨i0, hi0, hz0, hz1, hz2'⟩ := info_parts info47
  have hD1 : ∀ u ∈ D, u.oneCell' = true := fun u hu => hone u (by rw [hD] at hu; exact List.mem_of_mem_drop hu)
  have hi0s : 0 < i0.size := by rw [hz1]; decide
  have hm1 : Nat.min (r + 1 + 1) (r + 1) = r + 1 := by simp only [Nat.min_def]; split <;> omega
  have hm2 : Nat.min 1 (r + 1 + 1) = 1 := by simp only [Nat.min_def]; split <;> omega
  have hn1 : D.length = Nat.min (r + 1 + 1) (r + 1) * i0.size := by rw [hm1, hDl, hz1]
  have hn2 : cs.length = Nat.min 1 (r + 1 + 1) * i0.size := by rw [hm2, hcs, hz1, Nat.one_mul]
  have hfit1 : (i + 1) * 5 + D.length ≤ L.length := by rw [hDl, hL]; omega
  have hsrc1 : ∀ j u, D[j]? = some u → w.drew.cell? ((⟨g, i * 5, none⟩ : Addr).add j) = some u := by
    refine blk_cells (w := w.drew) hgL fun j u hj => ?_
    rw [hD] at hj
    exact getElem_of_take htake hj
  obtain ⟨M, hM⟩ : ∃ M, M = splice L ((i + 1) * 5) D := ⟨_, rfl⟩
  have hMl : M.length = cap * 5 := by rw [hM, length_splice _ _ _ hfit1, hL]
  have hg2 : (w.drew.setRow g M.toArray).heap[g]? = some (.cells M.toArray 47 (0, 0)) := setRow_blk w.drew g L M 47 hgL
  have hb2 : (w.drew.setRow g M.toArray).heap[b]? = some (.cells cs.toArray 47 (0, 0)) := by rw [setRow_far w.drew g b _ hne]; exact hb
  have hfit2 : i * 5 + cs.length ≤ M.length := by rw [hcs, hMl]; omega
  have hsrc2 : ∀ j u, cs[j]? = some u → (w.drew.setRow g M.toArray).cell? ((⟨b, 0, none⟩ : Addr).add j) = some u := blk_cells hb2 (fun j u hj => by rw [Nat.zero_add]; exact hj)
  have hgr : w.grownBy ((w.drew.setRow g M.toArray).setRow g (splice M (i * 5) cs).toArray) (some g) := by
    have h1 := setRow_grown w.drew g M.toArray
    have h2 := setRow_grown (w.drew.setRow g M.toArray) g (splice M (i * 5) cs).toArray
    exact (show w.grownBy _ (some g) from ⟨h1.os, h1.tape, h1.output, h1.size, h1.block⟩).trans h2
  have hg3 := setRow_blk (w.drew.setRow g M.toArray) g M (splice M (i * 5) cs) 47 hg2
  have HT : Hid ((splice M (i * 5) cs).length = cap * 5 ∧ (splice M (i * 5) cs).take ((n + 1) * 5) = inner.take (i * 5) ++ cs ++ inner.drop (i * 5)) := by
    refine ⟨by rw [length_splice _ _ _ hfit2, hMl], ?_⟩
    have e := ins_take_old L D cs (i * 5) 5 ((r + 1) * 5) hcs hDl (by rw [hL]; omega)
    rw [hM, show (i + 1) * 5 = i * 5 + 5 from by omega, show (n + 1) * 5 = i * 5 + 5 + (r + 1) * 5 from by omega, e, ← hD]
    congr 2
    rw [← htake, List.take_take, Nat.min_eq_left (by omega)]
  have hM1 : ∀ t dc sc, (Builtin.copy_ #[38, 38] t #[.slice (some ⟨g, (i + 1) * 5, none⟩) (r + 1) dc, .slice (some ⟨g, i * 5, none⟩) (r + 1 + 1) sc]).run Try.prog w.drew = .ok (goInt (Nat.min (r + 1 + 1) (r + 1))) (w.drew.setRow g M.toArray) := fun t dc sc => by
    rw [hM]
    exact run_copy_sz w.drew 38 38 t 47 i0 Try.underlying38 hi0 _ _ _ _ _ _ g _ L 47 hgL D hn1 hi0s (fun _ => ⟨rfl, _, rfl, hsrc1⟩) hfit1 hD1
  have hM2 : ∀ t dc, (Builtin.copy_ #[38, 38] t #[.slice (some ⟨g, i * 5, none⟩) (r + 1 + 1) dc, .slice (some ⟨b, 0, none⟩) 1 1]).run Try.prog (w.drew.setRow g M.toArray) = .ok (goInt (Nat.min 1 (r + 1 + 1))) ((w.drew.setRow g M.toArray).setRow g (splice M (i * 5) cs).toArray) := fun t dc =>
    run_copy_sz (w.drew.setRow g M.toArray) 38 38 t 47 i0 Try.underlying38 hi0 _ _ _ _ _ _ g _ M 47 hg2 cs hn2 hi0s (fun _ => ⟨rfl, _, rfl, hsrc2⟩) hfit2 hcs1
  have c1 : (0 : Int) ≤ (i : Int) + 1 := by omega
  have c2 : i ≤ n := by omega
  have c3 : ¬ (cap = i + 1) := by omega
  have c4 : (i : Int) ≤ (n : Int) + 1 := by omega
  have c5 : ¬ (cap = i) := by omega
  have c6 : n + 1 - (i + 1) = r + 1 := by omega
  have c7 : n + 1 - i = r + 1 + 1 := by omega
  have c8 : ¬ ((cap : Int) < (n : Int) + 1) := by omega
  have c9 : (n : Int) + 1 ≤ (cap : Int) := by omega
  have c10 : (i : Int) + 1 ≤ (n : Int) + 1 := by omega
  have c11 : i + 1 ≤ n + 1 := by omega
  have c12 : i ≤ n + 1 := by omega
  have c13 : (0 : Int) ≤ (n : Int) + 1 := by omega
  have c14 : ((i : Int) + 1).toNat = i + 1 := by omega
  have c15 : IntKind.i64.wrap ((i : Int) + 1) = (i : Int) + 1 := by rw [IntKind.wrap_i64]; omega
  have c16 : (i : Int) + 1 ≤ (i : Int) + ((r : Int) + 1) + 1 := by omega
  have c19 : (i : Int) ≤ (i : Int) + ((r : Int) + 1) + 1 := by omega
  have c17 : i + (r + 1) + 1 - (i + 1) = r + 1 := by omega
  have c18 : i + (r + 1) + 1 - i = r + 1 + 1 := by omega
  clear hone hD hD1 hn1 hn2 hfit1 hfit2 hsrc1 hsrc2 hMl hM hm1 hm2 hg2 hb2 htake hlen hDl hL
  go_enter Try.func39, Try.ntmps39
  go_wp2_with (simp only [hov])
  go_region_law (refine step_copy_runI rfl (.tmp 73) (.tmp 76) 38 38 rfl _ _ (by simp [Act.eval, Act.put]) (by simp [Act.eval, Act.put]) (hM1 _ _ _) ?_)
  go_wp2_with (at_builtin; refine wpList_copy_runI _ rfl _ _ 38 38 rfl _ _ rfl rfl (hM2 _ _) ?_)
  go_ret
  exact ⟨by rw [hn]; rfl, hgr, _, hg3, HT.out⟩
set_option maxHeartbeats 4000000 in
set_option maxRecDepth 100000 in
/-- No room: a new row. -/
theorem insFact_grow (g cap i r b : Nat) (L inner cs : List Value) (w : World) (hgL : w.heap[g]? = some (.cells L.toArray 47 (0, 0))) (hL : L.length = cap * 5) (hnc : i + (r + 1) ≤ cap) (hroom : cap < i + (r + 1) + 1) (hbig : (i + (r + 1) + 1) * 64 ≤ 140737488355328) (htake : L.take ((i + (r + 1)) * 5) = inner) (hone : ∀ u ∈ inner, u.oneCell' = true)
    (hb : w.heap[b]? = some (.cells cs.toArray 47 (0, 0))) (hcs : cs.length = 5) (hcs1 : ∀ u ∈ cs, u.oneCell' = true) (hne : b ≠ g) :
    Calls Try.prog 39 #[.slice (some ⟨g, 0, none⟩) (i + (r + 1)) cap, .int .i64 i, .slice (some ⟨b, 0, none⟩) 1 1] w fun e w' => ∃ G L', e = .returned (.slice (some ⟨w.heap.size, 0, none⟩) (i + (r + 1) + 1) G) ∧ i + (r + 1) + 1 ≤ G ∧ G ≤ maxLen ∧
      w.grownBy w' none ∧ w'.heap[w.heap.size]? = some (.cells (List.toArray L') 47 (0, 0)) ∧ L'.length = G * 5 ∧ L'.take ((i + (r + 1) + 1) * 5) = inner.take (i * 5) ++ cs ++ inner.drop (i * 5) := by
  obtain ⟨n, hn⟩ : ∃ n, n = i + (r + 1) := ⟨_, rfl⟩
  rw [← hn] at hroom htake hnc hbig ⊢
  have hcn : cap = n := by omega
  subst hcn
  have hlen : inner.length = cap * 5 := by rw [← htake, List.length_take, hL]; omega
  obtain ⟨D, hD⟩ : ∃ D, D = inner.drop (i * 5) := ⟨_, rfl⟩
  have hDl : D.length = (r + 1) * 5 := by rw [hD, List.length_drop, hlen]; omega
  obtain ⟨i0, hi0, hz0, hz1, hz2'⟩ := info_parts info47
  have hi0s : 0 < i0.size := by rw [hz1]; decide
  have hglt : g < w.heap.size := by
    rcases Nat.lt_or_ge g w.heap.size with h | h
    · exact h
    · rw [Array.getElem?_eq_none h] at hgL; cases hgL
  have hblt : b < w.heap.size := by
    rcases Nat.lt_or_ge b w.heap.size with h | h
    · exact h
    · rw [Array.getElem?_eq_none h] at hb; cases hb
  have hsrc0 : ∀ k, ∀ j u, (inner.take k)[j]? = some u → w.drew.cell? ((⟨g, 0, none⟩ : Addr).add j) = some u := fun k => by
    refine blk_cells (w := w.drew) hgL fun j u hj => ?_
    rw [Nat.zero_add]
    refine getElem_of_take (i := 0) htake ?_ |> fun h => by rwa [Nat.zero_add] at h
    rw [List.drop_zero]
    rw [List.getElem?_take] at hj
    split at hj
    · exact hj
    · cases hj
  have hold : (Builtin.firstCells i0.size i (.slice (some ⟨g, 0, none⟩) i cap)).run Try.prog w.drew = .ok (inner.take (i * 5)).toArray w.drew := by
    rw [hz1]
    exact run_firstCells_some w.drew 5 i ⟨g, 0, none⟩ i cap (inner.take (i * 5)) (by rw [List.length_take]; omega) (hsrc0 _)
  obtain ⟨G, hG⟩ : ∃ G, G = grownCap w (cap + 1) cap 47 := ⟨_, rfl⟩
  obtain ⟨ROW, hROW⟩ : ∃ ROW : Array Value, ROW = (inner.take (i * 5)).toArray ++ Builtin.zeroCells ZI.cells (cap + 1 - i) ++ Builtin.zeroCells ZI.cells (G - (cap + 1)) := ⟨_, rfl⟩
  have hik : i + (cap + 1 - i) = cap + 1 := by omega
  have hmx : cap + 1 ≤ maxLen := by unfold maxLen; omega
  have hrz : ∀ ty, (Builtin.append_ #[38, 3] ty #[.slice (some ⟨g, 0, none⟩) i cap, .int .i64 ((r : Int) + 1 + 1)]).run Try.prog w =
      .ok (.slice (some ⟨w.heap.size, 0, none⟩) (cap + 1) G) (w.drew.alloc (.cells ROW 47)) := fun ty => by
    have h := Lib.run_append_grow_zeros w 38 3 ty 47 i0 _ .i64 .i64 Try.underlying38 Try.underlying3 hi0 hz0 (some ⟨g, 0, none⟩) i cap _ hold (cap + 1 - i) (by omega) hi0s (by omega) (by omega) (by rw [hz2']; omega) (by rw [hz2', hik]; exact growslice_fits (by omega) hbig)
    rw [hik, ← hG, show ((cap + 1 - i : Nat) : Int) = (r : Int) + 1 + 1 from by omega] at h
    rw [hROW]
    exact h
  have hGn : cap + 1 ≤ G := by rw [hG]; exact grownCap_ge w _ _ _
  have hG63 : G ≤ maxLen := by rw [hG]; exact grownCap_le_maxLen w _ _ _ hmx
  have hRl : ROW.toList.length = G * 5 := by
    rw [hROW]
    simp only [Array.toList_append, List.length_append, Array.length_toList, size_zeroCells, List.length_take, hlen]
    have : ZI.cells.size = 5 := by decide +kernel
    rw [this]
    omega
  obtain ⟨W1, hW1⟩ : ∃ W1, W1 = w.drew.alloc (.cells ROW 47) := ⟨_, rfl⟩
  rw [← hW1] at hrz
  have hBb : W1.heap[w.heap.size]? = some (.cells ROW.toList.toArray 47 (0, 0)) := by
    rw [hW1]; simpa using al_new w.drew (.cells ROW 47)
  have hbW : W1.heap[b]? = some (.cells cs.toArray 47 (0, 0)) := by rw [hW1]; exact (al_old w.drew _ hblt).trans hb
  have hgW : W1.heap[g]? = some (.cells L.toArray 47 (0, 0)) := by rw [hW1]; exact (al_old w.drew _ hglt).trans hgL
  have hm1 : Nat.min 1 (r + 1 + 1) = 1 := by simp only [Nat.min_def]; split <;> omega
  have hm2 : Nat.min (r + 1) (r + 1) = r + 1 := Nat.min_self _
  have hn1 : cs.length = Nat.min 1 (r + 1 + 1) * i0.size := by rw [hm1, hcs, hz1, Nat.one_mul]
  have hn2 : D.length = Nat.min (r + 1) (r + 1) * i0.size := by rw [hm2, hDl, hz1]
  have hfit1 : i * 5 + cs.length ≤ ROW.toList.length := by rw [hcs, hRl]; omega
  obtain ⟨M, hM⟩ : ∃ M, M = splice ROW.toList (i * 5) cs := ⟨_, rfl⟩
  have hMl : M.length = G * 5 := by rw [hM, length_splice _ _ _ hfit1, hRl]
  have hM1 : ∀ t dc, (Builtin.copy_ #[38, 38] t #[.slice (some ⟨w.heap.size, i * 5, none⟩) (r + 1 + 1) dc, .slice (some ⟨b, 0, none⟩) 1 1]).run Try.prog W1 = .ok (goInt (Nat.min 1 (r + 1 + 1))) (W1.setRow w.heap.size M.toArray) := fun t dc => by
    rw [hM]
    exact run_copy_sz W1 38 38 t 47 i0 Try.underlying38 hi0 _ _ _ _ _ _ w.heap.size _ ROW.toList 47 hBb cs hn1 hi0s (fun _ => ⟨rfl, _, rfl, blk_cells hbW (fun j u hj => by rw [Nat.zero_add]; exact hj)⟩) hfit1 hcs1
  have hBb2 : (W1.setRow w.heap.size M.toArray).drew.heap[w.heap.size]? = some (.cells M.toArray 47 (0, 0)) := setRow_blk W1 w.heap.size ROW.toList M 47 hBb
  have hgW2 : (W1.setRow w.heap.size M.toArray).drew.heap[g]? = some (.cells L.toArray 47 (0, 0)) := (setRow_far W1 w.heap.size g _ (by omega)).trans hgW
  have hfit2 : (i + 1) * 5 + D.length ≤ M.length := by rw [hDl, hMl]; omega
  have hsrc2 : ∀ j u, D[j]? = some u → (W1.setRow w.heap.size M.toArray).drew.cell? ((⟨g, i * 5, none⟩ : Addr).add j) = some u := by
    refine blk_cells hgW2 fun j u hj => ?_
    rw [hD] at hj
    exact getElem_of_take htake hj
  have hD1 : ∀ u ∈ D, u.oneCell' = true := fun u hu => hone u (by rw [hD] at hu; exact List.mem_of_mem_drop hu)
  have hM2 : ∀ t dc sc, (Builtin.copy_ #[38, 38] t #[.slice (some ⟨w.heap.size, (i + 1) * 5, none⟩) (r + 1) dc, .slice (some ⟨g, i * 5, none⟩) (r + 1) sc]).run Try.prog (W1.setRow w.heap.size M.toArray).drew = .ok (goInt (Nat.min (r + 1) (r + 1))) ((W1.setRow w.heap.size M.toArray).drew.setRow w.heap.size (splice M ((i + 1) * 5) D).toArray) := fun t dc sc =>
    run_copy_sz _ 38 38 t 47 i0 Try.underlying38 hi0 _ _ _ _ _ _ w.heap.size _ M 47 hBb2 D hn2 hi0s (fun _ => ⟨rfl, _, rfl, hsrc2⟩) hfit2 hD1
  have hg3 := setRow_blk (W1.setRow w.heap.size M.toArray).drew w.heap.size M (splice M ((i + 1) * 5) D) 47 hBb2
  have hgr : w.grownBy ((W1.setRow w.heap.size M.toArray).drew.setRow w.heap.size (splice M ((i + 1) * 5) D).toArray) none := by
    have h0 : w.grownBy W1 none := by rw [hW1]; exact ⟨rfl, rfl, rfl, by simp, fun k hk _ => al_old w.drew _ hk⟩
    have h1 := setRow_grown W1 w.heap.size M.toArray
    have h2 := setRow_grown (W1.setRow w.heap.size M.toArray).drew w.heap.size (splice M ((i + 1) * 5) D).toArray
    refine ⟨h2.os.trans (h1.os.trans h0.os), h2.tape.trans (h1.tape.trans h0.tape), h2.output.trans (h1.output.trans h0.output), Nat.le_trans h0.size (Nat.le_trans h1.size h2.size), fun k hk _ => ?_⟩
    have hk1 : k < W1.heap.size := Nat.lt_of_lt_of_le hk h0.size
    have hkB : some k ≠ some w.heap.size := fun e => by injection e with e; omega
    exact (h2.block k (Nat.lt_of_lt_of_le hk1 h1.size) hkB).trans ((h1.block k hk1 hkB).trans (h0.block k hk (by simp)))
  have HT : Hid ((splice M ((i + 1) * 5) D).length = G * 5 ∧ (splice M ((i + 1) * 5) D).take ((cap + 1) * 5) = inner.take (i * 5) ++ cs ++ inner.drop (i * 5)) := by
    refine ⟨by rw [length_splice _ _ _ hfit2, hMl], ?_⟩
    have e := ins_take_new ROW.toList D cs (i * 5) 5 ((r + 1) * 5) hcs hDl (by rw [hRl]; omega)
    rw [hM, show (i + 1) * 5 = i * 5 + 5 from by omega, show (cap + 1) * 5 = i * 5 + 5 + (r + 1) * 5 from by omega, e, ← hD]
    congr 2
    rw [hROW]
    simp only [Array.toList_append, List.append_assoc]
    have e2 : (inner.take (i * 5)).length = i * 5 := by rw [List.length_take, hlen]; omega
    rw [List.take_append_of_le_length (by omega)]
    rw [List.take_of_length_le (by omega)]
  have hG7 : G ≤ 9223372036854775807 := by unfold maxLen at hG63; exact hG63
  have HGs := Lib.hid (And.intro hGn hG63)
  have c1 : (0 : Int) ≤ (i : Int) + 1 := by omega
  have c2 : i ≤ i + (r + 1) := by omega
  have c5 : ¬ (cap = i) := by omega
  have c20 : ¬ (G = i) := by omega
  have c21 : ¬ (G = i + 1) := by omega
  have c22 : (i : Int) + ((r : Int) + 1) < (i : Int) + ((r : Int) + 1) + 1 := by omega
  have c23 : (i : Int) + ((r : Int) + 1) + 1 - (i : Int) = (r : Int) + 1 + 1 := by omega
  have c15 : IntKind.i64.wrap ((i : Int) + 1) = (i : Int) + 1 := by rw [IntKind.wrap_i64]; omega
  have c14 : ((i : Int) + 1).toNat = i + 1 := by omega
  have c16 : (i : Int) + 1 ≤ (i : Int) + ((r : Int) + 1) + 1 := by omega
  have c19 : (i : Int) ≤ (i : Int) + ((r : Int) + 1) + 1 := by omega
  have c17 : i + (r + 1) + 1 - (i + 1) = r + 1 := by omega
  have c18 : i + (r + 1) + 1 - i = r + 1 + 1 := by omega
  have c24 : (i : Int) ≤ (i : Int) + ((r : Int) + 1) := by omega
  clear hone hD hD1 hn1 hn2 hfit1 hfit2 hsrc2 hMl hM hm1 hm2 htake hlen hDl hL hRl hROW hG hold hsrc0 hBb hBb2 hgW hgW2 hbW
  subst hn
  clear hW1
  go_enter Try.func39, Try.ntmps39
  go_wp2_with (first
    | (at_builtin; refine Lib.wpList_append_run _ rfl _ _ _ _ rfl _ _ rfl rfl _ _ (hrz _) ?_)
    | (at_builtin; refine wpList_copy_runI _ rfl _ _ 38 38 rfl _ _ rfl rfl (hM1 _ _) ?_))
  go_region_law (refine step_copy_runI rfl (.tmp 50) (.tmp 53) 38 38 rfl _ _ (by simp [Act.eval, Act.put]) (by simp [Act.eval, Act.put]) (hM2 _ _ _) ?_)
  go_wp2
  go_ret
  exact ⟨G, _, rfl, HGs.out.1, HGs.out.2, hgr, hg3, HT.out⟩
set_option maxHeartbeats 4000000 in
set_option maxRecDepth 100000 in
/-- At the end: append. -/
theorem insFact_end (v : Value) (xs : List S47) (x : S47) (cs : List Value) (b : Nat) (w : World) (base : Nat) (hbase : base ≤ w.heap.size) (ok okx : Nat → Prop) (h : Kd.R kF 47 w base ok v xs) (hfresh : ∀ k, w.heap.size ≤ k → ok k)
    (hb : w.heap[b]? = some (.cells cs.toArray 47 (0, 0))) (hx : kF.M w base okx x cs) (hokx : ∀ k, okx k → ok k ∧ some k ≠ v.ownBlock) (hbig : (xs.length + 1) * 64 ≤ 140737488355328) :
    Calls Try.prog 39 #[v, .int .i64 xs.length, .slice (some ⟨b, 0, none⟩) 1 1] w fun e w' => ∃ v', e = .returned v' ∧ Kd.R kF 47 w' base ok v' (xs ++ [x]) ∧ w.grownBy w' v.ownBlock ∧ (v'.ownBlock = v.ownBlock ∨ ∃ b, v'.ownBlock = some b ∧ w.heap.size ≤ b) := by
  have hrow : ReadsRow (fun p c => p = x ∧ c = cs) 5 w (some ⟨b, 0, none⟩) 1 [x] := ⟨rfl, by omega, fun _ => ⟨_, rfl, fun j p hj => by
    rcases j with _ | j
    · simp at hj
      subst hj
      refine ⟨cs, kF.K_len (kF.K_of_M hx), ⟨rfl, rfl⟩, fun i u hu => ?_⟩
      rw [Nat.zero_mul]
      exact blk_cells (o := 0) hb (fun j u hj => by rw [Nat.zero_add]; exact hj) (0 + i) u (by rw [Nat.zero_add]; exact hu)
    · simp at hj⟩⟩
  have HR := Aside0.mk hrow
  have HX := Aside0.mk hx
  have HF := Aside0.mk hokx
  have HW := Aside0.mk hfresh
  have HH := Aside0.mk h
  have HL := Aside0.mk hbig
  have HS := Aside0.mk hbase
  have HL2 : (xs.length : Int) ≤ 9223372036854775806 := by omega
  obtain ⟨A, c, hv, hc, _⟩ := Kd.R_reads h
  obtain ⟨vo, hvo⟩ : ∃ vo, vo = v.ownBlock := ⟨_, rfl⟩
  rw [← hvo]
  have HV := Aside0.mk hvo
  clear hrow hx hokx hfresh h hbig hb hbase hvo
  have hv' := Aside0.mk hv
  subst hv
  go_enter Try.func39, Try.ntmps39
  go_wp2_with ((with_reducible refine gate_builtin (b := .append) (xs := #[.tmp 23, .tmp 24]) rfl ?_); at_builtin; refine Kd.R_append_rows kF (w0 := w) base rfl (.tmp 23) (.tmp 24) 38 47 ZI 64 rfl Try.underlying38 info47 rfl (by decide) (by decide) (.slice A xs.length c) xs [x] (some ⟨b, 0, none⟩) 1 1 ok okx rfl rfl HH.out HR.out (fun p c hp => by rw [hp.1, hp.2]; exact HX.out) HF.out HW.out (Below.refl _ _) HS.out HL.out ?_; intro v1 w1 h1 _ h3 h4; have H1 := Aside0.mk h1; have H3 := Aside0.mk h3; have H4 := Aside0.mk h4; clear h1 h3 h4)
  all_goals
    go_ret
    exact ⟨_, rfl, H1.out, by rw [HV.out]; exact H3.out, by rw [HV.out]; exact H4.out⟩
set_option maxRecDepth 100000 in
/-- slices.Insert of one element. -/
theorem insFact_any (v : Value) (xs : List S47) (x : S47) (i : Nat) (hi : i ≤ xs.length) (cs : List Value) (b : Nat) (w : World) (base : Nat) (hbase : base ≤ w.heap.size) (ok okx : Nat → Prop) (h : Kd.R kF 47 w base ok v xs) (hfresh : ∀ k, w.heap.size ≤ k → ok k)
    (hb : w.heap[b]? = some (.cells cs.toArray 47 (0, 0))) (hne : some b ≠ v.ownBlock) (hx : kF.M w base okx x cs) (hokx : ∀ k, okx k → ok k ∧ some k ≠ v.ownBlock) (hbig : (xs.length + 1) * 64 ≤ 140737488355328) :
    Calls Try.prog 39 #[v, .int .i64 i, .slice (some ⟨b, 0, none⟩) 1 1] w fun e w' => ∃ v', e = .returned v' ∧ Kd.R kF 47 w' base ok v' (xs.insertIdx i x) ∧ w.grownBy w' v.ownBlock ∧ (v'.ownBlock = v.ownBlock ∨ ∃ b, v'.ownBlock = some b ∧ w.heap.size ≤ b) := by
  rw [insertIdx_eq xs i x hi]
  by_cases hil : i = xs.length
  · subst hil
    rw [List.take_length, List.drop_length, List.append_nil]
    exact insFact_end v xs x cs b w base hbase ok okx h hfresh hb hx hokx hbig
  · obtain ⟨r, hr⟩ : ∃ r, xs.length = i + (r + 1) := ⟨xs.length - i - 1, by omega⟩
    rcases R_form h with ⟨_, rfl⟩ | ⟨g, cap, L, inner, rfl, hok, hbg, hgL, hnc, hcm, hL, htake, hlen, hreps⟩
    · simp at hr
    have hL : L.length = cap * 5 := hL
    have hone := reps_cells_one (by decide) hreps
    have hcs : cs.length = 5 := kF.K_len (kF.K_of_M hx)
    have hcs1 := kF.K_one (kF.K_of_M hx)
    have hbg' : b ≠ g := fun e => hne (by rw [e]; rfl)
    have hok1 : ∀ k, okx k → ok k ∧ some k ≠ some g := hokx
    have hrows : Reps (kF.M w base (fun k => ok k ∧ some k ≠ some g)) 5 (xs.take i ++ [x] ++ xs.drop i) (inner.take (i * 5) ++ cs ++ inner.drop (i * 5)) :=
      Kd.reps_append ((Kd.reps_take hreps hi).snoc (kF.M_mono hok1 hx) hcs) (Kd.reps_drop hreps)
    have hll : (xs.take i ++ [x] ++ xs.drop i).length = i + (r + 1) + 1 := by simp; omega
    rw [hr] at htake hbig hnc ⊢
    by_cases hroom : i + (r + 1) + 1 ≤ cap
    · refine (insFact_shift g cap i r b L inner cs w hgL hL hroom (by unfold maxLen at hcm; exact hcm) htake hone hb hcs hcs1 hbg').mono ?_
      rintro e w' ⟨rfl, hgr, L', h1, h2, h3⟩
      refine ⟨_, rfl, ?_, hgr, .inl rfl⟩
      have := R_of_blk (d := kF) (w := w) (w1 := w') hok hbg hgr h1 h2 hcm (by rw [hll]; exact hroom) (by rw [hll]; exact h3) hrows
      rw [hll] at this
      exact this
    · refine (insFact_grow g cap i r b L inner cs w hgL hL hnc (by omega) hbig htake hone hb hcs hcs1 hbg').mono ?_
      rintro e w' ⟨G, L', rfl, hG1, hG2, hgr, h1, h2, h3⟩
      have hgr' : ∀ row, w.grownBy w' row := fun row => ⟨hgr.os, hgr.tape, hgr.output, hgr.size, fun k hk _ => hgr.block k hk (by simp)⟩
      refine ⟨_, rfl, ?_, hgr' _, .inr ⟨w.heap.size, rfl, Nat.le_refl _⟩⟩
      have hrows2 := hrows.imp_ (fun p c hp => kF.M_mono (ok' := fun k => ok k ∧ some k ≠ some w.heap.size) (fun k hk => ⟨hk.1.1, fun e => by injection e with e; omega⟩) (kF.M_bound hp))
      have := R_of_blk (d := kF) (w := w) (w1 := w') (ok := ok) (hfresh _ (Nat.le_refl _)) hbase (hgr' _) h1 h2 hG2 (by rw [hll]; exact hG1) (by rw [hll]; exact h3) hrows2
      rw [hll] at this
      exact this
end Go.Proofs.Ytbhmncenbpdcjaa.P.Q
end
section
/- A row's element that is written anew. Of no program. -/
namespace Go.Proofs.Ytbhmncenbpdcjaa
open Go.RowKit Go.Proofs.YtbhmncenbpdcjaaW.PrintWords
set_option linter.unusedVariables false
theorem setCell_grown (w : World) (g o : Nat) (v : Value) : w.grownBy (w.setCell ⟨g, o, none⟩ v) (some g) := by
  have h := (Below.refl 0 w).setCell (p := ⟨g, o, none⟩) (Nat.zero_le _) v
  exact ⟨h.os, h.tape, h.output, h.size, fun k _ hk => Below.heap_setCell w ⟨g, o, none⟩ v k (fun e => hk (by rw [e]))⟩
theorem splice_two (L : List Value) (o : Nat) (v0 v1 : Value) (h : o + 2 ≤ L.length) : (L.toArray.setIfInBounds o v0).setIfInBounds (o + 1) v1 = (splice L o [v0, v1]).toArray := by
  simp only [List.setIfInBounds_toArray]
  congr 1
  apply List.ext_getElem?
  intro j
  unfold splice
  simp only [List.getElem?_set, List.getElem?_append, List.length_take, List.length_set, List.length_cons, List.length_nil, List.getElem?_take, List.getElem?_drop]
  rw [Nat.min_eq_left (by omega)]
  rcases Nat.lt_or_ge j o with h1 | h1
  · simp [h1, show ¬ o + 1 = j by omega, show ¬ o = j by omega]
  · rcases Nat.lt_or_ge j (o + 2) with h2 | h2
    · obtain h3 | h3 : j = o ∨ j = o + 1 := by omega
      · subst h3; simp [show j < L.length by omega]
      · subst h3; simp [show o + 1 < L.length by omega]; intro h; omega
    · simp [show ¬ j < o by omega, show ¬ o + 1 = j by omega, show ¬ o = j by omega, show ¬ j - o < 2 by omega]
      congr 1
      omega
theorem splice_five (L : List Value) (o : Nat) (v0 v1 v2 v3 v4 : Value) (h : o + 5 ≤ L.length) : ((((L.toArray.setIfInBounds o v0).setIfInBounds (o + 1) v1).setIfInBounds (o + 2) v2).setIfInBounds (o + 3) v3).setIfInBounds (o + 4) v4 = (splice L o [v0, v1, v2, v3, v4]).toArray := by
  simp only [List.setIfInBounds_toArray]
  congr 1
  apply List.ext_getElem?
  intro j
  unfold splice
  simp only [List.getElem?_set, List.getElem?_append, List.length_take, List.length_set, List.length_cons, List.length_nil, List.getElem?_take, List.getElem?_drop]
  rw [Nat.min_eq_left (by omega)]
  rcases Nat.lt_or_ge j o with h1 | h1
  · simp [h1, show ¬ o + 1 = j by omega, show ¬ o + 2 = j by omega, show ¬ o + 3 = j by omega, show ¬ o + 4 = j by omega, show ¬ o = j by omega]
  · rcases Nat.lt_or_ge j (o + 5) with h2 | h2
    · obtain h3 | h3 | h3 | h3 | h3 : j = o ∨ j = o + 1 ∨ j = o + 2 ∨ j = o + 3 ∨ j = o + 4 := by omega
      · subst h3; simp [show j < L.length by omega]
      · subst h3; simp [show o + 1 < L.length by omega]; intro h; omega
      · subst h3; simp [show o + 2 < L.length by omega]; intro h; omega
      · subst h3; simp [show o + 3 < L.length by omega]; intro h; omega
      · subst h3; simp [show o + 4 < L.length by omega]; intro h; omega
    · simp [show ¬ j < o by omega, show ¬ o + 1 = j by omega, show ¬ o + 2 = j by omega, show ¬ o + 3 = j by omega, show ¬ o + 4 = j by omega, show ¬ o = j by omega, show ¬ j - o < 5 by omega]
      congr 1
      omega
theorem set_two {w : World} {g : Nat} {t : TypeId} {L : List Value} (h : w.heap[g]? = some (.cells L.toArray t (0, 0))) (o : Nat) (v0 v1 : Value) (ho : o + 2 ≤ L.length) :
    ((w.setCell ⟨g, o, none⟩ v0).setCell ⟨g, o + 1, none⟩ v1).heap[g]? = some (.cells (splice L o [v0, v1]).toArray t (0, 0)) ∧ w.grownBy ((w.setCell ⟨g, o, none⟩ v0).setCell ⟨g, o + 1, none⟩ v1) (some g) := by
  refine ⟨?_, (setCell_grown _ _ _ _).trans (setCell_grown _ _ _ _)⟩
  rw [← splice_two L o v0 v1 ho]
  exact blk_set (blk_set h _ _) _ _
theorem set_five {w : World} {g : Nat} {t : TypeId} {L : List Value} (h : w.heap[g]? = some (.cells L.toArray t (0, 0))) (o : Nat) (v0 v1 v2 v3 v4 : Value) (ho : o + 5 ≤ L.length) :
    (((((w.setCell ⟨g, o, none⟩ v0).setCell ⟨g, o + 1, none⟩ v1).setCell ⟨g, o + 2, none⟩ v2).setCell ⟨g, o + 3, none⟩ v3).setCell ⟨g, o + 4, none⟩ v4).heap[g]? = some (.cells (splice L o [v0, v1, v2, v3, v4]).toArray t (0, 0)) ∧
      w.grownBy (((((w.setCell ⟨g, o, none⟩ v0).setCell ⟨g, o + 1, none⟩ v1).setCell ⟨g, o + 2, none⟩ v2).setCell ⟨g, o + 3, none⟩ v3).setCell ⟨g, o + 4, none⟩ v4) (some g) := by
  refine ⟨?_, ((((setCell_grown _ _ _ _).trans (setCell_grown _ _ _ _)).trans (setCell_grown _ _ _ _)).trans (setCell_grown _ _ _ _)).trans (setCell_grown _ _ _ _)⟩
  rw [← splice_five L o v0 v1 v2 v3 v4 ho]
  exact blk_set (blk_set (blk_set (blk_set (blk_set h _ _) _ _) _ _) _ _) _ _
theorem set_eq {α : Type} (xs : List α) (i : Nat) (x : α) (hi : i < xs.length) : xs.set i x = xs.take i ++ [x] ++ xs.drop (i + 1) := by
  rw [List.set_eq_take_append_cons_drop, if_pos hi]; simp
theorem splice_eq (L : List Value) (o : Nat) (N : List Value) : splice L o N = L.take o ++ N ++ L.drop (o + N.length) := by
  unfold splice; simp
variable {α : Type} {d : Kd α} {e : Nat} {w w1 : World} {base : Nat} {ok : Nat → Prop}
theorem R_setAt {g cap i : Nat} {L inner cs : List Value} {xs : List α} {x : α} (hok : ok g) (hbase : base ≤ g) (hnc : xs.length ≤ cap) (hcm : cap ≤ maxLen) (hL : L.length = cap * d.sz) (htake : L.take (xs.length * d.sz) = inner) (hlen : inner.length = xs.length * d.sz)
    (hreps : Reps (d.M w base (fun k => ok k ∧ some k ≠ some g)) d.sz xs inner) (hi : i < xs.length) (hx : d.M w base (fun k => ok k ∧ some k ≠ some g) x cs) (hcs : cs.length = d.sz) (hg : w.grownBy w1 (some g)) (hb : w1.heap[g]? = some (.cells (splice L (i * d.sz) cs).toArray e (0, 0))) :
    d.R e w1 base ok (.slice (some ⟨g, 0, none⟩) xs.length cap) (xs.set i x) := by
  have h1 : (i + 1) * d.sz ≤ xs.length * d.sz := Nat.mul_le_mul_right _ hi
  have h2 : (i + 1) * d.sz = i * d.sz + d.sz := by rw [Nat.add_mul, Nat.one_mul]
  have h3 : xs.length * d.sz ≤ cap * d.sz := Nat.mul_le_mul_right _ hnc
  have hr : Reps (d.M w base (fun k => ok k ∧ some k ≠ some g)) d.sz (xs.set i x) (splice inner (i * d.sz) cs) := by
    rw [set_eq xs i x hi, splice_eq, hcs, ← h2]
    exact Kd.reps_append ((Kd.reps_take hreps (by omega)).snoc hx hcs) (Kd.reps_drop hreps)
  have := R_of_blk (d := d) (w := w) (w1 := w1) (g := g) (cap := cap) (xs := xs.set i x) hok hbase hg hb (by rw [length_splice _ _ _ (by omega)]; exact hL) hcm (by simpa using hnc) (by
    rw [List.length_set, splice_eq, splice_eq, ← htake]
    have ha : ((List.take (xs.length * d.sz) L).take (i * d.sz) ++ cs).length = (i + 1) * d.sz := by rw [List.length_append, List.length_take, List.length_take, hcs]; omega
    have ha' : (L.take (i * d.sz) ++ cs).length = (i + 1) * d.sz := by rw [List.length_append, List.length_take, hcs]; omega
    rw [List.take_append, ha', List.take_of_length_le (by omega), hcs, ← h2, List.take_take, Nat.min_eq_left (by omega), List.drop_take]) hr
  rw [List.length_set] at this
  exact this
end Go.Proofs.Ytbhmncenbpdcjaa
end
section
/- fact.Apply: a round of the loop of changes. -/
namespace Go.Proofs.Ytbhmncenbpdcjaa.P.Q
open Go.Proofs.Ytbhmncenbpdcjaa.P
open Go Go.Shelf Go.RowKit Go.Proofs.YtbhmncenbpdcjaaW.PrintWords Go.Proofs.YtbhmncenbpdcjaaW.PrintLast Go.Proofs.YtbhmncenbpdcjaaW.PrintMore
set_option linter.unusedVariables false
set_option linter.unusedSimpArgs false
attribute [local go_sem] Oper.semAt_some
attribute [local go_sem ↓] Go.wp_at_zero Go.wp_at_succ
def firstLoop : Code → Option Code
  | .loop c => some c
  | .seq a b => match firstLoop a with
    | some c => some c
    | none => firstLoop b
  | .block _ c => firstLoop c
  | .scope c => firstLoop c
  | .cond _ a b => match firstLoop a with
    | some c => some c
    | none => firstLoop b
  | _ => none
noncomputable def applyBody : Code := ((Try.f16.body.bind firstLoop).getD .skip)
set_option maxRecDepth 100000 in
set_option maxHeartbeats 4000000 in
theorem apply_round (u0 u1 u2 u3 u4 u6 u7 u8 u9 u10 u11 u12 u13 u14 u15 u16 u17 u18 u19 u20 u21 u25 u26 u27 u28 u29 u30 u31 u32 u33 u34 u35 u36 u37 u38 u39 u40 u41 u42 u43 u44 u45 u46 u47 u48 u49 u50 u51 u52 u53 u54 u55 u56 u57 u58 u59 u60 u61 u62 u63 u64 u65 u66 u67 u68 : Value) (ds : List Deferred) (b j n0 : Nat) (A1 : Option Addr) (c1 : Nat) (l1 : List Ch) (Au : Option Addr) (cu : Nat) (cur : List F) (W : World) (Q : Exit → Act → World → Prop)
    (hj : j < l1.length) (hr1 : Kd.C k53 W A1 l1.length l1) (hc1 : l1.length ≤ c1) (hs1 : ∀ x ∈ l1, x.f1.length < 140737488355328)
    (hu : Boxed W b 38 (.slice Au cur.length cu)) (hR : Kd.R kF 47 W n0 (fun _ => True) (.slice Au cur.length cu) cur) (hn0 : n0 ≤ W.heap.size) (hnb : n0 ≤ b) (hord : Ord cur) (hbig : (cur.length + 1) * 64 ≤ 140737488355328)
    (hQ : ∀ (v8 v9 v10 v11 v25 v26 v27 v28 v29 v30 v31 v32 v33 v34 v35 v36 v37 v38 v39 v40 v41 v42 v43 v44 v45 v46 v47 v48 v49 v50 v51 v52 v53 v54 v55 v56 v57 v58 v59 v60 v61 v62 v63 v64 v65 v66 v67 u' : Value) (W' : World), Boxed W' b 38 u' → Kd.R kF 47 W' n0 (fun _ => True) u' (stepB cur (rd_T53 l1 (j : Nat))) → Below n0 W W' → (∀ (D : Nat) (x : Option (List Deferred)), W.heap[D]? = some (.deferred x) → W'.heap[D]? = some (.deferred x)) →
      Q .normal { tmps := #[u0, u1, u2, u3, u4, .pointer (some ⟨b, 0, none⟩), u6, u7, v8, v9, v10, v11, u12, u13, u14, u15, u16, u17, u18, u19, u20, u21, .slice A1 l1.length c1, .int .i64 l1.length, .int .i64 ((j : Int) + 1), v25, v26, v27, v28, v29, v30, v31, v32, v33, v34, v35, v36, v37, v38, v39, v40, v41, v42, v43, v44, v45, v46, v47, v48, v49, v50, v51, v52, v53, v54, v55, v56, v57, v58, v59, v60, v61, v62, v63, v64, v65, v66, v67, u68], defers := ds } W') :
    Code.wp Try.prog applyBody Q { tmps := #[u0, u1, u2, u3, u4, .pointer (some ⟨b, 0, none⟩), u6, u7, u8, u9, u10, u11, u12, u13, u14, u15, u16, u17, u18, u19, u20, u21, .slice A1 l1.length c1, .int .i64 l1.length, .int .i64 j, u25, u26, u27, u28, u29, u30, u31, u32, u33, u34, u35, u36, u37, u38, u39, u40, u41, u42, u43, u44, u45, u46, u47, u48, u49, u50, u51, u52, u53, u54, u55, u56, u57, u58, u59, u60, u61, u62, u63, u64, u65, u66, u67, u68], defers := ds } W := by
  conv => arg 2; whnf
  obtain ⟨ad, A4, c4, hA, h0, h1, h2, h3, h4, h5, h6, h7⟩ := at_T53 hr1 (j : Nat) (by omega) (by omega)
  subst hA
  simp only [Int.toNat_natCast] at h0 h1 h2 h3 h4 h5
  have hcv : (rd_T53 l1 (j : Nat)).f1.length < 140737488355328 := hs1 _ (by unfold rd_T53; simp [List.getD, hj])
  generalize rd_T53 l1 (j : Nat) = c at *
  have cc : (j : Int) < (l1.length : Int) := by omega
  have hjm : l1.length ≤ 9223372036854775807 := hr1.2.1
  obtain ⟨Au', cu', hus, huc, huC⟩ := Kd.R_reads hR
  injection hus with e1 _ e2
  subst e1 e2
  have hb0 := hu.cell
  have hf0 := hu.frozen
  have hbl := hu.lt
  have hbq : ∀ o, (W.alloc o).cell? ⟨b, 0, none⟩ = some (.slice Au cur.length cu) := fun o => (hu.alloc o).cell
  have HQ := Lib.hid hQ
  have HS := Lib.hid (And.intro hr1 (And.intro hs1 (And.intro hord hbig)))
  clear hQ hr1 hs1 hord hbig
  have hWB : Below W.heap.size W (W.alloc (Obj.cells (cells6 c A4 c4).toArray 53)) := (Below.refl _ _).alloc (Nat.le_refl _) _
  have hx := World.alloc_heap_new W (Obj.cells (cells6 c A4 c4).toArray 53)
  go_wp2_with fail
  obtain ⟨hr1, hs1, hord, hbig⟩ := HS.out
  clear hbq
  rw [show #[Value.int IntKind.i64 c.f0.f0, Value.int IntKind.u8 c.f0.f1, Value.string c.f0.f2, Value.int IntKind.i64 c.f0.f3, Value.slice A4 c.f1.length c4, Value.bool c.f2] = (cells6 c A4 c4).toArray from rfl]
  generalize W.alloc (Obj.cells (cells6 c A4 c4).toArray 53) = WB at *
  refine (place_any Au cu cur c.f0 (mono_of cur hord c.f0) (by omega) WB (Kd.C_below huC hWB)).mono ?_
  rintro e W2 ⟨rfl, hb2⟩
  have hxl : W.heap.size < WB.heap.size := (Array.getElem?_eq_some_iff.1 hx).1
  have hx2 : W2.heap[W.heap.size]? = _ := (hb2.block _ hxl).trans hx
  have hW2 := hWB.trans (hb2.mono hWB.size)
  have hu2 : Boxed W2 b 38 (.slice Au cur.length cu) := (hW2.block b hbl).trans hu
  have hR2 := Kd.R_below hR hW2
  have hC2 := Kd.C_below h7 hW2
  have HX := Lib.hid (And.intro hu2 (And.intro hR2 (And.intro hW2 (And.intro hord (And.intro hbig (And.intro hr1 hs1))))))
  clear hr1 hs1 hord hbig h0 h1 h2 h3 h4 h5 h7 hx hxl hb2 hWB huC hb0 hf0 hu hR hu2 hR2 hW2
  have HX2 := Lib.hid hx2
  clear hx2
  go_wp2_with fail
  refine reg11_any _ _ _ _ _ _ _ _ _ _ _ _ _ _ _ _ _ _ _ _ _ _ _ _ _ _ _ _ _ _ _ _ _ _ _ _ _ _ _ _ _ _ _ _ _ _ _ _ _ _ _ _ _ _ _ _ _ _ _ _ _ _ _ _ _ _ _ _ _ _ c A4 c4 W2 HX2.out hC2 h6 hcv _ ?_
  intro v35 v36 v37 v38 v39 v40 W3 B A5 c5 hL
  dsimp only
  obtain ⟨hB, hBc, hR5, hb3⟩ := hL
  obtain ⟨hu2, hR2, hW2, hord, hbig, hr1, hs1⟩ := HX.out
  have hx2 := HX2.out
  have hW2s := hW2.size
  have hW3 : Below W.heap.size W W3 := hW2.trans (hb3.mono hW2s)
  have hu3 : Boxed W3 b 38 (.slice Au cur.length cu) := (hb3.block b (by omega)).trans hu2
  have hR3 := Kd.R_below hR2 hb3
  have hul := Kd.R_lt hR2
  have hub := Kd.R_base hR2
  have hune := Kd.R_ne hR2 hu2 (show (47 : Nat) ≠ 38 by decide)
  have hx5 : kF.M W3 n0 (fun k => W2.heap.size ≤ k) ⟨c.f0, c.f1⟩ [.int .i64 c.f0.f0, .int .u8 c.f0.f1, .string c.f0.f2, .int .i64 c.f0.f3, .slice A5 c.f1.length c5] := kF_mkM W3 n0 _ ⟨c.f0, c.f1⟩ (Kd.R_lower (Kd.R_mono (Kd.R_bound hR5.1) fun k hk => hk.2.1) (by omega)) hR5.2
  have k0 : W3.cell? ⟨W.heap.size, 5, none⟩ = some (.bool c.f2) := cell_below hb3 (by simp [World.cell?, hx2, cells6])
  have hb0 := hu3.cell
  have hf0 := hu3.frozen
  have hbl3 := hu3.lt
  have b0 : W3.cell? ⟨B, 0, none⟩ = some (.int .i64 c.f0.f0) := by simp [World.cell?, hBc]
  have b1 : W3.cell? ⟨B, 1, none⟩ = some (.int .u8 c.f0.f1) := by simp [World.cell?, hBc]
  have b2 : W3.cell? ⟨B, 2, none⟩ = some (.string c.f0.f2) := by simp [World.cell?, hBc]
  have b3 : W3.cell? ⟨B, 3, none⟩ = some (.int .i64 c.f0.f3) := by simp [World.cell?, hBc]
  have b4 : W3.cell? ⟨B, 4, none⟩ = some (.slice A5 c.f1.length c5) := by simp [World.cell?, hBc]
  have HF := Lib.hid (And.intro hu3 (And.intro hR3 (And.intro hW3 (And.intro hBc (And.intro hR5 (And.intro hb3 (And.intro hord (And.intro hbig (And.intro hul (And.intro hub (And.intro hune hx5)))))))))))
  have hn3 := hW3.size
  clear hBc hR5 hb3 hx2 hu2 hR2 hW2 hord hbig hr1 hs1 hW3 hu3 hR3 hul hub hune hx5
  cases his : isB cur c.f0 <;> cases hgo : c.f2
  all_goals rw [hgo] at k0
  · have HI : Hid (stepB cur c = cur.insertIdx (cntB cur c.f0) ⟨c.f0, c.f1⟩) := by unfold stepB; rw [his, hgo]; exact Lib.hid rfl
    clear his hgo
    go_wp2_with fail
    obtain ⟨hu3, hR3, hW3, hBc, hR5, hb3, hord, hbig, hul, hub, hune, hx5⟩ := HF.out
    have HA := World.alloc_heap_new W3 (Obj.cells ([.int .i64 c.f0.f0, .int .u8 c.f0.f1, .string c.f0.f2, .int .i64 c.f0.f3, .slice A5 c.f1.length c5] : List Value).toArray 47)
    refine (insFact_any (.slice Au cur.length cu) cur ⟨c.f0, c.f1⟩ (cntB cur c.f0) (cntB_le _ _) [.int .i64 c.f0.f0, .int .u8 c.f0.f1, .string c.f0.f2, .int .i64 c.f0.f3, .slice A5 c.f1.length c5] W3.heap.size _ n0 (by simp; omega) (fun _ => True) (fun k => W2.heap.size ≤ k) (Kd.R_alloc hR3 _) (fun _ _ => trivial) HA (fun e => by have := hul _ e.symm; have := hb3.size; omega) (Kd.M_alloc hx5 _) (fun k hk => ⟨trivial, fun e => by have := hul _ e.symm; omega⟩) hbig).mono ?_
    rintro e W4 ⟨v', rfl, hR4, hg4, hown⟩
    obtain ⟨A6, c6, rfl⟩ := Kd.R_slice hR4
    have hW4 : Below n0 W W4 := ((hW3.mono hn0).alloc (by omega) _).grown hg4 (by simp; omega) hub
    have hu4 : Boxed W4 b 38 (.slice Au cur.length cu) := (hg4.block b (by simp; omega) hune).trans ((al_old W3 _ hbl3).trans hu3)
    have hD4 : ∀ (D : Nat) (x : Option (List Deferred)), W.heap[D]? = some (.deferred x) → (W4.setCell ⟨b, 0, none⟩ (.slice A6 (cur.insertIdx (cntB cur c.f0) ⟨c.f0, c.f1⟩).length c6)).heap[D]? = some (.deferred x) := fun D x hD => by
      have h3 : W3.heap[D]? = some (.deferred x) := (hW3.block D (Array.getElem?_eq_some_iff.1 hD).1).trans hD
      have hDl := (Array.getElem?_eq_some_iff.1 h3).1
      have hDb : D ≠ b := fun e => by rw [e] at h3; have := hu3.symm.trans h3; cases this
      have hDo : some D ≠ (Value.slice Au cur.length cu).ownBlock := fun e => by
        obtain ⟨cells, hc⟩ := Kd.R_typed hR3 D e.symm
        rw [h3] at hc; cases hc
      exact (Below.heap_setCell _ _ _ D hDb).trans ((hg4.block D (by simp; omega) hDo).trans ((al_old W3 _ hDl).trans h3))
    have HZ := Lib.hid (And.intro hR4 (And.intro hW4 (And.intro hu4 hD4)))
    have hb4 := hu4.cell
    have hf4 := hu4.frozen
    clear hu3 hR3 hW3 hBc hR5 hb3 hord hbig hul hub hune hx5 hR4 hg4 hown hW4 hu4 hD4 HA
    go_wp2_with fail
    obtain ⟨hR4, hW4, hu4, hD4⟩ := HZ.out
    refine HQ.out _ _ _ _ _ _ _ _ _ _ _ _ _ _ _ _ _ _ _ _ _ _ _ _ _ _ _ _ _ _ _ _ _ _ _ _ _ _ _ _ _ _ _ _ _ _ _ _ _ (blk_put hu4 0 _ rfl) ?_ ?_ ?_
    · rw [HI.out]
      exact Kd.R_set hR4 hu4 (by decide) 0 _
    · exact hW4.setCell (p := ⟨b, 0, none⟩) hnb _
    · exact fun D x hD => hD4 D x hD
  · have HI : Hid (stepB cur c = cur) := by unfold stepB; rw [his, hgo]; exact Lib.hid rfl
    clear his hgo
    go_wp2_with fail
    obtain ⟨hu3, hR3, hW3, hBc, hR5, hb3, hord, hbig, hul, hub, hune, hx5⟩ := HF.out
    refine HQ.out _ _ _ _ _ _ _ _ _ _ _ _ _ _ _ _ _ _ _ _ _ _ _ _ _ _ _ _ _ _ _ _ _ _ _ _ _ _ _ _ _ _ _ _ _ _ _ _ W3 hu3 ?_ (hW3.mono hn0) fun D x hD => (hW3.block D (Array.getElem?_eq_some_iff.1 hD).1).trans hD
    rw [HI.out]
    exact hR3
  · obtain ⟨hi, hik⟩ := isB_at his
    have HI : Hid (stepB cur c = cur.set (cntB cur c.f0) ⟨c.f0, c.f1⟩) := by unfold stepB; rw [his, hgo]; exact Lib.hid rfl
    clear his hgo hik
    generalize cntB cur c.f0 = i at *
    obtain ⟨hu3, hR3, hW3, hBc, hR5, hb3, hord, hbig, hul, hub, hune, hx5⟩ := HF.out
    rcases R_form hR3 with ⟨_, hnil⟩ | ⟨g, cap, L, inner, hv, hok, hbg, hgL, hnc, hcm, hL, htake, hlen, hreps⟩
    · rw [hnil] at hi; simp at hi
    injection hv with e1 _ e2
    subst e1 e2
    have hL : L.length = cu * 5 := hL
    have hi5 : i * 5 + 5 ≤ L.length := by omega
    have ci0 : (0 : Int) ≤ (i : Int) := by omega
    have ci1 : (i : Int) < (cur.length : Int) := by omega
    have ci2 : (i : Int) < (cu : Int) := by omega
    have g0 : W3.cell? ⟨g, i * 5, none⟩ = some (L[i * 5]'(by omega)) := by simp [World.cell?, hgL, show i * 5 < L.length by omega]
    have g1 : W3.cell? ⟨g, i * 5 + 1, none⟩ = some (L[i * 5 + 1]'(by omega)) := by simp [World.cell?, hgL, show i * 5 + 1 < L.length by omega]
    have g2 : W3.cell? ⟨g, i * 5 + 2, none⟩ = some (L[i * 5 + 2]'(by omega)) := by simp [World.cell?, hgL, show i * 5 + 2 < L.length by omega]
    have g3 : W3.cell? ⟨g, i * 5 + 3, none⟩ = some (L[i * 5 + 3]'(by omega)) := by simp [World.cell?, hgL, show i * 5 + 3 < L.length by omega]
    have g4 : W3.cell? ⟨g, i * 5 + 4, none⟩ = some (L[i * 5 + 4]'(by omega)) := by simp [World.cell?, hgL, show i * 5 + 4 < L.length by omega]
    have gf : ∀ o, W3.frozen? ⟨g, o, none⟩ = false := fun o => by simp [World.frozen?, hgL]
    generalize L[i * 5] = x0 at *
    generalize L[i * 5 + 1] = x1 at *
    generalize L[i * 5 + 2] = x2 at *
    generalize L[i * 5 + 3] = x3 at *
    generalize L[i * 5 + 4] = x4 at *
    have HG := Lib.hid (And.intro hgL (And.intro hnc (And.intro hcm (And.intro hL (And.intro htake (And.intro hlen (And.intro hreps (And.intro hok hbg))))))))
    clear hu3 hR3 hW3 hBc hR5 hb3 hord hbig hul hub hune hx5 hgL hnc hcm hL htake hlen hreps hok hbg hi5
    go_wp2_with fail
    obtain ⟨hgL, hnc, hcm, hL, htake, hlen, hreps, hok, hbg⟩ := HG.out
    obtain ⟨hu3, hR3, hW3, hBc, hR5, hb3, hord, hbig, hul, hub, hune, hx5⟩ := HF.out
    obtain ⟨hgS, hgr⟩ := set_five hgL (i * 5) (.int .i64 c.f0.f0) (.int .u8 c.f0.f1) (.string c.f0.f2) (.int .i64 c.f0.f3) (.slice A5 c.f1.length c5) (by omega)
    have hgne : ∀ k, W2.heap.size ≤ k → True ∧ some k ≠ some g := fun k hk => ⟨trivial, fun e => by have := hul g rfl; injection e with e; omega⟩
    have hR4 := R_setAt (d := kF) (e := 47) hok hbg hnc hcm hL htake hlen hreps hi (kF.M_mono hgne hx5) rfl hgr hgS
    have hu4 := (hgr.block b hbl3 hune).trans hu3
    refine HQ.out _ _ _ _ _ _ _ _ _ _ _ _ _ _ _ _ _ _ _ _ _ _ _ _ _ _ _ _ _ _ _ _ _ _ _ _ _ _ _ _ _ _ _ _ _ _ _ _ _ hu4 ?_ ?_ ?_
    · rw [HI.out]; exact hR4
    · exact (hW3.mono hn0).grown hgr (by omega) hub
    · intro D x hD
      have h3 : W3.heap[D]? = some (.deferred x) := (hW3.block D (Array.getElem?_eq_some_iff.1 hD).1).trans hD
      have hDo : some D ≠ some g := fun e => by
        injection e with e
        rw [e, hgL] at h3; cases h3
      exact (hgr.block D (Array.getElem?_eq_some_iff.1 h3).1 hDo).trans h3
  · obtain ⟨hi, hik⟩ := isB_at his
    have HI : Hid (stepB cur c = cur.eraseIdx (cntB cur c.f0)) := by unfold stepB; rw [his, hgo]; exact Lib.hid rfl
    clear his hgo hik
    have ci : (cntB cur c.f0 : Int) ≤ 9223372036854775806 := by have := HF.out.2.2.2.2.2.2.2.1; omega
    go_wp2_with fail
    obtain ⟨hu3, hR3, hW3, hBc, hR5, hb3, hord, hbig, hul, hub, hune, hx5⟩ := HF.out
    refine (delFact_any (.slice Au cur.length cu) cur (cntB cur c.f0) W3 n0 (fun _ => True) hR3 hi).mono ?_
    rintro e W4 ⟨v', rfl, hR4, hg4, hown⟩
    obtain ⟨A6, c6, rfl⟩ := Kd.R_slice hR4
    have hW4 : Below n0 W W4 := (hW3.mono hn0).grown hg4 (by omega) hub
    have hu4 : Boxed W4 b 38 (.slice Au cur.length cu) := (hg4.block b hbl3 hune).trans hu3
    have hD4 : ∀ (D : Nat) (x : Option (List Deferred)), W.heap[D]? = some (.deferred x) → (W4.setCell ⟨b, 0, none⟩ (.slice A6 (cur.eraseIdx (cntB cur c.f0)).length c6)).heap[D]? = some (.deferred x) := fun D x hD => by
      have h3 : W3.heap[D]? = some (.deferred x) := (hW3.block D (Array.getElem?_eq_some_iff.1 hD).1).trans hD
      have hDl := (Array.getElem?_eq_some_iff.1 h3).1
      have hDb : D ≠ b := fun e => by rw [e] at h3; have := hu3.symm.trans h3; cases this
      have hDo : some D ≠ (Value.slice Au cur.length cu).ownBlock := fun e => by
        obtain ⟨cells, hc⟩ := Kd.R_typed hR3 D e.symm
        rw [h3] at hc; cases hc
      exact (Below.heap_setCell _ _ _ D hDb).trans ((hg4.block D hDl hDo).trans h3)
    have HZ := Lib.hid (And.intro hR4 (And.intro hW4 (And.intro hu4 hD4)))
    have hb4 := hu4.cell
    have hf4 := hu4.frozen
    clear hu3 hR3 hW3 hBc hR5 hb3 hord hbig hul hub hune hx5 hR4 hg4 hown hW4 hu4 hD4
    go_wp2_with fail
    obtain ⟨hR4, hW4, hu4, hD4⟩ := HZ.out
    refine HQ.out _ _ _ _ _ _ _ _ _ _ _ _ _ _ _ _ _ _ _ _ _ _ _ _ _ _ _ _ _ _ _ _ _ _ _ _ _ _ _ _ _ _ _ _ _ _ _ _ _ (blk_put hu4 0 _ rfl) ?_ ?_ ?_
    · rw [HI.out]
      exact Kd.R_set hR4 hu4 (by decide) 0 _
    · exact hW4.setCell (p := ⟨b, 0, none⟩) hnb _
    · exact fun D x hD => hD4 D x hD
end Go.Proofs.Ytbhmncenbpdcjaa.P.Q
end
section
/- fact.Apply: the loop of changes. -/
namespace Go.Proofs.Ytbhmncenbpdcjaa.P.Q
open Go.Proofs.Ytbhmncenbpdcjaa.P
open Go Go.Shelf Go.RowKit Go.Proofs.YtbhmncenbpdcjaaW.PrintWords Go.Proofs.YtbhmncenbpdcjaaW.PrintLast Go.Proofs.YtbhmncenbpdcjaaW.PrintMore
set_option linter.unusedVariables false
set_option linter.unusedSimpArgs false
set_option maxRecDepth 100000 in
set_option maxHeartbeats 4000000 in
theorem apply_exit (u0 u1 u2 u3 u4 u5 u6 u7 u8 u9 u10 u11 u12 u13 u14 u15 u16 u17 u18 u19 u20 u21 u22 u25 u26 u27 u28 u29 u30 u31 u32 u33 u34 u35 u36 u37 u38 u39 u40 u41 u42 u43 u44 u45 u46 u47 u48 u49 u50 u51 u52 u53 u54 u55 u56 u57 u58 u59 u60 u61 u62 u63 u64 u65 u66 u67 u68 : Value) (ds : List Deferred) (l1 : List Ch) (W : World) (Q : Exit → Act → World → Prop)
    (hQ : ∀ v25, Q (.exit 2) { tmps := #[u0, u1, u2, u3, u4, u5, u6, u7, u8, u9, u10, u11, u12, u13, u14, u15, u16, u17, u18, u19, u20, u21, u22, .int .i64 l1.length, .int .i64 l1.length, v25, u26, u27, u28, u29, u30, u31, u32, u33, u34, u35, u36, u37, u38, u39, u40, u41, u42, u43, u44, u45, u46, u47, u48, u49, u50, u51, u52, u53, u54, u55, u56, u57, u58, u59, u60, u61, u62, u63, u64, u65, u66, u67, u68], defers := ds } W) :
    Code.wp Try.prog applyBody Q { tmps := #[u0, u1, u2, u3, u4, u5, u6, u7, u8, u9, u10, u11, u12, u13, u14, u15, u16, u17, u18, u19, u20, u21, u22, .int .i64 l1.length, .int .i64 l1.length, u25, u26, u27, u28, u29, u30, u31, u32, u33, u34, u35, u36, u37, u38, u39, u40, u41, u42, u43, u44, u45, u46, u47, u48, u49, u50, u51, u52, u53, u54, u55, u56, u57, u58, u59, u60, u61, u62, u63, u64, u65, u66, u67, u68], defers := ds } W := by
  conv => arg 2; whnf
  have HQ := Lib.hid hQ
  clear hQ
  go_wp2_with fail
  exact HQ.out _
/-- Between two rounds. -/
def AI (u0 u1 u2 u3 u4 u6 u7 u12 u13 u14 u15 u16 u17 u18 u19 u20 u21 u68 : Value) (ds : List Deferred) (b n0 D : Nat) (A1 : Option Addr) (c1 : Nat) (l0 : List F) (l1 : List Ch) (w0 : World) (a : Act) (W : World) : Prop :=
  ∃ (j : Nat) (u : Value) (v8 v9 v10 v11 v25 v26 v27 v28 v29 v30 v31 v32 v33 v34 v35 v36 v37 v38 v39 v40 v41 v42 v43 v44 v45 v46 v47 v48 v49 v50 v51 v52 v53 v54 v55 v56 v57 v58 v59 v60 v61 v62 v63 v64 v65 v66 v67 : Value), a = { tmps := #[u0, u1, u2, u3, u4, .pointer (some ⟨b, 0, none⟩), u6, u7, v8, v9, v10, v11, u12, u13, u14, u15, u16, u17, u18, u19, u20, u21, .slice A1 l1.length c1, .int .i64 l1.length, .int .i64 j, v25, v26, v27, v28, v29, v30, v31, v32, v33, v34, v35, v36, v37, v38, v39, v40, v41, v42, v43, v44, v45, v46, v47, v48, v49, v50, v51, v52, v53, v54, v55, v56, v57, v58, v59, v60, v61, v62, v63, v64, v65, v66, v67, u68], defers := ds } ∧ j ≤ l1.length ∧
    Boxed W b 38 u ∧ Kd.R kF 47 W n0 (fun _ => True) u (applyB l0 (l1.take j)) ∧ Below n0 w0 W ∧ W.heap[D]? = some (.deferred (some []))
set_option maxRecDepth 100000 in
set_option maxHeartbeats 4000000 in
theorem apply_loop (u0 u1 u2 u3 u4 u6 u7 u8 u9 u10 u11 u12 u13 u14 u15 u16 u17 u18 u19 u20 u21 u25 u26 u27 u28 u29 u30 u31 u32 u33 u34 u35 u36 u37 u38 u39 u40 u41 u42 u43 u44 u45 u46 u47 u48 u49 u50 u51 u52 u53 u54 u55 u56 u57 u58 u59 u60 u61 u62 u63 u64 u65 u66 u67 u68 : Value) (ds : List Deferred) (b n0 D : Nat) (A1 : Option Addr) (c1 : Nat) (l0 : List F) (l1 : List Ch) (w0 W : World) (Q : Exit → Act → World → Prop) (u : Value)
    (hr1 : ∀ W, Below n0 w0 W → Kd.C k53 W A1 l1.length l1) (hc1 : l1.length ≤ c1) (hs1 : ∀ x ∈ l1, x.f1.length < 140737488355328)
    (hn0 : n0 ≤ w0.heap.size) (hnb : n0 ≤ b) (hord : Ord l0) (hbig : (l0.length + l1.length) * 64 ≤ 140737488355328)
    (hu : Boxed W b 38 u) (hR : Kd.R kF 47 W n0 (fun _ => True) u l0) (hW : Below n0 w0 W) (hD : W.heap[D]? = some (.deferred (some [])))
    (hQ : ∀ (v8 v9 v10 v11 v25 v26 v27 v28 v29 v30 v31 v32 v33 v34 v35 v36 v37 v38 v39 v40 v41 v42 v43 v44 v45 v46 v47 v48 v49 v50 v51 v52 v53 v54 v55 v56 v57 v58 v59 v60 v61 v62 v63 v64 v65 v66 v67 u' : Value) (W' : World), Boxed W' b 38 u' → Kd.R kF 47 W' n0 (fun _ => True) u' (applyB l0 l1) → Below n0 w0 W' → W'.heap[D]? = some (.deferred (some [])) →
      Q (.exit 2) { tmps := #[u0, u1, u2, u3, u4, .pointer (some ⟨b, 0, none⟩), u6, u7, v8, v9, v10, v11, u12, u13, u14, u15, u16, u17, u18, u19, u20, u21, .slice A1 l1.length c1, .int .i64 l1.length, .int .i64 l1.length, v25, v26, v27, v28, v29, v30, v31, v32, v33, v34, v35, v36, v37, v38, v39, v40, v41, v42, v43, v44, v45, v46, v47, v48, v49, v50, v51, v52, v53, v54, v55, v56, v57, v58, v59, v60, v61, v62, v63, v64, v65, v66, v67, u68], defers := ds } W') :
    Code.wp Try.prog (.loop applyBody) Q { tmps := #[u0, u1, u2, u3, u4, .pointer (some ⟨b, 0, none⟩), u6, u7, u8, u9, u10, u11, u12, u13, u14, u15, u16, u17, u18, u19, u20, u21, .slice A1 l1.length c1, .int .i64 l1.length, .int .i64 0, u25, u26, u27, u28, u29, u30, u31, u32, u33, u34, u35, u36, u37, u38, u39, u40, u41, u42, u43, u44, u45, u46, u47, u48, u49, u50, u51, u52, u53, u54, u55, u56, u57, u58, u59, u60, u61, u62, u63, u64, u65, u66, u67, u68], defers := ds } W := by
  refine wp_loop (AI u0 u1 u2 u3 u4 u6 u7 u12 u13 u14 u15 u16 u17 u18 u19 u20 u21 u68 ds b n0 D A1 c1 l0 l1 w0) (fun a _ => l1.length - (intOf (a.tmps.getD 24 undef)).toNat) ?_ ?_
  · exact ⟨0, u, u8, u9, u10, u11, u25, u26, u27, u28, u29, u30, u31, u32, u33, u34, u35, u36, u37, u38, u39, u40, u41, u42, u43, u44, u45, u46, u47, u48, u49, u50, u51, u52, u53, u54, u55, u56, u57, u58, u59, u60, u61, u62, u63, u64, u65, u66, u67, rfl, Nat.zero_le _, hu, hR, hW, hD⟩
  · rintro a wr ⟨j, ur, v8, v9, v10, v11, v25, v26, v27, v28, v29, v30, v31, v32, v33, v34, v35, v36, v37, v38, v39, v40, v41, v42, v43, v44, v45, v46, v47, v48, v49, v50, v51, v52, v53, v54, v55, v56, v57, v58, v59, v60, v61, v62, v63, v64, v65, v66, v67, rfl, hj, hur, hRr, hWr, hDr⟩
    rcases Nat.lt_or_ge j l1.length with hlt | hge
    · obtain ⟨Au, cu, rfl, _⟩ := Kd.R_reads hRr
      have hcl : (applyB l0 (l1.take j)).length ≤ l0.length + j := by have := apply_length (l1.take j) l0; rw [List.length_take] at this; omega
      refine apply_round u0 u1 u2 u3 u4 u6 u7 v8 v9 v10 v11 u12 u13 u14 u15 u16 u17 u18 u19 u20 u21 v25 v26 v27 v28 v29 v30 v31 v32 v33 v34 v35 v36 v37 v38 v39 v40 v41 v42 v43 v44 v45 v46 v47 v48 v49 v50 v51 v52 v53 v54 v55 v56 v57 v58 v59 v60 v61 v62 v63 v64 v65 v66 v67 u68 ds b j n0 A1 c1 l1 Au cu (applyB l0 (l1.take j)) wr _ hlt (hr1 wr hWr) hc1 hs1 hur hRr (by have := hWr.size; omega) hnb (ord_apply _ _ hord) (by omega) ?_
      intro x8 x9 x10 x11 x25 x26 x27 x28 x29 x30 x31 x32 x33 x34 x35 x36 x37 x38 x39 x40 x41 x42 x43 x44 x45 x46 x47 x48 x49 x50 x51 x52 x53 x54 x55 x56 x57 x58 x59 x60 x61 x62 x63 x64 x65 x66 x67 u' W' h1 h2 h3 h4
      refine ⟨⟨j + 1, u', x8, x9, x10, x11, x25, x26, x27, x28, x29, x30, x31, x32, x33, x34, x35, x36, x37, x38, x39, x40, x41, x42, x43, x44, x45, x46, x47, x48, x49, x50, x51, x52, x53, x54, x55, x56, x57, x58, x59, x60, x61, x62, x63, x64, x65, x66, x67, by rw [show ((j : Int) + 1) = ((j + 1 : Nat) : Int) by omega], hlt, h1, ?_, hWr.trans h3, h4 _ _ hDr⟩, ?_⟩
      · have hnext : applyB l0 (l1.take (j + 1)) = stepB (applyB l0 (l1.take j)) (rd_T53 l1 (j : Nat)) := by
          rw [List.take_add_one, List.getElem?_eq_getElem hlt]
          simp only [Option.toList]
          rw [apply_snoc]
          congr 1
          unfold rd_T53
          simp [List.getD, hlt]
        rw [hnext]
        exact h2
      · show l1.length - (intOf (Value.int .i64 ((j : Int) + 1))).toNat < l1.length - (intOf (Value.int .i64 (j : Int))).toNat
        simp [intOf]
        omega
    · obtain rfl : j = l1.length := by omega
      rw [List.take_length] at hRr
      refine apply_exit u0 u1 u2 u3 u4 _ u6 u7 v8 v9 v10 v11 u12 u13 u14 u15 u16 u17 u18 u19 u20 u21 _ v25 v26 v27 v28 v29 v30 v31 v32 v33 v34 v35 v36 v37 v38 v39 v40 v41 v42 v43 v44 v45 v46 v47 v48 v49 v50 v51 v52 v53 v54 v55 v56 v57 v58 v59 v60 v61 v62 v63 v64 v65 v66 v67 u68 ds l1 wr _ ?_
      intro x25
      exact hQ v8 v9 v10 v11 x25 v26 v27 v28 v29 v30 v31 v32 v33 v34 v35 v36 v37 v38 v39 v40 v41 v42 v43 v44 v45 v46 v47 v48 v49 v50 v51 v52 v53 v54 v55 v56 v57 v58 v59 v60 v61 v62 v63 v64 v65 v66 v67 ur wr hur hRr hWr hDr
end Go.Proofs.Ytbhmncenbpdcjaa.P.Q
end
section
/- fact.Apply: its contract. -/
namespace Go.Proofs.Ytbhmncenbpdcjaa.P.Q
open Go.Proofs.Ytbhmncenbpdcjaa.P
open Go Go.Shelf Go.RowKit Go.Proofs.YtbhmncenbpdcjaaW.PrintWords Go.Proofs.YtbhmncenbpdcjaaW.PrintLast Go.Proofs.YtbhmncenbpdcjaaW.PrintMore
set_option linter.unusedVariables false
set_option linter.unusedSimpArgs false
attribute [local go_sem] Oper.semAt_some
theorem isOrdered_any (A : Option Addr) (c : Nat) (l : List F) (w : World) (hr : Kd.C k47 w A l.length l) (hc : l.length ≤ c) :
    Calls Try.prog 34 #[.slice A l.length c] w fun e w' => e = .returned (.bool (ordB l)) ∧ Below w.heap.size w w' :=
  fact_isOrdered.calls (l.length + 1) A c l _ w hr hc (isOrdered_f l hr.2.1 _ (Nat.lt_succ_self _))
theorem own_any (A : Option Addr) (c : Nat) (l : List F) (w : World) :
    Calls Try.prog 35 #[.slice A l.length c] w fun e w' => e = .returned (.func (.func 53) #[] #[.pointer (some ⟨w.heap.size, 0, none⟩)]) ∧ w' = w.alloc (.cells #[.slice A l.length c] 38) := by
  go_enter Try.func35, Try.ntmps35
  go_wp2
  go_ret
  exact ⟨rfl, rfl⟩
def cells5 (p : Own) : List Value := [.int .i64 p.1.f0.f0, .int .u8 p.1.f0.f1, .string p.1.f0.f2, .int .i64 p.1.f0.f3, p.2]
def rowOf (ps : List Own) : List Value := ps.flatMap cells5
theorem rowOf_snoc (ps : List Own) (p : Own) : rowOf (ps ++ [p]) = rowOf ps ++ cells5 p := by simp [rowOf]
/-- A block of bytes is not a row of facts. -/
theorem own_ne {W : World} {n₀ n size : Nat} {u : Value} {xs : List Value} {k : Nat} {cells : Array Value} (h : W.ownsRow n₀ 47 size u n xs) (hk : W.heap[k]? = some (Obj.cells cells 5 (0, 0))) : some k ≠ u.ownBlock := by
  rcases h.2 with ⟨rfl, _⟩ | ⟨g, cap, cur, rfl, _, hgb, _⟩
  · simp [Value.ownBlock]
  · intro e
    obtain rfl : k = g := by simpa [Value.ownBlock] using e
    rw [hk] at hgb
    injection hgb with hgb
    injection hgb with _ h2 _
    cases h2
/-- What stands between two rounds. -/
def OutI (n₀ b : Nat) (w : World) (pre : List Own) (W : World) : Prop :=
  (∃ v, Boxed W b 38 v ∧ W.ownsRow n₀ 47 5 v pre.length (rowOf pre) ∧ True) ∧ Below n₀ w W
/-- What the loop has laid is a row of the call's own. -/
theorem rows_R {W : World} {n₀ : Nat} {u : Value} {ps : List Own} (h : W.ownsRow n₀ 47 5 u ps.length (rowOf ps)) (hg : ∀ p ∈ ps, OwnG n₀ p W) : Kd.R kF 47 W n₀ (fun _ => True) u (ps.map Prod.fst) := by
  have hne : ∀ p ∈ ps, kF.M W n₀ (fun k => True ∧ some k ≠ u.ownBlock) p.1 (cells5 p) := fun p hp => by
    refine kF_mkM W n₀ _ p.1 (v4 := p.2) (Kd.R_mono (Kd.R_bound (hg p hp).1) fun k ⟨_, _, _, q, hq, cells, hc⟩ => ⟨trivial, ?_⟩) (hg p hp).2
    have : q = 5 := by simpa [Kd.int, Kd.scalar] using hq
    subst this
    exact own_ne h hc
  refine ⟨fun _ _ => trivial, rowOf ps, ⟨by rw [List.length_map]; exact h.1, by rw [List.length_map]; exact h.2⟩, ?_⟩
  clear h hg
  induction ps with
  | nil => exact Reps.none _ _
  | cons p ps ih =>
    show Reps _ _ (p.1 :: ps.map Prod.fst) (cells5 p ++ rowOf ps)
    have h1 := (Reps.none (kF.M W n₀ (fun k => True ∧ some k ≠ u.ownBlock)) 5).snoc (hne p (by simp)) rfl
    exact Kd.reps_append h1 (ih fun q hq => hne q (by simp [hq]))
set_option maxRecDepth 100000 in
set_option maxHeartbeats 4000000 in
theorem apply_ord (A0 : Option Addr) (c0 : Nat) (l0 : List F) (A1 : Option Addr) (c1 : Nat) (l1 : List Ch) (w : World) (hr0 : Kd.C k47 w A0 l0.length l0) (hc0 : l0.length ≤ c0) (hr1 : Kd.C k53 w A1 l1.length l1) (hc1 : l1.length ≤ c1)
    (ho : Ord l0) (hbig : (l0.length + l1.length) * 64 ≤ 140737488355328) (hs0 : ∀ x ∈ l0, x.f1.length < 140737488355328) (hs1 : ∀ x ∈ l1, x.f1.length < 140737488355328) :
    Calls Try.prog 16 #[.slice A0 l0.length c0, .slice A1 l1.length c1] w fun e w' => ∃ v, e = .returned v ∧ Kd.R kF 47 w' w.heap.size (fun _ => True) v (applyB l0 l1) ∧ Below w.heap.size w w' := by
  have HI := Lib.hid (fun W (hb : Below w.heap.size w W) => isOrdered_any A0 c0 l0 W (Kd.C_below hr0 hb) hc0)
  have hob : ordB l0 = true := (ordB_iff l0).2 ho
  rw [hob] at HI
  refine (callsIn_wide (n := 9)).1 ?_
  refine callsIn_of_wp_marks Try.func16 rfl trivial ?_ rfl
  simp only [Try.ntmps16, List.size_toArray, List.length_cons, List.length_nil, Nat.reduceAdd, Nat.reduceSub, Array.replicate_succ, Array.replicate_zero, List.push_toArray, List.append_toArray, List.nil_append, List.cons_append]
  gi_wp2_with fail
  refine ⟨trivial, (callsIn_wide.2 (HI.out w (Below.refl _ _))).mono ?_⟩
  rintro e w1 ⟨rfl, hb1⟩
  gi_wp2_with fail
  refine ⟨trivial, (callsIn_wide.2 (own_any A0 c0 l0 _)).mono ?_⟩
  rintro e w2 ⟨rfl, hw2⟩
  gi_wp2_with fail
  have hBelow : Below w.heap.size w ((w1.alloc (Obj.cells #[Value.slice none 0 0] 38)).alloc (Obj.cells #[Value.slice A0 l0.length c0] 38)) := (hb1.alloc hb1.size _).alloc (by simp; have := hb1.size; omega) _
  have hbox : Boxed ((w1.alloc (Obj.cells #[Value.slice none 0 0] 38)).alloc (Obj.cells #[Value.slice A0 l0.length c0] 38)) w1.heap.size 38 (.slice none 0 0) := (Boxed.new w1 _ _).alloc _
  have hboxl : ((w1.alloc (Obj.cells #[Value.slice none 0 0] 38)).alloc (Obj.cells #[Value.slice A0 l0.length c0] 38)).cell? ⟨w1.heap.size + 1, 0, none⟩ = some (.slice A0 l0.length c0) := by go_simp
  have hsz2 : ((w1.alloc (Obj.cells #[Value.slice none 0 0] 38)).alloc (Obj.cells #[Value.slice A0 l0.length c0] 38)).heap.size = w1.heap.size + 2 := by simp
  generalize (w1.alloc (Obj.cells #[Value.slice none 0 0] 38)).alloc (Obj.cells #[Value.slice A0 l0.length c0] 38) = WL at *
  have hlo : ∀ W, Below w.heap.size WL W → Kd.C k47 W A0 l0.length l0 := fun W hW => Kd.C_below hr0 (hBelow.trans hW)
  have h1s := hb1.size
  refine wpIn_rangeFunc_given (α := Own) rfl (by omega) (gf := 53) (lb := #[.pointer (some ⟨w1.heap.size + 1, 0, none⟩)]) rfl trivial (enters_of Try.func53 (by kernel_rfl) rfl)
    (own_iter 8 (w1.heap.size + 1) w.heap.size A0 c0 l0 hs0 WL hBelow.size hboxl (hlo WL (Below.refl _ _)) hlo) KpB.trans (fun W l o o' h1 h2 h3 => KpB.turn W l o o' (by have := hBelow.size; omega) h2 h3) (fun _ => rfl)
    (OutI w.heap.size w1.heap.size w) ?hI (ownS_from _ _ _) ?h0 (fun pre x a' W => pre.length < l0.length ∧ (∃ Av cv, x.2 = .slice Av x.1.f1.length cv) ∧ (∃ Bx, W.heap[Bx]? = some (.cells (cells5 x).toArray 47 (0, 0)) ∧ a' = { tmps := #[Value.slice A0 l0.length c0, Value.slice A1 l1.length c1, undef, undef, Value.slice none 0 0, Value.pointer (some { block := w1.heap.size, off := 0 }), .pointer (some ⟨Bx, 0, none⟩), undef, undef, undef, undef, undef, Value.slice A0 l0.length c0, Value.bool true, Value.bool false, Value.slice A0 l0.length c0, Value.func (Fn.func 53) #[] #[Value.pointer (some { block := w1.heap.size + 1, off := 0 })], encF x, undef, undef, undef, undef, undef, undef, undef, undef, undef, undef, undef, undef, undef, undef, undef, undef, undef, undef, undef, undef, undef, undef, undef, undef, undef, undef, undef, undef, undef, undef, undef, undef, undef, undef, undef, undef, undef, undef, undef, undef, undef, undef, undef, undef, undef, undef, undef, undef, undef, undef, undef], defers := [] })) ?hAx ?assign ?body ?done
  case hI => exact OwnFrom.and (Own.from (holdsRow_own w.heap.size w1.heap.size 38 47 5 (fun pre => pre.length) rowOf (fun _ _ => True)) _) (ownFrom_below (Nat.le_refl _) (by omega))
  case h0 => exact ⟨⟨_, hbox, World.ownsRow_nil _ _ _ _, trivial⟩, hBelow⟩
  case hAx =>
    rintro pre x a' _ A B row ⟨h1, h0, Bx, h2, h3⟩ hg hrow
    refine ⟨h1, h0, Bx, (hg.block Bx (Array.getElem?_eq_some_iff.1 h2).1 fun e => ?_).trans h2, h3⟩
    obtain ⟨_, o, ho, hc⟩ := hrow Bx e.symm
    rw [h2] at ho; injection ho with ho; subst ho; cases hc
  case assign =>
    rintro l pre ⟨y, v⟩ W K hi ⟨hlen, hg⟩ hK
    obtain ⟨Av, cv, hv⟩ := Kd.R_slice hg.1
    dsimp only at hv
    subst hv
    dsimp only [encF]
    gi_wp2
    have hbW : Below W.heap.size W (W.alloc (.cells (cells5 (y, .slice Av y.f1.length cv)).toArray 47)) := (Below.refl _ _).alloc (Nat.le_refl _) _
    have hns : w.heap.size ≤ W.heap.size := hi.2.size
    refine hK _ _ ((KeepsOthers.alloc _ _).from _) ⟨hbW.mono hns, fun k cells hk => (hbW.block k (Array.getElem?_eq_some_iff.1 hk).1).trans hk⟩ ?_ ⟨hlen, ⟨Av, cv, rfl⟩, W.heap.size, World.alloc_heap_new W _, rfl⟩
    obtain ⟨⟨u, hu1, hu2, _⟩, hu3⟩ := hi
    exact ⟨⟨u, hu1.alloc _, hu2.alloc _, trivial⟩, hu3.alloc hns _⟩
  case body =>
    rintro l pre ⟨y, v⟩ a' W ⟨⟨u, hu1, hu2, _⟩, hu3⟩ ⟨hlen, ⟨Av, cv, hv⟩, Bx, hBx, rfl⟩
    dsimp only at hv
    subst hv
    obtain ⟨i0, hi, hz0, hz1, hz2⟩ := info_parts info47
    have k0 : W.cell? ⟨Bx, 0, none⟩ = some (.int .i64 y.f0.f0) := by simp [World.cell?, hBx, cells5]
    have k1 : W.cell? ⟨Bx, 1, none⟩ = some (.int .u8 y.f0.f1) := by simp [World.cell?, hBx, cells5]
    have k2 : W.cell? ⟨Bx, 2, none⟩ = some (.string y.f0.f2) := by simp [World.cell?, hBx, cells5]
    have k3 : W.cell? ⟨Bx, 3, none⟩ = some (.int .i64 y.f0.f3) := by simp [World.cell?, hBx, cells5]
    have k4 : W.cell? ⟨Bx, 4, none⟩ = some (.slice Av y.f1.length cv) := by simp [World.cell?, hBx, cells5]
    have hc0 := hu1.cell
    have hf0 := hu1.frozen
    have hns : w.heap.size ≤ W.heap.size := hu3.size
    dsimp only [encF]
    gi_wp2_with (gi_at_builtin; refine wpListIn_append_own _ rfl _ _ 38 rfl w.heap.size 47 i0 _ 5 64 Try.underlying38 hi hz0 hz1 hz2 rfl (by decide) _ _ _ rfl (hu2.alloc _) ⟨W.heap.size, 0, none⟩ 1 1 (cells5 (y, .slice Av y.f1.length cv)) rfl rfl (blk_cells (o := 0) (World.alloc_heap_new W _) (fun j u hj => by rw [Nat.zero_add]; exact hj)) (by simp [cells5, Value.oneCell']) (by unfold maxLen; omega) (by omega) (by simp; omega) ?_; intro v' w4 hown' hgrow _; obtain ⟨g', cap', rfl⟩ := ownsRow_succ hown'; obtain ⟨hv1, hv2, hr2, hk2, hb2⟩ := hu1.appended (by decide) hu2 hns (by omega) hown' hgrow; have hc1 := hv1.cell; have hf1 := hv1.frozen)
    have hrow : (w4.setCell ⟨w1.heap.size, 0, none⟩ (.slice (some ⟨g', 0, none⟩) (pre.length + 1) cap')).ownsRow w.heap.size 47 5 (.slice (some ⟨g', 0, none⟩) (pre.length + 1) cap') (pre ++ [((y, .slice Av y.f1.length cv) : Own)]).length (rowOf (pre ++ [((y, .slice Av y.f1.length cv) : Own)])) := by
      rw [rowOf_snoc, List.length_append]
      exact hr2
    refine ⟨hk2.from _, ⟨hb2, fun k cells hk => ?_⟩, ⟨⟨_, hv2, hrow, trivial⟩, hu3.trans hb2⟩⟩
    have hkl := (Array.getElem?_eq_some_iff.1 hk).1
    have hkb : k ≠ w1.heap.size := fun e => by
      have := hu1
      unfold Boxed at this
      rw [e] at hk
      rw [hk] at this
      injection this with this
      injection this with _ h2 _
      cases h2
    refine (Below.heap_setCell _ _ _ k hkb).trans ((hgrow.block k (by simp; omega) (own_ne hu2 hk)).trans ?_)
    exact (al_old W _ hkl).trans hk
  case done =>
    rintro D ps W hD ⟨hps, hgs⟩ ⟨⟨u, hu1, hu2, _⟩, hu3⟩ hK
    have hR := rows_R hu2 hgs
    rw [hps] at hR
    have hbase : w.heap.size ≤ w1.heap.size := by omega
    have HV := Lib.hid (And.intro (show Boxed W w1.heap.size 38 u from hu1) (And.intro hR (And.intro hu3 hK)))
    have HW := Lib.hid (And.intro hr1 (And.intro ho (And.intro hbig (And.intro hs0 hs1))))
    have hl1 : l1.length ≤ 9223372036854775807 := hr1.2.1
    clear hu1 hu2 hu3 hK hR hgs hps hlo hbox hboxl hr0 hr1 ho hbig hs0 hs1 HI
    gi_wp2
    refine wpIn_wide.2 ?_
    obtain ⟨hu1, hR, hu3, hK⟩ := HV.out
    obtain ⟨hr1, ho, hbig, hs0, hs1⟩ := HW.out
    refine apply_loop _ _ _ _ _ _ _ _ _ _ _ _ _ _ _ _ _ _ _ _ _ _ _ _ _ _ _ _ _ _ _ _ _ _ _ _ _ _ _ _ _ _ _ _ _ _ _ _ _ _ _ _ _ _ _ _ _ _ _ _ _ _ _ _ _ _ w1.heap.size w.heap.size D A1 c1 l0 l1 w W _ u (fun W' hb => Kd.C_below hr1 hb) hc1 hs1 (Nat.le_refl _) hbase ho hbig hu1 hR hu3 hK ?_
    intro v8 v9 v10 v11 v25 v26 v27 v28 v29 v30 v31 v32 v33 v34 v35 v36 v37 v38 v39 v40 v41 v42 v43 v44 v45 v46 v47 v48 v49 v50 v51 v52 v53 v54 v55 v56 v57 v58 v59 v60 v61 v62 v63 v64 v65 v66 v67 u' W' hu' hR' hW' hD'
    dsimp only
    obtain ⟨Au, cu, rfl⟩ := Kd.R_slice hR'
    have hb0 := hu'.cell
    have HZ := Lib.hid (And.intro hR' (And.intro hW' hD'))
    clear hu' hR' hW' hD'
    gi_wp2
    obtain ⟨hR', hW', hD'⟩ := HZ.out
    have hgp : W'.grownBy _ (some D) := grownBy_putObj' W' D (.deferred none)
    refine ⟨by simp, .inl ⟨_, _, rfl, run_takeDeferred hD', ?_⟩⟩
    refine ⟨.slice Au (applyB l0 l1).length cu, ?_, _, rfl, ?_, hW'.grown hgp hW'.size fun k hk => ?_⟩
    · simp [results, Try.f16, go_sem]
    · refine Kd.R_mono (Kd.R_grown (Kd.R_bound hR') hgp fun k hk e => ?_) fun _ _ => trivial
      obtain ⟨_, _, _, _, _, cells, hc⟩ := hk
      injection e with e
      rw [e, hD'] at hc
      cases hc
    · injection hk with hk
      omega
end Go.Proofs.Ytbhmncenbpdcjaa.P.Q
end
section
/- carrackref00.Spoil: its contract. -/
namespace Go.Proofs.Ytbhmncenbpdcjaa.P.Q
open Go Go.Shelf Go.RowKit Go.Proofs.Ytbhmncenbpdcjaa.P Go.Proofs.YtbhmncenbpdcjaaW.PrintWords Go.Proofs.YtbhmncenbpdcjaaW.PrintLast Go.Proofs.YtbhmncenbpdcjaaW.PrintMore
set_option linter.unusedVariables false
set_option linter.unusedSimpArgs false
theorem full_set {cells : Array Value} (h : Full8 cells) (i : Nat) (n : Int) : Full8 (cells.setIfInBounds i (.int .u8 n)) := by
  intro u hu
  rw [Array.toList_setIfInBounds] at hu
  rcases List.mem_or_eq_of_mem_set hu with h1 | h1
  · exact h u h1
  · exact ⟨n, h1⟩
theorem full_at {cells : Array Value} (h : Full8 cells) (i : Nat) (hi : i < cells.size) : ∃ n : Int, cells[i]? = some (.int .u8 n) := by
  obtain ⟨n, hn⟩ := h (cells[i]) (by simp)
  exact ⟨n, by rw [Array.getElem?_eq_getElem hi, hn]⟩
def SpoilEnd (g : Nat) (cap : Nat) (w : World) (e : Ending) (w' : World) : Prop := (∃ v, e = .returned v) ∧ ∃ cells : Array Value, w'.heap[g]? = some (.cells cells 5 (0, 0)) ∧ cells.size = cap ∧ Full8 cells ∧ w.grownBy w' (some g)
set_option maxRecDepth 100000 in
set_option maxHeartbeats 4000000 in
theorem spoil_any (g n cap : Nat) (cells : Array Value) (w : World) (hg : w.heap[g]? = some (.cells cells 5 (0, 0))) (hs : cells.size = cap) (hf : Full8 cells) (hm : cap ≤ 9223372036854775807) (hn : n ≤ cap) :
    Calls Try.prog 18 #[.slice (some ⟨g, 0, none⟩) n cap, .int .u8 1] w (SpoilEnd g cap w) := by
  have HI0 : Hid (∃ cells : Array Value, w.heap[g]? = some (.cells cells 5 (0, 0)) ∧ cells.size = cap ∧ Full8 cells ∧ w.grownBy w (some g)) := Lib.hid ⟨cells, hg, hs, hf, World.grownBy.refl w _⟩
  clear hg hs hf
  have c1 : (cap : Int) ≤ 9223372036854775807 := by omega
  go_enter Try.func18, Try.ntmps18
  go_wp2
  go_loopw [5] (fun s wr => ∃ i : Nat, i ≤ cap ∧ s = .int .i64 i ∧ Hid (∃ cells : Array Value, wr.heap[g]? = some (.cells cells 5 (0, 0)) ∧ cells.size = cap ∧ Full8 cells ∧ w.grownBy wr (some g))) (fun s _ => cap - (intOf s).toNat)
  case atStart => exact ⟨0, Nat.zero_le _, rfl, HI0⟩
  case round =>
    obtain ⟨i, hi, rfl, HI⟩ := hrel
    by_cases hlt : i < cap
    · obtain ⟨cells, hg, hs, hf, hgr⟩ := HI.out
      obtain ⟨m, hm'⟩ := full_at hf i (by omega)
      have h0 : wr.cell? ⟨g, i, none⟩ = some (.int .u8 m) := by simp [World.cell?, hg, hm']
      have hz : wr.frozen? ⟨g, i, none⟩ = false := by simp [World.frozen?, hg]
      have HC := Lib.hid (And.intro hg (And.intro hs (And.intro hf hgr)))
      clear hg hs hf hgr hm'
      have ci0 : (0 : Int) ≤ (i : Int) := by omega
      have ci1 : (i : Int) < (cap : Int) := by omega
      go_wp2
      go_roundw
      case rel => exact ⟨i + 1, hlt, by go_num, Lib.hid ⟨_, blk_set HC.out.1 i _, by simpa using HC.out.2.1, full_set HC.out.2.2.1 i _, HC.out.2.2.2.trans (setCell_grown _ _ _ _)⟩⟩
      case measure => simp [intOf]; omega
    · obtain rfl : i = cap := by omega
      go_wp2
      go_end0
      exact ⟨⟨_, rfl⟩, HI.out⟩
theorem spoil_nil (w : World) : Calls Try.prog 18 #[.slice none 0 0, .int .u8 1] w fun e w' => (∃ v, e = .returned v) ∧ w = w' := by
  go_enter Try.func18, Try.ntmps18
  go_wp2
  refine wp_loop_rounds 1 ?_
  rw [rounds_succ]
  go_wp2
  go_end0
  exact ⟨⟨_, rfl⟩, rfl⟩
end Go.Proofs.Ytbhmncenbpdcjaa.P.Q
end
section
/- Rows of facts that may be spoiled. -/
namespace Go.Proofs.Ytbhmncenbpdcjaa.P.Q
open Go Go.Shelf Go.RowKit Go.Proofs.Ytbhmncenbpdcjaa.P Go.Proofs.YtbhmncenbpdcjaaW.PrintWords Go.Proofs.YtbhmncenbpdcjaaW.PrintLast Go.Proofs.YtbhmncenbpdcjaaW.PrintMore
set_option linter.unusedVariables false
set_option linter.unusedSimpArgs false
def SpoilOk (base : Nat) (W : World) (v : Value) : Prop :=
  v = .slice none 0 0 ∨ ∃ (g m c : Nat) (cells : Array Value), v = .slice (some ⟨g, 0, none⟩) m c ∧ m ≤ c ∧ c ≤ 9223372036854775807 ∧ base ≤ g ∧ W.heap[g]? = some (.cells cells 5 (0, 0)) ∧ cells.size = c ∧ Full8 cells
theorem spoilOk_of {W : World} {base : Nat} {ok : Nat → Prop} {v : Value} {xs : List Int} (h : Kd.R (Kd.int .u8) 5 W base ok v xs) (hf : FullB W v) : SpoilOk base W v := by
  rcases R_form h with ⟨rfl, _⟩ | ⟨g, cap, L, inner, rfl, _, hb, hg, hn, hc, hL, _⟩
  · exact .inl rfl
  · obtain ⟨cells, h1, h2⟩ := hf g (by simp [Value.ownBlock])
    rw [hg] at h1
    injection h1 with h1
    injection h1 with h1
    have hL : L.length = cap * 1 := hL
    refine .inr ⟨g, xs.length, cap, L.toArray, rfl, hn, hc, hb, hg, by simpa using hL, h1 ▸ h2⟩
/-- What a call of Spoil leaves. -/
def Spoiled (base : Nat) (W W' : World) : Prop := Below base W W' ∧ (∀ u, SpoilOk base W u → SpoilOk base W' u) ∧ ∀ (k : Nat) (cells : Array Value), W.heap[k]? = some (.cells cells 47 (0, 0)) → W'.heap[k]? = some (.cells cells 47 (0, 0))
theorem spoil_of {base : Nat} {W : World} {v : Value} (hbW : base ≤ W.heap.size) (h : SpoilOk base W v) : Calls Try.prog 18 #[v, .int .u8 1] W fun e w' => (∃ v, e = .returned v) ∧ Spoiled base W w' := by
  rcases h with rfl | ⟨g, m, c, cells, rfl, hm, hc, hb, hg, hs, hf⟩
  · refine (spoil_nil W).mono ?_
    rintro e w' ⟨he, rfl⟩
    exact ⟨he, Below.refl _ _, fun u h => h, fun k cells h => h⟩
  · refine (spoil_any g m c cells W hg hs hf hc hm).mono ?_
    rintro e w' ⟨he, cells', hg', hs', hf', hgr⟩
    refine ⟨he, (Below.refl _ _).grown hgr hbW (fun k hk => by injection hk with hk; omega), fun u hu => ?_, fun k cs hk => (hgr.block k (Array.getElem?_eq_some_iff.1 hk).1 fun e => ?_).trans hk⟩
    · rcases hu with rfl | ⟨g2, m2, c2, cells2, rfl, hm2, hc2, hb2, hg2, hs2, hf2⟩
      · exact .inl rfl
      · by_cases hgg : g2 = g
        · subst hgg
          rw [hg] at hg2
          injection hg2 with hg2
          injection hg2 with hg2
          exact .inr ⟨g2, m2, c2, cells', rfl, hm2, hc2, hb2, hg', by rw [hs', ← hs, hg2, hs2], hf'⟩
        · exact .inr ⟨g2, m2, c2, cells2, rfl, hm2, hc2, hb2, (hgr.block g2 (Array.getElem?_eq_some_iff.1 hg2).1 (fun e => hgg (by injection e))).trans hg2, hs2, hf2⟩
    · injection e with e
      rw [e, hg] at hk
      injection hk with hk
      injection hk with _ h2 _
      cases h2
/-- A row of facts, each of which may be spoiled. -/
def XRow (base : Nat) (W : World) (gx n cap : Nat) : Prop :=
  ∃ L : List Value, base ≤ gx ∧ W.heap[gx]? = some (.cells L.toArray 47 (0, 0)) ∧ L.length = cap * 5 ∧ n ≤ cap ∧ ∀ j, j < n → (∃ z, L[j * 5]? = some z) ∧ ∃ u, L[j * 5 + 4]? = some u ∧ SpoilOk base W u
theorem xRow_of {base : Nat} {W : World} {v : Value} {xs : List F} (h : Kd.R kF 47 W base (fun _ => True) v xs) : (v = .slice none 0 0 ∧ xs = []) ∨ ∃ gx cap, v = .slice (some ⟨gx, 0, none⟩) xs.length cap ∧ XRow base W gx xs.length cap := by
  rcases R_form h with h0 | ⟨g, cap, L, inner, rfl, _, hb, hg, hn, hc, hL, ht, hlen, hr⟩
  · exact .inl h0
  · refine .inr ⟨g, cap, rfl, L, hb, hg, hL, hn, fun j hj => ?_⟩
    have hM := hr.2 j xs[j] (List.getElem?_eq_getElem hj)
    obtain ⟨v4, hcs, hR4⟩ := k47_openM hM.1
    have hcs : (inner.drop (j * 5)).take 5 = [.int .i64 xs[j].f0.f0, .int .u8 xs[j].f0.f1, .string xs[j].f0.f2, .int .i64 xs[j].f0.f3, v4] := hcs
    have hat : ∀ (i : Nat) (u : Value), i < 5 → ([.int .i64 xs[j].f0.f0, .int .u8 xs[j].f0.f1, .string xs[j].f0.f2, .int .i64 xs[j].f0.f3, v4] : List Value)[i]? = some u → L[j * 5 + i]? = some u := fun i u hi hu => by
      rw [← hcs, List.getElem?_take, if_pos hi, List.getElem?_drop, ← ht, List.getElem?_take] at hu
      split at hu
      · exact hu
      · cases hu
    have hv4 : v4 ∈ ((inner.drop (j * 5)).take kF.sz) := by
      show v4 ∈ (inner.drop (j * 5)).take 5
      rw [hcs]; simp
    exact ⟨⟨_, hat 0 _ (by omega) rfl⟩, v4, hat 4 _ (by omega) rfl, spoilOk_of hR4 (hM.2 v4 hv4)⟩
theorem xRow_spoiled {base gx n cap : Nat} {W W' : World} (h : XRow base W gx n cap) (hs : Spoiled base W W') : XRow base W' gx n cap := by
  obtain ⟨L, hb, hg, hL, hn, hj⟩ := h
  refine ⟨L, hb, hs.2.2 _ _ hg, hL, hn, fun j hlt => ?_⟩
  obtain ⟨hz, u, hu, ho⟩ := hj j hlt
  exact ⟨hz, u, hu, hs.2.1 u ho⟩
theorem xRow_below {base gx n cap : Nat} {W W' : World} (h : XRow base W gx n cap) (hb : Below W.heap.size W W') : XRow base W' gx n cap := by
  obtain ⟨L, hb', hg, hL, hn, hj⟩ := h
  refine ⟨L, hb', (hb.block _ (Array.getElem?_eq_some_iff.1 hg).1).trans hg, hL, hn, fun j hlt => ?_⟩
  obtain ⟨hz, u, hu, ho⟩ := hj j hlt
  refine ⟨hz, u, hu, ?_⟩
  rcases ho with rfl | ⟨g, m, c, cells, rfl, h1, h2, h3, h4, h5, h6⟩
  · exact .inl rfl
  · exact .inr ⟨g, m, c, cells, rfl, h1, h2, h3, (hb.block _ (Array.getElem?_eq_some_iff.1 h4).1).trans h4, h5, h6⟩
theorem spoilOk_below {base : Nat} {W W' : World} {u : Value} (h : SpoilOk base W u) (hb : Below W.heap.size W W') : SpoilOk base W' u := by
  rcases h with rfl | ⟨g, m, c, cells, rfl, h1, h2, h3, h4, h5, h6⟩
  · exact .inl rfl
  · exact .inr ⟨g, m, c, cells, rfl, h1, h2, h3, (hb.block _ (Array.getElem?_eq_some_iff.1 h4).1).trans h4, h5, h6⟩
/-- A key's number is written over. -/
theorem xRow_store {base gx n cap i : Nat} {W : World} (h : XRow base W gx n cap) (hi : i < n) (x : Value) : XRow base (W.setCell ⟨gx, i * 5, none⟩ x) gx n cap ∧ Below base W (W.setCell ⟨gx, i * 5, none⟩ x) := by
  obtain ⟨L, hb, hg, hL, hn, hj⟩ := h
  refine ⟨⟨L.set (i * 5) x, hb, ?_, by simpa using hL, hn, fun j hlt => ?_⟩, (Below.refl _ _).setCell (p := ⟨gx, i * 5, none⟩) hb _⟩
  · have := blk_set hg (i * 5) x
    simpa using this
  · obtain ⟨⟨z, hz⟩, u, hu, ho⟩ := hj j hlt
    refine ⟨?_, u, ?_, ?_⟩
    · rw [List.getElem?_set]
      split
      · split
        · exact ⟨x, rfl⟩
        · rename_i h1 h2
          have := (List.getElem?_eq_some_iff.1 hz).1
          omega
      · exact ⟨z, hz⟩
    · rw [List.getElem?_set, if_neg (by omega)]; exact hu
    · rcases ho with rfl | ⟨g, m, c, cells, rfl, h1, h2, h3, h4, h5, h6⟩
      · exact .inl rfl
      · refine .inr ⟨g, m, c, cells, rfl, h1, h2, h3, (Below.heap_setCell _ _ _ g fun e => ?_).trans h4, h5, h6⟩
        have e : g = gx := e
        rw [e, hg] at h4
        injection h4 with h4
        injection h4 with _ h4 _
        cases h4
end Go.Proofs.Ytbhmncenbpdcjaa.P.Q
end
section
/- fact.own: facts one by one, each with a copy of its value: what its iterator owes. -/
namespace Go.Proofs.Ytbhmncenbpdcjaa.P
open Go Go.Shelf Go.RowKit Go.Proofs.YtbhmncenbpdcjaaW.PrintWords Go.Proofs.YtbhmncenbpdcjaaW.PrintLast Go.Proofs.YtbhmncenbpdcjaaW.PrintMore
set_option linter.unusedVariables false
set_option linter.unusedSimpArgs false
attribute [local go_sem] Oper.semAt_some

/-- What a round leaves: all that lay below n₀, and every block of bytes. -/
def KpB (n₀ : Nat) (W W' : World) : Prop := Below n₀ W W' ∧ ∀ (k : Nat) (cells : Array Value), W.heap[k]? = some (Obj.cells cells 5 (0, 0)) → W'.heap[k]? = some (Obj.cells cells 5 (0, 0))
theorem KpB.trans {n₀ : Nat} {A B C : World} (h : KpB n₀ A B) (k : KpB n₀ B C) : KpB n₀ A C := ⟨h.1.trans k.1, fun i c hi => k.2 i c (h.2 i c hi)⟩
theorem KpB.turn {n₀ : Nat} (W : World) (l : Nat) (o o' : Obj) (hl : n₀ ≤ l) (h : W.heap[l]? = some o) (ho : o.isCells = false) : KpB n₀ W (W.putObj l o') :=
  ⟨(Below.refl n₀ W).grown (grownBy_putObj' W l o') (by have := (Array.getElem?_eq_some_iff.1 h).1; omega) (fun k e => by cases e; omega), fun k cells hk => by
    have hne : k ≠ l := fun e => by subst e; rw [h] at hk; injection hk with hk; rw [hk] at ho; cases ho
    exact (World.putObj_heap_other hne).trans hk⟩
/-- A row of bytes, where every block of bytes is kept. -/
theorem R8_keep {W W' : World} {b : Nat} {v : Value} {xs : List Int} (h : Kd.R (Kd.int .u8) 5 W b (fun _ => True) v xs) (hk : ∀ (k : Nat) (cells : Array Value), W.heap[k]? = some (Obj.cells cells 5 (0, 0)) → W'.heap[k]? = some (Obj.cells cells 5 (0, 0))) : Kd.R (Kd.int .u8) 5 W' b (fun _ => True) v xs := by
  refine Kd.R_mono (Kd.R_move (Kd.R_bound h) fun k ⟨_, _, _, q, hq, cells, hc⟩ => ?_) (fun _ _ => trivial)
  have : q = 5 := by simpa [Kd.int, Kd.scalar] using hq
  subst this
  exact (hk k cells hc).trans hc.symm
abbrev Own := S47 × Value
def encF (p : Own) : Value := .agg #[.int .i64 p.1.f0.f0, .int .u8 p.1.f0.f1, .string p.1.f0.f2, .int .i64 p.1.f0.f3, p.2]
def OwnG (n₀ : Nat) (p : Own) (W : World) : Prop := Kd.R (Kd.int .u8) 5 W n₀ (fun _ => True) p.2 p.1.f1
def OwnS (n₀ : Nat) (l : List S47) (ps : List Own) (W : World) : Prop := ps.map Prod.fst = l ∧ ∀ p ∈ ps, OwnG n₀ p W
theorem ownS_from (n₀ B : Nat) (l : List S47) : OwnFrom B (OwnS n₀ l) := fun ps W W' row hs hg hr =>
  ⟨hs.1, fun p hp => R8_keep (hs.2 p hp) fun k cells hk => (hg.block k (Array.getElem?_eq_some_iff.1 hk).1 fun e => by
    obtain ⟨_, o, ho, hc⟩ := hr k e.symm
    rw [hk] at ho; injection ho with ho; subst ho; cases hc).trans hk⟩

set_option maxRecDepth 100000 in
set_option maxHeartbeats 2000000 in
theorem own_iter (n : Nat) (ba n₀ : Nat) (A : Option Addr) (c : Nat) (l : List S47) (hsz : ∀ x ∈ l, x.f1.length < 140737488355328) (w : World) (hw : n₀ ≤ w.heap.size) (ha : w.cell? ⟨ba, 0, none⟩ = some (.slice A l.length c)) (hr : Kd.C k47 w A l.length l)
    (hlow : ∀ W, Below n₀ w W → Kd.C k47 W A l.length l) :
    Iter Fence.wide n Try.prog 53 #[.pointer (some ⟨ba, 0, none⟩)] (fun p => #[encF p]) (fun pre p W => pre.length < l.length ∧ OwnG n₀ p W) (KpB n₀) (OwnS n₀ l) w := by
  intro id J W hbw hJ hY h0
  refine callsIn_of_wp Try.func53 rfl trivial ?_ rfl
  simp only [Try.ntmps53, List.size_toArray, List.length_cons, List.length_nil, Nat.reduceAdd, Nat.reduceSub, Array.replicate_succ, Array.replicate_zero, List.push_toArray, List.append_toArray, List.nil_append, List.cons_append]
  have hba' : W.cell? ⟨ba, 0, none⟩ = some (.slice A l.length c) := cell_below hbw ha
  gi_wp2
  gi_loopw [7] (fun i wr => ∃ (k : Nat) (ps : List Own), k ≤ l.length ∧ i = .int .i64 k ∧ J ps wr ∧ KpB n₀ W wr ∧ ps.map Prod.fst = l.take k ∧ (∀ p ∈ ps, OwnG n₀ p wr))
    (fun i _ => l.length - (intOf i).toNat)
  case atStart => exact ⟨0, [], Nat.zero_le _, rfl, h0, ⟨Below.refl _ _, fun _ _ h => h⟩, rfl, fun _ h => absurd h (by simp)⟩
  case round =>
    obtain ⟨k, ps, hk, rfl, hJs, hkp, hps, hgs⟩ := hrel
    by_cases hlt : k < l.length
    · have hlo : Below n₀ w wr := (hbw.mono hw).trans hkp.1
      obtain ⟨ad, A4, c4, hA, h0, h1, h2, h3, h4, h5, h6⟩ := at_T47 (hlow wr hlo) (k : Nat) (by omega) (by omega)
      subst hA
      simp only [Int.toNat_natCast] at h0 h1 h2 h3 h4
      generalize hy : rd_T47 l (k : Nat) = y at *
      have c1 : (k : Int) < (l.length : Int) := by omega
      have hym : y.f1.length < 140737488355328 := hsz y (by rw [← hy, rd_nat l k hlt]; exact List.getElem_mem _)
      have HJ := Lib.hid (fun (W' : World) (hb : Below wr.heap.size wr W') => hJ ps wr W' none hJs ⟨hb.os, hb.tape, hb.output, hb.size, fun k hk _ => hb.block k hk⟩ (fun r e => by cases e))
      have HY := Lib.hid (fun (v : Value) (W' : World) (h1 : J ps W') (h2 : OwnG n₀ (y, v) W') => hY ps (y, v) W' h1 ⟨(by have := congrArg List.length hps; rw [List.length_map, List.length_take] at this; omega), h2⟩)
      have HS := Lib.hid hym
      have HA := Lib.hid (And.intro h5 h6)
      have HW := Lib.hid (Nat.le_trans hw (Nat.le_trans hbw.size (Nat.le_trans hkp.1.size (Nat.le_refl _))))
      have HN := Lib.hid (Nat.le_trans hw (Nat.le_trans hbw.size hkp.1.size))
      obtain ⟨WB, hWB⟩ : ∃ WB, WB = (wr.alloc (Obj.cells #[Value.int IntKind.i64 y.f0.f0, Value.int IntKind.u8 y.f0.f1, Value.string y.f0.f2, Value.int IntKind.i64 y.f0.f3, Value.slice A4 y.f1.length c4] 47)).drew := ⟨_, rfl⟩
      have hBX : Below wr.heap.size wr WB := by rw [hWB]; exact ((Below.refl _ _).alloc (Nat.le_refl _) _).drew
      have hB0 : WB.cell? ⟨wr.heap.size, 0, none⟩ = some (.int .i64 y.f0.f0) := by rw [hWB]; go_simp
      have hB1 : WB.cell? ⟨wr.heap.size, 1, none⟩ = some (.int .u8 y.f0.f1) := by rw [hWB]; go_simp
      have hB2 : WB.cell? ⟨wr.heap.size, 2, none⟩ = some (.string y.f0.f2) := by rw [hWB]; go_simp
      have hB3 : WB.cell? ⟨wr.heap.size, 3, none⟩ = some (.int .i64 y.f0.f3) := by rw [hWB]; go_simp
      have hB4 : WB.cell? ⟨wr.heap.size, 4, none⟩ = some (.slice A4 y.f1.length c4) := by rw [hWB]; go_simp
      have HX : Hid (∀ W', Below WB.heap.size WB W' → W'.cell? ⟨wr.heap.size, 0, none⟩ = some (.int .i64 y.f0.f0) ∧ W'.cell? ⟨wr.heap.size, 1, none⟩ = some (.int .u8 y.f0.f1) ∧ W'.cell? ⟨wr.heap.size, 2, none⟩ = some (.string y.f0.f2) ∧ W'.cell? ⟨wr.heap.size, 3, none⟩ = some (.int .i64 y.f0.f3) ∧ W'.cell? ⟨wr.heap.size, 4, none⟩ = some (.slice A4 y.f1.length c4) ∧ Below wr.heap.size wr W') := Lib.hid fun W' hb => ⟨cell_below hb hB0, cell_below hb hB1, cell_below hb hB2, cell_below hb hB3, cell_below hb hB4, hBX.trans (hb.mono hBX.size)⟩
      have HC : Hid (Calls Try.prog 37 #[.slice A4 y.f1.length c4] (wr.alloc (Obj.cells #[Value.int IntKind.i64 y.f0.f0, Value.int IntKind.u8 y.f0.f1, Value.string y.f0.f2, Value.int IntKind.i64 y.f0.f3, Value.slice A4 y.f1.length c4] 47)).drew fun e w' => ∃ (A1 : Option Addr) (c1 : Nat), e = .returned (.slice A1 y.f1.length c1) ∧ (J ps w' ∧ OwnG n₀ (y, .slice A1 y.f1.length c1) w' ∧ Below WB.heap.size WB w')) := Lib.hid (by
        rw [← hWB]
        refine (clone_any A4 c4 y.f1 WB (Kd.C_below h6 hBX) h5 hym).mono ?_
        rintro e w' ⟨v, rfl, hR, hB⟩
        obtain ⟨A1, c1, rfl⟩ := Kd.R_slice hR
        exact ⟨A1, c1, rfl, HJ.out w' (hBX.trans (hB.mono hBX.size)), Kd.R_lower hR (Nat.le_trans HN.out hBX.size), hB⟩)
      have HP := Lib.hid (And.intro hps (And.intro hgs hkp))
      have HL := Lib.hid (And.intro hlt (And.intro hy (Kd.C_below hr hbw).2.1))
      clear hJ hY hym h5 h6 hgs hps hkp hlo hba' hsz hlow hr ha hB0 hB1 hB2 hB3 hB4 hBX hWB
      gi_wp2
      gi_region_with (first | (refine ⟨trivial, fun h => absurd h (by decide), callsIn_wide.2 ?_⟩; refine HC.out.mono ?_; rintro e w' ⟨A1, c1', rfl, hj, hg, hb⟩; obtain ⟨b0, b1, b2, b3, b4, hb5⟩ := HX.out w' hb; obtain ⟨fn, tmps, assign, body, hy1, hR1⟩ := HY.out _ w' hj hg; dsimp only [encF] at hy1; have HV1 := Lib.hid (And.intro hg hb5); have HR1 := Lib.hid hR1; clear hR1; clear hj hg hb hb5) | (refine ⟨fun h => absurd h (by decide), HR1.out.mono ?_⟩; rintro e W3 ⟨rfl, hJ3, hK3⟩; have HJ3 := Lib.hid hJ3; have HK3 := Lib.hid hK3; clear hJ3 hK3) | (trace_state; fail))
      all_goals gi_wp2
      all_goals
        obtain ⟨hps, hgs, hkp⟩ := HP.out
        obtain ⟨hlt, hy, hl63⟩ := HL.out
        have hb5 := HV1.out.2
        have hk5 : KpB n₀ wr w' := ⟨hb5.mono HN.out, fun i cells hi => (hb5.block i (Array.getElem?_eq_some_iff.1 hi).1).trans hi⟩
        have hk6 := hk5.trans HK3.out
        have hwr : wrap64 ((k : Int) + 1) = (k : Int) + 1 := by unfold wrap64; omega
        rw [hwr]
        refine ⟨⟨k + 1, _, by omega, by simp, HJ3.out, hkp.trans hk6, ?_, ?_⟩, by simp [intOf]; omega⟩
        · rw [List.map_append, hps, List.take_add_one, List.getElem?_eq_getElem hlt]
          simp only [List.map_cons, List.map_nil, Option.toList]
          rw [← hy, rd_nat l k hlt]
        · intro p hp
          rcases List.mem_append.1 hp with hp | hp
          · exact R8_keep (hgs p hp) hk6.2
          · have e : p = (y, Value.slice A1 y.f1.length c1') := by simpa using hp
            rw [e]
            exact R8_keep HV1.out.1 HK3.out.2
    · obtain rfl : k = l.length := by omega
      gi_wp2
      go_end0
      exact ⟨⟨_, rfl⟩, ps, ⟨by rw [hps, List.take_length], hgs⟩, hJs⟩
end Go.Proofs.Ytbhmncenbpdcjaa.P
end
section
/- fact.Apply: the region that lays a change's fact. -/
namespace Go.Proofs.Ytbhmncenbpdcjaa.P
open Go Go.Shelf Go.RowKit Go.Proofs.YtbhmncenbpdcjaaW.PrintWords Go.Proofs.YtbhmncenbpdcjaaW.PrintLast Go.Proofs.YtbhmncenbpdcjaaW.PrintMore
set_option linter.unusedVariables false
set_option linter.unusedSimpArgs false
attribute [local go_sem] Oper.semAt_some
attribute [local go_sem ↓] Go.wp_at_zero Go.wp_at_succ
def regionAt (n : Nat) : Code → Option Code
  | .region i ops d => if i = n then some (.region i ops d) else none
  | .loop c => regionAt n c
  | .seq a b => match regionAt n a with
    | some c => some c
    | none => regionAt n b
  | .block _ c => regionAt n c
  | .scope c => regionAt n c
  | .cond _ a b => match regionAt n a with
    | some c => some c
    | none => regionAt n b
  | .rangeFunc _ _ a b => match regionAt n a with
    | some c => some c
    | none => regionAt n b
  | _ => none
def cells6 (c : Ch) (A4 : Option Addr) (c4 : Nat) : List Value := [.int .i64 c.f0.f0, .int .u8 c.f0.f1, .string c.f0.f2, .int .i64 c.f0.f3, .slice A4 c.f1.length c4, .bool c.f2]
noncomputable def reg11 : Code := ((Try.f16.body.bind (regionAt 11)).getD .skip)
/-- What stands behind it. -/
def Laid (c : Ch) (W2 : World) (B : Nat) (A5 : Option Addr) (c5 : Nat) (W3 : World) : Prop :=
  W2.heap.size ≤ B ∧ W3.heap[B]? = some (.cells #[.int .i64 c.f0.f0, .int .u8 c.f0.f1, .string c.f0.f2, .int .i64 c.f0.f3, .slice A5 c.f1.length c5] 47 (0, 0)) ∧
    Kd.R (Kd.int .u8) 5 W3 W2.heap.size (fun _ => True) (.slice A5 c.f1.length c5) c.f1 ∧ Below W2.heap.size W2 W3
theorem laid_new {c : Ch} {W2 w' : World} {A5 : Option Addr} {c5 : Nat} (hr : Kd.R (Kd.int .u8) 5 w' W2.drew.heap.size (fun _ => True) (.slice A5 c.f1.length c5) c.f1) (hb : Below W2.drew.heap.size W2.drew w') :
    Laid c W2 w'.heap.size A5 c5 (w'.alloc (.cells #[.int .i64 c.f0.f0, .int .u8 c.f0.f1, .string c.f0.f2, .int .i64 c.f0.f3, .slice A5 c.f1.length c5] 47)) := by
  have hb' : Below W2.heap.size W2 w' := (Below.refl _ _).drew.trans (hb.mono (Nat.le_refl _))
  exact ⟨hb'.size, World.alloc_heap_new _ _, Kd.R_alloc hr _, hb'.alloc hb'.size _⟩
theorem laid_old {c : Ch} {W2 w' : World} {A5 : Option Addr} {c5 : Nat} (hr : Kd.R (Kd.int .u8) 5 w' (W2.alloc (.cells #[.int .i64 0, .int .u8 0, .string ⟨#[]⟩, .int .i64 0, .slice none 0 0] 47)).drew.heap.size (fun _ => True) (.slice A5 c.f1.length c5) c.f1)
    (hb : Below (W2.alloc (.cells #[.int .i64 0, .int .u8 0, .string ⟨#[]⟩, .int .i64 0, .slice none 0 0] 47)).drew.heap.size (W2.alloc (.cells #[.int .i64 0, .int .u8 0, .string ⟨#[]⟩, .int .i64 0, .slice none 0 0] 47)).drew w') :
    Laid c W2 W2.heap.size A5 c5 (((((w'.setCell ⟨W2.heap.size, 0, none⟩ (.int .i64 c.f0.f0)).setCell ⟨W2.heap.size, 1, none⟩ (.int .u8 c.f0.f1)).setCell ⟨W2.heap.size, 2, none⟩ (.string c.f0.f2)).setCell ⟨W2.heap.size, 3, none⟩ (.int .i64 c.f0.f3)).setCell ⟨W2.heap.size, 4, none⟩ (.slice A5 c.f1.length c5)) := by
  have hs : (W2.alloc (.cells #[.int .i64 0, .int .u8 0, .string ⟨#[]⟩, .int .i64 0, .slice none 0 0] 47)).drew.heap.size = W2.heap.size + 1 := by simp
  have hz : w'.heap[W2.heap.size]? = some (.cells #[.int .i64 0, .int .u8 0, .string ⟨#[]⟩, .int .i64 0, .slice none 0 0] 47 (0, 0)) :=
    (hb.block W2.heap.size (by rw [hs]; omega)).trans (World.alloc_heap_new W2 _)
  have hb' : Below W2.heap.size W2 w' := ((Below.refl _ _).alloc (Nat.le_refl _) _).drew.trans (hb.mono (by rw [hs]; omega))
  refine ⟨Nat.le_refl _, ?_, ?_, ((((hb'.setCell (p := ⟨W2.heap.size, 0, none⟩) (Nat.le_refl _) _).setCell (p := ⟨W2.heap.size, 1, none⟩) (Nat.le_refl _) _).setCell (p := ⟨W2.heap.size, 2, none⟩) (Nat.le_refl _) _).setCell (p := ⟨W2.heap.size, 3, none⟩) (Nat.le_refl _) _).setCell (p := ⟨W2.heap.size, 4, none⟩) (Nat.le_refl _) _⟩
  · exact blk_put (blk_put (blk_put (blk_put (blk_put hz 0 _ rfl) 1 _ rfl) 2 _ rfl) 3 _ rfl) 4 _ rfl
  · rw [hs] at hr
    refine Kd.R_lower (base := W2.heap.size + 1) (Kd.R_mono (ok := fun k => W2.heap.size + 1 ≤ k) ?_ fun _ _ => trivial) (by omega)
    have hr' := Kd.R_mono (Kd.R_bound hr) (ok' := fun k => W2.heap.size + 1 ≤ k) fun k hk => hk.2.1
    exact Kd.R_far (Kd.R_far (Kd.R_far (Kd.R_far (Kd.R_far hr' (p := ⟨W2.heap.size, 0, none⟩) (fun k hk => by show k ≠ W2.heap.size; omega) _) (p := ⟨W2.heap.size, 1, none⟩) (fun k hk => by show k ≠ W2.heap.size; omega) _) (p := ⟨W2.heap.size, 2, none⟩) (fun k hk => by show k ≠ W2.heap.size; omega) _) (p := ⟨W2.heap.size, 3, none⟩) (fun k hk => by show k ≠ W2.heap.size; omega) _) (p := ⟨W2.heap.size, 4, none⟩) (fun k hk => by show k ≠ W2.heap.size; omega) _
theorem bcell {W w1 : World} (hb : Below W.heap.size W w1) : (∀ b o, b < W.heap.size → w1.cell? ⟨b, o, none⟩ = W.cell? ⟨b, o, none⟩) ∧ (∀ b o, b < W.heap.size → w1.frozen? ⟨b, o, none⟩ = W.frozen? ⟨b, o, none⟩) :=
  ⟨fun b o h => hb.cell (p := ⟨b, o, none⟩) h, fun b o h => hb.frozen (p := ⟨b, o, none⟩) h⟩
set_option maxRecDepth 100000 in
set_option maxHeartbeats 4000000 in
theorem reg11_any (u0 u1 u2 u3 u4 u5 u6 u7 u9 u10 u11 u12 u13 u14 u15 u16 u17 u18 u19 u20 u21 u22 u23 u24 u25 u26 u27 u28 u29 u30 u31 u32 u33 u34 u35 u36 u37 u38 u39 u40 u41 u42 u43 u44 u45 u46 u47 u48 u49 u50 u51 u52 u53 u54 u55 u56 u57 u58 u59 u60 u61 u62 u63 u64 u65 u66 u67 u68 : Value) (ds : List Deferred) (x : Nat) (c : Ch) (A4 : Option Addr) (c4 : Nat) (W2 : World) (hx : W2.heap[x]? = some (.cells (cells6 c A4 c4).toArray 53 (0, 0)))
    (hC : Kd.C (Kd.int .u8) W2 A4 c.f1.length c.f1) (hc4 : c.f1.length ≤ c4) (hcv : c.f1.length < 140737488355328) (Q : Exit → Act → World → Prop)
    (hQ : ∀ (v35 v36 v37 v38 v39 v40 : Value) (W3 : World) (B : Nat) (A5 : Option Addr) (c5 : Nat), Laid c W2 B A5 c5 W3 → Q .normal { tmps := #[u0, u1, u2, u3, u4, u5, u6, u7, .pointer (some ⟨x, 0, none⟩), u9, u10, .pointer (some ⟨B, 0, none⟩), u12, u13, u14, u15, u16, u17, u18, u19, u20, u21, u22, u23, u24, u25, u26, u27, u28, u29, u30, u31, u32, u33, u34, v35, v36, v37, v38, v39, v40, u41, u42, u43, u44, u45, u46, u47, u48, u49, u50, u51, u52, u53, u54, u55, u56, u57, u58, u59, u60, u61, u62, u63, u64, u65, u66, u67, u68], defers := ds } W3) :
    Code.wp Try.prog reg11 Q { tmps := #[u0, u1, u2, u3, u4, u5, u6, u7, .pointer (some ⟨x, 0, none⟩), u9, u10, u11, u12, u13, u14, u15, u16, u17, u18, u19, u20, u21, u22, u23, u24, u25, u26, u27, u28, u29, u30, u31, u32, u33, u34, u35, u36, u37, u38, u39, u40, u41, u42, u43, u44, u45, u46, u47, u48, u49, u50, u51, u52, u53, u54, u55, u56, u57, u58, u59, u60, u61, u62, u63, u64, u65, u66, u67, u68], defers := ds } W2 := by
  conv => arg 2; whnf
  have k0 : W2.cell? ⟨x, 0, none⟩ = some (.int .i64 c.f0.f0) := by simp [World.cell?, hx, cells6]
  have k1 : W2.cell? ⟨x, 1, none⟩ = some (.int .u8 c.f0.f1) := by simp [World.cell?, hx, cells6]
  have k2 : W2.cell? ⟨x, 2, none⟩ = some (.string c.f0.f2) := by simp [World.cell?, hx, cells6]
  have k3 : W2.cell? ⟨x, 3, none⟩ = some (.int .i64 c.f0.f3) := by simp [World.cell?, hx, cells6]
  have k4 : W2.cell? ⟨x, 4, none⟩ = some (.slice A4 c.f1.length c4) := by simp [World.cell?, hx, cells6]
  have hlt : x < W2.heap.size := (Array.getElem?_eq_some_iff.1 hx).1
  have HC : Hid (∀ W', Below W2.heap.size W2 W' → Calls Try.prog 37 #[.slice A4 c.f1.length c4] W' fun e w' => ∃ (A5 : Option Addr) (c5 : Nat), e = .returned (.slice A5 c.f1.length c5) ∧ Kd.R (Kd.int .u8) 5 w' W'.heap.size (fun _ => True) (.slice A5 c.f1.length c5) c.f1 ∧ Below W'.heap.size W' w' ∧ w'.cell? ⟨x, 0, none⟩ = some (.int .i64 c.f0.f0) ∧ w'.cell? ⟨x, 1, none⟩ = some (.int .u8 c.f0.f1) ∧ w'.cell? ⟨x, 2, none⟩ = some (.string c.f0.f2) ∧ w'.cell? ⟨x, 3, none⟩ = some (.int .i64 c.f0.f3) ∧ w'.cell? ⟨x, 4, none⟩ = some (.slice A4 c.f1.length c4)) := Lib.hid fun W' hb => by
    refine (clone_any A4 c4 c.f1 W' (Kd.C_below hC hb) hc4 hcv).mono ?_
    rintro e w' ⟨v, rfl, hR, hB⟩
    obtain ⟨A5, c5, rfl⟩ := Kd.R_slice hR
    have hb2 := hb.trans (hB.mono hb.size)
    exact ⟨A5, c5, rfl, hR, hB, cell_below hb2 k0, cell_below hb2 k1, cell_below hb2 k2, cell_below hb2 k3, cell_below hb2 k4⟩
  have HQ := Lib.hid hQ
  clear hx hC hQ
  have hne : x ≠ W2.heap.size := by omega
  have m0 := World.new_ne W2 _ k0
  have m1 := World.new_ne W2 _ k1
  have m2 := World.new_ne W2 _ k2
  have m3 := World.new_ne W2 _ k3
  have m4 := World.new_ne W2 _ k4
  refine wp_region_noPanic ?_
  go_region_held3 (fun w' => w'.cell? ⟨x, 0, none⟩ = some (.int .i64 c.f0.f0) ∧ w'.cell? ⟨x, 1, none⟩ = some (.int .u8 c.f0.f1) ∧ w'.cell? ⟨x, 2, none⟩ = some (.string c.f0.f2) ∧ w'.cell? ⟨x, 3, none⟩ = some (.int .i64 c.f0.f3) ∧ w'.cell? ⟨x, 4, none⟩ = some (.slice A4 c.f1.length c4)) (go_keep)
    (first | (go_at_call 37; (with_reducible refine (HC.out _ ?_).mono ?_); ((first | exact (((Below.refl _ _).alloc (Nat.le_refl _) _).drew) | exact (Below.refl _ _).drew | exact ((Below.refl _ _).alloc (Nat.le_refl _) _))); rintro e w' ⟨A5, c5, rfl, hr5, hb5, q0, q1, q2, q3, q4⟩; obtain ⟨hc, hf⟩ := bcell hb5; have hsz := hb5.size))
  all_goals refine NoPanic.normal ?_
  all_goals refine HQ.out _ _ _ _ _ _ _ _ A5 c5 ?_
  all_goals first
    | with_reducible exact laid_new hr5 hb5
    | with_reducible exact laid_old hr5 hb5
end Go.Proofs.Ytbhmncenbpdcjaa.P
end
section
/- slices.Delete of one element of a row of the call's own: its contract. -/
namespace Go.Proofs.Ytbhmncenbpdcjaa.P
open Go.RowKit Go.Proofs.YtbhmncenbpdcjaaW.PrintWords Go.Proofs.YtbhmncenbpdcjaaW.PrintLast Go.Proofs.YtbhmncenbpdcjaaW.PrintMore
set_option linter.unusedVariables false
set_option linter.unusedSimpArgs false

theorem del_take (L inner zs : List Value) (i r s cap : Nat) (h : L.take ((i + 1 + r) * s) = inner) (hn : i + 1 + r ≤ cap) (hL : L.length = cap * s) (hz : zs.length = s) :
    (splice (splice L (i * s) (inner.drop ((i + 1) * s))) ((i + r) * s) zs).take ((i + r) * s) = inner.take (i * s) ++ inner.drop ((i + 1) * s) := by
  have e1 : (i + 1 + r) * s = i * s + s + r * s := by rw [Nat.add_mul, Nat.add_mul, Nat.one_mul]
  have e2 : (i + r) * s = i * s + r * s := Nat.add_mul _ _ _
  have e3 : (i + 1) * s = i * s + s := by rw [Nat.add_mul, Nat.one_mul]
  have hc : (i + 1 + r) * s ≤ cap * s := Nat.mul_le_mul_right _ hn
  rw [e1] at h hc
  rw [e2, e3]
  have hil : inner.length = i * s + s + r * s := by rw [← h, List.length_take]; omega
  have hdl : (inner.drop (i * s + s)).length = r * s := by rw [List.length_drop]; omega
  have ht : L.take (i * s) = inner.take (i * s) := by rw [← h, List.take_take, Nat.min_eq_left (by omega)]
  have e4 : splice L (i * s) (inner.drop (i * s + s)) = inner.take (i * s) ++ (inner.drop (i * s + s) ++ L.drop (i * s + r * s)) := by
    unfold splice; rw [ht, hdl]
  have hA : (inner.take (i * s) ++ inner.drop (i * s + s)).length = i * s + r * s := by rw [List.length_append, hdl, List.length_take]; omega
  have e5 : (splice L (i * s) (inner.drop (i * s + s))).take (i * s + r * s) = inner.take (i * s) ++ inner.drop (i * s + s) := by
    rw [e4, ← List.append_assoc, ← hA, List.take_left]
  generalize splice L (i * s) (inner.drop (i * s + s)) = M at e5 ⊢
  show (M.take (i * s + r * s) ++ (zs ++ _)).take (i * s + r * s) = _
  rw [e5, ← hA, List.take_left]
def Z0 : Value := .agg #[.int .i64 0, .int .u8 0, .string ⟨#[]⟩, .int .i64 0, .slice none 0 0]
theorem zero0 (w : World) : (zeroValue 47).run Try.prog w = .ok Z0 w := by kernel_rfl
set_option maxHeartbeats 2000000 in
set_option maxRecDepth 100000 in
theorem delFact_any (v : Value) (xs : List S47) (i : Nat) (w : World) (base : Nat) (ok : Nat → Prop) (h : Kd.R k47 47 w base ok v xs) (hi : i < xs.length) :
    Calls Try.prog 38 #[v, .int .i64 i, .int .i64 ((i : Int) + 1)] w fun e w' => ∃ v', e = .returned v' ∧ Kd.R k47 47 w' base ok v' (xs.eraseIdx i) ∧ w.grownBy w' v.ownBlock ∧ v'.ownBlock = v.ownBlock := by
  rcases R_form h with ⟨_, rfl⟩ | ⟨g, cap, L, inner, rfl, hok, hbase, hgL, hnc, hcm, hLlen, htake, hlen, hreps⟩
  · simp at hi
  have hone := reps_cells_one (by decide) hreps
  obtain ⟨r, hn⟩ : ∃ r, xs.length = i + 1 + r := ⟨xs.length - (i + 1), by omega⟩
  rw [hn] at hlen hnc htake ⊢
  have hLlen : L.length = cap * 5 := hLlen
  have hlen : inner.length = (i + 1 + r) * 5 := hlen
  have htake : L.take ((i + 1 + r) * 5) = inner := htake
  have hcm' : cap ≤ 9223372036854775807 := by unfold maxLen at hcm; exact hcm
  have hel : (xs.eraseIdx i).length = i + r := by rw [List.length_eraseIdx, if_pos hi, hn]; omega
  have HE : Hid (∀ w', w.grownBy w' (some g) → (∃ L', w'.heap[g]? = some (.cells (List.toArray L') 47 (0, 0)) ∧ L'.length = cap * 5 ∧ L'.take ((i + r) * 5) = inner.take (i * 5) ++ inner.drop ((i + 1) * 5)) → Kd.R k47 47 w' base ok (.slice (some ⟨g, 0, none⟩) (i + r) cap) (xs.eraseIdx i)) := by
    rintro w' hg' ⟨L', h1, h2, h3⟩
    have hr : Reps (k47.M w base (fun k => ok k ∧ some k ≠ some g)) 5 (xs.eraseIdx i) (inner.take (i * 5) ++ inner.drop ((i + 1) * 5)) := by
      rw [eraseIdx_eq _ _ hi]
      exact Kd.reps_append (Kd.reps_take hreps (by omega)) (Kd.reps_drop hreps)
    have := R_of_blk (d := k47) (w := w) (w1 := w') hok hbase hg' h1 h2 hcm (by rw [hel]; omega) (by rw [hel]; exact h3) hr
    rw [hel] at this
    exact this
  have b2 : (i : Int) ≤ (i : Int) + 1 := by omega
  have b4 : (0 : Int) ≤ (i : Int) + 1 := by omega
  have b5 : ((i : Int) == (i : Int) + 1) = false := by rw [beq_eq_false_iff_ne]; omega
  have b6 : i ≤ cap := by omega
  have b7 : i + 1 ≤ i + 1 + r := by omega
  have b8 : (i : Int) + (r : Int) ≤ (i : Int) + 1 + (r : Int) := by omega
  have b9 : (i : Int) + 1 ≤ (i : Int) + 1 + (r : Int) := by omega
  have b10 : (i : Int) + 1 + (r : Int) ≤ (cap : Int) := by omega
  have b11 : (0 : Int) ≤ (i : Int) + (r : Int) := by omega
  have hroom : i + r ≤ cap := by omega
  have b12 : cap ≠ i := by omega
  have b14 : i + 1 + r - (i + r) = 1 := by omega
  have b13 : cap ≠ i + r := by omega
  obtain ⟨i0, hi0, hz0, hz1, hz2⟩ := info_parts info47
  obtain ⟨news, hnews⟩ : ∃ news, news = inner.drop ((i + 1) * 5) := ⟨_, rfl⟩
  have hnl : news.length = r * i0.size := by
    rw [hnews, List.length_drop, hlen, hz1]
    omega
  have hn1 : ∀ u ∈ news, u.oneCell' = true := fun u hu => hone u (by rw [hnews] at hu; exact List.mem_of_mem_drop hu)
  have hi0s : 0 < i0.size := by rw [hz1]; decide
  have hfit : 0 + i * i0.size + news.length ≤ L.length := by
    rw [hnl, hLlen, hz1]
    omega
  have hsrc : ∀ j u, news[j]? = some u → w.cell? ((⟨g, (i + 1) * 5, none⟩ : Addr).add j) = some u := by
    refine blk_cells hgL fun j u hj => ?_
    rw [hnews] at hj
    exact getElem_of_take htake hj
  obtain ⟨zs, hzs⟩ : ∃ zs, (Builtin.zeroCells Z0.cells 1).toList = zs := ⟨_, rfl⟩
  have hzl : zs.length = 5 := by rw [← hzs]; decide +kernel
  have hz1' : ∀ u ∈ zs, u.oneCell' = true := by rw [← hzs]; decide +kernel
  have hfit2 : (i + r) * 5 + zs.length ≤ (splice L (0 + i * i0.size) news).length := by
    rw [length_splice _ _ _ hfit, hLlen, hzl]
    have : (i + r + 1) * 5 ≤ cap * 5 := Nat.mul_le_mul_right _ (by omega)
    rw [Nat.add_mul] at this
    omega
  have HT : Hid ((splice (splice L (0 + i * i0.size) news) ((i + r) * 5) zs).length = cap * 5 ∧ (splice (splice L (0 + i * i0.size) news) ((i + r) * 5) zs).take ((i + r) * 5) = inner.take (i * 5) ++ inner.drop ((i + 1) * 5)) := by
    refine ⟨by rw [length_splice _ _ _ hfit2, length_splice _ _ _ hfit, hLlen], ?_⟩
    rw [hz1, Nat.zero_add, hnews]
    exact del_take L inner zs i r 5 cap htake hnc hLlen hzl
  clear hone hn hlen htake hLlen hnews hzl hel h hi hreps hok hbase hcm
  by_cases hcap : cap = i + 1
  · have hr0 : r = 0 := by omega
    subst hr0
    have hnil : news = [] := List.eq_nil_of_length_eq_zero (by omega)
    subst hcap
    subst hnil
    clear hsrc
    go_enter Try.func38, Try.ntmps38
    go_wp2
    go_region_law (refine step_append_sz rfl (.tmp 22) (.tmp 25) 38 rfl 47 i0 Try.underlying38 hi0 _ _ _ _ _ _ rfl rfl g 0 L 47 hgL [] hnl hi0s (fun h => absurd h (by simp)) hroom hfit hn1 ?_)
    have hg2 := setRow_blk w.drew g L (splice L (0 + i * i0.size) []) 47 hgL
    have hgr := setRow_grown w.drew g (splice L (0 + i * i0.size) []).toArray
    simp only [hz1, Nat.zero_add] at hg2 hgr hfit2 HT
    go_wp2
    rw [run_clear_sz (P := Try.prog) _ 38 47 0 Z0 Try.underlying38 zero0 1 _ (by omega) g (i * 5) _ 47 hg2 zs hzs hfit2 hz1']
    simp only [Result.andThen_ok]
    have hgq := (show w.grownBy _ (some g) from ⟨hgr.os, hgr.tape, hgr.output, hgr.size, hgr.block⟩).trans (setRow_grown _ g (splice (splice L (i * 5) []) (i * 5) zs).toArray)
    have hbq := setRow_blk _ g (splice L (i * 5) []) (splice (splice L (i * 5) []) (i * 5) zs) 47 hg2
    go_wp2
    go_ret
    exact ⟨_, rfl, HE.out _ hgq ⟨_, hbq, HT.out.1, HT.out.2⟩, hgq, rfl⟩
  · go_enter Try.func38, Try.ntmps38
    go_wp2
    go_region_law (refine step_append_sz rfl (.tmp 22) (.tmp 25) 38 rfl 47 i0 Try.underlying38 hi0 _ _ _ _ _ _ rfl rfl g 0 L 47 hgL news hnl hi0s (fun h => ⟨rfl, _, rfl, hsrc⟩) hroom hfit hn1 ?_)
    have hg2 := setRow_blk w.drew g L (splice L (0 + i * i0.size) news) 47 hgL
    have hgr := setRow_grown w.drew g (splice L (0 + i * i0.size) news).toArray
    simp only [hz1, Nat.zero_add] at hg2 hgr hfit2 HT
    go_wp2
    rw [run_clear_sz (P := Try.prog) _ 38 47 0 Z0 Try.underlying38 zero0 1 _ (by omega) g ((i + r) * 5) _ 47 hg2 zs hzs hfit2 hz1']
    simp only [Result.andThen_ok]
    have hgq := (show w.grownBy _ (some g) from ⟨hgr.os, hgr.tape, hgr.output, hgr.size, hgr.block⟩).trans (setRow_grown _ g (splice (splice L (i * 5) news) ((i + r) * 5) zs).toArray)
    have hbq := setRow_blk _ g (splice L (i * 5) news) (splice (splice L (i * 5) news) ((i + r) * 5) zs) 47 hg2
    go_wp2
    go_ret
    exact ⟨_, rfl, HE.out _ hgq ⟨_, hbq, HT.out.1, HT.out.2⟩, hgq, rfl⟩
end Go.Proofs.Ytbhmncenbpdcjaa.P
end
section
/- fact.Apply: a round of the loop of changes. -/
namespace Go.Proofs.Ytbhmncenbpdcjaa.P
open Go Go.Shelf Go.RowKit Go.Proofs.YtbhmncenbpdcjaaW.PrintWords Go.Proofs.YtbhmncenbpdcjaaW.PrintLast Go.Proofs.YtbhmncenbpdcjaaW.PrintMore
set_option linter.unusedVariables false
set_option linter.unusedSimpArgs false
attribute [local go_sem] Oper.semAt_some
attribute [local go_sem ↓] Go.wp_at_zero Go.wp_at_succ
def firstLoop : Code → Option Code
  | .loop c => some c
  | .seq a b => match firstLoop a with
    | some c => some c
    | none => firstLoop b
  | .block _ c => firstLoop c
  | .scope c => firstLoop c
  | .cond _ a b => match firstLoop a with
    | some c => some c
    | none => firstLoop b
  | _ => none
noncomputable def applyBody : Code := ((Try.f16.body.bind firstLoop).getD .skip)
set_option maxRecDepth 100000 in
set_option maxHeartbeats 4000000 in
theorem apply_round (u0 u1 u2 u3 u4 u6 u7 u8 u9 u10 u11 u12 u13 u14 u15 u16 u17 u18 u19 u20 u21 u25 u26 u27 u28 u29 u30 u31 u32 u33 u34 u35 u36 u37 u38 u39 u40 u41 u42 u43 u44 u45 u46 u47 u48 u49 u50 u51 u52 u53 u54 u55 u56 u57 u58 u59 u60 u61 u62 u63 u64 u65 u66 u67 u68 : Value) (ds : List Deferred) (b j n0 : Nat) (A1 : Option Addr) (c1 : Nat) (l1 : List Ch) (Au : Option Addr) (cu : Nat) (cur : List F) (W : World) (Q : Exit → Act → World → Prop)
    (hj : j < l1.length) (hr1 : Kd.C k53 W A1 l1.length l1) (hc1 : l1.length ≤ c1) (hs1 : ∀ x ∈ l1, x.f1.length < 140737488355328)
    (hu : Boxed W b 38 (.slice Au cur.length cu)) (hR : Kd.R k47 47 W n0 (fun _ => True) (.slice Au cur.length cu) cur) (hn0 : n0 ≤ W.heap.size) (hnb : n0 ≤ b) (hord : Ord cur) (hbig : (cur.length + 1) * 64 ≤ 140737488355328)
    (hQ : ∀ (v8 v9 v10 v11 v25 v26 v27 v28 v29 v30 v31 v32 v33 v34 v35 v36 v37 v38 v39 v40 v41 v42 v43 v44 v45 v46 v47 v48 v49 v50 v51 v52 v53 v54 v55 v56 v57 v58 v59 v60 v61 v62 v63 v64 v65 v66 v67 u' : Value) (W' : World), Boxed W' b 38 u' → Kd.R k47 47 W' n0 (fun _ => True) u' (stepB cur (rd_T53 l1 (j : Nat))) → Below n0 W W' → (∀ (D : Nat) (x : Option (List Deferred)), W.heap[D]? = some (.deferred x) → W'.heap[D]? = some (.deferred x)) →
      Q .normal { tmps := #[u0, u1, u2, u3, u4, .pointer (some ⟨b, 0, none⟩), u6, u7, v8, v9, v10, v11, u12, u13, u14, u15, u16, u17, u18, u19, u20, u21, .slice A1 l1.length c1, .int .i64 l1.length, .int .i64 ((j : Int) + 1), v25, v26, v27, v28, v29, v30, v31, v32, v33, v34, v35, v36, v37, v38, v39, v40, v41, v42, v43, v44, v45, v46, v47, v48, v49, v50, v51, v52, v53, v54, v55, v56, v57, v58, v59, v60, v61, v62, v63, v64, v65, v66, v67, u68], defers := ds } W') :
    Code.wp Try.prog applyBody Q { tmps := #[u0, u1, u2, u3, u4, .pointer (some ⟨b, 0, none⟩), u6, u7, u8, u9, u10, u11, u12, u13, u14, u15, u16, u17, u18, u19, u20, u21, .slice A1 l1.length c1, .int .i64 l1.length, .int .i64 j, u25, u26, u27, u28, u29, u30, u31, u32, u33, u34, u35, u36, u37, u38, u39, u40, u41, u42, u43, u44, u45, u46, u47, u48, u49, u50, u51, u52, u53, u54, u55, u56, u57, u58, u59, u60, u61, u62, u63, u64, u65, u66, u67, u68], defers := ds } W := by
  conv => arg 2; whnf
  obtain ⟨ad, A4, c4, hA, h0, h1, h2, h3, h4, h5, h6, h7⟩ := at_T53 hr1 (j : Nat) (by omega) (by omega)
  subst hA
  simp only [Int.toNat_natCast] at h0 h1 h2 h3 h4 h5
  have hcv : (rd_T53 l1 (j : Nat)).f1.length < 140737488355328 := hs1 _ (by unfold rd_T53; simp [List.getD, hj])
  generalize rd_T53 l1 (j : Nat) = c at *
  have cc : (j : Int) < (l1.length : Int) := by omega
  have hjm : l1.length ≤ 9223372036854775807 := hr1.2.1
  obtain ⟨Au', cu', hus, huc, huC⟩ := Kd.R_reads hR
  injection hus with e1 _ e2
  subst e1 e2
  have hb0 := hu.cell
  have hf0 := hu.frozen
  have hbl := hu.lt
  have hbq : ∀ o, (W.alloc o).cell? ⟨b, 0, none⟩ = some (.slice Au cur.length cu) := fun o => (hu.alloc o).cell
  have HQ := Lib.hid hQ
  have HS := Lib.hid (And.intro hr1 (And.intro hs1 (And.intro hord hbig)))
  clear hQ hr1 hs1 hord hbig
  have hWB : Below W.heap.size W (W.alloc (Obj.cells (cells6 c A4 c4).toArray 53)) := (Below.refl _ _).alloc (Nat.le_refl _) _
  have hx := World.alloc_heap_new W (Obj.cells (cells6 c A4 c4).toArray 53)
  go_wp2_with fail
  obtain ⟨hr1, hs1, hord, hbig⟩ := HS.out
  clear hbq
  rw [show #[Value.int IntKind.i64 c.f0.f0, Value.int IntKind.u8 c.f0.f1, Value.string c.f0.f2, Value.int IntKind.i64 c.f0.f3, Value.slice A4 c.f1.length c4, Value.bool c.f2] = (cells6 c A4 c4).toArray from rfl]
  generalize W.alloc (Obj.cells (cells6 c A4 c4).toArray 53) = WB at *
  refine (place_any Au cu cur c.f0 (mono_of cur hord c.f0) (by omega) WB (Kd.C_below huC hWB)).mono ?_
  rintro e W2 ⟨rfl, hb2⟩
  have hxl : W.heap.size < WB.heap.size := (Array.getElem?_eq_some_iff.1 hx).1
  have hx2 : W2.heap[W.heap.size]? = _ := (hb2.block _ hxl).trans hx
  have hW2 := hWB.trans (hb2.mono hWB.size)
  have hu2 : Boxed W2 b 38 (.slice Au cur.length cu) := (hW2.block b hbl).trans hu
  have hR2 := Kd.R_below hR hW2
  have hC2 := Kd.C_below h7 hW2
  have HX := Lib.hid (And.intro hu2 (And.intro hR2 (And.intro hW2 (And.intro hord (And.intro hbig (And.intro hr1 hs1))))))
  clear hr1 hs1 hord hbig h0 h1 h2 h3 h4 h5 h7 hx hxl hb2 hWB huC hb0 hf0 hu hR hu2 hR2 hW2
  have HX2 := Lib.hid hx2
  clear hx2
  go_wp2_with fail
  refine reg11_any _ _ _ _ _ _ _ _ _ _ _ _ _ _ _ _ _ _ _ _ _ _ _ _ _ _ _ _ _ _ _ _ _ _ _ _ _ _ _ _ _ _ _ _ _ _ _ _ _ _ _ _ _ _ _ _ _ _ _ _ _ _ _ _ _ _ _ _ _ _ c A4 c4 W2 HX2.out hC2 h6 hcv _ ?_
  intro v35 v36 v37 v38 v39 v40 W3 B A5 c5 hL
  dsimp only
  obtain ⟨hB, hBc, hR5, hb3⟩ := hL
  obtain ⟨hu2, hR2, hW2, hord, hbig, hr1, hs1⟩ := HX.out
  have hx2 := HX2.out
  have hW2s := hW2.size
  have hW3 : Below W.heap.size W W3 := hW2.trans (hb3.mono hW2s)
  have hu3 : Boxed W3 b 38 (.slice Au cur.length cu) := (hb3.block b (by omega)).trans hu2
  have hR3 := Kd.R_below hR2 hb3
  have hul := Kd.R_lt hR2
  have hub := Kd.R_base hR2
  have hune := Kd.R_ne hR2 hu2 (show (47 : Nat) ≠ 38 by decide)
  have hx5 : k47.M W3 n0 (fun k => W2.heap.size ≤ k) ⟨c.f0, c.f1⟩ [.int .i64 c.f0.f0, .int .u8 c.f0.f1, .string c.f0.f2, .int .i64 c.f0.f3, .slice A5 c.f1.length c5] := k47_mkM W3 n0 _ ⟨c.f0, c.f1⟩ (Kd.R_lower (Kd.R_mono (Kd.R_bound hR5) fun k hk => hk.2.1) (by omega))
  have k0 : W3.cell? ⟨W.heap.size, 5, none⟩ = some (.bool c.f2) := cell_below hb3 (by simp [World.cell?, hx2, cells6])
  have hb0 := hu3.cell
  have hf0 := hu3.frozen
  have hbl3 := hu3.lt
  have b0 : W3.cell? ⟨B, 0, none⟩ = some (.int .i64 c.f0.f0) := by simp [World.cell?, hBc]
  have b1 : W3.cell? ⟨B, 1, none⟩ = some (.int .u8 c.f0.f1) := by simp [World.cell?, hBc]
  have b2 : W3.cell? ⟨B, 2, none⟩ = some (.string c.f0.f2) := by simp [World.cell?, hBc]
  have b3 : W3.cell? ⟨B, 3, none⟩ = some (.int .i64 c.f0.f3) := by simp [World.cell?, hBc]
  have b4 : W3.cell? ⟨B, 4, none⟩ = some (.slice A5 c.f1.length c5) := by simp [World.cell?, hBc]
  have HF := Lib.hid (And.intro hu3 (And.intro hR3 (And.intro hW3 (And.intro hBc (And.intro hR5 (And.intro hb3 (And.intro hord (And.intro hbig (And.intro hul (And.intro hub (And.intro hune hx5)))))))))))
  have hn3 := hW3.size
  clear hBc hR5 hb3 hx2 hu2 hR2 hW2 hord hbig hr1 hs1 hW3 hu3 hR3 hul hub hune hx5
  cases his : isB cur c.f0 <;> cases hgo : c.f2
  all_goals rw [hgo] at k0
  · have HI : Hid (stepB cur c = cur.insertIdx (cntB cur c.f0) ⟨c.f0, c.f1⟩) := by unfold stepB; rw [his, hgo]; exact Lib.hid rfl
    clear his hgo
    go_wp2_with fail
    obtain ⟨hu3, hR3, hW3, hBc, hR5, hb3, hord, hbig, hul, hub, hune, hx5⟩ := HF.out
    have HA := World.alloc_heap_new W3 (Obj.cells ([.int .i64 c.f0.f0, .int .u8 c.f0.f1, .string c.f0.f2, .int .i64 c.f0.f3, .slice A5 c.f1.length c5] : List Value).toArray 47)
    refine (insFact_any (.slice Au cur.length cu) cur ⟨c.f0, c.f1⟩ (cntB cur c.f0) (cntB_le _ _) [.int .i64 c.f0.f0, .int .u8 c.f0.f1, .string c.f0.f2, .int .i64 c.f0.f3, .slice A5 c.f1.length c5] W3.heap.size _ n0 (by simp; omega) (fun _ => True) (fun k => W2.heap.size ≤ k) (Kd.R_alloc hR3 _) (fun _ _ => trivial) HA (fun e => by have := hul _ e.symm; have := hb3.size; omega) (Kd.M_alloc hx5 _) (fun k hk => ⟨trivial, fun e => by have := hul _ e.symm; omega⟩) hbig).mono ?_
    rintro e W4 ⟨v', rfl, hR4, hg4, hown⟩
    obtain ⟨A6, c6, rfl⟩ := Kd.R_slice hR4
    have hW4 : Below n0 W W4 := ((hW3.mono hn0).alloc (by omega) _).grown hg4 (by simp; omega) hub
    have hu4 : Boxed W4 b 38 (.slice Au cur.length cu) := (hg4.block b (by simp; omega) hune).trans ((al_old W3 _ hbl3).trans hu3)
    have hD4 : ∀ (D : Nat) (x : Option (List Deferred)), W.heap[D]? = some (.deferred x) → (W4.setCell ⟨b, 0, none⟩ (.slice A6 (cur.insertIdx (cntB cur c.f0) ⟨c.f0, c.f1⟩).length c6)).heap[D]? = some (.deferred x) := fun D x hD => by
      have h3 : W3.heap[D]? = some (.deferred x) := (hW3.block D (Array.getElem?_eq_some_iff.1 hD).1).trans hD
      have hDl := (Array.getElem?_eq_some_iff.1 h3).1
      have hDb : D ≠ b := fun e => by rw [e] at h3; have := hu3.symm.trans h3; cases this
      have hDo : some D ≠ (Value.slice Au cur.length cu).ownBlock := fun e => by
        obtain ⟨cells, hc⟩ := Kd.R_typed hR3 D e.symm
        rw [h3] at hc; cases hc
      exact (Below.heap_setCell _ _ _ D hDb).trans ((hg4.block D (by simp; omega) hDo).trans ((al_old W3 _ hDl).trans h3))
    have HZ := Lib.hid (And.intro hR4 (And.intro hW4 (And.intro hu4 hD4)))
    have hb4 := hu4.cell
    have hf4 := hu4.frozen
    clear hu3 hR3 hW3 hBc hR5 hb3 hord hbig hul hub hune hx5 hR4 hg4 hown hW4 hu4 hD4 HA
    go_wp2_with fail
    obtain ⟨hR4, hW4, hu4, hD4⟩ := HZ.out
    refine HQ.out _ _ _ _ _ _ _ _ _ _ _ _ _ _ _ _ _ _ _ _ _ _ _ _ _ _ _ _ _ _ _ _ _ _ _ _ _ _ _ _ _ _ _ _ _ _ _ _ _ (blk_put hu4 0 _ rfl) ?_ ?_ ?_
    · rw [HI.out]
      exact Kd.R_set hR4 hu4 (by decide) 0 _
    · exact hW4.setCell (p := ⟨b, 0, none⟩) hnb _
    · exact fun D x hD => hD4 D x hD
  · have HI : Hid (stepB cur c = cur) := by unfold stepB; rw [his, hgo]; exact Lib.hid rfl
    clear his hgo
    go_wp2_with fail
    obtain ⟨hu3, hR3, hW3, hBc, hR5, hb3, hord, hbig, hul, hub, hune, hx5⟩ := HF.out
    refine HQ.out _ _ _ _ _ _ _ _ _ _ _ _ _ _ _ _ _ _ _ _ _ _ _ _ _ _ _ _ _ _ _ _ _ _ _ _ _ _ _ _ _ _ _ _ _ _ _ _ W3 hu3 ?_ (hW3.mono hn0) fun D x hD => (hW3.block D (Array.getElem?_eq_some_iff.1 hD).1).trans hD
    rw [HI.out]
    exact hR3
  · obtain ⟨hi, hik⟩ := isB_at his
    have HI : Hid (stepB cur c = cur.set (cntB cur c.f0) ⟨c.f0, c.f1⟩) := by unfold stepB; rw [his, hgo]; exact Lib.hid rfl
    clear his hgo hik
    generalize cntB cur c.f0 = i at *
    obtain ⟨hu3, hR3, hW3, hBc, hR5, hb3, hord, hbig, hul, hub, hune, hx5⟩ := HF.out
    rcases R_form hR3 with ⟨_, hnil⟩ | ⟨g, cap, L, inner, hv, hok, hbg, hgL, hnc, hcm, hL, htake, hlen, hreps⟩
    · rw [hnil] at hi; simp at hi
    injection hv with e1 _ e2
    subst e1 e2
    have hL : L.length = cu * 5 := hL
    have hi5 : i * 5 + 5 ≤ L.length := by omega
    have ci0 : (0 : Int) ≤ (i : Int) := by omega
    have ci1 : (i : Int) < (cur.length : Int) := by omega
    have ci2 : (i : Int) < (cu : Int) := by omega
    have g0 : W3.cell? ⟨g, i * 5, none⟩ = some (L[i * 5]'(by omega)) := by simp [World.cell?, hgL, show i * 5 < L.length by omega]
    have g1 : W3.cell? ⟨g, i * 5 + 1, none⟩ = some (L[i * 5 + 1]'(by omega)) := by simp [World.cell?, hgL, show i * 5 + 1 < L.length by omega]
    have g2 : W3.cell? ⟨g, i * 5 + 2, none⟩ = some (L[i * 5 + 2]'(by omega)) := by simp [World.cell?, hgL, show i * 5 + 2 < L.length by omega]
    have g3 : W3.cell? ⟨g, i * 5 + 3, none⟩ = some (L[i * 5 + 3]'(by omega)) := by simp [World.cell?, hgL, show i * 5 + 3 < L.length by omega]
    have g4 : W3.cell? ⟨g, i * 5 + 4, none⟩ = some (L[i * 5 + 4]'(by omega)) := by simp [World.cell?, hgL, show i * 5 + 4 < L.length by omega]
    have gf : ∀ o, W3.frozen? ⟨g, o, none⟩ = false := fun o => by simp [World.frozen?, hgL]
    generalize L[i * 5] = x0 at *
    generalize L[i * 5 + 1] = x1 at *
    generalize L[i * 5 + 2] = x2 at *
    generalize L[i * 5 + 3] = x3 at *
    generalize L[i * 5 + 4] = x4 at *
    have HG := Lib.hid (And.intro hgL (And.intro hnc (And.intro hcm (And.intro hL (And.intro htake (And.intro hlen (And.intro hreps (And.intro hok hbg))))))))
    clear hu3 hR3 hW3 hBc hR5 hb3 hord hbig hul hub hune hx5 hgL hnc hcm hL htake hlen hreps hok hbg hi5
    go_wp2_with fail
    obtain ⟨hgL, hnc, hcm, hL, htake, hlen, hreps, hok, hbg⟩ := HG.out
    obtain ⟨hu3, hR3, hW3, hBc, hR5, hb3, hord, hbig, hul, hub, hune, hx5⟩ := HF.out
    obtain ⟨hgS, hgr⟩ := set_five hgL (i * 5) (.int .i64 c.f0.f0) (.int .u8 c.f0.f1) (.string c.f0.f2) (.int .i64 c.f0.f3) (.slice A5 c.f1.length c5) (by omega)
    have hgne : ∀ k, W2.heap.size ≤ k → True ∧ some k ≠ some g := fun k hk => ⟨trivial, fun e => by have := hul g rfl; injection e with e; omega⟩
    have hR4 := R_setAt (d := k47) (e := 47) hok hbg hnc hcm hL htake hlen hreps hi (k47.M_mono hgne hx5) rfl hgr hgS
    have hu4 := (hgr.block b hbl3 hune).trans hu3
    refine HQ.out _ _ _ _ _ _ _ _ _ _ _ _ _ _ _ _ _ _ _ _ _ _ _ _ _ _ _ _ _ _ _ _ _ _ _ _ _ _ _ _ _ _ _ _ _ _ _ _ _ hu4 ?_ ?_ ?_
    · rw [HI.out]; exact hR4
    · exact (hW3.mono hn0).grown hgr (by omega) hub
    · intro D x hD
      have h3 : W3.heap[D]? = some (.deferred x) := (hW3.block D (Array.getElem?_eq_some_iff.1 hD).1).trans hD
      have hDo : some D ≠ some g := fun e => by
        injection e with e
        rw [e, hgL] at h3; cases h3
      exact (hgr.block D (Array.getElem?_eq_some_iff.1 h3).1 hDo).trans h3
  · obtain ⟨hi, hik⟩ := isB_at his
    have HI : Hid (stepB cur c = cur.eraseIdx (cntB cur c.f0)) := by unfold stepB; rw [his, hgo]; exact Lib.hid rfl
    clear his hgo hik
    have ci : (cntB cur c.f0 : Int) ≤ 9223372036854775806 := by have := HF.out.2.2.2.2.2.2.2.1; omega
    go_wp2_with fail
    obtain ⟨hu3, hR3, hW3, hBc, hR5, hb3, hord, hbig, hul, hub, hune, hx5⟩ := HF.out
    refine (delFact_any (.slice Au cur.length cu) cur (cntB cur c.f0) W3 n0 (fun _ => True) hR3 hi).mono ?_
    rintro e W4 ⟨v', rfl, hR4, hg4, hown⟩
    obtain ⟨A6, c6, rfl⟩ := Kd.R_slice hR4
    have hW4 : Below n0 W W4 := (hW3.mono hn0).grown hg4 (by omega) hub
    have hu4 : Boxed W4 b 38 (.slice Au cur.length cu) := (hg4.block b hbl3 hune).trans hu3
    have hD4 : ∀ (D : Nat) (x : Option (List Deferred)), W.heap[D]? = some (.deferred x) → (W4.setCell ⟨b, 0, none⟩ (.slice A6 (cur.eraseIdx (cntB cur c.f0)).length c6)).heap[D]? = some (.deferred x) := fun D x hD => by
      have h3 : W3.heap[D]? = some (.deferred x) := (hW3.block D (Array.getElem?_eq_some_iff.1 hD).1).trans hD
      have hDl := (Array.getElem?_eq_some_iff.1 h3).1
      have hDb : D ≠ b := fun e => by rw [e] at h3; have := hu3.symm.trans h3; cases this
      have hDo : some D ≠ (Value.slice Au cur.length cu).ownBlock := fun e => by
        obtain ⟨cells, hc⟩ := Kd.R_typed hR3 D e.symm
        rw [h3] at hc; cases hc
      exact (Below.heap_setCell _ _ _ D hDb).trans ((hg4.block D hDl hDo).trans h3)
    have HZ := Lib.hid (And.intro hR4 (And.intro hW4 (And.intro hu4 hD4)))
    have hb4 := hu4.cell
    have hf4 := hu4.frozen
    clear hu3 hR3 hW3 hBc hR5 hb3 hord hbig hul hub hune hx5 hR4 hg4 hown hW4 hu4 hD4
    go_wp2_with fail
    obtain ⟨hR4, hW4, hu4, hD4⟩ := HZ.out
    refine HQ.out _ _ _ _ _ _ _ _ _ _ _ _ _ _ _ _ _ _ _ _ _ _ _ _ _ _ _ _ _ _ _ _ _ _ _ _ _ _ _ _ _ _ _ _ _ _ _ _ _ (blk_put hu4 0 _ rfl) ?_ ?_ ?_
    · rw [HI.out]
      exact Kd.R_set hR4 hu4 (by decide) 0 _
    · exact hW4.setCell (p := ⟨b, 0, none⟩) hnb _
    · exact fun D x hD => hD4 D x hD
end Go.Proofs.Ytbhmncenbpdcjaa.P
end
section
/- fact.Apply: the loop of changes. -/
namespace Go.Proofs.Ytbhmncenbpdcjaa.P
open Go Go.Shelf Go.RowKit Go.Proofs.YtbhmncenbpdcjaaW.PrintWords Go.Proofs.YtbhmncenbpdcjaaW.PrintLast Go.Proofs.YtbhmncenbpdcjaaW.PrintMore
set_option linter.unusedVariables false
set_option linter.unusedSimpArgs false
set_option maxRecDepth 100000 in
set_option maxHeartbeats 4000000 in
theorem apply_exit (u0 u1 u2 u3 u4 u5 u6 u7 u8 u9 u10 u11 u12 u13 u14 u15 u16 u17 u18 u19 u20 u21 u22 u25 u26 u27 u28 u29 u30 u31 u32 u33 u34 u35 u36 u37 u38 u39 u40 u41 u42 u43 u44 u45 u46 u47 u48 u49 u50 u51 u52 u53 u54 u55 u56 u57 u58 u59 u60 u61 u62 u63 u64 u65 u66 u67 u68 : Value) (ds : List Deferred) (l1 : List Ch) (W : World) (Q : Exit → Act → World → Prop)
    (hQ : ∀ v25, Q (.exit 2) { tmps := #[u0, u1, u2, u3, u4, u5, u6, u7, u8, u9, u10, u11, u12, u13, u14, u15, u16, u17, u18, u19, u20, u21, u22, .int .i64 l1.length, .int .i64 l1.length, v25, u26, u27, u28, u29, u30, u31, u32, u33, u34, u35, u36, u37, u38, u39, u40, u41, u42, u43, u44, u45, u46, u47, u48, u49, u50, u51, u52, u53, u54, u55, u56, u57, u58, u59, u60, u61, u62, u63, u64, u65, u66, u67, u68], defers := ds } W) :
    Code.wp Try.prog applyBody Q { tmps := #[u0, u1, u2, u3, u4, u5, u6, u7, u8, u9, u10, u11, u12, u13, u14, u15, u16, u17, u18, u19, u20, u21, u22, .int .i64 l1.length, .int .i64 l1.length, u25, u26, u27, u28, u29, u30, u31, u32, u33, u34, u35, u36, u37, u38, u39, u40, u41, u42, u43, u44, u45, u46, u47, u48, u49, u50, u51, u52, u53, u54, u55, u56, u57, u58, u59, u60, u61, u62, u63, u64, u65, u66, u67, u68], defers := ds } W := by
  conv => arg 2; whnf
  have HQ := Lib.hid hQ
  clear hQ
  go_wp2_with fail
  exact HQ.out _
/-- Between two rounds. -/
def AI (u0 u1 u2 u3 u4 u6 u7 u12 u13 u14 u15 u16 u17 u18 u19 u20 u21 u68 : Value) (ds : List Deferred) (b n0 D : Nat) (A1 : Option Addr) (c1 : Nat) (l0 : List F) (l1 : List Ch) (w0 : World) (a : Act) (W : World) : Prop :=
  ∃ (j : Nat) (u : Value) (v8 v9 v10 v11 v25 v26 v27 v28 v29 v30 v31 v32 v33 v34 v35 v36 v37 v38 v39 v40 v41 v42 v43 v44 v45 v46 v47 v48 v49 v50 v51 v52 v53 v54 v55 v56 v57 v58 v59 v60 v61 v62 v63 v64 v65 v66 v67 : Value), a = { tmps := #[u0, u1, u2, u3, u4, .pointer (some ⟨b, 0, none⟩), u6, u7, v8, v9, v10, v11, u12, u13, u14, u15, u16, u17, u18, u19, u20, u21, .slice A1 l1.length c1, .int .i64 l1.length, .int .i64 j, v25, v26, v27, v28, v29, v30, v31, v32, v33, v34, v35, v36, v37, v38, v39, v40, v41, v42, v43, v44, v45, v46, v47, v48, v49, v50, v51, v52, v53, v54, v55, v56, v57, v58, v59, v60, v61, v62, v63, v64, v65, v66, v67, u68], defers := ds } ∧ j ≤ l1.length ∧
    Boxed W b 38 u ∧ Kd.R k47 47 W n0 (fun _ => True) u (applyB l0 (l1.take j)) ∧ Below n0 w0 W ∧ W.heap[D]? = some (.deferred (some []))
set_option maxRecDepth 100000 in
set_option maxHeartbeats 4000000 in
theorem apply_loop (u0 u1 u2 u3 u4 u6 u7 u8 u9 u10 u11 u12 u13 u14 u15 u16 u17 u18 u19 u20 u21 u25 u26 u27 u28 u29 u30 u31 u32 u33 u34 u35 u36 u37 u38 u39 u40 u41 u42 u43 u44 u45 u46 u47 u48 u49 u50 u51 u52 u53 u54 u55 u56 u57 u58 u59 u60 u61 u62 u63 u64 u65 u66 u67 u68 : Value) (ds : List Deferred) (b n0 D : Nat) (A1 : Option Addr) (c1 : Nat) (l0 : List F) (l1 : List Ch) (w0 W : World) (Q : Exit → Act → World → Prop) (u : Value)
    (hr1 : ∀ W, Below n0 w0 W → Kd.C k53 W A1 l1.length l1) (hc1 : l1.length ≤ c1) (hs1 : ∀ x ∈ l1, x.f1.length < 140737488355328)
    (hn0 : n0 ≤ w0.heap.size) (hnb : n0 ≤ b) (hord : Ord l0) (hbig : (l0.length + l1.length) * 64 ≤ 140737488355328)
    (hu : Boxed W b 38 u) (hR : Kd.R k47 47 W n0 (fun _ => True) u l0) (hW : Below n0 w0 W) (hD : W.heap[D]? = some (.deferred (some [])))
    (hQ : ∀ (v8 v9 v10 v11 v25 v26 v27 v28 v29 v30 v31 v32 v33 v34 v35 v36 v37 v38 v39 v40 v41 v42 v43 v44 v45 v46 v47 v48 v49 v50 v51 v52 v53 v54 v55 v56 v57 v58 v59 v60 v61 v62 v63 v64 v65 v66 v67 u' : Value) (W' : World), Boxed W' b 38 u' → Kd.R k47 47 W' n0 (fun _ => True) u' (applyB l0 l1) → Below n0 w0 W' → W'.heap[D]? = some (.deferred (some [])) →
      Q (.exit 2) { tmps := #[u0, u1, u2, u3, u4, .pointer (some ⟨b, 0, none⟩), u6, u7, v8, v9, v10, v11, u12, u13, u14, u15, u16, u17, u18, u19, u20, u21, .slice A1 l1.length c1, .int .i64 l1.length, .int .i64 l1.length, v25, v26, v27, v28, v29, v30, v31, v32, v33, v34, v35, v36, v37, v38, v39, v40, v41, v42, v43, v44, v45, v46, v47, v48, v49, v50, v51, v52, v53, v54, v55, v56, v57, v58, v59, v60, v61, v62, v63, v64, v65, v66, v67, u68], defers := ds } W') :
    Code.wp Try.prog (.loop applyBody) Q { tmps := #[u0, u1, u2, u3, u4, .pointer (some ⟨b, 0, none⟩), u6, u7, u8, u9, u10, u11, u12, u13, u14, u15, u16, u17, u18, u19, u20, u21, .slice A1 l1.length c1, .int .i64 l1.length, .int .i64 0, u25, u26, u27, u28, u29, u30, u31, u32, u33, u34, u35, u36, u37, u38, u39, u40, u41, u42, u43, u44, u45, u46, u47, u48, u49, u50, u51, u52, u53, u54, u55, u56, u57, u58, u59, u60, u61, u62, u63, u64, u65, u66, u67, u68], defers := ds } W := by
  refine wp_loop (AI u0 u1 u2 u3 u4 u6 u7 u12 u13 u14 u15 u16 u17 u18 u19 u20 u21 u68 ds b n0 D A1 c1 l0 l1 w0) (fun a _ => l1.length - (intOf (a.tmps.getD 24 undef)).toNat) ?_ ?_
  · exact ⟨0, u, u8, u9, u10, u11, u25, u26, u27, u28, u29, u30, u31, u32, u33, u34, u35, u36, u37, u38, u39, u40, u41, u42, u43, u44, u45, u46, u47, u48, u49, u50, u51, u52, u53, u54, u55, u56, u57, u58, u59, u60, u61, u62, u63, u64, u65, u66, u67, rfl, Nat.zero_le _, hu, hR, hW, hD⟩
  · rintro a wr ⟨j, ur, v8, v9, v10, v11, v25, v26, v27, v28, v29, v30, v31, v32, v33, v34, v35, v36, v37, v38, v39, v40, v41, v42, v43, v44, v45, v46, v47, v48, v49, v50, v51, v52, v53, v54, v55, v56, v57, v58, v59, v60, v61, v62, v63, v64, v65, v66, v67, rfl, hj, hur, hRr, hWr, hDr⟩
    rcases Nat.lt_or_ge j l1.length with hlt | hge
    · obtain ⟨Au, cu, rfl, _⟩ := Kd.R_reads hRr
      have hcl : (applyB l0 (l1.take j)).length ≤ l0.length + j := by have := apply_length (l1.take j) l0; rw [List.length_take] at this; omega
      refine apply_round u0 u1 u2 u3 u4 u6 u7 v8 v9 v10 v11 u12 u13 u14 u15 u16 u17 u18 u19 u20 u21 v25 v26 v27 v28 v29 v30 v31 v32 v33 v34 v35 v36 v37 v38 v39 v40 v41 v42 v43 v44 v45 v46 v47 v48 v49 v50 v51 v52 v53 v54 v55 v56 v57 v58 v59 v60 v61 v62 v63 v64 v65 v66 v67 u68 ds b j n0 A1 c1 l1 Au cu (applyB l0 (l1.take j)) wr _ hlt (hr1 wr hWr) hc1 hs1 hur hRr (by have := hWr.size; omega) hnb (ord_apply _ _ hord) (by omega) ?_
      intro x8 x9 x10 x11 x25 x26 x27 x28 x29 x30 x31 x32 x33 x34 x35 x36 x37 x38 x39 x40 x41 x42 x43 x44 x45 x46 x47 x48 x49 x50 x51 x52 x53 x54 x55 x56 x57 x58 x59 x60 x61 x62 x63 x64 x65 x66 x67 u' W' h1 h2 h3 h4
      refine ⟨⟨j + 1, u', x8, x9, x10, x11, x25, x26, x27, x28, x29, x30, x31, x32, x33, x34, x35, x36, x37, x38, x39, x40, x41, x42, x43, x44, x45, x46, x47, x48, x49, x50, x51, x52, x53, x54, x55, x56, x57, x58, x59, x60, x61, x62, x63, x64, x65, x66, x67, by rw [show ((j : Int) + 1) = ((j + 1 : Nat) : Int) by omega], hlt, h1, ?_, hWr.trans h3, h4 _ _ hDr⟩, ?_⟩
      · have hnext : applyB l0 (l1.take (j + 1)) = stepB (applyB l0 (l1.take j)) (rd_T53 l1 (j : Nat)) := by
          rw [List.take_add_one, List.getElem?_eq_getElem hlt]
          simp only [Option.toList]
          rw [apply_snoc]
          congr 1
          unfold rd_T53
          simp [List.getD, hlt]
        rw [hnext]
        exact h2
      · show l1.length - (intOf (Value.int .i64 ((j : Int) + 1))).toNat < l1.length - (intOf (Value.int .i64 (j : Int))).toNat
        simp [intOf]
        omega
    · obtain rfl : j = l1.length := by omega
      rw [List.take_length] at hRr
      refine apply_exit u0 u1 u2 u3 u4 _ u6 u7 v8 v9 v10 v11 u12 u13 u14 u15 u16 u17 u18 u19 u20 u21 _ v25 v26 v27 v28 v29 v30 v31 v32 v33 v34 v35 v36 v37 v38 v39 v40 v41 v42 v43 v44 v45 v46 v47 v48 v49 v50 v51 v52 v53 v54 v55 v56 v57 v58 v59 v60 v61 v62 v63 v64 v65 v66 v67 u68 ds l1 wr _ ?_
      intro x25
      exact hQ v8 v9 v10 v11 x25 v26 v27 v28 v29 v30 v31 v32 v33 v34 v35 v36 v37 v38 v39 v40 v41 v42 v43 v44 v45 v46 v47 v48 v49 v50 v51 v52 v53 v54 v55 v56 v57 v58 v59 v60 v61 v62 v63 v64 v65 v66 v67 ur wr hur hRr hWr hDr
end Go.Proofs.Ytbhmncenbpdcjaa.P
end
section
/- fact.Apply: its contract. -/
namespace Go.Proofs.Ytbhmncenbpdcjaa.P
open Go Go.Shelf Go.RowKit Go.Proofs.YtbhmncenbpdcjaaW.PrintWords Go.Proofs.YtbhmncenbpdcjaaW.PrintLast Go.Proofs.YtbhmncenbpdcjaaW.PrintMore
set_option linter.unusedVariables false
set_option linter.unusedSimpArgs false
attribute [local go_sem] Oper.semAt_some
theorem isOrdered_any (A : Option Addr) (c : Nat) (l : List F) (w : World) (hr : Kd.C k47 w A l.length l) (hc : l.length ≤ c) :
    Calls Try.prog 34 #[.slice A l.length c] w fun e w' => e = .returned (.bool (ordB l)) ∧ Below w.heap.size w w' :=
  fact_isOrdered.calls (l.length + 1) A c l _ w hr hc (isOrdered_f l hr.2.1 _ (Nat.lt_succ_self _))
theorem own_any (A : Option Addr) (c : Nat) (l : List F) (w : World) :
    Calls Try.prog 35 #[.slice A l.length c] w fun e w' => e = .returned (.func (.func 53) #[] #[.pointer (some ⟨w.heap.size, 0, none⟩)]) ∧ w' = w.alloc (.cells #[.slice A l.length c] 38) := by
  go_enter Try.func35, Try.ntmps35
  go_wp2
  go_ret
  exact ⟨rfl, rfl⟩
def cells5 (p : Own) : List Value := [.int .i64 p.1.f0.f0, .int .u8 p.1.f0.f1, .string p.1.f0.f2, .int .i64 p.1.f0.f3, p.2]
def rowOf (ps : List Own) : List Value := ps.flatMap cells5
theorem rowOf_snoc (ps : List Own) (p : Own) : rowOf (ps ++ [p]) = rowOf ps ++ cells5 p := by simp [rowOf]
/-- A block of bytes is not a row of facts. -/
theorem own_ne {W : World} {n₀ n size : Nat} {u : Value} {xs : List Value} {k : Nat} {cells : Array Value} (h : W.ownsRow n₀ 47 size u n xs) (hk : W.heap[k]? = some (Obj.cells cells 5 (0, 0))) : some k ≠ u.ownBlock := by
  rcases h.2 with ⟨rfl, _⟩ | ⟨g, cap, cur, rfl, _, hgb, _⟩
  · simp [Value.ownBlock]
  · intro e
    obtain rfl : k = g := by simpa [Value.ownBlock] using e
    rw [hk] at hgb
    injection hgb with hgb
    injection hgb with _ h2 _
    cases h2
/-- What stands between two rounds. -/
def OutI (n₀ b : Nat) (w : World) (pre : List Own) (W : World) : Prop :=
  (∃ v, Boxed W b 38 v ∧ W.ownsRow n₀ 47 5 v pre.length (rowOf pre) ∧ True) ∧ Below n₀ w W
/-- What the loop has laid is a row of the call's own. -/
theorem rows_R {W : World} {n₀ : Nat} {u : Value} {ps : List Own} (h : W.ownsRow n₀ 47 5 u ps.length (rowOf ps)) (hg : ∀ p ∈ ps, OwnG n₀ p W) : Kd.R k47 47 W n₀ (fun _ => True) u (ps.map Prod.fst) := by
  have hne : ∀ p ∈ ps, k47.M W n₀ (fun k => True ∧ some k ≠ u.ownBlock) p.1 (cells5 p) := fun p hp => by
    refine k47_mkM W n₀ _ p.1 (v4 := p.2) (Kd.R_mono (Kd.R_bound (hg p hp)) fun k ⟨_, _, _, q, hq, cells, hc⟩ => ⟨trivial, ?_⟩)
    have : q = 5 := by simpa [Kd.int, Kd.scalar] using hq
    subst this
    exact own_ne h hc
  refine ⟨fun _ _ => trivial, rowOf ps, ⟨by rw [List.length_map]; exact h.1, by rw [List.length_map]; exact h.2⟩, ?_⟩
  clear h hg
  induction ps with
  | nil => exact Reps.none _ _
  | cons p ps ih =>
    show Reps _ _ (p.1 :: ps.map Prod.fst) (cells5 p ++ rowOf ps)
    have h1 := (Reps.none (k47.M W n₀ (fun k => True ∧ some k ≠ u.ownBlock)) 5).snoc (hne p (by simp)) rfl
    exact Kd.reps_append h1 (ih fun q hq => hne q (by simp [hq]))
set_option maxRecDepth 100000 in
set_option maxHeartbeats 4000000 in
theorem apply_ord (A0 : Option Addr) (c0 : Nat) (l0 : List F) (A1 : Option Addr) (c1 : Nat) (l1 : List Ch) (w : World) (hr0 : Kd.C k47 w A0 l0.length l0) (hc0 : l0.length ≤ c0) (hr1 : Kd.C k53 w A1 l1.length l1) (hc1 : l1.length ≤ c1)
    (ho : Ord l0) (hbig : (l0.length + l1.length) * 64 ≤ 140737488355328) (hs0 : ∀ x ∈ l0, x.f1.length < 140737488355328) (hs1 : ∀ x ∈ l1, x.f1.length < 140737488355328) :
    Calls Try.prog 16 #[.slice A0 l0.length c0, .slice A1 l1.length c1] w fun e w' => ∃ v, e = .returned v ∧ Kd.R k47 47 w' w.heap.size (fun _ => True) v (applyB l0 l1) ∧ Below w.heap.size w w' := by
  have HI := Lib.hid (fun W (hb : Below w.heap.size w W) => isOrdered_any A0 c0 l0 W (Kd.C_below hr0 hb) hc0)
  have hob : ordB l0 = true := (ordB_iff l0).2 ho
  rw [hob] at HI
  refine (callsIn_wide (n := 9)).1 ?_
  refine callsIn_of_wp_marks Try.func16 rfl trivial ?_ rfl
  simp only [Try.ntmps16, List.size_toArray, List.length_cons, List.length_nil, Nat.reduceAdd, Nat.reduceSub, Array.replicate_succ, Array.replicate_zero, List.push_toArray, List.append_toArray, List.nil_append, List.cons_append]
  gi_wp2_with fail
  refine ⟨trivial, (callsIn_wide.2 (HI.out w (Below.refl _ _))).mono ?_⟩
  rintro e w1 ⟨rfl, hb1⟩
  gi_wp2_with fail
  refine ⟨trivial, (callsIn_wide.2 (own_any A0 c0 l0 _)).mono ?_⟩
  rintro e w2 ⟨rfl, hw2⟩
  gi_wp2_with fail
  have hBelow : Below w.heap.size w ((w1.alloc (Obj.cells #[Value.slice none 0 0] 38)).alloc (Obj.cells #[Value.slice A0 l0.length c0] 38)) := (hb1.alloc hb1.size _).alloc (by simp; have := hb1.size; omega) _
  have hbox : Boxed ((w1.alloc (Obj.cells #[Value.slice none 0 0] 38)).alloc (Obj.cells #[Value.slice A0 l0.length c0] 38)) w1.heap.size 38 (.slice none 0 0) := (Boxed.new w1 _ _).alloc _
  have hboxl : ((w1.alloc (Obj.cells #[Value.slice none 0 0] 38)).alloc (Obj.cells #[Value.slice A0 l0.length c0] 38)).cell? ⟨w1.heap.size + 1, 0, none⟩ = some (.slice A0 l0.length c0) := by go_simp
  have hsz2 : ((w1.alloc (Obj.cells #[Value.slice none 0 0] 38)).alloc (Obj.cells #[Value.slice A0 l0.length c0] 38)).heap.size = w1.heap.size + 2 := by simp
  generalize (w1.alloc (Obj.cells #[Value.slice none 0 0] 38)).alloc (Obj.cells #[Value.slice A0 l0.length c0] 38) = WL at *
  have hlo : ∀ W, Below w.heap.size WL W → Kd.C k47 W A0 l0.length l0 := fun W hW => Kd.C_below hr0 (hBelow.trans hW)
  have h1s := hb1.size
  refine wpIn_rangeFunc_given (α := Own) rfl (by omega) (gf := 53) (lb := #[.pointer (some ⟨w1.heap.size + 1, 0, none⟩)]) rfl trivial (enters_of Try.func53 (by kernel_rfl) rfl)
    (own_iter 8 (w1.heap.size + 1) w.heap.size A0 c0 l0 hs0 WL hBelow.size hboxl (hlo WL (Below.refl _ _)) hlo) KpB.trans (fun W l o o' h1 h2 h3 => KpB.turn W l o o' (by have := hBelow.size; omega) h2 h3) (fun _ => rfl)
    (OutI w.heap.size w1.heap.size w) ?hI (ownS_from _ _ _) ?h0 (fun pre x a' W => pre.length < l0.length ∧ (∃ Av cv, x.2 = .slice Av x.1.f1.length cv) ∧ (∃ Bx, W.heap[Bx]? = some (.cells (cells5 x).toArray 47 (0, 0)) ∧ a' = { tmps := #[Value.slice A0 l0.length c0, Value.slice A1 l1.length c1, undef, undef, Value.slice none 0 0, Value.pointer (some { block := w1.heap.size, off := 0 }), .pointer (some ⟨Bx, 0, none⟩), undef, undef, undef, undef, undef, Value.slice A0 l0.length c0, Value.bool true, Value.bool false, Value.slice A0 l0.length c0, Value.func (Fn.func 53) #[] #[Value.pointer (some { block := w1.heap.size + 1, off := 0 })], encF x, undef, undef, undef, undef, undef, undef, undef, undef, undef, undef, undef, undef, undef, undef, undef, undef, undef, undef, undef, undef, undef, undef, undef, undef, undef, undef, undef, undef, undef, undef, undef, undef, undef, undef, undef, undef, undef, undef, undef, undef, undef, undef, undef, undef, undef, undef, undef, undef, undef, undef, undef], defers := [] })) ?hAx ?assign ?body ?done
  case hI => exact OwnFrom.and (Own.from (holdsRow_own w.heap.size w1.heap.size 38 47 5 (fun pre => pre.length) rowOf (fun _ _ => True)) _) (ownFrom_below (Nat.le_refl _) (by omega))
  case h0 => exact ⟨⟨_, hbox, World.ownsRow_nil _ _ _ _, trivial⟩, hBelow⟩
  case hAx =>
    rintro pre x a' _ A B row ⟨h1, h0, Bx, h2, h3⟩ hg hrow
    refine ⟨h1, h0, Bx, (hg.block Bx (Array.getElem?_eq_some_iff.1 h2).1 fun e => ?_).trans h2, h3⟩
    obtain ⟨_, o, ho, hc⟩ := hrow Bx e.symm
    rw [h2] at ho; injection ho with ho; subst ho; cases hc
  case assign =>
    rintro l pre ⟨y, v⟩ W K hi ⟨hlen, hg⟩ hK
    obtain ⟨Av, cv, hv⟩ := Kd.R_slice hg
    dsimp only at hv
    subst hv
    dsimp only [encF]
    gi_wp2
    have hbW : Below W.heap.size W (W.alloc (.cells (cells5 (y, .slice Av y.f1.length cv)).toArray 47)) := (Below.refl _ _).alloc (Nat.le_refl _) _
    have hns : w.heap.size ≤ W.heap.size := hi.2.size
    refine hK _ _ ((KeepsOthers.alloc _ _).from _) ⟨hbW.mono hns, fun k cells hk => (hbW.block k (Array.getElem?_eq_some_iff.1 hk).1).trans hk⟩ ?_ ⟨hlen, ⟨Av, cv, rfl⟩, W.heap.size, World.alloc_heap_new W _, rfl⟩
    obtain ⟨⟨u, hu1, hu2, _⟩, hu3⟩ := hi
    exact ⟨⟨u, hu1.alloc _, hu2.alloc _, trivial⟩, hu3.alloc hns _⟩
  case body =>
    rintro l pre ⟨y, v⟩ a' W ⟨⟨u, hu1, hu2, _⟩, hu3⟩ ⟨hlen, ⟨Av, cv, hv⟩, Bx, hBx, rfl⟩
    dsimp only at hv
    subst hv
    obtain ⟨i0, hi, hz0, hz1, hz2⟩ := info_parts info47
    have k0 : W.cell? ⟨Bx, 0, none⟩ = some (.int .i64 y.f0.f0) := by simp [World.cell?, hBx, cells5]
    have k1 : W.cell? ⟨Bx, 1, none⟩ = some (.int .u8 y.f0.f1) := by simp [World.cell?, hBx, cells5]
    have k2 : W.cell? ⟨Bx, 2, none⟩ = some (.string y.f0.f2) := by simp [World.cell?, hBx, cells5]
    have k3 : W.cell? ⟨Bx, 3, none⟩ = some (.int .i64 y.f0.f3) := by simp [World.cell?, hBx, cells5]
    have k4 : W.cell? ⟨Bx, 4, none⟩ = some (.slice Av y.f1.length cv) := by simp [World.cell?, hBx, cells5]
    have hc0 := hu1.cell
    have hf0 := hu1.frozen
    have hns : w.heap.size ≤ W.heap.size := hu3.size
    dsimp only [encF]
    gi_wp2_with (gi_at_builtin; refine wpListIn_append_own _ rfl _ _ 38 rfl w.heap.size 47 i0 _ 5 64 Try.underlying38 hi hz0 hz1 hz2 rfl (by decide) _ _ _ rfl (hu2.alloc _) ⟨W.heap.size, 0, none⟩ 1 1 (cells5 (y, .slice Av y.f1.length cv)) rfl rfl (blk_cells (o := 0) (World.alloc_heap_new W _) (fun j u hj => by rw [Nat.zero_add]; exact hj)) (by simp [cells5, Value.oneCell']) (by unfold maxLen; omega) (by omega) (by simp; omega) ?_; intro v' w4 hown' hgrow _; obtain ⟨g', cap', rfl⟩ := ownsRow_succ hown'; obtain ⟨hv1, hv2, hr2, hk2, hb2⟩ := hu1.appended (by decide) hu2 hns (by omega) hown' hgrow; have hc1 := hv1.cell; have hf1 := hv1.frozen)
    have hrow : (w4.setCell ⟨w1.heap.size, 0, none⟩ (.slice (some ⟨g', 0, none⟩) (pre.length + 1) cap')).ownsRow w.heap.size 47 5 (.slice (some ⟨g', 0, none⟩) (pre.length + 1) cap') (pre ++ [((y, .slice Av y.f1.length cv) : Own)]).length (rowOf (pre ++ [((y, .slice Av y.f1.length cv) : Own)])) := by
      rw [rowOf_snoc, List.length_append]
      exact hr2
    refine ⟨hk2.from _, ⟨hb2, fun k cells hk => ?_⟩, ⟨⟨_, hv2, hrow, trivial⟩, hu3.trans hb2⟩⟩
    have hkl := (Array.getElem?_eq_some_iff.1 hk).1
    have hkb : k ≠ w1.heap.size := fun e => by
      have := hu1
      unfold Boxed at this
      rw [e] at hk
      rw [hk] at this
      injection this with this
      injection this with _ h2 _
      cases h2
    refine (Below.heap_setCell _ _ _ k hkb).trans ((hgrow.block k (by simp; omega) (own_ne hu2 hk)).trans ?_)
    exact (al_old W _ hkl).trans hk
  case done =>
    rintro D ps W hD ⟨hps, hgs⟩ ⟨⟨u, hu1, hu2, _⟩, hu3⟩ hK
    have hR := rows_R hu2 hgs
    rw [hps] at hR
    have hbase : w.heap.size ≤ w1.heap.size := by omega
    have HV := Lib.hid (And.intro (show Boxed W w1.heap.size 38 u from hu1) (And.intro hR (And.intro hu3 hK)))
    have HW := Lib.hid (And.intro hr1 (And.intro ho (And.intro hbig (And.intro hs0 hs1))))
    have hl1 : l1.length ≤ 9223372036854775807 := hr1.2.1
    clear hu1 hu2 hu3 hK hR hgs hps hlo hbox hboxl hr0 hr1 ho hbig hs0 hs1 HI
    gi_wp2
    refine wpIn_wide.2 ?_
    obtain ⟨hu1, hR, hu3, hK⟩ := HV.out
    obtain ⟨hr1, ho, hbig, hs0, hs1⟩ := HW.out
    refine apply_loop _ _ _ _ _ _ _ _ _ _ _ _ _ _ _ _ _ _ _ _ _ _ _ _ _ _ _ _ _ _ _ _ _ _ _ _ _ _ _ _ _ _ _ _ _ _ _ _ _ _ _ _ _ _ _ _ _ _ _ _ _ _ _ _ _ _ w1.heap.size w.heap.size D A1 c1 l0 l1 w W _ u (fun W' hb => Kd.C_below hr1 hb) hc1 hs1 (Nat.le_refl _) hbase ho hbig hu1 hR hu3 hK ?_
    intro v8 v9 v10 v11 v25 v26 v27 v28 v29 v30 v31 v32 v33 v34 v35 v36 v37 v38 v39 v40 v41 v42 v43 v44 v45 v46 v47 v48 v49 v50 v51 v52 v53 v54 v55 v56 v57 v58 v59 v60 v61 v62 v63 v64 v65 v66 v67 u' W' hu' hR' hW' hD'
    dsimp only
    obtain ⟨Au, cu, rfl⟩ := Kd.R_slice hR'
    have hb0 := hu'.cell
    have HZ := Lib.hid (And.intro hR' (And.intro hW' hD'))
    clear hu' hR' hW' hD'
    gi_wp2
    obtain ⟨hR', hW', hD'⟩ := HZ.out
    have hgp : W'.grownBy _ (some D) := grownBy_putObj' W' D (.deferred none)
    refine ⟨by simp, .inl ⟨_, _, rfl, run_takeDeferred hD', ?_⟩⟩
    refine ⟨.slice Au (applyB l0 l1).length cu, ?_, _, rfl, ?_, hW'.grown hgp hW'.size fun k hk => ?_⟩
    · simp [results, Try.f16, go_sem]
    · refine Kd.R_mono (Kd.R_grown (Kd.R_bound hR') hgp fun k hk e => ?_) fun _ _ => trivial
      obtain ⟨_, _, _, _, _, cells, hc⟩ := hk
      injection e with e
      rw [e, hD'] at hc
      cases hc
    · injection hk with hk
      omega
end Go.Proofs.Ytbhmncenbpdcjaa.P
end
section
/- fact.Find: its contract. -/
namespace Go.Proofs.Ytbhmncenbpdcjaa.P
open Go Go.Shelf Go.RowKit Go.Proofs.YtbhmncenbpdcjaaW.PrintWords Go.Proofs.YtbhmncenbpdcjaaW.PrintLast Go.Proofs.YtbhmncenbpdcjaaW.PrintMore
set_option linter.unusedVariables false
set_option linter.unusedSimpArgs false
attribute [local go_sem] Oper.semAt_some
def findB (l : List F) (k : K) : List Int := if ordB l && isB l k then (rd_T47 l (cntB l k : Nat)).f1 else []
def FindEnd (l : List F) (k : K) (w : World) (e : Ending) (w' : World) : Prop := ∃ v, e = .returned (.tuple #[v, .bool (ordB l && isB l k)]) ∧ Kd.R (Kd.int .u8) 5 w' w.heap.size (fun _ => True) v (findB l k) ∧ Below w.heap.size w w'
set_option maxRecDepth 100000 in
set_option maxHeartbeats 4000000 in
theorem find_any (A : Option Addr) (c : Nat) (l : List F) (k : K) (w : World) (hr : Kd.C k47 w A l.length l) (hc : l.length ≤ c) (hsz : l.length < 4611686018427387904) (hs : ∀ x ∈ l, x.f1.length < 140737488355328) :
    Calls Try.prog 17 #[.slice A l.length c, encK k] w (FindEnd l k w) := by
  have HO := Lib.hid (fun W (hb : Below w.heap.size w W) => isOrdered_any A c l W (Kd.C_below hr hb) hc)
  have HB0 := (Below.refl w.heap.size w).alloc (Nat.le_refl _) (.cells #[.int .i64 k.f0, .int .u8 k.f1, .string k.f2, .int .i64 k.f3] 30)
  have HX := Lib.hid (And.intro hr (And.intro hc (And.intro hsz hs)))
  unfold encK
  cases ho : ordB l with
  | false =>
    rw [ho] at HO
    have HE := Lib.hid ho
    clear hr hc hs ho
    go_enter Try.func17, Try.ntmps17
    go_wp2_with fail
    refine (HO.out _ HB0).mono ?_
    rintro e w1 ⟨rfl, hb1⟩
    have HB1 := Lib.hid (HB0.trans (hb1.mono HB0.size))
    clear hb1
    go_wp2
    go_ret2
    refine ⟨.slice none 0 0, ?_, ?_, HB1.out⟩
    · rw [HE.out]; rfl
    · unfold findB; rw [HE.out]; exact Kd.R_nil _ _ _ _ _
  | true =>
    rw [ho] at HO
    have hord := (ordB_iff l).1 ho
    have HE := Lib.hid (And.intro ho hord)
    clear hr hc hs ho hord
    go_enter Try.func17, Try.ntmps17
    go_wp2_with fail
    refine (HO.out _ HB0).mono ?_
    rintro e w1 ⟨rfl, hb1⟩
    have HB1 := Lib.hid (HB0.trans (hb1.mono HB0.size))
    have hxl : w.heap.size < (w.alloc (.cells #[.int .i64 k.f0, .int .u8 k.f1, .string k.f2, .int .i64 k.f3] 30)).heap.size := by simp
    have hx1 := (hb1.block w.heap.size hxl).trans (World.alloc_heap_new w _)
    have k0 : w1.cell? ⟨w.heap.size, 0, none⟩ = some (.int .i64 k.f0) := by simp [World.cell?, hx1]
    have k1 : w1.cell? ⟨w.heap.size, 1, none⟩ = some (.int .u8 k.f1) := by simp [World.cell?, hx1]
    have k2 : w1.cell? ⟨w.heap.size, 2, none⟩ = some (.string k.f2) := by simp [World.cell?, hx1]
    have k3 : w1.cell? ⟨w.heap.size, 3, none⟩ = some (.int .i64 k.f3) := by simp [World.cell?, hx1]
    clear hb1 hx1 hxl
    go_wp2_with fail
    refine (place_any A c l k (mono_of l HE.out.2 k) HX.out.2.2.1 w1 (Kd.C_below HX.out.1 HB1.out)).mono ?_
    rintro e w2 ⟨rfl, hb2⟩
    have HB2 := Lib.hid (HB1.out.trans (hb2.mono HB1.out.size))
    clear hb2 k0 k1 k2 k3
    cases his : isB l k with
    | false =>
      have HI := Lib.hid his
      clear his
      go_wp2
      go_ret2
      refine ⟨.slice none 0 0, ?_, ?_, HB2.out⟩
      · rw [HE.out.1, HI.out]; rfl
      · unfold findB; rw [HE.out.1, HI.out]; exact Kd.R_nil _ _ _ _ _
    | true =>
      obtain ⟨hi, _⟩ := isB_at his
      have HI := Lib.hid his
      clear his
      obtain ⟨ad, A4, c4, hA, h0, h1, h2, h3, h4, h5, h6⟩ := at_T47 (Kd.C_below HX.out.1 HB2.out) (cntB l k : Nat) (by omega) (by omega)
      have hcv : (rd_T47 l (cntB l k : Nat)).f1.length < 140737488355328 := by rw [rd_nat l _ hi]; exact HX.out.2.2.2 _ (List.getElem_mem hi)
      subst hA
      simp only [Int.toNat_natCast] at h0 h1 h2 h3 h4
      have HF : Hid (findB l k = (rd_T47 l (cntB l k : Nat)).f1) := by unfold findB; rw [HE.out.1, HI.out]; exact Lib.hid rfl
      generalize cntB l k = i at *
      generalize rd_T47 l (i : Nat) = x at *
      have ci0 : (0 : Int) ≤ (i : Int) := by omega
      have ci1 : (i : Int) < (l.length : Int) := by omega
      go_wp2_with fail
      refine (clone_any A4 c4 x.f1 w2 h6 h5 hcv).mono ?_
      rintro e w3 ⟨v, rfl, hR, hB⟩
      have HZ := Lib.hid (And.intro hR hB)
      clear hR hB h6
      go_wp2
      go_ret2
      refine ⟨v, ?_, ?_, HB2.out.trans (HZ.out.2.mono HB2.out.size)⟩
      · rw [HE.out.1, HI.out]; rfl
      · rw [HF.out]; exact Kd.R_lower HZ.out.1 HB2.out.size
end Go.Proofs.Ytbhmncenbpdcjaa.P
end
section
/- fact.Find: its contract. -/
namespace Go.Proofs.Ytbhmncenbpdcjaa.P.Q
open Go.Proofs.Ytbhmncenbpdcjaa.P
open Go Go.Shelf Go.RowKit Go.Proofs.YtbhmncenbpdcjaaW.PrintWords Go.Proofs.YtbhmncenbpdcjaaW.PrintLast Go.Proofs.YtbhmncenbpdcjaaW.PrintMore
set_option linter.unusedVariables false
set_option linter.unusedSimpArgs false
attribute [local go_sem] Oper.semAt_some
def FindEnd (l : List F) (k : K) (w : World) (e : Ending) (w' : World) : Prop := ∃ v, e = .returned (.tuple #[v, .bool (ordB l && isB l k)]) ∧ R8 w' w.heap.size v (findB l k) ∧ Below w.heap.size w w'
set_option maxRecDepth 100000 in
set_option maxHeartbeats 4000000 in
theorem find_any (A : Option Addr) (c : Nat) (l : List F) (k : K) (w : World) (hr : Kd.C k47 w A l.length l) (hc : l.length ≤ c) (hsz : l.length < 4611686018427387904) (hs : ∀ x ∈ l, x.f1.length < 140737488355328) :
    Calls Try.prog 17 #[.slice A l.length c, encK k] w (FindEnd l k w) := by
  have HO := Lib.hid (fun W (hb : Below w.heap.size w W) => isOrdered_any A c l W (Kd.C_below hr hb) hc)
  have HB0 := (Below.refl w.heap.size w).alloc (Nat.le_refl _) (.cells #[.int .i64 k.f0, .int .u8 k.f1, .string k.f2, .int .i64 k.f3] 30)
  have HX := Lib.hid (And.intro hr (And.intro hc (And.intro hsz hs)))
  unfold encK
  cases ho : ordB l with
  | false =>
    rw [ho] at HO
    have HE := Lib.hid ho
    clear hr hc hs ho
    go_enter Try.func17, Try.ntmps17
    go_wp2_with fail
    refine (HO.out _ HB0).mono ?_
    rintro e w1 ⟨rfl, hb1⟩
    have HB1 := Lib.hid (HB0.trans (hb1.mono HB0.size))
    clear hb1
    go_wp2
    go_ret2
    refine ⟨.slice none 0 0, ?_, ?_, HB1.out⟩
    · rw [HE.out]; rfl
    · unfold findB; rw [HE.out]; exact ⟨Kd.R_nil _ _ _ _ _, fun g hg => by simp [Value.ownBlock] at hg⟩
  | true =>
    rw [ho] at HO
    have hord := (ordB_iff l).1 ho
    have HE := Lib.hid (And.intro ho hord)
    clear hr hc hs ho hord
    go_enter Try.func17, Try.ntmps17
    go_wp2_with fail
    refine (HO.out _ HB0).mono ?_
    rintro e w1 ⟨rfl, hb1⟩
    have HB1 := Lib.hid (HB0.trans (hb1.mono HB0.size))
    have hxl : w.heap.size < (w.alloc (.cells #[.int .i64 k.f0, .int .u8 k.f1, .string k.f2, .int .i64 k.f3] 30)).heap.size := by simp
    have hx1 := (hb1.block w.heap.size hxl).trans (World.alloc_heap_new w _)
    have k0 : w1.cell? ⟨w.heap.size, 0, none⟩ = some (.int .i64 k.f0) := by simp [World.cell?, hx1]
    have k1 : w1.cell? ⟨w.heap.size, 1, none⟩ = some (.int .u8 k.f1) := by simp [World.cell?, hx1]
    have k2 : w1.cell? ⟨w.heap.size, 2, none⟩ = some (.string k.f2) := by simp [World.cell?, hx1]
    have k3 : w1.cell? ⟨w.heap.size, 3, none⟩ = some (.int .i64 k.f3) := by simp [World.cell?, hx1]
    clear hb1 hx1 hxl
    go_wp2_with fail
    refine (place_any A c l k (mono_of l HE.out.2 k) HX.out.2.2.1 w1 (Kd.C_below HX.out.1 HB1.out)).mono ?_
    rintro e w2 ⟨rfl, hb2⟩
    have HB2 := Lib.hid (HB1.out.trans (hb2.mono HB1.out.size))
    clear hb2 k0 k1 k2 k3
    cases his : isB l k with
    | false =>
      have HI := Lib.hid his
      clear his
      go_wp2
      go_ret2
      refine ⟨.slice none 0 0, ?_, ?_, HB2.out⟩
      · rw [HE.out.1, HI.out]; rfl
      · unfold findB; rw [HE.out.1, HI.out]; exact ⟨Kd.R_nil _ _ _ _ _, fun g hg => by simp [Value.ownBlock] at hg⟩
    | true =>
      obtain ⟨hi, _⟩ := isB_at his
      have HI := Lib.hid his
      clear his
      obtain ⟨ad, A4, c4, hA, h0, h1, h2, h3, h4, h5, h6⟩ := at_T47 (Kd.C_below HX.out.1 HB2.out) (cntB l k : Nat) (by omega) (by omega)
      have hcv : (rd_T47 l (cntB l k : Nat)).f1.length < 140737488355328 := by rw [rd_nat l _ hi]; exact HX.out.2.2.2 _ (List.getElem_mem hi)
      subst hA
      simp only [Int.toNat_natCast] at h0 h1 h2 h3 h4
      have HF : Hid (findB l k = (rd_T47 l (cntB l k : Nat)).f1) := by unfold findB; rw [HE.out.1, HI.out]; exact Lib.hid rfl
      generalize cntB l k = i at *
      generalize rd_T47 l (i : Nat) = x at *
      have ci0 : (0 : Int) ≤ (i : Int) := by omega
      have ci1 : (i : Int) < (l.length : Int) := by omega
      go_wp2_with fail
      refine (clone_full A4 c4 x.f1 w2 h6 h5 hcv).mono ?_
      rintro e w3 ⟨v, rfl, hR, hF, hB⟩
      have HZ := Lib.hid (And.intro (And.intro hR hF) hB)
      clear hR hF hB h6
      go_wp2
      go_ret2
      refine ⟨v, ?_, ?_, HB2.out.trans (HZ.out.2.mono HB2.out.size)⟩
      · rw [HE.out.1, HI.out]; rfl
      · rw [HF.out]; exact ⟨Kd.R_lower HZ.out.1.1 HB2.out.size, HZ.out.1.2⟩
end Go.Proofs.Ytbhmncenbpdcjaa.P.Q
end
section
/- Printed by a program of this workplace (wip/print/gprint.py, over the kit's print.py): functions of the program as Lean functions, and that the Go text comes to their answers. -/
namespace Go.Proofs.Ytbhmncenbpdcjaa.P
open Go.RowKit Go.Proofs.YtbhmncenbpdcjaaW.PrintWords Go.Proofs.YtbhmncenbpdcjaaW.PrintLast Go.Proofs.YtbhmncenbpdcjaaW.PrintMore
attribute [local go_sem] max2_int min2_int max_two min_two max_three min_three max_four min_four   -- for this text's walks alone
set_option linter.unusedVariables false
set_option linter.unusedSimpArgs false

/-! ### carrackref00_Same: function 23 -/
def carrackref00_Same.l0 : Nat → List Int → List Int → Int → Option (Bool)
  | 0, _, _, _ => none
  | k + 1, x0, x1, x5 => if x5 < (x0.length : Int) then (if 0 ≤ x5 then (if x5 < (x1.length : Int) then (if (rd x0 x5) = (rd x1 x5) then (carrackref00_Same.l0 k x0 x1 (wrap64 (x5 + 1))) else (some false)) else (none)) else (none)) else (some true)
def carrackref00_Same.f (k : Nat) (l0 : List Int) (l1 : List Int) : Option (Bool) := if (l0.length : Int) = (l1.length : Int) then (carrackref00_Same.l0 k l0 l1 0) else (some false)
theorem carrackref00_Same.mono_l : ∀ k, (∀ y0 y1 y2, LeO (carrackref00_Same.l0 k y0 y1 y2) (carrackref00_Same.l0 (k + 1) y0 y1 y2))
  | 0 => fun _ _ _ r h => by simp [carrackref00_Same.l0] at h
  | k + 1 => by
    have ih0 := carrackref00_Same.mono_l k
    · intro y0 y1 y2
      unfold carrackref00_Same.l0
      repeat' first
      | (with_reducible exact ih0 _ _ _)
      | (with_reducible exact LeO.refl _)
      | (with_reducible exact LeO.none _)
      | (with_reducible refine LeO.ite ?_ ?_)
      | (with_reducible refine LeO.bind ?_ (fun _ => ?_))
      | exact ih0 _ _ _
      | exact LeO.none _
      | refine LeO.ite ?_ ?_
      | refine LeO.bind ?_ (fun _ => ?_)
theorem carrackref00_Same.mono : ∀ a0 a1 k, LeO (carrackref00_Same.f k a0 a1) (carrackref00_Same.f (k + 1) a0 a1) := by
  intro a0 a1 k
  have ih0 := carrackref00_Same.mono_l k
  unfold carrackref00_Same.f
  repeat' first
      | (with_reducible exact ih0 _ _ _)
      | (with_reducible exact LeO.refl _)
      | (with_reducible exact LeO.none _)
      | (with_reducible refine LeO.ite ?_ ?_)
      | (with_reducible refine LeO.bind ?_ (fun _ => ?_))
      | exact ih0 _ _ _
      | exact LeO.none _
      | refine LeO.ite ?_ ?_
      | refine LeO.bind ?_ (fun _ => ?_)
set_option maxHeartbeats 8000000 in
set_option maxRecDepth 100000 in
theorem carrackref00_Same.calls (k : Nat) (A0 : Option Addr) (c0 : Nat) (l0 : List Int) (A1 : Option Addr) (c1 : Nat) (l1 : List Int) (r : Bool) (w : World) (hr0 : Kd.C (Kd.int .u8) w A0 l0.length l0) (hc0 : l0.length ≤ c0) (hr1 : Kd.C (Kd.int .u8) w A1 l1.length l1) (hc1 : l1.length ≤ c1) (h : carrackref00_Same.f k l0 l1 = some r) :
    Calls Try.prog 23 #[.slice A0 l0.length c0, .slice A1 l1.length c1] w fun e w' => e = .returned (.bool r) ∧ Drawn0 w w' := by
  have HR0 := Aside0.mk hr0
  have HC0 := Aside0.mk hc0
  clear hr0 hc0
  have HR1 := Aside0.mk hr1
  have HC1 := Aside0.mk hc1
  clear hr1 hc1
  have H : (if (l0.length : Int) = (l1.length : Int) then (carrackref00_Same.l0 k l0 l1 0) else (some false)) = some r := h
  clear h
  by_cases c3 : (l0.length : Int) = (l1.length : Int)
  · rw [if_pos c3] at H
    have c3b0 : ((l0.length : Int) == (l1.length : Int)) = true := beq_iff_eq.mpr c3
    have c3b1 : ((l0.length : Int) != (l1.length : Int)) = false := bne_eq_false_iff_eq.mpr c3
    have c3b2 : (l0.length == l1.length) = true := by first | simpa using c3 | (simp at c3 ⊢; omega)
    clear c3
    have H' := Aside0.mk H
    clear H
    go_enter Try.func23, Try.ntmps23
    go_wp2
    repeat (go_quiet (fail); try go_wp2)
    go_loopg [5] k (fun kq v5 w' => ∃ (x5_1 : Int), v5 = .int .i64 x5_1 ∧ Aside0 (carrackref00_Same.l0 kq l0 l1 x5_1 = some r) ∧ Aside0 (kq ≤ k) ∧ Drawn0 w w')
    case atStart => exact ⟨(0), (by first | rfl | (simp; done) | (simp [*]; done)), H', ⟨Nat.le_refl _⟩, by repeat (first | exact Drawn0.refl _ | apply Drawn0.step)⟩
    case round =>
      clear H'
      try clear c1
      try clear c2
      try clear p2
      try clear c3
      try clear c3b0
      try clear c3b1
      try clear c3b2
      obtain ⟨x5_1, rfl, HA, HK1, ⟨m1, rfl⟩⟩ := hrel
      cases gk with
      | zero => exact absurd HA.out (by simp [carrackref00_Same.l0])
      | succ k1 =>
        have H := HA.out
        clear HA
        simp only [carrackref00_Same.l0] at H
        by_cases c4 : x5_1 < (l0.length : Int)
        · rw [if_pos c4] at H
          have c4b0 : decide (x5_1 < (l0.length : Int)) = true := decide_eq_true c4
          clear c4
          by_cases c5 : 0 ≤ x5_1
          · rw [if_pos c5] at H
            have c5b0 : decide (0 ≤ x5_1) = true := decide_eq_true c5
            clear c5
            by_cases c6 : x5_1 < (l1.length : Int)
            · rw [if_pos c6] at H
              have c6b0 : decide (x5_1 < (l1.length : Int)) = true := decide_eq_true c6
              clear c6
              by_cases c7 : (rd l0 x5_1) = (rd l1 x5_1)
              · rw [if_pos c7] at H
                have c7b0 : ((rd l0 x5_1) == (rd l1 x5_1)) = true := beq_iff_eq.mpr c7
                have c7b1 : ((rd l0 x5_1) != (rd l1 x5_1)) = false := bne_eq_false_iff_eq.mpr c7
                clear c7
                have H' := Aside0.mk H
                clear H
                have p101 : 0 ≤ (x5_1 : Int) := of_decide_eq_true (by first | (with_reducible assumption) | assumption)
                have q101 : x5_1 < (l0.length : Int) := of_decide_eq_true (by first | (with_reducible assumption) | assumption)
                obtain ⟨ad101, e101, hx101_0⟩ := Kd.at_int HR0.out x5_1 p101 q101
                cases e101
                replace p101 := eq_true p101
                replace q101 := eq_true q101
                have p102 : 0 ≤ (x5_1 : Int) := of_decide_eq_true (by first | (with_reducible assumption) | assumption)
                have q102 : x5_1 < (l1.length : Int) := of_decide_eq_true (by first | (with_reducible assumption) | assumption)
                obtain ⟨ad102, e102, hx102_0⟩ := Kd.at_int HR1.out x5_1 p102 q102
                cases e102
                replace p102 := eq_true p102
                replace q102 := eq_true q102
                go_wp2
                repeat (go_quiet (fail); try go_wp2)
                go_roundg k1
                case measure => have := HK1.out; omega
                case rel => exact ⟨(wrap64 (x5_1 + 1)), (by first | rfl | (simp; done) | (simp [*]; done)), H', ⟨by have := HK1.out; omega⟩, by repeat (first | exact Drawn0.refl _ | apply Drawn0.step)⟩
              · rw [if_neg c7] at H
                have c7b0 : ((rd l0 x5_1) == (rd l1 x5_1)) = false := beq_eq_false_iff_ne.mpr c7
                have c7b1 : ((rd l0 x5_1) != (rd l1 x5_1)) = true := bne_iff_ne.mpr c7
                obtain rfl := Option.some.inj H
                have p101 : 0 ≤ (x5_1 : Int) := of_decide_eq_true (by first | (with_reducible assumption) | assumption)
                have q101 : x5_1 < (l0.length : Int) := of_decide_eq_true (by first | (with_reducible assumption) | assumption)
                obtain ⟨ad101, e101, hx101_0⟩ := Kd.at_int HR0.out x5_1 p101 q101
                cases e101
                replace p101 := eq_true p101
                replace q101 := eq_true q101
                have p102 : 0 ≤ (x5_1 : Int) := of_decide_eq_true (by first | (with_reducible assumption) | assumption)
                have q102 : x5_1 < (l1.length : Int) := of_decide_eq_true (by first | (with_reducible assumption) | assumption)
                obtain ⟨ad102, e102, hx102_0⟩ := Kd.at_int HR1.out x5_1 p102 q102
                cases e102
                replace p102 := eq_true p102
                replace q102 := eq_true q102
                go_wp2
                repeat (go_quiet (fail); try go_wp2)
                go_ret
                exact ⟨by first | rfl | (simp; done) | (simp [*]; done), by repeat (first | exact Drawn0.refl _ | apply Drawn0.step)⟩
            · rw [if_neg c6] at H
              exact absurd H (by simp)
          · rw [if_neg c5] at H
            exact absurd H (by simp)
        · rw [if_neg c4] at H
          have c4b0 : decide (x5_1 < (l0.length : Int)) = false := decide_eq_false c4
          clear c4
          obtain rfl := Option.some.inj H
          go_wp2
          repeat (go_quiet (fail); try go_wp2)
          go_ret
          exact ⟨by first | rfl | (simp; done) | (simp [*]; done), by repeat (first | exact Drawn0.refl _ | apply Drawn0.step)⟩
  · rw [if_neg c3] at H
    have c3b0 : ((l0.length : Int) == (l1.length : Int)) = false := beq_eq_false_iff_ne.mpr c3
    have c3b1 : ((l0.length : Int) != (l1.length : Int)) = true := bne_iff_ne.mpr c3
    have c3b2 : (l0.length == l1.length) = false := by first | simpa using c3 | (simp at c3 ⊢; omega)
    obtain rfl := Option.some.inj H
    go_enter Try.func23, Try.ntmps23
    go_wp2
    repeat (go_quiet (fail); try go_wp2)
    go_ret
    exact ⟨by first | rfl | (simp; done) | (simp [*]; done), by repeat (first | exact Drawn0.refl _ | apply Drawn0.step)⟩

/-! ### cmp_Or_int: function 59 -/
def cmp_Or_int.l0 : Nat → Int → List Int → Int → Int → Option (Int)
  | 0, _, _, _, _ => none
  | k + 1, x3, x6, x7, x8 => if x8 < x7 then (if 0 ≤ x8 then (if x8 < (x6.length : Int) then (if (rd x6 x8) = x3 then (cmp_Or_int.l0 k x3 x6 x7 (wrap64 (x8 + 1))) else (some (rd x6 x8))) else (none)) else (none)) else (some x3)
def cmp_Or_int.f (k : Nat) (l0 : List Int) : Option (Int) := cmp_Or_int.l0 k 0 l0 (l0.length : Int) 0
theorem cmp_Or_int.mono_l : ∀ k, (∀ y0 y1 y2 y3, LeO (cmp_Or_int.l0 k y0 y1 y2 y3) (cmp_Or_int.l0 (k + 1) y0 y1 y2 y3))
  | 0 => fun _ _ _ _ r h => by simp [cmp_Or_int.l0] at h
  | k + 1 => by
    have ih0 := cmp_Or_int.mono_l k
    · intro y0 y1 y2 y3
      unfold cmp_Or_int.l0
      repeat' first
      | (with_reducible exact ih0 _ _ _ _)
      | (with_reducible exact LeO.refl _)
      | (with_reducible exact LeO.none _)
      | (with_reducible refine LeO.ite ?_ ?_)
      | (with_reducible refine LeO.bind ?_ (fun _ => ?_))
      | exact ih0 _ _ _ _
      | exact LeO.none _
      | refine LeO.ite ?_ ?_
      | refine LeO.bind ?_ (fun _ => ?_)
theorem cmp_Or_int.mono : ∀ a0 k, LeO (cmp_Or_int.f k a0) (cmp_Or_int.f (k + 1) a0) := by
  intro a0 k
  have ih0 := cmp_Or_int.mono_l k
  unfold cmp_Or_int.f
  repeat' first
      | (with_reducible exact ih0 _ _ _ _)
      | (with_reducible exact LeO.refl _)
      | (with_reducible exact LeO.none _)
      | (with_reducible refine LeO.ite ?_ ?_)
      | (with_reducible refine LeO.bind ?_ (fun _ => ?_))
      | exact ih0 _ _ _ _
      | exact LeO.none _
      | refine LeO.ite ?_ ?_
      | refine LeO.bind ?_ (fun _ => ?_)
set_option maxHeartbeats 8000000 in
set_option maxRecDepth 100000 in
theorem cmp_Or_int.calls (k : Nat) (A0 : Option Addr) (c0 : Nat) (l0 : List Int) (r : Int) (w : World) (hr0 : Kd.C (Kd.int .i64) w A0 l0.length l0) (hc0 : l0.length ≤ c0) (h : cmp_Or_int.f k l0 = some r) :
    Calls Try.prog 59 #[.slice A0 l0.length c0] w fun e w' => e = .returned (.int .i64 r) ∧ Drawn0 w w' := by
  have HR0 := Aside0.mk hr0
  have HC0 := Aside0.mk hc0
  clear hr0 hc0
  have H : (cmp_Or_int.l0 k 0 l0 (l0.length : Int) 0) = some r := h
  clear h
  have H' := Aside0.mk H
  clear H
  go_enter Try.func59, Try.ntmps59
  go_wp2
  go_loopg [8] k (fun kq v8 w' => ∃ (x8_1 : Int), v8 = .int .i64 x8_1 ∧ Aside0 (cmp_Or_int.l0 kq 0 l0 (l0.length : Int) x8_1 = some r) ∧ Aside0 (kq ≤ k) ∧ Drawn0 w w')
  case atStart => exact ⟨(0), (by first | rfl | (simp; done) | (simp [*]; done)), H', ⟨Nat.le_refl _⟩, by repeat (first | exact Drawn0.refl _ | apply Drawn0.step)⟩
  case round =>
    clear H'
    obtain ⟨x8_1, rfl, HA, HK1, ⟨m1, rfl⟩⟩ := hrel
    cases gk with
    | zero => exact absurd HA.out (by simp [cmp_Or_int.l0])
    | succ k1 =>
      have H := HA.out
      clear HA
      simp only [cmp_Or_int.l0] at H
      by_cases c2 : x8_1 < (l0.length : Int)
      · rw [if_pos c2] at H
        have c2b0 : decide (x8_1 < (l0.length : Int)) = true := decide_eq_true c2
        clear c2
        by_cases c3 : 0 ≤ x8_1
        · rw [if_pos c3] at H
          have c3b0 : decide (0 ≤ x8_1) = true := decide_eq_true c3
          clear c3
          by_cases c4 : x8_1 < (l0.length : Int)
          · rw [if_pos c4] at H
            have c4b0 : decide (x8_1 < (l0.length : Int)) = true := decide_eq_true c4
            clear c4
            by_cases c5 : (rd l0 x8_1) = 0
            · rw [if_pos c5] at H
              have c5b0 : ((rd l0 x8_1) == 0) = true := beq_iff_eq.mpr c5
              have c5b1 : ((rd l0 x8_1) != 0) = false := bne_eq_false_iff_eq.mpr c5
              clear c5
              have H' := Aside0.mk H
              clear H
              have p103 : 0 ≤ (x8_1 : Int) := of_decide_eq_true (by first | (with_reducible assumption) | assumption)
              have q103 : x8_1 < (l0.length : Int) := of_decide_eq_true (by first | (with_reducible assumption) | assumption)
              obtain ⟨ad103, e103, hx103_0⟩ := Kd.at_int HR0.out x8_1 p103 q103
              cases e103
              replace p103 := eq_true p103
              replace q103 := eq_true q103
              go_wp2
              go_roundg k1
              case measure => have := HK1.out; omega
              case rel => exact ⟨(wrap64 (x8_1 + 1)), (by first | rfl | (simp; done) | (simp [*]; done)), H', ⟨by have := HK1.out; omega⟩, by repeat (first | exact Drawn0.refl _ | apply Drawn0.step)⟩
            · rw [if_neg c5] at H
              have c5b0 : ((rd l0 x8_1) == 0) = false := beq_eq_false_iff_ne.mpr c5
              have c5b1 : ((rd l0 x8_1) != 0) = true := bne_iff_ne.mpr c5
              obtain rfl := Option.some.inj H
              have p103 : 0 ≤ (x8_1 : Int) := of_decide_eq_true (by first | (with_reducible assumption) | assumption)
              have q103 : x8_1 < (l0.length : Int) := of_decide_eq_true (by first | (with_reducible assumption) | assumption)
              obtain ⟨ad103, e103, hx103_0⟩ := Kd.at_int HR0.out x8_1 p103 q103
              cases e103
              replace p103 := eq_true p103
              replace q103 := eq_true q103
              go_wp2
              go_ret
              exact ⟨by first | rfl | (simp; done) | (simp [*]; done), by repeat (first | exact Drawn0.refl _ | apply Drawn0.step)⟩
          · rw [if_neg c4] at H
            exact absurd H (by simp)
        · rw [if_neg c3] at H
          exact absurd H (by simp)
      · rw [if_neg c2] at H
        have c2b0 : decide (x8_1 < (l0.length : Int)) = false := decide_eq_false c2
        clear c2
        obtain rfl := Option.some.inj H
        go_wp2
        go_ret
        exact ⟨by first | rfl | (simp; done) | (simp [*]; done), by repeat (first | exact Drawn0.refl _ | apply Drawn0.step)⟩

/-! ### cmp_isNaN_int: function 66 -/
def cmp_isNaN_int.f (a0 : Int) : Option (Bool) := some (a0 != a0)
set_option maxHeartbeats 8000000 in
set_option maxRecDepth 100000 in
theorem cmp_isNaN_int.calls (a0 : Int) (r : Bool) (w : World) (h : cmp_isNaN_int.f a0 = some r) :
    Calls Try.prog 66 #[.int .i64 a0] w fun e w' => e = .returned (.bool r) ∧ Drawn0 w w' := by
  have H : (some (a0 != a0)) = some r := h
  clear h
  obtain rfl := Option.some.inj H
  go_enter Try.func66, Try.ntmps66
  go_wp2
  go_ret
  exact ⟨by first | rfl | (simp; done) | (simp [*]; done), by repeat (first | exact Drawn0.refl _ | apply Drawn0.step)⟩

/-! ### cmp_Compare_int: function 60 -/
def cmp_Compare_int.f (a0 : Int) (a1 : Int) : Option (Int) := (cmp_isNaN_int.f a0).bind fun t104 => ((cmp_isNaN_int.f a1).bind fun t105 => (if t104 = true then (if t105 = true then (some 0) else (some (-1))) else (if t105 = true then (some 1) else (if a0 < a1 then (some (-1)) else (if a0 > a1 then (some 1) else (some 0))))))
set_option maxHeartbeats 8000000 in
set_option maxRecDepth 100000 in
theorem cmp_Compare_int.calls (a0 : Int) (a1 : Int) (r : Int) (w : World) (h : cmp_Compare_int.f a0 a1 = some r) :
    Calls Try.prog 60 #[.int .i64 a0, .int .i64 a1] w fun e w' => e = .returned (.int .i64 r) ∧ Drawn0 w w' := by
  have H : ((cmp_isNaN_int.f a0).bind fun t104 => ((cmp_isNaN_int.f a1).bind fun t105 => (if t104 = true then (if t105 = true then (some 0) else (some (-1))) else (if t105 = true then (some 1) else (if a0 < a1 then (some (-1)) else (if a0 > a1 then (some 1) else (some 0))))))) = some r := h
  clear h
  replace H := Option.bind_eq_some_iff.mp H
  obtain ⟨t104, A30, H⟩ := H
  replace H : ((cmp_isNaN_int.f a1).bind fun t105 => (if t104 = true then (if t105 = true then (some 0) else (some (-1))) else (if t105 = true then (some 1) else (if a0 < a1 then (some (-1)) else (if a0 > a1 then (some 1) else (some 0)))))) = some r := H
  have A3 := Aside0.mk A30
  clear A30
  replace H := Option.bind_eq_some_iff.mp H
  obtain ⟨t105, A40, H⟩ := H
  replace H : (if t104 = true then (if t105 = true then (some 0) else (some (-1))) else (if t105 = true then (some 1) else (if a0 < a1 then (some (-1)) else (if a0 > a1 then (some 1) else (some 0))))) = some r := H
  have A4 := Aside0.mk A40
  clear A40
  by_cases c5 : t104 = true
  · subst c5
    have H1 : (if t105 = true then (some 0) else (some (-1))) = some r := by rw [if_pos rfl] at H; exact H
    clear H
    have H := H1
    clear H1
    by_cases c6 : t105 = true
    · subst c6
      have H1 : (some 0) = some r := by rw [if_pos rfl] at H; exact H
      clear H
      have H := H1
      clear H1
      obtain rfl := Option.some.inj H
      go_enter Try.func60, Try.ntmps60
      go_wp2_with (first | ((with_reducible refine gate_callee (f := 66) rfl ?_); refine goesL_ (some 8) rfl rfl Try.func66 (by kernel_rfl) rfl #[.int .i64 a0] rfl (by (try simp only [List.map_toArray, List.map_cons, List.map_nil]); first | done | rfl | (simp only [List.length_drop, List.length_take]; rfl)) ?_; (with_reducible refine (cmp_isNaN_int.calls a0 true _ A3.out).mono ?_); rintro e w' ⟨rfl, ⟨nd, rfl⟩⟩; refine ⟨_, rfl, ?_⟩) | ((with_reducible refine gate_callee (f := 66) rfl ?_); refine goesL_ (some 10) rfl rfl Try.func66 (by kernel_rfl) rfl #[.int .i64 a1] rfl (by (try simp only [List.map_toArray, List.map_cons, List.map_nil]); first | done | rfl | (simp only [List.length_drop, List.length_take]; rfl)) ?_; (with_reducible refine (cmp_isNaN_int.calls a1 true _ A4.out).mono ?_); rintro e w' ⟨rfl, ⟨nd, rfl⟩⟩; refine ⟨_, rfl, ?_⟩))
      go_ret
      exact ⟨by first | rfl | (simp; done) | (simp [*]; done), by repeat (first | exact Drawn0.refl _ | apply Drawn0.step)⟩
    · replace c6 := Bool.eq_false_iff.mpr c6
      subst c6
      have H1 : (some (-1)) = some r := by rw [if_neg (show ¬ (false = true) by decide)] at H; exact H
      clear H
      have H := H1
      clear H1
      obtain rfl := Option.some.inj H
      go_enter Try.func60, Try.ntmps60
      go_wp2_with (first | ((with_reducible refine gate_callee (f := 66) rfl ?_); refine goesL_ (some 8) rfl rfl Try.func66 (by kernel_rfl) rfl #[.int .i64 a0] rfl (by (try simp only [List.map_toArray, List.map_cons, List.map_nil]); first | done | rfl | (simp only [List.length_drop, List.length_take]; rfl)) ?_; (with_reducible refine (cmp_isNaN_int.calls a0 true _ A3.out).mono ?_); rintro e w' ⟨rfl, ⟨nd, rfl⟩⟩; refine ⟨_, rfl, ?_⟩) | ((with_reducible refine gate_callee (f := 66) rfl ?_); refine goesL_ (some 10) rfl rfl Try.func66 (by kernel_rfl) rfl #[.int .i64 a1] rfl (by (try simp only [List.map_toArray, List.map_cons, List.map_nil]); first | done | rfl | (simp only [List.length_drop, List.length_take]; rfl)) ?_; (with_reducible refine (cmp_isNaN_int.calls a1 false _ A4.out).mono ?_); rintro e w' ⟨rfl, ⟨nd, rfl⟩⟩; refine ⟨_, rfl, ?_⟩))
      go_ret
      exact ⟨by first | rfl | (simp; done) | (simp [*]; done), by repeat (first | exact Drawn0.refl _ | apply Drawn0.step)⟩
  · replace c5 := Bool.eq_false_iff.mpr c5
    subst c5
    have H1 : (if t105 = true then (some 1) else (if a0 < a1 then (some (-1)) else (if a0 > a1 then (some 1) else (some 0)))) = some r := by rw [if_neg (show ¬ (false = true) by decide)] at H; exact H
    clear H
    have H := H1
    clear H1
    by_cases c7 : t105 = true
    · subst c7
      have H1 : (some 1) = some r := by rw [if_pos rfl] at H; exact H
      clear H
      have H := H1
      clear H1
      obtain rfl := Option.some.inj H
      go_enter Try.func60, Try.ntmps60
      go_wp2_with (first | ((with_reducible refine gate_callee (f := 66) rfl ?_); refine goesL_ (some 8) rfl rfl Try.func66 (by kernel_rfl) rfl #[.int .i64 a0] rfl (by (try simp only [List.map_toArray, List.map_cons, List.map_nil]); first | done | rfl | (simp only [List.length_drop, List.length_take]; rfl)) ?_; (with_reducible refine (cmp_isNaN_int.calls a0 false _ A3.out).mono ?_); rintro e w' ⟨rfl, ⟨nd, rfl⟩⟩; refine ⟨_, rfl, ?_⟩) | ((with_reducible refine gate_callee (f := 66) rfl ?_); refine goesL_ (some 10) rfl rfl Try.func66 (by kernel_rfl) rfl #[.int .i64 a1] rfl (by (try simp only [List.map_toArray, List.map_cons, List.map_nil]); first | done | rfl | (simp only [List.length_drop, List.length_take]; rfl)) ?_; (with_reducible refine (cmp_isNaN_int.calls a1 true _ A4.out).mono ?_); rintro e w' ⟨rfl, ⟨nd, rfl⟩⟩; refine ⟨_, rfl, ?_⟩))
      go_ret
      exact ⟨by first | rfl | (simp; done) | (simp [*]; done), by repeat (first | exact Drawn0.refl _ | apply Drawn0.step)⟩
    · replace c7 := Bool.eq_false_iff.mpr c7
      subst c7
      have H1 : (if a0 < a1 then (some (-1)) else (if a0 > a1 then (some 1) else (some 0))) = some r := by rw [if_neg (show ¬ (false = true) by decide)] at H; exact H
      clear H
      have H := H1
      clear H1
      by_cases c8 : a0 < a1
      · rw [if_pos c8] at H
        have c8b0 : decide (a0 < a1) = true := decide_eq_true c8
        clear c8
        obtain rfl := Option.some.inj H
        go_enter Try.func60, Try.ntmps60
        go_wp2_with (first | ((with_reducible refine gate_callee (f := 66) rfl ?_); refine goesL_ (some 8) rfl rfl Try.func66 (by kernel_rfl) rfl #[.int .i64 a0] rfl (by (try simp only [List.map_toArray, List.map_cons, List.map_nil]); first | done | rfl | (simp only [List.length_drop, List.length_take]; rfl)) ?_; (with_reducible refine (cmp_isNaN_int.calls a0 false _ A3.out).mono ?_); rintro e w' ⟨rfl, ⟨nd, rfl⟩⟩; refine ⟨_, rfl, ?_⟩) | ((with_reducible refine gate_callee (f := 66) rfl ?_); refine goesL_ (some 10) rfl rfl Try.func66 (by kernel_rfl) rfl #[.int .i64 a1] rfl (by (try simp only [List.map_toArray, List.map_cons, List.map_nil]); first | done | rfl | (simp only [List.length_drop, List.length_take]; rfl)) ?_; (with_reducible refine (cmp_isNaN_int.calls a1 false _ A4.out).mono ?_); rintro e w' ⟨rfl, ⟨nd, rfl⟩⟩; refine ⟨_, rfl, ?_⟩))
        go_ret
        exact ⟨by first | rfl | (simp; done) | (simp [*]; done), by repeat (first | exact Drawn0.refl _ | apply Drawn0.step)⟩
      · rw [if_neg c8] at H
        have c8b0 : decide (a0 < a1) = false := decide_eq_false c8
        clear c8
        by_cases c9 : a0 > a1
        · rw [if_pos c9] at H
          have c9b0 : decide (a1 < a0) = true := decide_eq_true c9
          clear c9
          obtain rfl := Option.some.inj H
          go_enter Try.func60, Try.ntmps60
          go_wp2_with (first | ((with_reducible refine gate_callee (f := 66) rfl ?_); refine goesL_ (some 8) rfl rfl Try.func66 (by kernel_rfl) rfl #[.int .i64 a0] rfl (by (try simp only [List.map_toArray, List.map_cons, List.map_nil]); first | done | rfl | (simp only [List.length_drop, List.length_take]; rfl)) ?_; (with_reducible refine (cmp_isNaN_int.calls a0 false _ A3.out).mono ?_); rintro e w' ⟨rfl, ⟨nd, rfl⟩⟩; refine ⟨_, rfl, ?_⟩) | ((with_reducible refine gate_callee (f := 66) rfl ?_); refine goesL_ (some 10) rfl rfl Try.func66 (by kernel_rfl) rfl #[.int .i64 a1] rfl (by (try simp only [List.map_toArray, List.map_cons, List.map_nil]); first | done | rfl | (simp only [List.length_drop, List.length_take]; rfl)) ?_; (with_reducible refine (cmp_isNaN_int.calls a1 false _ A4.out).mono ?_); rintro e w' ⟨rfl, ⟨nd, rfl⟩⟩; refine ⟨_, rfl, ?_⟩))
          go_ret
          exact ⟨by first | rfl | (simp; done) | (simp [*]; done), by repeat (first | exact Drawn0.refl _ | apply Drawn0.step)⟩
        · rw [if_neg c9] at H
          have c9b0 : decide (a1 < a0) = false := decide_eq_false c9
          clear c9
          obtain rfl := Option.some.inj H
          go_enter Try.func60, Try.ntmps60
          go_wp2_with (first | ((with_reducible refine gate_callee (f := 66) rfl ?_); refine goesL_ (some 8) rfl rfl Try.func66 (by kernel_rfl) rfl #[.int .i64 a0] rfl (by (try simp only [List.map_toArray, List.map_cons, List.map_nil]); first | done | rfl | (simp only [List.length_drop, List.length_take]; rfl)) ?_; (with_reducible refine (cmp_isNaN_int.calls a0 false _ A3.out).mono ?_); rintro e w' ⟨rfl, ⟨nd, rfl⟩⟩; refine ⟨_, rfl, ?_⟩) | ((with_reducible refine gate_callee (f := 66) rfl ?_); refine goesL_ (some 10) rfl rfl Try.func66 (by kernel_rfl) rfl #[.int .i64 a1] rfl (by (try simp only [List.map_toArray, List.map_cons, List.map_nil]); first | done | rfl | (simp only [List.length_drop, List.length_take]; rfl)) ?_; (with_reducible refine (cmp_isNaN_int.calls a1 false _ A4.out).mono ?_); rintro e w' ⟨rfl, ⟨nd, rfl⟩⟩; refine ⟨_, rfl, ?_⟩))
          go_ret
          exact ⟨by first | rfl | (simp; done) | (simp [*]; done), by repeat (first | exact Drawn0.refl _ | apply Drawn0.step)⟩

/-! ### cmp_isNaN_uint8: function 67 -/
def cmp_isNaN_uint8.f (a0 : Int) : Option (Bool) := some (a0 != a0)
set_option maxHeartbeats 8000000 in
set_option maxRecDepth 100000 in
theorem cmp_isNaN_uint8.calls (a0 : Int) (r : Bool) (w : World) (h : cmp_isNaN_uint8.f a0 = some r) :
    Calls Try.prog 67 #[.int .u8 a0] w fun e w' => e = .returned (.bool r) ∧ Drawn0 w w' := by
  have H : (some (a0 != a0)) = some r := h
  clear h
  obtain rfl := Option.some.inj H
  go_enter Try.func67, Try.ntmps67
  go_wp2
  go_ret
  exact ⟨by first | rfl | (simp; done) | (simp [*]; done), by repeat (first | exact Drawn0.refl _ | apply Drawn0.step)⟩

/-! ### cmp_Compare_uint8: function 61 -/
def cmp_Compare_uint8.f (a0 : Int) (a1 : Int) : Option (Int) := (cmp_isNaN_uint8.f a0).bind fun t106 => ((cmp_isNaN_uint8.f a1).bind fun t107 => (if t106 = true then (if t107 = true then (some 0) else (some (-1))) else (if t107 = true then (some 1) else (if a0 < a1 then (some (-1)) else (if a0 > a1 then (some 1) else (some 0))))))
set_option maxHeartbeats 8000000 in
set_option maxRecDepth 100000 in
theorem cmp_Compare_uint8.calls (a0 : Int) (a1 : Int) (r : Int) (w : World) (h : cmp_Compare_uint8.f a0 a1 = some r) :
    Calls Try.prog 61 #[.int .u8 a0, .int .u8 a1] w fun e w' => e = .returned (.int .i64 r) ∧ Drawn0 w w' := by
  have H : ((cmp_isNaN_uint8.f a0).bind fun t106 => ((cmp_isNaN_uint8.f a1).bind fun t107 => (if t106 = true then (if t107 = true then (some 0) else (some (-1))) else (if t107 = true then (some 1) else (if a0 < a1 then (some (-1)) else (if a0 > a1 then (some 1) else (some 0))))))) = some r := h
  clear h
  replace H := Option.bind_eq_some_iff.mp H
  obtain ⟨t106, A30, H⟩ := H
  replace H : ((cmp_isNaN_uint8.f a1).bind fun t107 => (if t106 = true then (if t107 = true then (some 0) else (some (-1))) else (if t107 = true then (some 1) else (if a0 < a1 then (some (-1)) else (if a0 > a1 then (some 1) else (some 0)))))) = some r := H
  have A3 := Aside0.mk A30
  clear A30
  replace H := Option.bind_eq_some_iff.mp H
  obtain ⟨t107, A40, H⟩ := H
  replace H : (if t106 = true then (if t107 = true then (some 0) else (some (-1))) else (if t107 = true then (some 1) else (if a0 < a1 then (some (-1)) else (if a0 > a1 then (some 1) else (some 0))))) = some r := H
  have A4 := Aside0.mk A40
  clear A40
  by_cases c5 : t106 = true
  · subst c5
    have H1 : (if t107 = true then (some 0) else (some (-1))) = some r := by rw [if_pos rfl] at H; exact H
    clear H
    have H := H1
    clear H1
    by_cases c6 : t107 = true
    · subst c6
      have H1 : (some 0) = some r := by rw [if_pos rfl] at H; exact H
      clear H
      have H := H1
      clear H1
      obtain rfl := Option.some.inj H
      go_enter Try.func61, Try.ntmps61
      go_wp2_with (first | ((with_reducible refine gate_callee (f := 67) rfl ?_); refine goesL_ (some 8) rfl rfl Try.func67 (by kernel_rfl) rfl #[.int .u8 a0] rfl (by (try simp only [List.map_toArray, List.map_cons, List.map_nil]); first | done | rfl | (simp only [List.length_drop, List.length_take]; rfl)) ?_; (with_reducible refine (cmp_isNaN_uint8.calls a0 true _ A3.out).mono ?_); rintro e w' ⟨rfl, ⟨nd, rfl⟩⟩; refine ⟨_, rfl, ?_⟩) | ((with_reducible refine gate_callee (f := 67) rfl ?_); refine goesL_ (some 10) rfl rfl Try.func67 (by kernel_rfl) rfl #[.int .u8 a1] rfl (by (try simp only [List.map_toArray, List.map_cons, List.map_nil]); first | done | rfl | (simp only [List.length_drop, List.length_take]; rfl)) ?_; (with_reducible refine (cmp_isNaN_uint8.calls a1 true _ A4.out).mono ?_); rintro e w' ⟨rfl, ⟨nd, rfl⟩⟩; refine ⟨_, rfl, ?_⟩))
      go_ret
      exact ⟨by first | rfl | (simp; done) | (simp [*]; done), by repeat (first | exact Drawn0.refl _ | apply Drawn0.step)⟩
    · replace c6 := Bool.eq_false_iff.mpr c6
      subst c6
      have H1 : (some (-1)) = some r := by rw [if_neg (show ¬ (false = true) by decide)] at H; exact H
      clear H
      have H := H1
      clear H1
      obtain rfl := Option.some.inj H
      go_enter Try.func61, Try.ntmps61
      go_wp2_with (first | ((with_reducible refine gate_callee (f := 67) rfl ?_); refine goesL_ (some 8) rfl rfl Try.func67 (by kernel_rfl) rfl #[.int .u8 a0] rfl (by (try simp only [List.map_toArray, List.map_cons, List.map_nil]); first | done | rfl | (simp only [List.length_drop, List.length_take]; rfl)) ?_; (with_reducible refine (cmp_isNaN_uint8.calls a0 true _ A3.out).mono ?_); rintro e w' ⟨rfl, ⟨nd, rfl⟩⟩; refine ⟨_, rfl, ?_⟩) | ((with_reducible refine gate_callee (f := 67) rfl ?_); refine goesL_ (some 10) rfl rfl Try.func67 (by kernel_rfl) rfl #[.int .u8 a1] rfl (by (try simp only [List.map_toArray, List.map_cons, List.map_nil]); first | done | rfl | (simp only [List.length_drop, List.length_take]; rfl)) ?_; (with_reducible refine (cmp_isNaN_uint8.calls a1 false _ A4.out).mono ?_); rintro e w' ⟨rfl, ⟨nd, rfl⟩⟩; refine ⟨_, rfl, ?_⟩))
      go_ret
      exact ⟨by first | rfl | (simp; done) | (simp [*]; done), by repeat (first | exact Drawn0.refl _ | apply Drawn0.step)⟩
  · replace c5 := Bool.eq_false_iff.mpr c5
    subst c5
    have H1 : (if t107 = true then (some 1) else (if a0 < a1 then (some (-1)) else (if a0 > a1 then (some 1) else (some 0)))) = some r := by rw [if_neg (show ¬ (false = true) by decide)] at H; exact H
    clear H
    have H := H1
    clear H1
    by_cases c7 : t107 = true
    · subst c7
      have H1 : (some 1) = some r := by rw [if_pos rfl] at H; exact H
      clear H
      have H := H1
      clear H1
      obtain rfl := Option.some.inj H
      go_enter Try.func61, Try.ntmps61
      go_wp2_with (first | ((with_reducible refine gate_callee (f := 67) rfl ?_); refine goesL_ (some 8) rfl rfl Try.func67 (by kernel_rfl) rfl #[.int .u8 a0] rfl (by (try simp only [List.map_toArray, List.map_cons, List.map_nil]); first | done | rfl | (simp only [List.length_drop, List.length_take]; rfl)) ?_; (with_reducible refine (cmp_isNaN_uint8.calls a0 false _ A3.out).mono ?_); rintro e w' ⟨rfl, ⟨nd, rfl⟩⟩; refine ⟨_, rfl, ?_⟩) | ((with_reducible refine gate_callee (f := 67) rfl ?_); refine goesL_ (some 10) rfl rfl Try.func67 (by kernel_rfl) rfl #[.int .u8 a1] rfl (by (try simp only [List.map_toArray, List.map_cons, List.map_nil]); first | done | rfl | (simp only [List.length_drop, List.length_take]; rfl)) ?_; (with_reducible refine (cmp_isNaN_uint8.calls a1 true _ A4.out).mono ?_); rintro e w' ⟨rfl, ⟨nd, rfl⟩⟩; refine ⟨_, rfl, ?_⟩))
      go_ret
      exact ⟨by first | rfl | (simp; done) | (simp [*]; done), by repeat (first | exact Drawn0.refl _ | apply Drawn0.step)⟩
    · replace c7 := Bool.eq_false_iff.mpr c7
      subst c7
      have H1 : (if a0 < a1 then (some (-1)) else (if a0 > a1 then (some 1) else (some 0))) = some r := by rw [if_neg (show ¬ (false = true) by decide)] at H; exact H
      clear H
      have H := H1
      clear H1
      by_cases c8 : a0 < a1
      · rw [if_pos c8] at H
        have c8b0 : decide (a0 < a1) = true := decide_eq_true c8
        clear c8
        obtain rfl := Option.some.inj H
        go_enter Try.func61, Try.ntmps61
        go_wp2_with (first | ((with_reducible refine gate_callee (f := 67) rfl ?_); refine goesL_ (some 8) rfl rfl Try.func67 (by kernel_rfl) rfl #[.int .u8 a0] rfl (by (try simp only [List.map_toArray, List.map_cons, List.map_nil]); first | done | rfl | (simp only [List.length_drop, List.length_take]; rfl)) ?_; (with_reducible refine (cmp_isNaN_uint8.calls a0 false _ A3.out).mono ?_); rintro e w' ⟨rfl, ⟨nd, rfl⟩⟩; refine ⟨_, rfl, ?_⟩) | ((with_reducible refine gate_callee (f := 67) rfl ?_); refine goesL_ (some 10) rfl rfl Try.func67 (by kernel_rfl) rfl #[.int .u8 a1] rfl (by (try simp only [List.map_toArray, List.map_cons, List.map_nil]); first | done | rfl | (simp only [List.length_drop, List.length_take]; rfl)) ?_; (with_reducible refine (cmp_isNaN_uint8.calls a1 false _ A4.out).mono ?_); rintro e w' ⟨rfl, ⟨nd, rfl⟩⟩; refine ⟨_, rfl, ?_⟩))
        go_ret
        exact ⟨by first | rfl | (simp; done) | (simp [*]; done), by repeat (first | exact Drawn0.refl _ | apply Drawn0.step)⟩
      · rw [if_neg c8] at H
        have c8b0 : decide (a0 < a1) = false := decide_eq_false c8
        clear c8
        by_cases c9 : a0 > a1
        · rw [if_pos c9] at H
          have c9b0 : decide (a1 < a0) = true := decide_eq_true c9
          clear c9
          obtain rfl := Option.some.inj H
          go_enter Try.func61, Try.ntmps61
          go_wp2_with (first | ((with_reducible refine gate_callee (f := 67) rfl ?_); refine goesL_ (some 8) rfl rfl Try.func67 (by kernel_rfl) rfl #[.int .u8 a0] rfl (by (try simp only [List.map_toArray, List.map_cons, List.map_nil]); first | done | rfl | (simp only [List.length_drop, List.length_take]; rfl)) ?_; (with_reducible refine (cmp_isNaN_uint8.calls a0 false _ A3.out).mono ?_); rintro e w' ⟨rfl, ⟨nd, rfl⟩⟩; refine ⟨_, rfl, ?_⟩) | ((with_reducible refine gate_callee (f := 67) rfl ?_); refine goesL_ (some 10) rfl rfl Try.func67 (by kernel_rfl) rfl #[.int .u8 a1] rfl (by (try simp only [List.map_toArray, List.map_cons, List.map_nil]); first | done | rfl | (simp only [List.length_drop, List.length_take]; rfl)) ?_; (with_reducible refine (cmp_isNaN_uint8.calls a1 false _ A4.out).mono ?_); rintro e w' ⟨rfl, ⟨nd, rfl⟩⟩; refine ⟨_, rfl, ?_⟩))
          go_ret
          exact ⟨by first | rfl | (simp; done) | (simp [*]; done), by repeat (first | exact Drawn0.refl _ | apply Drawn0.step)⟩
        · rw [if_neg c9] at H
          have c9b0 : decide (a1 < a0) = false := decide_eq_false c9
          clear c9
          obtain rfl := Option.some.inj H
          go_enter Try.func61, Try.ntmps61
          go_wp2_with (first | ((with_reducible refine gate_callee (f := 67) rfl ?_); refine goesL_ (some 8) rfl rfl Try.func67 (by kernel_rfl) rfl #[.int .u8 a0] rfl (by (try simp only [List.map_toArray, List.map_cons, List.map_nil]); first | done | rfl | (simp only [List.length_drop, List.length_take]; rfl)) ?_; (with_reducible refine (cmp_isNaN_uint8.calls a0 false _ A3.out).mono ?_); rintro e w' ⟨rfl, ⟨nd, rfl⟩⟩; refine ⟨_, rfl, ?_⟩) | ((with_reducible refine gate_callee (f := 67) rfl ?_); refine goesL_ (some 10) rfl rfl Try.func67 (by kernel_rfl) rfl #[.int .u8 a1] rfl (by (try simp only [List.map_toArray, List.map_cons, List.map_nil]); first | done | rfl | (simp only [List.length_drop, List.length_take]; rfl)) ?_; (with_reducible refine (cmp_isNaN_uint8.calls a1 false _ A4.out).mono ?_); rintro e w' ⟨rfl, ⟨nd, rfl⟩⟩; refine ⟨_, rfl, ?_⟩))
          go_ret
          exact ⟨by first | rfl | (simp; done) | (simp [*]; done), by repeat (first | exact Drawn0.refl _ | apply Drawn0.step)⟩

/-! ### cmp_isNaN_string: function 68 -/
def cmp_isNaN_string.f (a0 : ByteArray) : Option (Bool) := some (a0.toList != a0.toList)
set_option maxHeartbeats 8000000 in
set_option maxRecDepth 100000 in
theorem cmp_isNaN_string.calls (a0 : ByteArray) (r : Bool) (w : World) (h : cmp_isNaN_string.f a0 = some r) :
    Calls Try.prog 68 #[.string a0] w fun e w' => e = .returned (.bool r) ∧ Drawn0 w w' := by
  have H : (some (a0.toList != a0.toList)) = some r := h
  clear h
  obtain rfl := Option.some.inj H
  go_enter Try.func68, Try.ntmps68
  go_wp2
  go_ret
  exact ⟨by first | rfl | (simp; done) | (simp [*]; done), by repeat (first | exact Drawn0.refl _ | apply Drawn0.step)⟩

end Go.Proofs.Ytbhmncenbpdcjaa.P
end
