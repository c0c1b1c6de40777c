/- Texts of this claim, laid one behind the other: FRefOne2, FRefApply, FFind, FEq, Own, Put, Works06, FLaw1, FChg, FLaw2L, FLaw2W, End, Opens, FFit. -/
import Derived.Maps.AppendAt
import Derived.Laws.OwnMore
import Derived.Laws.MakeOwn
import Derived.Deep.AppendLies
import Derived.Lib.ConvBytes
import Derived.Deep.RegionHeld3
import Derived.Deep.DrawnRows
import Derived.Below
import Derived.ChangeSame
import Derived.Carry
import Derived.WideKeyArgs
import Derived.Test.YtbhmncenbpdcjaaRows
import Derived.Test.YtbhmncenbpdcjaaWMore
import Derived.ChangeArms
import Derived.SizedLaws
import Derived.ChangeSlices
import Derived.Test.YtbhmncenbpdcjaaZ1
import Derived.Test.YtbhmncenbpdcjaaZ2
section
/- carrackref06.one: its contract. -/
namespace Go.Proofs.Ytbhmncenbpdcjaa.P
open Go Go.Shelf Go.RowKit Go.Proofs.YtbhmncenbpdcjaaW.PrintWords Go.Proofs.YtbhmncenbpdcjaaW.PrintLast Go.Proofs.YtbhmncenbpdcjaaW.PrintMore
set_option linter.unusedVariables false
set_option linter.unusedSimpArgs false
attribute [local go_sem] Oper.semAt_some
theorem oneL_length (c : Ch) : ∀ (l : List F) (done : Bool), (oneL c done l).length ≤ l.length + (if done then 0 else 1)
  | [], done => by cases done <;> simp [oneL]
  | x :: l, done => by
    unfold oneL
    have h1 := oneL_length c l true
    have h2 := oneL_length c l done
    simp only [if_true] at h1
    split
    · split
      · rename_i hd; subst hd; simp at h1 ⊢; omega
      · rename_i hd; simp [hd] at h1 ⊢; omega
    · split
      · rename_i hb; cases done <;> simp at hb h1 ⊢; omega
      · simp at h2 ⊢; omega
theorem own_reads {w0 : World} {bx : Nat} {c : Ch} {A4 : Option Addr} {c4 : Nat} {ov v : Value} {W : World} {ps : List F} (hI : OneI w0 bx c A4 c4 ov W) (hO : OwnRow (GK w0 ov c) 47 5 W w0.heap.size v ps) :
    ∃ A n, v = .slice A ps.length n ∧ ps.length ≤ n ∧ Kd.C k47 W A ps.length ps :=
  (hO.imp_ (R' := k47.K W) fun p cs h => h W hI.2.2 hI.2.1).reads
def OneEnd (c : Ch) (l : List F) (w : World) (e : Ending) (w' : World) : Prop := ∃ A n, e = .returned (.slice A (oneL c c.f2 l).length n) ∧ (oneL c c.f2 l).length ≤ n ∧ Kd.C k47 w' A (oneL c c.f2 l).length (oneL c c.f2 l) ∧ Below w.heap.size w w'
/-- Between two rounds. -/
def OnI (u1 u2 u4 u9 u10 u11 u12 u13 u14 : Value) (bx : Nat) (A : Option Addr) (cap : Nat) (l : List F) (w0 : World) (c : Ch) (A4 : Option Addr) (c4 : Nat) (Ao : Option Addr) (co : Nat) (a : Act) (W : World) : Prop :=
  ∃ (i : Nat) (vout : Value) (pre : List F) (done : Bool) (v15 v16 v17 v18 v19 v20 v21 v22 v23 v24 v25 v26 v27 v28 v29 v30 v31 v32 v33 v34 v35 v36 v37 v38 v39 v40 v41 v42 v43 v44 v45 v46 v47 v48 v49 v50 v51 v52 v53 v54 v55 v56 v57 v58 v59 v60 v61 v62 v63 v64 v65 v66 v67 v68 v69 v70 v71 v72 v73 : Value), a = { tmps := #[.slice A l.length cap, u1, u2, .pointer (some ⟨bx, 0, none⟩), u4, vout, .bool done, .slice Ao c.f1.length co, .int .i64 i, u9, u10, u11, u12, u13, u14, v15, v16, v17, v18, v19, v20, v21, v22, v23, v24, v25, v26, v27, v28, v29, v30, v31, v32, v33, v34, v35, v36, v37, v38, v39, v40, v41, v42, v43, v44, v45, v46, v47, v48, v49, v50, v51, v52, v53, v54, v55, v56, v57, v58, v59, v60, v61, v62, v63, v64, v65, v66, v67, v68, v69, v70, v71, v72, v73], defers := [] } ∧ i ≤ l.length ∧
    OneI w0 bx c A4 c4 (.slice Ao c.f1.length co) W ∧ OwnRow (GK w0 (.slice Ao c.f1.length co) c) 47 5 W w0.heap.size vout pre ∧ pre ++ oneL c done (l.drop i) = oneL c c.f2 l
set_option maxRecDepth 100000 in
set_option maxHeartbeats 4000000 in
theorem one_exit (u1 u2 u3 u4 u5 u6 u7 u9 u10 u11 u12 u13 u14 u15 u16 u17 u18 u19 u20 u21 u22 u23 u24 u25 u26 u27 u28 u29 u30 u31 u32 u33 u34 u35 u36 u37 u38 u39 u40 u41 u42 u43 u44 u45 u46 u47 u48 u49 u50 u51 u52 u53 u54 u55 u56 u57 u58 u59 u60 u61 u62 u63 u64 u65 u66 u67 u68 u69 u70 u71 u72 u73 : Value) (A : Option Addr) (cap : Nat) (l : List F) (hl : l.length ≤ 9223372036854775807) (W : World) (Q : Exit → Act → World → Prop)
    (hQ : ∀ (v15 v16 v17 v18 : Value), Q (.exit 0) { tmps := #[.slice A l.length cap, u1, u2, u3, u4, u5, u6, u7, .int .i64 l.length, u9, u10, u11, u12, u13, u14, v15, v16, v17, v18, u19, u20, u21, u22, u23, u24, u25, u26, u27, u28, u29, u30, u31, u32, u33, u34, u35, u36, u37, u38, u39, u40, u41, u42, u43, u44, u45, u46, u47, u48, u49, u50, u51, u52, u53, u54, u55, u56, u57, u58, u59, u60, u61, u62, u63, u64, u65, u66, u67, u68, u69, u70, u71, u72, u73], defers := [] } W) :
    Code.wp Try.prog oneBody Q { tmps := #[.slice A l.length cap, u1, u2, u3, u4, u5, u6, u7, .int .i64 l.length, u9, u10, u11, u12, u13, u14, u15, u16, u17, u18, u19, u20, u21, u22, u23, u24, u25, u26, u27, u28, u29, u30, u31, u32, u33, u34, u35, u36, u37, u38, u39, u40, u41, u42, u43, u44, u45, u46, u47, u48, u49, u50, u51, u52, u53, u54, u55, u56, u57, u58, u59, u60, u61, u62, u63, u64, u65, u66, u67, u68, u69, u70, u71, u72, u73], defers := [] } W := by
  conv => arg 2; whnf
  have HQ := Lib.hid hQ
  clear hQ
  go_wp2_with fail
  exact HQ.out _ _ _ _
set_option maxRecDepth 100000 in
set_option maxHeartbeats 4000000 in
theorem one_loop (u1 u2 u4 u9 u10 u11 u12 u13 u14 u15 u16 u17 u18 u19 u20 u21 u22 u23 u24 u25 u26 u27 u28 u29 u30 u31 u32 u33 u34 u35 u36 u37 u38 u39 u40 u41 u42 u43 u44 u45 u46 u47 u48 u49 u50 u51 u52 u53 u54 u55 u56 u57 u58 u59 u60 u61 u62 u63 u64 u65 u66 u67 u68 u69 u70 u71 u72 u73 : Value) (bx : Nat) (A : Option Addr) (cap : Nat) (l : List F) (w0 : World) (c : Ch) (A4 : Option Addr) (c4 : Nat) (Ao : Option Addr) (co : Nat) (W : World) (Q : Exit → Act → World → Prop)
    (hn : ∀ x ∈ l, x.f0.f2.size ≤ maxLen) (hcn : c.f0.f2.size ≤ maxLen) (hr : Kd.C k47 w0 A l.length l) (hc : l.length ≤ cap) (hbig : (l.length + 3) * 64 ≤ 140737488355328) (hI : OneI w0 bx c A4 c4 (.slice Ao c.f1.length co) W)
    (hQ : ∀ (v15 v16 v17 v18 v19 v20 v21 v22 v23 v24 v25 v26 v27 v28 v29 v30 v31 v32 v33 v34 v35 v36 v37 v38 v39 v40 v41 v42 v43 v44 v45 v46 v47 v48 v49 v50 v51 v52 v53 v54 v55 v56 v57 v58 v59 v60 v61 v62 v63 v64 v65 v66 v67 v68 v69 v70 v71 v72 v73 v' : Value) (pre : List F) (done : Bool) (W' : World), OneI w0 bx c A4 c4 (.slice Ao c.f1.length co) W' → OwnRow (GK w0 (.slice Ao c.f1.length co) c) 47 5 W' w0.heap.size v' pre → pre ++ oneL c done [] = oneL c c.f2 l → pre.length ≤ l.length + 1 →
      Q (.exit 0) { tmps := #[.slice A l.length cap, u1, u2, .pointer (some ⟨bx, 0, none⟩), u4, v', .bool done, .slice Ao c.f1.length co, .int .i64 l.length, u9, u10, u11, u12, u13, u14, v15, v16, v17, v18, v19, v20, v21, v22, v23, v24, v25, v26, v27, v28, v29, v30, v31, v32, v33, v34, v35, v36, v37, v38, v39, v40, v41, v42, v43, v44, v45, v46, v47, v48, v49, v50, v51, v52, v53, v54, v55, v56, v57, v58, v59, v60, v61, v62, v63, v64, v65, v66, v67, v68, v69, v70, v71, v72, v73], defers := [] } W') :
    Code.wp Try.prog (.loop oneBody) Q { tmps := #[.slice A l.length cap, u1, u2, .pointer (some ⟨bx, 0, none⟩), u4, .slice none 0 0, .bool c.f2, .slice Ao c.f1.length co, .int .i64 0, u9, u10, u11, u12, u13, u14, u15, u16, u17, u18, u19, u20, u21, u22, u23, u24, u25, u26, u27, u28, u29, u30, u31, u32, u33, u34, u35, u36, u37, u38, u39, u40, u41, u42, u43, u44, u45, u46, u47, u48, u49, u50, u51, u52, u53, u54, u55, u56, u57, u58, u59, u60, u61, u62, u63, u64, u65, u66, u67, u68, u69, u70, u71, u72, u73], defers := [] } W := by
  have hlen : ∀ (pre : List F) done i, pre ++ oneL c done (l.drop i) = oneL c c.f2 l → pre.length ≤ l.length + 1 := fun pre done i h => by
    have h1 := congrArg List.length h
    have h2 := oneL_length c l c.f2
    rw [List.length_append] at h1
    split at h2 <;> omega
  refine wp_loop (OnI u1 u2 u4 u9 u10 u11 u12 u13 u14 bx A cap l w0 c A4 c4 Ao co) (fun a _ => l.length - (intOf (a.tmps.getD 8 undef)).toNat) ?_ ?_
  · exact ⟨0, .slice none 0 0, [], c.f2, u15, u16, u17, u18, u19, u20, u21, u22, u23, u24, u25, u26, u27, u28, u29, u30, u31, u32, u33, u34, u35, u36, u37, u38, u39, u40, u41, u42, u43, u44, u45, u46, u47, u48, u49, u50, u51, u52, u53, u54, u55, u56, u57, u58, u59, u60, u61, u62, u63, u64, u65, u66, u67, u68, u69, u70, u71, u72, u73, rfl, Nat.zero_le _, hI, OwnRow.none_ _ _ _ _ _, rfl⟩
  · rintro a wr ⟨i, vout, pre, done, v15, v16, v17, v18, v19, v20, v21, v22, v23, v24, v25, v26, v27, v28, v29, v30, v31, v32, v33, v34, v35, v36, v37, v38, v39, v40, v41, v42, v43, v44, v45, v46, v47, v48, v49, v50, v51, v52, v53, v54, v55, v56, v57, v58, v59, v60, v61, v62, v63, v64, v65, v66, v67, v68, v69, v70, v71, v72, v73, rfl, hi, hIr, hOr, heq⟩
    have hpl := hlen pre done i heq
    rcases Nat.lt_or_ge i l.length with hlt | hge
    · refine one_round u1 u2 u4 u9 u10 u11 u12 u13 u14 v15 v16 v17 v18 v19 v20 v21 v22 v23 v24 v25 v26 v27 v28 v29 v30 v31 v32 v33 v34 v35 v36 v37 v38 v39 v40 v41 v42 v43 v44 v45 v46 v47 v48 v49 v50 v51 v52 v53 v54 v55 v56 v57 v58 v59 v60 v61 v62 v63 v64 v65 v66 v67 v68 v69 v70 v71 v72 v73 bx i A cap l w0 c A4 c4 Ao co vout pre done wr _ hlt hn hcn hr hc hIr hOr (by omega) ?_
      intro x15 x16 x17 x18 x19 x20 x21 x22 x23 x24 x25 x26 x27 x28 x29 x30 x31 x32 x33 x34 x35 x36 x37 x38 x39 x40 x41 x42 x43 x44 x45 x46 x47 x48 x49 x50 x51 x52 x53 x54 x55 x56 x57 x58 x59 x60 x61 x62 x63 x64 x65 x66 x67 x68 x69 x70 x71 x72 x73 v' pre' done' W' h1 h2 h3 h4
      refine ⟨⟨i + 1, v', pre', done', x15, x16, x17, x18, x19, x20, x21, x22, x23, x24, x25, x26, x27, x28, x29, x30, x31, x32, x33, x34, x35, x36, x37, x38, x39, x40, x41, x42, x43, x44, x45, x46, x47, x48, x49, x50, x51, x52, x53, x54, x55, x56, x57, x58, x59, x60, x61, x62, x63, x64, x65, x66, x67, x68, x69, x70, x71, x72, x73, by rw [show ((i : Int) + 1) = ((i + 1 : Nat) : Int) by omega], hlt, h1, h2, h3.symm.trans heq⟩, ?_⟩
      show l.length - (intOf (Value.int .i64 ((i : Int) + 1))).toNat < l.length - (intOf (Value.int .i64 (i : Int))).toNat
      simp [intOf]
      omega
    · obtain rfl : i = l.length := by omega
      refine one_exit u1 u2 _ u4 _ _ _ u9 u10 u11 u12 u13 u14 v15 v16 v17 v18 v19 v20 v21 v22 v23 v24 v25 v26 v27 v28 v29 v30 v31 v32 v33 v34 v35 v36 v37 v38 v39 v40 v41 v42 v43 v44 v45 v46 v47 v48 v49 v50 v51 v52 v53 v54 v55 v56 v57 v58 v59 v60 v61 v62 v63 v64 v65 v66 v67 v68 v69 v70 v71 v72 v73 A cap l hr.2.1 wr _ ?_
      intro x15 x16 x17 x18
      exact hQ x15 x16 x17 x18 v19 v20 v21 v22 v23 v24 v25 v26 v27 v28 v29 v30 v31 v32 v33 v34 v35 v36 v37 v38 v39 v40 v41 v42 v43 v44 v45 v46 v47 v48 v49 v50 v51 v52 v53 v54 v55 v56 v57 v58 v59 v60 v61 v62 v63 v64 v65 v66 v67 v68 v69 v70 v71 v72 v73 vout pre done wr hIr hOr (by rw [List.drop_length] at heq; exact heq) hpl
set_option maxRecDepth 100000 in
set_option maxHeartbeats 8000000 in
theorem one_any (A : Option Addr) (cap : Nat) (l : List F) (c : Ch) (A4 : Option Addr) (c4 : Nat) (w : World) (hr : Kd.C k47 w A l.length l) (hc : l.length ≤ cap) (hC : Kd.C (Kd.int .u8) w A4 c.f1.length c.f1) (hc4 : c.f1.length ≤ c4)
    (hn : ∀ x ∈ l, x.f0.f2.size ≤ maxLen) (hcn : c.f0.f2.size ≤ maxLen) (hbig : (l.length + 3) * 64 ≤ 140737488355328) (hcv : c.f1.length < 140737488355328) :
    Calls Try.prog 41 #[.slice A l.length cap, .agg #[.int .i64 c.f0.f0, .int .u8 c.f0.f1, .string c.f0.f2, .int .i64 c.f0.f3, .slice A4 c.f1.length c4, .bool c.f2]] w (OneEnd c l w) := by
  have HX := Lib.hid (And.intro hr (And.intro hc (And.intro hn (And.intro hcn hbig))))
  have HC := Aside0.mk hC
  have HC4 := Aside0.mk hc4
  have HB := Aside0.mk (Below.refl w.heap.size w)
  have LM := Aside0.mk hcv
  have hx0 := World.alloc_heap_new w (Obj.cells (cells6 c A4 c4).toArray 53)
  clear hr hc hC hc4 hn hcn hbig hcv
  go_enter Try.func41, Try.ntmps41
  go_wp2_with ((with_reducible refine gate_builtin (b := .append) (xs := #[.tmp 11, .tmp 13]) rfl ?_); at_builtin; refine Kd.R_append_rows (Kd.int .u8) (w0 := w) w.heap.size rfl (.tmp 11) (.tmp 13) 22 5 (.int .u8 0) 1 rfl Try.underlying22 info5 rfl (by decide) (by omega) (.slice none 0 0) ([] : List Int) c.f1 _ _ _ (fun _ => True) (fun _ => False) rfl rfl ?aO ?aR (fun _ _ h => h) (fun _ h => h.elim) ?aF ?aB ?aS ?aL ?_; (case aR => exact Kd.C_alloc HC.out _); (case aB => exact below_alloc HB.out _); (case aF => exact (fun _ _ => trivial)); (case aO => exact Kd.R_nil _ _ _ _ _); (case aS => simp); (case aL => have := LM.out; simp; omega); intro v2 w3 ho hb hg hat; rw [List.nil_append] at ho; obtain ⟨Ao, co, hvo⟩ := Kd.R_slice ho; subst hvo; have hx3 := (hg.block w.heap.size (by simp) (by simp [Value.ownBlock])).trans hx0; have HI := Lib.hid (show OneI w w.heap.size c A4 c4 (.slice Ao c.f1.length co) w3 from ⟨hx3, ho, hb⟩); clear ho hb hg hat hx3)
  obtain ⟨hr, hc, hn, hcn, hbig⟩ := HX.out
  refine one_loop _ _ _ _ _ _ _ _ _ _ _ _ _ _ _ _ _ _ _ _ _ _ _ _ _ _ _ _ _ _ _ _ _ _ _ _ _ _ _ _ _ _ _ _ _ _ _ _ _ _ _ _ _ _ _ _ _ _ _ _ _ _ _ _ _ _ _ _ w.heap.size A cap l w c A4 c4 Ao co w3 _ hn hcn hr hc hbig HI.out ?_
  intro v15 v16 v17 v18 v19 v20 v21 v22 v23 v24 v25 v26 v27 v28 v29 v30 v31 v32 v33 v34 v35 v36 v37 v38 v39 v40 v41 v42 v43 v44 v45 v46 v47 v48 v49 v50 v51 v52 v53 v54 v55 v56 v57 v58 v59 v60 v61 v62 v63 v64 v65 v66 v67 v68 v69 v70 v71 v72 v73 v' pre done W' hI hO heq hpl
  dsimp only
  obtain ⟨Ap, cp, rfl, _⟩ := hO.slice_
  have k0 : W'.cell? ⟨w.heap.size, 0, none⟩ = some (.int .i64 c.f0.f0) := by have hx := hI.1; simp [World.cell?, hx, cells6]
  have k1 : W'.cell? ⟨w.heap.size, 1, none⟩ = some (.int .u8 c.f0.f1) := by have hx := hI.1; simp [World.cell?, hx, cells6]
  have k2 : W'.cell? ⟨w.heap.size, 2, none⟩ = some (.string c.f0.f2) := by have hx := hI.1; simp [World.cell?, hx, cells6]
  have k3 : W'.cell? ⟨w.heap.size, 3, none⟩ = some (.int .i64 c.f0.f3) := by have hx := hI.1; simp [World.cell?, hx, cells6]
  have HZ := Lib.hid (And.intro hI (And.intro hO heq))
  clear hr hc hn hcn hI hO heq hx0
  cases done with
  | true =>
    go_wp2
    go_ret
    obtain ⟨hI, hO, heq⟩ := HZ.out
    rw [show oneL c true [] = [] from rfl, List.append_nil] at heq
    obtain ⟨A', n', hv, hle, hC'⟩ := own_reads hI hO
    injection hv with e1 _ e2
    subst e1 e2
    rw [heq] at hC' hle
    exact ⟨Ap, cp, by rw [heq]; rfl, hle, hC', hI.2.2⟩
  | false =>
    go_wp2_with (at_builtin; refine OwnRow.append (w0 := w) (R := GK w (.slice Ao c.f1.length co) c) w.heap.size rfl (.tmp 66) (.tmp 71) 38 47 (.agg #[.int .i64 0, .int .u8 0, .string ⟨#[]⟩, .int .i64 0, .slice none 0 0]) 5 64 rfl Try.underlying38 info47 rfl (by decide) (by decide) (.slice Ap pre.length cp) pre ⟨c.f0, c.f1⟩ [.int .i64 c.f0.f0, .int .u8 c.f0.f1, .string c.f0.f2, .int .i64 c.f0.f3, .slice Ao c.f1.length co] rfl rfl GK.own rfl (by simp [Value.oneCell']) HZ.out.2.1 HZ.out.1.2.2 HZ.out.1.2.2.size (by omega) ?_; intro v5 w5 ho5 hb5 hg5 hat5; obtain ⟨A5, c5, hv5, _⟩ := ho5.slice_; subst hv5; have HI5 := Lib.hid (OneI.grow HZ.out.1 HZ.out.2.1 hg5 hb5); have HO5 := Lib.hid ho5; clear ho5 hb5 hg5 hat5)
    go_ret
    obtain ⟨hI, hO, heq⟩ := HZ.out
    obtain ⟨A', n', hv, hle, hC'⟩ := own_reads HI5.out HO5.out
    injection hv with e1 _ e2
    subst e1 e2
    have heq' : pre ++ [(⟨c.f0, c.f1⟩ : F)] = oneL c c.f2 l := heq
    rw [heq'] at hC' hle
    exact ⟨A5, c5, by rw [← heq', List.length_append]; rfl, hle, hC', HI5.out.2.2⟩
end Go.Proofs.Ytbhmncenbpdcjaa.P
end
section
/- carrackref06.Apply: its contract; that it answers as the program's. -/
namespace Go.Proofs.Ytbhmncenbpdcjaa.P
open Go Go.Shelf Go.RowKit Go.Proofs.YtbhmncenbpdcjaaW.PrintWords Go.Proofs.YtbhmncenbpdcjaaW.PrintLast Go.Proofs.YtbhmncenbpdcjaaW.PrintMore
set_option linter.unusedVariables false
set_option linter.unusedSimpArgs false
attribute [local go_sem] Oper.semAt_some
/-- Elements that are told by a relation that no world changes. -/
def stat {α : Type} (sz : Nat) (R : α → List Value → Prop) (hl : ∀ x cs, R x cs → cs.length = sz) (h1 : ∀ x cs, R x cs → ∀ u ∈ cs, u.oneCell' = true) : Kd α where
  sz := sz
  E := []
  K := fun _ => R
  M := fun _ _ _ => R
  K_len := fun h => hl _ _ h
  K_one := fun h => h1 _ _ h
  K_below := fun _ h => h
  K_of_M := fun h => h
  M_mono := fun _ h => h
  M_bound := fun h => h
  M_move := fun _ h => h
  M_lower := fun _ h => h
def GS (w0 : World) (x : F) (cs : List Value) : Prop := ∀ W', Below w0.heap.size w0 W' → k47.K W' x cs
def kGS (w0 : World) : Kd F := stat 5 (GS w0) (fun x cs h => k47.K_len (h w0 (Below.refl _ _))) (fun x cs h => k47.K_one (h w0 (Below.refl _ _)))
theorem mem_oneL (c : Ch) : ∀ (l : List F) (d : Bool) (x : F), x ∈ oneL c d l → x = ⟨c.f0, c.f1⟩ ∨ x ∈ l
  | [], d, x, h => by cases d <;> simp [oneL] at h; exact .inl h
  | y :: l, d, x, h => by
    unfold oneL at h
    split at h
    · split at h
      · rcases mem_oneL c l true x h with h | h
        · exact .inl h
        · exact .inr (by simp [h])
      · rcases List.mem_cons.1 h with h | h
        · exact .inl h
        · rcases mem_oneL c l true x h with h | h
          · exact .inl h
          · exact .inr (by simp [h])
    · split at h
      · rcases List.mem_cons.1 h with h | h
        · exact .inl h
        · rcases List.mem_cons.1 h with h | h
          · exact .inr (by simp [h])
          · rcases mem_oneL c l true x h with h | h
            · exact .inl h
            · exact .inr (by simp [h])
      · rcases List.mem_cons.1 h with h | h
        · exact .inr (by simp [h])
        · rcases mem_oneL c l d x h with h | h
          · exact .inl h
          · exact .inr (by simp [h])
def refApplyL (l : List F) (cs : List Ch) : List F := cs.foldl (fun l c => oneL c c.f2 l) l
theorem refApply_snoc (l : List F) (cs : List Ch) (c : Ch) : refApplyL l (cs ++ [c]) = oneL c c.f2 (refApplyL l cs) := by simp [refApplyL]
theorem refApply_length : ∀ (cs : List Ch) (l : List F), (refApplyL l cs).length ≤ l.length + cs.length
  | [], l => Nat.le_refl _
  | c :: cs, l => by
    have h1 := refApply_length cs (oneL c c.f2 l)
    have h2 := oneL_length c l c.f2
    show (refApplyL (oneL c c.f2 l) cs).length ≤ _
    simp only [List.length_cons]
    split at h2 <;> omega
theorem bound_of {q r a b i : Nat} (h1 : q ≤ a + r) (h2 : r ≤ i) (hi : i ≤ b) (hb : (a + b + 3) * 64 ≤ 140737488355328) : (q + 3) * 64 ≤ 140737488355328 := by
  have h : q + 3 ≤ a + b + 3 := by clear hb; omega
  exact Nat.le_trans (Nat.mul_le_mul_right _ h) hb
theorem refApply_bound (l0 : List F) (l1 : List Ch) (i : Nat) (hi : i ≤ l1.length) (hb : (l0.length + l1.length + 3) * 64 ≤ 140737488355328) : ((refApplyL l0 (l1.take i)).length + 3) * 64 ≤ 140737488355328 :=
  bound_of (refApply_length (l1.take i) l0) (List.length_take_le _ _) hi hb
theorem mem_refApply : ∀ (cs : List Ch) (l : List F) (x : F), x ∈ refApplyL l cs → x ∈ l ∨ ∃ c ∈ cs, x = ⟨c.f0, c.f1⟩
  | [], l, x, h => .inl h
  | c :: cs, l, x, h => by
    rcases mem_refApply cs (oneL c c.f2 l) x h with h | ⟨d, hd, h⟩
    · rcases mem_oneL c l c.f2 x h with h | h
      · exact .inr ⟨c, by simp, h⟩
      · exact .inl h
    · exact .inr ⟨d, by simp [hd], h⟩
def RefApplyEnd (l : List F) (cs : List Ch) (w : World) (e : Ending) (w' : World) : Prop :=
  ∃ A n, e = .returned (.slice A (if ordB l then refApplyL l cs else []).length n) ∧ (if ordB l then refApplyL l cs else []).length ≤ n ∧ Kd.C k47 w' A (if ordB l then refApplyL l cs else []).length (if ordB l then refApplyL l cs else []) ∧ Below w.heap.size w w'
set_option maxRecDepth 100000 in
set_option maxHeartbeats 8000000 in
theorem refApply_any (A0 : Option Addr) (c0 : Nat) (l0 : List F) (A1 : Option Addr) (c1 : Nat) (l1 : List Ch) (w : World) (hr0 : Kd.C k47 w A0 l0.length l0) (hc0 : l0.length ≤ c0) (hr1 : Kd.C k53 w A1 l1.length l1) (hc1 : l1.length ≤ c1)
    (hn0 : ∀ x ∈ l0, x.f0.f2.size ≤ maxLen) (hn1 : ∀ x ∈ l1, x.f0.f2.size ≤ maxLen) (hs1 : ∀ x ∈ l1, x.f1.length < 140737488355328) (hbig : (l0.length + l1.length + 3) * 64 ≤ 140737488355328) :
    Calls Try.prog 21 #[.slice A0 l0.length c0, .slice A1 l1.length c1] w (RefApplyEnd l0 l1 w) := by
  have HO := Lib.hid (carrackref06_Ordered.calls (l0.length + 1) A0 c0 l0 _ w hr0 hc0 (refOrdered_f l0 hr0.2.1 hn0 _ (Nat.lt_succ_self _)))
  have hl1 : l1.length ≤ 9223372036854775807 := hr1.2.1
  have HX := Lib.hid (And.intro hr0 (And.intro hr1 (And.intro hn0 (And.intro hn1 (And.intro hs1 (And.intro hc0 hc1))))))
  have HBig := Lib.hid hbig
  clear hr0 hr1 hn0 hn1 hs1 hc0 hc1 hbig
  cases ho : ordB l0 with
  | false =>
    rw [ho] at HO
    have HE := Lib.hid ho
    clear ho
    go_enter Try.func21, Try.ntmps21
    go_wp2_with fail
    refine HO.out.mono ?_
    rintro e w1 ⟨rfl, hb1⟩
    go_wp2
    go_ret
    unfold RefApplyEnd
    rw [HE.out]
    exact ⟨none, 0, rfl, Nat.le_refl _, Kd.C_nil _ _, hb1⟩
  | true =>
    rw [ho] at HO
    have HE := Lib.hid ho
    clear ho
    go_enter Try.func21, Try.ntmps21
    go_wp2_with fail
    refine HO.out.mono ?_
    rintro e w1 ⟨rfl, hb1⟩
    have HB1 := Lib.hid hb1
    have hGS : Hid (ReadsRow (GS w) 5 w1 A0 l0.length l0) := Lib.hid (ReadsRow.imp_ HX.out.1 hb1 fun x cs h W' hb => k47.K_below hb h)
    clear hb1
    go_wp2_with ((with_reducible refine gate_builtin (b := .append) (xs := #[.tmp 10, .tmp 11]) rfl ?_); at_builtin; refine Kd.R_append_rows (kGS w) (Rr := GS w) (w0 := w) w.heap.size rfl (.tmp 10) (.tmp 11) 38 47 (.agg #[.int .i64 0, .int .u8 0, .string ⟨#[]⟩, .int .i64 0, .slice none 0 0]) 64 rfl Try.underlying38 info47 rfl (show 0 < 5 by decide) (by decide) (.slice none 0 0) ([] : List F) l0 _ _ _ (fun _ => True) (fun _ => False) rfl rfl ?aO hGS.out (fun _ _ h => h) (fun _ h => h.elim) (fun _ _ => trivial) HB1.out HB1.out.size ?aL ?_; (case aO => exact Kd.R_nil _ _ _ _ _); (case aL => have := HBig.out; simp; omega); intro v2 w2 ho2 hb2 hg2 hat2; rw [List.nil_append] at ho2; have HZ2 : Hid (∃ A n, v2 = .slice A l0.length n ∧ l0.length ≤ n ∧ Kd.C k47 w2 A l0.length l0) := Lib.hid ((ho2.2.imp_ (R' := k47.K w2) fun p cs h => h w2 hb2).reads); have HB2 := Lib.hid hb2; clear ho2 hb2 hg2 hat2)
    obtain ⟨A2, n2, rfl, hle2, hC2⟩ := HZ2.out
    have HI0 := Lib.hid (And.intro hle2 (And.intro hC2 HB2.out))
    clear hle2 hC2
    go_loopw [5, 6] (fun s5 s6 wr => ∃ (i : Nat) (A : Option Addr) (n : Nat), i ≤ l1.length ∧ s6 = .int .i64 i ∧ s5 = .slice A (refApplyL l0 (l1.take i)).length n ∧ Hid ((refApplyL l0 (l1.take i)).length ≤ n ∧ Kd.C k47 wr A (refApplyL l0 (l1.take i)).length (refApplyL l0 (l1.take i)) ∧ Below w.heap.size w wr)) (fun _ s6 _ => l1.length - (intOf s6).toNat)
    case atStart => exact ⟨0, A2, n2, Nat.zero_le _, rfl, rfl, HI0⟩
    case round =>
      obtain ⟨i, A, n, hi, rfl, rfl, HI⟩ := hrel
      by_cases hlt : i < l1.length
      · obtain ⟨hle, hC, hb⟩ := HI.out
        obtain ⟨hr0, hr1, hn0, hn1, hs1, hc0, hc1⟩ := HX.out
        have hbig := HBig.out
        have hz := refApply_bound l0 l1 i hi hbig
        have hcn : (rd_T53 l1 (i : Nat)).f0.f2.size ≤ maxLen := hn1 _ (by unfold rd_T53; simp [List.getD, hlt])
        have hcv : (rd_T53 l1 (i : Nat)).f1.length < 140737488355328 := hs1 _ (by unfold rd_T53; simp [List.getD, hlt])
        have hcur : ∀ x ∈ refApplyL l0 (l1.take i), x.f0.f2.size ≤ maxLen := fun x hx => by
          rcases mem_refApply _ _ x hx with h | ⟨c, hc, rfl⟩
          · exact hn0 x h
          · exact hn1 c (List.mem_of_mem_take hc)
        have hnext : refApplyL l0 (l1.take (i + 1)) = oneL (rd_T53 l1 (i : Nat)) (rd_T53 l1 (i : Nat)).f2 (refApplyL l0 (l1.take i)) := by
          have hrd : rd_T53 l1 (i : Nat) = l1[i] := by unfold rd_T53; simp [List.getD, hlt]
          rw [List.take_add_one, List.getElem?_eq_getElem hlt, hrd]
          simp only [Option.toList]
          rw [refApply_snoc]
        obtain ⟨ad, A4, c4, hA, h0, h1, h2, h3, h4, h5, h6, h7⟩ := at_T53 (Kd.C_below hr1 hb) (i : Nat) (by omega) (by omega)
        subst hA
        simp only [Int.toNat_natCast] at h0 h1 h2 h3 h4 h5
        generalize rd_T53 l1 (i : Nat) = c at *
        have ci0 : (0 : Int) ≤ (i : Int) := by omega
        have ci1 : (i : Int) < (l1.length : Int) := by omega
        have HN := Lib.hid hnext
        have HC := Lib.hid (one_any A n (refApplyL l0 (l1.take i)) c A4 c4 wr hC hle h7 h6 hcur hcn hz hcv)
        have HBw := Lib.hid hb
        clear hle hC hb hr0 hr1 hn0 hn1 hs1 hc0 hc1 hbig hcn hcv hcur hnext h6 h7 hz
        generalize refApplyL l0 (l1.take i) = cur at *
        go_wp2_with fail
        refine HC.out.mono ?_
        rintro e w4 ⟨A5, n5, rfl, hle5, hC5, hb5⟩
        have HJ := Lib.hid (And.intro hle5 (And.intro hC5 hb5))
        clear hle5 hC5 hb5 h0 h1 h2 h3 h4 h5
        go_wp2
        go_roundw
        case rel =>
          refine ⟨i + 1, A5, n5, hlt, by go_num, ?_, ?_⟩
          · rw [HN.out]
          · rw [HN.out]; exact Lib.hid ⟨HJ.out.1, HJ.out.2.1, HBw.out.trans (HJ.out.2.2.mono HBw.out.size)⟩
        case measure => simp [intOf]; omega
      · obtain rfl : i = l1.length := by omega
        rw [List.take_length] at HI ⊢
        go_wp2
        go_ret
        unfold RefApplyEnd
        rw [HE.out]
        exact ⟨A, n, rfl, HI.out.1, HI.out.2.1, HI.out.2.2⟩
end Go.Proofs.Ytbhmncenbpdcjaa.P
end
section
/- fact.Find: its contract. -/
namespace Go.Proofs.Ytbhmncenbpdcjaa.P
open Go Go.Shelf Go.RowKit Go.Proofs.YtbhmncenbpdcjaaW.PrintWords Go.Proofs.YtbhmncenbpdcjaaW.PrintLast Go.Proofs.YtbhmncenbpdcjaaW.PrintMore
set_option linter.unusedVariables false
set_option linter.unusedSimpArgs false
attribute [local go_sem] Oper.semAt_some
def findB (l : List F) (k : K) : List Int := if ordB l && isB l k then (rd_T47 l (cntB l k : Nat)).f1 else []
def FindEnd (l : List F) (k : K) (w : World) (e : Ending) (w' : World) : Prop := ∃ v, e = .returned (.tuple #[v, .bool (ordB l && isB l k)]) ∧ Kd.R (Kd.int .u8) 5 w' w.heap.size (fun _ => True) v (findB l k) ∧ Below w.heap.size w w'
set_option maxRecDepth 100000 in
set_option maxHeartbeats 4000000 in
theorem find_any (A : Option Addr) (c : Nat) (l : List F) (k : K) (w : World) (hr : Kd.C k47 w A l.length l) (hc : l.length ≤ c) (hsz : l.length < 4611686018427387904) (hs : ∀ x ∈ l, x.f1.length < 140737488355328) :
    Calls Try.prog 17 #[.slice A l.length c, encK k] w (FindEnd l k w) := by
  have HO := Lib.hid (fun W (hb : Below w.heap.size w W) => isOrdered_any A c l W (Kd.C_below hr hb) hc)
  have HB0 := (Below.refl w.heap.size w).alloc (Nat.le_refl _) (.cells #[.int .i64 k.f0, .int .u8 k.f1, .string k.f2, .int .i64 k.f3] 30)
  have HX := Lib.hid (And.intro hr (And.intro hc (And.intro hsz hs)))
  unfold encK
  cases ho : ordB l with
  | false =>
    rw [ho] at HO
    have HE := Lib.hid ho
    clear hr hc hs ho
    go_enter Try.func17, Try.ntmps17
    go_wp2_with fail
    refine (HO.out _ HB0).mono ?_
    rintro e w1 ⟨rfl, hb1⟩
    have HB1 := Lib.hid (HB0.trans (hb1.mono HB0.size))
    clear hb1
    go_wp2
    go_ret2
    refine ⟨.slice none 0 0, ?_, ?_, HB1.out⟩
    · rw [HE.out]; rfl
    · unfold findB; rw [HE.out]; exact Kd.R_nil _ _ _ _ _
  | true =>
    rw [ho] at HO
    have hord := (ordB_iff l).1 ho
    have HE := Lib.hid (And.intro ho hord)
    clear hr hc hs ho hord
    go_enter Try.func17, Try.ntmps17
    go_wp2_with fail
    refine (HO.out _ HB0).mono ?_
    rintro e w1 ⟨rfl, hb1⟩
    have HB1 := Lib.hid (HB0.trans (hb1.mono HB0.size))
    have hxl : w.heap.size < (w.alloc (.cells #[.int .i64 k.f0, .int .u8 k.f1, .string k.f2, .int .i64 k.f3] 30)).heap.size := by simp
    have hx1 := (hb1.block w.heap.size hxl).trans (World.alloc_heap_new w _)
    have k0 : w1.cell? ⟨w.heap.size, 0, none⟩ = some (.int .i64 k.f0) := by simp [World.cell?, hx1]
    have k1 : w1.cell? ⟨w.heap.size, 1, none⟩ = some (.int .u8 k.f1) := by simp [World.cell?, hx1]
    have k2 : w1.cell? ⟨w.heap.size, 2, none⟩ = some (.string k.f2) := by simp [World.cell?, hx1]
    have k3 : w1.cell? ⟨w.heap.size, 3, none⟩ = some (.int .i64 k.f3) := by simp [World.cell?, hx1]
    clear hb1 hx1 hxl
    go_wp2_with fail
    refine (place_any A c l k (mono_of l HE.out.2 k) HX.out.2.2.1 w1 (Kd.C_below HX.out.1 HB1.out)).mono ?_
    rintro e w2 ⟨rfl, hb2⟩
    have HB2 := Lib.hid (HB1.out.trans (hb2.mono HB1.out.size))
    clear hb2 k0 k1 k2 k3
    cases his : isB l k with
    | false =>
      have HI := Lib.hid his
      clear his
      go_wp2
      go_ret2
      refine ⟨.slice none 0 0, ?_, ?_, HB2.out⟩
      · rw [HE.out.1, HI.out]; rfl
      · unfold findB; rw [HE.out.1, HI.out]; exact Kd.R_nil _ _ _ _ _
    | true =>
      obtain ⟨hi, _⟩ := isB_at his
      have HI := Lib.hid his
      clear his
      obtain ⟨ad, A4, c4, hA, h0, h1, h2, h3, h4, h5, h6⟩ := at_T47 (Kd.C_below HX.out.1 HB2.out) (cntB l k : Nat) (by omega) (by omega)
      have hcv : (rd_T47 l (cntB l k : Nat)).f1.length < 140737488355328 := by rw [rd_nat l _ hi]; exact HX.out.2.2.2 _ (List.getElem_mem hi)
      subst hA
      simp only [Int.toNat_natCast] at h0 h1 h2 h3 h4
      have HF : Hid (findB l k = (rd_T47 l (cntB l k : Nat)).f1) := by unfold findB; rw [HE.out.1, HI.out]; exact Lib.hid rfl
      generalize cntB l k = i at *
      generalize rd_T47 l (i : Nat) = x at *
      have ci0 : (0 : Int) ≤ (i : Int) := by omega
      have ci1 : (i : Int) < (l.length : Int) := by omega
      go_wp2_with fail
      refine (clone_any A4 c4 x.f1 w2 h6 h5 hcv).mono ?_
      rintro e w3 ⟨v, rfl, hR, hB⟩
      have HZ := Lib.hid (And.intro hR hB)
      clear hR hB h6
      go_wp2
      go_ret2
      refine ⟨v, ?_, ?_, HB2.out.trans (HZ.out.2.mono HB2.out.size)⟩
      · rw [HE.out.1, HI.out]; rfl
      · rw [HF.out]; exact Kd.R_lower HZ.out.1 HB2.out.size
end Go.Proofs.Ytbhmncenbpdcjaa.P
end
section
/- The document's changes and finding, on facts in order, are the program's: plain. -/
namespace Go.Proofs.Ytbhmncenbpdcjaa.P
open Go.RowKit Go.Proofs.YtbhmncenbpdcjaaW.PrintWords Go.Proofs.YtbhmncenbpdcjaaW.PrintLast Go.Proofs.YtbhmncenbpdcjaaW.PrintMore
theorem cntB_cons (x : F) (l : List F) (k : K) : cntB (x :: l) k = if bef x.f0 k then cntB l k + 1 else 0 := by
  unfold cntB
  rw [List.takeWhile_cons]
  split <;> simp
theorem isB_nil (k : K) : isB [] k = false := rfl
theorem isB_cons (x : F) (l : List F) (k : K) : isB (x :: l) k = if bef x.f0 k then isB l k else keyQ x.f0 k := by
  unfold isB
  rw [cntB_cons]
  split
  · by_cases h : cntB l k < l.length
    · rw [if_pos h, if_pos (by simp; omega), rd_nat _ _ (by simp; omega), rd_nat _ _ h]; rfl
    · rw [if_neg h, if_neg (by simp; omega)]
  · rw [if_pos (by simp), rd_nat _ _ (by simp)]; rfl
theorem bef_not_key {a b : K} (h : bef a b = true) : keyQ a b = false ∧ bef b a = false ∧ keyQ b a = false := by
  have h1 : keyQ a b = false := by
    cases hq : keyQ a b with
    | false => rfl
    | true =>
      rw [(keyQ_iff a b).1 hq, bef_self] at h
      cases h
  refine ⟨h1, ?_, ?_⟩
  · cases hb : bef b a with
    | false => rfl
    | true =>
      have := bef_trans h hb
      rw [bef_self] at this
      cases this
  · cases hq : keyQ b a with
    | false => rfl
    | true =>
      rw [(keyQ_iff b a).1 hq, bef_self] at h
      cases h
theorem oneL_true (c : Ch) : ∀ (l : List F), (∀ y ∈ l, keyQ y.f0 c.f0 = false) → oneL c true l = l
  | [], _ => rfl
  | y :: l, h => by
    unfold oneL
    rw [h y (by simp), oneL_true c l fun z hz => h z (by simp [hz])]
    simp
theorem oneL_step (c : Ch) : ∀ (l : List F), Ord l → oneL c c.f2 l = stepB l c
  | [], _ => by
    unfold oneL stepB
    rw [isB_nil]
    cases c.f2 <;> rfl
  | x :: l, h => by
    have hx : ∀ y ∈ l, bef x.f0 y.f0 = true := (List.pairwise_cons.1 h).1
    have hl : Ord l := (List.pairwise_cons.1 h).2
    unfold oneL stepB
    rw [isB_cons, cntB_cons]
    cases hb : bef x.f0 c.f0 with
    | true =>
      obtain ⟨hk, hb2, _⟩ := bef_not_key hb
      rw [hk, hb2]
      have ih := oneL_step c l hl
      unfold stepB at ih
      simp only [Bool.and_false, Bool.false_eq_true, if_false, if_true]
      rw [ih]
      cases isB l c.f0 <;> cases c.f2 <;> simp
    | false =>
      cases hk : keyQ x.f0 c.f0 with
      | true =>
        have hxk : x.f0 = c.f0 := (keyQ_iff _ _).1 hk
        have ht : oneL c true l = l := oneL_true c l fun y hy => by
          have := hx y hy
          rw [hxk] at this
          exact (bef_not_key this).2.2
        rw [ht]
        cases c.f2 <;> simp
      | false =>
        have hb2 : bef c.f0 x.f0 = true := bef_other hb hk
        have ht : oneL c true l = l := oneL_true c l fun y hy => (bef_not_key (bef_trans hb2 (hx y hy))).2.2
        rw [hb2]
        cases hg : c.f2 <;> simp [ht]
theorem refApply_eq : ∀ (cs : List Ch) (l : List F), Ord l → refApplyL l cs = applyB l cs
  | [], l, _ => rfl
  | c :: cs, l, h => by
    show refApplyL (oneL c c.f2 l) cs = applyB (stepB l c) cs
    rw [oneL_step c l h]
    exact refApply_eq cs _ (ord_step l c h)
theorem refFind_none (k : K) : ∀ (l : List F), (∀ y ∈ l, keyQ y.f0 k = false) → refFind k l = ([], false)
  | [], _ => rfl
  | y :: l, h => by
    unfold refFind
    rw [h y (by simp), refFind_none k l fun z hz => h z (by simp [hz])]
    rfl
theorem refFind_eq (k : K) : ∀ (l : List F), Ord l → refFind k l = (if isB l k then (rd_T47 l (cntB l k : Nat)).f1 else [], isB l k)
  | [], _ => rfl
  | x :: l, h => by
    have hx : ∀ y ∈ l, bef x.f0 y.f0 = true := (List.pairwise_cons.1 h).1
    have hl : Ord l := (List.pairwise_cons.1 h).2
    unfold refFind
    rw [isB_cons, cntB_cons]
    cases hb : bef x.f0 k with
    | true =>
      rw [(bef_not_key hb).1]
      have ih := refFind_eq k l hl
      simp only [if_true, Bool.false_eq_true, if_false]
      rw [ih]
      cases hi : isB l k with
      | false => rfl
      | true =>
        obtain ⟨hlt, _⟩ := isB_at hi
        simp only [if_true]
        rw [rd_nat _ _ hlt, rd_nat _ _ (by simp; omega)]
        rfl
    | false =>
      cases hk : keyQ x.f0 k with
      | true => rw [if_pos rfl]; simp only [if_true, Bool.false_eq_true, if_false]; rw [rd_nat _ _ (by simp)]; rfl
      | false =>
        simp only [Bool.false_eq_true, if_false]
        exact refFind_none k l fun y hy => (bef_not_key (bef_trans (bef_other hb hk) (hx y hy))).2.2
theorem refFind_findB (l : List F) (k : K) : (if ordB l then refFind k l else ([], false)) = (findB l k, ordB l && isB l k) := by
  unfold findB
  cases ho : ordB l with
  | false => rfl
  | true =>
    rw [if_pos rfl, refFind_eq k l ((ordB_iff l).1 ho)]
    simp
/-- What Apply answers. -/
def applyF (l : List F) (cs : List Ch) : List F := if ordB l then applyB l cs else []
theorem refApply_applyF (l : List F) (cs : List Ch) : (if ordB l then refApplyL l cs else []) = applyF l cs := by
  unfold applyF
  cases ho : ordB l with
  | false => rfl
  | true => rw [if_pos rfl, if_pos rfl, refApply_eq cs l ((ordB_iff l).1 ho)]
theorem mem_stepB (l : List F) (c : Ch) (x : F) (h : x ∈ stepB l c) : x = ⟨c.f0, c.f1⟩ ∨ x ∈ l := by
  unfold stepB at h
  split at h <;> split at h
  · exact .inr (List.mem_of_mem_eraseIdx h)
  · rcases List.mem_or_eq_of_mem_set h with h | h
    · exact .inr h
    · exact .inl h
  · exact .inr h
  · by_cases hc : cntB l c.f0 ≤ l.length
    · rcases (List.mem_insertIdx hc).1 h with h | h
      · exact .inl h
      · exact .inr h
    · exact absurd (cntB_le _ _) hc
theorem mem_applyB : ∀ (cs : List Ch) (l : List F) (x : F), x ∈ applyB l cs → x ∈ l ∨ ∃ c ∈ cs, x = ⟨c.f0, c.f1⟩
  | [], l, x, h => .inl h
  | c :: cs, l, x, h => by
    rcases mem_applyB cs (stepB l c) x h with h | ⟨d, hd, h⟩
    · rcases mem_stepB l c x h with h | h
      · exact .inr ⟨c, by simp, h⟩
      · exact .inl h
    · exact .inr ⟨d, by simp [hd], h⟩
theorem mem_applyF (l : List F) (cs : List Ch) (x : F) (h : x ∈ applyF l cs) : x ∈ l ∨ ∃ c ∈ cs, x = ⟨c.f0, c.f1⟩ := by
  unfold applyF at h
  split at h
  · exact mem_applyB cs l x h
  · cases h
theorem applyF_length (l : List F) (cs : List Ch) : (applyF l cs).length ≤ l.length + cs.length := by
  unfold applyF
  split
  · exact apply_length cs l
  · simp
end Go.Proofs.Ytbhmncenbpdcjaa.P
end
section
/- Rows of the call's own: what append does to them, what they read as. Of no program, but for the last lines. -/
namespace Go.Proofs.Ytbhmncenbpdcjaa
open Go.RowKit

/-- These cells stand at an address (or nowhere, where there are none). -/
def Src (w : World) (A : Option Addr) (news : List Value) : Prop := ∀ j u, news[j]? = some u → ∃ ad, A = some ad ∧ w.cell? (ad.add j) = some u
theorem Src.below {w w' : World} {A : Option Addr} {news : List Value} (h : Src w A news) (hb : Below w.heap.size w w') : Src w' A news := fun j u hu => by
  obtain ⟨ad, e, hc⟩ := h j u hu
  exact ⟨ad, e, cell_below hb hc⟩
theorem Src.grown {w w' : World} {A : Option Addr} {news : List Value} (h : Src w A news) {r : Option Nat} (hg : w.grownBy w' r) (hne : ∀ ad, A = some ad → some ad.block ≠ r) : Src w' A news := fun j u hu => by
  obtain ⟨ad, e, hc⟩ := h j u hu
  have hb : (ad.add j).block = ad.block := by unfold Addr.add; split <;> rfl
  exact ⟨ad, e, hg.cell hc (by rw [hb]; exact hne ad e)⟩
theorem Src.new (w : World) (cs : List Value) (t : TypeId) : Src (w.alloc (.cells cs.toArray t)) (some ⟨w.heap.size, 0, none⟩) cs := fun j u hu => by
  refine ⟨_, rfl, ?_⟩
  have ha : (⟨w.heap.size, 0, none⟩ : Addr).add j = ⟨w.heap.size, j, none⟩ := by unfold Addr.add; split <;> simp_all
  rw [ha]
  simp only [World.cell?, heap_alloc_new w _]
  simpa using hu

/-- What append has come to. -/
structure App (P : Program) (w : World) (base : Nat) (E : TypeId) (size : Nat) (v : Value) (n m : Nat) (xs : List Value) (v' : Value) (w' : World) : Prop where
  own : w'.ownsRow base E size v' (n + m) xs
  grown : w.grownBy w' v.ownBlock
  at_ : v'.ownBlock = v.ownBlock ∨ v'.ownBlock = some w.heap.size

theorem run_app {P : Program} (w : World) {base : Nat} {t E : TypeId} {z : Value} {size bytes : Nat} (ty : TypeId) (ht : P.underlying t = some (.slice E)) (hinfo : (P.info? E).map (fun i => (i.zero, i.size, i.bytes)) = some (some z, size, bytes)) (hzs : z.cells.size = size) (hsz : 0 < size)
    {v : Value} {n : Nat} {xs : List Value} (hown : w.ownsRow base E size v n xs) {A : Option Addr} {m : Nat} (c : Nat) {news : List Value} (hl : news.length = m * size) (hs : Src w A news) (h1 : ∀ u ∈ news, u.oneCell' = true)
    (hbytes : (n + m) * bytes ≤ 140737488355328) (h63 : n + m ≤ 140737488355328) (hbase : base ≤ w.heap.size) :
    ∃ v' w', (Builtin.append_ #[t, t] ty #[v, .slice A m c]).run P w = .ok v' w' ∧ App P w base E size v n m (xs ++ news) v' w' := by
  obtain ⟨i, hi, hz, hsize, hby⟩ := info_parts hinfo
  rcases A with _ | ad
  · have hn : news = [] := by
      cases hnn : news with
      | nil => rfl
      | cons u r => obtain ⟨ad, e, _⟩ := hs 0 u (by rw [hnn]; rfl); cases e
    subst hn
    obtain rfl : m = 0 := by
      have : m * size = 0 := by simpa using hl.symm
      rcases Nat.mul_eq_zero.1 this with h | h
      · exact h
      · omega
    refine ⟨v, w, ?_, by simpa using hown, World.grownBy.refl w _, .inl rfl⟩
    rcases hown.2 with ⟨rfl, rfl⟩ | ⟨g, cap, cur, rfl, _, _, hnc, _⟩
    · simp [Builtin.append_, run_underlying ht, sizeOf, typeInfo, hi, Builtin.lenOf, Builtin.firstCells]
    · simp [Builtin.append_, run_underlying ht, sizeOf, typeInfo, hi, Builtin.lenOf, Builtin.firstCells, hnc, storeCells]
  · obtain ⟨v', w', hrun, h2, h3, _, h5⟩ := run_append_own_at (P := P) w base t ty E i z size bytes ht hi hz hsize hby hzs hsz v n xs hown ad m c news hl
      (fun j u hu => by obtain ⟨ad', e, hc⟩ := hs j u hu; cases e; exact hc) h1 (by simp only [maxLen]; omega) hbytes hbase
    exact ⟨v', w', hrun, h2, h3, h5⟩

theorem wpList_app {P : Program} {w : World} {ops : Array Oper} {rest : List Oper} {o : Oper} {a : Act} {Q : Exit → Act → World → Prop} (hgd : o.guard = none) {s x : Operand} {t : TypeId}
    (ho : o.op = .call { callee := .builtin .append, args := #[s, x], argTypes := #[t, t] })
    {base : Nat} {E : TypeId} {z : Value} {size bytes : Nat} (ht : P.underlying t = some (.slice E)) (hinfo : (P.info? E).map (fun i => (i.zero, i.size, i.bytes)) = some (some z, size, bytes)) (hzs : z.cells.size = size) (hsz : 0 < size)
    {v : Value} {n : Nat} {xs : List Value} (hs : a.eval s = v) (hown : w.ownsRow base E size v n xs) {A : Option Addr} {m c : Nat} {news : List Value} (hx : a.eval x = .slice A m c) (hl : news.length = m * size) (hsrc : Src w A news) (h1 : ∀ u ∈ news, u.oneCell' = true)
    (hbytes : (n + m) * bytes ≤ 140737488355328) (h63 : n + m ≤ 140737488355328) (hbase : base ≤ w.heap.size)
    (h : ∀ v' w', App P w base E size v n m (xs ++ news) v' w' → wpList P ops Q rest (a.put o.dst v') w') : wpList P ops Q (o :: rest) a w := by
  obtain ⟨v', w', hrun, happ⟩ := run_app (P := P) w o.type ht hinfo hzs hsz hown c hl hsrc h1 hbytes h63 hbase
  refine wpList_plain hgd fun _ hK => ?_
  unfold Oper.wp execOp
  simp only [ho, resolve, invoke, builtin, Sem.run_bind, Sem.run_pure, Result.andThen_ok, List.map_toArray, List.map_cons, List.map_nil, hs, hx, hrun]
  exact hK _ _ (h v' w' happ)

theorem own_base {w : World} {base : Nat} {e : TypeId} {size n : Nat} {v : Value} {xs : List Value} (h : w.ownsRow base e size v n xs) (k : Nat) (hk : v.ownBlock = some k) : base ≤ k := (h.lt k hk).1
theorem App.below {P : Program} {w w0 : World} {base : Nat} {E : TypeId} {size : Nat} {v : Value} {n m : Nat} {xs : List Value} {v' : Value} {w' : World} (h : App P w base E size v n m xs v' w') {ys : List Value} (hown : w.ownsRow base E size v n ys) (hb : Below base w0 w) (hbase : base ≤ w.heap.size) : Below base w0 w' :=
  hb.grown h.grown hbase (fun k hk => own_base hown k hk)
theorem grown_of_below {w w1 : World} (h : Below w.heap.size w w1) {row : Option Nat} : w.grownBy w1 row := ⟨h.os, h.tape, h.output, h.size, fun i hi _ => h.block i hi⟩
theorem own_ne {w : World} {base B : Nat} {e : TypeId} {size n : Nat} {v : Value} {xs : List Value} (h : w.ownsRow base e size v n xs) (hB : w.heap.size ≤ B) (r : Option Nat) (hr : ∀ k, r = some k → B ≤ k) : v.ownBlock = none ∨ v.ownBlock ≠ r := by
  cases hv : v.ownBlock with
  | none => exact .inl rfl
  | some k =>
    refine .inr fun e => ?_
    have := (h.lt k hv).2
    have := hr k e.symm
    omega
theorem own_slice {w : World} {base n : Nat} {e : TypeId} {size : Nat} {v : Value} {xs : List Value} (h : w.ownsRow base e size v n xs) : ∃ A c, v = .slice A n c ∧ Src w A xs := by
  rcases h.2 with ⟨rfl, rfl⟩ | ⟨g, cap, cur, rfl, _⟩
  · refine ⟨none, 0, rfl, fun j u hu => ?_⟩
    have : xs = [] := List.eq_nil_of_length_eq_zero (by simpa using h.1)
    subst this; simp at hu
  · exact ⟨_, cap, rfl, fun j u hu => ⟨_, rfl, h.cells rfl j u hu⟩⟩

/-- Bytes as cells. -/
def vals (l : List UInt8) : List Value := l.map fun b => .int .u8 (b.toNat : Int)
theorem vals_length (l : List UInt8) : (vals l).length = l.length := by simp [vals]
theorem vals_append (a b : List UInt8) : vals (a ++ b) = vals a ++ vals b := by simp [vals]
theorem vals_one (l : List UInt8) : ∀ u ∈ vals l, u.oneCell' = true := fun u hu => by
  simp only [vals, List.mem_map] at hu
  obtain ⟨b, _, rfl⟩ := hu
  rfl
theorem Bs.src {w : World} {A : Option Addr} {l : List UInt8} (h : Bs w A l) : Src w A (vals l) := fun j u hu => by
  simp only [vals, List.getElem?_map, Option.map_eq_some_iff] at hu
  obtain ⟨b, hb, rfl⟩ := hu
  obtain ⟨hj, rfl⟩ := List.getElem?_eq_some_iff.1 hb
  exact h.cell j hj
theorem Bs.of_src {w : World} {A : Option Addr} {l : List UInt8} (hs : l.length ≤ 140737488355328) (h : Src w A (vals l)) : Bs w A l :=
  ⟨hs, fun j hj => h j _ (by simp [vals, hj])⟩
/-- Bytes of the call's own. -/
def OwnB (w : World) (base : Nat) (v : Value) (l : List UInt8) : Prop := w.ownsRow base 5 1 v l.length (vals l)
theorem OwnB.nil (w : World) (base : Nat) : OwnB w base (.slice none 0 0) [] := World.ownsRow_nil _ _ _ _
theorem OwnB.bs {w : World} {base : Nat} {v : Value} {l : List UInt8} (hs : l.length ≤ 140737488355328) (h : OwnB w base v l) : ∃ A c, v = .slice A l.length c ∧ Bs w A l := by
  obtain ⟨A, c, rfl, hsrc⟩ := own_slice h
  exact ⟨A, c, rfl, .of_src hs hsrc⟩
theorem own_mono {w : World} {b b' : Nat} {e : TypeId} {size n : Nat} {v : Value} {xs : List Value} (h : w.ownsRow b e size v n xs) (hb : b' ≤ b) : w.ownsRow b' e size v n xs := by
  refine ⟨h.1, ?_⟩
  rcases h.2 with h2 | ⟨g, cap, cur, e1, e2, r⟩
  · exact .inl h2
  · exact .inr ⟨g, cap, cur, e1, Nat.le_trans hb e2, r⟩
theorem OwnB.below_base {w : World} {b b' : Nat} {v : Value} {l : List UInt8} (h : OwnB w b v l) (hb : b' ≤ b) : OwnB w b' v l := own_mono h hb
theorem info_u8 : (Try.prog.info? 5).map (fun i => (i.zero, i.size, i.bytes)) = some (some (.int .u8 0), 1, 1) := by kernel_rfl
theorem OwnB.lit (w : World) (base : Nat) (l : List UInt8) (hb : base ≤ w.heap.size) (hl : l.length ≤ 1000) : OwnB (w.alloc (.cells (vals l).toArray 5)) base (.slice (some ⟨w.heap.size, 0, none⟩) l.length l.length) l := by
  have := World.ownsRow_lit (e := 5) (size := 1) w (vals l).toArray l.length hb (by simp only [maxLen]; omega) (by simp [vals])
  simpa [OwnB] using this
end Go.Proofs.Ytbhmncenbpdcjaa
end
section
/- A key's bytes: what the program's PutKey and the document's compute. -/
namespace Go.Proofs.Ytbhmncenbpdcjaa
open Go.RowKit

theorem isSize_two (w : World) : Calls Try.prog 46 #[.int .i64 2] w fun e w' => e = .returned (.bool true) ∧ w = w' := by
  go_enter Try.func46, Try.ntmps46
  go_wp2
  go_ret
  exact ⟨rfl, rfl⟩
def lo (n : Int) : UInt8 := UInt8.ofNat (n.toNat % 256)
def hi (n : Int) : UInt8 := UInt8.ofNat (n.toNat / 256)
theorem lo_int {n : Int} (h0 : 0 ≤ n) : ((lo n).toNat : Int) = n % 256 := by unfold lo; simp; omega
theorem hi_int {n : Int} (h0 : 0 ≤ n) (h : n ≤ 65535) : ((hi n).toNat : Int) = n / 256 := by unfold hi; simp; omega

/-- Two bytes of a number, in new memory, and no more. -/
def Put2End (n : Int) (w : World) (e : Ending) (w' : World) : Prop := e = .returned (.tuple #[.slice (some ⟨w.heap.size, 0, none⟩) 2 2, .int .i64 0]) ∧ w' = w.alloc (.cells (vals [lo n, hi n]).toArray 5)
set_option maxHeartbeats 400000 in
theorem put_two (n : Int) (h0 : 0 ≤ n) (h1 : n ≤ 65535) (w : World) : Calls Try.prog 51 #[.int .u64 n, .int .i64 2] w (Put2End n w) := by
  have hmk : ∀ w, (Instr.makeSlice 22 (.int .i64 2) (.int .i64 2)).run Try.prog w = .ok (.slice (some ⟨w.heap.size, 0, none⟩) 2 2) (w.alloc (.cells #[.int .u8 0, .int .u8 0] 5)) := fun _ => by kernel_rfl
  have t : (n / 65536 != 0) = false := by simp; omega
  have HB : Hid (IntKind.u8.wrap (n / 256) = n / 256) := IntWalk.u8_in _ (by omega)
  have HV : Hid (vals [lo n, hi n] = [.int .u8 (n % 256), .int .u8 (n / 256)]) := by
    show vals [lo n, hi n] = _
    simp [vals, lo_int h0, hi_int h0 h1]
  go_enter Try.func51, Try.ntmps51
  go_wp2_with fail
  refine (isSize_two _).mono ?_
  rintro e w' ⟨rfl, rfl⟩
  go_wp2
  go_loopg [27] 2 (fun k i wr => (i = .int .i64 0 ∧ k = 2 ∧ wr = w.alloc (.cells #[.int .u8 0, .int .u8 0] 5)) ∨ (i = .int .i64 1 ∧ k = 1 ∧ wr = w.alloc (.cells #[.int .u8 (n % 256), .int .u8 0] 5)) ∨ (i = .int .i64 2 ∧ k = 0 ∧ wr = w.alloc (.cells #[.int .u8 (n % 256), .int .u8 (n / 256)] 5)))
  case atStart => exact .inl ⟨rfl, rfl, rfl⟩
  case round =>
    rcases hrel with ⟨rfl, rfl, rfl⟩ | ⟨rfl, rfl, rfl⟩ | ⟨rfl, rfl, rfl⟩
    · go_wp2
      go_roundg 1
      case measure => omega
      case rel => exact .inr (.inl ⟨rfl, rfl, rfl⟩)
    · go_wp2
      go_roundg 0
      case measure => omega
      case rel => exact .inr (.inr ⟨rfl, rfl, by first | rfl | (rw [HB.out])⟩)
    · go_wp2
      go_ret2
      exact ⟨rfl, by rw [← HV.out]⟩

def BytesEnd (l : List UInt8) (w : World) (e : Ending) (w' : World) : Prop := ∃ v, e = .returned (.tuple #[v, .int .i64 0]) ∧ OwnB w' w.heap.size v l ∧ Below w.heap.size w w'
theorem len_byte {n : Nat} (h : n ≤ 255) : ((UInt8.ofNat n).toNat : Int) = n := by simp; omega

set_option maxHeartbeats 400000 in
theorem row_any (l : List UInt8) (n : Nat) (hn : l.length = n) (hl : n ≤ 255) (A : Option Addr) (c : Nat) (w : World) (hA : Bs w A l) : Calls Try.prog 52 #[.slice A n c] w (BytesEnd (UInt8.ofNat n :: l) w) := by
  subst hn
  have hlt : w.heap.size ≤ w.heap.size := Nat.le_refl _
  have wl : IntKind.u8.wrap (l.length : Int) = (l.length : Int) := IntWalk.u8_in _ (by omega)
  have own0 := OwnB.lit w w.heap.size [UInt8.ofNat l.length] hlt (by simp)
  have hv : vals [UInt8.ofNat l.length] = [.int .u8 (l.length : Int)] := by simp [vals]; omega
  rw [hv] at own0
  have src := hA.src.below (below_alloc1 w (.cells #[.int .u8 (l.length : Int)] 5))
  go_enter Try.func52, Try.ntmps52
  go_wp2_with (at_builtin; refine wpList_app rfl rfl Try.underlying22 info_u8 rfl (by omega) rfl own0 rfl (by simp [vals]) src (vals_one _) (by simp; omega) (by simp; omega) (by simp) ?_; intro v1 w1 happ)
  go_ret2
  refine ⟨v1, rfl, ?_, happ.below own0 (below_alloc1 _ _) (by simp)⟩
  have := happ.own
  simpa [OwnB, vals, Nat.add_comm] using this

/-- As above, the memory not named. -/
theorem put_bytes (n : Int) (h0 : 0 ≤ n) (h1 : n ≤ 65535) (w : World) : Calls Try.prog 51 #[.int .u64 n, .int .i64 2] w (BytesEnd [lo n, hi n] w) :=
  (put_two n h0 h1 w).mono fun e w' ⟨he, hw⟩ => by
    subst hw
    exact ⟨_, he, OwnB.lit w _ [lo n, hi n] (Nat.le_refl _) (by simp), below_alloc1 _ _⟩
theorem one_byte {u : Int} (h0 : 0 ≤ u) (h1 : u ≤ 255) : vals [UInt8.ofNat u.toNat] = [.int .u8 u] := by simp [vals]; omega
/-- One byte more. -/
theorem OwnB.app {P : Program} {w w' : World} {base : Nat} {v v' : Value} {l r : List UInt8} {n m : Nat} (h : App P w base 5 1 v n m (vals l ++ vals r) v' w') (hn : n = l.length) (hm : m = r.length) : OwnB w' base v' (l ++ r) := by
  subst hn hm
  have := h.own
  simpa [OwnB, vals] using this

/-- A key's bytes. -/
def keyTail (u : Int) (s : ByteArray) (c : Int) : List UInt8 := if u = 2 then UInt8.ofNat s.size :: s.data.toList else if u = 3 then [UInt8.ofNat c.toNat] else []
def keyBytes (i u : Int) (s : ByteArray) (c : Int) : List UInt8 := [lo i, hi i, UInt8.ofNat u.toNat] ++ keyTail u s c
def KeyEnd (ok : Bool) (l : List UInt8) (w : World) (e : Ending) (w' : World) : Prop :=
  (ok = false ∧ e = .returned (.tuple #[.slice none 0 0, .int .i64 2]) ∧ Below w.heap.size w w') ∨ (ok = true ∧ BytesEnd l w e w')

theorem keyBox_cells (w : World) (i u : Int) (s : ByteArray) (c : Int) :
    (w.alloc (.cells #[.int .i64 i, .int .u8 u, .string s, .int .i64 c] 30)).cell? ⟨w.heap.size, 0, none⟩ = some (.int .i64 i) ∧ (w.alloc (.cells #[.int .i64 i, .int .u8 u, .string s, .int .i64 c] 30)).cell? ⟨w.heap.size, 1, none⟩ = some (.int .u8 u) ∧ (w.alloc (.cells #[.int .i64 i, .int .u8 u, .string s, .int .i64 c] 30)).cell? ⟨w.heap.size, 2, none⟩ = some (.string s) ∧ (w.alloc (.cells #[.int .i64 i, .int .u8 u, .string s, .int .i64 c] 30)).cell? ⟨w.heap.size, 3, none⟩ = some (.int .i64 c) := by
  refine ⟨by go_simp, by go_simp, by go_simp, by go_simp⟩

set_option maxHeartbeats 400000 in
theorem putKey_no (i u : Int) (s : ByteArray) (c : Int) (hs : s.size ≤ maxLen) (h : mayKey i u s c = false) (w : World) :
    Calls Try.prog 33 #[.agg #[.int .i64 i, .int .u8 u, .string s, .int .i64 c]] w (KeyEnd (mayKey i u s c) (keyBytes i u s c) w) := by
  rw [h]
  have C := fun w => h ▸ mayKey_any i u s c hs w
  have HC := Lib.hid C
  clear C h
  go_enter Try.func33, Try.ntmps33
  go_wp2_with fail
  refine (HC.out _).mono ?_
  rintro e w1 ⟨rfl, hb⟩
  have hb1 := below_of (below_alloc1 w (.cells #[.int .i64 i, .int .u8 u, .string s, .int .i64 c] 30)) hb
  clear hb
  go_wp2
  go_ret2
  exact .inl ⟨rfl, rfl, hb1⟩

theorem mayKey_what {i u c : Int} {s : ByteArray} (h : mayKey i u s c = true) : (1 ≤ i ∧ i ≤ 65535) ∧ (u = 1 ∨ (u = 2 ∧ nameB s = true) ∨ (u = 3 ∧ 0 ≤ c ∧ c < 8)) := by
  unfold mayKey at h
  simp only [Bool.and_eq_true, decide_eq_true_eq] at h
  refine ⟨⟨h.1.1, h.1.2⟩, ?_⟩
  by_cases u1 : u = 1
  · exact .inl u1
  · by_cases u2 : u = 2
    · subst u2
      have := h.2
      simp at this
      exact .inr (.inl ⟨rfl, this.1⟩)
    · by_cases u3 : u = 3
      · subst u3
        have := h.2
        simp at this
        exact .inr (.inr ⟨rfl, this.1.2, this.2⟩)
      · have := h.2
        simp [u1, u2, u3] at this
theorem nameB_size {s : ByteArray} (h : nameB s = true) : s.size ≤ 12 := by
  unfold nameB at h
  simp only [Bool.and_eq_true, decide_eq_true_eq] at h
  exact h.1.1.2
/-- A string as new bytes. -/
theorem bytesWorld_bs (w : World) (s : ByteArray) (hs : s.size ≤ 140737488355328) : Bs (Lib.bytesWorld w 5 s) (some ⟨w.heap.size, 0, none⟩) s.data.toList :=
  ⟨by simpa using hs, fun j hj => ⟨_, rfl, by
    have ha : (⟨w.heap.size, 0, none⟩ : Addr).add j = ⟨w.heap.size, j, none⟩ := by unfold Addr.add; split <;> simp_all
    rw [ha, Lib.bytesWorld_cell w 5 s j (by simpa using hj)]
    have hk : j < s.data.size := by simpa using hj
    simp only [List.getD, Array.getElem?_toList, Array.getElem_toList]
    rw [Array.getElem?_eq_getElem hk]
    rfl⟩⟩
theorem bytesWorld_below {B : Nat} {w0 w : World} (h : Below B w0 w) (hB : B ≤ w.heap.size) (s : ByteArray) : Below B w0 (Lib.bytesWorld w 5 s) :=
  h.trans ⟨by unfold Lib.bytesWorld World.freeze; simp; rfl, by unfold Lib.bytesWorld World.freeze; simp, by unfold Lib.bytesWorld World.freeze; simp; rfl, by rw [Lib.bytesWorld_size]; omega, fun k hk => Lib.bytesWorld_at_old w 5 s k (by omega)⟩

set_option maxRecDepth 100000 in
set_option maxHeartbeats 1000000 in
theorem putKey_node (i : Int) (s : ByteArray) (c : Int) (hs : s.size ≤ maxLen) (h : mayKey i 1 s c = true) (w : World) :
    Calls Try.prog 33 #[.agg #[.int .i64 i, .int .u8 1, .string s, .int .i64 c]] w (BytesEnd (keyBytes i 1 s c) w) := by
  have HC := Lib.hid (fun w => h ▸ mayKey_any i 1 s c hs w)
  obtain ⟨⟨i1, i2⟩, hw⟩ := mayKey_what h
  have wi : IntKind.u64.wrap i = i := IntWalk.u64_in _ (by omega)
  clear h hw
  go_enter Try.func33, Try.ntmps33
  go_wp2_with fail
  refine (HC.out _).mono ?_
  rintro e w1 ⟨rfl, hb⟩
  obtain ⟨a0, a1, a2, a3⟩ := keyBox_cells w i 1 s c
  have a0 := cell_below hb a0
  have A1 := Lib.hid (cell_below hb a1)
  have A2 := Lib.hid (cell_below hb a2)
  have A3 := Lib.hid (cell_below hb a3)
  have hb1 := below_of (below_alloc1 w (.cells #[.int .i64 i, .int .u8 1, .string s, .int .i64 c] 30)) hb
  have hz1 : w.heap.size < w1.heap.size := Nat.lt_of_lt_of_le (by simp) hb.size
  clear hb a1 a2 a3
  go_wp2_with fail
  refine (put_bytes i (by omega) i2 _).mono ?_
  rintro e w2 ⟨v2, rfl, own2, hb2⟩
  clear a0 HC
  have a1 := (hb2.cell hz1).trans A1.out
  obtain ⟨P2, c2, rfl, _⟩ := own_slice own2
  have own2' : OwnB (w2.alloc (.cells #[.int .u8 1] 5)) w1.heap.size (.slice P2 2 c2) [lo i, hi i] := World.ownsRow.alloc own2 _
  have src2 := Src.new w2 [.int .u8 1] 5
  have hz2 := hb2.size
  go_wp2_with (first
    | (at_builtin; refine wpList_app rfl rfl Try.underlying22 info_u8 rfl (by omega) rfl own2' rfl rfl src2 (by simp [Value.oneCell']) (by simp) (by simp) (by simp; omega) ?_; intro v3 w3 happ; have hb3 := happ.below own2' (hb2.alloc hb2.size _) (by simp; omega); have own3 : OwnB w3 w1.heap.size v3 [lo i, hi i, 1] := happ.own; clear happ src2 own2' a1; have a1 := (hb3.cell hz1).trans A1.out; have a2 := (hb3.cell hz1).trans A2.out; have a3 := (hb3.cell hz1).trans A3.out; have hz3 := hb3.size; obtain ⟨P3, c3, rfl, _⟩ := own_slice own3))
  go_ret2
  exact ⟨_, rfl, own_mono own3 hb1.size, hb1.trans (hb3.mono hb1.size)⟩

set_option maxRecDepth 100000 in
set_option maxHeartbeats 1000000 in
theorem putKey_entry (i : Int) (s : ByteArray) (c : Int) (hs : s.size ≤ maxLen) (h : mayKey i 2 s c = true) (w : World) :
    Calls Try.prog 33 #[.agg #[.int .i64 i, .int .u8 2, .string s, .int .i64 c]] w (BytesEnd (keyBytes i 2 s c) w) := by
  have HC := Lib.hid (fun w => h ▸ mayKey_any i 2 s c hs w)
  obtain ⟨⟨i1, i2⟩, hw⟩ := mayKey_what h
  have hn : nameB s = true := by rcases hw with h | ⟨_, h⟩ | ⟨h, _⟩ <;> first | exact h | omega
  have hs12 := nameB_size hn
  have wi : IntKind.u64.wrap i = i := IntWalk.u64_in _ (by omega)
  clear h hw
  go_enter Try.func33, Try.ntmps33
  go_wp2_with fail
  refine (HC.out _).mono ?_
  rintro e w1 ⟨rfl, hb⟩
  obtain ⟨a0, a1, a2, a3⟩ := keyBox_cells w i 2 s c
  have a0 := cell_below hb a0
  have A1 := Lib.hid (cell_below hb a1)
  have A2 := Lib.hid (cell_below hb a2)
  have A3 := Lib.hid (cell_below hb a3)
  have hb1 := below_of (below_alloc1 w (.cells #[.int .i64 i, .int .u8 2, .string s, .int .i64 c] 30)) hb
  have hz1 : w.heap.size < w1.heap.size := Nat.lt_of_lt_of_le (by simp) hb.size
  clear hb a1 a2 a3
  go_wp2_with fail
  refine (put_bytes i (by omega) i2 _).mono ?_
  rintro e w2 ⟨v2, rfl, own2, hb2⟩
  clear a0 HC
  have a1 := (hb2.cell hz1).trans A1.out
  obtain ⟨P2, c2, rfl, _⟩ := own_slice own2
  have own2' : OwnB (w2.alloc (.cells #[.int .u8 2] 5)) w1.heap.size (.slice P2 2 c2) [lo i, hi i] := World.ownsRow.alloc own2 _
  have src2 := Src.new w2 [.int .u8 2] 5
  have hz2 := hb2.size
  go_wp2_with (first
    | (at_builtin; refine wpList_app rfl rfl Try.underlying22 info_u8 rfl (by omega) rfl own2' rfl rfl src2 (by simp [Value.oneCell']) (by simp) (by simp) (by simp; omega) ?_; intro v3 w3 happ; have hb3 := happ.below own2' (hb2.alloc hb2.size _) (by simp; omega); have own3 : OwnB w3 w1.heap.size v3 [lo i, hi i, 2] := happ.own; clear happ src2 own2' a1; have a1 := (hb3.cell hz1).trans A1.out; have a2 := (hb3.cell hz1).trans A2.out; have a3 := (hb3.cell hz1).trans A3.out; have hz3 := hb3.size; obtain ⟨P3, c3, rfl, _⟩ := own_slice own3; have hcv := Lib.run_convert_string_bytes (P := Try.prog) w3 9 22 5 s Try.underlying9 Try.underlying22 Try.underlying5)
    | (go_at_call 52; refine (row_any s.data.toList s.size (by simp) (by omega) _ _ _ (bytesWorld_bs w3 s (by omega))).mono ?_; rintro e w4 ⟨v4, rfl, own4, hb4⟩; clear hcv a2; have hb34 : Below w3.heap.size w3 w4 := (bytesWorld_below (Below.refl _ w3) (Nat.le_refl _) s).trans (hb4.mono (by rw [Lib.bytesWorld_size]; omega)); have own3' : OwnB w4 w1.heap.size (.slice P3 3 c3) [lo i, hi i, 2] := World.ownsRow.kept own3 (grown_of_below hb34) (own_ne own3 (Nat.le_refl _) none (by intro k hk; cases hk)); have hb14 := hb3.trans (hb34.mono hz3); obtain ⟨P4, c4, rfl, src4⟩ := own_slice own4; clear a1 a3)
    | (at_builtin; refine wpList_app rfl rfl Try.underlying22 info_u8 rfl (by omega) rfl own3' rfl (by first | (simp [vals]; done) | (simp [vals]; omega)) src4 (vals_one _) (by simp; omega) (by simp; omega) hb14.size ?_; intro v5 w5 happ; have own5 := OwnB.app happ rfl (by simp); have hb5 := happ.below own3' hb14 hb14.size; clear happ own3' src4))
  go_ret2
  exact ⟨_, rfl, own_mono own5 hb1.size, hb1.trans (hb5.mono hb1.size)⟩

set_option maxRecDepth 100000 in
set_option maxHeartbeats 1000000 in
theorem putKey_piece (i : Int) (s : ByteArray) (c : Int) (hs : s.size ≤ maxLen) (h : mayKey i 3 s c = true) (w : World) :
    Calls Try.prog 33 #[.agg #[.int .i64 i, .int .u8 3, .string s, .int .i64 c]] w (BytesEnd (keyBytes i 3 s c) w) := by
  have HC := Lib.hid (fun w => h ▸ mayKey_any i 3 s c hs w)
  obtain ⟨⟨i1, i2⟩, hw⟩ := mayKey_what h
  have hc : 0 ≤ c ∧ c < 8 := by rcases hw with h | ⟨h, _⟩ | ⟨_, h⟩ <;> first | exact h | omega
  obtain ⟨c0, c8⟩ := hc
  have ho := Lib.hid (one_byte c0 (by omega))
  have wi : IntKind.u64.wrap i = i := IntWalk.u64_in _ (by omega)
  clear h hw
  go_enter Try.func33, Try.ntmps33
  go_wp2_with fail
  refine (HC.out _).mono ?_
  rintro e w1 ⟨rfl, hb⟩
  obtain ⟨a0, a1, a2, a3⟩ := keyBox_cells w i 3 s c
  have a0 := cell_below hb a0
  have A1 := Lib.hid (cell_below hb a1)
  have A2 := Lib.hid (cell_below hb a2)
  have A3 := Lib.hid (cell_below hb a3)
  have hb1 := below_of (below_alloc1 w (.cells #[.int .i64 i, .int .u8 3, .string s, .int .i64 c] 30)) hb
  have hz1 : w.heap.size < w1.heap.size := Nat.lt_of_lt_of_le (by simp) hb.size
  clear hb a1 a2 a3
  go_wp2_with fail
  refine (put_bytes i (by omega) i2 _).mono ?_
  rintro e w2 ⟨v2, rfl, own2, hb2⟩
  clear a0 HC
  have a1 := (hb2.cell hz1).trans A1.out
  obtain ⟨P2, c2, rfl, _⟩ := own_slice own2
  have own2' : OwnB (w2.alloc (.cells #[.int .u8 3] 5)) w1.heap.size (.slice P2 2 c2) [lo i, hi i] := World.ownsRow.alloc own2 _
  have src2 := Src.new w2 [.int .u8 3] 5
  have hz2 := hb2.size
  go_wp2_with (first
    | (at_builtin; refine wpList_app rfl rfl Try.underlying22 info_u8 rfl (by omega) rfl own2' rfl rfl src2 (by simp [Value.oneCell']) (by simp) (by simp) (by simp; omega) ?_; intro v3 w3 happ; have hb3 := happ.below own2' (hb2.alloc hb2.size _) (by simp; omega); have own3 : OwnB w3 w1.heap.size v3 [lo i, hi i, 3] := happ.own; clear happ src2 own2' a1; have a1 := (hb3.cell hz1).trans A1.out; have a2 := (hb3.cell hz1).trans A2.out; have a3 := (hb3.cell hz1).trans A3.out; have hz3 := hb3.size; obtain ⟨P3, c3, rfl, _⟩ := own_slice own3; have own3' : OwnB (w3.alloc (.cells #[.int .u8 c] 5)) w1.heap.size (.slice P3 3 c3) [lo i, hi i, 3] := World.ownsRow.alloc own3 _; have src3 := Src.new w3 [.int .u8 c] 5)
    | (at_builtin; refine wpList_app rfl rfl Try.underlying22 info_u8 rfl (by omega) rfl own3' rfl rfl src3 (by simp [Value.oneCell']) (by simp) (by simp) (by simp; omega) ?_; intro v5 w5 happ; have own5 : OwnB w5 w1.heap.size v5 ([lo i, hi i, 3] ++ [UInt8.ofNat c.toNat]) := OwnB.app (n := 3) (m := 1) (by rw [ho.out]; exact happ) rfl rfl; have hb5 := happ.below own3' (hb3.alloc hb3.size _) (by simp; omega); clear happ own3' src3))
  go_ret2
  exact ⟨_, rfl, own_mono own5 hb1.size, hb1.trans (hb5.mono hb1.size)⟩


theorem putKey_any (i u : Int) (s : ByteArray) (c : Int) (hs : s.size ≤ maxLen) (w : World) :
    Calls Try.prog 33 #[.agg #[.int .i64 i, .int .u8 u, .string s, .int .i64 c]] w (KeyEnd (mayKey i u s c) (keyBytes i u s c) w) := by
  cases h : mayKey i u s c
  · exact h ▸ putKey_no i u s c hs h w
  · rcases (mayKey_what h).2 with rfl | ⟨rfl, _⟩ | ⟨rfl, _⟩
    · exact (putKey_node i s c hs h w).mono fun e w' hh => .inr ⟨rfl, hh⟩
    · exact (putKey_entry i s c hs h w).mono fun e w' hh => .inr ⟨rfl, hh⟩
    · exact (putKey_piece i s c hs h w).mono fun e w' hh => .inr ⟨rfl, hh⟩
end Go.Proofs.Ytbhmncenbpdcjaa
end
section
/- The statements' own works, of layer 6. -/
namespace Go.Proofs.Ytbhmncenbpdcjaa
open Go.RowKit

theorem same_n (a b : List UInt8) (n m : Nat) (hn : a.length = n) (hm : b.length = m) (A B : Option Addr) (ca cb : Nat) (w : World) (ha : Bs w A a) (hb : Bs w B b) :
    Calls Try.prog 23 #[.slice A n ca, .slice B m cb] w (SameEnd w a b) := by
  subst hn hm; exact same_any a b A B ca cb w ha hb

def ab : ByteArray := ⟨#[97, 98]⟩
def emp : ByteArray := ⟨#[]⟩
def a1 : ByteArray := ⟨#[97]⟩
theorem may_ab : mayKey 5 2 ab 0 = true := by decide
theorem may_8 : mayKey 5 3 emp 8 = false := by unfold mayKey; rw [Lib.toList_data]; decide
theorem key_ab : keyBytes 5 2 ab 0 = [5, 0, 2, 2, 97, 98] := by decide
theorem before_works : before 5 1 emp 0 5 2 a1 0 = true := by decide

set_option maxRecDepth 100000 in
set_option maxHeartbeats 1000000 in
theorem works06 (w : World) : Calls Try.prog 13 #[] w (BoolEnd true w) := by
  have K1 := Lib.hid (fun w => key_ab ▸ putKey_entry 5 ab 0 (by simp [ab, maxLen, ByteArray.size]) may_ab w)
  have K2 := Lib.hid (fun w => putKey_no 5 3 emp 8 (by simp [emp, maxLen, ByteArray.size]) may_8 w)
  have KB := Lib.hid (fun w => before_works ▸ before_any 5 1 emp 0 5 2 a1 0 w)
  go_enter Try.func13, Try.ntmps13
  go_wp2_with fail
  refine (K1.out _).mono ?_
  rintro e w1 ⟨v1, rfl, own1, hb1⟩
  obtain ⟨A1, c1, rfl, src1⟩ := own_slice own1
  go_wp2_with fail
  refine (K2.out _).mono ?_
  rintro e w2 (⟨_, rfl, hb2⟩ | ⟨h, _⟩)
  · have bs2 := (Bs.of_src (l := [5, 0, 2, 2, 97, 98]) (by simp) src1).below hb2
    go_wp2_with fail
    have src3 := Src.new w2 (vals [5, 0, 2, 2, 97, 98]) 5
    have bs3 := Bs.of_src (l := [5, 0, 2, 2, 97, 98]) (by simp) src3
    refine (same_n [5, 0, 2, 2, 97, 98] [5, 0, 2, 2, 97, 98] 6 6 rfl rfl _ _ _ _ _ (bs2.below (below_alloc1 w2 _)) bs3).mono ?_
    rintro e w3 ⟨rfl, hb3⟩
    have hb23 := below_of (below_alloc1 w2 (.cells (vals [5, 0, 2, 2, 97, 98]).toArray 5)) hb3
    clear src3 bs3 src1 bs2
    go_wp2_with fail
    refine (KB.out _).mono ?_
    rintro e w4 ⟨rfl, hb4⟩
    go_wp2
    go_ret
    exact ⟨rfl, below_of (below_of (below_of hb1 hb2) hb23) hb4⟩
  · rw [may_8] at h; cases h
end Go.Proofs.Ytbhmncenbpdcjaa
end
section
/- FactApplies: its walk. -/
namespace Go.Proofs.Ytbhmncenbpdcjaa.P
open Go Go.Shelf Go.RowKit Go.Proofs.YtbhmncenbpdcjaaW.PrintWords Go.Proofs.YtbhmncenbpdcjaaW.PrintLast Go.Proofs.YtbhmncenbpdcjaaW.PrintMore
set_option linter.unusedVariables false
set_option linter.unusedSimpArgs false
attribute [local go_sem] Oper.semAt_some
def ApplyEnd (l : List F) (cs : List Ch) (w : World) (e : Ending) (w' : World) : Prop := ∃ v, e = .returned v ∧ Kd.R k47 47 w' w.heap.size (fun _ => True) v (applyF l cs) ∧ Below w.heap.size w w'
set_option maxRecDepth 100000 in
set_option maxHeartbeats 4000000 in
theorem apply_any (A0 : Option Addr) (c0 : Nat) (l0 : List F) (A1 : Option Addr) (c1 : Nat) (l1 : List Ch) (w : World) (hr0 : Kd.C k47 w A0 l0.length l0) (hc0 : l0.length ≤ c0) (hr1 : Kd.C k53 w A1 l1.length l1) (hc1 : l1.length ≤ c1)
    (hbig : (l0.length + l1.length) * 64 ≤ 140737488355328) (hs0 : ∀ x ∈ l0, x.f1.length < 140737488355328) (hs1 : ∀ x ∈ l1, x.f1.length < 140737488355328) :
    Calls Try.prog 16 #[.slice A0 l0.length c0, .slice A1 l1.length c1] w (ApplyEnd l0 l1 w) := by
  cases ho : ordB l0 with
  | true =>
    refine (apply_ord A0 c0 l0 A1 c1 l1 w hr0 hc0 hr1 hc1 ((ordB_iff l0).1 ho) hbig hs0 hs1).mono ?_
    rintro e w' ⟨v, rfl, hR, hb⟩
    refine ⟨v, rfl, ?_, hb⟩
    unfold applyF
    rw [ho]
    exact hR
  | false =>
    have HI := Lib.hid (isOrdered_any A0 c0 l0 w hr0 hc0)
    rw [ho] at HI
    have HE := Lib.hid ho
    clear ho hr0 hr1 hs0 hs1
    refine (callsIn_wide (n := 9)).1 ?_
    refine callsIn_of_wp_marks Try.func16 rfl trivial ?_ rfl
    simp only [Try.ntmps16, List.size_toArray, List.length_cons, List.length_nil, Nat.reduceAdd, Nat.reduceSub, Array.replicate_succ, Array.replicate_zero, List.push_toArray, List.append_toArray, List.nil_append, List.cons_append]
    gi_wp2_with fail
    refine ⟨trivial, (callsIn_wide.2 HI.out).mono ?_⟩
    rintro e w1 ⟨rfl, hb1⟩
    gi_wp2
    refine ⟨.slice none 0 0, ?_, _, rfl, ?_, hb1⟩
    · simp [results, Try.f16, go_sem]
    · unfold applyF; rw [HE.out]; exact Kd.R_nil _ _ _ _ _
theorem drawn_below {w w' : World} (h : Drawn0 w w') : Below w.heap.size w w' := by obtain ⟨n, rfl⟩ := h; exact pw_below_drewN (Below.refl _ _) n
theorem facts_any (A0 : Option Addr) (c0 : Nat) (l0 : List F) (A1 : Option Addr) (c1 : Nat) (l1 : List F) (w : World) (hr0 : Kd.C k47 w A0 l0.length l0) (hc0 : l0.length ≤ c0) (hr1 : Kd.C k47 w A1 l1.length l1) (hc1 : l1.length ≤ c1) (hs : ∀ x ∈ l0, x.f1.length < 140737488355328) :
    Calls Try.prog 19 #[.slice A0 l0.length c0, .slice A1 l1.length c1] w fun e w' => e = .returned (.bool (factsQ l0 l1)) ∧ Below w.heap.size w w' :=
  (carrackref00_Facts.calls (l0.length + 140737488355328 + 1) A0 c0 l0 A1 c1 l1 _ w hr0 hc0 hr1 hc1 (facts_f l0 l1 hr0.2.1 140737488355328 hs (by decide) _ (Nat.lt_succ_self _))).mono fun e w' ⟨he, hd⟩ => ⟨he, drawn_below hd⟩
theorem sameB_any (A0 : Option Addr) (c0 : Nat) (l0 : List Int) (A1 : Option Addr) (c1 : Nat) (l1 : List Int) (w : World) (hr0 : Kd.C (Kd.int .u8) w A0 l0.length l0) (hc0 : l0.length ≤ c0) (hr1 : Kd.C (Kd.int .u8) w A1 l1.length l1) (hc1 : l1.length ≤ c1) :
    Calls Try.prog 23 #[.slice A0 l0.length c0, .slice A1 l1.length c1] w fun e w' => e = .returned (.bool (decide (l0 = l1))) ∧ Below w.heap.size w w' :=
  (carrackref00_Same.calls (l0.length + 1) A0 c0 l0 A1 c1 l1 _ w hr0 hc0 hr1 hc1 (same_f l0 l1 hr0.2.1 _ (Nat.lt_succ_self _))).mono fun e w' ⟨he, hd⟩ => ⟨he, drawn_below hd⟩
theorem refFind_any (A : Option Addr) (c : Nat) (l : List F) (k : K) (w : World) (hr : Kd.C k47 w A l.length l) (hc : l.length ≤ c) (hn : ∀ x ∈ l, x.f0.f2.size ≤ maxLen) (hs : ∀ x ∈ l, x.f1.length < 140737488355328) :
    Calls Try.prog 22 #[.slice A l.length c, encK k] w (FindEnd l k w) :=
  (carrackref06_Find.calls (l.length + 1) A c l k.f0 k.f1 k.f2 k.f3 _ _ w hr hc (by rw [refFind_f l k hr.2.1 hn hs _ (Nat.lt_succ_self _), refFind_findB])).mono fun e w' ⟨v, he, hR, hb⟩ => ⟨v, he, hR, hb⟩
theorem findB_nil_of {l : List F} {k : K} (h : (ordB l && isB l k) = false) : findB l k = [] := by unfold findB; rw [h]; rfl
/-- What a list of facts must be, to go through all of it. -/
structure Fit (l : List F) : Prop where
  len : l.length ≤ 4194304
  name : ∀ x ∈ l, x.f0.f2.size ≤ maxLen
  val : ∀ x ∈ l, x.f1.length < 140737488355328
structure FitC (l : List Ch) : Prop where
  len : l.length ≤ 2097152
  name : ∀ x ∈ l, x.f0.f2.size ≤ maxLen
  val : ∀ x ∈ l, x.f1.length < 140737488355328
theorem applyF_fit {l : List F} {cs : List Ch} (h : Fit l) (hl : l.length ≤ 2097152) (hc : FitC cs) : Fit (applyF l cs) where
  len := by have h1 := applyF_length l cs; have h2 := hc.len; exact Nat.le_trans h1 (Nat.le_trans (Nat.add_le_add hl h2) (by decide))
  name := fun x hx => by
    rcases mem_applyF l cs x hx with h1 | ⟨c, h1, rfl⟩
    · exact h.name x h1
    · exact hc.name c h1
  val := fun x hx => by
    rcases mem_applyF l cs x hx with h1 | ⟨c, h1, rfl⟩
    · exact h.val x h1
    · exact hc.val c h1
end Go.Proofs.Ytbhmncenbpdcjaa.P
end
section
/- What a change makes of facts in order, for the law of changes: plain. -/
namespace Go.Proofs.Ytbhmncenbpdcjaa.P
open Go.RowKit Go.Proofs.YtbhmncenbpdcjaaW.PrintWords Go.Proofs.YtbhmncenbpdcjaaW.PrintLast Go.Proofs.YtbhmncenbpdcjaaW.PrintMore
def fnd (l : List F) (k : K) : List Int := if isB l k then (rd_T47 l (cntB l k : Nat)).f1 else []
theorem fnd_cons (x : F) (l : List F) (k : K) : fnd (x :: l) k = if bef x.f0 k then fnd l k else if keyQ x.f0 k then x.f1 else [] := by
  unfold fnd
  rw [isB_cons, cntB_cons]
  cases hb : bef x.f0 k with
  | true =>
    simp only [if_true]
    cases hi : isB l k with
    | false => rfl
    | true =>
      obtain ⟨hlt, _⟩ := isB_at hi
      simp only [if_true]
      rw [rd_nat _ _ hlt, rd_nat _ _ (by simp; omega)]
      rfl
  | false =>
    cases hk : keyQ x.f0 k with
    | true => simp only [if_true, Bool.false_eq_true, if_false]; rw [rd_nat _ _ (by simp)]; rfl
    | false => rfl
theorem step_cons (x : F) (l : List F) (c : Ch) : stepB (x :: l) c = if bef x.f0 c.f0 then x :: stepB l c else if keyQ x.f0 c.f0 then (if c.f2 then l else ⟨c.f0, c.f1⟩ :: l) else (if c.f2 then x :: l else ⟨c.f0, c.f1⟩ :: x :: l) := by
  unfold stepB
  rw [isB_cons, cntB_cons]
  cases hb : bef x.f0 c.f0 with
  | true => cases isB l c.f0 <;> cases c.f2 <;> simp
  | false => cases hk : keyQ x.f0 c.f0 <;> cases c.f2 <;> simp
theorem after_none (k : K) : ∀ (l : List F), (∀ y ∈ l, bef k y.f0 = true) → isB l k = false ∧ fnd l k = []
  | [], _ => ⟨rfl, rfl⟩
  | y :: l, h => by
    obtain ⟨_, h2, h3⟩ := bef_not_key (h y (by simp))
    rw [isB_cons, fnd_cons, h2, h3]
    exact ⟨rfl, rfl⟩
theorem keyQ_self (k : K) : keyQ k k = true := (keyQ_iff k k).2 rfl
theorem step_is (c : Ch) : ∀ (l : List F), Ord l → isB (stepB l c) c.f0 = !c.f2 ∧ fnd (stepB l c) c.f0 = (if c.f2 then [] else c.f1)
  | [], _ => by
    unfold stepB
    rw [isB_nil]
    cases hg : c.f2 with
    | true => exact ⟨rfl, rfl⟩
    | false =>
      simp only [Bool.false_eq_true, if_false]
      have : ([] : List F).insertIdx (cntB [] c.f0) ⟨c.f0, c.f1⟩ = [⟨c.f0, c.f1⟩] := rfl
      rw [this, isB_cons, fnd_cons, bef_self, keyQ_self]
      exact ⟨rfl, rfl⟩
  | x :: l, h => by
    have hx : ∀ y ∈ l, bef x.f0 y.f0 = true := (List.pairwise_cons.1 h).1
    have hl : Ord l := (List.pairwise_cons.1 h).2
    rw [step_cons]
    cases hb : bef x.f0 c.f0 with
    | true =>
      simp only [if_true]
      rw [isB_cons, fnd_cons, hb]
      exact step_is c l hl
    | false =>
      cases hk : keyQ x.f0 c.f0 with
      | true =>
        have hxk : x.f0 = c.f0 := (keyQ_iff _ _).1 hk
        cases hg : c.f2 with
        | true =>
          simp only [Bool.false_eq_true, if_false, if_true]
          exact after_none c.f0 l fun y hy => by rw [← hxk]; exact hx y hy
        | false =>
          simp only [Bool.false_eq_true, if_false, if_true]
          rw [isB_cons, fnd_cons, bef_self, keyQ_self]
          exact ⟨rfl, rfl⟩
      | false =>
        cases hg : c.f2 with
        | true =>
          simp only [Bool.false_eq_true, if_false, if_true]
          rw [isB_cons, fnd_cons, hb, hk]
          exact ⟨rfl, rfl⟩
        | false =>
          simp only [Bool.false_eq_true, if_false]
          rw [isB_cons, fnd_cons, bef_self, keyQ_self]
          exact ⟨rfl, rfl⟩
theorem step_twice (c : Ch) : ∀ (l : List F), Ord l → stepB (stepB l c) c = stepB l c
  | [], _ => by
    cases hg : c.f2 with
    | true =>
      have : stepB [] c = [] := by unfold stepB; rw [isB_nil, hg]; rfl
      rw [this, this]
    | false =>
      have : stepB [] c = [⟨c.f0, c.f1⟩] := by unfold stepB; rw [isB_nil, hg]; rfl
      rw [this, step_cons, bef_self, keyQ_self, hg]
      rfl
  | x :: l, h => by
    have hx : ∀ y ∈ l, bef x.f0 y.f0 = true := (List.pairwise_cons.1 h).1
    have hl : Ord l := (List.pairwise_cons.1 h).2
    have hsx := step_cons x l c
    cases hb : bef x.f0 c.f0 with
    | true =>
      rw [hb] at hsx
      simp only [if_true] at hsx
      rw [hsx, step_cons, hb, step_twice c l hl]
      rfl
    | false =>
      cases hk : keyQ x.f0 c.f0 with
      | true =>
        have hxk : x.f0 = c.f0 := (keyQ_iff _ _).1 hk
        cases hg : c.f2 with
        | true =>
          rw [hb, hk, hg] at hsx
          simp only [Bool.false_eq_true, if_false, if_true] at hsx
          rw [hsx]
          have hn := (after_none c.f0 l fun y hy => by rw [← hxk]; exact hx y hy).1
          unfold stepB
          rw [hn, hg]
          rfl
        | false =>
          rw [hb, hk, hg] at hsx
          simp only [Bool.false_eq_true, if_false, if_true] at hsx
          rw [hsx, step_cons, bef_self, keyQ_self, hg]
          rfl
      | false =>
        cases hg : c.f2 with
        | true =>
          rw [hb, hk, hg] at hsx
          simp only [Bool.false_eq_true, if_false, if_true] at hsx
          rw [hsx, hsx]
        | false =>
          rw [hb, hk, hg] at hsx
          simp only [Bool.false_eq_true, if_false] at hsx
          rw [hsx, step_cons, bef_self, keyQ_self, hg]
          rfl
theorem step_other (c : Ch) (k : K) (hn : keyQ k c.f0 = false) : ∀ (l : List F), Ord l → isB (stepB l c) k = isB l k ∧ fnd (stepB l c) k = fnd l k
  | [], _ => by
    have hn' : keyQ c.f0 k = false := by
      cases hq : keyQ c.f0 k with
      | false => rfl
      | true => rw [(keyQ_iff _ _).1 hq, keyQ_self] at hn; cases hn
    cases hg : c.f2 with
    | true =>
      have : stepB [] c = [] := by unfold stepB; rw [isB_nil, hg]; rfl
      rw [this]
      exact ⟨rfl, rfl⟩
    | false =>
      have : stepB [] c = [⟨c.f0, c.f1⟩] := by unfold stepB; rw [isB_nil, hg]; rfl
      rw [this, isB_cons, fnd_cons, hn']
      cases bef c.f0 k <;> exact ⟨rfl, rfl⟩
  | x :: l, h => by
    have hx : ∀ y ∈ l, bef x.f0 y.f0 = true := (List.pairwise_cons.1 h).1
    have hl : Ord l := (List.pairwise_cons.1 h).2
    have hn' : keyQ c.f0 k = false := by
      cases hq : keyQ c.f0 k with
      | false => rfl
      | true => rw [(keyQ_iff _ _).1 hq, keyQ_self] at hn; cases hn
    rw [step_cons]
    cases hb : bef x.f0 c.f0 with
    | true =>
      simp only [if_true]
      rw [isB_cons, fnd_cons, isB_cons, fnd_cons, (step_other c k hn l hl).1, (step_other c k hn l hl).2]
      exact ⟨rfl, rfl⟩
    | false =>
      cases hk : keyQ x.f0 c.f0 with
      | true =>
        have hxk : x.f0 = c.f0 := (keyQ_iff _ _).1 hk
        cases hg : c.f2 with
        | true =>
          simp only [Bool.false_eq_true, if_false, if_true]
          rw [isB_cons, fnd_cons, hxk, hn']
          cases hb2 : bef c.f0 k with
          | true => exact ⟨rfl, rfl⟩
          | false =>
            have hb3 := bef_other hb2 hn'
            exact after_none k l fun y hy => bef_trans hb3 (by rw [← hxk]; exact hx y hy)
        | false =>
          simp only [Bool.false_eq_true, if_false, if_true]
          rw [isB_cons, fnd_cons, isB_cons, fnd_cons, hxk, hn']
          cases bef c.f0 k <;> exact ⟨rfl, rfl⟩
      | false =>
        cases hg : c.f2 with
        | true => simp
        | false =>
          simp only [Bool.false_eq_true, if_false]
          rw [isB_cons, fnd_cons, hn']
          cases hb2 : bef c.f0 k with
          | true => exact ⟨rfl, rfl⟩
          | false =>
            have hb3 := bef_trans (bef_other hb2 hn') (bef_other hb hk)
            obtain ⟨_, h2, h3⟩ := bef_not_key hb3
            rw [isB_cons, fnd_cons, h2, h3]
            exact ⟨rfl, rfl⟩
theorem findB_fnd (l : List F) (h : Ord l) (k : K) : findB l k = fnd l k ∧ (ordB l && isB l k) = isB l k := by
  unfold findB fnd
  rw [(ordB_iff l).2 h]
  exact ⟨rfl, rfl⟩
/-- A fact as a change. -/
def asC (x : F) : Ch := ⟨x.f0, x.f1, false⟩
theorem applyF_ord (l : List F) (h : Ord l) (cs : List Ch) : applyF l cs = applyB l cs := by unfold applyF; rw [(ordB_iff l).2 h]; rfl
end Go.Proofs.Ytbhmncenbpdcjaa.P
end
section
/- FactChanges: its last loop. -/
namespace Go.Proofs.Ytbhmncenbpdcjaa.P
open Go Go.Shelf Go.RowKit Go.Proofs.YtbhmncenbpdcjaaW.PrintWords Go.Proofs.YtbhmncenbpdcjaaW.PrintLast Go.Proofs.YtbhmncenbpdcjaaW.PrintMore
set_option linter.unusedVariables false
set_option linter.unusedSimpArgs false
attribute [local go_sem] Oper.semAt_some
attribute [local go_sem ↓] Go.wp_at_zero Go.wp_at_succ
def loopsOf : Code → List Code
  | .loop c => c :: loopsOf c
  | .seq a b => loopsOf a ++ loopsOf b
  | .block _ c => loopsOf c
  | .scope c => loopsOf c
  | .cond _ a b => loopsOf a ++ loopsOf b
  | _ => []
noncomputable def chgBody2 : Code := ((Try.f6.body.map loopsOf).getD []).getD 1 .skip
set_option maxRecDepth 100000 in
set_option maxHeartbeats 8000000 in
theorem chg_round2 (u0 u1 u2 u3 u4 u5 u6 u7 u8 u9 u10 u12 u13 u14 u15 u16 u18 u19 u20 u21 u22 u23 u24 u25 u26 u27 u28 u29 u30 u31 u32 u33 u34 u35 u36 u37 u38 u39 u40 u41 u42 u43 u44 u45 u46 u47 u48 u49 u50 u51 u52 u53 u54 u55 u56 u57 u58 u59 u60 u61 u62 u63 u64 u65 u66 u67 u68 u69 u70 u71 u72 u73 u74 u75 u76 u77 u78 u79 u80 u81 u82 u83 u84 u85 u86 u87 u88 u89 u90 u91 u92 u93 u94 u95 u96 u97 u98 u99 u100 u101 u102 u103 u104 u105 u106 u107 u108 u109 u110 u111 u112 u113 u114 u115 u116 u117 u118 u119 u120 u121 u122 u123 u124 : Value) (A : Option Addr) (n : Nat) (l : List F) (j : Nat) (W : World) (Q : Exit → Act → World → Prop) (hj : j + 1 < l.length) (ho : Ord l) (hC : Kd.C k47 W A l.length l)
    (hQ : ∀ (v105 v106 v107 v108 v109 v110 v111 v112 v113 v114 v115 v116 v117 v118 v119 v120 v121 v122 v123 : Value) (W' : World), Below W.heap.size W W' → Q .normal { tmps := #[u0, u1, u2, u3, u4, u5, u6, u7, u8, u9, u10, .slice A l.length n, u12, u13, u14, u15, u16, .int .i64 ((j : Int) + 1 + 1), u18, u19, u20, u21, u22, u23, u24, u25, u26, u27, u28, u29, u30, u31, u32, u33, u34, u35, u36, u37, u38, u39, u40, u41, u42, u43, u44, u45, u46, u47, u48, u49, u50, u51, u52, u53, u54, u55, u56, u57, u58, u59, u60, u61, u62, u63, u64, u65, u66, u67, u68, u69, u70, u71, u72, u73, u74, u75, u76, u77, u78, u79, u80, u81, u82, u83, u84, u85, u86, u87, u88, u89, u90, u91, u92, u93, u94, u95, u96, u97, u98, u99, u100, u101, u102, u103, u104, v105, v106, v107, v108, v109, v110, v111, v112, v113, v114, v115, v116, v117, v118, v119, v120, v121, v122, v123, u124], defers := [] } W') :
    Code.wp Try.prog chgBody2 Q { tmps := #[u0, u1, u2, u3, u4, u5, u6, u7, u8, u9, u10, .slice A l.length n, u12, u13, u14, u15, u16, .int .i64 ((j : Int) + 1), u18, u19, u20, u21, u22, u23, u24, u25, u26, u27, u28, u29, u30, u31, u32, u33, u34, u35, u36, u37, u38, u39, u40, u41, u42, u43, u44, u45, u46, u47, u48, u49, u50, u51, u52, u53, u54, u55, u56, u57, u58, u59, u60, u61, u62, u63, u64, u65, u66, u67, u68, u69, u70, u71, u72, u73, u74, u75, u76, u77, u78, u79, u80, u81, u82, u83, u84, u85, u86, u87, u88, u89, u90, u91, u92, u93, u94, u95, u96, u97, u98, u99, u100, u101, u102, u103, u104, u105, u106, u107, u108, u109, u110, u111, u112, u113, u114, u115, u116, u117, u118, u119, u120, u121, u122, u123, u124], defers := [] } W := by
  conv => arg 2; whnf
  have hlm : l.length ≤ 9223372036854775807 := hC.2.1
  obtain ⟨ad, Ax, cx, hA, h0, h1, h2, h3, h4, h5, h6⟩ := at_T47 hC (j : Nat) (by omega) (by omega)
  obtain ⟨ad', Ay, cy, hA', g0, g1, g2, g3, g4, g5, g6⟩ := at_T47 hC ((j + 1 : Nat) : Int) (by omega) (by omega)
  subst hA
  obtain rfl : ad = ad' := by injection hA'
  simp only [Int.toNat_natCast] at h0 h1 h2 h3 h4 g0 g1 g2 g3 g4
  have hb : bef (rd_T47 l (j : Nat)).f0 (rd_T47 l ((j + 1 : Nat) : Int)).f0 = true := by
    rw [rd_nat l j (by omega), rd_nat l (j + 1) (by omega)]
    exact (List.pairwise_iff_getElem.1 ho) j (j + 1) (by omega) hj (by omega)
  generalize rd_T47 l (j : Nat) = x at *
  generalize rd_T47 l ((j + 1 : Nat) : Int) = y at *
  have HB := Lib.hid (fun W => bef_any x.f0 y.f0 W)
  rw [hb] at HB
  unfold encK at HB
  have HQ := Lib.hid hQ
  clear hb hQ ho hC h6 g6
  have ci0 : (0 : Int) ≤ (j : Int) := by omega
  have ci1 : (j : Int) < (l.length : Int) := by omega
  have ci2 : (0 : Int) ≤ (j : Int) + 1 := by omega
  have ci3 : (j : Int) + 1 < (l.length : Int) := by omega
  have cw : IntKind.i64.wrap ((j : Int) + 1 - 1) = (j : Int) := by rw [Int.add_sub_cancel]; exact IntWalk.i64_in _ (by omega)
  have cn : ((j : Int) + 1).toNat = j + 1 := by omega
  have cs : (j : Int) + 1 - 1 = (j : Int) := by omega
  have cw2 : IntKind.i64.wrap (j : Int) = (j : Int) := IntWalk.i64_in _ (by omega)
  have cw3 : wrap64 (j : Int) = (j : Int) := by unfold wrap64; omega
  go_wp2_with fail
  go_region_held3 (fun w' => w'.cell? (ad.add (j * 5)) = some (.int .i64 x.f0.f0) ∧ w'.cell? ⟨(ad.add (j * 5)).block, (ad.add (j * 5)).off + 1, none⟩ = some (.int .u8 x.f0.f1) ∧ w'.cell? ⟨(ad.add (j * 5)).block, (ad.add (j * 5)).off + 2, none⟩ = some (.string x.f0.f2) ∧ w'.cell? ⟨(ad.add (j * 5)).block, (ad.add (j * 5)).off + 3, none⟩ = some (.int .i64 x.f0.f3) ∧ w'.cell? (ad.add ((j + 1) * 5)) = some (.int .i64 y.f0.f0) ∧ w'.cell? ⟨(ad.add ((j + 1) * 5)).block, (ad.add ((j + 1) * 5)).off + 1, none⟩ = some (.int .u8 y.f0.f1) ∧ w'.cell? ⟨(ad.add ((j + 1) * 5)).block, (ad.add ((j + 1) * 5)).off + 2, none⟩ = some (.string y.f0.f2) ∧ w'.cell? ⟨(ad.add ((j + 1) * 5)).block, (ad.add ((j + 1) * 5)).off + 3, none⟩ = some (.int .i64 y.f0.f3))
    (first | go_keep | (go_split_ands; exact ⟨cell_below hb8 h0, cell_below hb8 h1, cell_below hb8 h2, cell_below hb8 h3, cell_below hb8 g0, cell_below hb8 g1, cell_below hb8 g2, cell_below hb8 g3⟩))
    (first | (go_at_call 25; (with_reducible refine (HB.out _).mono ?_); rintro e w7 ⟨rfl, hb7⟩; have hb8 : Below W.heap.size W w7 := (Below.refl W.heap.size W).drew.trans (hb7.mono (Nat.le_refl _))))
  go_wp2
  exact HQ.out _ _ _ _ _ _ _ _ _ _ _ _ _ _ _ _ _ _ _ w7 hb8
set_option maxRecDepth 100000 in
set_option maxHeartbeats 8000000 in
theorem chg_exit2 (u0 u1 u2 u3 u4 u5 u6 u7 u8 u9 u10 u12 u13 u14 u15 u16 u18 u19 u20 u21 u22 u23 u24 u25 u26 u27 u28 u29 u30 u31 u32 u33 u34 u35 u36 u37 u38 u39 u40 u41 u42 u43 u44 u45 u46 u47 u48 u49 u50 u51 u52 u53 u54 u55 u56 u57 u58 u59 u60 u61 u62 u63 u64 u65 u66 u67 u68 u69 u70 u71 u72 u73 u74 u75 u76 u77 u78 u79 u80 u81 u82 u83 u84 u85 u86 u87 u88 u89 u90 u91 u92 u93 u94 u95 u96 u97 u98 u99 u100 u101 u102 u103 u104 u105 u106 u107 u108 u109 u110 u111 u112 u113 u114 u115 u116 u117 u118 u119 u120 u121 u122 u123 u124 : Value) (A : Option Addr) (n : Nat) (l : List F) (i : Int) (hi : (l.length : Int) ≤ i) (W : World) (Q : Exit → Act → World → Prop)
    (hQ : ∀ (v105 v106 v107 v108 : Value), Q (.exit 2) { tmps := #[u0, u1, u2, u3, u4, u5, u6, u7, u8, u9, u10, .slice A l.length n, u12, u13, u14, u15, u16, .int .i64 i, u18, u19, u20, u21, u22, u23, u24, u25, u26, u27, u28, u29, u30, u31, u32, u33, u34, u35, u36, u37, u38, u39, u40, u41, u42, u43, u44, u45, u46, u47, u48, u49, u50, u51, u52, u53, u54, u55, u56, u57, u58, u59, u60, u61, u62, u63, u64, u65, u66, u67, u68, u69, u70, u71, u72, u73, u74, u75, u76, u77, u78, u79, u80, u81, u82, u83, u84, u85, u86, u87, u88, u89, u90, u91, u92, u93, u94, u95, u96, u97, u98, u99, u100, u101, u102, u103, u104, v105, v106, v107, v108, u109, u110, u111, u112, u113, u114, u115, u116, u117, u118, u119, u120, u121, u122, u123, u124], defers := [] } W) :
    Code.wp Try.prog chgBody2 Q { tmps := #[u0, u1, u2, u3, u4, u5, u6, u7, u8, u9, u10, .slice A l.length n, u12, u13, u14, u15, u16, .int .i64 i, u18, u19, u20, u21, u22, u23, u24, u25, u26, u27, u28, u29, u30, u31, u32, u33, u34, u35, u36, u37, u38, u39, u40, u41, u42, u43, u44, u45, u46, u47, u48, u49, u50, u51, u52, u53, u54, u55, u56, u57, u58, u59, u60, u61, u62, u63, u64, u65, u66, u67, u68, u69, u70, u71, u72, u73, u74, u75, u76, u77, u78, u79, u80, u81, u82, u83, u84, u85, u86, u87, u88, u89, u90, u91, u92, u93, u94, u95, u96, u97, u98, u99, u100, u101, u102, u103, u104, u105, u106, u107, u108, u109, u110, u111, u112, u113, u114, u115, u116, u117, u118, u119, u120, u121, u122, u123, u124], defers := [] } W := by
  conv => arg 2; whnf
  have HQ := Lib.hid hQ
  clear hQ
  have hi2 : ¬ i < (l.length : Int) := by omega
  go_wp2_with fail
  exact HQ.out _ _ _ _
def ChgI (u0 u1 u2 u3 u4 u5 u6 u7 u8 u9 u10 u12 u13 u14 u15 u16 u18 u19 u20 u21 u22 u23 u24 u25 u26 u27 u28 u29 u30 u31 u32 u33 u34 u35 u36 u37 u38 u39 u40 u41 u42 u43 u44 u45 u46 u47 u48 u49 u50 u51 u52 u53 u54 u55 u56 u57 u58 u59 u60 u61 u62 u63 u64 u65 u66 u67 u68 u69 u70 u71 u72 u73 u74 u75 u76 u77 u78 u79 u80 u81 u82 u83 u84 u85 u86 u87 u88 u89 u90 u91 u92 u93 u94 u95 u96 u97 u98 u99 u100 u101 u102 u103 u104 u124 : Value) (A : Option Addr) (n : Nat) (l : List F) (w0 : World) (a : Act) (W : World) : Prop :=
  ∃ (j : Nat) (v105 v106 v107 v108 v109 v110 v111 v112 v113 v114 v115 v116 v117 v118 v119 v120 v121 v122 v123 : Value), a = { tmps := #[u0, u1, u2, u3, u4, u5, u6, u7, u8, u9, u10, .slice A l.length n, u12, u13, u14, u15, u16, .int .i64 ((j : Int) + 1), u18, u19, u20, u21, u22, u23, u24, u25, u26, u27, u28, u29, u30, u31, u32, u33, u34, u35, u36, u37, u38, u39, u40, u41, u42, u43, u44, u45, u46, u47, u48, u49, u50, u51, u52, u53, u54, u55, u56, u57, u58, u59, u60, u61, u62, u63, u64, u65, u66, u67, u68, u69, u70, u71, u72, u73, u74, u75, u76, u77, u78, u79, u80, u81, u82, u83, u84, u85, u86, u87, u88, u89, u90, u91, u92, u93, u94, u95, u96, u97, u98, u99, u100, u101, u102, u103, u104, v105, v106, v107, v108, v109, v110, v111, v112, v113, v114, v115, v116, v117, v118, v119, v120, v121, v122, v123, u124], defers := [] } ∧ j ≤ l.length ∧ Below w0.heap.size w0 W
set_option maxRecDepth 100000 in
set_option maxHeartbeats 8000000 in
theorem chg_loop2 (u0 u1 u2 u3 u4 u5 u6 u7 u8 u9 u10 u12 u13 u14 u15 u16 u18 u19 u20 u21 u22 u23 u24 u25 u26 u27 u28 u29 u30 u31 u32 u33 u34 u35 u36 u37 u38 u39 u40 u41 u42 u43 u44 u45 u46 u47 u48 u49 u50 u51 u52 u53 u54 u55 u56 u57 u58 u59 u60 u61 u62 u63 u64 u65 u66 u67 u68 u69 u70 u71 u72 u73 u74 u75 u76 u77 u78 u79 u80 u81 u82 u83 u84 u85 u86 u87 u88 u89 u90 u91 u92 u93 u94 u95 u96 u97 u98 u99 u100 u101 u102 u103 u104 u105 u106 u107 u108 u109 u110 u111 u112 u113 u114 u115 u116 u117 u118 u119 u120 u121 u122 u123 u124 : Value) (A : Option Addr) (n : Nat) (l : List F) (w0 : World) (Q : Exit → Act → World → Prop) (ho : Ord l) (hC : Kd.C k47 w0 A l.length l)
    (hQ : ∀ (v105 v106 v107 v108 v109 v110 v111 v112 v113 v114 v115 v116 v117 v118 v119 v120 v121 v122 v123 : Value) (i : Int) (W' : World), Below w0.heap.size w0 W' → Q (.exit 2) { tmps := #[u0, u1, u2, u3, u4, u5, u6, u7, u8, u9, u10, .slice A l.length n, u12, u13, u14, u15, u16, .int .i64 i, u18, u19, u20, u21, u22, u23, u24, u25, u26, u27, u28, u29, u30, u31, u32, u33, u34, u35, u36, u37, u38, u39, u40, u41, u42, u43, u44, u45, u46, u47, u48, u49, u50, u51, u52, u53, u54, u55, u56, u57, u58, u59, u60, u61, u62, u63, u64, u65, u66, u67, u68, u69, u70, u71, u72, u73, u74, u75, u76, u77, u78, u79, u80, u81, u82, u83, u84, u85, u86, u87, u88, u89, u90, u91, u92, u93, u94, u95, u96, u97, u98, u99, u100, u101, u102, u103, u104, v105, v106, v107, v108, v109, v110, v111, v112, v113, v114, v115, v116, v117, v118, v119, v120, v121, v122, v123, u124], defers := [] } W') :
    Code.wp Try.prog (.loop chgBody2) Q { tmps := #[u0, u1, u2, u3, u4, u5, u6, u7, u8, u9, u10, .slice A l.length n, u12, u13, u14, u15, u16, .int .i64 1, u18, u19, u20, u21, u22, u23, u24, u25, u26, u27, u28, u29, u30, u31, u32, u33, u34, u35, u36, u37, u38, u39, u40, u41, u42, u43, u44, u45, u46, u47, u48, u49, u50, u51, u52, u53, u54, u55, u56, u57, u58, u59, u60, u61, u62, u63, u64, u65, u66, u67, u68, u69, u70, u71, u72, u73, u74, u75, u76, u77, u78, u79, u80, u81, u82, u83, u84, u85, u86, u87, u88, u89, u90, u91, u92, u93, u94, u95, u96, u97, u98, u99, u100, u101, u102, u103, u104, u105, u106, u107, u108, u109, u110, u111, u112, u113, u114, u115, u116, u117, u118, u119, u120, u121, u122, u123, u124], defers := [] } w0 := by
  refine wp_loop (ChgI u0 u1 u2 u3 u4 u5 u6 u7 u8 u9 u10 u12 u13 u14 u15 u16 u18 u19 u20 u21 u22 u23 u24 u25 u26 u27 u28 u29 u30 u31 u32 u33 u34 u35 u36 u37 u38 u39 u40 u41 u42 u43 u44 u45 u46 u47 u48 u49 u50 u51 u52 u53 u54 u55 u56 u57 u58 u59 u60 u61 u62 u63 u64 u65 u66 u67 u68 u69 u70 u71 u72 u73 u74 u75 u76 u77 u78 u79 u80 u81 u82 u83 u84 u85 u86 u87 u88 u89 u90 u91 u92 u93 u94 u95 u96 u97 u98 u99 u100 u101 u102 u103 u104 u124 A n l w0) (fun a _ => l.length + 2 - (intOf (a.tmps.getD 17 undef)).toNat) ?_ ?_
  · exact ⟨0, u105, u106, u107, u108, u109, u110, u111, u112, u113, u114, u115, u116, u117, u118, u119, u120, u121, u122, u123, rfl, Nat.zero_le _, Below.refl _ _⟩
  · rintro a wr ⟨j, v105, v106, v107, v108, v109, v110, v111, v112, v113, v114, v115, v116, v117, v118, v119, v120, v121, v122, v123, rfl, hj, hb⟩
    rcases Nat.lt_or_ge (j + 1) l.length with hlt | hge
    · refine chg_round2 u0 u1 u2 u3 u4 u5 u6 u7 u8 u9 u10 u12 u13 u14 u15 u16 u18 u19 u20 u21 u22 u23 u24 u25 u26 u27 u28 u29 u30 u31 u32 u33 u34 u35 u36 u37 u38 u39 u40 u41 u42 u43 u44 u45 u46 u47 u48 u49 u50 u51 u52 u53 u54 u55 u56 u57 u58 u59 u60 u61 u62 u63 u64 u65 u66 u67 u68 u69 u70 u71 u72 u73 u74 u75 u76 u77 u78 u79 u80 u81 u82 u83 u84 u85 u86 u87 u88 u89 u90 u91 u92 u93 u94 u95 u96 u97 u98 u99 u100 u101 u102 u103 u104 v105 v106 v107 v108 v109 v110 v111 v112 v113 v114 v115 v116 v117 v118 v119 v120 v121 v122 v123 u124 A n l j wr _ hlt ho (Kd.C_below hC hb) ?_
      intro x105 x106 x107 x108 x109 x110 x111 x112 x113 x114 x115 x116 x117 x118 x119 x120 x121 x122 x123 W' hb'
      refine ⟨⟨j + 1, x105, x106, x107, x108, x109, x110, x111, x112, x113, x114, x115, x116, x117, x118, x119, x120, x121, x122, x123, by rw [show ((j : Int) + 1 + 1) = ((j + 1 : Nat) : Int) + 1 by omega], by omega, hb.trans (hb'.mono hb.size)⟩, ?_⟩
      show l.length + 2 - (intOf (Value.int .i64 ((j : Int) + 1 + 1))).toNat < l.length + 2 - (intOf (Value.int .i64 ((j : Int) + 1))).toNat
      simp [intOf]
      omega
    · refine chg_exit2 u0 u1 u2 u3 u4 u5 u6 u7 u8 u9 u10 u12 u13 u14 u15 u16 u18 u19 u20 u21 u22 u23 u24 u25 u26 u27 u28 u29 u30 u31 u32 u33 u34 u35 u36 u37 u38 u39 u40 u41 u42 u43 u44 u45 u46 u47 u48 u49 u50 u51 u52 u53 u54 u55 u56 u57 u58 u59 u60 u61 u62 u63 u64 u65 u66 u67 u68 u69 u70 u71 u72 u73 u74 u75 u76 u77 u78 u79 u80 u81 u82 u83 u84 u85 u86 u87 u88 u89 u90 u91 u92 u93 u94 u95 u96 u97 u98 u99 u100 u101 u102 u103 u104 v105 v106 v107 v108 v109 v110 v111 v112 v113 v114 v115 v116 v117 v118 v119 v120 v121 v122 v123 u124 A n l ((j : Int) + 1) (by omega) wr _ ?_
      intro x105 x106 x107 x108
      exact hQ x105 x106 x107 x108 v109 v110 v111 v112 v113 v114 v115 v116 v117 v118 v119 v120 v121 v122 v123 _ wr hb
end Go.Proofs.Ytbhmncenbpdcjaa.P
end
section
/- FactChanges: its walk. -/
namespace Go.Proofs.Ytbhmncenbpdcjaa.P
open Go Go.Shelf Go.RowKit Go.Proofs.YtbhmncenbpdcjaaW.PrintWords Go.Proofs.YtbhmncenbpdcjaaW.PrintLast Go.Proofs.YtbhmncenbpdcjaaW.PrintMore
set_option linter.unusedVariables false
set_option linter.unusedSimpArgs false
attribute [local go_sem] Oper.semAt_some
attribute [local go_sem high] eqA30
attribute [local go_sem ↓] Go.wp_at_zero Go.wp_at_succ
theorem C_one {α : Type} {d : Kd α} {W : World} {b t : Nat} {cs : List Value} {x : α} (hb : W.heap[b]? = some (.cells cs.toArray t (0, 0))) (hK : d.K W x cs) : d.C W (some ⟨b, 0, none⟩) 1 [x] := by
  refine ⟨rfl, by decide, fun _ => ⟨⟨b, 0, none⟩, rfl, fun j p hp => ?_⟩⟩
  match j, hp with
  | 0, hp =>
    obtain rfl : x = p := by simpa using hp
    refine ⟨cs, d.K_len hK, hK, fun i u hu => ?_⟩
    rw [Nat.zero_mul, Nat.zero_add]
    exact blk_cells (o := 0) hb (fun j u hj => by rw [Nat.zero_add]; exact hj) i u hu
/-- Facts that have been laid one by one. -/
def Based (w : World) (i : Nat) (A : Option Addr) (n : Nat) (cur : List F) (W : World) : Prop :=
  Ord cur ∧ cur.length ≤ i ∧ (∀ x ∈ cur, x.f1.length < 140737488355328) ∧ cur.length ≤ n ∧ Kd.C k47 W A cur.length cur ∧ Below w.heap.size w W
/-- One change done to facts in order. -/
theorem apply_one (A : Option Addr) (n : Nat) (cur : List F) (c : Ch) (A4 : Option Addr) (c4 B : Nat) (w W : World) (ho : Ord cur) (hl : cur.length ≤ 1000) (hv : ∀ x ∈ cur, x.f1.length < 140737488355328) (hn : cur.length ≤ n) (hC : Kd.C k47 w A cur.length cur) (h4 : c.f1.length ≤ c4) (hC4 : Kd.C (Kd.int .u8) w A4 c.f1.length c.f1) (hcv : c.f1.length < 140737488355328)
    (hb : Below w.heap.size w W) (hB : W.heap[B]? = some (.cells #[.int .i64 c.f0.f0, .int .u8 c.f0.f1, .string c.f0.f2, .int .i64 c.f0.f3, .slice A4 c.f1.length c4, .bool c.f2] 53 (0, 0))) :
    Calls Try.prog 16 #[.slice A cur.length n, .slice (some ⟨B, 0, none⟩) 1 1] W fun e w' => ∃ A5 n5, e = .returned (.slice A5 (stepB cur c).length n5) ∧ (stepB cur c).length ≤ n5 ∧ Kd.C k47 w' A5 (stepB cur c).length (stepB cur c) ∧ Below W.heap.size W w' := by
  have hone : Kd.C k53 W (some ⟨B, 0, none⟩) [c].length [c] := C_one (cs := [.int .i64 c.f0.f0, .int .u8 c.f0.f1, .string c.f0.f2, .int .i64 c.f0.f3, .slice A4 c.f1.length c4, .bool c.f2]) hB (k53_mk W c h4 (Kd.C_below hC4 hb))
  refine (apply_ord A n cur (some ⟨B, 0, none⟩) 1 [c] W (Kd.C_below hC hb) hn hone (by simp) ho (by simp; omega) hv (fun x hx => by rw [List.mem_singleton.1 hx]; exact hcv)).mono ?_
  rintro e w' ⟨v, rfl, hR, hb'⟩
  obtain ⟨A5, n5, rfl, h5, hC5⟩ := Kd.R_reads hR
  exact ⟨A5, n5, rfl, h5, hC5, hb'⟩
/-- The boxes of the change and of the other key. -/
def Boxes (w : World) (c : Ch) (A4 : Option Addr) (c4 : Nat) (k : K) (W : World) : Prop := Below w.heap.size w W ∧ W.heap[w.heap.size]? = some (.cells #[.int .i64 c.f0.f0, .int .u8 c.f0.f1, .string c.f0.f2, .int .i64 c.f0.f3, .slice A4 c.f1.length c4, .bool c.f2] 53 (0, 0)) ∧ W.heap[w.heap.size + 1]? = some (.cells #[.int .i64 k.f0, .int .u8 k.f1, .string k.f2, .int .i64 k.f3] 30 (0, 0))
theorem Boxes.step {w : World} {c : Ch} {A4 : Option Addr} {c4 : Nat} {k : K} {W W' : World} (h : Boxes w c A4 c4 k W) (hb : Below W.heap.size W W') : Boxes w c A4 c4 k W' :=
  ⟨h.1.trans (hb.mono h.1.size), (hb.block _ (Array.getElem?_eq_some_iff.1 h.2.1).1).trans h.2.1, (hb.block _ (Array.getElem?_eq_some_iff.1 h.2.2).1).trans h.2.2⟩
theorem Boxes.cells {w : World} {c : Ch} {A4 : Option Addr} {c4 : Nat} {k : K} {W : World} (h : Boxes w c A4 c4 k W) :
    (W.cell? ⟨w.heap.size, 0, none⟩ = some (.int .i64 c.f0.f0) ∧ W.cell? ⟨w.heap.size, 1, none⟩ = some (.int .u8 c.f0.f1) ∧ W.cell? ⟨w.heap.size, 2, none⟩ = some (.string c.f0.f2) ∧ W.cell? ⟨w.heap.size, 3, none⟩ = some (.int .i64 c.f0.f3) ∧ W.cell? ⟨w.heap.size, 4, none⟩ = some (.slice A4 c.f1.length c4) ∧ W.cell? ⟨w.heap.size, 5, none⟩ = some (.bool c.f2)) ∧
    (W.cell? ⟨w.heap.size + 1, 0, none⟩ = some (.int .i64 k.f0) ∧ W.cell? ⟨w.heap.size + 1, 1, none⟩ = some (.int .u8 k.f1) ∧ W.cell? ⟨w.heap.size + 1, 2, none⟩ = some (.string k.f2) ∧ W.cell? ⟨w.heap.size + 1, 3, none⟩ = some (.int .i64 k.f3)) := by
  obtain ⟨_, h1, h2⟩ := h
  refine ⟨⟨?_, ?_, ?_, ?_, ?_, ?_⟩, ?_, ?_, ?_, ?_⟩ <;> simp [World.cell?, h1, h2]
def FndEnd (l : List F) (k : K) (w : World) (e : Ending) (w' : World) : Prop := ∃ A n, e = .returned (.tuple #[.slice A (fnd l k).length n, .bool (isB l k)]) ∧ (fnd l k).length ≤ n ∧ Kd.C (Kd.int .u8) w' A (fnd l k).length (fnd l k) ∧ Below w.heap.size w w'
theorem find_ord (A : Option Addr) (c : Nat) (l : List F) (k : K) (w : World) (hr : Kd.C k47 w A l.length l) (hc : l.length ≤ c) (hl : l.length ≤ 1000) (hs : ∀ x ∈ l, x.f1.length < 140737488355328) (ho : Ord l) :
    Calls Try.prog 17 #[.slice A l.length c, .agg #[.int .i64 k.f0, .int .u8 k.f1, .string k.f2, .int .i64 k.f3]] w (FndEnd l k w) := by
  refine (find_any A c l k w hr hc (by omega) hs).mono ?_
  rintro e w' ⟨v, rfl, hR, hb⟩
  obtain ⟨h1, h2⟩ := findB_fnd l ho k
  rw [h1] at hR
  obtain ⟨A4, c4, rfl, h4, hC⟩ := Kd.R_reads hR
  exact ⟨A4, c4, by rw [h2], h4, hC, hb⟩
set_option maxRecDepth 100000 in
set_option maxHeartbeats 8000000 in
theorem factChanges_any (A0 : Option Addr) (c0 : Nat) (l0 : List F) (c : Ch) (A4 : Option Addr) (c4 : Nat) (k : K) (w : World) (hr0 : Kd.C k47 w A0 l0.length l0) (hc0 : l0.length ≤ c0) (hC4 : Kd.C (Kd.int .u8) w A4 c.f1.length c.f1) (h4 : c.f1.length ≤ c4)
    (hs0 : ∀ x ∈ l0, x.f1.length < 140737488355328) (hcv : c.f1.length < 140737488355328) :
    Calls Try.prog 6 #[.slice A0 l0.length c0, .agg #[.int .i64 c.f0.f0, .int .u8 c.f0.f1, .string c.f0.f2, .int .i64 c.f0.f3, .slice A4 c.f1.length c4, .bool c.f2], encK k] w fun e w' => e = .returned (.bool true) ∧ Below w.heap.size w w' := by
  unfold encK
  have hl0 : l0.length ≤ 9223372036854775807 := hr0.2.1
  have HX := Lib.hid (And.intro hr0 (And.intro hc0 (And.intro hC4 (And.intro h4 (And.intro hs0 hcv)))))
  have HA := Lib.hid (fun W => apply_any none 0 [] none 0 [] W (Kd.C_nil _ _) (Nat.le_refl _) (Kd.C_nil _ _) (Nat.le_refl _) (by decide) (fun x hx => by cases hx) (fun x hx => by cases hx))
  have hb1 : Below w.heap.size w ((w.alloc (.cells #[.int .i64 c.f0.f0, .int .u8 c.f0.f1, .string c.f0.f2, .int .i64 c.f0.f3, .slice A4 c.f1.length c4, .bool c.f2] 53)).alloc (.cells #[.int .i64 k.f0, .int .u8 k.f1, .string k.f2, .int .i64 k.f3] 30)) := ((Below.refl _ _).alloc (Nat.le_refl _) _).alloc (by simp) _
  have hbx : ((w.alloc (.cells #[.int .i64 c.f0.f0, .int .u8 c.f0.f1, .string c.f0.f2, .int .i64 c.f0.f3, .slice A4 c.f1.length c4, .bool c.f2] 53)).alloc (.cells #[.int .i64 k.f0, .int .u8 k.f1, .string k.f2, .int .i64 k.f3] 30)).heap[w.heap.size]? = some (.cells #[.int .i64 c.f0.f0, .int .u8 c.f0.f1, .string c.f0.f2, .int .i64 c.f0.f3, .slice A4 c.f1.length c4, .bool c.f2] 53 (0, 0)) :=
    (heap_alloc_old _ _ (by simp)).trans (World.alloc_heap_new w _)
  have hby : ((w.alloc (.cells #[.int .i64 c.f0.f0, .int .u8 c.f0.f1, .string c.f0.f2, .int .i64 c.f0.f3, .slice A4 c.f1.length c4, .bool c.f2] 53)).alloc (.cells #[.int .i64 k.f0, .int .u8 k.f1, .string k.f2, .int .i64 k.f3] 30)).heap[w.heap.size + 1]? = some (.cells #[.int .i64 k.f0, .int .u8 k.f1, .string k.f2, .int .i64 k.f3] 30 (0, 0)) := by
    have := World.alloc_heap_new (w.alloc (.cells #[.int .i64 c.f0.f0, .int .u8 c.f0.f1, .string c.f0.f2, .int .i64 c.f0.f3, .slice A4 c.f1.length c4, .bool c.f2] 53)) (.cells #[.int .i64 k.f0, .int .u8 k.f1, .string k.f2, .int .i64 k.f3] 30)
    simpa using this
  have HB := Lib.hid (And.intro hb1 (And.intro hbx hby))
  clear hr0 hc0 hC4 h4 hs0 hcv hb1 hbx hby
  go_enter Try.func6, Try.ntmps6
  go_wp2_with fail
  refine (HA.out _).mono ?_
  rintro e w1 ⟨v1, rfl, hR1, hb1⟩
  have hR1' : Kd.R k47 47 w1 _ (fun _ => True) v1 [] := hR1
  obtain ⟨A1, n1, rfl, hn1, hC1⟩ := Kd.R_reads hR1'
  -- what stays: the boxes, and all that was there
  have HS : Hid (Below w.heap.size w w1 ∧ w.heap.size + 2 ≤ w1.heap.size ∧ w1.heap[w.heap.size]? = some (.cells #[.int .i64 c.f0.f0, .int .u8 c.f0.f1, .string c.f0.f2, .int .i64 c.f0.f3, .slice A4 c.f1.length c4, .bool c.f2] 53 (0, 0)) ∧ w1.heap[w.heap.size + 1]? = some (.cells #[.int .i64 k.f0, .int .u8 k.f1, .string k.f2, .int .i64 k.f3] 30 (0, 0))) :=
    Lib.hid ⟨HB.out.1.trans (hb1.mono HB.out.1.size), by have := hb1.size; simpa using this, (hb1.block _ (by simp; omega)).trans HB.out.2.1, (hb1.block _ (by simp)).trans HB.out.2.2⟩
  have HI0 : Hid (Based w1 0 A1 n1 [] w1) := Lib.hid ⟨List.Pairwise.nil, Nat.le_refl _, (fun x hx => by cases hx), hn1, hC1, Below.refl _ _⟩
  clear hR1 hR1' hb1 hn1 hC1 HB HA
  go_wp2_with fail
  go_loopw [7, 8] (fun s7 s8 wr => ∃ (i : Nat) (A : Option Addr) (n : Nat) (cur : List F), i ≤ l0.length ∧ i ≤ 100 ∧ s8 = .int .i64 i ∧ s7 = .slice A cur.length n ∧ Hid (Based w1 i A n cur wr)) (fun _ s8 _ => l0.length - (intOf s8).toNat)
  case atStart => exact ⟨0, A1, n1, [], Nat.zero_le _, Nat.zero_le _, rfl, rfl, HI0⟩
  case round =>
    obtain ⟨i, A, n, cur, hi, hi2, rfl, rfl, HI⟩ := hrel
    by_cases hlt : i < l0.length ∧ i < 100
    · obtain ⟨hlt, hlt2⟩ := hlt
      have hbw : Below w.heap.size w wr := HS.out.1.trans (HI.out.2.2.2.2.2.mono HS.out.1.size)
      obtain ⟨ad, Ax, cx, hA, h0, h1, h2, h3, h4, h5, h6⟩ := at_T47 (Kd.C_below HX.out.1 hbw) (i : Nat) (by omega) (by omega)
      have hxv : (rd_T47 l0 (i : Nat)).f1.length < 140737488355328 := by rw [rd_nat l0 i hlt]; exact HX.out.2.2.2.2.1 _ (List.getElem_mem hlt)
      subst hA
      simp only [Int.toNat_natCast] at h0 h1 h2 h3 h4
      generalize rd_T47 l0 (i : Nat) = x at *
      have ci0 : (0 : Int) ≤ (i : Int) := by omega
      have ci1 : (i : Int) < (l0.length : Int) := by omega
      have ci2 : (i : Int) < 100 := by omega
      have HAP := Lib.hid (fun (B : Nat) (W' : World) (hb : Below wr.heap.size wr W') (hB : W'.heap[B]? = some (.cells #[.int .i64 x.f0.f0, .int .u8 x.f0.f1, .string x.f0.f2, .int .i64 x.f0.f3, .slice Ax x.f1.length cx, .bool false] 53 (0, 0))) => apply_one A n cur (asC x) Ax cx B wr W' HI.out.1 (by have := HI.out.2.1; omega) HI.out.2.2.1 HI.out.2.2.2.1 HI.out.2.2.2.2.1 h5 h6 hxv hb hB)
      have HAQ := Lib.hid (HAP.out wr.heap.size (wr.alloc (.cells #[.int .i64 x.f0.f0, .int .u8 x.f0.f1, .string x.f0.f2, .int .i64 x.f0.f3, .slice Ax x.f1.length cx, .bool false] 53)).drew (((Below.refl _ _).alloc (Nat.le_refl _) _).drew) (World.alloc_heap_new wr _))
      clear HAP
      have HXV := Lib.hid hxv
      clear hbw h5 h6 hxv
      go_wp2_with fail
      go_region_held3 (fun w' => w'.cell? (ad.add (i * 5)) = some (.int .i64 x.f0.f0) ∧ w'.cell? ⟨(ad.add (i * 5)).block, (ad.add (i * 5)).off + 1, none⟩ = some (.int .u8 x.f0.f1) ∧ w'.cell? ⟨(ad.add (i * 5)).block, (ad.add (i * 5)).off + 2, none⟩ = some (.string x.f0.f2) ∧ w'.cell? ⟨(ad.add (i * 5)).block, (ad.add (i * 5)).off + 3, none⟩ = some (.int .i64 x.f0.f3) ∧ w'.cell? ⟨(ad.add (i * 5)).block, (ad.add (i * 5)).off + 4, none⟩ = some (.slice Ax x.f1.length cx)) (first | go_keep | (go_split_ands; exact ⟨cell_below hb6 h0, cell_below hb6 h1, cell_below hb6 h2, cell_below hb6 h3, cell_below hb6 h4⟩))
        (first | (go_at_call 16; (with_reducible refine HAQ.out.mono ?_); rintro e w6 ⟨A5, n5, rfl, hn5, hC5, hb5⟩; have hb6 : Below wr.heap.size wr w6 := (((Below.refl wr.heap.size wr).alloc (Nat.le_refl _) _).drew).trans (hb5.mono (by simp))))
      have HJ : Hid (Based w1 (i + 1) A5 n5 (stepB cur (asC x)) w6) := Lib.hid ⟨ord_step cur _ HI.out.1, by have := step_length cur (asC x); have := HI.out.2.1; omega, fun y hy => by
        rcases mem_stepB cur (asC x) y hy with rfl | h
        · exact HXV.out
        · exact HI.out.2.2.1 y h, hn5, hC5, HI.out.2.2.2.2.2.trans (hb6.mono HI.out.2.2.2.2.2.size)⟩
      clear hn5 hC5 hb5 hb6 h0 h1 h2 h3 h4
      go_wp2
      go_roundw
      case rel => exact ⟨i + 1, A5, n5, stepB cur (asC x), hlt, hlt2, by go_num, rfl, HJ⟩
      case measure => simp [intOf]; omega
    · obtain ⟨ho, hcl, hcv, hcn, hC, hb⟩ := HI.out
      have hcl : cur.length ≤ 100 := by omega
      have HB3 : Hid (Boxes w c A4 c4 k wr) := Lib.hid ⟨HS.out.1.trans (hb.mono HS.out.1.size), (hb.block _ (by have := HS.out.2.1; omega)).trans HS.out.2.2.1, (hb.block _ (by have := HS.out.2.1; omega)).trans HS.out.2.2.2⟩
      have HC := Lib.hid (And.intro ho (And.intro hcv (And.intro hcn hC)))
      -- behind the change
      obtain ⟨q1, hq1⟩ : ∃ q1, q1 = stepB cur c := ⟨_, rfl⟩
      have hqo := ord_step cur c ho
      have hql := step_length cur c
      have hqv : ∀ y ∈ stepB cur c, y.f1.length < 140737488355328 := fun y hy => by
        rcases mem_stepB cur c y hy with rfl | h
        · exact HX.out.2.2.2.2.2
        · exact hcv y h
      have hqt := step_twice c cur ho
      obtain ⟨hqi, hqf⟩ := step_is c cur ho
      have hqk : keyQ k c.f0 = false → isB (stepB cur c) k = isB cur k ∧ fnd (stepB cur c) k = fnd cur k := fun h => step_other c k h cur ho
      rw [← hq1] at hqo hql hqv hqt hqi hqf hqk
      have hql2 : q1.length ≤ 101 := by omega
      have HQ := Lib.hid (And.intro hq1 (And.intro hqo (And.intro hqv (And.intro hqt (And.intro hqi (And.intro hqf hqk))))))
      clear ho hcv hcn hC hb HS HI hl0 hq1 hqo hqv hqt hqi hqf hqk hql
      obtain ⟨⟨k0, k1, k2, k3, k4, k5⟩, m0, m1, m2, m3⟩ := HB3.out.cells
      have hcase : (i : Int) < (l0.length : Int) ∧ ¬ (i : Int) < 100 ∨ ¬ (i : Int) < (l0.length : Int) := by omega
      clear hlt
      rcases hcase with ⟨hc1, hc2⟩ | hc1
      all_goals
        go_wp2_with fail
        refine (find_ord A n cur k wr HC.out.2.2.2 HC.out.2.2.1 (by omega) HC.out.2.1 HC.out.1).mono ?_
        rintro e w2 ⟨A6, n6, rfl, h6, hC6, hb6⟩
        have HB4 := Lib.hid (HB3.out.step hb6)
        have HC4 := Lib.hid (And.intro h6 (And.intro hC6 (Kd.C_below HC.out.2.2.2 hb6)))
        clear h6 hC6 hb6
        clear k0 k1 k2 k3 k4 k5 m0 m1 m2 m3
        obtain ⟨⟨k0, k1, k2, k3, k4, k5⟩, m0, m1, m2, m3⟩ := HB4.out.cells
        go_wp2_with fail
        have HA1 := apply_one A n cur c A4 c4 w2.heap.size w2 (w2.alloc (.cells #[.int .i64 c.f0.f0, .int .u8 c.f0.f1, .string c.f0.f2, .int .i64 c.f0.f3, .slice A4 c.f1.length c4, .bool c.f2] 53)) HC.out.1 (by omega) HC.out.2.1 HC.out.2.2.1 HC4.out.2.2 HX.out.2.2.2.1 (Kd.C_below HX.out.2.2.1 HB4.out.1) HX.out.2.2.2.2.2 ((Below.refl _ _).alloc (Nat.le_refl _) _) (World.alloc_heap_new w2 _)
        rw [← HQ.out.1] at HA1
        refine HA1.mono ?_
        clear HA1
        rintro e w3 ⟨A7, n7, rfl, h7, hC7, hb7⟩
        have hb7' : Below w2.heap.size w2 w3 := ((Below.refl w2.heap.size w2).alloc (Nat.le_refl _) _).trans (hb7.mono (by simp))
        have HB5 := Lib.hid (HB4.out.step hb7')
        have HC5 := Lib.hid (And.intro h7 (And.intro hC7 (Kd.C_below HC4.out.2.1 hb7')))
        clear h7 hC7 hb7 hb7'
        clear k0 k1 k2 k3 k4 k5 m0 m1 m2 m3
        obtain ⟨⟨k0, k1, k2, k3, k4, k5⟩, m0, m1, m2, m3⟩ := HB5.out.cells
        go_wp2_with fail
        have HA2 := apply_one A7 n7 q1 c A4 c4 w3.heap.size w3 (w3.alloc (.cells #[.int .i64 c.f0.f0, .int .u8 c.f0.f1, .string c.f0.f2, .int .i64 c.f0.f3, .slice A4 c.f1.length c4, .bool c.f2] 53)) HQ.out.2.1 (by omega) HQ.out.2.2.1 HC5.out.1 HC5.out.2.1 HX.out.2.2.2.1 (Kd.C_below HX.out.2.2.1 HB5.out.1) HX.out.2.2.2.2.2 ((Below.refl _ _).alloc (Nat.le_refl _) _) (World.alloc_heap_new w3 _)
        rw [HQ.out.2.2.2.1] at HA2
        refine HA2.mono ?_
        clear HA2
        rintro e w4 ⟨A8, n8, rfl, h8, hC8, hb8⟩
        have hb8' : Below w3.heap.size w3 w4 := ((Below.refl w3.heap.size w3).alloc (Nat.le_refl _) _).trans (hb8.mono (by simp))
        have HB6 := Lib.hid (HB5.out.step hb8')
        have HC6 := Lib.hid (And.intro h8 (And.intro hC8 (And.intro (Kd.C_below HC5.out.2.1 hb8') (Kd.C_below HC5.out.2.2 hb8'))))
        clear h8 hC8 hb8 hb8'
        clear k0 k1 k2 k3 k4 k5 m0 m1 m2 m3
        obtain ⟨⟨k0, k1, k2, k3, k4, k5⟩, m0, m1, m2, m3⟩ := HB6.out.cells
        go_wp2_with fail
        have HF1 := find_ord A7 n7 q1 c.f0 w4 HC6.out.2.2.1 HC5.out.1 (by omega) HQ.out.2.2.1 HQ.out.2.1
        unfold FndEnd at HF1
        rw [HQ.out.2.2.2.2.1, HQ.out.2.2.2.2.2.1] at HF1
        obtain ⟨vv, hvv⟩ : ∃ vv, vv = (if c.f2 then [] else c.f1) := ⟨_, rfl⟩
        rw [← hvv] at HF1
        have HV := Lib.hid hvv
        clear hvv
        refine HF1.mono ?_
        clear HF1
        rintro e w5 ⟨A9, n9, rfl, h9, hC9, hb9⟩
        have HB7 := Lib.hid (HB6.out.step hb9)
        have HC7 := Lib.hid (And.intro h9 (And.intro hC9 (And.intro (Kd.C_below HC6.out.2.1 hb9) (And.intro (Kd.C_below HC6.out.2.2.1 hb9) (Kd.C_below HC6.out.2.2.2 hb9)))))
        clear h9 hC9 hb9
        clear k0 k1 k2 k3 k4 k5 m0 m1 m2 m3
        obtain ⟨⟨k0, k1, k2, k3, k4, k5⟩, m0, m1, m2, m3⟩ := HB7.out.cells
        go_wp2_with fail
        refine (find_ord A7 n7 q1 k w5 HC7.out.2.2.2.1 HC5.out.1 (by omega) HQ.out.2.2.1 HQ.out.2.1).mono ?_
        rintro e w6 ⟨A10, n10, rfl, h10, hC10, hb10⟩
        have HB8 := Lib.hid (HB7.out.step hb10)
        have HC8 := Lib.hid (And.intro h10 (And.intro hC10 (And.intro (Kd.C_below HC7.out.2.1 hb10) (And.intro (Kd.C_below HC7.out.2.2.1 hb10) (And.intro (Kd.C_below HC7.out.2.2.2.1 hb10) (Kd.C_below HC7.out.2.2.2.2 hb10))))))
        clear h10 hC10 hb10
        clear k0 k1 k2 k3 k4 k5 m0 m1 m2 m3
        obtain ⟨⟨k0, k1, k2, k3, k4, k5⟩, m0, m1, m2, m3⟩ := HB8.out.cells
        go_wp2_with fail
        have HS1 := factSame_any A7 n7 q1 A8 n8 q1 w6 HC8.out.2.2.2.2.1 HC5.out.1 HC8.out.2.2.2.1 HC6.out.1
        rw [(factsQ_iff q1 q1).2 rfl] at HS1
        refine HS1.mono ?_
        clear HS1
        rintro e w7 ⟨rfl, hb11⟩
        have HB9 := Lib.hid (HB8.out.step hb11)
        have HC9 := Lib.hid (And.intro (Kd.C_below HC8.out.2.1 hb11) (And.intro (Kd.C_below HC8.out.2.2.1 hb11) (And.intro (Kd.C_below HC8.out.2.2.2.2.1 hb11) (Kd.C_below HC8.out.2.2.2.2.2 hb11))))
        clear hb11
        clear k0 k1 k2 k3 k4 k5 m0 m1 m2 m3
        obtain ⟨⟨k0, k1, k2, k3, k4, k5⟩, m0, m1, m2, m3⟩ := HB9.out.cells
        have HK : Hid (isB q1 k = isB cur k ∧ fnd q1 k = fnd cur k ∨ keyQ k c.f0 = true) := by
          cases hq : keyQ k c.f0 with
          | true => exact Lib.hid (.inr rfl)
          | false => exact Lib.hid (.inl (HQ.out.2.2.2.2.2.2 hq))
        have hqq : keyQ k c.f0 = (k.f0 == c.f0.f0 && (k.f1 == c.f0.f1 && (k.f2.toList == c.f0.f2.toList && (k.f3 == c.f0.f3)))) := rfl
        cases hg : c.f2 with
        | true =>
          rw [hg] at k5
          clear hg
          cases hq : keyQ k c.f0 with
          | true =>
            rw [hq] at hqq
            replace hqq := hqq.symm
            clear hq
            go_wp2_with fail
            refine chg_loop2 _ _ _ _ _ _ _ _ _ _ _ _ _ _ _ _ _ _ _ _ _ _ _ _ _ _ _ _ _ _ _ _ _ _ _ _ _ _ _ _ _ _ _ _ _ _ _ _ _ _ _ _ _ _ _ _ _ _ _ _ _ _ _ _ _ _ _ _ _ _ _ _ _ _ _ _ _ _ _ _ _ _ _ _ _ _ _ _ _ _ _ _ _ _ _ _ _ _ _ _ _ _ _ _ _ _ _ _ _ _ _ _ _ _ _ _ _ _ _ _ _ _ _ A7 n7 q1 w7 _ HQ.out.2.1 HC9.out.2.2.1 ?_
            intro x105 x106 x107 x108 x109 x110 x111 x112 x113 x114 x115 x116 x117 x118 x119 x120 x121 x122 x123 ii W9 hb99
            dsimp only
            have HZ := Lib.hid (HB9.out.step hb99)
            clear hb99
            go_wp2_with fail
            refine (works06 W9).mono ?_
            rintro e W10 ⟨rfl, hb100⟩
            have HZ2 := Lib.hid (HZ.out.step hb100)
            clear hb100
            go_wp2
            go_ret
            exact ⟨rfl, HZ2.out.1⟩
          | false =>
            have hqk := hq
            rw [hq] at hqq
            replace hqq := hqq.symm
            clear hq
            obtain ⟨hk1, hk2⟩ := (show isB q1 k = isB cur k ∧ fnd q1 k = fnd cur k from by rcases HK.out with h | h; exact h; rw [hqk] at h; cases h)
            have HS3 := sameB_any A6 n6 (fnd cur k) A10 n10 (fnd q1 k) w7 (HC9.out.2.2.2) HC4.out.1 (HC9.out.1) HC8.out.1
            rw [hk2, decide_eq_true rfl] at HS3
            rw [hk1, hk2]
            have HS3 := Lib.hid HS3
            clear hk1 hk2 hqk
            generalize isB cur k = q2 at *
            have e1 : (q2 != q2) = false := by simp
            have e2 : (q2 == q2) = true := by simp
            go_wp2_with fail
            refine HS3.out.mono ?_
            rintro e w20 ⟨rfl, hb20⟩
            have HB20 := Lib.hid (HB9.out.step hb20)
            have HC20 := Lib.hid (Kd.C_below HC9.out.2.2.1 hb20)
            clear hb20
            go_wp2_with fail
            refine chg_loop2 _ _ _ _ _ _ _ _ _ _ _ _ _ _ _ _ _ _ _ _ _ _ _ _ _ _ _ _ _ _ _ _ _ _ _ _ _ _ _ _ _ _ _ _ _ _ _ _ _ _ _ _ _ _ _ _ _ _ _ _ _ _ _ _ _ _ _ _ _ _ _ _ _ _ _ _ _ _ _ _ _ _ _ _ _ _ _ _ _ _ _ _ _ _ _ _ _ _ _ _ _ _ _ _ _ _ _ _ _ _ _ _ _ _ _ _ _ _ _ _ _ _ _ A7 n7 q1 w20 _ HQ.out.2.1 HC20.out ?_
            intro x105 x106 x107 x108 x109 x110 x111 x112 x113 x114 x115 x116 x117 x118 x119 x120 x121 x122 x123 ii W9 hb99
            dsimp only
            have HZ := Lib.hid (HB20.out.step hb99)
            clear hb99
            go_wp2_with fail
            refine (works06 W9).mono ?_
            rintro e W10 ⟨rfl, hb100⟩
            have HZ2 := Lib.hid (HZ.out.step hb100)
            clear hb100
            go_wp2
            go_ret
            exact ⟨rfl, HZ2.out.1⟩
        | false =>
          rw [hg] at k5
          have hv : vv = c.f1 := by rw [HV.out, hg]; rfl
          clear hg
          have HS2 := sameB_any A9 n9 vv A4 c4 c.f1 w7 HC9.out.2.1 HC7.out.1 (Kd.C_below HX.out.2.2.1 HB9.out.1) HX.out.2.2.2.1
          rw [decide_eq_true hv] at HS2
          have HS2 := Lib.hid HS2
          clear hv
          go_wp2_with fail
          refine HS2.out.mono ?_
          rintro e w8 ⟨rfl, hb12⟩
          have HB10 := Lib.hid (HB9.out.step hb12)
          have HC10 := Lib.hid (And.intro (Kd.C_below HC9.out.1 hb12) (And.intro (Kd.C_below HC9.out.2.2.1 hb12) (Kd.C_below HC9.out.2.2.2 hb12)))
          clear hb12 k0 k1 k2 k3 k4 k5 m0 m1 m2 m3
          obtain ⟨⟨k0, k1, k2, k3, k4, k5⟩, m0, m1, m2, m3⟩ := HB10.out.cells
          cases hq : keyQ k c.f0 with
          | true =>
            rw [hq] at hqq
            replace hqq := hqq.symm
            clear hq
            go_wp2_with fail
            refine chg_loop2 _ _ _ _ _ _ _ _ _ _ _ _ _ _ _ _ _ _ _ _ _ _ _ _ _ _ _ _ _ _ _ _ _ _ _ _ _ _ _ _ _ _ _ _ _ _ _ _ _ _ _ _ _ _ _ _ _ _ _ _ _ _ _ _ _ _ _ _ _ _ _ _ _ _ _ _ _ _ _ _ _ _ _ _ _ _ _ _ _ _ _ _ _ _ _ _ _ _ _ _ _ _ _ _ _ _ _ _ _ _ _ _ _ _ _ _ _ _ _ _ _ _ _ A7 n7 q1 w8 _ HQ.out.2.1 HC10.out.2.1 ?_
            intro x105 x106 x107 x108 x109 x110 x111 x112 x113 x114 x115 x116 x117 x118 x119 x120 x121 x122 x123 ii W9 hb99
            dsimp only
            have HZ := Lib.hid (HB10.out.step hb99)
            clear hb99
            go_wp2_with fail
            refine (works06 W9).mono ?_
            rintro e W10 ⟨rfl, hb100⟩
            have HZ2 := Lib.hid (HZ.out.step hb100)
            clear hb100
            go_wp2
            go_ret
            exact ⟨rfl, HZ2.out.1⟩
          | false =>
            have hqk := hq
            rw [hq] at hqq
            replace hqq := hqq.symm
            clear hq
            obtain ⟨hk1, hk2⟩ := (show isB q1 k = isB cur k ∧ fnd q1 k = fnd cur k from by rcases HK.out with h | h; exact h; rw [hqk] at h; cases h)
            have HS3 := sameB_any A6 n6 (fnd cur k) A10 n10 (fnd q1 k) w8 (HC10.out.2.2) HC4.out.1 (HC10.out.1) HC8.out.1
            rw [hk2, decide_eq_true rfl] at HS3
            rw [hk1, hk2]
            have HS3 := Lib.hid HS3
            clear hk1 hk2 hqk
            generalize isB cur k = q2 at *
            have e1 : (q2 != q2) = false := by simp
            have e2 : (q2 == q2) = true := by simp
            go_wp2_with fail
            refine HS3.out.mono ?_
            rintro e w20 ⟨rfl, hb20⟩
            have HB20 := Lib.hid (HB10.out.step hb20)
            have HC20 := Lib.hid (Kd.C_below HC10.out.2.1 hb20)
            clear hb20
            go_wp2_with fail
            refine chg_loop2 _ _ _ _ _ _ _ _ _ _ _ _ _ _ _ _ _ _ _ _ _ _ _ _ _ _ _ _ _ _ _ _ _ _ _ _ _ _ _ _ _ _ _ _ _ _ _ _ _ _ _ _ _ _ _ _ _ _ _ _ _ _ _ _ _ _ _ _ _ _ _ _ _ _ _ _ _ _ _ _ _ _ _ _ _ _ _ _ _ _ _ _ _ _ _ _ _ _ _ _ _ _ _ _ _ _ _ _ _ _ _ _ _ _ _ _ _ _ _ _ _ _ _ A7 n7 q1 w20 _ HQ.out.2.1 HC20.out ?_
            intro x105 x106 x107 x108 x109 x110 x111 x112 x113 x114 x115 x116 x117 x118 x119 x120 x121 x122 x123 ii W9 hb99
            dsimp only
            have HZ := Lib.hid (HB20.out.step hb99)
            clear hb99
            go_wp2_with fail
            refine (works06 W9).mono ?_
            rintro e W10 ⟨rfl, hb100⟩
            have HZ2 := Lib.hid (HZ.out.step hb100)
            clear hb100
            go_wp2
            go_ret
            exact ⟨rfl, HZ2.out.1⟩
end Go.Proofs.Ytbhmncenbpdcjaa.P
end
section
/- How a statement's row ends: the call has answered true, and of what was there nothing has changed: so the row's post holds. Of no program. -/
namespace Go.Proofs.Ytbhmncenbpdcjaa
open Go.RowKit Go.WideShapes Go.ChangeShapes
section
variable {H : Type} {enc : TypeId × Value → H} {P : Program}

theorem trodAll_below (hl : laidOutB P = true) {W W' : World} (hb : Below W.heap.size W W') {sp : Nat → Bool} : ∀ {ts : List TypeId} {vs : List Value} {ds : List (DataW H)} {ps : List MemPlace},
    (∀ t ∈ ts, P.readableRec t = true ∧ t < P.types.size) → DataW.TrodAll enc P W 0 (fun _ => true) true ts vs ds ps → (∀ x ∈ ps, x.block < W.heap.size) → (∀ x ∈ ps, sp x.block = true) → DataW.TrodAll enc P W' 0 sp true ts vs ds ps
  | [], [], [], _, _, h, _, _ => h
  | t :: ts, v :: vs, d :: ds, ps, hr, h, hlt, hsp => by
    obtain ⟨p, q, h1, h2, rfl⟩ := h
    have ht := hr t (by simp)
    exact ⟨p, q, WideElems.Trod_stays hl ht.1 ht.2 h1 (fun x hx => hb.same (hlt x (by simp [hx]))) (fun x hx => hsp x (by simp [hx])),
      trodAll_below hl hb (fun t ht => hr t (by simp [ht])) h2 (fun x hx => hlt x (by simp [hx])) (fun x hx => hsp x (by simp [hx])), rfl⟩
  | [], [], _ :: _, _, _, h, _, _ => by simp [DataW.TrodAll] at h
  | [], _ :: _, _, _, _, h, _, _ => by simp [DataW.TrodAll] at h
  | _ :: _, [], _, _, _, h, _, _ => by simp [DataW.TrodAll] at h
  | _ :: _, _ :: _, [], _, _, h, _, _ => by simp [DataW.TrodAll] at h

theorem law_post {f : Func} {s : ChangeSpec} {apart fresh handsOn again : Bool} {W W' : World} {args : Array Value} {ds gs : List (DataW H)} {before : List MemPlace} {t : TypeId}
    (ht : f.resultTypes = #[t]) (hu : P.underlying t = some .bool) (hl : laidOutB P = true) (hread : ∀ t ∈ f.params.toList, P.readableRec t = true ∧ t < P.types.size)
    (hvs : s.vars = []) (hW : DataW.Whole enc P f.params.toList s.vars apart W args.toList ds gs before)
    (h1 : (s.fn H (ds ++ gs)).results = [.lit (.bool true)]) (h2 : (s.fn H (ds ++ gs)).args = ds) (h3 : (s.fn H (ds ++ gs)).vars = []) (hb : Below W.heap.size W W') :
    s.post enc P f apart fresh handsOn again W args (.bool true) W' := by
  have hlt : ∀ p ∈ before, p.block < W.heap.size := fun p hp => hW.lt p hp
  have hold : ∀ p ∈ before, (fun b => decide (b < W.heap.size)) p.block = true := fun p hp => by simpa using hlt p hp
  have hW2 := hW
  obtain ⟨pa, pv, hA, hV, hps, hz, hn⟩ := hW
  obtain rfl : pv = [] := by rw [hvs] at hV; cases gs <;> simp [DataW.TrodVars] at hV; exact hV
  rw [List.append_nil] at hps
  subst hps
  have hres : ∀ (b : Nat) (sp : Nat → Bool) (hd : Bool), DataW.TrodAll enc P W' b sp hd f.resultTypes.toList ((Value.bool true).resultList f.resultTypes.size) (s.fn H (ds ++ gs)).results [] := fun b sp hd => by
    rw [h1, ht]
    exact trodAll_mk1 (shut_bool hu _)
  have hargs : ∀ sp : Nat → Bool, (∀ p ∈ before, sp p.block = true) → DataW.TrodAll enc P W' 0 sp true f.params.toList args.toList (s.fn H (ds ++ gs)).args before := fun sp hsp => by
    rw [h2]
    exact trodAll_below hl hb hread hA hlt hsp
  have hvars : ∀ sp : Nat → Bool, DataW.TrodVars enc P W' sp s.vars (s.fn H (ds ++ gs)).vars [] := fun sp => by rw [hvs, h3]; rfl
  have hok : ∀ (j : Nat) (t : TypeId) (r : Value), f.resultTypes[j]? = some t → ((Value.bool true).resultList f.resultTypes.size)[j]? = some r → Value.okWide P W' .any 0 t r := ok_one ht rfl (okWide_bool_mk hu _)
  refine ⟨ds, gs, before, [], before, [], hW2, hres _ _ _, hargs _ hold, hvars _, World.keptBut_mono (fun p hp => ⟨hp, Or.inr (.inl hp)⟩) (hb.frame (· ∈ before)), fun _ => ?_⟩
  refine ⟨hok, _, _, ([] ++ before) ++ [], ⟨[] ++ before, [], trodAll_append (hargs _ (fun _ _ => rfl)) (hres _ _ _), hvars _, rfl, ?_, ?_⟩, ?_⟩
  · intro b off hp
    have hin : MemPlace.cell b off ∈ before := by simpa using hp
    rw [hb.frozen (hlt _ hin)]
    exact hz b off hin
  · intro ha
    simpa using hn ha
  · intro p hp _
    simpa using hp
theorem read_of {ts : List TypeId} (h : (ts.all fun t => P.readableRec t && decide (t < P.types.size)) = true) : ∀ t ∈ ts, P.readableRec t = true ∧ t < P.types.size := fun t ht => by
  have := List.all_eq_true.1 h t ht
  simpa using this
end
end Go.Proofs.Ytbhmncenbpdcjaa
end
section
/- How arguments are opened, kind by kind: what can be read as data is of the print's kinds; its bulk and its weights. Of no function. -/
namespace Go.Proofs.Ytbhmncenbpdcjaa
open Go.RowKit Go.WideShapes Go.ChangeShapes Go.Proofs.YtbhmncenbpdcjaaW.PrintWords
set_option linter.unusedVariables false
set_option linter.unusedSimpArgs false

/-- What is asked of a value: its range, its bulk, its weights. -/
structure Gauge (α : Type) where
  ok : α → Prop
  sz : α → Nat
  pos : ∀ x, 1 ≤ sz x
  wt : α → List Nat
def gInt (k : IntKind) : Gauge Int := ⟨fun v => (Lit.int k v).wf = true, fun _ => 1, fun _ => Nat.le_refl _, fun _ => []⟩
def gBool : Gauge Bool := ⟨fun _ => True, fun _ => 1, fun _ => Nat.le_refl _, fun _ => []⟩
def gStr : Gauge ByteArray := ⟨fun s => s.size ≤ maxLen, fun s => s.size + 1, fun _ => by omega, fun s => [s.size]⟩
def gList {α : Type} (b : Nat) (g : Gauge α) : Gauge (List α) := ⟨fun l => l.length ≤ maxLen ∧ ∀ x ∈ l, g.ok x, fun l => (l.map g.sz).sum + 1, fun _ => by omega, fun l => l.length * b :: l.flatMap g.wt⟩
def gPair {α β : Type} (a : Gauge α) (b : Gauge β) : Gauge (α × β) := ⟨fun x => a.ok x.1 ∧ b.ok x.2, fun x => a.sz x.1 + b.sz x.2, fun x => by have := a.pos x.1; omega, fun x => a.wt x.1 ++ b.wt x.2⟩
def gIso {α β : Type} (g : Gauge α) (f : β → α) : Gauge β := ⟨fun x => g.ok (f x), fun x => g.sz (f x) + 1, fun x => by omega, fun x => g.wt (f x)⟩
theorem gList_mem {α : Type} {b : Nat} {g : Gauge α} {l : List α} {x : α} (hx : x ∈ l) : g.sz x ≤ (l.map g.sz).sum := by
  induction l with
  | nil => cases hx
  | cons y l ih =>
    rw [List.map_cons, List.sum_cons]
    rcases List.mem_cons.1 hx with rfl | hx
    · omega
    · have := ih hx; omega
theorem gList_len {α : Type} {b : Nat} {g : Gauge α} {l : List α} : l.length ≤ (l.map g.sz).sum := by
  induction l with
  | nil => simp
  | cons y l ih => rw [List.map_cons, List.sum_cons, List.length_cons]; have := g.pos y; omega

section
variable {H : Type} (enc : TypeId × Value → H) (P : Program)
/-- What is read at type t is of kind d. -/
def Opens (t : TypeId) {α : Type} (d : Kd α) (g : Gauge α) : Prop :=
  P.cellsOf t = d.sz ∧ ∀ (W : World) (base : Nat) (sp : Nat → Bool) (held : Bool) (fuel : Nat) (cs : List Value) (x : DataW H × List MemPlace), DataW.trod enc P W base sp held fuel t cs = some x →
    ∃ v, d.K W v cs ∧ g.ok v ∧ g.sz v ≤ Rows.uptoBulk x.1 ∧ ∀ N, (∀ m ∈ x.1.weights P t, m ≤ N) → ∀ n ∈ g.wt v, n ≤ N
/-- The same of a struct's fields, the first at offset o. -/
def OpensF (fs : List Field) (o : Nat) {α : Type} (d : Kd α) (g : Gauge α) : Prop :=
  ∀ (W : World) (base : Nat) (sp : Nat → Bool) (held : Bool) (n : Nat) (cs : List Value) (xs : List (DataW H × List MemPlace)), xs.length = fs.length → o + d.sz ≤ cs.length →
    (∀ (i : Nat) (f : Field), fs[i]? = some f → DataW.trod enc P W base sp held n f.type ((cs.drop f.offset).take (P.cellsOf f.type)) = xs[i]?) →
    ∃ v, d.K W v ((cs.drop o).take d.sz) ∧ g.ok v ∧ g.sz v ≤ Rows.uptoBulkAll (xs.map (·.1)) ∧ ∀ N, (∀ m ∈ DataW.weightsEach P (fs.map (·.type)) (xs.map (·.1)), m ≤ N) → ∀ n ∈ g.wt v, n ≤ N
variable {enc P}
theorem opens_int {t : TypeId} {k : IntKind} (ht : P.underlying t = some (.int k)) (hc : P.cellsOf t = 1) : Opens enc P t (Kd.int k) (gInt k) := by
  refine ⟨hc, fun W base sp held fuel cs x h => ?_⟩
  obtain ⟨n, rfl, rfl, hw⟩ := DataW.trod_int ht h
  exact ⟨n, rfl, hw, by simp [gInt, Rows.uptoBulk], fun N hN m hm => by simp [gInt] at hm⟩
theorem opens_bool {t : TypeId} (ht : P.underlying t = some .bool) (hc : P.cellsOf t = 1) : Opens enc P t Kd.bool gBool := by
  refine ⟨hc, fun W base sp held fuel cs x h => ?_⟩
  obtain ⟨b, rfl, rfl⟩ := DataW.trod_bool ht h
  exact ⟨b, rfl, trivial, by simp [gBool, Rows.uptoBulk], fun N hN m hm => by simp [gBool] at hm⟩
theorem opens_string {t : TypeId} (ht : P.underlying t = some .string) (hc : P.cellsOf t = 1) : Opens enc P t Kd.string gStr := by
  refine ⟨hc, fun W base sp held fuel cs x h => ?_⟩
  obtain ⟨s, rfl, rfl, hw⟩ := DataW.trod_string ht h
  refine ⟨s, rfl, hw, ?_, fun N hN m hm => ?_⟩
  · simp only [gStr, Rows.uptoBulk, data_length]; omega
  · simp only [gStr, List.mem_singleton] at hm
    subst hm
    have := hN s.data.toList.length (by simp [DataW.weights])
    rwa [data_length] at this
theorem weightsAll_mem {e : TypeId} {ds : List (DataW H)} {d : DataW H} (hd : d ∈ ds) {n : Nat} (hn : n ∈ d.weights P e) : n ∈ DataW.weightsAll P e ds := by
  induction ds with
  | nil => cases hd
  | cons y ds ih =>
    rw [DataW.weightsAll]
    rcases List.mem_cons.1 hd with rfl | hd
    · exact List.mem_append_left _ hn
    · exact List.mem_append_right _ (ih hd)
theorem bulkAll_append (l r : List (DataW H)) : Rows.uptoBulkAll (l ++ r) = Rows.uptoBulkAll l + Rows.uptoBulkAll r := by
  induction l with
  | nil => simp [Rows.uptoBulkAll]
  | cons x l ih => simp only [List.cons_append, Rows.uptoBulkAll, ih]; omega
theorem cells?_cells {w : World} {base : Nat} {a : Addr} {n : Nat} {cs : List Value} (h : w.cells? base a n = some cs) : cs.length = n ∧ (∀ i u, cs[i]? = some u → w.cell? (a.add i) = some u) := by
  unfold World.cells? at h
  split at h
  · refine ⟨by simpa using mapM_some_length h, fun i u hu => ?_⟩
    have hi : i < n := by
      have h1 := (List.getElem?_eq_some_iff.1 hu).1
      have h2 := mapM_some_length h
      simp at h2
      omega
    have h1 := mapM_some_get h i i (by simp [hi])
    exact h1.trans hu
  · cases h
theorem add_add' (ad : Addr) (k j : Nat) : (ad.add k).add j = ad.add (k + j) := by
  unfold Addr.add
  by_cases hk : k = 0
  · subst hk; simp
  · by_cases hj : j = 0
    · subst hj; simp
    · rw [if_neg hj, if_neg hk, if_neg (by omega)]; simp; omega
/-- Values that are chosen one for each place. -/
theorem choose_list {α : Type} (n : Nat) (R : Nat → α → Prop) (h : ∀ i, i < n → ∃ x, R i x) : ∃ l : List α, l.length = n ∧ ∀ (i : Nat) x, l[i]? = some x → R i x := by
  induction n with
  | zero => exact ⟨[], rfl, fun i x hx => by simp at hx⟩
  | succ n ih =>
    obtain ⟨l, hl, hr⟩ := ih (fun i hi => h i (by omega))
    obtain ⟨x, hx⟩ := h n (by omega)
    refine ⟨l ++ [x], by simp [hl], fun i y hy => ?_⟩
    rcases Nat.lt_or_ge i l.length with hi | hi
    · rw [List.getElem?_append_left hi] at hy
      exact hr i y hy
    · rw [List.getElem?_append_right hi] at hy
      have h0 : i - l.length = 0 := by
        have := (List.getElem?_eq_some_iff.1 hy).1
        simp at this; omega
      rw [h0] at hy
      have : i = n := by omega
      subst this
      simp at hy
      subst hy
      exact hx
theorem opens_slice {t e : TypeId} {α : Type} {d : Kd α} {g : Gauge α} (ht : P.underlying t = some (.slice e)) (hc : P.cellsOf t = 1) (ho : Opens enc P e d g) : Opens enc P t (Kd.slice e d) (gList (P.bytesOf e) g) := by
  refine ⟨hc, fun W base sp held fuel cs x h => ?_⟩
  rcases DataW.trod_slice ht h with ⟨rfl, rfl⟩ | ⟨a, len, cap, elems, rest, n, _, rfl, rfl, hb, hl, hm, hlen, hel, hsp, hns⟩
  · refine ⟨[], ⟨none, 0, rfl, Nat.le_refl _, rfl, by simp, fun h => by simp at h⟩, ⟨by simp [maxLen], fun x hx => by cases hx⟩, by simp [gList, Rows.uptoBulk], fun N hN m hm => ?_⟩
    simp [gList] at hm
    omega
  · have each : ∀ i, i < len → ∃ v : α, ∃ y, elems[i]? = some y ∧ (∃ c, c.length = d.sz ∧ d.K W v c ∧ ∀ j u, c[j]? = some u → W.cell? (a.add (i * d.sz + j)) = some u) ∧ g.ok v ∧ g.sz v ≤ Rows.uptoBulk y.1 ∧ ∀ N, (∀ m ∈ y.1.weights P e, m ≤ N) → ∀ n ∈ g.wt v, n ≤ N := by
      intro i hi
      have h1 := hel i hi
      rw [List.getElem?_eq_getElem (by omega)] at h1
      obtain ⟨c, hc1, hc2⟩ := Option.bind_eq_some_iff.1 h1
      obtain ⟨v, hK, hok, hsz, hw⟩ := ho.2 W base sp held n c _ hc2
      obtain ⟨hcl, hcell⟩ := cells?_cells hc1
      refine ⟨v, elems[i], List.getElem?_eq_getElem (by omega), ⟨c, by rw [hcl, ho.1], hK, fun j u hu => ?_⟩, hok, hsz, hw⟩
      have := hcell j u hu
      rw [ho.1] at this
      rw [← add_add', this]
    obtain ⟨l, hll, hl2⟩ := choose_list len _ each
    have hmx : len ≤ 9223372036854775807 := by unfold maxLen at hm; omega
    have hbulk : (l.map g.sz).sum ≤ Rows.uptoBulkAll (elems.map (·.1)) := by
      have key : ∀ k, k ≤ len → ((l.take k).map g.sz).sum ≤ Rows.uptoBulkAll ((elems.take k).map (·.1)) := by
        intro k
        induction k with
        | zero => intro _; simp
        | succ k ih =>
          intro hk
          obtain ⟨y, hy, _, _, hs, _⟩ := hl2 k _ (List.getElem?_eq_getElem (by omega))
          rw [List.take_succ_eq_append_getElem (by omega), List.take_add_one, hy, List.map_append, List.map_append, List.sum_append, bulkAll_append]
          have := ih (by omega)
          simp only [List.map_cons, List.map_nil, List.sum_cons, List.sum_nil, Rows.uptoBulkAll, Option.toList_some]
          omega
      have := key len (Nat.le_refl _)
      rwa [List.take_of_length_le (by omega), List.take_of_length_le (by omega)] at this
    refine ⟨l, ⟨some a, cap, by rw [hll], by omega, ?_⟩, ⟨by unfold maxLen at *; omega, fun x hx => ?_⟩, ?_, fun N hN m hm => ?_⟩
    · refine ⟨rfl, by omega, fun _ => ⟨a, rfl, fun j p hj => ?_⟩⟩
      obtain ⟨_, _, ⟨c, h1, h2, h3⟩, _⟩ := hl2 j p hj
      exact ⟨c, h1, h2, h3⟩
    · obtain ⟨i, hi⟩ := List.getElem?_of_mem hx
      obtain ⟨_, _, _, h, _⟩ := hl2 i x hi
      exact h
    · simp only [gList, Rows.uptoBulk]; omega
    · have hN1 : (elems.length + rest.length) * P.bytesOf e ≤ N := hN _ (by simp [DataW.weights, ht])
      simp only [gList, List.mem_cons] at hm
      rcases hm with rfl | hm
      · refine Nat.le_trans (Nat.mul_le_mul_right _ ?_) hN1
        omega
      · obtain ⟨x, hx, hxm⟩ := List.mem_flatMap.1 hm
        obtain ⟨i, hi⟩ := List.getElem?_of_mem hx
        obtain ⟨y, hy, _, _, _, hw⟩ := hl2 i x hi
        refine hw N (fun q hq => hN q ?_) m hxm
        simp only [DataW.weights, ht, List.mem_cons, List.mem_append]
        exact .inr (.inl (weightsAll_mem (List.mem_map.2 ⟨y, List.mem_of_getElem? hy, rfl⟩) hq))
theorem opensF_last {f : Field} {o : Nat} {α : Type} {d : Kd α} {g : Gauge α} (ho : Opens enc P f.type d g) (hf : f.offset = o) : OpensF enc P [f] o d g := by
  intro W base sp held n cs xs hx hl h
  have h0 := h 0 f rfl
  rw [List.getElem?_eq_getElem (by rw [hx]; exact Nat.zero_lt_one), hf, ho.1] at h0
  obtain ⟨v, hK, hok, hsz, hw⟩ := ho.2 W base sp held n _ _ h0
  obtain ⟨y, rfl⟩ : ∃ y, xs = [y] := by
    match xs, hx with
    | [y], _ => exact ⟨y, rfl⟩
  refine ⟨v, hK, hok, ?_, fun N hN => hw N (fun m hm => hN m ?_)⟩
  · simpa [Rows.uptoBulkAll] using hsz
  · simpa [DataW.weightsEach] using hm
theorem opensF_cons {f : Field} {fs : List Field} {o : Nat} {α β : Type} {d : Kd α} {d2 : Kd β} {g : Gauge α} {g2 : Gauge β} (ho : Opens enc P f.type d g) (hf : f.offset = o) (hr : OpensF enc P fs (o + d.sz) d2 g2) : OpensF enc P (f :: fs) o (Kd.pair d d2) (gPair g g2) := by
  intro W base sp held n cs xs hx hl h
  have h0 := h 0 f rfl
  rw [List.getElem?_eq_getElem (by rw [hx]; simp), hf, ho.1] at h0
  obtain ⟨v, hK, hok, hsz, hw⟩ := ho.2 W base sp held n _ _ h0
  obtain ⟨y, ys, rfl⟩ : ∃ y ys, xs = y :: ys := by
    match xs, hx with
    | y :: ys, _ => exact ⟨y, ys, rfl⟩
  have hl' : o + (d.sz + d2.sz) ≤ cs.length := hl
  obtain ⟨v2, hK2, hok2, hsz2, hw2⟩ := hr W base sp held n cs ys (by simpa using hx) (by omega) (fun i f' hi => h (i + 1) f' (by simpa using hi))
  refine ⟨(v, v2), ⟨(cs.drop o).take d.sz, (cs.drop (o + d.sz)).take d2.sz, ?_, hK, hK2⟩, ⟨hok, hok2⟩, ?_, fun N hN m hm => ?_⟩
  · show (cs.drop o).take (d.sz + d2.sz) = _
    rw [List.take_add, List.drop_drop]
  · simp only [List.map_cons, Rows.uptoBulkAll, gPair]
    have hsz' : g.sz v ≤ Rows.uptoBulk y.1 := hsz
    omega
  · simp only [gPair, List.mem_append] at hm
    rcases hm with hm | hm
    · exact hw N (fun q hq => hN q (by simp only [List.map_cons, DataW.weightsEach, List.mem_append]; exact .inl hq)) m hm
    · exact hw2 N (fun q hq => hN q (by simp only [List.map_cons, DataW.weightsEach, List.mem_append]; exact .inr hq)) m hm
theorem opens_struct {t : TypeId} {fs : Array Field} {α β : Type} {d : Kd α} {g : Gauge α} (f : β → α) (inv : α → β) (hi : ∀ v, f (inv v) = v) (ht : P.underlying t = some (.struct fs)) (hc : P.cellsOf t = d.sz) (ho : OpensF enc P fs.toList 0 d g) :
    Opens enc P t (Kd.iso d f) (gIso g f) := by
  refine ⟨hc, fun W base sp held fuel cs x h => ?_⟩
  obtain ⟨xs, n, rfl, rfl, hl, hlen, hf⟩ := DataW.trod_struct ht h
  obtain ⟨v, hK, hok, hsz, hw⟩ := ho W base sp held n cs xs (by simpa using hlen) (by omega) (fun i f' hi => hf i f' (by simpa using hi))
  rw [List.drop_zero, List.take_of_length_le (by omega)] at hK
  refine ⟨inv v, ?_, ?_, ?_, fun N hN m hm => hw N (fun q hq => hN q ?_) m ?_⟩
  · show d.K W (f (inv v)) cs
    rw [hi]; exact hK
  · show g.ok (f (inv v))
    rw [hi]; exact hok
  · simp only [gIso, Rows.uptoBulk, hi]
    omega
  · simpa [DataW.weights, ht] using hq
  · simpa [gIso, hi] using hm
/-! ## arguments -/
/-- What is known of an argument that was opened. -/
structure Opened {H : Type} (P : Program) (t : TypeId) {α : Type} (g : Gauge α) (v : α) (x : DataW H) : Prop where
  ok : g.ok v
  sz : g.sz v ≤ Rows.uptoBulk x
  wt : ∀ N, (∀ m ∈ x.weights P t, m ≤ N) → ∀ n ∈ g.wt v, n ≤ N
theorem arg_slice {t e : TypeId} {α : Type} {d : Kd α} {g : Gauge (List α)} {W : World} {b0 base : Nat} {sp : Nat → Bool} {held : Bool} {r : Reach} {v : Value} {x : DataW H} {ps : List MemPlace}
    (hO : Opens enc P t (Kd.slice e d) g) (ht : P.underlying t = some (.slice e)) (hv : Value.okWide P W r b0 t v) (h : DataW.Trod enc P W base sp held t v x ps) :
    ∃ A c l, v = .slice A l.length c ∧ l.length ≤ c ∧ Kd.C d W A l.length l ∧ Opened P t g l x := by
  obtain ⟨A, len, c, rfl⟩ := okWide_slice ht hv
  obtain ⟨fuel, hf⟩ := h
  obtain ⟨l, ⟨A', c', he, hl, hC⟩, h1, h2, h3⟩ := hO.2 _ _ _ _ _ _ _ hf
  have he' : [Value.slice A len c] = [Value.slice A' l.length c'] := he
  injection he' with he' _
  injection he' with ha hb hc
  subst ha hb hc
  exact ⟨A, c, l, rfl, hl, hC, h1, h2, h3⟩
theorem arg_struct {t : TypeId} {fs : Array Field} {α : Type} {d : Kd α} {g : Gauge α} {W : World} {b0 base : Nat} {sp : Nat → Bool} {held : Bool} {r : Reach} {v : Value} {x : DataW H} {ps : List MemPlace}
    (hO : Opens enc P t d g) (ht : P.underlying t = some (.struct fs)) (hv : Value.okWide P W r b0 t v) (h : DataW.Trod enc P W base sp held t v x ps) :
    ∃ cs y, v = .agg cs.toArray ∧ d.K W y cs ∧ Opened P t g y x := by
  obtain ⟨cs, rfl, hsz⟩ := okWide_struct ht hv
  obtain ⟨fuel, hf⟩ := h
  obtain ⟨y, hK, h1, h2, h3⟩ := hO.2 _ _ _ _ _ _ _ hf
  exact ⟨cs.toList, y, by simp, hK, h1, h2, h3⟩
theorem arg_string {t : TypeId} {W : World} {b0 base : Nat} {sp : Nat → Bool} {held : Bool} {r : Reach} {v : Value} {x : DataW H} {ps : List MemPlace}
    (ht : P.underlying t = some .string) (hc : P.cellsOf t = 1) (hv : Value.okWide P W r b0 t v) (h : DataW.Trod enc P W base sp held t v x ps) : ∃ s, v = .string s ∧ Opened P t gStr s x := by
  obtain ⟨s, rfl⟩ := okWide_string ht hv
  obtain ⟨fuel, hf⟩ := h
  obtain ⟨s', he, h1, h2, h3⟩ := (opens_string (enc := enc) ht hc).2 _ _ _ _ _ _ _ hf
  have he' : [Value.string s] = [Value.string s'] := he
  injection he' with he' _
  injection he' with ha
  subst ha
  exact ⟨s, rfl, h1, h2, h3⟩
theorem arg_int {t : TypeId} {k : IntKind} {W : World} {b0 base : Nat} {sp : Nat → Bool} {held : Bool} {r : Reach} {v : Value} {x : DataW H} {ps : List MemPlace}
    (ht : P.underlying t = some (.int k)) (hv : Value.okWide P W r b0 t v) (h : DataW.Trod enc P W base sp held t v x ps) : ∃ n, v = .int k n ∧ (Lit.int k n).wf = true := by
  obtain ⟨n, rfl, _, _, hw⟩ := open_int ht hv h
  exact ⟨n, rfl, hw⟩
theorem upto_le {ds gs : List (DataW H)} {d : DataW H} (hk : Rows.uptoSmall H (ds ++ gs) = true) (hd : d ∈ ds) : Rows.uptoBulk d ≤ 1048576 := by
  have h : Rows.uptoBulkAll (ds ++ gs) ≤ 1048576 := of_decide_eq_true hk
  rw [bulkAll_append] at h
  have : Rows.uptoBulk d ≤ Rows.uptoBulkAll ds := by
    clear h hk
    induction ds with
    | nil => cases hd
    | cons y l ih =>
      simp only [Rows.uptoBulkAll]
      rcases List.mem_cons.1 hd with rfl | hd
      · omega
      · have := ih hd; omega
  omega
theorem sized_le {ts : List TypeId} {ds : List (DataW H)} (h : (DataW.weightsEach P ts ds).all (· ≤ reachBytes) = true) {j : Nat} {t : TypeId} {d : DataW H} (ht : ts[j]? = some t) (hd : ds[j]? = some d) : ∀ m ∈ d.weights P t, m ≤ reachBytes := by
  intro m hm
  have := List.all_eq_true.1 h _ (DataW.weights_mem_each ht hd m hm)
  simpa using this
end
end Go.Proofs.Ytbhmncenbpdcjaa
end
section
/- Of the bulk's bound: facts and changes that are fit. -/
namespace Go.Proofs.Ytbhmncenbpdcjaa.P
open Go Go.RowKit Go.Proofs.Ytbhmncenbpdcjaa Go.Proofs.YtbhmncenbpdcjaaW.PrintWords
def gKey : Gauge K := gIso (gPair (gInt .i64) (gPair (gInt .u8) (gPair gStr (gInt .i64)))) (fun x : S30 => (x.f0, x.f1, x.f2, x.f3))
def gFact (b : Nat) : Gauge F := gIso (gPair gKey (gList b (gInt .u8))) (fun x : S47 => (x.f0, x.f1))
def gChange (b : Nat) : Gauge Ch := gIso (gPair gKey (gPair (gList b (gInt .u8)) gBool)) (fun x : S53 => (x.f0, x.f1, x.f2))
theorem ints_sz (l : List Int) : (l.map (gInt .u8).sz).sum = l.length := by
  induction l with
  | nil => rfl
  | cons x l ih => rw [List.map_cons, List.sum_cons, ih, List.length_cons]; show 1 + _ = _; omega
theorem key_sz (k : K) : gKey.sz k = k.f2.size + 5 := by show (1 + (1 + ((k.f2.size + 1) + 1))) + 1 = _; omega
theorem fact_sz (b : Nat) (x : F) : (gFact b).sz x = x.f0.f2.size + x.f1.length + 7 := by
  show (gKey.sz x.f0 + ((x.f1.map (gInt .u8).sz).sum + 1)) + 1 = _
  rw [key_sz, ints_sz]; omega
theorem change_sz (b : Nat) (x : Ch) : (gChange b).sz x = x.f0.f2.size + x.f1.length + 8 := by
  show (gKey.sz x.f0 + (((x.f1.map (gInt .u8).sz).sum + 1) + 1)) + 1 = _
  rw [key_sz, ints_sz]; omega
theorem fit_of (b : Nat) (l : List F) (h : (l.map (gFact b).sz).sum + 1 ≤ 1048576) : Fit l ∧ l.length ≤ 2097152 := by
  have h1 : l.length ≤ _ := gList_len (g := gFact b) (l := l) (b := 0)
  have h2 : ∀ x ∈ l, x.f0.f2.size ≤ 1048576 ∧ x.f1.length ≤ 1048576 := fun x hx => by
    have h3 : (gFact b).sz x ≤ _ := gList_mem (g := gFact b) (b := 0) hx
    rw [fact_sz] at h3
    omega
  exact ⟨⟨by omega, fun x hx => Nat.le_trans (h2 x hx).1 (by decide), fun x hx => Nat.lt_of_le_of_lt (h2 x hx).2 (by decide)⟩, by omega⟩
theorem fitC_of (b : Nat) (l : List Ch) (h : (l.map (gChange b).sz).sum + 1 ≤ 1048576) : FitC l := by
  have h1 : l.length ≤ _ := gList_len (g := gChange b) (l := l) (b := 0)
  have h2 : ∀ x ∈ l, x.f0.f2.size ≤ 1048576 ∧ x.f1.length ≤ 1048576 := fun x hx => by
    have h3 : (gChange b).sz x ≤ _ := gList_mem (g := gChange b) (b := 0) hx
    rw [change_sz] at h3
    omega
  exact ⟨by omega, fun x hx => Nat.le_trans (h2 x hx).1 (by decide), fun x hx => Nat.lt_of_le_of_lt (h2 x hx).2 (by decide)⟩
theorem val_of (b : Nat) (hb : b = 1) (x : F) (h : ∀ n ∈ (gFact b).wt x, n ≤ 140737488351232) : x.f1.length < 140737488355328 := by
  have h1 : x.f1.length * b ∈ (gFact b).wt x := by
    show _ ∈ gKey.wt x.f0 ++ (x.f1.length * b :: _)
    simp
  have h2 := h _ h1
  rw [hb] at h2
  omega
theorem vals_of (b B : Nat) (hb : b = 1) (l : List F) (h : ∀ n ∈ (gList B (gFact b)).wt l, n ≤ 140737488351232) : ∀ x ∈ l, x.f1.length < 140737488355328 := fun x hx =>
  val_of b hb x fun n hn => h n (List.mem_cons_of_mem _ (List.mem_flatMap.2 ⟨x, hx, hn⟩))
theorem valC_of (b : Nat) (hb : b = 1) (x : Ch) (h : ∀ n ∈ (gChange b).wt x, n ≤ 140737488351232) : x.f1.length < 140737488355328 := by
  have h1 : x.f1.length * b ∈ (gChange b).wt x := by
    show _ ∈ gKey.wt x.f0 ++ ((x.f1.length * b :: _) ++ _)
    simp
  have h2 := h _ h1
  rw [hb] at h2
  omega
end Go.Proofs.Ytbhmncenbpdcjaa.P
end
