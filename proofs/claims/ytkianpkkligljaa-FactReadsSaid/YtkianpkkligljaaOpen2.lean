/- How nodes and bytes are opened; and what a bound of the bulk gives. -/
import Derived.Test.YtkianpkkligljaaOpen
import Derived.Test.YtkianpkkligljaaRows
import Derived.ChangeSlices
namespace Go.Proofs.Ytkianpkkligljaa
open Go.ChangeShapes Go.WideShapes Go.ChangeAt Go.RowKit Go.Joins

theorem bulk_one {H : Type} (d : DataW H) : 1 ≤ Rows.uptoBulk d := by
  cases d with
  | lit l => cases l <;> simp [Rows.uptoBulk]
  | _ => simp [Rows.uptoBulk]
theorem bulk_in {H : Type} {d : DataW H} : ∀ {l : List (DataW H)}, d ∈ l → Rows.uptoBulk d ≤ Rows.uptoBulkAll l
  | [], h => by cases h
  | x :: r, h => by
    simp only [Rows.uptoBulkAll]
    rcases List.mem_cons.1 h with rfl | e
    · omega
    · have := bulk_in e; omega
theorem bulk_len {H : Type} : ∀ (l : List (DataW H)), l.length ≤ Rows.uptoBulkAll l
  | [] => by simp
  | x :: r => by
    have := bulk_one x; have := bulk_len r
    simp only [Rows.uptoBulkAll, List.length_cons]; omega
theorem small_in {H : Type} {d : DataW H} {l : List (DataW H)} (hk : Rows.uptoSmall H l = true) (hm : d ∈ l) : Rows.uptoBulk d ≤ 1048576 :=
  Nat.le_trans (bulk_in hm) (by simpa [Rows.uptoSmall] using hk)

set_option maxRecDepth 100000 in
theorem open_node {H : Type} {enc : TypeId × Value → H} {W : World} {b0 base : Nat} {sp : Nat → Bool} {held : Bool} {r : Reach} {v : Value} {d : DataW H} {p : List MemPlace}
    (hv : Value.okWide Try.prog W r b0 34 v) (h : DataW.Trod enc Try.prog W base sp held 34 v d p) :
    ∃ k n s, v = .agg #[.int .u8 k, .int .i64 n, .int .i64 s] := by
  have hc : Try.prog.cellsOf 34 = 3 := by kernel_rfl
  obtain ⟨c0, c1, c2, y0, y1, y2, k, rfl, rfl, rfl, z0, z1, z2⟩ := open_agg3 Try.underlying34 (by kernel_rfl) hc hv h
  obtain ⟨i, e0, _, wi⟩ := DataW.trod_int Try.underlying5 z0
  obtain ⟨u, e1, _, wu⟩ := DataW.trod_int Try.underlying3 z1
  obtain ⟨c, e2, _, wc⟩ := DataW.trod_int Try.underlying3 z2
  simp only [List.cons.injEq, and_true] at e0 e1 e2
  subst e0 e1 e2
  exact ⟨i, u, c, rfl⟩
theorem wf_byte {n : Int} (h : (Lit.int .u8 n).wf = true) : ((UInt8.ofNat n.toNat).toNat : Int) = n := by
  have := wf_u8 h
  simp; omega
set_option maxRecDepth 100000 in
theorem open_bytes {H : Type} {enc : TypeId × Value → H} {W : World} {b0 base : Nat} {sp : Nat → Bool} {held : Bool} {r : Reach} {v : Value} {d : DataW H} {p : List MemPlace}
    (hv : Value.okWide Try.prog W r b0 24 v) (h : DataW.Trod enc Try.prog W base sp held 24 v d p) (hs : Rows.uptoBulk d ≤ 1048576) :
    ∃ A c l, v = .slice A l.length c ∧ Bs W A l ∧ l.length ≤ 1048576 := by
  have hc : Try.prog.cellsOf 5 = 1 := by kernel_rfl
  obtain ⟨A, len, cap, rfl⟩ := okWide_slice Try.underlying24 hv
  obtain ⟨fuel, hf⟩ := h
  rcases open_ints Try.underlying24 Try.underlying5 hc hf with ⟨e, _⟩ | ⟨a, len', cap', zs, e, _, hl, _, hz, hx, hcell, hwf⟩
  · simp only [Value.cells, List.cons.injEq, and_true, Value.slice.injEq] at e
    obtain ⟨rfl, rfl, rfl⟩ := e
    exact ⟨none, 0, [], rfl, Bs.nil _ _, by simp⟩
  · simp only [Value.cells, List.cons.injEq, and_true, Value.slice.injEq] at e
    obtain ⟨rfl, rfl, rfl⟩ := e
    have hlz : len ≤ zs.length := by rw [hz]; split <;> omega
    have hd : d = .slice (lits .u8 (zs.take len)) (lits .u8 (zs.drop len)) := congrArg Prod.fst hx
    have hlen : len ≤ 1048576 := by
      rw [hd] at hs
      simp only [Rows.uptoBulk] at hs
      have h1 := bulk_len (H := H) (lits .u8 (zs.take len))
      have h2 : (lits (H := H) .u8 (zs.take len)).length = len := by simp [lits]; omega
      omega
    have hll : ((zs.take len).map fun n => UInt8.ofNat n.toNat).length = len := by simp; omega
    refine ⟨some a, cap, (zs.take len).map fun n => UInt8.ofNat n.toNat, by rw [hll], ⟨by rw [hll]; omega, fun j hj => ⟨a, rfl, ?_⟩⟩, by rw [hll]; exact hlen⟩
    rw [hll] at hj
    rw [hcell j (by omega)]
    have hjz : j < zs.length := by omega
    have hm : zs[j] ∈ zs := List.getElem_mem hjz
    have hb := wf_byte (hwf _ hm)
    simp only [List.getElem_map, List.getElem_take]
    rw [hb]
    simp [List.getElem?_eq_getElem hjz]
set_option maxRecDepth 100000 in
theorem open_bytes_sized {H : Type} {enc : TypeId × Value → H} {W : World} {b0 base : Nat} {sp : Nat → Bool} {held : Bool} {r : Reach} {v : Value} {d : DataW H} {p : List MemPlace}
    (hv : Value.okWide Try.prog W r b0 24 v) (h : DataW.Trod enc Try.prog W base sp held 24 v d p) (hs : ∀ m ∈ d.weights Try.prog 24, m ≤ 140737488351232) :
    ∃ A c l, v = .slice A l.length c ∧ Bs W A l ∧ l.length ≤ 140737488351232 := by
  have hc : Try.prog.cellsOf 5 = 1 := by kernel_rfl
  obtain ⟨A, len, cap, rfl⟩ := okWide_slice Try.underlying24 hv
  obtain ⟨fuel, hf⟩ := h
  rcases open_ints Try.underlying24 Try.underlying5 hc hf with ⟨e, _⟩ | ⟨a, len', cap', zs, e, _, hl, _, hz, hx, hcell, hwf⟩
  · simp only [Value.cells, List.cons.injEq, and_true, Value.slice.injEq] at e
    obtain ⟨rfl, rfl, rfl⟩ := e
    exact ⟨none, 0, [], rfl, Bs.nil _ _, by simp⟩
  · simp only [Value.cells, List.cons.injEq, and_true, Value.slice.injEq] at e
    obtain ⟨rfl, rfl, rfl⟩ := e
    have hlz : len ≤ zs.length := by rw [hz]; split <;> omega
    have hd : d = .slice (lits .u8 (zs.take len)) (lits .u8 (zs.drop len)) := congrArg Prod.fst hx
    have hlen : len ≤ 140737488351232 := by
      have h1 := hs ((len + (zs.drop len).length) * Try.prog.bytesOf 5) (by
        rw [hd]
        have h2 : (lits (H := H) .u8 (zs.take len)).length = len := by simp [lits]; omega
        have h3 : (lits (H := H) .u8 (zs.drop len)).length = (zs.drop len).length := by simp [lits]
        simp [DataW.weights, Try.underlying24, h2, h3])
      have h4 : Try.prog.bytesOf 5 = 1 := by kernel_rfl
      rw [h4] at h1
      omega
    have hll : ((zs.take len).map fun n => UInt8.ofNat n.toNat).length = len := by simp; omega
    refine ⟨some a, cap, (zs.take len).map fun n => UInt8.ofNat n.toNat, by rw [hll], ⟨by rw [hll]; omega, fun j hj => ⟨a, rfl, ?_⟩⟩, by rw [hll]; exact hlen⟩
    rw [hll] at hj
    rw [hcell j (by omega)]
    have hjz : j < zs.length := by omega
    have hm : zs[j] ∈ zs := List.getElem_mem hjz
    have hb := wf_byte (hwf _ hm)
    simp only [List.getElem_map, List.getElem_take]
    rw [hb]
    simp [List.getElem?_eq_getElem hjz]
end Go.Proofs.Ytkianpkkligljaa
