/- Events: fields, of. -/
import Derived.Test.YtoejhelhgfipkaaDoorEntryA
namespace Go.Proofs.YtoejhelhgfipkaaDoor
set_option linter.unusedVariables false
set_option linter.unusedSimpArgs false
open Go.RowKit

theorem e_fields (b : Nat) (w : World) : Calls Tryd.prog 57 #[.pointer (some ⟨b, 0, none⟩)] w fun e w' => e = .returned (.agg #[.pointer (some ⟨b, 1, none⟩), .pointer (some ⟨b, 2, none⟩), .pointer (some ⟨b, 3, none⟩), .pointer (some ⟨b, 4, none⟩), .pointer (some ⟨b, 5, none⟩)]) ∧ Frm Nil w w' := by
  go_enter Tryd.func57, Tryd.ntmps57
  go_wp2_with fail
  go_region
  go_wp2_with fail
  refine bodyPost_ret (v := .agg #[.pointer (some ⟨b, 1, none⟩), .pointer (some ⟨b, 2, none⟩), .pointer (some ⟨b, 3, none⟩), .pointer (some ⟨b, 4, none⟩), .pointer (some ⟨b, 5, none⟩)]) (by simp [results, Tryd.results57, go_sem]) rfl ⟨rfl, ?_⟩
  exact (by repeat (first | with_reducible exact Frm.refl _ _ | apply Frm.drewN | apply Frm.drew | apply Frm.alloc))

def Shp.agg (s : Shp) : Value := .agg #[.int .i64 s.c0, .int .i64 s.c1, .int .i64 s.k0, .int .i64 s.k1, .int .i64 s.v0, .int .i64 s.v1, .int .i64 s.m0, .int .i64 s.m1, .bool s.send, .bool s.ok]

/-- What entry's variables hold. -/
structure Spans (w : World) : Prop where
  a0 : w.cell? ⟨0, 0, none⟩ = some (.int .i64 0)
  a1 : w.cell? ⟨0, 1, none⟩ = some (.int .i64 511)
  b0 : w.cell? ⟨1, 0, none⟩ = some (.int .i64 (-1))
  b1 : w.cell? ⟨1, 1, none⟩ = some (.int .i64 (-1))
  c0 : w.cell? ⟨2, 0, none⟩ = some (.int .i64 (-1))
  c1 : w.cell? ⟨2, 1, none⟩ = some (.int .i64 511)
  lt : 2 < w.heap.size

theorem e_of1 (w : World) (h : Spans w) : Calls Tryd.prog 54 #[.int .i64 1] w fun e w' => e = .returned (shapeF 1).agg ∧ Frm Nil w w' := by
  obtain ⟨a0, a1, b0, b1, c0, c1, lt⟩ := h
  have l0 : 0 < w.heap.size := by omega
  have l1 : 1 < w.heap.size := by omega
  go_enter Tryd.func54, Tryd.ntmps54
  go_wp2_with fail
  refine bodyPost_ret (v := (shapeF 1).agg) (by simp [results, Tryd.results54, go_sem, shapeF, Shp.agg]) rfl ⟨rfl, ?_⟩
  exact (by repeat (first | with_reducible exact Frm.refl _ _ | apply Frm.drewN | apply Frm.drew | apply Frm.alloc))

theorem e_of2 (w : World) (h : Spans w) : Calls Tryd.prog 54 #[.int .i64 2] w fun e w' => e = .returned (shapeF 2).agg ∧ Frm Nil w w' := by
  obtain ⟨a0, a1, b0, b1, c0, c1, lt⟩ := h
  have l0 : 0 < w.heap.size := by omega
  have l1 : 1 < w.heap.size := by omega
  go_enter Tryd.func54, Tryd.ntmps54
  go_wp2_with fail
  refine bodyPost_ret (v := (shapeF 2).agg) (by simp [results, Tryd.results54, go_sem, shapeF, Shp.agg]) rfl ⟨rfl, ?_⟩
  exact (by repeat (first | with_reducible exact Frm.refl _ _ | apply Frm.drewN | apply Frm.drew | apply Frm.alloc))

theorem e_of3 (w : World) (h : Spans w) : Calls Tryd.prog 54 #[.int .i64 3] w fun e w' => e = .returned (shapeF 3).agg ∧ Frm Nil w w' := by
  obtain ⟨a0, a1, b0, b1, c0, c1, lt⟩ := h
  have l0 : 0 < w.heap.size := by omega
  have l1 : 1 < w.heap.size := by omega
  go_enter Tryd.func54, Tryd.ntmps54
  go_wp2_with fail
  refine bodyPost_ret (v := (shapeF 3).agg) (by simp [results, Tryd.results54, go_sem, shapeF, Shp.agg]) rfl ⟨rfl, ?_⟩
  exact (by repeat (first | with_reducible exact Frm.refl _ _ | apply Frm.drewN | apply Frm.drew | apply Frm.alloc))

theorem e_of4 (w : World) (h : Spans w) : Calls Tryd.prog 54 #[.int .i64 4] w fun e w' => e = .returned (shapeF 4).agg ∧ Frm Nil w w' := by
  obtain ⟨a0, a1, b0, b1, c0, c1, lt⟩ := h
  have l0 : 0 < w.heap.size := by omega
  have l1 : 1 < w.heap.size := by omega
  go_enter Tryd.func54, Tryd.ntmps54
  go_wp2_with fail
  refine bodyPost_ret (v := (shapeF 4).agg) (by simp [results, Tryd.results54, go_sem, shapeF, Shp.agg]) rfl ⟨rfl, ?_⟩
  exact (by repeat (first | with_reducible exact Frm.refl _ _ | apply Frm.drewN | apply Frm.drew | apply Frm.alloc))

theorem e_of5 (w : World) (h : Spans w) : Calls Tryd.prog 54 #[.int .i64 5] w fun e w' => e = .returned (shapeF 5).agg ∧ Frm Nil w w' := by
  obtain ⟨a0, a1, b0, b1, c0, c1, lt⟩ := h
  have l0 : 0 < w.heap.size := by omega
  have l1 : 1 < w.heap.size := by omega
  go_enter Tryd.func54, Tryd.ntmps54
  go_wp2_with fail
  refine bodyPost_ret (v := (shapeF 5).agg) (by simp [results, Tryd.results54, go_sem, shapeF, Shp.agg]) rfl ⟨rfl, ?_⟩
  exact (by repeat (first | with_reducible exact Frm.refl _ _ | apply Frm.drewN | apply Frm.drew | apply Frm.alloc))

theorem e_of6 (w : World) (h : Spans w) : Calls Tryd.prog 54 #[.int .i64 6] w fun e w' => e = .returned (shapeF 6).agg ∧ Frm Nil w w' := by
  obtain ⟨a0, a1, b0, b1, c0, c1, lt⟩ := h
  have l0 : 0 < w.heap.size := by omega
  have l1 : 1 < w.heap.size := by omega
  go_enter Tryd.func54, Tryd.ntmps54
  go_wp2_with fail
  refine bodyPost_ret (v := (shapeF 6).agg) (by simp [results, Tryd.results54, go_sem, shapeF, Shp.agg]) rfl ⟨rfl, ?_⟩
  exact (by repeat (first | with_reducible exact Frm.refl _ _ | apply Frm.drewN | apply Frm.drew | apply Frm.alloc))

theorem e_of7 (w : World) (h : Spans w) : Calls Tryd.prog 54 #[.int .i64 7] w fun e w' => e = .returned (shapeF 7).agg ∧ Frm Nil w w' := by
  obtain ⟨a0, a1, b0, b1, c0, c1, lt⟩ := h
  have l0 : 0 < w.heap.size := by omega
  have l1 : 1 < w.heap.size := by omega
  go_enter Tryd.func54, Tryd.ntmps54
  go_wp2_with fail
  refine bodyPost_ret (v := (shapeF 7).agg) (by simp [results, Tryd.results54, go_sem, shapeF, Shp.agg]) rfl ⟨rfl, ?_⟩
  exact (by repeat (first | with_reducible exact Frm.refl _ _ | apply Frm.drewN | apply Frm.drew | apply Frm.alloc))

theorem e_of9 (w : World) (h : Spans w) : Calls Tryd.prog 54 #[.int .i64 9] w fun e w' => e = .returned (shapeF 9).agg ∧ Frm Nil w w' := by
  obtain ⟨a0, a1, b0, b1, c0, c1, lt⟩ := h
  have l0 : 0 < w.heap.size := by omega
  have l1 : 1 < w.heap.size := by omega
  go_enter Tryd.func54, Tryd.ntmps54
  go_wp2_with fail
  refine bodyPost_ret (v := (shapeF 9).agg) (by simp [results, Tryd.results54, go_sem, shapeF, Shp.agg]) rfl ⟨rfl, ?_⟩
  exact (by repeat (first | with_reducible exact Frm.refl _ _ | apply Frm.drewN | apply Frm.drew | apply Frm.alloc))

theorem e_of10 (w : World) (h : Spans w) : Calls Tryd.prog 54 #[.int .i64 10] w fun e w' => e = .returned (shapeF 10).agg ∧ Frm Nil w w' := by
  obtain ⟨a0, a1, b0, b1, c0, c1, lt⟩ := h
  have l0 : 0 < w.heap.size := by omega
  have l1 : 1 < w.heap.size := by omega
  go_enter Tryd.func54, Tryd.ntmps54
  go_wp2_with fail
  refine bodyPost_ret (v := (shapeF 10).agg) (by simp [results, Tryd.results54, go_sem, shapeF, Shp.agg]) rfl ⟨rfl, ?_⟩
  exact (by repeat (first | with_reducible exact Frm.refl _ _ | apply Frm.drewN | apply Frm.drew | apply Frm.alloc))

theorem e_of0 (k : Int) (hk : k ≠ 1 ∧ k ≠ 2 ∧ k ≠ 3 ∧ k ≠ 4 ∧ k ≠ 5 ∧ k ≠ 6 ∧ k ≠ 7 ∧ k ≠ 9 ∧ k ≠ 10) (w : World) (h : Spans w) : Calls Tryd.prog 54 #[.int .i64 k] w fun e w' => e = .returned (shapeF k).agg ∧ Frm Nil w w' := by
  obtain ⟨a0, a1, b0, b1, c0, c1, lt⟩ := h
  have l0 : 0 < w.heap.size := by omega
  have l1 : 1 < w.heap.size := by omega
  obtain ⟨h1, h2, h3, h4, h5, h6, h7, h9, h10⟩ := hk
  have e1 : (k == 1) = false := beq_eq_false_iff_ne.2 h1
  have e2 : (k == 2) = false := beq_eq_false_iff_ne.2 h2
  have e3 : (k == 3) = false := beq_eq_false_iff_ne.2 h3
  have e4 : (k == 4) = false := beq_eq_false_iff_ne.2 h4
  have e5 : (k == 5) = false := beq_eq_false_iff_ne.2 h5
  have e6 : (k == 6) = false := beq_eq_false_iff_ne.2 h6
  have e7 : (k == 7) = false := beq_eq_false_iff_ne.2 h7
  have e9 : (k == 9) = false := beq_eq_false_iff_ne.2 h9
  have e10 : (k == 10) = false := beq_eq_false_iff_ne.2 h10
  go_enter Tryd.func54, Tryd.ntmps54
  go_wp2_with fail
  refine bodyPost_ret (v := (shapeF k).agg) (by simp [results, Tryd.results54, go_sem, shapeF, Shp.agg, h1, h2, h3, h4, h5, h6, h7, h9, h10]) rfl ⟨rfl, ?_⟩
  exact (by repeat (first | with_reducible exact Frm.refl _ _ | apply Frm.drewN | apply Frm.drew | apply Frm.alloc))

theorem e_of (k : Int) (w : World) (h : Spans w) : Calls Tryd.prog 54 #[.int .i64 k] w fun e w' => e = .returned (shapeF k).agg ∧ Frm Nil w w' := by
  rcases Decidable.em (k ≠ 1 ∧ k ≠ 2 ∧ k ≠ 3 ∧ k ≠ 4 ∧ k ≠ 5 ∧ k ≠ 6 ∧ k ≠ 7 ∧ k ≠ 9 ∧ k ≠ 10) with hk | hk
  · exact e_of0 k hk w h
  · have : k = 1 ∨ k = 2 ∨ k = 3 ∨ k = 4 ∨ k = 5 ∨ k = 6 ∨ k = 7 ∨ k = 9 ∨ k = 10 := by omega
    rcases this with rfl | rfl | rfl | rfl | rfl | rfl | rfl | rfl | rfl
    · exact e_of1 w h
    · exact e_of2 w h
    · exact e_of3 w h
    · exact e_of4 w h
    · exact e_of5 w h
    · exact e_of6 w h
    · exact e_of7 w h
    · exact e_of9 w h
    · exact e_of10 w h

end Go.Proofs.YtoejhelhgfipkaaDoor
