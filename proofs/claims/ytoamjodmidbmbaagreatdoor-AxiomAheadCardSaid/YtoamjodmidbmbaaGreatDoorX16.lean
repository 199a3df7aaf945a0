/- Texts of the proof. -/
import Derived.Test.YtoamjodmidbmbaaGreatDoorX15
import Derived.Deep.RegionHeld3
import Derived.Deep.DeepCutAuto
import Derived.Deep.CutBlock
import Derived.Test.YtoamjodmidbmbaaGreatDoorX13
import Derived.Test.YtoamjodmidbmbaaGreatDoorX14
set_option linter.unusedVariables false
set_option linter.unusedSimpArgs false
namespace Go.Proofs.YtoamjodmidbmbaaGreatDoor
open Go.RowKit
theorem e_fields (b : Nat) (w : World) : Calls Tryz.prog 167 #[.pointer (some ⟨b, 0, none⟩)] w fun e w' => e = .returned (.agg #[.pointer (some ⟨b, 1, none⟩), .pointer (some ⟨b, 2, none⟩), .pointer (some ⟨b, 3, none⟩), .pointer (some ⟨b, 4, none⟩), .pointer (some ⟨b, 5, none⟩)]) ∧ Frm Nil w w' := by
 go_enter Tryz.func167, Tryz.ntmps167
 go_wp2_with fail
 go_region
 go_wp2_with fail
 refine bodyPost_ret (v := .agg #[.pointer (some ⟨b, 1, none⟩), .pointer (some ⟨b, 2, none⟩), .pointer (some ⟨b, 3, none⟩), .pointer (some ⟨b, 4, none⟩), .pointer (some ⟨b, 5, none⟩)]) (by simp [results, Tryz.results167, go_sem]) rfl ⟨rfl, ?_⟩
 exact (by repeat (first | with_reducible exact Frm.refl _ _ | apply Frm.drewN | apply Frm.drew | apply Frm.alloc))
def Shp.agg (s : Shp) : Value := .agg #[.int .i64 s.c0, .int .i64 s.c1, .int .i64 s.k0, .int .i64 s.k1, .int .i64 s.v0, .int .i64 s.v1, .int .i64 s.m0, .int .i64 s.m1, .bool s.send, .bool s.ok]
structure Spans (w : World) : Prop where
 a0 : w.cell? ⟨0, 0, none⟩ = some (.int .i64 0)
 a1 : w.cell? ⟨0, 1, none⟩ = some (.int .i64 511)
 b0 : w.cell? ⟨1, 0, none⟩ = some (.int .i64 (-1))
 b1 : w.cell? ⟨1, 1, none⟩ = some (.int .i64 (-1))
 c0 : w.cell? ⟨2, 0, none⟩ = some (.int .i64 (-1))
 c1 : w.cell? ⟨2, 1, none⟩ = some (.int .i64 511)
 lt : 2 < w.heap.size
theorem e_of1 (w : World) (h : Spans w) : Calls Tryz.prog 164 #[.int .i64 1] w fun e w' => e = .returned (shapeF 1).agg ∧ Frm Nil w w' := by
 obtain ⟨a0, a1, b0, b1, c0, c1, lt⟩ := h
 have l0 : 0 < w.heap.size := by omega
 have l1 : 1 < w.heap.size := by omega
 go_enter Tryz.func164, Tryz.ntmps164
 go_wp2_with fail
 refine bodyPost_ret (v := (shapeF 1).agg) (by simp [results, Tryz.results164, go_sem, shapeF, Shp.agg]) rfl ⟨rfl, ?_⟩
 exact (by repeat (first | with_reducible exact Frm.refl _ _ | apply Frm.drewN | apply Frm.drew | apply Frm.alloc))
theorem e_of2 (w : World) (h : Spans w) : Calls Tryz.prog 164 #[.int .i64 2] w fun e w' => e = .returned (shapeF 2).agg ∧ Frm Nil w w' := by
 obtain ⟨a0, a1, b0, b1, c0, c1, lt⟩ := h
 have l0 : 0 < w.heap.size := by omega
 have l1 : 1 < w.heap.size := by omega
 go_enter Tryz.func164, Tryz.ntmps164
 go_wp2_with fail
 refine bodyPost_ret (v := (shapeF 2).agg) (by simp [results, Tryz.results164, go_sem, shapeF, Shp.agg]) rfl ⟨rfl, ?_⟩
 exact (by repeat (first | with_reducible exact Frm.refl _ _ | apply Frm.drewN | apply Frm.drew | apply Frm.alloc))
theorem e_of3 (w : World) (h : Spans w) : Calls Tryz.prog 164 #[.int .i64 3] w fun e w' => e = .returned (shapeF 3).agg ∧ Frm Nil w w' := by
 obtain ⟨a0, a1, b0, b1, c0, c1, lt⟩ := h
 have l0 : 0 < w.heap.size := by omega
 have l1 : 1 < w.heap.size := by omega
 go_enter Tryz.func164, Tryz.ntmps164
 go_wp2_with fail
 refine bodyPost_ret (v := (shapeF 3).agg) (by simp [results, Tryz.results164, go_sem, shapeF, Shp.agg]) rfl ⟨rfl, ?_⟩
 exact (by repeat (first | with_reducible exact Frm.refl _ _ | apply Frm.drewN | apply Frm.drew | apply Frm.alloc))
theorem e_of4 (w : World) (h : Spans w) : Calls Tryz.prog 164 #[.int .i64 4] w fun e w' => e = .returned (shapeF 4).agg ∧ Frm Nil w w' := by
 obtain ⟨a0, a1, b0, b1, c0, c1, lt⟩ := h
 have l0 : 0 < w.heap.size := by omega
 have l1 : 1 < w.heap.size := by omega
 go_enter Tryz.func164, Tryz.ntmps164
 go_wp2_with fail
 refine bodyPost_ret (v := (shapeF 4).agg) (by simp [results, Tryz.results164, go_sem, shapeF, Shp.agg]) rfl ⟨rfl, ?_⟩
 exact (by repeat (first | with_reducible exact Frm.refl _ _ | apply Frm.drewN | apply Frm.drew | apply Frm.alloc))
theorem e_of5 (w : World) (h : Spans w) : Calls Tryz.prog 164 #[.int .i64 5] w fun e w' => e = .returned (shapeF 5).agg ∧ Frm Nil w w' := by
 obtain ⟨a0, a1, b0, b1, c0, c1, lt⟩ := h
 have l0 : 0 < w.heap.size := by omega
 have l1 : 1 < w.heap.size := by omega
 go_enter Tryz.func164, Tryz.ntmps164
 go_wp2_with fail
 refine bodyPost_ret (v := (shapeF 5).agg) (by simp [results, Tryz.results164, go_sem, shapeF, Shp.agg]) rfl ⟨rfl, ?_⟩
 exact (by repeat (first | with_reducible exact Frm.refl _ _ | apply Frm.drewN | apply Frm.drew | apply Frm.alloc))
theorem e_of6 (w : World) (h : Spans w) : Calls Tryz.prog 164 #[.int .i64 6] w fun e w' => e = .returned (shapeF 6).agg ∧ Frm Nil w w' := by
 obtain ⟨a0, a1, b0, b1, c0, c1, lt⟩ := h
 have l0 : 0 < w.heap.size := by omega
 have l1 : 1 < w.heap.size := by omega
 go_enter Tryz.func164, Tryz.ntmps164
 go_wp2_with fail
 refine bodyPost_ret (v := (shapeF 6).agg) (by simp [results, Tryz.results164, go_sem, shapeF, Shp.agg]) rfl ⟨rfl, ?_⟩
 exact (by repeat (first | with_reducible exact Frm.refl _ _ | apply Frm.drewN | apply Frm.drew | apply Frm.alloc))
theorem e_of7 (w : World) (h : Spans w) : Calls Tryz.prog 164 #[.int .i64 7] w fun e w' => e = .returned (shapeF 7).agg ∧ Frm Nil w w' := by
 obtain ⟨a0, a1, b0, b1, c0, c1, lt⟩ := h
 have l0 : 0 < w.heap.size := by omega
 have l1 : 1 < w.heap.size := by omega
 go_enter Tryz.func164, Tryz.ntmps164
 go_wp2_with fail
 refine bodyPost_ret (v := (shapeF 7).agg) (by simp [results, Tryz.results164, go_sem, shapeF, Shp.agg]) rfl ⟨rfl, ?_⟩
 exact (by repeat (first | with_reducible exact Frm.refl _ _ | apply Frm.drewN | apply Frm.drew | apply Frm.alloc))
theorem e_of9 (w : World) (h : Spans w) : Calls Tryz.prog 164 #[.int .i64 9] w fun e w' => e = .returned (shapeF 9).agg ∧ Frm Nil w w' := by
 obtain ⟨a0, a1, b0, b1, c0, c1, lt⟩ := h
 have l0 : 0 < w.heap.size := by omega
 have l1 : 1 < w.heap.size := by omega
 go_enter Tryz.func164, Tryz.ntmps164
 go_wp2_with fail
 refine bodyPost_ret (v := (shapeF 9).agg) (by simp [results, Tryz.results164, go_sem, shapeF, Shp.agg]) rfl ⟨rfl, ?_⟩
 exact (by repeat (first | with_reducible exact Frm.refl _ _ | apply Frm.drewN | apply Frm.drew | apply Frm.alloc))
theorem e_of10 (w : World) (h : Spans w) : Calls Tryz.prog 164 #[.int .i64 10] w fun e w' => e = .returned (shapeF 10).agg ∧ Frm Nil w w' := by
 obtain ⟨a0, a1, b0, b1, c0, c1, lt⟩ := h
 have l0 : 0 < w.heap.size := by omega
 have l1 : 1 < w.heap.size := by omega
 go_enter Tryz.func164, Tryz.ntmps164
 go_wp2_with fail
 refine bodyPost_ret (v := (shapeF 10).agg) (by simp [results, Tryz.results164, go_sem, shapeF, Shp.agg]) rfl ⟨rfl, ?_⟩
 exact (by repeat (first | with_reducible exact Frm.refl _ _ | apply Frm.drewN | apply Frm.drew | apply Frm.alloc))
theorem e_of0 (k : Int) (hk : k ≠ 1 ∧ k ≠ 2 ∧ k ≠ 3 ∧ k ≠ 4 ∧ k ≠ 5 ∧ k ≠ 6 ∧ k ≠ 7 ∧ k ≠ 9 ∧ k ≠ 10) (w : World) (h : Spans w) : Calls Tryz.prog 164 #[.int .i64 k] w fun e w' => e = .returned (shapeF k).agg ∧ Frm Nil w w' := by
 obtain ⟨a0, a1, b0, b1, c0, c1, lt⟩ := h
 have l0 : 0 < w.heap.size := by omega
 have l1 : 1 < w.heap.size := by omega
 obtain ⟨h1, h2, h3, h4, h5, h6, h7, h9, h10⟩ := hk
 have e1 : (k == 1) = false := beq_eq_false_iff_ne.2 h1
 have e2 : (k == 2) = false := beq_eq_false_iff_ne.2 h2
 have e3 : (k == 3) = false := beq_eq_false_iff_ne.2 h3
 have e4 : (k == 4) = false := beq_eq_false_iff_ne.2 h4
 have e5 : (k == 5) = false := beq_eq_false_iff_ne.2 h5
 have e6 : (k == 6) = false := beq_eq_false_iff_ne.2 h6
 have e7 : (k == 7) = false := beq_eq_false_iff_ne.2 h7
 have e9 : (k == 9) = false := beq_eq_false_iff_ne.2 h9
 have e10 : (k == 10) = false := beq_eq_false_iff_ne.2 h10
 go_enter Tryz.func164, Tryz.ntmps164
 go_wp2_with fail
 refine bodyPost_ret (v := (shapeF k).agg) (by simp [results, Tryz.results164, go_sem, shapeF, Shp.agg, h1, h2, h3, h4, h5, h6, h7, h9, h10]) rfl ⟨rfl, ?_⟩
 exact (by repeat (first | with_reducible exact Frm.refl _ _ | apply Frm.drewN | apply Frm.drew | apply Frm.alloc))
theorem e_of (k : Int) (w : World) (h : Spans w) : Calls Tryz.prog 164 #[.int .i64 k] w fun e w' => e = .returned (shapeF k).agg ∧ Frm Nil w w' := by
 rcases Decidable.em (k ≠ 1 ∧ k ≠ 2 ∧ k ≠ 3 ∧ k ≠ 4 ∧ k ≠ 5 ∧ k ≠ 6 ∧ k ≠ 7 ∧ k ≠ 9 ∧ k ≠ 10) with hk | hk
 ·exact e_of0 k hk w h
 ·have : k = 1 ∨ k = 2 ∨ k = 3 ∨ k = 4 ∨ k = 5 ∨ k = 6 ∨ k = 7 ∨ k = 9 ∨ k = 10 := by omega
  rcases this with rfl | rfl | rfl | rfl | rfl | rfl | rfl | rfl | rfl
  ·exact e_of1 w h
  ·exact e_of2 w h
  ·exact e_of3 w h
  ·exact e_of4 w h
  ·exact e_of5 w h
  ·exact e_of6 w h
  ·exact e_of7 w h
  ·exact e_of9 w h
  ·exact e_of10 w h
theorem box8 {w : World} {g : Nat} {a b c d e f h i : Value} {t : Nat} (q : w.heap[g]? = some (.cells #[a, b, c, d, e, f, h, i] t (0, 0))) :
  w.cell? ⟨g, 0, none⟩ = some a ∧ w.cell? ⟨g, 1, none⟩ = some b ∧ w.cell? ⟨g, 2, none⟩ = some c ∧ w.cell? ⟨g, 3, none⟩ = some d ∧ w.cell? ⟨g, 4, none⟩ = some e ∧ w.cell? ⟨g, 5, none⟩ = some f ∧ w.cell? ⟨g, 6, none⟩ = some h ∧ w.cell? ⟨g, 7, none⟩ = some i ∧ (∀ x, w.frozen? ⟨g, x, none⟩ = false) :=
 ⟨row_cell q 0 rfl, row_cell q 1 rfl, row_cell q 2 rfl, row_cell q 3 rfl, row_cell q 4 rfl, row_cell q 5 rfl, row_cell q 6 rfl, row_cell q 7 rfl, row_free q⟩
theorem box10 {w : World} {g : Nat} {a b c d e f h i j k : Value} {t : Nat} (q : w.heap[g]? = some (.cells #[a, b, c, d, e, f, h, i, j, k] t (0, 0))) :
  w.cell? ⟨g, 0, none⟩ = some a ∧ w.cell? ⟨g, 1, none⟩ = some b ∧ w.cell? ⟨g, 2, none⟩ = some c ∧ w.cell? ⟨g, 3, none⟩ = some d ∧ w.cell? ⟨g, 4, none⟩ = some e ∧ w.cell? ⟨g, 5, none⟩ = some f ∧ w.cell? ⟨g, 6, none⟩ = some h ∧ w.cell? ⟨g, 7, none⟩ = some i ∧ w.cell? ⟨g, 8, none⟩ = some j ∧ w.cell? ⟨g, 9, none⟩ = some k ∧ (∀ x, w.frozen? ⟨g, x, none⟩ = false) :=
 ⟨row_cell q 0 rfl, row_cell q 1 rfl, row_cell q 2 rfl, row_cell q 3 rfl, row_cell q 4 rfl, row_cell q 5 rfl, row_cell q 6 rfl, row_cell q 7 rfl, row_cell q 8 rfl, row_cell q 9 rfl, row_free q⟩
theorem Spans.later {w w' : World} (h : Spans w) (f : Frm Nil w w') : Spans w' := by
 obtain ⟨a0, a1, b0, b1, c0, c1, lt⟩ := h
 have k : ∀ (p : Addr) v, w.cell? p = some v → w'.cell? p = some v := fun p v hc => f.out hc (fun h => h)
 exact ⟨k _ _ a0, k _ _ a1, k _ _ b0, k _ _ b1, k _ _ c0, k _ _ c1, Nat.lt_of_lt_of_le lt f.size⟩
set_option maxRecDepth 100000 in
set_option maxHeartbeats 2000000 in
theorem e_check_bad (e : Ev) (w : World) (hk : e.kind < 1 ∨ 13 < e.kind) : Calls Tryz.prog 147 #[e.agg] w fun o w' => o = .returned (.int .i64 1) ∧ Frm Nil w w' := by
 obtain ⟨kind, g, chan, case_, value, mate, send, ok⟩ := e
 unfold Ev.agg
 dsimp only at hk ⊢
 by_cases h1 : kind < 1
 ·go_enter Tryz.func147, Tryz.ntmps147
  go_wp2_with fail
  go_ret
  exact ⟨rfl, (Frm.refl _ _).alloc _⟩
 ·have h2 : 13 < kind := by omega
  go_enter Tryz.func147, Tryz.ntmps147
  go_wp2_with fail
  go_ret
  exact ⟨rfl, (Frm.refl _ _).alloc _⟩
theorem sl_in {w : World} {L : List Piece} (H : SL w L) (a b n : Int) : Calls Tryz.prog 165 #[.agg #[.int .i64 a, .int .i64 b], .int .i64 n] w fun e w' => e = .returned (.bool (inn a b n)) ∧ SL w' L :=
 (e_in n a b w).mono fun _ _ q => ⟨q.1, H.later q.2⟩
theorem sl_odd {w : World} {L : List Piece} (H : SL w L) (e : Ev) : Calls Tryz.prog 166 #[e.agg] w fun o w' => o = .returned (.bool (oddF e)) ∧ SL w' L :=
 (e_odd e w).mono fun _ _ q => ⟨q.1, H.later q.2⟩
theorem sl_fields {w : World} {L : List Piece} (H : SL w L) (b : Nat) : Calls Tryz.prog 167 #[.pointer (some ⟨b, 0, none⟩)] w fun e w' => e = .returned (.agg #[.pointer (some ⟨b, 1, none⟩), .pointer (some ⟨b, 2, none⟩), .pointer (some ⟨b, 3, none⟩), .pointer (some ⟨b, 4, none⟩), .pointer (some ⟨b, 5, none⟩)]) ∧ SL w' L :=
 (e_fields b w).mono fun _ _ q => ⟨q.1, H.later q.2⟩
def okAt (e : Ev) (s : Shp) (ok : Bool) (k : Nat) : Bool :=
 ok && (decide (k < 2) || inn s.c0 s.c1 e.chan) && (decide (k < 3) || inn s.k0 s.k1 e.case_) && (decide (k < 4) || inn s.v0 s.v1 e.value) && (decide (k < 5) || inn s.m0 s.m1 e.mate)
set_option maxRecDepth 100000 in
set_option maxHeartbeats 2000000 in
theorem e_check_ok (e : Ev) (w : World) (hs : Spans w) (h1 : ¬ e.kind < 1) (h2 : ¬ 13 < e.kind) : Calls Tryz.prog 147 #[e.agg] w fun o w' => o = .returned (.int .i64 (entF e)) ∧ Frm Nil w w' := by
 have ko := fun (w' : World) (f : Frm Nil w w') => e_of e.kind w' (hs.later f)
 have kd := fun (w' : World) (L : List Piece) (H : SL w' L) => sl_odd H e
 have H := SL.start w
 obtain ⟨kind, g, chan, case_, value, mate, send, ok⟩ := e
 obtain ⟨S, hS⟩ : ∃ S, shapeF kind = S := ⟨_, rfl⟩
 obtain ⟨D, hD⟩ : ∃ D, oddF ⟨kind, g, chan, case_, value, mate, send, ok⟩ = D := ⟨_, rfl⟩
 obtain ⟨R, hR⟩ : ∃ R, entF ⟨kind, g, chan, case_, value, mate, send, ok⟩ = R := ⟨_, rfl⟩
 unfold Ev.agg at kd ⊢
 unfold Shp.agg at ko
 dsimp only at h1 h2 ko kd ⊢
 rw [hS] at ko
 rw [hD] at kd
 rw [hR]
 have HR : R = if okAt ⟨kind, g, chan, case_, value, mate, send, ok⟩ S ((((if kind = 13 then inn (-1) (-1) g else inn 0 511 g) && (S.send || !send)) && (S.ok || !ok)) && !D) 5 = true then 0 else 4 := by
  rw [← hR]
  unfold entF okAt
  dsimp only
  rw [if_neg (by omega), hS, hD]
  simp
 obtain ⟨I, hI⟩ : ∃ I, (if kind = 13 then inn (-1) (-1) g else inn 0 511 g) = I := ⟨_, rfl⟩
 rw [hI] at HR
 have HQ := Lib.hid HR
 clear hR hS hD
 obtain ⟨s0, s1, s2, s3, s4, s5, s6, s7, ss, so⟩ := S
 dsimp only at ko HQ
 have KO := Lib.hid ko
 have KD := Lib.hid kd
 clear ko kd
 go_enter Tryz.func147, Tryz.ntmps147
 go_wp2_with fail
 refine (KO.out _ ((Frm.refl _ _).alloc _)).mono ?_
 rintro o w1 ⟨rfl, f1⟩
 have H1 := (H.alloc (.cells #[.int .i64 kind, .int .i64 g, .int .i64 chan, .int .i64 case_, .int .i64 value, .int .i64 mate, .bool send, .bool ok] 53)).later f1
 have hs1 := hs.later (((Frm.refl Nil w).alloc _).then f1)
 obtain ⟨ga0, ga1, gb0, gb1, gc0, gc1, glt⟩ := hs1
 have gl0 : 0 < w1.heap.size := by omega
 have gl1 : 1 < w1.heap.size := by omega
 obtain ⟨be, hbe⟩ : ∃ b, w.heap.size = b := ⟨_, rfl⟩
 rw [hbe] at H1
 simp only [hbe]
 clear hbe f1
 obtain ⟨d0, d1, d2, d3, d4, d5, d6, d7, df⟩ := box8 (H1.at 0 rfl)
 have dl := lt_of_block (H1.at 0 rfl)
 have KF := Lib.hid (fun (w' : World) (L : List Piece) (H : SL w' L) => sl_fields H be)
 have KI := Lib.hid (fun (w' : World) (L : List Piece) (H : SL w' L) (a b n : Int) => sl_in H a b n)
 rcases Decidable.em (kind = 13) with h13 | h13
 case' inl =>
  have K1 : ∀ (w' : World) (L : List Piece), SL w' L → Calls Tryz.prog 165 #[.agg #[.int .i64 (-1), .int .i64 (-1)], .int .i64 g] w' fun e w'' => e = .returned (.bool I) ∧ SL w'' L := by
   intro w' L H
   rw [← hI, if_pos h13]
   exact sl_in H _ _ _
  have e13 : (kind == 13) = true := beq_iff_eq.2 h13
  have HK1 := Lib.hid K1
  clear K1 hI h13
  go_upto_region 7 with (fail)
 case' inr =>
  have K1 : ∀ (w' : World) (L : List Piece), SL w' L → Calls Tryz.prog 165 #[.agg #[.int .i64 0, .int .i64 511], .int .i64 g] w' fun e w'' => e = .returned (.bool I) ∧ SL w'' L := by
   intro w' L H
   rw [← hI, if_neg h13]
   exact sl_in H _ _ _
  have e13 : (kind == 13) = false := beq_eq_false_iff_ne.2 h13
  have HK1 := Lib.hid K1
  clear K1 hI
  go_upto_region 7 with (fail)
 all_goals
  clear HR
  go_cut [5] (fun q5 wx => q5 = .bool (I && (ss || !send) && (so || !ok) && !D) ∧ SL wx [row w1.heap.size #[.int .i64 s0, .int .i64 s1, .int .i64 s2, .int .i64 s3, .int .i64 s4, .int .i64 s5, .int .i64 s6, .int .i64 s7, .bool ss, .bool so] 231, row be #[.int .i64 kind, .int .i64 g, .int .i64 chan, .int .i64 case_, .int .i64 value, .int .i64 mate, .bool send, .bool ok] 53, Old w])
  case first =>
   have H2 := (H1.alloc (.cells #[.int .i64 s0, .int .i64 s1, .int .i64 s2, .int .i64 s3, .int .i64 s4, .int .i64 s5, .int .i64 s6, .int .i64 s7, .bool ss, .bool so] 231))
   go_wp2_with fail
   refine (HK1.out _ _ (H2.allocd _)).mono ?_
   rintro o w2 ⟨rfl, H3⟩
   obtain ⟨a0, a1, a2, a3, a4, a5, a6, a7, a8, a9, af⟩ := box10 (H3.at 0 rfl)
   have al := lt_of_block (H3.at 0 rfl)
   obtain ⟨d0, d1, d2, d3, d4, d5, d6, d7, df⟩ := box8 (H3.at 1 rfl)
   have dl := lt_of_block (H3.at 1 rfl)
   cases I
   ·go_wp2_with fail
    go_meet
    exact ⟨rfl, H3⟩
   ·cases ss <;> cases send <;> cases so <;> cases ok
    all_goals
     go_wp2_with ((with_reducible refine (KD.out _ _ H3).mono ?_); rintro o w3 ⟨rfl, H4⟩)
     go_meet
     first | exact ⟨rfl, H4⟩ | exact ⟨rfl, H3⟩
  case rest =>
   obtain ⟨rfl, H2⟩ := hcut
   go_wp2_with fail
   refine (KF.out _ _ H2).mono ?_
   rintro o w2 ⟨rfl, H3⟩
   obtain ⟨O, hO⟩ : ∃ O, (I && (ss || !send) && (so || !ok) && !D) = O := ⟨_, rfl⟩
   have HQ' := HQ.out
   rw [hO] at HQ'
   have HP := Lib.hid HQ'
   simp only [hO]
   clear HQ' HQ hO
   obtain ⟨bs, hbs⟩ : ∃ b, w1.heap.size = b := ⟨_, rfl⟩
   rw [hbs] at H3
   simp only [hbs]
   clear hbs
   go_wp2_with fail
   go_loopw [5, 52] (fun q5 i wr => ∃ k : Nat, k ≤ 5 ∧ i = .int .i64 k ∧ q5 = .bool (okAt ⟨kind, g, chan, case_, value, mate, send, ok⟩ ⟨s0, s1, s2, s3, s4, s5, s6, s7, ss, so⟩ O k) ∧ SL wr [row bs #[.int .i64 s0, .int .i64 s1, .int .i64 s2, .int .i64 s3, .int .i64 s4, .int .i64 s5, .int .i64 s6, .int .i64 s7, .bool ss, .bool so] 231, row be #[.int .i64 kind, .int .i64 g, .int .i64 chan, .int .i64 case_, .int .i64 value, .int .i64 mate, .bool send, .bool ok] 53, Old w]) (fun _ i _ => 5 - (intOf i).toNat)
   case atStart => exact ⟨0, by omega, rfl, by simp [okAt], H3⟩
   case round =>
    obtain ⟨k, hk, rfl, rfl, H4⟩ := hrel
    obtain ⟨a0, a1, a2, a3, a4, a5, a6, a7, a8, a9, af⟩ := box10 (H4.at 0 rfl)
    have al := lt_of_block (H4.at 0 rfl)
    obtain ⟨d0, d1, d2, d3, d4, d5, d6, d7, df⟩ := box8 (H4.at 1 rfl)
    have dl := lt_of_block (H4.at 1 rfl)
    have hk' : k = 0 ∨ k = 1 ∨ k = 2 ∨ k = 3 ∨ k = 4 ∨ k = 5 := by omega
    rcases hk' with rfl | rfl | rfl | rfl | rfl | rfl
    ·have ix : ∀ w, (Instr.index 233 (.agg #[.pointer (some ⟨be, 1, none⟩), .pointer (some ⟨be, 2, none⟩), .pointer (some ⟨be, 3, none⟩), .pointer (some ⟨be, 4, none⟩), .pointer (some ⟨be, 5, none⟩)]) (.int .i64 0)).run Tryz.prog w = .ok (.pointer (some ⟨be, 1, none⟩)) w := fun _ => by kernel_rfl
     obtain ⟨B, hB⟩ : ∃ B, okAt ⟨kind, g, chan, case_, value, mate, send, ok⟩ ⟨s0, s1, s2, s3, s4, s5, s6, s7, ss, so⟩ O 0 = B := ⟨_, rfl⟩
     have hB1 : okAt ⟨kind, g, chan, case_, value, mate, send, ok⟩ ⟨s0, s1, s2, s3, s4, s5, s6, s7, ss, so⟩ O 1 = B := by rw [← hB]; simp [okAt]
     rw [hB]
     have HB := Lib.hid hB1
     clear hB hB1
     cases B
     ·go_wp2_with fail
      go_region
      go_wp2_with fail
      go_roundw
      case rel => exact ⟨1, by omega, by go_num, by rw [HB.out], H4.drew⟩
      case measure => simp [intOf] <;> omega
     ·go_wp2_with fail
      go_region
      go_wp2_with fail
      go_roundw
      case rel => exact ⟨1, by omega, by go_num, by rw [HB.out], H4.drew⟩
      case measure => simp [intOf] <;> omega
    ·have ix : ∀ w, (Instr.index 233 (.agg #[.pointer (some ⟨be, 1, none⟩), .pointer (some ⟨be, 2, none⟩), .pointer (some ⟨be, 3, none⟩), .pointer (some ⟨be, 4, none⟩), .pointer (some ⟨be, 5, none⟩)]) (.int .i64 1)).run Tryz.prog w = .ok (.pointer (some ⟨be, 2, none⟩)) w := fun _ => by kernel_rfl
     have hw : IntKind.i64.wrap (1 - 1) = 0 := by rfl
     have hw0 : IntKind.i64.wrap 0 = 0 := by rfl
     obtain ⟨B, hB⟩ : ∃ B, okAt ⟨kind, g, chan, case_, value, mate, send, ok⟩ ⟨s0, s1, s2, s3, s4, s5, s6, s7, ss, so⟩ O 1 = B := ⟨_, rfl⟩
     have hB1 : okAt ⟨kind, g, chan, case_, value, mate, send, ok⟩ ⟨s0, s1, s2, s3, s4, s5, s6, s7, ss, so⟩ O 2 = (B && inn s0 s1 chan) := by rw [← hB]; simp [okAt]
     rw [hB]
     have HB := Lib.hid hB1
     clear hB hB1
     cases B
     ·go_wp2_with fail
      go_region
      go_wp2_with fail
      go_roundw
      case rel => exact ⟨2, by omega, by go_num, by rw [HB.out]; rfl, H4.drew⟩
      case measure => simp [intOf] <;> omega
     ·go_wp2_with fail
      go_region_held3 (fun w' => w'.cell? ⟨bs, 0, none⟩ = some (.int .i64 s0) ∧ w'.cell? ⟨bs, 1, none⟩ = some (.int .i64 s1) ∧ w'.cell? ⟨be, 2, none⟩ = some (.int .i64 chan)) (first | go_keep | (go_split_ands; refine ⟨?_, ?_, ?_⟩ <;> assumption)) ((go_at_call 165; (with_reducible refine (KI.out _ _ H4.drew _ _ _).mono ?_); rintro o w3 ⟨rfl, H5⟩; obtain ⟨x0, x1, x2, x3, x4, x5, x6, x7, x8, x9, xf⟩ := box10 (H5.at 0 rfl); obtain ⟨y0, y1, y2, y3, y4, y5, y6, y7, yf⟩ := box8 (H5.at 1 rfl)))
      go_wp2_with fail
      go_roundw
      case rel => exact ⟨2, by omega, by go_num, by rw [HB.out, Bool.true_and], H5⟩
      case measure => simp [intOf] <;> omega
    ·have ix : ∀ w, (Instr.index 233 (.agg #[.pointer (some ⟨be, 1, none⟩), .pointer (some ⟨be, 2, none⟩), .pointer (some ⟨be, 3, none⟩), .pointer (some ⟨be, 4, none⟩), .pointer (some ⟨be, 5, none⟩)]) (.int .i64 2)).run Tryz.prog w = .ok (.pointer (some ⟨be, 3, none⟩)) w := fun _ => by kernel_rfl
     have hw : IntKind.i64.wrap (2 - 1) = 1 := by rfl
     have hw0 : IntKind.i64.wrap 1 = 1 := by rfl
     obtain ⟨B, hB⟩ : ∃ B, okAt ⟨kind, g, chan, case_, value, mate, send, ok⟩ ⟨s0, s1, s2, s3, s4, s5, s6, s7, ss, so⟩ O 2 = B := ⟨_, rfl⟩
     have hB1 : okAt ⟨kind, g, chan, case_, value, mate, send, ok⟩ ⟨s0, s1, s2, s3, s4, s5, s6, s7, ss, so⟩ O 3 = (B && inn s2 s3 case_) := by rw [← hB]; simp [okAt]
     rw [hB]
     have HB := Lib.hid hB1
     clear hB hB1
     cases B
     ·go_wp2_with fail
      go_region
      go_wp2_with fail
      go_roundw
      case rel => exact ⟨3, by omega, by go_num, by rw [HB.out]; rfl, H4.drew⟩
      case measure => simp [intOf] <;> omega
     ·go_wp2_with fail
      go_region_held3 (fun w' => w'.cell? ⟨bs, 2, none⟩ = some (.int .i64 s2) ∧ w'.cell? ⟨bs, 3, none⟩ = some (.int .i64 s3) ∧ w'.cell? ⟨be, 3, none⟩ = some (.int .i64 case_)) (first | go_keep | (go_split_ands; refine ⟨?_, ?_, ?_⟩ <;> assumption)) ((go_at_call 165; (with_reducible refine (KI.out _ _ H4.drew _ _ _).mono ?_); rintro o w3 ⟨rfl, H5⟩; obtain ⟨x0, x1, x2, x3, x4, x5, x6, x7, x8, x9, xf⟩ := box10 (H5.at 0 rfl); obtain ⟨y0, y1, y2, y3, y4, y5, y6, y7, yf⟩ := box8 (H5.at 1 rfl)))
      go_wp2_with fail
      go_roundw
      case rel => exact ⟨3, by omega, by go_num, by rw [HB.out, Bool.true_and], H5⟩
      case measure => simp [intOf] <;> omega
    ·have ix : ∀ w, (Instr.index 233 (.agg #[.pointer (some ⟨be, 1, none⟩), .pointer (some ⟨be, 2, none⟩), .pointer (some ⟨be, 3, none⟩), .pointer (some ⟨be, 4, none⟩), .pointer (some ⟨be, 5, none⟩)]) (.int .i64 3)).run Tryz.prog w = .ok (.pointer (some ⟨be, 4, none⟩)) w := fun _ => by kernel_rfl
     have hw : IntKind.i64.wrap (3 - 1) = 2 := by rfl
     have hw0 : IntKind.i64.wrap 2 = 2 := by rfl
     obtain ⟨B, hB⟩ : ∃ B, okAt ⟨kind, g, chan, case_, value, mate, send, ok⟩ ⟨s0, s1, s2, s3, s4, s5, s6, s7, ss, so⟩ O 3 = B := ⟨_, rfl⟩
     have hB1 : okAt ⟨kind, g, chan, case_, value, mate, send, ok⟩ ⟨s0, s1, s2, s3, s4, s5, s6, s7, ss, so⟩ O 4 = (B && inn s4 s5 value) := by rw [← hB]; simp [okAt]
     rw [hB]
     have HB := Lib.hid hB1
     clear hB hB1
     cases B
     ·go_wp2_with fail
      go_region
      go_wp2_with fail
      go_roundw
      case rel => exact ⟨4, by omega, by go_num, by rw [HB.out]; rfl, H4.drew⟩
      case measure => simp [intOf] <;> omega
     ·go_wp2_with fail
      go_region_held3 (fun w' => w'.cell? ⟨bs, 4, none⟩ = some (.int .i64 s4) ∧ w'.cell? ⟨bs, 5, none⟩ = some (.int .i64 s5) ∧ w'.cell? ⟨be, 4, none⟩ = some (.int .i64 value)) (first | go_keep | (go_split_ands; refine ⟨?_, ?_, ?_⟩ <;> assumption)) ((go_at_call 165; (with_reducible refine (KI.out _ _ H4.drew _ _ _).mono ?_); rintro o w3 ⟨rfl, H5⟩; obtain ⟨x0, x1, x2, x3, x4, x5, x6, x7, x8, x9, xf⟩ := box10 (H5.at 0 rfl); obtain ⟨y0, y1, y2, y3, y4, y5, y6, y7, yf⟩ := box8 (H5.at 1 rfl)))
      go_wp2_with fail
      go_roundw
      case rel => exact ⟨4, by omega, by go_num, by rw [HB.out, Bool.true_and], H5⟩
      case measure => simp [intOf] <;> omega
    ·have ix : ∀ w, (Instr.index 233 (.agg #[.pointer (some ⟨be, 1, none⟩), .pointer (some ⟨be, 2, none⟩), .pointer (some ⟨be, 3, none⟩), .pointer (some ⟨be, 4, none⟩), .pointer (some ⟨be, 5, none⟩)]) (.int .i64 4)).run Tryz.prog w = .ok (.pointer (some ⟨be, 5, none⟩)) w := fun _ => by kernel_rfl
     have hw : IntKind.i64.wrap (4 - 1) = 3 := by rfl
     have hw0 : IntKind.i64.wrap 3 = 3 := by rfl
     obtain ⟨B, hB⟩ : ∃ B, okAt ⟨kind, g, chan, case_, value, mate, send, ok⟩ ⟨s0, s1, s2, s3, s4, s5, s6, s7, ss, so⟩ O 4 = B := ⟨_, rfl⟩
     have hB1 : okAt ⟨kind, g, chan, case_, value, mate, send, ok⟩ ⟨s0, s1, s2, s3, s4, s5, s6, s7, ss, so⟩ O 5 = (B && inn s6 s7 mate) := by rw [← hB]; simp [okAt]
     rw [hB]
     have HB := Lib.hid hB1
     clear hB hB1
     cases B
     ·go_wp2_with fail
      go_region
      go_wp2_with fail
      go_roundw
      case rel => exact ⟨5, by omega, by go_num, by rw [HB.out]; rfl, H4.drew⟩
      case measure => simp [intOf] <;> omega
     ·go_wp2_with fail
      go_region_held3 (fun w' => w'.cell? ⟨bs, 6, none⟩ = some (.int .i64 s6) ∧ w'.cell? ⟨bs, 7, none⟩ = some (.int .i64 s7) ∧ w'.cell? ⟨be, 5, none⟩ = some (.int .i64 mate)) (first | go_keep | (go_split_ands; refine ⟨?_, ?_, ?_⟩ <;> assumption)) ((go_at_call 165; (with_reducible refine (KI.out _ _ H4.drew _ _ _).mono ?_); rintro o w3 ⟨rfl, H5⟩; obtain ⟨x0, x1, x2, x3, x4, x5, x6, x7, x8, x9, xf⟩ := box10 (H5.at 0 rfl); obtain ⟨y0, y1, y2, y3, y4, y5, y6, y7, yf⟩ := box8 (H5.at 1 rfl)))
      go_wp2_with fail
      go_roundw
      case rel => exact ⟨5, by omega, by go_num, by rw [HB.out, Bool.true_and], H5⟩
      case measure => simp [intOf] <;> omega
    ·obtain ⟨B, hB⟩ : ∃ B, okAt ⟨kind, g, chan, case_, value, mate, send, ok⟩ ⟨s0, s1, s2, s3, s4, s5, s6, s7, ss, so⟩ O 5 = B := ⟨_, rfl⟩
     have HQ' := HP.out
     rw [hB] at HQ' ⊢
     have HB := Lib.hid HQ'
     clear hB HQ'
     cases B
     all_goals
      go_wp2_with fail
      go_ret
      exact ⟨by rw [HB.out]; rfl, SL.old H4.tl.tl⟩
theorem e_check (e : Ev) (w : World) (hs : Spans w) : Calls Tryz.prog 147 #[e.agg] w fun o w' => o = .returned (.int .i64 (entF e)) ∧ Frm Nil w w' := by
 by_cases h : e.kind < 1 ∨ 13 < e.kind
 ·have : entF e = 1 := by unfold entF; rw [if_pos h]
  rw [this]
  exact e_check_bad e w h
 ·exact e_check_ok e w hs (by omega) (by omega)
end Go.Proofs.YtoamjodmidbmbaaGreatDoor
namespace Go.Proofs.YtoamjodmidbmbaaGreatDoor
open Go.RowKit
set_option maxRecDepth 100000
def SpansA (A : Piece) : Prop := ∀ w, SL w [A] → Spans w
theorem g_right {w : World} {L : List Piece} {A : Piece} (hG : SpansA A) (H : SL w L) (i : Nat) (hi : L[i]? = some A) (e : Ev) : Calls Tryz.prog 146 #[e.agg] w fun o w' => o = .returned (.bool (entF e == 0)) ∧ SL w' L := by
 obtain ⟨kind, g, chan, case_, value, mate, send, ok⟩ := e
 refine calls_d (args := [_]) Tryz.func146 rfl ?_
 refine ⟨Nw.as #[.int .i64 kind, .int .i64 g, .int .i64 chan, .int .i64 case_, .int .i64 value, .int .i64 mate, .bool send, .bool ok] 53 rfl H fun b1 w H => ?_⟩
 refine ⟨H.ldi 0 rfl (v := .int .i64 kind) rfl ?_⟩
 refine H.ldi 0 rfl (v := .int .i64 g) rfl (H.ldi 0 rfl (v := .int .i64 chan) rfl (H.ldi 0 rfl (v := .int .i64 case_) rfl (H.ldi 0 rfl (v := .int .i64 value) rfl (H.ldi 0 rfl (v := .int .i64 mate) rfl (H.ldi 0 rfl (v := .bool send) rfl (H.ldi 0 rfl (v := .bool ok) rfl (Cl.s ((e_check ⟨kind, g, chan, case_, value, mate, send, ok⟩ _ (hG _ (SL.one H.tl i hi))).mono fun _ _ q => ⟨q.1, H.later q.2⟩) fun w H => ?_)))))))
 refine BB.k (ret1 (.bool ((entF ⟨kind, g, chan, case_, value, mate, send, ok⟩) == 0)) rfl (by rfl) ?_)
 exact ⟨rfl, H.tl⟩
theorem run_hit {prev : Option Ev} {next : Option Int} {e : Ev} {k i : Nat} {z : RdrM} (h : (ruleF prev next e i z).1 = false) : runF prev next e (k + 1) i z = ((i : Int) + 1, (ruleF prev next e i z).2) := by
 rw [runF, if_pos h]
theorem run_go {prev : Option Ev} {next : Option Int} {e : Ev} {k i : Nat} {z : RdrM} (h : (ruleF prev next e i z).1 = true) : runF prev next e (k + 1) i z = runF prev next e k (i + 1) (ruleF prev next e i z).2 := by
 rw [runF, if_neg (by rw [h]; simp)]
set_option maxHeartbeats 2000000 in
theorem g_broken {w : World} {F : List Piece} {A : Piece} {rb lb lo lc n i : Nat} {l : List Ev} {r : RdrM} (hA : EvA A lb lo l) (hG : SpansA A) (hi : i < l.length) (hll : l.length ≤ 100000) (hs : Sized n r) (hn : n < 900000) (e : Ev) (H : SL w (RdrP rb (.slice (some ⟨lb, lo, none⟩) l.length lc) (i : Int) r :: A :: F)) :
  Calls Tryz.prog 111 #[.pointer (some ⟨rb, 0, none⟩), e.agg] w fun o w' => o = .returned (.int .i64 (stepG r (prevF l i) (nextF l i) e).1) ∧ SL w' (RdrP rb (.slice (some ⟨lb, lo, none⟩) l.length lc) (i : Int) (stepG r (prevF l i) (nextF l i) e).2 :: A :: F) := by
 obtain ⟨kind, g, chan, case_, value, mate, send, ok⟩ := e
 refine calls_d (args := [_, _]) Tryz.func111 rfl ?_
 refine ⟨Nw.as #[.int .i64 kind, .int .i64 g, .int .i64 chan, .int .i64 case_, .int .i64 value, .int .i64 mate, .bool send, .bool ok] 53 rfl H fun b3 w H => ?_⟩
 refine ⟨⟨Mn.pure (.func (.func 148) #[.pointer (some ⟨rb, 0, none⟩)] #[]) (by kernel_rfl) ?_⟩⟩
 refine Mn.pure (.func (.func 149) #[.pointer (some ⟨rb, 0, none⟩)] #[]) (by kernel_rfl) ?_
 refine Mn.pure (.func (.func 150) #[.pointer (some ⟨rb, 0, none⟩)] #[]) (by kernel_rfl) ?_
 refine Mn.pure (.func (.func 151) #[.pointer (some ⟨rb, 0, none⟩)] #[]) (by kernel_rfl) ?_
 refine Mn.pure (.func (.func 152) #[.pointer (some ⟨rb, 0, none⟩)] #[]) (by kernel_rfl) ?_
 refine Mn.pure (.agg #[.func (.func 146) #[] #[], .func (.func 148) #[.pointer (some ⟨rb, 0, none⟩)] #[], .func (.func 149) #[.pointer (some ⟨rb, 0, none⟩)] #[], .func (.func 150) #[.pointer (some ⟨rb, 0, none⟩)] #[], .func (.func 151) #[.pointer (some ⟨rb, 0, none⟩)] #[], .func (.func 152) #[.pointer (some ⟨rb, 0, none⟩)] #[]]) (by kernel_rfl) ?_
 refine ⟨den.loop (ι := Nat × RdrM) [(4, 4), (6, 7), (20, 30)] (by kernel_rfl) (fun (j, z) => [(20, .int .i64 ↑j)]) (fun (j, z) w => (j ≤ 6 ∧ runF (prevF l i) (nextF l i) ⟨kind, g, chan, case_, value, mate, send, ok⟩ (6 - j) j z = stepG r (prevF l i) (nextF l i) ⟨kind, g, chan, case_, value, mate, send, ok⟩ ∧ Sized (n + j) z ∧ (0 < j → EvB ⟨kind, g, chan, case_, value, mate, send, ok⟩)) ∧ SL w (row b3 #[.int .i64 kind, .int .i64 g, .int .i64 chan, .int .i64 case_, .int .i64 value, .int .i64 mate, .bool send, .bool ok] 53 :: RdrP rb (.slice (some ⟨lb, lo, none⟩) l.length lc) ↑i z :: A :: F)) (fun (j, z) => 6 - j) (0, r) ⟨rfl, trivial⟩ ⟨⟨Nat.zero_le _, (stepG_run _ _ _ _).symm, hs, fun h => absurd h (Nat.lt_irrefl _)⟩, H⟩ ?_⟩
 rintro ⟨j, z⟩ s w ⟨hc, H⟩
 obtain ⟨hj, hrun, hsz, hB⟩ := hc
 obtain rfl | rfl | rfl | rfl | rfl | rfl | rfl : j = 0 ∨ j = 1 ∨ j = 2 ∨ j = 3 ∨ j = 4 ∨ j = 5 ∨ j = 6 := by omega
 ·refine ⟨BB.yes rfl ?_⟩
  refine Cn.yes (⟨⟨Mn.pure (.func (.func 146) #[] #[]) (by kernel_rfl) ?_⟩⟩)
  refine ⟨H.ldi 0 rfl (v := .int .i64 kind) rfl ?_⟩
  refine H.ldi 0 rfl (v := .int .i64 g) rfl (H.ldi 0 rfl (v := .int .i64 chan) rfl (H.ldi 0 rfl (v := .int .i64 case_) rfl (H.ldi 0 rfl (v := .int .i64 value) rfl (H.ldi 0 rfl (v := .int .i64 mate) rfl (H.ldi 0 rfl (v := .bool send) rfl (H.ldi 0 rfl (v := .bool ok) rfl (Cl.s (g_right hG H 2 rfl ⟨kind, g, chan, case_, value, mate, send, ok⟩) fun w H => ?_)))))))
  refine BB.vr fun q1 e1 => ?_
  cases q1
  ·refine BB.yes rfl (Cn.yes (⟨IW.by (m := 1) rfl ?_⟩))
   refine ret1 (.int .i64 1) rfl (by rfl) ?_
   have hc : stepG r (prevF l i) (nextF l i) ⟨kind, g, chan, case_, value, mate, send, ok⟩ = (1, z) := by rw [← hrun]; exact run_hit (prev := prevF l i) (next := nextF l i) (e := ⟨kind, g, chan, case_, value, mate, send, ok⟩) (i := 0) (z := z) (k := 5) e1
   rw [hc]
   exact ⟨rfl, H.tl⟩
  refine BB.no rfl (Cn.no (⟨IW.by (m := 1) rfl ?_⟩))
  exact ⟨(1, z), ⟨rfl, trivial⟩, ⟨⟨by omega, by rw [← hrun]; exact (run_go (prev := prevF l i) (next := nextF l i) (e := ⟨kind, g, chan, case_, value, mate, send, ok⟩) (k := 5) (i := 0) (z := z) e1).symm, sized_rule hsz (prevF l i) (nextF l i) ⟨kind, g, chan, case_, value, mate, send, ok⟩ 0, fun _ => evB_of (eq_of_beq e1)⟩, H⟩, (show 6 - 1 < 6 - 0 by decide)⟩
 ·refine ⟨BB.yes rfl ?_⟩
  refine Cn.yes (⟨⟨Mn.pure (.func (.func 148) #[.pointer (some ⟨rb, 0, none⟩)] #[]) (by kernel_rfl) ?_⟩⟩)
  refine ⟨H.ldi 0 rfl (v := .int .i64 kind) rfl ?_⟩
  refine H.ldi 0 rfl (v := .int .i64 g) rfl (H.ldi 0 rfl (v := .int .i64 chan) rfl (H.ldi 0 rfl (v := .int .i64 case_) rfl (H.ldi 0 rfl (v := .int .i64 value) rfl (H.ldi 0 rfl (v := .int .i64 mate) rfl (H.ldi 0 rfl (v := .bool send) rfl (H.ldi 0 rfl (v := .bool ok) rfl (Cl.s (g_crewed (hB Nat.zero_lt_one) hsz (by omega) (e := ⟨kind, g, chan, case_, value, mate, send, ok⟩) H.up1) fun w H => ?_)))))))
  replace H := H.up1
  refine BB.vr fun q2 e2 => ?_
  cases q2
  ·refine BB.yes rfl (Cn.yes (⟨IW.by (m := 2) rfl ?_⟩))
   refine ret1 (.int .i64 2) rfl (by rfl) ?_
   have hc : stepG r (prevF l i) (nextF l i) ⟨kind, g, chan, case_, value, mate, send, ok⟩ = (2, (crewedF z ⟨kind, g, chan, case_, value, mate, send, ok⟩).2) := by rw [← hrun]; exact run_hit (prev := prevF l i) (next := nextF l i) (e := ⟨kind, g, chan, case_, value, mate, send, ok⟩) (i := 1) (z := z) (k := 4) e2
   rw [hc]
   exact ⟨rfl, H.tl⟩
  refine BB.no rfl (Cn.no (⟨IW.by (m := 2) rfl ?_⟩))
  exact ⟨(2, (crewedF z ⟨kind, g, chan, case_, value, mate, send, ok⟩).2), ⟨rfl, trivial⟩, ⟨⟨by omega, by rw [← hrun]; exact (run_go (prev := prevF l i) (next := nextF l i) (e := ⟨kind, g, chan, case_, value, mate, send, ok⟩) (k := 4) (i := 1) (z := z) e2).symm, sized_rule hsz (prevF l i) (nextF l i) ⟨kind, g, chan, case_, value, mate, send, ok⟩ 1, fun _ => hB (by decide)⟩, H⟩, (show 6 - 2 < 6 - 1 by decide)⟩
 ·refine ⟨BB.yes rfl ?_⟩
  refine Cn.yes (⟨⟨Mn.pure (.func (.func 149) #[.pointer (some ⟨rb, 0, none⟩)] #[]) (by kernel_rfl) ?_⟩⟩)
  refine ⟨H.ldi 0 rfl (v := .int .i64 kind) rfl ?_⟩
  refine H.ldi 0 rfl (v := .int .i64 g) rfl (H.ldi 0 rfl (v := .int .i64 chan) rfl (H.ldi 0 rfl (v := .int .i64 case_) rfl (H.ldi 0 rfl (v := .int .i64 value) rfl (H.ldi 0 rfl (v := .int .i64 mate) rfl (H.ldi 0 rfl (v := .bool send) rfl (H.ldi 0 rfl (v := .bool ok) rfl (Cl.s (g_made (hB (by decide)) hsz (by omega) (e := ⟨kind, g, chan, case_, value, mate, send, ok⟩) H.up1) fun w H => ?_)))))))
  replace H := H.up1
  refine BB.vr fun q3 e3 => ?_
  cases q3
  ·refine BB.yes rfl (Cn.yes (⟨IW.by (m := 3) rfl ?_⟩))
   refine ret1 (.int .i64 3) rfl (by rfl) ?_
   have hc : stepG r (prevF l i) (nextF l i) ⟨kind, g, chan, case_, value, mate, send, ok⟩ = (3, (madeF z ⟨kind, g, chan, case_, value, mate, send, ok⟩).2) := by rw [← hrun]; exact run_hit (prev := prevF l i) (next := nextF l i) (e := ⟨kind, g, chan, case_, value, mate, send, ok⟩) (i := 2) (z := z) (k := 3) e3
   rw [hc]
   exact ⟨rfl, H.tl⟩
  refine BB.no rfl (Cn.no (⟨IW.by (m := 3) rfl ?_⟩))
  exact ⟨(3, (madeF z ⟨kind, g, chan, case_, value, mate, send, ok⟩).2), ⟨rfl, trivial⟩, ⟨⟨by omega, by rw [← hrun]; exact (run_go (prev := prevF l i) (next := nextF l i) (e := ⟨kind, g, chan, case_, value, mate, send, ok⟩) (k := 3) (i := 2) (z := z) e3).symm, sized_rule hsz (prevF l i) (nextF l i) ⟨kind, g, chan, case_, value, mate, send, ok⟩ 2, fun _ => hB (by decide)⟩, H⟩, (show 6 - 3 < 6 - 2 by decide)⟩
 ·refine ⟨BB.yes rfl ?_⟩
  refine Cn.yes (⟨⟨Mn.pure (.func (.func 150) #[.pointer (some ⟨rb, 0, none⟩)] #[]) (by kernel_rfl) ?_⟩⟩)
  refine ⟨H.ldi 0 rfl (v := .int .i64 kind) rfl ?_⟩
  refine H.ldi 0 rfl (v := .int .i64 g) rfl (H.ldi 0 rfl (v := .int .i64 chan) rfl (H.ldi 0 rfl (v := .int .i64 case_) rfl (H.ldi 0 rfl (v := .int .i64 value) rfl (H.ldi 0 rfl (v := .int .i64 mate) rfl (H.ldi 0 rfl (v := .bool send) rfl (H.ldi 0 rfl (v := .bool ok) rfl ?_))))))
  have H2 := H.pi [1, 2, 0] 3
  simp only [pl, nth, drL] at H2
  refine Cl.s (g_served (n := 0) hA rfl hi hll (e := ⟨kind, g, chan, case_, value, mate, send, ok⟩) H2) fun w H => ?_
  replace H := H.pi [2, 0, 1] 3
  simp only [pl, nth, drL] at H
  refine BB.vr fun q4 e4 => ?_
  cases q4
  ·refine BB.yes rfl (Cn.yes (⟨IW.by (m := 4) rfl ?_⟩))
   refine ret1 (.int .i64 4) rfl (by rfl) ?_
   have hc : stepG r (prevF l i) (nextF l i) ⟨kind, g, chan, case_, value, mate, send, ok⟩ = (4, (servedF z (prevF l i) ⟨kind, g, chan, case_, value, mate, send, ok⟩).2) := by rw [← hrun]; exact run_hit (prev := prevF l i) (next := nextF l i) (e := ⟨kind, g, chan, case_, value, mate, send, ok⟩) (i := 3) (z := z) (k := 2) e4
   rw [hc]
   exact ⟨rfl, H.tl⟩
  refine BB.no rfl (Cn.no (⟨IW.by (m := 4) rfl ?_⟩))
  exact ⟨(4, (servedF z (prevF l i) ⟨kind, g, chan, case_, value, mate, send, ok⟩).2), ⟨rfl, trivial⟩, ⟨⟨by omega, by rw [← hrun]; exact (run_go (prev := prevF l i) (next := nextF l i) (e := ⟨kind, g, chan, case_, value, mate, send, ok⟩) (k := 2) (i := 3) (z := z) e4).symm, sized_rule hsz (prevF l i) (nextF l i) ⟨kind, g, chan, case_, value, mate, send, ok⟩ 3, fun _ => hB (by decide)⟩, H⟩, (show 6 - 4 < 6 - 3 by decide)⟩
 ·refine ⟨BB.yes rfl ?_⟩
  refine Cn.yes (⟨⟨Mn.pure (.func (.func 151) #[.pointer (some ⟨rb, 0, none⟩)] #[]) (by kernel_rfl) ?_⟩⟩)
  refine ⟨H.ldi 0 rfl (v := .int .i64 kind) rfl ?_⟩
  refine H.ldi 0 rfl (v := .int .i64 g) rfl (H.ldi 0 rfl (v := .int .i64 chan) rfl (H.ldi 0 rfl (v := .int .i64 case_) rfl (H.ldi 0 rfl (v := .int .i64 value) rfl (H.ldi 0 rfl (v := .int .i64 mate) rfl (H.ldi 0 rfl (v := .bool send) rfl (H.ldi 0 rfl (v := .bool ok) rfl ?_))))))
  have H2 := H.pi [1, 2, 0] 3
  simp only [pl, nth, drL] at H2
  refine Cl.s (g_ordered hA rfl hi hll (hB (by decide)) hsz (by omega) (e := ⟨kind, g, chan, case_, value, mate, send, ok⟩) H2) fun w H => ?_
  replace H := H.pi [2, 0, 1] 3
  simp only [pl, nth, drL] at H
  refine BB.vr fun q5 e5 => ?_
  cases q5
  ·refine BB.yes rfl (Cn.yes (⟨IW.by (m := 5) rfl ?_⟩))
   refine ret1 (.int .i64 5) rfl (by rfl) ?_
   have hc : stepG r (prevF l i) (nextF l i) ⟨kind, g, chan, case_, value, mate, send, ok⟩ = (5, (orderedF z (nextF l i) ⟨kind, g, chan, case_, value, mate, send, ok⟩).2) := by rw [← hrun]; exact run_hit (prev := prevF l i) (next := nextF l i) (e := ⟨kind, g, chan, case_, value, mate, send, ok⟩) (i := 4) (z := z) (k := 1) e5
   rw [hc]
   exact ⟨rfl, H.tl⟩
  refine BB.no rfl (Cn.no (⟨IW.by (m := 5) rfl ?_⟩))
  exact ⟨(5, (orderedF z (nextF l i) ⟨kind, g, chan, case_, value, mate, send, ok⟩).2), ⟨rfl, trivial⟩, ⟨⟨by omega, by rw [← hrun]; exact (run_go (prev := prevF l i) (next := nextF l i) (e := ⟨kind, g, chan, case_, value, mate, send, ok⟩) (k := 1) (i := 4) (z := z) e5).symm, sized_rule hsz (prevF l i) (nextF l i) ⟨kind, g, chan, case_, value, mate, send, ok⟩ 4, fun _ => hB (by decide)⟩, H⟩, (show 6 - 5 < 6 - 4 by decide)⟩
 ·refine ⟨BB.yes rfl ?_⟩
  refine Cn.yes (⟨⟨Mn.pure (.func (.func 152) #[.pointer (some ⟨rb, 0, none⟩)] #[]) (by kernel_rfl) ?_⟩⟩)
  refine ⟨H.ldi 0 rfl (v := .int .i64 kind) rfl ?_⟩
  refine H.ldi 0 rfl (v := .int .i64 g) rfl (H.ldi 0 rfl (v := .int .i64 chan) rfl (H.ldi 0 rfl (v := .int .i64 case_) rfl (H.ldi 0 rfl (v := .int .i64 value) rfl (H.ldi 0 rfl (v := .int .i64 mate) rfl (H.ldi 0 rfl (v := .bool send) rfl (H.ldi 0 rfl (v := .bool ok) rfl (Cl.s (g_closed (n := 0) (hB (by decide)) (e := ⟨kind, g, chan, case_, value, mate, send, ok⟩) H.up1) fun w H => ?_)))))))
  replace H := H.up1
  refine BB.vr fun q6 e6 => ?_
  cases q6
  ·refine BB.yes rfl (Cn.yes (⟨IW.by (m := 6) rfl ?_⟩))
   refine ret1 (.int .i64 6) rfl (by rfl) ?_
   have hc : stepG r (prevF l i) (nextF l i) ⟨kind, g, chan, case_, value, mate, send, ok⟩ = (6, (closedF z ⟨kind, g, chan, case_, value, mate, send, ok⟩).2) := by rw [← hrun]; exact run_hit (prev := prevF l i) (next := nextF l i) (e := ⟨kind, g, chan, case_, value, mate, send, ok⟩) (i := 5) (z := z) (k := 0) e6
   rw [hc]
   exact ⟨rfl, H.tl⟩
  refine BB.no rfl (Cn.no (⟨IW.by (m := 6) rfl ?_⟩))
  exact ⟨(6, (closedF z ⟨kind, g, chan, case_, value, mate, send, ok⟩).2), ⟨rfl, trivial⟩, ⟨⟨by omega, by rw [← hrun]; exact (run_go (prev := prevF l i) (next := nextF l i) (e := ⟨kind, g, chan, case_, value, mate, send, ok⟩) (k := 0) (i := 5) (z := z) e6).symm, sized_rule hsz (prevF l i) (nextF l i) ⟨kind, g, chan, case_, value, mate, send, ok⟩ 5, fun _ => hB (by decide)⟩, H⟩, (show 6 - 6 < 6 - 5 by decide)⟩
 refine ⟨BB.no rfl ?_⟩
 refine Cn.no (⟨ret1 (.int .i64 0) rfl (by rfl) ?_⟩)
 have hc : stepG r (prevF l i) (nextF l i) ⟨kind, g, chan, case_, value, mate, send, ok⟩ = (0, z) := hrun.symm
 rw [hc]
 exact ⟨rfl, H.tl⟩
theorem below_succ {p : Nat → Prop} {i : Nat} (h : ∀ k, k < i → p k) (h0 : p i) : ∀ k, k < i + 1 → p k := fun k hk => by
 rcases Nat.lt_or_ge k i with h1 | h1
 ·exact h k h1
 ·obtain rfl : k = i := by omega
  exact h0
theorem rd_at {K : World → Prop} {w : World} {F : List Piece} {rb : Nat} {lv : Value} {a b : Int} {r : RdrM} (H : SL w (RdrP rb lv a r :: F)) (k : ∀ w', SL w' (RdrP rb lv b r :: F) → K w') : St w ⟨rb, 1, none⟩ (.int .i64 b) K := by
 obtain ⟨crv, mb, ps, hl, H⟩ := RdrP.iff.1 H
 exact H.st0 (cs' := #[lv, .int .i64 b, crv, .map (some mb), .int .i64 r.closer.kind, .int .i64 r.closer.g, .int .i64 r.closer.chan, .int .i64 r.closer.case_, .int .i64 r.closer.value, .int .i64 r.closer.mate, .bool r.closer.send, .bool r.closer.ok, .bool r.over]) rfl rfl rfl (fun w' H' => k w' (RdrP.iff.2 ⟨crv, mb, ps, hl, H'⟩))
theorem row_slc1 {w : World} {F : List Piece} {b te : Nat} {u v : Value} (H : SL w (row b #[u, v] te :: F)) : SL w (Slc te 2 (.slice (some ⟨b, 0, none⟩) 1 1) 1 [u, v] :: F) :=
 H.conv (fun S hS h => ⟨⟨rfl, .inr ⟨b, 1, #[u, v], rfl, Nat.zero_le _, h.2, Nat.le_refl _, by decide, rfl, rfl⟩⟩, fun k hk => by injection hk with hk; dsimp only at hk; rw [← hk]; exact h.1⟩)
theorem rd_start {w : World} {F : List Piece} {A : Piece} {l : List Ev} {b cb mb : Nat} (lb lo lc : Nat) (H : SL w (row b #[(.slice (some ⟨lb, lo, none⟩) l.length lc), .int .i64 0, .slice (some ⟨cb, 0, none⟩) 1 1, .map (some mb), .int .i64 0, .int .i64 0, .int .i64 0, .int .i64 0, .int .i64 0, .int .i64 0, .bool false, .bool false, .bool false] 171 :: MapP 3 mb 0 (fun _ => none) :: row cb #[.bool false, .bool false] 237 :: A :: F)) :
  SL w (RdrP b (.slice (some ⟨lb, lo, none⟩) l.length lc) 0 (stG l 0) :: A :: F) := by
 have h := (row_slc1 H.up2)
 have h2 : SL w (all [] :: _) := SL.all.2 h
 have q := h2.pi [2, 1, 3, 0, 4] 5
 simp only [pl, nth, drL] at q
 refine RdrP.iff.2 ⟨.slice (some ⟨cb, 0, none⟩) 1 1, mb, [], rfl, ?_⟩
 have e : chMap [] = fun _ => none := by
  funext c
  unfold chMap
  split
  ·rfl
  ·simp
 rw [e]
 exact q
set_option maxHeartbeats 2000000 in
theorem g_check {w : World} {F : List Piece} {A : Piece} {lb lo lc : Nat} {l : List Ev} (hA : EvA A lb lo l) (hG : SpansA A) (h0 : 0 < l.length) (hll : l.length ≤ 2000) (H : SL w (A :: F)) :
  Calls Tryz.prog 66 #[(.slice (some ⟨lb, lo, none⟩) l.length lc)] w fun o w' => o = .returned (.tuple #[.int .i64 (checkG l).1, .int .i64 (checkG l).2]) ∧ SL w' (A :: F) := by
 have hs : l[l.length - 1]? = some (l[l.length - 1]'(by omega)) := List.getElem?_eq_getElem _
 obtain ⟨s, hs2⟩ : ∃ s, l[l.length - 1]'(by omega) = s := ⟨_, rfl⟩
 rw [hs2] at hs
 clear hs2
 obtain ⟨sk, sg, sc, sca, sv, sm, ss, so⟩ := s
 refine calls_d (args := [_]) Tryz.func66 rfl ?_
 refine ⟨⟨Mn.new (fun b => .slice (some ⟨b, 0, none⟩) 1 1) #[.bool false, .bool false] 237 (by kernel_rfl) H fun cb w H => ?_⟩⟩
 refine Mn.newMap 3 (by kernel_rfl) H fun mb w H => ?_
 refine Mn.pure (.agg #[.slice (some ⟨lb, lo, none⟩) l.length lc, .int .i64 0, .slice (some ⟨cb, 0, none⟩) 1 1, .map (some mb), .int .i64 0, .int .i64 0, .int .i64 0, .int .i64 0, .int .i64 0, .int .i64 0, .bool false, .bool false, .bool false]) (by kernel_rfl) ?_
 refine Nw.as #[.slice (some ⟨lb, lo, none⟩) l.length lc, .int .i64 0, .slice (some ⟨cb, 0, none⟩) 1 1, .map (some mb), .int .i64 0, .int .i64 0, .int .i64 0, .int .i64 0, .int .i64 0, .int .i64 0, .bool false, .bool false, .bool false] 171 rfl H fun b13 w H => ?_
 have q := rd_start lb lo lc H
 replace H := q
 refine ⟨⟨den.loop (ι := Nat × Int) [(2, 3), (5, 7), (16, 34)] (by kernel_rfl) (fun (i, at_) => [(16, .int .i64 ↑i)]) (fun (i, at_) w => (i ≤ l.length ∧ ∀ k, k < i → brG l k = 0) ∧ SL w (RdrP b13 (.slice (some ⟨lb, lo, none⟩) l.length lc) at_ (stG l i) :: A :: F)) (fun (i, at_) => l.length - i) (0, 0) ⟨rfl, trivial⟩ ⟨⟨Nat.zero_le _, fun k hk => absurd hk (Nat.not_lt_zero _)⟩, H⟩ ?_⟩⟩
 rintro ⟨i, at_⟩ s w ⟨hc, H⟩
 obtain ⟨hi', hb0⟩ := hc
 by_cases hi : i < l.length
 ·have hob : ∃ e, l[i] = e := ⟨_, rfl⟩
  obtain ⟨e, he⟩ := hob
  have hsi : l[i]? = some e := by rw [← he]; exact List.getElem?_eq_getElem hi
  have hst : stepG (stG l i) (prevF l i) (nextF l i) e = (brG l i, stG l (i + 1)) := by
   have hd : l.getD i evz = e := by rw [List.getD_eq_getElem?_getD, hsi]; rfl
   unfold brG; rw [stG, hd]
  clear he
  obtain ⟨kind, g, chan, case_, value, mate, send, ok⟩ := e
  refine ⟨BB.yd ?_⟩
  refine Cn.yes (⟨⟨Ix.at i 8 (by kernel_rfl) (rfl) (hi) ?_⟩⟩)
  refine H.ldEv 1 rfl hA i hsi (Nw.as ev0C 53 rfl H fun b6 w H => ?_)
  refine SL.stEv H rfl rfl fun w H => ?_
  refine ⟨BB.no (beq_eq_false_iff_ne.2 (by omega)) ?_⟩
  refine Cn.no (⟨rd_at H.up1 fun w H => ?_⟩)
  replace H := H.dn1
  refine ⟨H.ldi 0 rfl (v := .int .i64 kind) rfl ?_⟩
  refine H.ldi 0 rfl (v := .int .i64 g) rfl (H.ldi 0 rfl (v := .int .i64 chan) rfl (H.ldi 0 rfl (v := .int .i64 case_) rfl (H.ldi 0 rfl (v := .int .i64 value) rfl (H.ldi 0 rfl (v := .int .i64 mate) rfl (H.ldi 0 rfl (v := .bool send) rfl (H.ldi 0 rfl (v := .bool ok) rfl ?_))))))
  have hp := H.pi [1, 2, 0] 3
  simp only [pl, nth, drL] at hp
  have K := g_broken hA hG hi (by omega) (sized_st l i) (by omega) ⟨kind, g, chan, case_, value, mate, send, ok⟩ hp
  rw [hst] at K
  refine Cl.s K fun w H => ?_
  replace H := H.pi [2, 0, 1] 3
  simp only [pl, nth, drL] at H
  refine ⟨BB.vr fun q1 e1 => ?_⟩
  cases q1
  ·have h1 := bne_eq_false_iff_eq.1 e1
   refine Cn.no (⟨IW.i i ?_⟩)
   exact ⟨(i + 1, (i : Int)), ⟨rfl, trivial⟩, ⟨⟨by omega, below_succ hb0 h1⟩, H.tl⟩, (show l.length - (i + 1) < l.length - i by omega)⟩
  have h1 := bne_iff_ne.1 e1
  refine Cn.yes (⟨ret2 (.int .i64 (brG l i)) (.int .i64 ↑i) rfl (by rfl) (by rfl) ?_⟩)
  have hc : checkG l = (brG l i, i) := by unfold checkG; rw [scan_hit hi hb0 h1]; rfl
  rw [hc]
  exact ⟨rfl, H.tl.tl⟩
 have hob : i = l.length := by omega
 obtain rfl := hob
 refine ⟨BB.nd ?_⟩
 refine Cn.no (⟨⟨BB.yd ?_⟩⟩)
 refine IW.by (m := ↑(l.length - 1)) (by rw [show ((l.length : Int) - 1) = ((l.length - 1 : Nat) : Int) by omega]; exact wrap_id (by omega) (by omega)) (Ix.at (l.length - 1) 8 (by kernel_rfl) (rfl) (by omega) ?_)
 refine H.ldEv 1 rfl hA (l.length - 1) hs (Cl.s (g_serves H ⟨sk, sg, sc, sca, sv, sm, ss, so⟩) fun w H => ?_)
 refine BB.vr fun q2 e2 => ?_
 cases q2
 ·refine Cn.no (⟨ret2 (.int .i64 0) (.int .i64 0) rfl (by rfl) (by rfl) ?_⟩)
  have hd : l.getD (l.length - 1) evz = ⟨sk, sg, sc, sca, sv, sm, ss, so⟩ := by rw [List.getD_eq_getElem?_getD, hs]; rfl
  have hc : checkG l = (0, 0) := by unfold checkG; rw [scan_none hb0]; unfold endB; simp only [hd]; simp [*]
  rw [hc]
  exact ⟨rfl, H.tl⟩
 refine Cn.yes (⟨ret2 (.int .i64 4) (.int .i64 ↑l.length) rfl (by rfl) (by rfl) ?_⟩)
 have hd : l.getD (l.length - 1) evz = ⟨sk, sg, sc, sca, sv, sm, ss, so⟩ := by rw [List.getD_eq_getElem?_getD, hs]; rfl
 have hc : checkG l = (4, l.length) := by unfold checkG; rw [scan_none hb0]; unfold endB; simp only [hd]; simp [*]
 rw [hc]
 exact ⟨rfl, H.tl⟩
end Go.Proofs.YtoamjodmidbmbaaGreatDoor
namespace Go.Proofs.YtoamjodmidbmbaaGreatDoor
open Go.RowKit
section
variable {l : List Ev} {i : Nat} {c : ChE}
theorem RtL.ent (h : RtL l) {j : Nat} (hj : j < l.length) : entF (l.getD j evz) = 0 := by
 have := h.g j hj
 unfold brG at this
 exact (step_zero.1 this).1
theorem doneO_le {c : Int} {s : Bool} : (doneO l c s i).length ≤ 1 := by
 unfold doneO
 split
 ·exact Nat.zero_le _
 ·split
  ·exact Nat.le_refl _
  ·split
   ·exact Nat.le_refl _
   ·exact Nat.zero_le _
theorem doneU_le {c : Int} {s : Bool} : ∀ i, (doneU l c s i).length ≤ i
 | 0 => Nat.le_refl _
 | i + 1 => by
  rw [doneU_len]
  have := doneU_le (c := c) (s := s) i
  have := doneO_le (l := l) (c := c) (s := s) (i := i)
  omega
theorem mkR_le : ∀ i, makesR l i ≤ i
 | 0 => Nat.le_refl _
 | i + 1 => by
  rw [makesR]
  have := mkR_le i
  split <;> omega
theorem adds_le : ∀ i, ((List.range i).flatMap fun t => addA l t ++ addC l t).length ≤ 2 * i
 | 0 => Nat.le_refl _
 | i + 1 => by
  have h := adds_le i
  have h1 : (addA l i).length ≤ 1 := by
   unfold addA
   split
   ·exact Nat.zero_le _
   ·split
    ·exact Nat.le_refl _
    ·split
     ·exact Nat.le_refl _
     ·exact Nat.zero_le _
  have h2 : (addC l i).length ≤ 1 := by
   unfold addC
   split
   ·split
    ·exact Nat.le_refl _
    ·exact Nat.zero_le _
   ·exact Nat.zero_le _
  rw [List.range_succ, List.flatMap_append, List.length_append, List.flatMap_cons, List.flatMap_nil, List.append_nil, List.length_append]
  omega
theorem mkU_le (h : RtL l) {c : Int} {v : Nat} : ∀ {i}, i ≤ l.length → mkU l c i = some v → v ≤ 99
 | 0, _, hv => by cases hv
 | i + 1, hi, hv => by
  rw [mkU] at hv
  cases hm : mkU l c i with
  | some u =>
   rw [hm] at hv
   injection hv with hv
   subst hv
   exact mkU_le h (by omega) hm
  | none =>
   rw [hm] at hv
   dsimp only at hv
   split at hv
   ·injection hv with hv
    have hb := evB_of (h.ent (j := i) (by omega))
    have := hb.value
    omega
   ·cases hv
theorem read_size (h : RtL l) (hi : i ≤ l.length) : (readE l i).edges.length ≤ 2 * i ∧ (readE l i).chans.length = makesR l i ∧ makesR l i ≤ i ∧ ∀ c ∈ (readE l i).chans, c.ins.length ≤ i ∧ c.outs.length ≤ i ∧ c.size ≤ 99 := by
 rw [read_form h i hi]
 refine ⟨adds_le i, by show ((List.range (makesR l i)).map (chU l i)).length = _; rw [List.length_map, List.length_range], mkR_le i, fun c hc => ?_⟩
 obtain ⟨k, hk, rfl⟩ := List.mem_map.1 hc
 refine ⟨?_, ?_, ?_⟩
 ·show ((doneU l k true i).map (bp l)).length ≤ i
  rw [List.length_map]
  exact doneU_le i
 ·show ((doneU l k false i).map (bp l)).length ≤ i
  rw [List.length_map]
  exact doneU_le i
 ·show (mkU l k i).getD 0 ≤ 99
  cases hm : mkU l k i with
  | none => exact Nat.zero_le _
  | some v => exact mkU_le h hi hm
theorem putO_len (f t r : Nat) : (putO f t r).length ≤ 1 := by
 unfold putO
 split
 ·exact Nat.le_refl _
 ·exact Nat.zero_le _
theorem crsL_len (c : ChE) (k : Nat) : (crsL c k).length ≤ 2 := by
 unfold crsL
 cases c.outs[k]? with
 | none => exact Nat.zero_le _
 | some o =>
  dsimp only
  rw [List.length_append]
  cases c.ins[k]? with
  | none =>
   cases c.ins[k + c.size]? with
   | none => exact Nat.zero_le _
   | some q => have := putO_len o.1 q.2 (if c.size = 0 then 5 else 6); dsimp only [List.length_nil]; omega
  | some p =>
   have := putO_len p.1 o.2 3
   cases c.ins[k + c.size]? with
   | none => dsimp only [List.length_nil]; omega
   | some q => have := putO_len o.1 q.2 (if c.size = 0 then 5 else 6); dsimp only; omega
theorem crossK_len (c : ChE) (es : List Edg) (k : Nat) : (crossK c es k).length ≤ es.length + 2 := by
 rw [crossK_is, List.length_append]
 have := crsL_len c k
 omega
theorem crossU_len {es : List Edg} : ∀ k, (crossU c es k).length ≤ es.length + 2 * k
 | 0 => Nat.le_refl _
 | k + 1 => by
  rw [crossU]
  have := crossU_len (es := es) k
  have := crossK_len c (crossU c es k) k
  omega
theorem crossA_len {cs : List ChE} {es : List Edg} {B : Nat} (hB : ∀ c ∈ cs, c.outs.length ≤ B) : ∀ j, j ≤ cs.length → (crossA cs es j).length ≤ es.length + 2 * B * j
 | 0, _ => Nat.le_refl _
 | j + 1, hj => by
  rw [crossA]
  have h1 := crossA_len (es := es) hB j (by omega)
  have h2 := crossU_len (c := cs.getD j chz) (es := crossA cs es j) (cs.getD j chz).outs.length
  have h3 : (cs.getD j chz).outs.length ≤ B := by
   rw [List.getD_eq_getElem?_getD, List.getElem?_eq_getElem (by omega)]
   exact hB _ (List.getElem_mem _)
  rw [Nat.mul_succ]
  omega
end
end Go.Proofs.YtoamjodmidbmbaaGreatDoor
