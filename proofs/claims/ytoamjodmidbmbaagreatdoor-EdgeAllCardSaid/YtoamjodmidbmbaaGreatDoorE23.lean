/- Texts of the proof, several in one file: LawR1. -/
import Derived.Test.YtoamjodmidbmbaaGreatDoorE22
set_option linter.unusedVariables false
set_option linter.unusedSimpArgs false
namespace Go.Proofs.YtoamjodmidbmbaaGreatDoor
open Go.RowKit
set_option maxRecDepth 100000
theorem al_big {w : World} {F : List Piece} {A : Piece} {la : Option Addr} {n lc : Nat} (hG : SpansA A) (hn : 40 < n) (H : SL w (A :: F)) : Calls Tryz.prog 3 #[.slice la n lc] w fun o w' => o = .returned (.bool true) ∧ SL w' (A :: F) := by
 refine calls_den (args := [_]) Tryz.func3 rfl (Nat.le_of_ble_eq_true (by kernel_rfl)) (by kernel_rfl) ?_
 refine ⟨?_⟩
 refine ⟨?_⟩
 refine BB.yes (decide_eq_true (by omega)) (Cn.yes (⟨?_⟩))
 have h1 := H
 refine Cl.sl (by kernel_rfl) (l_five hG h1) fun w H => ?_
 refine BB.yes rfl (ret1 (.bool true) rfl (by rfl) ?_)
 exact ⟨rfl, H⟩
theorem al_nil {w : World} {F : List Piece} {A : Piece} {la : Option Addr} {lc : Nat} (hG : SpansA A) (H : SL w (A :: F)) : Calls Tryz.prog 3 #[.slice la 0 lc] w fun o w' => o = .returned (.bool true) ∧ SL w' (A :: F) := by
 refine calls_den (args := [_]) Tryz.func3 rfl (Nat.le_of_ble_eq_true (by kernel_rfl)) (by kernel_rfl) ?_
 refine ⟨?_⟩
 refine ⟨?_⟩
 refine BB.no rfl (Cn.no (⟨?_⟩))
 refine Cl.by (by kernel_rfl) (e_all_nil H) ?_
 rintro _ w ⟨xa, xc, rfl, H⟩
 refine ⟨_, rfl, ?_⟩
 refine ⟨?_⟩
 refine Cl.sl (by kernel_rfl) (f_right_nil H) fun w H => ?_
 refine BB.yes rfl (BB.no rfl (Cn.no (⟨?_⟩)))
 refine BB.yes rfl (Cl.by (by kernel_rfl) (f_all24_nil H) ?_)
 rintro _ w ⟨ya, yc, rfl, H⟩
 refine ⟨_, rfl, ?_⟩
 have h1 := H.pick [1, 0, 2] 3 (by decide)
 simp only [pk, nth, pkA, pkB, pkC, pkD, pkE, pkF] at h1
 refine Cl.sl (by kernel_rfl) (l_same (L := []) (N := 0) (zs := []) (rfl) (Nat.le_refl _) (Nat.zero_le _) h1) fun w H => ?_
 replace H := H.pick [1, 0, 2] 3 (by decide)
 simp only [pk, nth, pkA, pkB, pkC, pkD, pkE, pkF] at H
 refine BB.yes rfl ?_
 have h1 := H.pick [2, 0, 1] 3 (by decide)
 simp only [pk, nth, pkA, pkB, pkC, pkD, pkE, pkF] at h1
 refine Cl.sl (by kernel_rfl) (l_five hG h1) fun w H => ?_
 replace H := H.pick [1, 2, 0] 3 (by decide)
 simp only [pk, nth, pkA, pkB, pkC, pkD, pkE, pkF] at H
 refine BB.yes rfl (ret1 (.bool true) rfl (by rfl) ?_)
 exact ⟨rfl, H.pick [2] 3 (by decide)⟩
theorem al_some {w : World} {F : List Piece} {A : Piece} {lb lo lc : Nat} {l : List Ev} (hA : EvA A lb lo l) (hG : SpansA A) (h0 : 0 < l.length) (hlc : l.length ≤ lc) (hll : l.length ≤ 40) (H : SL w (A :: F)) : Calls Tryz.prog 3 #[.slice (some ⟨lb, lo, none⟩) l.length lc] w fun o w' => o = .returned (.bool true) ∧ SL w' (A :: F) := by
 cases hr : rightF l with
 | false =>
  refine calls_den (args := [_]) Tryz.func3 rfl (Nat.le_of_ble_eq_true (by kernel_rfl)) (by kernel_rfl) ?_
  refine ⟨?_⟩
  refine ⟨?_⟩
  refine BB.no (decide_eq_false (by omega)) (Cn.no (⟨?_⟩))
  have h1 := H
  refine Cl.sl (by kernel_rfl) (e_all_no hA hG h0 (by omega) hr h1) fun w H => ?_
  refine ⟨?_⟩
  have h1 := H
  have K := f_right (lc := lc) hA hlc h0 (by omega) h1
  rw [hr] at K
  refine Cl.sl (by kernel_rfl) K fun w H => ?_
  refine BB.no rfl (BB.yes rfl (Cn.yes (⟨?_⟩)))
  refine BB.yes rfl (BB.yes rfl ?_)
  have h1 := H
  refine Cl.sl (by kernel_rfl) (l_five hG h1) fun w H => ?_
  refine BB.yes rfl (ret1 (.bool true) rfl (by rfl) ?_)
  exact ⟨rfl, H⟩
 | true =>
  have hR := right_iff.1 hr
  have hal := all_le hr (by omega)
  refine calls_den (args := [_]) Tryz.func3 rfl (Nat.le_of_ble_eq_true (by kernel_rfl)) (by kernel_rfl) ?_
  refine ⟨?_⟩
  refine ⟨?_⟩
  refine BB.no (decide_eq_false (by omega)) (Cn.no (⟨?_⟩))
  have h1 := H
  refine Cl.by (by kernel_rfl) (e_all hA hG h0 (by omega) hr h1) ?_
  rintro _ w ⟨xa, xc, rfl, H⟩
  refine ⟨_, rfl, ?_⟩
  refine ⟨?_⟩
  have h1 := H.pick [1, 0] 2 (by decide)
  simp only [pk, nth, pkA, pkB, pkC, pkD, pkE, pkF] at h1
  have K := f_right (lc := lc) hA hlc h0 (by omega) h1
  rw [hr] at K
  refine Cl.sl (by kernel_rfl) K fun w H => ?_
  replace H := H.pick [1, 0] 2 (by decide)
  simp only [pk, nth, pkA, pkB, pkC, pkD, pkE, pkF] at H
  refine BB.yes rfl (BB.no rfl (Cn.no (⟨?_⟩)))
  refine BB.yes rfl ?_
  have h1 := H.pick [1, 0] 2 (by decide)
  simp only [pk, nth, pkA, pkB, pkC, pkD, pkE, pkF] at h1
  have K := f_all24 (lc := lc) hA hR (by omega) h1
  rw [← all_ref hR] at K
  refine Cl.by (by kernel_rfl) (K) ?_
  rintro _ w ⟨ya, yc, rfl, H⟩
  refine ⟨_, rfl, ?_⟩
  replace H := H.pick [0, 2, 1] 3 (by decide)
  simp only [pk, nth, pkA, pkB, pkC, pkD, pkE, pkF] at H
  have h1 := H.pick [1, 0, 2] 3 (by decide)
  simp only [pk, nth, pkA, pkB, pkC, pkD, pkE, pkF] at h1
  refine Cl.sl (by kernel_rfl) (l_same (L := (allE l)) (N := (allE l).length) (zs := ((allE l).flatMap Edg.cells)) (List.take_of_length_le (by rw [edg_len]; exact Nat.le_refl _)) (Nat.le_refl _) (hal) h1) fun w H => ?_
  replace H := H.pick [1, 0, 2] 3 (by decide)
  simp only [pk, nth, pkA, pkB, pkC, pkD, pkE, pkF] at H
  refine BB.yes rfl ?_
  have h1 := H.pick [2, 0, 1] 3 (by decide)
  simp only [pk, nth, pkA, pkB, pkC, pkD, pkE, pkF] at h1
  refine Cl.sl (by kernel_rfl) (l_five hG h1) fun w H => ?_
  replace H := H.pick [1, 2, 0] 3 (by decide)
  simp only [pk, nth, pkA, pkB, pkC, pkD, pkE, pkF] at H
  refine BB.yes rfl (ret1 (.bool true) rfl (by rfl) ?_)
  exact ⟨rfl, H.pick [2] 3 (by decide)⟩
theorem edgeAll_walk {v : Value} {l : List Ev} {W : World} (h : EvIn W v l) (hs : Spans W) : Calls Tryz.prog 3 #[v] W fun e w' => e = .returned (.bool true) ∧ Frm Nil W w' := by
 obtain ⟨a, cap, rfl, hc, hr⟩ := h
 have H := SL.start W
 have hG : SpansA (Old W) := fun w hw => hs.later (SL.old hw)
 have done : ∀ o w', (o = Ending.returned (.bool true) ∧ SL w' [Old W]) → o = .returned (.bool true) ∧ Frm Nil W w' := fun o w' q => ⟨q.1, SL.old q.2⟩
 by_cases h1 : 40 < l.length
 ·exact (al_big hG h1 H).mono done
 ·rcases Nat.eq_zero_or_pos l.length with h0 | h0
  ·rw [h0]
   exact (al_nil hG H).mono done
  ·obtain ⟨b, off, rfl, hcell⟩ := hr.2.2 h0
   have hA : EvA (Old W) b off l := EvA.of_rd (a := some ⟨b, off, none⟩) (fun S w hS => ⟨hr.1, hr.2.1, fun _ => ⟨b, off, rfl, fun i u hu => by
    have hw := hcell i u hu
    rw [World.cell?_of_block (w := W) (w' := w) ((hS.2.2.2 b (World.block_lt_of_cell? W _ hw)).2)]
    exact hw⟩⟩) rfl
   exact (al_some (lc := cap) hA hG h0 hc (by omega) H).mono done
end Go.Proofs.YtoamjodmidbmbaaGreatDoor
