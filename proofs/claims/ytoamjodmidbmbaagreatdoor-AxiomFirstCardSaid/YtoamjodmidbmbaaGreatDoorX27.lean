/- Texts of the proof. -/
import Derived.Test.YtoamjodmidbmbaaGreatDoorX26
import Derived.Test.YtoamjodmidbmbaaGreatDoorX22
set_option linter.unusedVariables false
set_option linter.unusedSimpArgs false
namespace Go.Proofs.YtoamjodmidbmbaaGreatDoor
open Go.RowKit
set_option maxRecDepth 100000
theorem yq_first_nil {w : World} {F : List Piece} {la : Option Addr} {lc p : Nat} {cell : Int} (H : SL w F) : Calls Tryz.prog 27 #[.agg #[.slice la 0 lc, .pointer (some ⟨p, 0, none⟩)], .int .i64 cell] w fun o w' => o = .returned (.int .i64 (-1)) ∧ SL w' F := by
 refine calls_d (args := [_, _]) Tryz.func27 rfl ?_
 refine ⟨Nw.as #[.slice la 0 lc, .pointer (some ⟨p, 0, none⟩)] 44 rfl H fun b2 w H => ?_⟩
 refine ⟨H.ldi 0 rfl (v := .slice la 0 lc) rfl ?_⟩
 refine ⟨den.loop (ι := Nat) [(4, 9), (13, 94)] (by kernel_rfl) (fun i => [(13, .int .i64 ↑i)]) (fun i w => i = 0 ∧ SL w (row b2 #[.slice la 0 lc, .pointer (some ⟨p, 0, none⟩)] 44 :: F)) (fun i => 0) 0 ⟨rfl, trivial⟩ ⟨rfl, H⟩ ?_⟩
 rintro i s w ⟨rfl, H⟩
 refine ⟨BB.no rfl ?_⟩
 refine Cn.no (⟨ret1 (.int .i64 (-1)) rfl (by rfl) ?_⟩)
 exact ⟨rfl, H.pi [] 1⟩
theorem axiomFirst_big {w : World} {F : List Piece} {A : Piece} {la : Option Addr} {n lc : Nat} {cell : Int} (hG : SpansA A) (hn : 28 < n) (H : SL w (A :: F)) : Calls Tryz.prog 6 #[.slice la n lc, .int .i64 cell] w fun o w' => o = .returned (.bool true) ∧ SL w' (A :: F) := by
 refine calls_d (args := [_, _]) Tryz.func6 rfl ?_
 refine ⟨⟨BB.yd ?_⟩⟩
 refine Cn.yes (⟨?_⟩)
 have h1 := H
 refine Cl.s (l_write hG h1) fun w H => ?_
 refine BB.yes rfl (ret1 (.bool true) rfl (by rfl) ?_)
 exact ⟨rfl, H⟩
theorem axiomFirst_nil {w : World} {F : List Piece} {A : Piece} {la : Option Addr} {lc : Nat} {cell : Int} (hG : SpansA A) (H : SL w (A :: F)) : Calls Tryz.prog 6 #[.slice la 0 lc, .int .i64 cell] w fun o w' => o = .returned (.bool true) ∧ SL w' (A :: F) := by
 by_cases hcell : cell < 0 ∨ 8 ≤ cell
 ·by_cases hz1 : cell < 0
  ·refine calls_d (args := [_, _]) Tryz.func6 rfl ?_
   refine ⟨⟨BB.no rfl ?_⟩⟩
   refine Cn.no (⟨Cl.s (x_first_nil_out hcell H) fun w H => ?_⟩)
   refine ⟨Cl.s (f_right_nil H) fun w H => ?_⟩
   refine BB.yes rfl (BB.no rfl (Cn.no (⟨BB.yd ?_⟩)))
   refine Cn.yes (⟨BB.yes rfl ?_⟩)
   refine BB.yes rfl ?_
   have h1 := H
   refine Cl.s (l_write hG h1) fun w H => ?_
   refine BB.yes rfl (ret1 (.bool true) rfl (by rfl) ?_)
   exact ⟨rfl, H⟩
  refine calls_d (args := [_, _]) Tryz.func6 rfl ?_
  refine ⟨⟨BB.no rfl ?_⟩⟩
  refine Cn.no (⟨Cl.s (x_first_nil_out hcell H) fun w H => ?_⟩)
  refine ⟨Cl.s (f_right_nil H) fun w H => ?_⟩
  refine BB.yes rfl (BB.no rfl (Cn.no (⟨BB.nd ?_⟩)))
  refine BB.yd (Cn.yes (⟨BB.yes rfl ?_⟩))
  refine BB.yes rfl ?_
  have h1 := H
  refine Cl.s (l_write hG h1) fun w H => ?_
  refine BB.yes rfl (ret1 (.bool true) rfl (by rfl) ?_)
  exact ⟨rfl, H⟩
 refine calls_d (args := [_, _]) Tryz.func6 rfl ?_
 refine ⟨⟨BB.no rfl ?_⟩⟩
 refine Cn.no (⟨Cl.s (x_first_nil hcell H) fun w H => ?_⟩)
 refine ⟨Cl.s (f_right_nil H) fun w H => ?_⟩
 refine BB.yes rfl (BB.no rfl (Cn.no (⟨BB.nd ?_⟩)))
 refine BB.nd (Cn.no (⟨Cl.b (yq_of_nil H) ?_⟩))
 rintro _ w ⟨pt, rfl, H⟩
 refine ⟨_, rfl, ?_⟩
 have K := yq_first_nil (la := la) (lc := lc) (p := pt) (cell := cell) H
 refine Cl.s K fun w H => ?_
 refine ⟨BB.yes rfl ?_⟩
 refine BB.no rfl (BB.yes rfl (BB.yes rfl (BB.yes rfl ?_)))
 have h1 := H.pi [1, 0] 2
 simp only [pl, nth, drL] at h1
 refine Cl.s (l_write hG h1) fun w H => ?_
 replace H := H.pi [1, 0] 2
 simp only [pl, nth, drL] at H
 refine BB.yes rfl (ret1 (.bool true) rfl (by rfl) ?_)
 exact ⟨rfl, H.pi [1] 2⟩
theorem axiomFirst_some {w : World} {F : List Piece} {A : Piece} {lb lo lc : Nat} {l : List Ev} (hA : EvA A lb lo l) (hG : SpansA A) (h0 : 0 < l.length) (hlc : l.length ≤ lc) {cell : Int} (hll : l.length ≤ 28) (H : SL w (A :: F)) : Calls Tryz.prog 6 #[.slice (some ⟨lb, lo, none⟩) l.length lc, .int .i64 cell] w fun o w' => o = .returned (.bool true) ∧ SL w' (A :: F) := by
 cases hr : rightF l with
 | false =>
  refine calls_d (args := [_, _]) Tryz.func6 rfl ?_
  refine ⟨⟨BB.nd ?_⟩⟩
  refine Cn.no (⟨?_⟩)
  have h1 := H
  have K := x_first_no (cell := cell) hA hlc hG h0 (by omega) hr h1
  refine Cl.s K fun w H => ?_
  refine ⟨?_⟩
  have h1 := H
  have K := f_right (lc := lc) hA hlc h0 (by omega) h1
  rw [hr] at K
  refine Cl.s K fun w H => ?_
  refine BB.no rfl (BB.yes rfl (Cn.yes (⟨BB.yes rfl ?_⟩)))
  refine BB.yes rfl ?_
  have h1 := H
  refine Cl.s (l_write hG h1) fun w H => ?_
  refine BB.yes rfl (ret1 (.bool true) rfl (by rfl) ?_)
  exact ⟨rfl, H⟩
 | true =>
  have hR := right_iff.1 hr
  have hal := all_le hr (by omega)
  by_cases hcell : cell < 0 ∨ 8 ≤ cell
  ·by_cases hz1 : cell < 0
   ·refine calls_d (args := [_, _]) Tryz.func6 rfl ?_
    refine ⟨⟨BB.nd ?_⟩⟩
    refine Cn.no (⟨?_⟩)
    have h1 := H
    have K := x_first_out (cell := cell) hA hlc hG h0 (by omega) hcell hr h1
    refine Cl.s K fun w H => ?_
    refine ⟨?_⟩
    have h1 := H
    have K := f_right (lc := lc) hA hlc h0 (by omega) h1
    rw [hr] at K
    refine Cl.s K fun w H => ?_
    refine BB.yes rfl (BB.no rfl (Cn.no (⟨BB.yd ?_⟩)))
    refine Cn.yes (⟨BB.yes rfl ?_⟩)
    refine BB.yes rfl ?_
    have h1 := H
    refine Cl.s (l_write hG h1) fun w H => ?_
    refine BB.yes rfl (ret1 (.bool true) rfl (by rfl) ?_)
    exact ⟨rfl, H⟩
   refine calls_d (args := [_, _]) Tryz.func6 rfl ?_
   refine ⟨⟨BB.nd ?_⟩⟩
   refine Cn.no (⟨?_⟩)
   have h1 := H
   have K := x_first_out (cell := cell) hA hlc hG h0 (by omega) hcell hr h1
   refine Cl.s K fun w H => ?_
   refine ⟨?_⟩
   have h1 := H
   have K := f_right (lc := lc) hA hlc h0 (by omega) h1
   rw [hr] at K
   refine Cl.s K fun w H => ?_
   refine BB.yes rfl (BB.no rfl (Cn.no (⟨BB.nd ?_⟩)))
   refine BB.yd (Cn.yes (⟨BB.yes rfl ?_⟩))
   refine BB.yes rfl ?_
   have h1 := H
   refine Cl.s (l_write hG h1) fun w H => ?_
   refine BB.yes rfl (ret1 (.bool true) rfl (by rfl) ?_)
   exact ⟨rfl, H⟩
  rcases hfr : frsF l cell with _ | b
  ·refine calls_d (args := [_, _]) Tryz.func6 rfl ?_
   refine ⟨⟨BB.nd ?_⟩⟩
   refine Cn.no (⟨?_⟩)
   have h1 := H
   have K := x_first (cell := cell) hA hlc hG h0 (by omega) hcell hr h1
   rw [hfr] at K
   refine Cl.s K fun w H => ?_
   refine ⟨?_⟩
   have h1 := H
   have K := f_right (lc := lc) hA hlc h0 (by omega) h1
   rw [hr] at K
   refine Cl.s K fun w H => ?_
   refine BB.yes rfl (BB.no rfl (Cn.no (⟨BB.nd ?_⟩)))
   refine BB.nd (Cn.no (⟨?_⟩))
   have h1 := H
   refine Cl.b (yq_of (lc := lc) hA hlc hR (by omega) hal h1) ?_
   rintro _ w ⟨pt, rfl, H⟩
   refine ⟨_, rfl, ?_⟩
   have h1 := H
   have K := yq_first (p := pt) (cell := cell) hA hlc (by omega) h1
   rw [show fstF l cell = -1 by unfold fstF; rw [hfr]] at K
   refine Cl.s K fun w H => ?_
   refine ⟨BB.yes rfl ?_⟩
   refine BB.no rfl (BB.yes rfl (BB.yes rfl (BB.yes rfl ?_)))
   have h1 := H.pi [1, 0] 2
   simp only [pl, nth, drL] at h1
   refine Cl.s (l_write hG h1) fun w H => ?_
   replace H := H.pi [1, 0] 2
   simp only [pl, nth, drL] at H
   refine BB.yes rfl (ret1 (.bool true) rfl (by rfl) ?_)
   exact ⟨rfl, H.pi [1] 2⟩
  refine calls_d (args := [_, _]) Tryz.func6 rfl ?_
  refine ⟨⟨BB.nd ?_⟩⟩
  refine Cn.no (⟨?_⟩)
  have h1 := H
  have K := x_first (cell := cell) hA hlc hG h0 (by omega) hcell hr h1
  rw [hfr] at K
  refine Cl.s K fun w H => ?_
  refine ⟨?_⟩
  have h1 := H
  have K := f_right (lc := lc) hA hlc h0 (by omega) h1
  rw [hr] at K
  refine Cl.s K fun w H => ?_
  refine BB.yes rfl (BB.no rfl (Cn.no (⟨BB.nd ?_⟩)))
  refine BB.nd (Cn.no (⟨?_⟩))
  have h1 := H
  refine Cl.b (yq_of (lc := lc) hA hlc hR (by omega) hal h1) ?_
  rintro _ w ⟨pt, rfl, H⟩
  refine ⟨_, rfl, ?_⟩
  have h1 := H
  have K := yq_first (p := pt) (cell := cell) hA hlc (by omega) h1
  rw [show fstF l cell = (b : Int) by unfold fstF; rw [hfr]] at K
  refine Cl.s K fun w H => ?_
  refine ⟨BB.yes rfl ?_⟩
  refine BB.yd (BB.yes rfl (BB.no rfl (BB.yes (beq_self_eq_true _) ?_)))
  have h1 := H.pi [1, 0] 2
  simp only [pl, nth, drL] at h1
  refine Cl.s (l_write hG h1) fun w H => ?_
  replace H := H.pi [1, 0] 2
  simp only [pl, nth, drL] at H
  refine BB.yes rfl (ret1 (.bool true) rfl (by rfl) ?_)
  exact ⟨rfl, H.pi [1] 2⟩
theorem axiomFirst_walk {v : Value} {l : List Ev} {W : World} (h : EvIn W v l) (cell : Int) (_ : (Lit.int .i64 cell).wf = true) (hs : Spans W) : Calls Tryz.prog 6 #[v, .int .i64 cell] W fun e w' => e = .returned (.bool true) ∧ Frm Nil W w' := by
 obtain ⟨a, cap, rfl, hc, hr⟩ := h
 have H := SL.start W
 have hG : SpansA (Old W) := fun w hw => hs.later (SL.old hw)
 have done : ∀ o w', (o = Ending.returned (.bool true) ∧ SL w' [Old W]) → o = .returned (.bool true) ∧ Frm Nil W w' := fun o w' q => ⟨q.1, SL.old q.2⟩
 by_cases h1 : 28 < l.length
 ·exact (axiomFirst_big hG h1 H).mono done
 ·rcases Nat.eq_zero_or_pos l.length with h0 | h0
  ·rw [h0]
   exact (axiomFirst_nil hG H).mono done
  ·obtain ⟨b, off, rfl, hcell⟩ := hr.2.2 h0
   have hA : EvA (Old W) b off l := EvA.of_rd (a := some ⟨b, off, none⟩) (fun S w hS => ⟨hr.1, hr.2.1, fun _ => ⟨b, off, rfl, fun i u hu => by
    have hw := hcell i u hu
    rw [World.cell?_of_block (w := W) (w' := w) ((hS.2.2.2 b (World.block_lt_of_cell? W _ hw)).2)]
    exact hw⟩⟩) rfl
   exact (axiomFirst_some (lc := cap) hA hG h0 hc (by omega) H).mono done
end Go.Proofs.YtoamjodmidbmbaaGreatDoor
