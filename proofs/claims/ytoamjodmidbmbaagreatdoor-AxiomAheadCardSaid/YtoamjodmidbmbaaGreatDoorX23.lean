/- Texts of the proof. -/
import Derived.Test.YtoamjodmidbmbaaGreatDoorX22
set_option linter.unusedVariables false
set_option linter.unusedSimpArgs false
namespace Go.Proofs.YtoamjodmidbmbaaGreatDoor
open Go.RowKit
set_option maxRecDepth 100000
theorem axiomAhead_big {w : World} {F : List Piece} {A : Piece} {la : Option Addr} {n lc : Nat} (hG : SpansA A) (hn : 28 < n) (H : SL w (A :: F)) : Calls Tryz.prog 5 #[.slice la n lc] w fun o w' => o = .returned (.bool true) ∧ SL w' (A :: F) := by
 refine calls_d (args := [_]) Tryz.func5 rfl ?_
 refine ⟨⟨BB.yd ?_⟩⟩
 refine Cn.yes (⟨?_⟩)
 have h1 := H
 refine Cl.s (l_write hG h1) fun w H => ?_
 refine BB.yes rfl (ret1 (.bool true) rfl (by rfl) ?_)
 exact ⟨rfl, H⟩
theorem axiomAhead_nil {w : World} {F : List Piece} {A : Piece} {la : Option Addr} {lc : Nat} (hG : SpansA A) (H : SL w (A :: F)) : Calls Tryz.prog 5 #[.slice la 0 lc] w fun o w' => o = .returned (.bool true) ∧ SL w' (A :: F) := by
 refine calls_d (args := [_]) Tryz.func5 rfl ?_
 refine ⟨⟨BB.no rfl ?_⟩⟩
 refine Cn.no (⟨Cl.b (x_ahead_nil H) ?_⟩)
 rintro _ w ⟨pm, rfl, H⟩
 refine ⟨_, rfl, ?_⟩
 refine ⟨Cl.s (f_right_nil H) fun w H => ?_⟩
 refine BB.yes rfl (BB.no rfl (Cn.no (⟨Cl.b (yq_of_nil H) ?_⟩)))
 rintro _ w ⟨pt, rfl, H⟩
 refine ⟨_, rfl, ?_⟩
 refine Nw.as #[.slice none 0 0, .pointer none] 44 rfl H fun b5 w H => ?_
 refine H.st0 (cs' := #[.slice la 0 lc, .pointer none]) rfl rfl rfl fun w H => ?_
 refine H.st0 (cs' := #[.slice la 0 lc, .pointer (some ⟨pt, 0, none⟩)]) rfl rfl rfl fun w H => ?_
 refine ⟨BB.no rfl ?_⟩
 refine BB.no rfl ?_
 have h1 := H.pi [2, 0, 1, 3] 4
 simp only [pl, nth, drL] at h1
 have hob := MatP.iff.1 h1
 obtain ⟨rv, b, ws, hB, h1⟩ := hob
 refine Cl.s (m_size h1) fun w H => ?_
 replace H := MatP.iff.2 ⟨rv, b, ws, hB, H⟩
 replace H := H.pi [1, 2, 0, 3] 4
 simp only [pl, nth, drL] at H
 refine BB.no rfl (Cn.no (⟨⟨den.loop (ι := Nat) [(2, 2), (6, 7), (46, 65)] (by kernel_rfl) (fun i => [(46, .int .i64 ↑i)]) (fun i w => i ≤ 0 ∧ SL w (row b5 #[.slice la 0 lc, .pointer (some ⟨pt, 0, none⟩)] 44 :: RMP pt 0 (fun a b => frmM (fun _ _ => false) 0 a 0 b) :: MatP pm 0 (cloR (fun _ _ => false) 0) :: A :: F)) (fun i => 0 - i) 0 ⟨rfl, trivial⟩ ⟨Nat.zero_le _, H⟩ ?_⟩⟩))
 rintro i s w ⟨hi0, H⟩
 have hob : i = 0 := by omega
 obtain rfl := hob
 refine ⟨BB.no rfl ?_⟩
 refine Cn.no (⟨?_⟩)
 have h1 := H.pi [3, 0, 1, 2] 4
 simp only [pl, nth, drL] at h1
 refine Cl.s (l_write hG h1) fun w H => ?_
 replace H := H.pi [1, 2, 3, 0] 4
 simp only [pl, nth, drL] at H
 refine BB.yes rfl (ret1 (.bool true) rfl (by rfl) ?_)
 exact ⟨rfl, H.pi [3] 4⟩
set_option maxHeartbeats 2000000 in
theorem axiomAhead_some {w : World} {F : List Piece} {A : Piece} {lb lo lc : Nat} {l : List Ev} (hA : EvA A lb lo l) (hG : SpansA A) (h0 : 0 < l.length) (hlc : l.length ≤ lc) (hll : l.length ≤ 28) (H : SL w (A :: F)) : Calls Tryz.prog 5 #[.slice (some ⟨lb, lo, none⟩) l.length lc] w fun o w' => o = .returned (.bool true) ∧ SL w' (A :: F) := by
 cases hr : rightF l with
 | false =>
  refine calls_d (args := [_]) Tryz.func5 rfl ?_
  refine ⟨⟨BB.nd ?_⟩⟩
  refine Cn.no (⟨?_⟩)
  have h1 := H
  refine Cl.s (x_ahead_no hA hlc hG h0 (by omega) hr h1) fun w H => ?_
  refine ⟨?_⟩
  have h1 := H
  have K := f_right (lc := lc) hA hlc h0 (by omega) h1
  rw [hr] at K
  refine Cl.s K fun w H => ?_
  refine BB.no rfl (BB.yes rfl (Cn.yes (⟨BB.yes rfl ?_⟩)))
  refine BB.yes rfl ?_
  have h1 := H
  refine Cl.s (l_write hG h1) fun w H => ?_
  refine BB.yes rfl (ret1 (.bool true) rfl (by rfl) ?_)
  exact ⟨rfl, H⟩
 | true =>
  have hR := right_iff.1 hr
  have hal := all_le hr (by omega)
  refine calls_d (args := [_]) Tryz.func5 rfl ?_
  refine ⟨⟨BB.nd ?_⟩⟩
  refine Cn.no (⟨?_⟩)
  have h1 := H
  refine Cl.b (x_ahead hA hlc hG h0 (by omega) hr h1) ?_
  rintro _ w ⟨pm, rfl, H⟩
  refine ⟨_, rfl, ?_⟩
  refine ⟨?_⟩
  have h1 := H.pi [1, 0] 2
  simp only [pl, nth, drL] at h1
  have K := f_right (lc := lc) hA hlc h0 (by omega) h1
  rw [hr] at K
  refine Cl.s K fun w H => ?_
  replace H := H.pi [1, 0] 2
  simp only [pl, nth, drL] at H
  refine BB.yes rfl (BB.no rfl (Cn.no (⟨?_⟩)))
  have h1 := H.pi [1, 0] 2
  simp only [pl, nth, drL] at h1
  refine Cl.b (yq_of (lc := lc) hA hlc hR (by omega) hal h1) ?_
  rintro _ w ⟨pt, rfl, H⟩
  refine ⟨_, rfl, ?_⟩
  replace H := H.pi [0, 2, 1] 3
  simp only [pl, nth, drL] at H
  refine Nw.as #[.slice none 0 0, .pointer none] 44 rfl H fun b5 w H => ?_
  refine H.st0 (cs' := #[.slice (some ⟨lb, lo, none⟩) l.length lc, .pointer none]) rfl rfl rfl fun w H => ?_
  refine H.st0 (cs' := #[.slice (some ⟨lb, lo, none⟩) l.length lc, .pointer (some ⟨pt, 0, none⟩)]) rfl rfl rfl fun w H => ?_
  refine ⟨BB.no rfl ?_⟩
  refine BB.no rfl ?_
  have h1 := H.pi [2, 0, 1, 3] 4
  simp only [pl, nth, drL] at h1
  have hob := MatP.iff.1 h1
  obtain ⟨rv, b, ws, hB, h1⟩ := hob
  refine Cl.s (m_size h1) fun w H => ?_
  replace H := MatP.iff.2 ⟨rv, b, ws, hB, H⟩
  replace H := H.pi [1, 2, 0, 3] 4
  simp only [pl, nth, drL] at H
  refine BB.no (bne_self_eq_false _) (Cn.no (⟨⟨den.loop (ι := Nat) [(2, 2), (6, 7), (46, 65)] (by kernel_rfl) (fun i => [(46, .int .i64 ↑i)]) (fun i w => i ≤ l.length ∧ SL w (row b5 #[.slice (some ⟨lb, lo, none⟩) l.length lc, .pointer (some ⟨pt, 0, none⟩)] 44 :: RMP pt l.length (ahF l) :: MatP pm l.length (ahF l) :: A :: F)) (fun i => l.length - i) 0 ⟨rfl, trivial⟩ ⟨Nat.zero_le _, H⟩ ?_⟩⟩))
  rintro i s w ⟨hi0, H⟩
  have hob := Nat.lt_or_ge i l.length
  rcases hob with hi | hi
  ·refine ⟨BB.yd ?_⟩
   refine Cn.yes (⟨⟨⟨⟨den.loop (ι := Nat) [(2, 2), (7, 7), (51, 64)] (by kernel_rfl) (fun k => [(51, .int .i64 ↑k)]) (fun k w => k ≤ l.length ∧ SL w (row b5 #[.slice (some ⟨lb, lo, none⟩) l.length lc, .pointer (some ⟨pt, 0, none⟩)] 44 :: RMP pt l.length (ahF l) :: MatP pm l.length (ahF l) :: A :: F)) (fun k => l.length - k) 0 ⟨rfl, trivial⟩ ⟨Nat.zero_le _, H⟩ ?_⟩⟩⟩⟩)
   rintro k s w ⟨hk0, H⟩
   have hob := Nat.lt_or_ge k l.length
   rcases hob with hk | hk
   ·refine ⟨BB.yd ?_⟩
    refine Cn.yes (⟨⟨⟨Drw.oft (.calm 0 (.calm 1 (.calm 2 (.calm 4 (.calm 5 (.calm 6 (.calm 7 (.act 3 false (.act 8 true (.act 9 true .nil)))))))))) (by kernel_rfl) mixed (fun w => SL w _) H.drew ?_⟩⟩⟩)
    replace H := H.drew
    refine LdC.i 0 rfl (v := .pointer (some ⟨pt, 0, none⟩)) rfl ?_
    have h1 := H.pi [2, 0, 1, 3] 4
    simp only [pl, nth, drL] at h1
    have K := m_has (i := i) (k := k) (by omega) (by omega) (by omega) h1
    have hob : ∃ bq0 : Bool, ahF l i k = bq0 := ⟨_, rfl⟩
    obtain ⟨bq, hik⟩ := hob
    cases bq
    ·rw [hik] at K
     refine Cl.s K fun w H => ?_
     replace H := H.pi [1, 2, 0, 3] 4
     simp only [pl, nth, drL] at H
     refine BB.no rfl (⟨.inr (H.pi [0, 1, 2, 3] 4), ?_⟩)
     have h1 := H.pi [1, 0, 2, 3] 4
     simp only [pl, nth, drL] at h1
     have K := yq_has (i := i) (k := k) (by omega) (by omega) (by omega) h1
     rw [hik] at K
     refine Cl.s K fun w H => ?_
     replace H := H.pi [1, 0, 2, 3] 4
     simp only [pl, nth, drL] at H
     refine BB.no rfl (⟨.inl rfl, ?_⟩)
     refine BB.no rfl (⟨.inl rfl, ?_⟩)
     refine Cn.no (⟨IW.i k ?_⟩)
     exact ⟨k + 1, ⟨rfl, trivial⟩, ⟨(by omega : k + 1 ≤ l.length), H⟩, (show l.length - (k + 1) < l.length - k by omega)⟩
    rw [hik] at K
    refine Cl.s K fun w H => ?_
    replace H := H.pi [1, 2, 0, 3] 4
    simp only [pl, nth, drL] at H
    refine BB.yes rfl (⟨.inr (H.pi [0, 1, 2, 3] 4), ?_⟩)
    have h1 := H.pi [1, 0, 2, 3] 4
    simp only [pl, nth, drL] at h1
    have K := yq_has (i := i) (k := k) (by omega) (by omega) (by omega) h1
    rw [hik] at K
    refine Cl.s K fun w H => ?_
    replace H := H.pi [1, 0, 2, 3] 4
    simp only [pl, nth, drL] at H
    refine BB.yes rfl (⟨.inl rfl, ?_⟩)
    refine BB.no rfl (⟨.inl rfl, ?_⟩)
    refine Cn.no (⟨IW.i k ?_⟩)
    exact ⟨k + 1, ⟨rfl, trivial⟩, ⟨(by omega : k + 1 ≤ l.length), H⟩, (show l.length - (k + 1) < l.length - k by omega)⟩
   have hob : k = l.length := by omega
   obtain rfl := hob
   refine ⟨BB.nd ?_⟩
   refine Cn.no (⟨IW.i i ?_⟩)
   exact ⟨i + 1, ⟨rfl, trivial⟩, ⟨(by omega : i + 1 ≤ l.length), H⟩, (show l.length - (i + 1) < l.length - i by omega)⟩
  have hob : i = l.length := by omega
  obtain rfl := hob
  refine ⟨BB.nd ?_⟩
  refine Cn.no (⟨?_⟩)
  have h1 := H.pi [3, 0, 1, 2] 4
  simp only [pl, nth, drL] at h1
  refine Cl.s (l_write hG h1) fun w H => ?_
  replace H := H.pi [1, 2, 3, 0] 4
  simp only [pl, nth, drL] at H
  refine BB.yes rfl (ret1 (.bool true) rfl (by rfl) ?_)
  exact ⟨rfl, H.pi [3] 4⟩
theorem axiomAhead_walk {v : Value} {l : List Ev} {W : World} (h : EvIn W v l) (hs : Spans W) : Calls Tryz.prog 5 #[v] W fun e w' => e = .returned (.bool true) ∧ Frm Nil W w' := by
 obtain ⟨a, cap, rfl, hc, hr⟩ := h
 have H := SL.start W
 have hG : SpansA (Old W) := fun w hw => hs.later (SL.old hw)
 have done : ∀ o w', (o = Ending.returned (.bool true) ∧ SL w' [Old W]) → o = .returned (.bool true) ∧ Frm Nil W w' := fun o w' q => ⟨q.1, SL.old q.2⟩
 by_cases h1 : 28 < l.length
 ·exact (axiomAhead_big hG h1 H).mono done
 ·rcases Nat.eq_zero_or_pos l.length with h0 | h0
  ·rw [h0]
   exact (axiomAhead_nil hG H).mono done
  ·obtain ⟨b, off, rfl, hcell⟩ := hr.2.2 h0
   have hA : EvA (Old W) b off l := EvA.of_rd (a := some ⟨b, off, none⟩) (fun S w hS => ⟨hr.1, hr.2.1, fun _ => ⟨b, off, rfl, fun i u hu => by
    have hw := hcell i u hu
    rw [World.cell?_of_block (w := W) (w' := w) ((hS.2.2.2 b (World.block_lt_of_cell? W _ hw)).2)]
    exact hw⟩⟩) rfl
   exact (axiomAhead_some (lc := cap) hA hG h0 hc (by omega) H).mono done
end Go.Proofs.YtoamjodmidbmbaaGreatDoor
