/- Texts of the proof, several in one file: LawR2. -/
import Derived.Test.YtoamjodmidbmbaaGreatDoorE22
set_option linter.unusedVariables false
set_option linter.unusedSimpArgs false
namespace Go.Proofs.YtoamjodmidbmbaaGreatDoor
open Go.RowKit
set_option maxRecDepth 100000
theorem eo_big {w : World} {F : List Piece} {A : Piece} {la : Option Addr} {n lc : Nat} {r z : Int} (hG : SpansA A) (hn : 30 < n) (H : SL w (A :: F)) : Calls Tryz.prog 4 #[.slice la n lc, .int .i64 r, .int .i64 z] w fun o w' => o = .returned (.bool true) ∧ SL w' (A :: F) := by
 refine calls_den (args := [_, _, _]) Tryz.func4 rfl (Nat.le_of_ble_eq_true (by kernel_rfl)) (by kernel_rfl) ?_
 refine ⟨⟨BB.yes (decide_eq_true (by omega)) ?_⟩⟩
 refine Cn.yes (⟨?_⟩)
 have h1 := H
 refine Cl.sl (by kernel_rfl) (l_five hG h1) fun w H => ?_
 refine BB.yes rfl (ret1 (.bool true) rfl (by rfl) ?_)
 exact ⟨rfl, H⟩
theorem eo_nil {w : World} {F : List Piece} {A : Piece} {la : Option Addr} {lc : Nat} {r z : Int} (hG : SpansA A) (H : SL w (A :: F)) : Calls Tryz.prog 4 #[.slice la 0 lc, .int .i64 r, .int .i64 z] w fun o w' => o = .returned (.bool true) ∧ SL w' (A :: F) := by
 by_cases hz1 : z < 0
 ·refine calls_den (args := [_, _, _]) Tryz.func4 rfl (Nat.le_of_ble_eq_true (by kernel_rfl)) (by kernel_rfl) ?_
  refine ⟨⟨BB.no rfl ?_⟩⟩
  refine Cn.no (⟨Cl.by (by kernel_rfl) (e_ofl_nil (r := r) H) ?_⟩)
  rintro _ w ⟨xa, xc, zs, rfl, H⟩
  refine ⟨_, rfl, ?_⟩
  refine ⟨Cl.sl (by kernel_rfl) (e_begins_nil (i := z) H) fun w H => ?_⟩
  refine ⟨Cl.sl (by kernel_rfl) (f_right_nil H) fun w H => ?_⟩
  refine BB.yes rfl (BB.no rfl (Cn.no (⟨⟨Cl.by (by kernel_rfl) (f_all24_nil H) ?_⟩⟩)))
  rintro _ w ⟨ya, yc, rfl, H⟩
  refine ⟨_, rfl, ?_⟩
  refine ⟨?_⟩
  have q := SL.slcNil 36 3 (H)
  refine den.loop (ι := Nat × Value) [(11, 11), (13, 13), (54, 66)] (by kernel_rfl) (fun (j, rv) => [(11, rv), (54, .int .i64 ↑j)]) (fun (j, rv) w => j ≤ 0 ∧ SL w (Slc 36 3 rv 0 [] :: Slc 36 3 (.slice ya 0 yc) 0 ([]) :: Slc 70 3 (.slice xa 0 xc) 0 zs :: A :: F)) (fun (j, rv) => 0 - j) (0, (.slice none 0 0)) ⟨rfl, rfl, trivial⟩ ⟨Nat.zero_le _, q⟩ ?_
  rintro ⟨j, rv⟩ s w ⟨hj0, H⟩
  have hob : j = 0 := by omega
  obtain rfl := hob
  have hob := SL.slcForm H
  obtain ⟨wa, wc, rfl⟩ := hob
  refine ⟨BB.no rfl ?_⟩
  refine Cn.no (⟨BB.yes (decide_eq_true (by omega)) ?_⟩)
  refine Cn.yes (⟨BB.yes rfl ?_⟩)
  refine BB.yes rfl (BB.yes rfl ?_)
  have h1 := H.pick [2, 0, 1, 3] 4 (by decide)
  simp only [pk, nth, pkA, pkB, pkC, pkD, pkE, pkF] at h1
  refine Cl.sl (by kernel_rfl) (l_same (L := []) (N := 0) (zs := zs) (List.take_zero) (Nat.le_refl _) (Nat.zero_le _) h1) fun w H => ?_
  replace H := H.pick [1, 2, 0, 3] 4 (by decide)
  simp only [pk, nth, pkA, pkB, pkC, pkD, pkE, pkF] at H
  refine BB.yes rfl ?_
  have h1 := H.pick [3, 0, 1, 2] 4 (by decide)
  simp only [pk, nth, pkA, pkB, pkC, pkD, pkE, pkF] at h1
  refine Cl.sl (by kernel_rfl) (l_five hG h1) fun w H => ?_
  replace H := H.pick [1, 2, 3, 0] 4 (by decide)
  simp only [pk, nth, pkA, pkB, pkC, pkD, pkE, pkF] at H
  refine BB.yes rfl (ret1 (.bool true) rfl (by rfl) ?_)
  exact ⟨rfl, H.pick [3] 4 (by decide)⟩
 refine calls_den (args := [_, _, _]) Tryz.func4 rfl (Nat.le_of_ble_eq_true (by kernel_rfl)) (by kernel_rfl) ?_
 refine ⟨⟨BB.no rfl ?_⟩⟩
 refine Cn.no (⟨Cl.by (by kernel_rfl) (e_ofl_nil (r := r) H) ?_⟩)
 rintro _ w ⟨xa, xc, zs, rfl, H⟩
 refine ⟨_, rfl, ?_⟩
 refine ⟨Cl.sl (by kernel_rfl) (e_begins_nil (i := z) H) fun w H => ?_⟩
 refine ⟨Cl.sl (by kernel_rfl) (f_right_nil H) fun w H => ?_⟩
 refine BB.yes rfl (BB.no rfl (Cn.no (⟨⟨Cl.by (by kernel_rfl) (f_all24_nil H) ?_⟩⟩)))
 rintro _ w ⟨ya, yc, rfl, H⟩
 refine ⟨_, rfl, ?_⟩
 refine ⟨?_⟩
 have q := SL.slcNil 36 3 (H)
 refine den.loop (ι := Nat × Value) [(11, 11), (13, 13), (54, 66)] (by kernel_rfl) (fun (j, rv) => [(11, rv), (54, .int .i64 ↑j)]) (fun (j, rv) w => j ≤ 0 ∧ SL w (Slc 36 3 rv 0 [] :: Slc 36 3 (.slice ya 0 yc) 0 ([]) :: Slc 70 3 (.slice xa 0 xc) 0 zs :: A :: F)) (fun (j, rv) => 0 - j) (0, (.slice none 0 0)) ⟨rfl, rfl, trivial⟩ ⟨Nat.zero_le _, q⟩ ?_
 rintro ⟨j, rv⟩ s w ⟨hj0, H⟩
 have hob : j = 0 := by omega
 obtain rfl := hob
 have hob := SL.slcForm H
 obtain ⟨wa, wc, rfl⟩ := hob
 refine ⟨BB.no rfl ?_⟩
 refine Cn.no (⟨BB.no (decide_eq_false (by omega)) ?_⟩)
 refine BB.yes (decide_eq_true (by omega)) (Cn.yes (⟨BB.yes rfl ?_⟩))
 refine BB.yes rfl (BB.yes rfl ?_)
 have h1 := H.pick [2, 0, 1, 3] 4 (by decide)
 simp only [pk, nth, pkA, pkB, pkC, pkD, pkE, pkF] at h1
 refine Cl.sl (by kernel_rfl) (l_same (L := []) (N := 0) (zs := zs) (List.take_zero) (Nat.le_refl _) (Nat.zero_le _) h1) fun w H => ?_
 replace H := H.pick [1, 2, 0, 3] 4 (by decide)
 simp only [pk, nth, pkA, pkB, pkC, pkD, pkE, pkF] at H
 refine BB.yes rfl ?_
 have h1 := H.pick [3, 0, 1, 2] 4 (by decide)
 simp only [pk, nth, pkA, pkB, pkC, pkD, pkE, pkF] at h1
 refine Cl.sl (by kernel_rfl) (l_five hG h1) fun w H => ?_
 replace H := H.pick [1, 2, 3, 0] 4 (by decide)
 simp only [pk, nth, pkA, pkB, pkC, pkD, pkE, pkF] at H
 refine BB.yes rfl (ret1 (.bool true) rfl (by rfl) ?_)
 exact ⟨rfl, H.pick [3] 4 (by decide)⟩
set_option maxHeartbeats 1000000 in
theorem eo_bad {w : World} {F : List Piece} {A : Piece} {lb lo lc : Nat} {l : List Ev} (hA : EvA A lb lo l) (hG : SpansA A) (h0 : 0 < l.length) (hlc : l.length ≤ lc) {r z : Int} (hz0 : z < 0 ∨ (l.length : Int) ≤ z) (hr : rightF l = true) (hR : RtL l) (hal : (allE l).length ≤ 100000000) (hll : l.length ≤ 30) (H : SL w (A :: F)) : Calls Tryz.prog 4 #[.slice (some ⟨lb, lo, none⟩) l.length lc, .int .i64 r, .int .i64 z] w fun o w' => o = .returned (.bool true) ∧ SL w' (A :: F) := by
 by_cases hz1 : z < 0
 ·refine calls_den (args := [_, _, _]) Tryz.func4 rfl (Nat.le_of_ble_eq_true (by kernel_rfl)) (by kernel_rfl) ?_
  refine ⟨⟨BB.no (decide_eq_false (by omega)) ?_⟩⟩
  refine Cn.no (⟨?_⟩)
  have h1 := H
  refine Cl.by (by kernel_rfl) (e_ofl (r := r) hA hG h0 (by omega) hr h1) ?_
  rintro _ w ⟨xa, xc, zs, rfl, hfl, hz, H⟩
  refine ⟨_, rfl, ?_⟩
  refine ⟨?_⟩
  have h1 := H.pick [1, 0] 2 (by decide)
  simp only [pk, nth, pkA, pkB, pkC, pkD, pkE, pkF] at h1
  refine Cl.sl (by kernel_rfl) (e_begins_bad (i := z) hA hG h0 (by omega) hz0 hr h1) fun w H => ?_
  replace H := H.pick [1, 0] 2 (by decide)
  simp only [pk, nth, pkA, pkB, pkC, pkD, pkE, pkF] at H
  refine ⟨?_⟩
  have h1 := H.pick [1, 0] 2 (by decide)
  simp only [pk, nth, pkA, pkB, pkC, pkD, pkE, pkF] at h1
  have K := f_right (lc := lc) hA hlc h0 (by omega) h1
  rw [hr] at K
  refine Cl.sl (by kernel_rfl) K fun w H => ?_
  replace H := H.pick [1, 0] 2 (by decide)
  simp only [pk, nth, pkA, pkB, pkC, pkD, pkE, pkF] at H
  refine BB.yes rfl (BB.no rfl (Cn.no (⟨⟨?_⟩⟩)))
  have h1 := H.pick [1, 0] 2 (by decide)
  simp only [pk, nth, pkA, pkB, pkC, pkD, pkE, pkF] at h1
  have K := f_all24 (lc := lc) hA hR (by omega) h1
  rw [← all_ref hR] at K
  refine Cl.by (by kernel_rfl) (K) ?_
  rintro _ w ⟨ya, yc, rfl, H⟩
  refine ⟨_, rfl, ?_⟩
  replace H := H.pick [0, 2, 1] 3 (by decide)
  simp only [pk, nth, pkA, pkB, pkC, pkD, pkE, pkF] at H
  refine ⟨?_⟩
  have q := SL.slcNil 36 3 (H)
  refine den.loop (ι := Nat × Value) [(11, 11), (13, 13), (54, 66)] (by kernel_rfl) (fun (j, rv) => [(11, rv), (54, .int .i64 ↑j)]) (fun (j, rv) w => j ≤ (allE l).length ∧ SL w (Slc 36 3 rv (((allE l).take j).filter (fun x : Edg => (x.rule : Int) == r)).length ((((allE l).take j).filter (fun x : Edg => (x.rule : Int) == r)).flatMap Edg.cells) :: Slc 36 3 (.slice ya ((allE l).length) yc) ((allE l).length) ((allE l).flatMap Edg.cells) :: Slc 70 3 (.slice xa ((allE l).length) xc) ((allE l).length) zs :: A :: F)) (fun (j, rv) => (allE l).length - j) (0, (.slice none 0 0)) ⟨rfl, rfl, trivial⟩ ⟨Nat.zero_le _, q⟩ ?_
  rintro ⟨j, rv⟩ s w ⟨hj0, H⟩
  have hob := Nat.lt_or_ge j (allE l).length
  rcases hob with hj | hj
  ·have hob : ∃ e, (allE l)[j]? = some e := ⟨_, List.getElem?_eq_getElem hj⟩
   obtain ⟨e, hez⟩ := hob
   have hob := SL.slcAddr H.up1 (by omega)
   obtain ⟨yb, rfl⟩ := hob
   have hob := SL.slcForm H
   obtain ⟨wa, wc, rfl⟩ := hob
   have hwl : (((allE l).take j).filter (fun x : Edg => (x.rule : Int) == r)).length ≤ 100000000 := Nat.le_trans (List.length_filter_le _ _) (Nat.le_trans (by rw [List.length_take]; exact Nat.min_le_right _ _) hal)
   refine ⟨BB.yes (decide_eq_true (by omega)) ?_⟩
   refine Cn.yes (⟨⟨Ix.at0 j 3 (by kernel_rfl) (rfl) (hj) ?_⟩⟩)
   refine H.ldS 1 rfl (v := .int .i64 ↑e.src) ((edg_at hez 0 (by decide)).trans rfl) (H.ldS 1 rfl (v := .int .i64 ↑e.dst) ((edg_at hez 1 (by decide)).trans rfl) (H.ldS 1 rfl (v := .int .i64 ↑e.rule) ((edg_at hez 2 (by decide)).trans rfl) (Nw.as #[.int .i64 0, .int .i64 0, .int .i64 0] 36 rfl H fun b13 w H => ?_)))
   refine H.st0 (cs' := #[.int .i64 ↑e.src, .int .i64 0, .int .i64 0]) rfl rfl rfl fun w H => ?_
   refine H.st0 (cs' := #[.int .i64 ↑e.src, .int .i64 ↑e.dst, .int .i64 0]) rfl rfl rfl fun w H => ?_
   refine H.st0 (cs' := #[.int .i64 ↑e.src, .int .i64 ↑e.dst, .int .i64 ↑e.rule]) rfl rfl rfl fun w H => ?_
   refine ⟨H.ldi 0 rfl (v := .int .i64 ↑e.rule) rfl ?_⟩
   refine BB.vr fun q1 e1 => ?_
   cases q1
   ·have h1 := beq_eq_false_iff_ne.1 e1
    refine Cn.no (⟨IW.by (wrap_id (n := ↑j + 1) (by omega) (by omega)) ?_⟩)
    have q : SL w (Slc 36 3 (.slice wa ((((allE l).take j).filter (fun x : Edg => (x.rule : Int) == r)).length) wc) (((allE l).take (j + 1)).filter (fun x : Edg => (x.rule : Int) == r)).length ((((allE l).take (j + 1)).filter (fun x : Edg => (x.rule : Int) == r)).flatMap Edg.cells) :: Slc 36 3 (.slice (some ⟨yb, 0, none⟩) ((allE l).length) yc) ((allE l).length) ((allE l).flatMap Edg.cells) :: Slc 70 3 (.slice xa ((allE l).length) xc) ((allE l).length) zs :: A :: F) := by
     rw [filt_snocE hez, if_neg (fun hh => by have := beq_iff_eq.1 hh; omega), List.append_nil]
     exact H.pick [1, 2, 3, 4] 5 (by decide)
    exact ⟨(j + 1, (.slice wa ((((allE l).take j).filter (fun x : Edg => (x.rule : Int) == r)).length) wc)), ⟨rfl, rfl, trivial⟩, ⟨(by omega : j + 1 ≤ (allE l).length), q⟩, (show (allE l).length - (j + 1) < (allE l).length - j by omega)⟩
   have h1 := eq_of_beq e1
   refine Cn.yes (⟨H.ldi 0 rfl (v := .int .i64 ↑e.src) rfl ?_⟩)
   refine H.ldi 0 rfl (v := .int .i64 ↑e.dst) rfl (H.ldi 0 rfl (v := .int .i64 ↑e.rule) rfl (Mn.new (fun b => .slice (some ⟨b, 0, none⟩) 1 1) #[.int .i64 ↑e.src, .int .i64 ↑e.dst, .int .i64 ↑e.rule] 36 (by kernel_rfl) H fun b64 w H => ?_))
   refine SL.appS H.up2 (.tmp 62) (.tmp 64) 30 (.agg #[.int .i64 0, .int .i64 0, .int .i64 0]) 24 (by rfl) (by kernel_rfl) (by kernel_rfl) (by rfl) (by decide) (by rfl) (some ⟨b64, 0, none⟩) 1 1 [.int .i64 ↑e.src, .int .i64 ↑e.dst, .int .i64 ↑e.rule] (by rfl) (H.rdRow 0 rfl (by rfl) (by decide)) (by rfl) (by omega) (by decide) (by decide) fun g2 c2 w H => ?_
   refine ⟨IW.by (wrap_id (n := ↑j + 1) (by omega) (by omega)) ?_⟩
   have q : SL w (Slc 36 3 (.slice (some ⟨g2, 0, none⟩) ((((allE l).take j).filter (fun x : Edg => (x.rule : Int) == r)).length + 1) c2) (((allE l).take (j + 1)).filter (fun x : Edg => (x.rule : Int) == r)).length ((((allE l).take (j + 1)).filter (fun x : Edg => (x.rule : Int) == r)).flatMap Edg.cells) :: Slc 36 3 (.slice (some ⟨yb, 0, none⟩) ((allE l).length) yc) ((allE l).length) ((allE l).flatMap Edg.cells) :: Slc 70 3 (.slice xa ((allE l).length) xc) ((allE l).length) zs :: A :: F) := by
    rw [filt_snocE hez, if_pos (beq_iff_eq.2 (by omega)), List.flatMap_append, List.length_append]
    exact H.pick [0, 3, 4, 5] 6 (by decide)
   exact ⟨(j + 1, (.slice (some ⟨g2, 0, none⟩) ((((allE l).take j).filter (fun x : Edg => (x.rule : Int) == r)).length + 1) c2)), ⟨rfl, rfl, trivial⟩, ⟨(by omega : j + 1 ≤ (allE l).length), q⟩, (show (allE l).length - (j + 1) < (allE l).length - j by omega)⟩
  have hob : j = (allE l).length := by omega
  obtain rfl := hob
  rw [List.take_length] at H
  have hob := SL.slcForm H
  obtain ⟨wa, wc, rfl⟩ := hob
  refine ⟨BB.no (decide_eq_false (by omega)) ?_⟩
  refine Cn.no (⟨BB.yes (decide_eq_true (by omega)) ?_⟩)
  refine Cn.yes (⟨BB.yes rfl ?_⟩)
  refine BB.yes rfl (BB.yes rfl ?_)
  have h1 := H.pick [2, 0, 1, 3] 4 (by decide)
  simp only [pk, nth, pkA, pkB, pkC, pkD, pkE, pkF] at h1
  refine Cl.sl (by kernel_rfl) (l_same (L := ((allE l).filter (fun x : Edg => (x.rule : Int) == r))) (N := (allE l).length) (zs := zs) (hz) (hfl) (Nat.le_trans hfl hal) h1) fun w H => ?_
  replace H := H.pick [1, 2, 0, 3] 4 (by decide)
  simp only [pk, nth, pkA, pkB, pkC, pkD, pkE, pkF] at H
  refine BB.yes rfl ?_
  have h1 := H.pick [3, 0, 1, 2] 4 (by decide)
  simp only [pk, nth, pkA, pkB, pkC, pkD, pkE, pkF] at h1
  refine Cl.sl (by kernel_rfl) (l_five hG h1) fun w H => ?_
  replace H := H.pick [1, 2, 3, 0] 4 (by decide)
  simp only [pk, nth, pkA, pkB, pkC, pkD, pkE, pkF] at H
  refine BB.yes rfl (ret1 (.bool true) rfl (by rfl) ?_)
  exact ⟨rfl, H.pick [3] 4 (by decide)⟩
 refine calls_den (args := [_, _, _]) Tryz.func4 rfl (Nat.le_of_ble_eq_true (by kernel_rfl)) (by kernel_rfl) ?_
 refine ⟨⟨BB.no (decide_eq_false (by omega)) ?_⟩⟩
 refine Cn.no (⟨?_⟩)
 have h1 := H
 refine Cl.by (by kernel_rfl) (e_ofl (r := r) hA hG h0 (by omega) hr h1) ?_
 rintro _ w ⟨xa, xc, zs, rfl, hfl, hz, H⟩
 refine ⟨_, rfl, ?_⟩
 refine ⟨?_⟩
 have h1 := H.pick [1, 0] 2 (by decide)
 simp only [pk, nth, pkA, pkB, pkC, pkD, pkE, pkF] at h1
 refine Cl.sl (by kernel_rfl) (e_begins_bad (i := z) hA hG h0 (by omega) hz0 hr h1) fun w H => ?_
 replace H := H.pick [1, 0] 2 (by decide)
 simp only [pk, nth, pkA, pkB, pkC, pkD, pkE, pkF] at H
 refine ⟨?_⟩
 have h1 := H.pick [1, 0] 2 (by decide)
 simp only [pk, nth, pkA, pkB, pkC, pkD, pkE, pkF] at h1
 have K := f_right (lc := lc) hA hlc h0 (by omega) h1
 rw [hr] at K
 refine Cl.sl (by kernel_rfl) K fun w H => ?_
 replace H := H.pick [1, 0] 2 (by decide)
 simp only [pk, nth, pkA, pkB, pkC, pkD, pkE, pkF] at H
 refine BB.yes rfl (BB.no rfl (Cn.no (⟨⟨?_⟩⟩)))
 have h1 := H.pick [1, 0] 2 (by decide)
 simp only [pk, nth, pkA, pkB, pkC, pkD, pkE, pkF] at h1
 have K := f_all24 (lc := lc) hA hR (by omega) h1
 rw [← all_ref hR] at K
 refine Cl.by (by kernel_rfl) (K) ?_
 rintro _ w ⟨ya, yc, rfl, H⟩
 refine ⟨_, rfl, ?_⟩
 replace H := H.pick [0, 2, 1] 3 (by decide)
 simp only [pk, nth, pkA, pkB, pkC, pkD, pkE, pkF] at H
 refine ⟨?_⟩
 have q := SL.slcNil 36 3 (H)
 refine den.loop (ι := Nat × Value) [(11, 11), (13, 13), (54, 66)] (by kernel_rfl) (fun (j, rv) => [(11, rv), (54, .int .i64 ↑j)]) (fun (j, rv) w => j ≤ (allE l).length ∧ SL w (Slc 36 3 rv (((allE l).take j).filter (fun x : Edg => (x.rule : Int) == r)).length ((((allE l).take j).filter (fun x : Edg => (x.rule : Int) == r)).flatMap Edg.cells) :: Slc 36 3 (.slice ya ((allE l).length) yc) ((allE l).length) ((allE l).flatMap Edg.cells) :: Slc 70 3 (.slice xa ((allE l).length) xc) ((allE l).length) zs :: A :: F)) (fun (j, rv) => (allE l).length - j) (0, (.slice none 0 0)) ⟨rfl, rfl, trivial⟩ ⟨Nat.zero_le _, q⟩ ?_
 rintro ⟨j, rv⟩ s w ⟨hj0, H⟩
 have hob := Nat.lt_or_ge j (allE l).length
 rcases hob with hj | hj
 ·have hob : ∃ e, (allE l)[j]? = some e := ⟨_, List.getElem?_eq_getElem hj⟩
  obtain ⟨e, hez⟩ := hob
  have hob := SL.slcAddr H.up1 (by omega)
  obtain ⟨yb, rfl⟩ := hob
  have hob := SL.slcForm H
  obtain ⟨wa, wc, rfl⟩ := hob
  have hwl : (((allE l).take j).filter (fun x : Edg => (x.rule : Int) == r)).length ≤ 100000000 := Nat.le_trans (List.length_filter_le _ _) (Nat.le_trans (by rw [List.length_take]; exact Nat.min_le_right _ _) hal)
  refine ⟨BB.yes (decide_eq_true (by omega)) ?_⟩
  refine Cn.yes (⟨⟨Ix.at0 j 3 (by kernel_rfl) (rfl) (hj) ?_⟩⟩)
  refine H.ldS 1 rfl (v := .int .i64 ↑e.src) ((edg_at hez 0 (by decide)).trans rfl) (H.ldS 1 rfl (v := .int .i64 ↑e.dst) ((edg_at hez 1 (by decide)).trans rfl) (H.ldS 1 rfl (v := .int .i64 ↑e.rule) ((edg_at hez 2 (by decide)).trans rfl) (Nw.as #[.int .i64 0, .int .i64 0, .int .i64 0] 36 rfl H fun b13 w H => ?_)))
  refine H.st0 (cs' := #[.int .i64 ↑e.src, .int .i64 0, .int .i64 0]) rfl rfl rfl fun w H => ?_
  refine H.st0 (cs' := #[.int .i64 ↑e.src, .int .i64 ↑e.dst, .int .i64 0]) rfl rfl rfl fun w H => ?_
  refine H.st0 (cs' := #[.int .i64 ↑e.src, .int .i64 ↑e.dst, .int .i64 ↑e.rule]) rfl rfl rfl fun w H => ?_
  refine ⟨H.ldi 0 rfl (v := .int .i64 ↑e.rule) rfl ?_⟩
  refine BB.vr fun q1 e1 => ?_
  cases q1
  ·have h1 := beq_eq_false_iff_ne.1 e1
   refine Cn.no (⟨IW.by (wrap_id (n := ↑j + 1) (by omega) (by omega)) ?_⟩)
   have q : SL w (Slc 36 3 (.slice wa ((((allE l).take j).filter (fun x : Edg => (x.rule : Int) == r)).length) wc) (((allE l).take (j + 1)).filter (fun x : Edg => (x.rule : Int) == r)).length ((((allE l).take (j + 1)).filter (fun x : Edg => (x.rule : Int) == r)).flatMap Edg.cells) :: Slc 36 3 (.slice (some ⟨yb, 0, none⟩) ((allE l).length) yc) ((allE l).length) ((allE l).flatMap Edg.cells) :: Slc 70 3 (.slice xa ((allE l).length) xc) ((allE l).length) zs :: A :: F) := by
    rw [filt_snocE hez, if_neg (fun hh => by have := beq_iff_eq.1 hh; omega), List.append_nil]
    exact H.pick [1, 2, 3, 4] 5 (by decide)
   exact ⟨(j + 1, (.slice wa ((((allE l).take j).filter (fun x : Edg => (x.rule : Int) == r)).length) wc)), ⟨rfl, rfl, trivial⟩, ⟨(by omega : j + 1 ≤ (allE l).length), q⟩, (show (allE l).length - (j + 1) < (allE l).length - j by omega)⟩
  have h1 := eq_of_beq e1
  refine Cn.yes (⟨H.ldi 0 rfl (v := .int .i64 ↑e.src) rfl ?_⟩)
  refine H.ldi 0 rfl (v := .int .i64 ↑e.dst) rfl (H.ldi 0 rfl (v := .int .i64 ↑e.rule) rfl (Mn.new (fun b => .slice (some ⟨b, 0, none⟩) 1 1) #[.int .i64 ↑e.src, .int .i64 ↑e.dst, .int .i64 ↑e.rule] 36 (by kernel_rfl) H fun b64 w H => ?_))
  refine SL.appS H.up2 (.tmp 62) (.tmp 64) 30 (.agg #[.int .i64 0, .int .i64 0, .int .i64 0]) 24 (by rfl) (by kernel_rfl) (by kernel_rfl) (by rfl) (by decide) (by rfl) (some ⟨b64, 0, none⟩) 1 1 [.int .i64 ↑e.src, .int .i64 ↑e.dst, .int .i64 ↑e.rule] (by rfl) (H.rdRow 0 rfl (by rfl) (by decide)) (by rfl) (by omega) (by decide) (by decide) fun g2 c2 w H => ?_
  refine ⟨IW.by (wrap_id (n := ↑j + 1) (by omega) (by omega)) ?_⟩
  have q : SL w (Slc 36 3 (.slice (some ⟨g2, 0, none⟩) ((((allE l).take j).filter (fun x : Edg => (x.rule : Int) == r)).length + 1) c2) (((allE l).take (j + 1)).filter (fun x : Edg => (x.rule : Int) == r)).length ((((allE l).take (j + 1)).filter (fun x : Edg => (x.rule : Int) == r)).flatMap Edg.cells) :: Slc 36 3 (.slice (some ⟨yb, 0, none⟩) ((allE l).length) yc) ((allE l).length) ((allE l).flatMap Edg.cells) :: Slc 70 3 (.slice xa ((allE l).length) xc) ((allE l).length) zs :: A :: F) := by
   rw [filt_snocE hez, if_pos (beq_iff_eq.2 (by omega)), List.flatMap_append, List.length_append]
   exact H.pick [0, 3, 4, 5] 6 (by decide)
  exact ⟨(j + 1, (.slice (some ⟨g2, 0, none⟩) ((((allE l).take j).filter (fun x : Edg => (x.rule : Int) == r)).length + 1) c2)), ⟨rfl, rfl, trivial⟩, ⟨(by omega : j + 1 ≤ (allE l).length), q⟩, (show (allE l).length - (j + 1) < (allE l).length - j by omega)⟩
 have hob : j = (allE l).length := by omega
 obtain rfl := hob
 rw [List.take_length] at H
 have hob := SL.slcForm H
 obtain ⟨wa, wc, rfl⟩ := hob
 refine ⟨BB.no (decide_eq_false (by omega)) ?_⟩
 refine Cn.no (⟨BB.no (decide_eq_false (by omega)) ?_⟩)
 refine BB.yes (decide_eq_true (by omega)) (Cn.yes (⟨BB.yes rfl ?_⟩))
 refine BB.yes rfl (BB.yes rfl ?_)
 have h1 := H.pick [2, 0, 1, 3] 4 (by decide)
 simp only [pk, nth, pkA, pkB, pkC, pkD, pkE, pkF] at h1
 refine Cl.sl (by kernel_rfl) (l_same (L := ((allE l).filter (fun x : Edg => (x.rule : Int) == r))) (N := (allE l).length) (zs := zs) (hz) (hfl) (Nat.le_trans hfl hal) h1) fun w H => ?_
 replace H := H.pick [1, 2, 0, 3] 4 (by decide)
 simp only [pk, nth, pkA, pkB, pkC, pkD, pkE, pkF] at H
 refine BB.yes rfl ?_
 have h1 := H.pick [3, 0, 1, 2] 4 (by decide)
 simp only [pk, nth, pkA, pkB, pkC, pkD, pkE, pkF] at h1
 refine Cl.sl (by kernel_rfl) (l_five hG h1) fun w H => ?_
 replace H := H.pick [1, 2, 3, 0] 4 (by decide)
 simp only [pk, nth, pkA, pkB, pkC, pkD, pkE, pkF] at H
 refine BB.yes rfl (ret1 (.bool true) rfl (by rfl) ?_)
 exact ⟨rfl, H.pick [3] 4 (by decide)⟩
set_option maxHeartbeats 1000000 in
theorem eo_in {w : World} {F : List Piece} {A : Piece} {lb lo lc : Nat} {l : List Ev} (hA : EvA A lb lo l) (hG : SpansA A) (h0 : 0 < l.length) (hlc : l.length ≤ lc) {r : Int} {z : Nat} (hz0 : z < l.length) (hr : rightF l = true) (hR : RtL l) (hal : (allE l).length ≤ 100000000) (hll : l.length ≤ 30) (H : SL w (A :: F)) : Calls Tryz.prog 4 #[.slice (some ⟨lb, lo, none⟩) l.length lc, .int .i64 r, .int .i64 (z : Int)] w fun o w' => o = .returned (.bool true) ∧ SL w' (A :: F) := by
 refine calls_den (args := [_, _, _]) Tryz.func4 rfl (Nat.le_of_ble_eq_true (by kernel_rfl)) (by kernel_rfl) ?_
 refine ⟨⟨BB.no (decide_eq_false (by omega)) ?_⟩⟩
 refine Cn.no (⟨?_⟩)
 have h1 := H
 refine Cl.by (by kernel_rfl) (e_ofl (r := r) hA hG h0 (by omega) hr h1) ?_
 rintro _ w ⟨xa, xc, zs, rfl, hfl, hz, H⟩
 refine ⟨_, rfl, ?_⟩
 refine ⟨?_⟩
 have h1 := H.pick [1, 0] 2 (by decide)
 simp only [pk, nth, pkA, pkB, pkC, pkD, pkE, pkF] at h1
 refine Cl.sl (by kernel_rfl) (e_begins (i := z) hA hG h0 (by omega) hz0 hr h1) fun w H => ?_
 replace H := H.pick [1, 0] 2 (by decide)
 simp only [pk, nth, pkA, pkB, pkC, pkD, pkE, pkF] at H
 refine ⟨?_⟩
 have h1 := H.pick [1, 0] 2 (by decide)
 simp only [pk, nth, pkA, pkB, pkC, pkD, pkE, pkF] at h1
 have K := f_right (lc := lc) hA hlc h0 (by omega) h1
 rw [hr] at K
 refine Cl.sl (by kernel_rfl) K fun w H => ?_
 replace H := H.pick [1, 0] 2 (by decide)
 simp only [pk, nth, pkA, pkB, pkC, pkD, pkE, pkF] at H
 refine BB.yes rfl (BB.no rfl (Cn.no (⟨⟨?_⟩⟩)))
 have h1 := H.pick [1, 0] 2 (by decide)
 simp only [pk, nth, pkA, pkB, pkC, pkD, pkE, pkF] at h1
 have K := f_all24 (lc := lc) hA hR (by omega) h1
 rw [← all_ref hR] at K
 refine Cl.by (by kernel_rfl) (K) ?_
 rintro _ w ⟨ya, yc, rfl, H⟩
 refine ⟨_, rfl, ?_⟩
 replace H := H.pick [0, 2, 1] 3 (by decide)
 simp only [pk, nth, pkA, pkB, pkC, pkD, pkE, pkF] at H
 refine ⟨?_⟩
 have q := SL.slcNil 36 3 (H)
 refine den.loop (ι := Nat × Value) [(11, 11), (13, 13), (54, 66)] (by kernel_rfl) (fun (j, rv) => [(11, rv), (54, .int .i64 ↑j)]) (fun (j, rv) w => j ≤ (allE l).length ∧ SL w (Slc 36 3 rv (((allE l).take j).filter (fun x : Edg => (x.rule : Int) == r)).length ((((allE l).take j).filter (fun x : Edg => (x.rule : Int) == r)).flatMap Edg.cells) :: Slc 36 3 (.slice ya ((allE l).length) yc) ((allE l).length) ((allE l).flatMap Edg.cells) :: Slc 70 3 (.slice xa ((allE l).length) xc) ((allE l).length) zs :: A :: F)) (fun (j, rv) => (allE l).length - j) (0, (.slice none 0 0)) ⟨rfl, rfl, trivial⟩ ⟨Nat.zero_le _, q⟩ ?_
 rintro ⟨j, rv⟩ s w ⟨hj0, H⟩
 have hob := Nat.lt_or_ge j (allE l).length
 rcases hob with hj | hj
 ·have hob : ∃ e, (allE l)[j]? = some e := ⟨_, List.getElem?_eq_getElem hj⟩
  obtain ⟨e, hez⟩ := hob
  have hob := SL.slcAddr H.up1 (by omega)
  obtain ⟨yb, rfl⟩ := hob
  have hob := SL.slcForm H
  obtain ⟨wa, wc, rfl⟩ := hob
  have hwl : (((allE l).take j).filter (fun x : Edg => (x.rule : Int) == r)).length ≤ 100000000 := Nat.le_trans (List.length_filter_le _ _) (Nat.le_trans (by rw [List.length_take]; exact Nat.min_le_right _ _) hal)
  refine ⟨BB.yes (decide_eq_true (by omega)) ?_⟩
  refine Cn.yes (⟨⟨Ix.at0 j 3 (by kernel_rfl) (rfl) (hj) ?_⟩⟩)
  refine H.ldS 1 rfl (v := .int .i64 ↑e.src) ((edg_at hez 0 (by decide)).trans rfl) (H.ldS 1 rfl (v := .int .i64 ↑e.dst) ((edg_at hez 1 (by decide)).trans rfl) (H.ldS 1 rfl (v := .int .i64 ↑e.rule) ((edg_at hez 2 (by decide)).trans rfl) (Nw.as #[.int .i64 0, .int .i64 0, .int .i64 0] 36 rfl H fun b13 w H => ?_)))
  refine H.st0 (cs' := #[.int .i64 ↑e.src, .int .i64 0, .int .i64 0]) rfl rfl rfl fun w H => ?_
  refine H.st0 (cs' := #[.int .i64 ↑e.src, .int .i64 ↑e.dst, .int .i64 0]) rfl rfl rfl fun w H => ?_
  refine H.st0 (cs' := #[.int .i64 ↑e.src, .int .i64 ↑e.dst, .int .i64 ↑e.rule]) rfl rfl rfl fun w H => ?_
  refine ⟨H.ldi 0 rfl (v := .int .i64 ↑e.rule) rfl ?_⟩
  refine BB.vr fun q1 e1 => ?_
  cases q1
  ·have h1 := beq_eq_false_iff_ne.1 e1
   refine Cn.no (⟨IW.by (wrap_id (n := ↑j + 1) (by omega) (by omega)) ?_⟩)
   have q : SL w (Slc 36 3 (.slice wa ((((allE l).take j).filter (fun x : Edg => (x.rule : Int) == r)).length) wc) (((allE l).take (j + 1)).filter (fun x : Edg => (x.rule : Int) == r)).length ((((allE l).take (j + 1)).filter (fun x : Edg => (x.rule : Int) == r)).flatMap Edg.cells) :: Slc 36 3 (.slice (some ⟨yb, 0, none⟩) ((allE l).length) yc) ((allE l).length) ((allE l).flatMap Edg.cells) :: Slc 70 3 (.slice xa ((allE l).length) xc) ((allE l).length) zs :: A :: F) := by
    rw [filt_snocE hez, if_neg (fun hh => by have := beq_iff_eq.1 hh; omega), List.append_nil]
    exact H.pick [1, 2, 3, 4] 5 (by decide)
   exact ⟨(j + 1, (.slice wa ((((allE l).take j).filter (fun x : Edg => (x.rule : Int) == r)).length) wc)), ⟨rfl, rfl, trivial⟩, ⟨(by omega : j + 1 ≤ (allE l).length), q⟩, (show (allE l).length - (j + 1) < (allE l).length - j by omega)⟩
  have h1 := eq_of_beq e1
  refine Cn.yes (⟨H.ldi 0 rfl (v := .int .i64 ↑e.src) rfl ?_⟩)
  refine H.ldi 0 rfl (v := .int .i64 ↑e.dst) rfl (H.ldi 0 rfl (v := .int .i64 ↑e.rule) rfl (Mn.new (fun b => .slice (some ⟨b, 0, none⟩) 1 1) #[.int .i64 ↑e.src, .int .i64 ↑e.dst, .int .i64 ↑e.rule] 36 (by kernel_rfl) H fun b64 w H => ?_))
  refine SL.appS H.up2 (.tmp 62) (.tmp 64) 30 (.agg #[.int .i64 0, .int .i64 0, .int .i64 0]) 24 (by rfl) (by kernel_rfl) (by kernel_rfl) (by rfl) (by decide) (by rfl) (some ⟨b64, 0, none⟩) 1 1 [.int .i64 ↑e.src, .int .i64 ↑e.dst, .int .i64 ↑e.rule] (by rfl) (H.rdRow 0 rfl (by rfl) (by decide)) (by rfl) (by omega) (by decide) (by decide) fun g2 c2 w H => ?_
  refine ⟨IW.by (wrap_id (n := ↑j + 1) (by omega) (by omega)) ?_⟩
  have q : SL w (Slc 36 3 (.slice (some ⟨g2, 0, none⟩) ((((allE l).take j).filter (fun x : Edg => (x.rule : Int) == r)).length + 1) c2) (((allE l).take (j + 1)).filter (fun x : Edg => (x.rule : Int) == r)).length ((((allE l).take (j + 1)).filter (fun x : Edg => (x.rule : Int) == r)).flatMap Edg.cells) :: Slc 36 3 (.slice (some ⟨yb, 0, none⟩) ((allE l).length) yc) ((allE l).length) ((allE l).flatMap Edg.cells) :: Slc 70 3 (.slice xa ((allE l).length) xc) ((allE l).length) zs :: A :: F) := by
   rw [filt_snocE hez, if_pos (beq_iff_eq.2 (by omega)), List.flatMap_append, List.length_append]
   exact H.pick [0, 3, 4, 5] 6 (by decide)
  exact ⟨(j + 1, (.slice (some ⟨g2, 0, none⟩) ((((allE l).take j).filter (fun x : Edg => (x.rule : Int) == r)).length + 1) c2)), ⟨rfl, rfl, trivial⟩, ⟨(by omega : j + 1 ≤ (allE l).length), q⟩, (show (allE l).length - (j + 1) < (allE l).length - j by omega)⟩
 have hob : j = (allE l).length := by omega
 obtain rfl := hob
 rw [List.take_length] at H
 have hob := SL.slcForm H
 obtain ⟨wa, wc, rfl⟩ := hob
 refine ⟨BB.no (decide_eq_false (by omega)) ?_⟩
 refine Cn.no (⟨BB.no (decide_eq_false (by omega)) ?_⟩)
 refine BB.no (decide_eq_false (by omega)) (Cn.no (⟨BB.yes rfl ?_⟩))
 refine BB.yes rfl ?_
 have h1 := H.pick [3, 0, 1, 2] 4 (by decide)
 simp only [pk, nth, pkA, pkB, pkC, pkD, pkE, pkF] at h1
 refine Cl.sl (by kernel_rfl) (f_begins (i := z) (lc := lc) hA hz0 (by omega) h1) fun w H => ?_
 replace H := H.pick [1, 2, 3, 0] 4 (by decide)
 simp only [pk, nth, pkA, pkB, pkC, pkD, pkE, pkF] at H
 refine BB.yes (beq_self_eq_true _) ?_
 have h1 := H.pick [2, 0, 1, 3] 4 (by decide)
 simp only [pk, nth, pkA, pkB, pkC, pkD, pkE, pkF] at h1
 refine Cl.sl (by kernel_rfl) (l_same (L := ((allE l).filter (fun x : Edg => (x.rule : Int) == r))) (N := (allE l).length) (zs := zs) (hz) (hfl) (Nat.le_trans hfl hal) h1) fun w H => ?_
 replace H := H.pick [1, 2, 0, 3] 4 (by decide)
 simp only [pk, nth, pkA, pkB, pkC, pkD, pkE, pkF] at H
 refine BB.yes rfl ?_
 have h1 := H.pick [3, 0, 1, 2] 4 (by decide)
 simp only [pk, nth, pkA, pkB, pkC, pkD, pkE, pkF] at h1
 refine Cl.sl (by kernel_rfl) (l_five hG h1) fun w H => ?_
 replace H := H.pick [1, 2, 3, 0] 4 (by decide)
 simp only [pk, nth, pkA, pkB, pkC, pkD, pkE, pkF] at H
 refine BB.yes rfl (ret1 (.bool true) rfl (by rfl) ?_)
 exact ⟨rfl, H.pick [3] 4 (by decide)⟩
theorem eo_some {w : World} {F : List Piece} {A : Piece} {lb lo lc : Nat} {l : List Ev} (hA : EvA A lb lo l) (hG : SpansA A) (h0 : 0 < l.length) (hlc : l.length ≤ lc) {r z : Int} (hll : l.length ≤ 30) (H : SL w (A :: F)) : Calls Tryz.prog 4 #[.slice (some ⟨lb, lo, none⟩) l.length lc, .int .i64 r, .int .i64 z] w fun o w' => o = .returned (.bool true) ∧ SL w' (A :: F) := by
 cases hr : rightF l with
 | false =>
  refine calls_den (args := [_, _, _]) Tryz.func4 rfl (Nat.le_of_ble_eq_true (by kernel_rfl)) (by kernel_rfl) ?_
  refine ⟨⟨BB.no (decide_eq_false (by omega)) ?_⟩⟩
  refine Cn.no (⟨?_⟩)
  have h1 := H
  refine Cl.sl (by kernel_rfl) (e_ofl_no (r := r) hA hG h0 (by omega) hr h1) fun w H => ?_
  refine ⟨?_⟩
  have h1 := H
  refine Cl.sl (by kernel_rfl) (e_begins_no (i := z) hA hG h0 (by omega) hr h1) fun w H => ?_
  refine ⟨?_⟩
  have h1 := H
  have K := f_right (lc := lc) hA hlc h0 (by omega) h1
  rw [hr] at K
  refine Cl.sl (by kernel_rfl) K fun w H => ?_
  refine BB.no rfl (BB.yes rfl (Cn.yes (⟨BB.yes rfl ?_⟩)))
  refine BB.yes rfl (BB.yes rfl (BB.yes rfl ?_))
  have h1 := H
  refine Cl.sl (by kernel_rfl) (l_five hG h1) fun w H => ?_
  refine BB.yes rfl (ret1 (.bool true) rfl (by rfl) ?_)
  exact ⟨rfl, H⟩
 | true =>
  have hR := right_iff.1 hr
  have hal := all_le hr (by omega)
  by_cases hz : z < 0 ∨ (l.length : Int) ≤ z
  ·exact eo_bad hA hG h0 hlc hz hr hR hal hll H
  ·obtain ⟨k, rfl⟩ : ∃ k : Nat, z = k := ⟨z.toNat, by omega⟩
   exact eo_in hA hG h0 hlc (by omega) hr hR hal hll H
theorem edgeOf_walk {v : Value} {l : List Ev} {W : World} (h : EvIn W v l) (r : Int) (_ : (Lit.int .i64 r).wf = true) (z : Int) (_ : (Lit.int .i64 z).wf = true) (hs : Spans W) : Calls Tryz.prog 4 #[v, .int .i64 r, .int .i64 z] W fun e w' => e = .returned (.bool true) ∧ Frm Nil W w' := by
 obtain ⟨a, cap, rfl, hc, hr⟩ := h
 have H := SL.start W
 have hG : SpansA (Old W) := fun w hw => hs.later (SL.old hw)
 have done : ∀ o w', (o = Ending.returned (.bool true) ∧ SL w' [Old W]) → o = .returned (.bool true) ∧ Frm Nil W w' := fun o w' q => ⟨q.1, SL.old q.2⟩
 by_cases h1 : 30 < l.length
 ·exact (eo_big hG h1 H).mono done
 ·rcases Nat.eq_zero_or_pos l.length with h0 | h0
  ·rw [h0]
   exact (eo_nil hG H).mono done
  ·obtain ⟨b, off, rfl, hcell⟩ := hr.2.2 h0
   have hA : EvA (Old W) b off l := EvA.of_rd (a := some ⟨b, off, none⟩) (fun S w hS => ⟨hr.1, hr.2.1, fun _ => ⟨b, off, rfl, fun i u hu => by
    have hw := hcell i u hu
    rw [World.cell?_of_block (w := W) (w' := w) ((hS.2.2.2 b (World.block_lt_of_cell? W _ hw)).2)]
    exact hw⟩⟩) rfl
   exact (eo_some (lc := cap) hA hG h0 hc (by omega) H).mono done
end Go.Proofs.YtoamjodmidbmbaaGreatDoor
