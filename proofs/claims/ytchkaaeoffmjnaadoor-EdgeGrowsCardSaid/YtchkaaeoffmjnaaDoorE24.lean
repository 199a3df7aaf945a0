/- Texts of the proof, several in one file: LawQ3. -/
import Derived.Test.YtchkaaeoffmjnaaDoorE20
namespace Go.Proofs.YtchkaaeoffmjnaaDoor
set_option linter.unusedVariables false
set_option linter.unusedSimpArgs false
open Go.RowKit
set_option maxRecDepth 100000
theorem EvA.takeQ {A : Piece} {b off : Nat} {l : List Ev} (h : EvA A b off l) (k : Nat) : EvA A b off (l.take k) :=
 ⟨fun S w hS j e hj => h.at_ S w hS j e (by
  rw [List.getElem?_take] at hj
  split at hj
  ·exact hj
  ·cases hj)⟩
theorem e_all_take {w : World} {F : List Piece} {A : Piece} {lb lo lc : Nat} {l : List Ev} (hA : EvA A lb lo l) (hG : SpansA A) (h0 : 0 < l.length) (hlc : l.length ≤ lc) (hll : l.length ≤ 2000) (hr : rightF l = true) {m : Nat} (hm : m ≤ l.length) (H : SL w (A :: F)) : Calls Tryd.prog 8 #[.slice (some ⟨lb, lo, none⟩) m lc] w fun o w' => ∃ xa xc, o = .returned (.tuple #[.slice xa (allE (l.take m)).length xc, .int .i64 0]) ∧ SL w' (Slc 29 3 (.slice xa (allE (l.take m)).length xc) (allE (l.take m)).length ((allE (l.take m)).flatMap Edg.cells) :: A :: F) := by
 rcases Nat.eq_zero_or_pos m with rfl | h1
 ·exact e_all_nil H
 ·have hq : (l.take m).length = m := by rw [List.length_take]; omega
  have K := e_all (lc := lc) (hA.takeQ m) hG (by omega) (by omega) (right_iff.2 ((right_iff.1 hr).take hm)) H
  rw [hq] at K
  exact K
theorem e_all_takeN {w : World} {F : List Piece} {A : Piece} {lb lo lc : Nat} {l : List Ev} (hA : EvA A lb lo l) (hG : SpansA A) (h0 : 0 < l.length) (hlc : l.length ≤ lc) (hll : l.length ≤ 2000) {m : Nat} (hm : m ≤ l.length) (H : SL w (A :: F)) : Calls Tryd.prog 8 #[.slice (some ⟨lb, lo, none⟩) m lc] w fun o w' => ∃ va vb, o = .returned (.tuple #[va, vb]) ∧ SL w' (A :: F) := by
 rcases Nat.eq_zero_or_pos m with rfl | h1
 ·refine (e_all_nil H).mono ?_
  rintro o w' ⟨xa, xc, rfl, H⟩
  exact ⟨_, _, rfl, H.tl⟩
 ·have hq : (l.take m).length = m := by rw [List.length_take]; omega
  cases hr : rightF (l.take m) with
  | false =>
   have K := e_all_no (lc := lc) (hA.takeQ m) hG (by omega) (by omega) hr H
   rw [hq] at K
   exact K.mono fun o w' q => ⟨_, _, q.1, q.2⟩
  | true =>
   have K := e_all (lc := lc) (hA.takeQ m) hG (by omega) (by omega) hr H
   rw [hq] at K
   refine K.mono ?_
   rintro o w' ⟨xa, xc, rfl, H⟩
   exact ⟨_, _, rfl, H.tl⟩
/-- How many of the first i of L are in B. -/
def gat (L B : List Edg) (i : Nat) : Nat := ((L.take i).filter (fun x => decide (x ∈ B))).length
section
variable {L B : List Edg} {i : Nat} {z : Edg}
theorem gat_step (hz : L[i]? = some z) : gat L B (i + 1) = gat L B i + if z ∈ B then 1 else 0 := by
 unfold gat
 rw [List.take_add_one, hz, Option.toList_some, List.filter_append, List.length_append, List.filter_cons, List.filter_nil]
 by_cases h : z ∈ B <;> simp [h]
theorem gat_yes (hB : B = L.filter (fun x => decide (x ∈ B))) (hz : L[i]? = some z) (h : z ∈ B) : B[gat L B i]? = some z := by
 have k := filt_at (p := fun x => decide (x ∈ B)) hz (decide_eq_true h)
 rw [← hB] at k
 exact k
theorem gat_end (hB : B = L.filter (fun x => decide (x ∈ B))) (hi : L.length ≤ i) : gat L B i = B.length := by
 unfold gat
 rw [List.take_of_length_le hi, ← hB]
end
theorem gr_big {w : World} {F : List Piece} {A : Piece} {la : Option Addr} {n lc : Nat} {z : Int} (hG : SpansA A) (hn : 200 < n) (H : SL w (A :: F)) : Calls Tryd.prog 3 #[.slice la n lc, .int .i64 z] w fun o w' => o = .returned (.bool true) ∧ SL w' (A :: F) := by
 refine calls_den (args := [_, _]) Tryd.func3 rfl (Nat.le_of_ble_eq_true (by kernel_rfl)) (by kernel_rfl) ?_
 refine ⟨?_⟩
 refine ⟨?_⟩
 refine BB.yes (decide_eq_true (by omega)) ?_
 refine Cn.yes ?_
 refine ⟨?_⟩
 have h1 := H
 refine Cl.sl (by kernel_rfl) (l_five hG h1) fun w H => ?_
 refine BB.yes rfl ?_
 refine ret1 (fn := Tryd.f3) (.bool true) rfl (by rfl) ?_
 exact ⟨rfl, H⟩
theorem gr_neg {w : World} {F : List Piece} {A : Piece} {la : Option Addr} {n lc : Nat} {z : Int} (hG : SpansA A) (hn : n ≤ 200) (hz : z < 0) (H : SL w (A :: F)) : Calls Tryd.prog 3 #[.slice la n lc, .int .i64 z] w fun o w' => o = .returned (.bool true) ∧ SL w' (A :: F) := by
 refine calls_den (args := [_, _]) Tryd.func3 rfl (Nat.le_of_ble_eq_true (by kernel_rfl)) (by kernel_rfl) ?_
 refine ⟨?_⟩
 refine ⟨?_⟩
 refine BB.no (decide_eq_false (by omega)) ?_
 refine BB.yes (decide_eq_true (by omega)) ?_
 refine Cn.yes ?_
 refine ⟨?_⟩
 have h1 := H
 refine Cl.sl (by kernel_rfl) (l_five hG h1) fun w H => ?_
 refine BB.yes rfl ?_
 refine ret1 (fn := Tryd.f3) (.bool true) rfl (by rfl) ?_
 exact ⟨rfl, H⟩
theorem gr_far {w : World} {F : List Piece} {A : Piece} {la : Option Addr} {n lc : Nat} {z : Int} (hG : SpansA A) (hn : n ≤ 200) (hz : n < z) (H : SL w (A :: F)) : Calls Tryd.prog 3 #[.slice la n lc, .int .i64 z] w fun o w' => o = .returned (.bool true) ∧ SL w' (A :: F) := by
 refine calls_den (args := [_, _]) Tryd.func3 rfl (Nat.le_of_ble_eq_true (by kernel_rfl)) (by kernel_rfl) ?_
 refine ⟨?_⟩
 refine ⟨?_⟩
 refine BB.no (decide_eq_false (by omega)) ?_
 refine BB.no (decide_eq_false (by omega)) ?_
 refine BB.yes (decide_eq_true (by omega)) ?_
 refine Cn.yes ?_
 refine ⟨?_⟩
 have h1 := H
 refine Cl.sl (by kernel_rfl) (l_five hG h1) fun w H => ?_
 refine BB.yes rfl ?_
 refine ret1 (fn := Tryd.f3) (.bool true) rfl (by rfl) ?_
 exact ⟨rfl, H⟩
set_option maxHeartbeats 1000000 in
theorem gr_nil {w : World} {F : List Piece} {A : Piece} {la : Option Addr} {lc : Nat} (hG : SpansA A) (H : SL w (A :: F)) : Calls Tryd.prog 3 #[.slice la 0 lc, .int .i64 0] w fun o w' => o = .returned (.bool true) ∧ SL w' (A :: F) := by
 refine calls_den (args := [_, _]) Tryd.func3 rfl (Nat.le_of_ble_eq_true (by kernel_rfl)) (by kernel_rfl) ?_
 refine ⟨?_⟩
 refine ⟨?_⟩
 refine BB.no rfl ?_
 refine BB.no rfl ?_
 refine BB.no rfl ?_
 refine Cn.no ?_
 refine ⟨?_⟩
 refine Cl.by (by kernel_rfl) (e_all_nil H) ?_
 rintro _ w ⟨xa, xc, rfl, H⟩
 refine ⟨_, rfl, ?_⟩
 refine ⟨?_⟩
 refine Mn.head (te := 33) (sz := 8) (c := lc) (.tmp 32) (.tmp 33) 22 (by rfl) (by kernel_rfl) (by kernel_rfl) 0 (Nat.zero_le _) (by rfl) (by rfl) ?_
 refine Cl.by (by kernel_rfl) (e_all_nil H) ?_
 rintro _ w ⟨ya, yc, rfl, H⟩
 refine ⟨_, rfl, ?_⟩
 refine ⟨?_⟩
 refine BB.no rfl ?_
 refine Cn.no ?_
 refine ⟨?_⟩
 refine BB.no rfl ?_
 refine Cn.no ?_
 refine ⟨?_⟩
 refine ⟨?_⟩
 refine ⟨?_⟩
 refine den.loop (ι := Nat × Nat) [(9, 9), (11, 11), (45, 63)] (by kernel_rfl) (fun (i, k) => [(45, .int .i64 ↑i), (9, .int .i64 ↑k)]) (fun (i, k) w => (i ≤ 0 ∧ k = 0) ∧ SL w (Slc 29 3 (.slice xa 0 xc) 0 ([]) :: Slc 29 3 (.slice ya 0 yc) 0 ([]) :: A :: F)) (fun (i, k) => 0 - i) (0, 0) ⟨rfl, rfl, trivial⟩ ⟨⟨Nat.zero_le _, rfl⟩, (H.pick [1, 0, 2] 3 (by decide))⟩ ?_
 rintro ⟨i, k⟩ s w ⟨hc, H⟩
 obtain ⟨hi0, rfl⟩ := hc
 have hob : i = 0 := by omega
 obtain rfl := hob
 refine ⟨?_⟩
 refine BB.no rfl ?_
 refine Cn.no ?_
 refine ⟨?_⟩
 refine BB.yes rfl ?_
 have h1 := H.pick [2, 0, 1] 3 (by decide)
 simp only [pk, nth, pkA, pkB, pkC, pkD, pkE, pkF] at h1
 refine Cl.sl (by kernel_rfl) (l_five hG h1) fun w H => ?_
 replace H := H.pick [1, 2, 0] 3 (by decide)
 simp only [pk, nth, pkA, pkB, pkC, pkD, pkE, pkF] at H
 refine BB.yes rfl ?_
 refine ret1 (fn := Tryd.f3) (.bool true) rfl (by rfl) ?_
 exact ⟨rfl, H.pick [2] 3 (by decide)⟩
set_option maxHeartbeats 1000000 in
theorem gr_some {w : World} {F : List Piece} {A : Piece} {lb lo lc : Nat} {l : List Ev} (hA : EvA A lb lo l) (hG : SpansA A) (h0 : 0 < l.length) (hlc : l.length ≤ lc) (hll : l.length ≤ 200) {m : Nat} (hm : m ≤ l.length) (H : SL w (A :: F)) : Calls Tryd.prog 3 #[.slice (some ⟨lb, lo, none⟩) l.length lc, .int .i64 (m : Int)] w fun o w' => o = .returned (.bool true) ∧ SL w' (A :: F) := by
 cases hr : rightF l with
 | false =>
  refine calls_den (args := [_, _]) Tryd.func3 rfl (Nat.le_of_ble_eq_true (by kernel_rfl)) (by kernel_rfl) ?_
  refine ⟨?_⟩
  refine ⟨?_⟩
  refine BB.no (decide_eq_false (by omega)) ?_
  refine BB.no (decide_eq_false (by omega)) ?_
  refine BB.no (decide_eq_false (by omega)) ?_
  refine Cn.no ?_
  refine ⟨?_⟩
  have h1 := H
  refine Cl.sl (by kernel_rfl) (e_all_no hA hG h0 (by omega) hr h1) fun w H => ?_
  refine ⟨?_⟩
  refine Mn.head (te := 33) (sz := 8) (c := lc) (.tmp 32) (.tmp 33) 22 (by rfl) (by kernel_rfl) (by kernel_rfl) m (Nat.le_trans hm hlc) (by rfl) (by rfl) ?_
  have h1 := H
  refine Cl.by (by kernel_rfl) (e_all_takeN hA hG h0 hlc (by omega) hm h1) ?_
  rintro _ w ⟨va, vb, rfl, H⟩
  refine ⟨_, rfl, ?_⟩
  refine ⟨?_⟩
  refine BB.yes rfl ?_
  refine Cn.yes ?_
  refine ⟨?_⟩
  have h1 := H
  refine Cl.sl (by kernel_rfl) (l_five hG h1) fun w H => ?_
  refine BB.yes rfl ?_
  refine ret1 (fn := Tryd.f3) (.bool true) rfl (by rfl) ?_
  exact ⟨rfl, H⟩
 | true =>
  have hR := right_iff.1 hr
  have hgr := grows hR hm
  have hal := all_le hr (by omega)
  have hal2 : (allE (l.take m)).length ≤ 100000000 := by
   rw [hgr]
   exact Nat.le_trans (List.length_filter_le _ _) hal
  refine calls_den (args := [_, _]) Tryd.func3 rfl (Nat.le_of_ble_eq_true (by kernel_rfl)) (by kernel_rfl) ?_
  refine ⟨?_⟩
  refine ⟨?_⟩
  refine BB.no (decide_eq_false (by omega)) ?_
  refine BB.no (decide_eq_false (by omega)) ?_
  refine BB.no (decide_eq_false (by omega)) ?_
  refine Cn.no ?_
  refine ⟨?_⟩
  have h1 := H
  refine Cl.by (by kernel_rfl) (e_all hA hG h0 (by omega) hr h1) ?_
  rintro _ w ⟨xa, xc, rfl, H⟩
  refine ⟨_, rfl, ?_⟩
  refine ⟨?_⟩
  refine Mn.head (te := 33) (sz := 8) (c := lc) (.tmp 32) (.tmp 33) 22 (by rfl) (by kernel_rfl) (by kernel_rfl) m (Nat.le_trans hm hlc) (by rfl) (by rfl) ?_
  have h1 := H.pick [1, 0] 2 (by decide)
  simp only [pk, nth, pkA, pkB, pkC, pkD, pkE, pkF] at h1
  refine Cl.by (by kernel_rfl) (e_all_take hA hG h0 hlc (by omega) hr hm h1) ?_
  rintro _ w ⟨ya, yc, rfl, H⟩
  refine ⟨_, rfl, ?_⟩
  replace H := H.pick [0, 2, 1] 3 (by decide)
  simp only [pk, nth, pkA, pkB, pkC, pkD, pkE, pkF] at H
  refine ⟨?_⟩
  refine BB.no rfl ?_
  refine Cn.no ?_
  refine ⟨?_⟩
  refine BB.no rfl ?_
  refine Cn.no ?_
  refine ⟨?_⟩
  refine ⟨?_⟩
  refine ⟨?_⟩
  refine den.loop (ι := Nat × Nat) [(9, 9), (11, 11), (45, 63)] (by kernel_rfl) (fun (i, k) => [(45, .int .i64 ↑i), (9, .int .i64 ↑k)]) (fun (i, k) w => (i ≤ (allE l).length ∧ k = gat (allE l) (allE (l.take m)) i) ∧ SL w (Slc 29 3 (.slice xa ((allE l).length) xc) ((allE l).length) ((allE l).flatMap Edg.cells) :: Slc 29 3 (.slice ya ((allE (l.take m)).length) yc) ((allE (l.take m)).length) ((allE (l.take m)).flatMap Edg.cells) :: A :: F)) (fun (i, k) => (allE l).length - i) (0, 0) ⟨rfl, rfl, trivial⟩ ⟨⟨Nat.zero_le _, rfl⟩, (H.pick [1, 0, 2] 3 (by decide))⟩ ?_
  rintro ⟨i, k⟩ s w ⟨hc, H⟩
  obtain ⟨hi0, hk⟩ := hc
  have hob := Nat.lt_or_ge i (allE l).length
  rcases hob with hi | hi
  ·skip
   have hob : ∃ z, (allE l)[i]? = some z := ⟨_, List.getElem?_eq_getElem hi⟩
   obtain ⟨z, hz⟩ := hob
   have hob := SL.slcAddr (H) (by omega)
   obtain ⟨xb, rfl⟩ := hob
   have hs := gat_step (B := allE (l.take m)) hz
   have hob := Classical.em (z ∈ allE (l.take m))
   rcases hob with hzB | hzB
   ·skip
    have hB := gat_yes hgr hz hzB
    rw [← hk] at hB
    have hkl := (List.getElem?_eq_some_iff.1 hB).1
    rw [if_pos hzB] at hs
    have hob := SL.slcAddr (H.up1) (by omega)
    obtain ⟨yb, rfl⟩ := hob
    refine ⟨?_⟩
    refine BB.yes (decide_eq_true (by omega)) ?_
    refine Cn.yes ?_
    refine ⟨?_⟩
    refine ⟨?_⟩
    refine Ix.at0 i 3 (by kernel_rfl) (rfl) (hi) ?_
    refine H.ldS 0 rfl (v := .int .i64 ↑z.src) ((edg_at hz 0 (by decide)).trans rfl) ?_
    refine H.ldS 0 rfl (v := .int .i64 ↑z.dst) ((edg_at hz 1 (by decide)).trans rfl) ?_
    refine H.ldS 0 rfl (v := .int .i64 ↑z.rule) ((edg_at hz 2 (by decide)).trans rfl) ?_
    refine Nw.as #[.int .i64 0, .int .i64 0, .int .i64 0] 29 rfl H fun b11 w H => ?_
    refine H.st0 (cs' := #[.int .i64 ↑z.src, .int .i64 0, .int .i64 0]) rfl rfl rfl fun w H => ?_
    refine H.st0 (cs' := #[.int .i64 ↑z.src, .int .i64 ↑z.dst, .int .i64 0]) rfl rfl rfl fun w H => ?_
    refine H.st0 (cs' := #[.int .i64 ↑z.src, .int .i64 ↑z.dst, .int .i64 ↑z.rule]) rfl rfl rfl fun w H => ?_
    refine ⟨?_⟩
    refine Drw.of [(0, true), (1, true), (2, true), (3, true), (4, true), (5, true), (6, true), (7, true), (8, true), (9, true), (10, true), (11, true)] (by kernel_rfl) mixed (fun w => SL w _) H.drew ?_
    replace H := H.drew
    refine BB.yes (decide_eq_true (by omega)) ?_
    refine Ix.at0 k 3 (by kernel_rfl) (rfl) (hkl) ?_
    refine LdC.S 2 rfl (v := .int .i64 ↑z.src) ((edg_at hB 0 (by decide)).trans rfl) ?_
    refine LdC.S 2 rfl (v := .int .i64 ↑z.dst) ((edg_at hB 1 (by decide)).trans rfl) ?_
    refine LdC.S 2 rfl (v := .int .i64 ↑z.rule) ((edg_at hB 2 (by decide)).trans rfl) ?_
    refine LdC.i 0 rfl (v := .int .i64 ↑z.src) rfl ?_
    refine LdC.i 0 rfl (v := .int .i64 ↑z.dst) rfl ?_
    refine LdC.i 0 rfl (v := .int .i64 ↑z.rule) rfl ?_
    refine MnC.eqEdg z z _ _ _ (by rfl) (by rfl) (by rfl) true (decide_eq_true rfl) ?_
    refine Cn.yes ?_
    refine ⟨?_⟩
    refine IW.by (wrap_id (n := ↑k + 1) (by omega) (by omega)) ?_
    refine ⟨?_⟩
    refine IW.by (wrap_id (n := ↑i + 1) (by omega) (by omega)) ?_
    exact ⟨(i + 1, k + 1), ⟨rfl, rfl, trivial⟩, ⟨⟨by omega, by rw [hs]; omega⟩, H.pick [1, 2, 3] 4 (by decide)⟩, (show (allE l).length - (i + 1) < (allE l).length - i by omega)⟩
   ·skip
    rw [if_neg hzB] at hs
    have hob := Nat.lt_or_ge k (allE (l.take m)).length
    rcases hob with hkl | hkl
    ·skip
     have hob : ∃ y, (allE (l.take m))[k]? = some y := ⟨_, List.getElem?_eq_getElem hkl⟩
     obtain ⟨y, hB⟩ := hob
     have hne : y ≠ z := fun h => hzB (h ▸ List.mem_of_getElem? hB)
     have hob := SL.slcAddr (H.up1) (by omega)
     obtain ⟨yb, rfl⟩ := hob
     refine ⟨?_⟩
     refine BB.yes (decide_eq_true (by omega)) ?_
     refine Cn.yes ?_
     refine ⟨?_⟩
     refine ⟨?_⟩
     refine Ix.at0 i 3 (by kernel_rfl) (rfl) (hi) ?_
     refine H.ldS 0 rfl (v := .int .i64 ↑z.src) ((edg_at hz 0 (by decide)).trans rfl) ?_
     refine H.ldS 0 rfl (v := .int .i64 ↑z.dst) ((edg_at hz 1 (by decide)).trans rfl) ?_
     refine H.ldS 0 rfl (v := .int .i64 ↑z.rule) ((edg_at hz 2 (by decide)).trans rfl) ?_
     refine Nw.as #[.int .i64 0, .int .i64 0, .int .i64 0] 29 rfl H fun b11 w H => ?_
     refine H.st0 (cs' := #[.int .i64 ↑z.src, .int .i64 0, .int .i64 0]) rfl rfl rfl fun w H => ?_
     refine H.st0 (cs' := #[.int .i64 ↑z.src, .int .i64 ↑z.dst, .int .i64 0]) rfl rfl rfl fun w H => ?_
     refine H.st0 (cs' := #[.int .i64 ↑z.src, .int .i64 ↑z.dst, .int .i64 ↑z.rule]) rfl rfl rfl fun w H => ?_
     refine ⟨?_⟩
     refine Drw.of [(0, true), (1, true), (2, true), (3, true), (4, true), (5, true), (6, true), (7, true), (8, true), (9, true), (10, true), (11, true)] (by kernel_rfl) mixed (fun w => SL w _) H.drew ?_
     replace H := H.drew
     refine BB.yes (decide_eq_true (by omega)) ?_
     refine Ix.at0 k 3 (by kernel_rfl) (rfl) (hkl) ?_
     refine LdC.S 2 rfl (v := .int .i64 ↑y.src) ((edg_at hB 0 (by decide)).trans rfl) ?_
     refine LdC.S 2 rfl (v := .int .i64 ↑y.dst) ((edg_at hB 1 (by decide)).trans rfl) ?_
     refine LdC.S 2 rfl (v := .int .i64 ↑y.rule) ((edg_at hB 2 (by decide)).trans rfl) ?_
     refine LdC.i 0 rfl (v := .int .i64 ↑z.src) rfl ?_
     refine LdC.i 0 rfl (v := .int .i64 ↑z.dst) rfl ?_
     refine LdC.i 0 rfl (v := .int .i64 ↑z.rule) rfl ?_
     refine MnC.eqEdg y z _ _ _ (by rfl) (by rfl) (by rfl) false (decide_eq_false hne) ?_
     refine Cn.no ?_
     refine ⟨?_⟩
     refine IW.by (wrap_id (n := ↑i + 1) (by omega) (by omega)) ?_
     exact ⟨(i + 1, k), ⟨rfl, rfl, trivial⟩, ⟨⟨by omega, by rw [hs]; omega⟩, H.pick [1, 2, 3] 4 (by decide)⟩, (show (allE l).length - (i + 1) < (allE l).length - i by omega)⟩
    ·skip
     refine ⟨?_⟩
     refine BB.yes (decide_eq_true (by omega)) ?_
     refine Cn.yes ?_
     refine ⟨?_⟩
     refine ⟨?_⟩
     refine Ix.at0 i 3 (by kernel_rfl) (rfl) (hi) ?_
     refine H.ldS 0 rfl (v := .int .i64 ↑z.src) ((edg_at hz 0 (by decide)).trans rfl) ?_
     refine H.ldS 0 rfl (v := .int .i64 ↑z.dst) ((edg_at hz 1 (by decide)).trans rfl) ?_
     refine H.ldS 0 rfl (v := .int .i64 ↑z.rule) ((edg_at hz 2 (by decide)).trans rfl) ?_
     refine Nw.as #[.int .i64 0, .int .i64 0, .int .i64 0] 29 rfl H fun b11 w H => ?_
     refine H.st0 (cs' := #[.int .i64 ↑z.src, .int .i64 0, .int .i64 0]) rfl rfl rfl fun w H => ?_
     refine H.st0 (cs' := #[.int .i64 ↑z.src, .int .i64 ↑z.dst, .int .i64 0]) rfl rfl rfl fun w H => ?_
     refine H.st0 (cs' := #[.int .i64 ↑z.src, .int .i64 ↑z.dst, .int .i64 ↑z.rule]) rfl rfl rfl fun w H => ?_
     refine ⟨?_⟩
     refine Drw.of [(0, true), (1, true), (2, true), (3, true), (4, true), (5, true), (6, true), (7, true), (8, true), (9, true), (10, true), (11, true)] (by kernel_rfl) mixed (fun w => SL w _) H.drew ?_
     replace H := H.drew
     refine BB.no (decide_eq_false (by omega)) ?_
     refine Cn.no ?_
     refine ⟨?_⟩
     refine IW.by (wrap_id (n := ↑i + 1) (by omega) (by omega)) ?_
     exact ⟨(i + 1, k), ⟨rfl, rfl, trivial⟩, ⟨⟨by omega, by rw [hs]; omega⟩, H.pick [1, 2, 3] 4 (by decide)⟩, (show (allE l).length - (i + 1) < (allE l).length - i by omega)⟩
  ·skip
   have hob : i = (allE l).length := by omega
   obtain rfl := hob
   rw [gat_end hgr (Nat.le_refl _)] at hk
   subst hk
   refine ⟨?_⟩
   refine BB.no (decide_eq_false (by omega)) ?_
   refine Cn.no ?_
   refine ⟨?_⟩
   refine BB.yes (beq_self_eq_true _) ?_
   have h1 := H.pick [2, 0, 1] 3 (by decide)
   simp only [pk, nth, pkA, pkB, pkC, pkD, pkE, pkF] at h1
   refine Cl.sl (by kernel_rfl) (l_five hG h1) fun w H => ?_
   replace H := H.pick [1, 2, 0] 3 (by decide)
   simp only [pk, nth, pkA, pkB, pkC, pkD, pkE, pkF] at H
   refine BB.yes rfl ?_
   refine ret1 (fn := Tryd.f3) (.bool true) rfl (by rfl) ?_
   exact ⟨rfl, H.pick [2] 3 (by decide)⟩
theorem edgeGrows_walk {v : Value} {l : List Ev} {W : World} (h : EvIn W v l) (z : Int) (_ : (Lit.int .i64 z).wf = true) (hs : Spans W) : Calls Tryd.prog 3 #[v, .int .i64 z] W fun e w' => e = .returned (.bool true) ∧ Frm Nil W w' := by
 obtain ⟨a, cap, rfl, hc, hr⟩ := h
 have H := SL.start W
 have hG : SpansA (Old W) := fun w hw => hs.later (SL.old hw)
 have done : ∀ o w', (o = Ending.returned (.bool true) ∧ SL w' [Old W]) → o = .returned (.bool true) ∧ Frm Nil W w' := fun o w' q => ⟨q.1, SL.old q.2⟩
 by_cases h1 : 200 < l.length
 ·exact (gr_big hG h1 H).mono done
 ·by_cases hz : z < 0
  ·exact (gr_neg hG (by omega) hz H).mono done
  ·by_cases hz2 : (l.length : Int) < z
   ·exact (gr_far hG (by omega) hz2 H).mono done
   ·obtain ⟨m, rfl⟩ := Int.eq_ofNat_of_zero_le (Int.not_lt.1 hz)
    rcases Nat.eq_zero_or_pos l.length with h0 | h0
    ·obtain rfl : m = 0 := by omega
     rw [h0]
     exact (gr_nil hG H).mono done
    ·obtain ⟨b, off, rfl, hcell⟩ := hr.2.2 h0
     have hA : EvA (Old W) b off l := EvA.of_rd (a := some ⟨b, off, none⟩) (fun S w hS => ⟨hr.1, hr.2.1, fun _ => ⟨b, off, rfl, fun i u hu => by
      have hw := hcell i u hu
      rw [World.cell?_of_block (w := W) (w' := w) ((hS.2.2.2 b (World.block_lt_of_cell? W _ hw)).2)]
      exact hw⟩⟩) rfl
     exact (gr_some (lc := cap) hA hG h0 hc (by omega) (by omega) H).mono done
end Go.Proofs.YtchkaaeoffmjnaaDoor
