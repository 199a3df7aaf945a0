/- Texts of the proof, several in one file: EdgeJ, SxD, SxE, EdgeO. -/
import Derived.Test.YtoamjodmidbmbaaGreatDoorE20
import Derived.Test.YtoamjodmidbmbaaGreatDoorE10
import Derived.Lib.SliceRun
import Derived.Test.YtoamjodmidbmbaaGreatDoorE18
set_option linter.unusedVariables false
set_option linter.unusedSimpArgs false
namespace Go.Proofs.YtoamjodmidbmbaaGreatDoor
open Go.RowKit
set_option maxRecDepth 100000
section
variable {l : List Ev} {g c : Int} {d j i f k t r m : Nat} {e : Ev} {s : Bool}
theorem size_le (h : RtL l) : sizeF l c ≤ 99 := by
 unfold sizeF
 cases hf : l.find? (fun e => e.kind == 2 && e.chan == c) with
 | none => exact Nat.zero_le _
 | some e =>
  obtain ⟨i, hi, rfl⟩ := List.getElem_of_mem (List.mem_of_find?_eq_some hf)
  have hd : l.getD i evz = l[i] := by rw [List.getD_eq_getElem?_getD, List.getElem?_eq_getElem hi]; rfl
  have hv := (evB_of (h.ent hi)).value
  rw [hd] at hv
  dsimp only
  omega
theorem btw_step : btwF l f (k + 1) g = (btwF l f k g || (decide (f < k) && (l.getD k evz).g == g && (l.getD k evz).kind != 13)) := by
 unfold btwF
 rw [List.range_succ, List.any_append, List.any_cons, List.any_nil, Bool.or_false]
theorem btw_none : btwF l f (f + 1) g = false := by
 unfold btwF
 rw [List.any_eq_false]
 intro k hk
 rw [List.mem_range] at hk
 rw [decide_eq_false (by omega)]
 simp
theorem btw_no (hs : btwF l f (k + 1) g = (false || (decide (f < k) && e.g == g && e.kind != 13))) (h : ¬ (e.g = g ∧ e.kind ≠ 13)) : btwF l f (k + 1) g = false := by
 rw [hs, Bool.false_or, Bool.eq_false_iff]
 intro hh
 simp at hh
 exact h ⟨hh.1.2, hh.2⟩
theorem btw_yes (hs : btwF l f (k + 1) g = (false || (decide (f < k) && e.g == g && e.kind != 13))) (h1 : f < k) (h2 : e.g = g) (h3 : e.kind ≠ 13) : btwF l f (k + 1) g = true := by
 rw [hs]
 simp [h1, h2, h3]
theorem btw_mono (h : k ≤ m) (hb : btwF l f k g = true) : btwF l f m g = true := by
 unfold btwF at hb ⊢
 rw [List.any_eq_true] at hb ⊢
 obtain ⟨x, hx, h2⟩ := hb
 rw [List.mem_range] at hx
 exact ⟨x, List.mem_range.2 (by omega), h2⟩
/-- What is asked of the k'th that comes out. -/
def crsB (l : List Ev) (O N : List Nat) (z f t r k : Nat) : Bool :=
 (r == 3 && decide (k < N.length) && begF l (N.getD k 0) == f && O.getD k 0 == t) ||
  (decide (k + z < N.length) && begF l (O.getD k 0) == f && N.getD (k + z) 0 == t && (r == 5 && z == 0 || r == 6 && decide (0 < z)))
theorem crsB_iff {O N : List Nat} {z : Nat} : crsB l O N z f t r k = true ↔ (r = 3 ∧ k < N.length ∧ begF l (N.getD k 0) = f ∧ O.getD k 0 = t) ∨ (k + z < N.length ∧ begF l (O.getD k 0) = f ∧ N.getD (k + z) 0 = t ∧ (r = 5 ∧ z = 0 ∨ r = 6 ∧ 0 < z)) := by
 unfold crsB
 simp only [Bool.or_eq_true, Bool.and_eq_true, beq_iff_eq, decide_eq_true_eq, and_assoc]
theorem crs_is (h : ¬ (l.getD t evz).chan < 0) : crsF l f t r = (List.range (doneF l (l.getD t evz).chan false).length).any (crsB l (doneF l (l.getD t evz).chan false) (doneF l (l.getD t evz).chan true) (sizeF l (l.getD t evz).chan) f t r) := by
 unfold crsF
 dsimp only
 rw [if_neg h]
 rfl
theorem any_step {p : Nat → Bool} (h : (List.range k).any p = false) (h2 : p k = false) : (List.range (k + 1)).any p = false := by
 rw [List.range_succ, List.any_append, h, List.any_cons, h2]
 rfl
theorem any_hit {p : Nat → Bool} (h : k < m) (h2 : p k = true) : (List.range m).any p = true := List.any_eq_true.2 ⟨k, List.mem_range.2 h, h2⟩
end
theorem f_between {w : World} {F : List Piece} {A : Piece} {lb lo lc : Nat} {l : List Ev} (hA : EvA A lb lo l) {f t r : Nat} {g : Int} (hf : f < t) (ht : t < l.length) (hll : l.length ≤ 2000) (H : SL w (A :: F)) : Calls Tryz.prog 80 #[.slice (some ⟨lb, lo, none⟩) l.length lc, .agg #[.int .i64 ↑f, .int .i64 ↑t, .int .i64 ↑r], .int .i64 g] w fun o w' => o = .returned (.bool (btwF l f t g)) ∧ SL w' (A :: F) := by
 refine calls_den (args := [_, _, _]) Tryz.func80 rfl (Nat.le_of_ble_eq_true (by kernel_rfl)) (by kernel_rfl) ?_
 refine ⟨Nw.as #[.int .i64 ↑f, .int .i64 ↑t, .int .i64 ↑r] 36 rfl H fun b4 w H => ?_⟩
 refine ⟨H.ldi 0 rfl (v := .int .i64 ↑f) rfl ?_⟩
 refine IW.by (wrap_id (n := ↑f + 1) (by omega) (by omega)) (⟨den.loop (ι := Nat) [(6, 7), (11, 31)] (by kernel_rfl) (fun k => [(7, .int .i64 ↑k)]) (fun k w => (f < k ∧ k ≤ t ∧ btwF l f k g = false) ∧ SL w (row b4 #[.int .i64 ↑f, .int .i64 ↑t, .int .i64 ↑r] 36 :: A :: F)) (fun k => t - k) (f + 1) ⟨rfl, trivial⟩ ⟨⟨by omega, by omega, btw_none⟩, (H)⟩ ?_⟩)
 rintro k s w ⟨hc, H⟩
 obtain ⟨hk0, hk1, hB⟩ := hc
 have hob := Nat.lt_or_ge k t
 rcases hob with hkt | hkt
 ·have hob : ∃ x, l[k]? = some x := ⟨_, List.getElem?_eq_getElem (by omega)⟩
  obtain ⟨⟨ykind, yg, ychan, ycase_, yvalue, ymate, ysend, yok⟩, hy⟩ := hob
  have hdy : l.getD k evz = ⟨ykind, yg, ychan, ycase_, yvalue, ymate, ysend, yok⟩ := by rw [List.getD_eq_getElem?_getD, hy]; rfl
  have hs := btw_step (l := l) (f := f) (k := k) (g := g)
  rw [hB, hdy] at hs
  refine ⟨H.ldi 0 rfl (v := .int .i64 ↑t) rfl ?_⟩
  refine BB.yes (decide_eq_true (by omega)) (Cn.yes (⟨⟨Ix.at k 8 (by kernel_rfl) (rfl) (by omega) ?_⟩⟩))
  refine H.ldE 1 rfl hA k 1 hy (v := .int .i64 yg) rfl (BB.vr fun q1 e1 => ?_)
  cases q1
  ·have h1 := beq_eq_false_iff_ne.1 e1
   refine Cn.no (⟨IW.by (wrap_id (n := ↑k + 1) (by omega) (by omega)) ?_⟩)
   have hq : btwF l f (k + 1) g = false := btw_no hs (by dsimp only; omega)
   exact ⟨k + 1, ⟨rfl, trivial⟩, ⟨⟨by omega, by omega, hq⟩, H⟩, (show t - (k + 1) < t - k by omega)⟩
  have h1 := eq_of_beq e1
  refine Ix.at k 8 (by kernel_rfl) (rfl) (by omega) ?_
  refine H.ldE 1 rfl hA k 0 hy (v := .int .i64 ykind) rfl (BB.vr fun q2 e2 => ?_)
  cases q2
  ·have h2 := bne_eq_false_iff_eq.1 e2
   refine Cn.no (⟨IW.by (wrap_id (n := ↑k + 1) (by omega) (by omega)) ?_⟩)
   have hq : btwF l f (k + 1) g = false := btw_no hs (by dsimp only; omega)
   exact ⟨k + 1, ⟨rfl, trivial⟩, ⟨⟨by omega, by omega, hq⟩, H⟩, (show t - (k + 1) < t - k by omega)⟩
  have h2 := bne_iff_ne.1 e2
  refine Cn.yes (⟨ret1 (.bool true) rfl (by rfl) ?_⟩)
  exact ⟨by rw [btw_mono (show k + 1 ≤ t by omega) (btw_yes hs (by omega) (by dsimp only; omega) (by dsimp only; omega))], H.pick [1] 2 (by decide)⟩
 have hob : t = k := by omega
 obtain rfl := hob
 refine ⟨H.ldi 0 rfl (v := .int .i64 ↑t) rfl ?_⟩
 refine BB.no (decide_eq_false (by omega)) (Cn.no (⟨ret1 (.bool false) rfl (by rfl) ?_⟩))
 exact ⟨by rw [hB], H.pick [1] 2 (by decide)⟩
set_option maxHeartbeats 4000000 in
theorem f_crosses {w : World} {F : List Piece} {A : Piece} {lb lo lc : Nat} {l : List Ev} (hA : EvA A lb lo l) (hR : RtL l) {f t r : Nat} (hf : f < t) (ht : t < l.length) (hr6 : r ≤ 6) (hll : l.length ≤ 2000) (H : SL w (A :: F)) : Calls Tryz.prog 81 #[.slice (some ⟨lb, lo, none⟩) l.length lc, .agg #[.int .i64 ↑f, .int .i64 ↑t, .int .i64 ↑r]] w fun o w' => o = .returned (.bool (crsF l f t r)) ∧ SL w' (A :: F) := by
 obtain ⟨⟨kind, g, chan, case_, value, mate, send, ok⟩, he⟩ : ∃ x, l[t]? = some x := ⟨_, List.getElem?_eq_getElem ht⟩
 have hd : l.getD t evz = ⟨kind, g, chan, case_, value, mate, send, ok⟩ := by rw [List.getD_eq_getElem?_getD, he]; rfl
 obtain ⟨O, hO⟩ : ∃ O, doneF l chan false = O := ⟨_, rfl⟩
 obtain ⟨N, hN⟩ : ∃ N, doneF l chan true = N := ⟨_, rfl⟩
 obtain ⟨z, hZ⟩ : ∃ z, sizeF l chan = z := ⟨_, rfl⟩
 have hzb : z ≤ 100000 := by
  have := size_le (c := chan) hR
  omega
 have hOl : O.length ≤ l.length := by
  rw [← hO]
  exact done_len_le
 have hNl : N.length ≤ l.length := by
  rw [← hN]
  exact done_len_le
 refine calls_den (args := [_, _]) Tryz.func81 rfl (Nat.le_of_ble_eq_true (by kernel_rfl)) (by kernel_rfl) ?_
 refine ⟨Nw.as #[.int .i64 ↑f, .int .i64 ↑t, .int .i64 ↑r] 36 rfl H fun b3 w H => ?_⟩
 refine ⟨H.ldi 0 rfl (v := .int .i64 ↑t) rfl ?_⟩
 refine Ix.at t 8 (by kernel_rfl) (rfl) (ht) ?_
 refine H.ldE 1 rfl hA t 2 he (v := .int .i64 chan) rfl (⟨BB.vr fun q1 e1 => ?_⟩)
 cases q1
 ·have h1 := of_decide_eq_false e1
  refine Cn.no (⟨?_⟩)
  have h1 := H.pick [1, 0] 2 (by decide)
  simp only [pk, nth, pkA, pkB, pkC, pkD, pkE, pkF] at h1
  have K := f_size (c := chan) (lc := lc) hA hll h1
  rw [szI_rt hR, hZ] at K
  refine Cl.sl (by kernel_rfl) K fun w H => ?_
  replace H := H.pick [1, 0] 2 (by decide)
  simp only [pk, nth, pkA, pkB, pkC, pkD, pkE, pkF] at H
  refine ⟨?_⟩
  have h1 := H.pick [1, 0] 2 (by decide)
  simp only [pk, nth, pkA, pkB, pkC, pkD, pkE, pkF] at h1
  have K := f_done (c := chan) (s := true) (lc := lc) hA hll h1
  rw [hN] at K
  refine Cl.by (by kernel_rfl) K ?_
  rintro _ w ⟨na, nc, rfl, H⟩
  refine ⟨_, rfl, ?_⟩
  replace H := H.pick [0, 2, 1] 3 (by decide)
  simp only [pk, nth, pkA, pkB, pkC, pkD, pkE, pkF] at H
  refine ⟨?_⟩
  have h1 := H.pick [2, 0, 1] 3 (by decide)
  simp only [pk, nth, pkA, pkB, pkC, pkD, pkE, pkF] at h1
  have K := f_done (c := chan) (s := false) (lc := lc) hA hll h1
  rw [hO] at K
  refine Cl.by (by kernel_rfl) K ?_
  rintro _ w ⟨oa, oc, rfl, H⟩
  refine ⟨_, rfl, ?_⟩
  replace H := H.pick [0, 2, 3, 1] 4 (by decide)
  simp only [pk, nth, pkA, pkB, pkC, pkD, pkE, pkF] at H
  refine ⟨⟨den.loop (ι := Nat) [(4, 4), (9, 10), (30, 107)] (by kernel_rfl) (fun k => [(30, .int .i64 ↑k)]) (fun k w => (k ≤ O.length ∧ (List.range k).any (crsB l O N z f t r) = false) ∧ SL w (Slc 3 1 (.slice oa O.length oc) O.length (nats O) :: Slc 3 1 (.slice na N.length nc) N.length (nats N) :: row b3 #[.int .i64 ↑f, .int .i64 ↑t, .int .i64 ↑r] 36 :: A :: F)) (fun k => O.length - k) 0 ⟨rfl, trivial⟩ ⟨⟨Nat.zero_le _, rfl⟩, (H)⟩ ?_⟩⟩
  rintro k s w ⟨hc, H⟩
  obtain ⟨hk0, hB⟩ := hc
  have hob := Nat.lt_or_ge k O.length
  rcases hob with hko | hko
  ·have hob : ∃ o, O[k]? = some o := ⟨_, List.getElem?_eq_getElem hko⟩
   obtain ⟨o, ho⟩ := hob
   have ho' : O.getD k 0 = o := (getD_of ho).2
   have hol : o < l.length := by rw [← hO] at ho; exact done_lt (Nat.le_refl _) o (List.mem_of_getElem? ho)
   have hob := SL.slcAddr (H) (by omega)
   obtain ⟨ob, rfl⟩ := hob
   have hob := Nat.lt_or_ge k N.length
   rcases hob with hk1 | hk1
   ·have hob := Nat.lt_or_ge (k + z) N.length
    rcases hob with hk2 | hk2
    ·have hob := SL.slcAddr (H.up1) (by omega)
     obtain ⟨nb, rfl⟩ := hob
     have hob : ∃ p, N[k]? = some p := ⟨_, List.getElem?_eq_getElem hk1⟩
     obtain ⟨p, hp⟩ := hob
     have hp' : N.getD k 0 = p := (getD_of hp).2
     have hpl : p < l.length := by rw [← hN] at hp; exact done_lt (Nat.le_refl _) p (List.mem_of_getElem? hp)
     have hob : ∃ x, N[k + z]? = some x := ⟨_, List.getElem?_eq_getElem hk2⟩
     obtain ⟨x, hx⟩ := hob
     have hx' : N.getD (k + z) 0 = x := (getD_of hx).2
     have hcb := crsB_iff (l := l) (O := O) (N := N) (z := z) (f := f) (t := t) (r := r) (k := k)
     rw [ho', hp', hx'] at hcb
     refine ⟨BB.yes (decide_eq_true (by omega)) ?_⟩
     refine Cn.yes ?_
     refine ⟨⟨RgX.cut (id := 10) (ι := Bool) [(33, 61)] (by kernel_rfl) (fun u1 => [(61, .bool u1)]) (fun u1 w => (u1 = true ↔ (r = 3 ∧ begF l p = f ∧ o = t)) ∧ SL w (Slc 3 1 (.slice (some ⟨ob, 0, none⟩) O.length oc) O.length (nats O) :: Slc 3 1 (.slice (some ⟨nb, 0, none⟩) N.length nc) N.length (nats N) :: row b3 #[.int .i64 ↑f, .int .i64 ↑t, .int .i64 ↑r] 36 :: A :: F)) ?_ ?_⟩⟩
     ·refine ⟨Drw.oft (.calm 0 (.calm 1 (.calm 2 (.calm 3 (.calm 4 (.calm 5 (.calm 6 (.calm 7 (.calm 8 (.calm 9 (.calm 10 (.calm 11 (.calm 12 (.calm 13 (.calm 14 (.calm 16 (.calm 17 (.act 15 false (.act 18 true (.pure 19 (.pure 20 (.pure 21 (.pure 22 (.pure 23 (.pure 25 (.two 24 true (.act 26 true (.act 27 true (.pure 28 .nil))) 26 true (.act 24 true (.act 27 true (.pure 28 .nil))))))))))))))))))))))))))))) (by kernel_rfl) mixed (fun w => SL w _) H.drew ?_⟩
      replace H := H.drew
      refine LdC.i 2 rfl (v := .int .i64 ↑r) rfl (BB.vr fun q2 e2 => ?_)
      cases q2
      ·have h2 := beq_eq_false_iff_ne.1 e2
       refine ⟨?_, ?_⟩
       ·exact ⟨false, ⟨rfl, trivial⟩, ⟨fun hh => Bool.noConfusion hh, fun hh => by exfalso; omega⟩, H⟩
       exact ⟨false, ⟨rfl, trivial⟩, ⟨fun hh => Bool.noConfusion hh, fun hh => by exfalso; omega⟩, H⟩
      have h2 := eq_of_beq e2
      refine BB.yes (decide_eq_true (by omega)) (Ix.at0 k 1 (by kernel_rfl) (rfl) (hk1) ?_)
      refine LdC.S 1 rfl (v := .int .i64 ↑p) (nats_at hp) (LdC.i 2 rfl (v := .int .i64 ↑f) rfl ?_)
      have h1 := H.pick [3, 0, 1, 2] 4 (by decide)
      simp only [pk, nth, pkA, pkB, pkC, pkD, pkE, pkF] at h1
      refine Cl.sl (by kernel_rfl) (f_begins (lc := lc) hA (hpl) hll h1) fun w H => ?_
      replace H := H.pick [1, 2, 3, 0] 4 (by decide)
      simp only [pk, nth, pkA, pkB, pkC, pkD, pkE, pkF] at H
      refine ⟨.inr (H.pick [0, 1, 2, 3] 4 (by decide)), ?_⟩
      refine BB.vr fun q3 e3 => ?_
      refine ⟨.inl rfl, ?_⟩
      cases q3
      ·have h3 := beq_eq_false_iff_ne.1 e3
       refine ⟨?_, ?_⟩
       ·exact ⟨false, ⟨rfl, trivial⟩, ⟨fun hh => Bool.noConfusion hh, fun hh => by exfalso; omega⟩, H⟩
       exact ⟨false, ⟨rfl, trivial⟩, ⟨fun hh => Bool.noConfusion hh, fun hh => by exfalso; omega⟩, H⟩
      have h3 := eq_of_beq e3
      refine Ix.at0 k 1 (by kernel_rfl) (rfl) (hko) ?_
      refine ⟨?_, ?_⟩
      ·refine H.ldS 0 rfl (v := .int .i64 ↑o) (nats_at ho) (⟨.inl rfl, ?_⟩)
       refine H.ldi 2 rfl (v := .int .i64 ↑t) rfl (⟨.inl rfl, ?_⟩)
       refine BB.vr fun q4 e4 => ?_
       refine ⟨.inl rfl, ?_⟩
       exact ⟨q4, ⟨rfl, trivial⟩, ⟨fun hh => by subst hh; have := eq_of_beq e4; omega, fun hh => by rw [← e4]; exact beq_iff_eq.2 (by omega)⟩, H⟩
      refine H.ldi 2 rfl (v := .int .i64 ↑t) rfl (⟨.inl rfl, ?_⟩)
      refine H.ldS 0 rfl (v := .int .i64 ↑o) (nats_at ho) (⟨.inl rfl, ?_⟩)
      refine BB.vr fun q5 e5 => ?_
      refine ⟨.inl rfl, ?_⟩
      exact ⟨q5, ⟨rfl, trivial⟩, ⟨fun hh => by subst hh; have := eq_of_beq e5; omega, fun hh => by rw [← e5]; exact beq_iff_eq.2 (by omega)⟩, H⟩
     rintro u1 s w ⟨hu1, H⟩
     cases u1
     ·have hu1' : ¬ ((r = 3 ∧ begF l p = f ∧ o = t)) := fun hh => Bool.noConfusion (hu1.2 hh)
      refine Cn.no (⟨IW.by (wrap_id (n := ↑k + ↑z) (by omega) (by omega)) ?_⟩)
      refine RgX.cut (id := 13) (ι := Bool) [(65, 106)] (by kernel_rfl) (fun u2 => [(106, .bool u2)]) (fun u2 w => (u2 = true ↔ (begF l o = f ∧ x = t ∧ (r = 5 ∧ z = 0 ∨ r = 6 ∧ 0 < z))) ∧ SL w (Slc 3 1 (.slice (some ⟨ob, 0, none⟩) O.length oc) O.length (nats O) :: Slc 3 1 (.slice (some ⟨nb, 0, none⟩) N.length nc) N.length (nats N) :: row b3 #[.int .i64 ↑f, .int .i64 ↑t, .int .i64 ↑r] 36 :: A :: F)) ?_ ?_
      ·refine ⟨Drw.oft (.calm 0 (.calm 1 (.calm 2 (.calm 3 (.calm 4 (.calm 5 (.calm 6 (.calm 7 (.calm 8 (.calm 9 (.calm 11 (.calm 12 (.act 10 false (.act 13 true (.pure 14 (.pure 15 (.pure 16 (.pure 17 (.pure 18 (.pure 20 (.two 19 true (.act 21 true (.act 22 true (.pure 23 (.pure 24 (.pure 25 (.act 26 true (.act 27 true (.pure 28 (.pure 29 (.act 30 true (.pure 31 (.pure 32 (.pure 33 (.act 34 true (.act 35 true (.pure 36 (.pure 37 (.act 38 true (.pure 39 (.pure 40 (.pure 41 .nil))))))))))))))))))))) 21 true (.act 19 true (.act 22 true (.pure 23 (.pure 24 (.pure 25 (.act 26 true (.act 27 true (.pure 28 (.pure 29 (.act 30 true (.pure 31 (.pure 32 (.pure 33 (.act 34 true (.act 35 true (.pure 36 (.pure 37 (.act 38 true (.pure 39 (.pure 40 (.pure 41 .nil)))))))))))))))))))))))))))))))))))))))))) (by kernel_rfl) mixed (fun w => SL w _) H.drew ?_⟩
       replace H := H.drew
       refine BB.yes (decide_eq_true (by omega)) (Ix.at0 k 1 (by kernel_rfl) (rfl) (hko) ?_)
       refine LdC.S 0 rfl (v := .int .i64 ↑o) (nats_at ho) (LdC.i 2 rfl (v := .int .i64 ↑f) rfl ?_)
       have h1 := H.pick [3, 0, 1, 2] 4 (by decide)
       simp only [pk, nth, pkA, pkB, pkC, pkD, pkE, pkF] at h1
       refine Cl.sl (by kernel_rfl) (f_begins (lc := lc) hA (hol) hll h1) fun w H => ?_
       replace H := H.pick [1, 2, 3, 0] 4 (by decide)
       simp only [pk, nth, pkA, pkB, pkC, pkD, pkE, pkF] at H
       refine ⟨.inr (H.pick [0, 1, 2, 3] 4 (by decide)), ?_⟩
       refine BB.vr fun q6 e6 => ?_
       refine ⟨.inl rfl, ?_⟩
       cases q6
       ·have h6 := beq_eq_false_iff_ne.1 e6
        refine ⟨?_, ?_⟩
        ·exact ⟨false, ⟨rfl, trivial⟩, ⟨fun hh => Bool.noConfusion hh, fun hh => by exfalso; omega⟩, H⟩
        exact ⟨false, ⟨rfl, trivial⟩, ⟨fun hh => Bool.noConfusion hh, fun hh => by exfalso; omega⟩, H⟩
       have h6 := eq_of_beq e6
       refine Ix.at0 (k + z) 1 (by kernel_rfl) (by omega) (hk2) ?_
       refine ⟨?_, ?_⟩
       ·refine H.ldS 1 rfl (v := .int .i64 ↑x) (nats_at hx) (⟨.inl rfl, ?_⟩)
        refine H.ldi 2 rfl (v := .int .i64 ↑t) rfl (⟨.inl rfl, ?_⟩)
        refine BB.vr fun q7 e7 => ?_
        refine ⟨.inl rfl, ?_⟩
        cases q7
        ·have h7 := beq_eq_false_iff_ne.1 e7
         exact ⟨false, ⟨rfl, trivial⟩, ⟨fun hh => Bool.noConfusion hh, fun hh => by exfalso; omega⟩, H⟩
        have h7 := eq_of_beq e7
        refine H.ldi 2 rfl (v := .int .i64 ↑r) rfl (⟨.inl rfl, ?_⟩)
        refine BB.vr fun q8 e8 => ?_
        refine ⟨.inl rfl, ?_⟩
        cases q8
        ·have h8 := beq_eq_false_iff_ne.1 e8
         refine H.ldi 2 rfl (v := .int .i64 ↑r) rfl (⟨.inl rfl, ?_⟩)
         refine BB.vr fun q9 e9 => ?_
         refine ⟨.inl rfl, ?_⟩
         cases q9
         ·have h9 := beq_eq_false_iff_ne.1 e9
          exact ⟨false, ⟨rfl, trivial⟩, ⟨fun hh => Bool.noConfusion hh, fun hh => by exfalso; omega⟩, H⟩
         have h9 := eq_of_beq e9
         refine BB.vr fun q10 e10 => ?_
         refine ⟨.inl rfl, ?_⟩
         exact ⟨q10, ⟨rfl, trivial⟩, ⟨fun hh => by subst hh; have := of_decide_eq_true e10; omega, fun hh => by rw [← e10]; exact decide_eq_true (by omega)⟩, H⟩
        have h8 := eq_of_beq e8
        refine BB.vr fun q11 e11 => ?_
        refine ⟨.inl rfl, ?_⟩
        cases q11
        ·have h11 := beq_eq_false_iff_ne.1 e11
         refine H.ldi 2 rfl (v := .int .i64 ↑r) rfl (⟨.inl rfl, ?_⟩)
         refine BB.vr fun q12 e12 => ?_
         refine ⟨.inl rfl, ?_⟩
         cases q12
         ·have h12 := beq_eq_false_iff_ne.1 e12
          exact ⟨false, ⟨rfl, trivial⟩, ⟨fun hh => Bool.noConfusion hh, fun hh => by exfalso; omega⟩, H⟩
         have h12 := eq_of_beq e12
         refine BB.vr fun q13 e13 => ?_
         refine ⟨.inl rfl, ?_⟩
         exact ⟨q13, ⟨rfl, trivial⟩, ⟨fun hh => by subst hh; have := of_decide_eq_true e13; omega, fun hh => by rw [← e13]; exact decide_eq_true (by omega)⟩, H⟩
        have h11 := eq_of_beq e11
        exact ⟨true, ⟨rfl, trivial⟩, ⟨fun _ => by omega, fun _ => rfl⟩, H⟩
       refine H.ldi 2 rfl (v := .int .i64 ↑t) rfl (⟨.inl rfl, ?_⟩)
       refine H.ldS 1 rfl (v := .int .i64 ↑x) (nats_at hx) (⟨.inl rfl, ?_⟩)
       refine BB.vr fun q14 e14 => ?_
       refine ⟨.inl rfl, ?_⟩
       cases q14
       ·have h14 := beq_eq_false_iff_ne.1 e14
        exact ⟨false, ⟨rfl, trivial⟩, ⟨fun hh => Bool.noConfusion hh, fun hh => by exfalso; omega⟩, H⟩
       have h14 := eq_of_beq e14
       refine H.ldi 2 rfl (v := .int .i64 ↑r) rfl (⟨.inl rfl, ?_⟩)
       refine BB.vr fun q15 e15 => ?_
       refine ⟨.inl rfl, ?_⟩
       cases q15
       ·have h15 := beq_eq_false_iff_ne.1 e15
        refine H.ldi 2 rfl (v := .int .i64 ↑r) rfl (⟨.inl rfl, ?_⟩)
        refine BB.vr fun q16 e16 => ?_
        refine ⟨.inl rfl, ?_⟩
        cases q16
        ·have h16 := beq_eq_false_iff_ne.1 e16
         exact ⟨false, ⟨rfl, trivial⟩, ⟨fun hh => Bool.noConfusion hh, fun hh => by exfalso; omega⟩, H⟩
        have h16 := eq_of_beq e16
        refine BB.vr fun q17 e17 => ?_
        refine ⟨.inl rfl, ?_⟩
        exact ⟨q17, ⟨rfl, trivial⟩, ⟨fun hh => by subst hh; have := of_decide_eq_true e17; omega, fun hh => by rw [← e17]; exact decide_eq_true (by omega)⟩, H⟩
       have h15 := eq_of_beq e15
       refine BB.vr fun q18 e18 => ?_
       refine ⟨.inl rfl, ?_⟩
       cases q18
       ·have h18 := beq_eq_false_iff_ne.1 e18
        refine H.ldi 2 rfl (v := .int .i64 ↑r) rfl (⟨.inl rfl, ?_⟩)
        refine BB.vr fun q19 e19 => ?_
        refine ⟨.inl rfl, ?_⟩
        cases q19
        ·have h19 := beq_eq_false_iff_ne.1 e19
         exact ⟨false, ⟨rfl, trivial⟩, ⟨fun hh => Bool.noConfusion hh, fun hh => by exfalso; omega⟩, H⟩
        have h19 := eq_of_beq e19
        refine BB.vr fun q20 e20 => ?_
        refine ⟨.inl rfl, ?_⟩
        exact ⟨q20, ⟨rfl, trivial⟩, ⟨fun hh => by subst hh; have := of_decide_eq_true e20; omega, fun hh => by rw [← e20]; exact decide_eq_true (by omega)⟩, H⟩
       have h18 := eq_of_beq e18
       exact ⟨true, ⟨rfl, trivial⟩, ⟨fun _ => by omega, fun _ => rfl⟩, H⟩
      rintro u2 s w ⟨hu2, H⟩
      cases u2
      ·have hu2' : ¬ ((begF l o = f ∧ x = t ∧ (r = 5 ∧ z = 0 ∨ r = 6 ∧ 0 < z))) := fun hh => Bool.noConfusion (hu2.2 hh)
       refine Cn.no (⟨IW.by (wrap_id (n := ↑k + 1) (by omega) (by omega)) ?_⟩)
       have hq : crsB l O N z f t r k = false := Bool.eq_false_iff.2 fun hh => by have := hcb.1 hh; omega
       exact ⟨k + 1, ⟨rfl, trivial⟩, ⟨⟨by omega, any_step hB hq⟩, H⟩, (show O.length - (k + 1) < O.length - k by omega)⟩
      have hu2' := hu2.1 rfl
      refine Cn.yes (⟨ret1 (.bool true) rfl (by rfl) ?_⟩)
      rw [crs_is (by rw [hd]; dsimp only; omega), hd]
      dsimp only
      rw [hO, hN, hZ]
      have hq : crsB l O N z f t r k = true := hcb.2 (by omega)
      exact ⟨by rw [any_hit hko hq], H.pick [3] 4 (by decide)⟩
     have hu1' := hu1.1 rfl
     refine Cn.yes (⟨ret1 (.bool true) rfl (by rfl) ?_⟩)
     rw [crs_is (by rw [hd]; dsimp only; omega), hd]
     dsimp only
     rw [hO, hN, hZ]
     have hq : crsB l O N z f t r k = true := hcb.2 (by omega)
     exact ⟨by rw [any_hit hko hq], H.pick [3] 4 (by decide)⟩
    have hob := SL.slcAddr (H.up1) (by omega)
    obtain ⟨nb, rfl⟩ := hob
    have hob : ∃ p, N[k]? = some p := ⟨_, List.getElem?_eq_getElem hk1⟩
    obtain ⟨p, hp⟩ := hob
    have hp' : N.getD k 0 = p := (getD_of hp).2
    have hpl : p < l.length := by rw [← hN] at hp; exact done_lt (Nat.le_refl _) p (List.mem_of_getElem? hp)
    have hcb := crsB_iff (l := l) (O := O) (N := N) (z := z) (f := f) (t := t) (r := r) (k := k)
    rw [ho', hp'] at hcb
    refine ⟨BB.yes (decide_eq_true (by omega)) ?_⟩
    refine Cn.yes ?_
    refine ⟨⟨RgX.cut (id := 10) (ι := Bool) [(33, 61)] (by kernel_rfl) (fun u1 => [(61, .bool u1)]) (fun u1 w => (u1 = true ↔ (r = 3 ∧ begF l p = f ∧ o = t)) ∧ SL w (Slc 3 1 (.slice (some ⟨ob, 0, none⟩) O.length oc) O.length (nats O) :: Slc 3 1 (.slice (some ⟨nb, 0, none⟩) N.length nc) N.length (nats N) :: row b3 #[.int .i64 ↑f, .int .i64 ↑t, .int .i64 ↑r] 36 :: A :: F)) ?_ ?_⟩⟩
    ·refine ⟨Drw.oft (.calm 0 (.calm 1 (.calm 2 (.calm 3 (.calm 4 (.calm 5 (.calm 6 (.calm 7 (.calm 8 (.calm 9 (.calm 10 (.calm 11 (.calm 12 (.calm 13 (.calm 14 (.calm 16 (.calm 17 (.act 15 false (.act 18 true (.pure 19 (.pure 20 (.pure 21 (.pure 22 (.pure 23 (.pure 25 (.two 24 true (.act 26 true (.act 27 true (.pure 28 .nil))) 26 true (.act 24 true (.act 27 true (.pure 28 .nil))))))))))))))))))))))))))))) (by kernel_rfl) mixed (fun w => SL w _) H.drew ?_⟩
     replace H := H.drew
     refine LdC.i 2 rfl (v := .int .i64 ↑r) rfl (BB.vr fun q21 e21 => ?_)
     cases q21
     ·have h21 := beq_eq_false_iff_ne.1 e21
      refine ⟨?_, ?_⟩
      ·exact ⟨false, ⟨rfl, trivial⟩, ⟨fun hh => Bool.noConfusion hh, fun hh => by exfalso; omega⟩, H⟩
      exact ⟨false, ⟨rfl, trivial⟩, ⟨fun hh => Bool.noConfusion hh, fun hh => by exfalso; omega⟩, H⟩
     have h21 := eq_of_beq e21
     refine BB.yes (decide_eq_true (by omega)) (Ix.at0 k 1 (by kernel_rfl) (rfl) (hk1) ?_)
     refine LdC.S 1 rfl (v := .int .i64 ↑p) (nats_at hp) (LdC.i 2 rfl (v := .int .i64 ↑f) rfl ?_)
     have h1 := H.pick [3, 0, 1, 2] 4 (by decide)
     simp only [pk, nth, pkA, pkB, pkC, pkD, pkE, pkF] at h1
     refine Cl.sl (by kernel_rfl) (f_begins (lc := lc) hA (hpl) hll h1) fun w H => ?_
     replace H := H.pick [1, 2, 3, 0] 4 (by decide)
     simp only [pk, nth, pkA, pkB, pkC, pkD, pkE, pkF] at H
     refine ⟨.inr (H.pick [0, 1, 2, 3] 4 (by decide)), ?_⟩
     refine BB.vr fun q22 e22 => ?_
     refine ⟨.inl rfl, ?_⟩
     cases q22
     ·have h22 := beq_eq_false_iff_ne.1 e22
      refine ⟨?_, ?_⟩
      ·exact ⟨false, ⟨rfl, trivial⟩, ⟨fun hh => Bool.noConfusion hh, fun hh => by exfalso; omega⟩, H⟩
      exact ⟨false, ⟨rfl, trivial⟩, ⟨fun hh => Bool.noConfusion hh, fun hh => by exfalso; omega⟩, H⟩
     have h22 := eq_of_beq e22
     refine Ix.at0 k 1 (by kernel_rfl) (rfl) (hko) ?_
     refine ⟨?_, ?_⟩
     ·refine H.ldS 0 rfl (v := .int .i64 ↑o) (nats_at ho) (⟨.inl rfl, ?_⟩)
      refine H.ldi 2 rfl (v := .int .i64 ↑t) rfl (⟨.inl rfl, ?_⟩)
      refine BB.vr fun q23 e23 => ?_
      refine ⟨.inl rfl, ?_⟩
      exact ⟨q23, ⟨rfl, trivial⟩, ⟨fun hh => by subst hh; have := eq_of_beq e23; omega, fun hh => by rw [← e23]; exact beq_iff_eq.2 (by omega)⟩, H⟩
     refine H.ldi 2 rfl (v := .int .i64 ↑t) rfl (⟨.inl rfl, ?_⟩)
     refine H.ldS 0 rfl (v := .int .i64 ↑o) (nats_at ho) (⟨.inl rfl, ?_⟩)
     refine BB.vr fun q24 e24 => ?_
     refine ⟨.inl rfl, ?_⟩
     exact ⟨q24, ⟨rfl, trivial⟩, ⟨fun hh => by subst hh; have := eq_of_beq e24; omega, fun hh => by rw [← e24]; exact beq_iff_eq.2 (by omega)⟩, H⟩
    rintro u1 s w ⟨hu1, H⟩
    cases u1
    ·have hu1' : ¬ ((r = 3 ∧ begF l p = f ∧ o = t)) := fun hh => Bool.noConfusion (hu1.2 hh)
     refine Cn.no (⟨IW.by (wrap_id (n := ↑k + ↑z) (by omega) (by omega)) ?_⟩)
     refine RgX.cut (id := 13) (ι := Bool) [(65, 106)] (by kernel_rfl) (fun u2 => [(106, .bool u2)]) (fun u2 w => u2 = false ∧ SL w (Slc 3 1 (.slice (some ⟨ob, 0, none⟩) O.length oc) O.length (nats O) :: Slc 3 1 (.slice (some ⟨nb, 0, none⟩) N.length nc) N.length (nats N) :: row b3 #[.int .i64 ↑f, .int .i64 ↑t, .int .i64 ↑r] 36 :: A :: F)) ?_ ?_
     ·refine ⟨Drw.oft (.calm 0 (.calm 1 (.calm 2 (.calm 3 (.calm 4 (.calm 5 (.calm 6 (.calm 7 (.calm 8 (.calm 9 (.calm 11 (.calm 12 (.act 10 false (.act 13 true (.pure 14 (.pure 15 (.pure 16 (.pure 17 (.pure 18 (.pure 20 (.two 19 true (.act 21 true (.act 22 true (.pure 23 (.pure 24 (.pure 25 (.act 26 true (.act 27 true (.pure 28 (.pure 29 (.act 30 true (.pure 31 (.pure 32 (.pure 33 (.act 34 true (.act 35 true (.pure 36 (.pure 37 (.act 38 true (.pure 39 (.pure 40 (.pure 41 .nil))))))))))))))))))))) 21 true (.act 19 true (.act 22 true (.pure 23 (.pure 24 (.pure 25 (.act 26 true (.act 27 true (.pure 28 (.pure 29 (.act 30 true (.pure 31 (.pure 32 (.pure 33 (.act 34 true (.act 35 true (.pure 36 (.pure 37 (.act 38 true (.pure 39 (.pure 40 (.pure 41 .nil)))))))))))))))))))))))))))))))))))))))))) (by kernel_rfl) mixed (fun w => SL w _) H.drew ?_⟩
      replace H := H.drew
      refine BB.no (decide_eq_false (by omega)) ?_
      refine ⟨?_, ?_⟩
      ·exact ⟨false, ⟨rfl, trivial⟩, rfl, H⟩
      exact ⟨false, ⟨rfl, trivial⟩, rfl, H⟩
     rintro u2 s w ⟨hu2, H⟩
     subst hu2
     refine Cn.no (⟨IW.by (wrap_id (n := ↑k + 1) (by omega) (by omega)) ?_⟩)
     have hq : crsB l O N z f t r k = false := Bool.eq_false_iff.2 fun hh => by have := hcb.1 hh; omega
     exact ⟨k + 1, ⟨rfl, trivial⟩, ⟨⟨by omega, any_step hB hq⟩, H⟩, (show O.length - (k + 1) < O.length - k by omega)⟩
    have hu1' := hu1.1 rfl
    refine Cn.yes (⟨ret1 (.bool true) rfl (by rfl) ?_⟩)
    rw [crs_is (by rw [hd]; dsimp only; omega), hd]
    dsimp only
    rw [hO, hN, hZ]
    have hq : crsB l O N z f t r k = true := hcb.2 (by omega)
    exact ⟨by rw [any_hit hko hq], H.pick [3] 4 (by decide)⟩
   have hk2 : N.length ≤ k + z := by omega
   have hcb := crsB_iff (l := l) (O := O) (N := N) (z := z) (f := f) (t := t) (r := r) (k := k)
   rw [ho'] at hcb
   refine ⟨BB.yes (decide_eq_true (by omega)) ?_⟩
   refine Cn.yes ?_
   refine ⟨⟨RgX.cut (id := 10) (ι := Bool) [(33, 61)] (by kernel_rfl) (fun u1 => [(61, .bool u1)]) (fun u1 w => u1 = false ∧ SL w (Slc 3 1 (.slice (some ⟨ob, 0, none⟩) O.length oc) O.length (nats O) :: Slc 3 1 (.slice na N.length nc) N.length (nats N) :: row b3 #[.int .i64 ↑f, .int .i64 ↑t, .int .i64 ↑r] 36 :: A :: F)) ?_ ?_⟩⟩
   ·refine ⟨Drw.oft (.calm 0 (.calm 1 (.calm 2 (.calm 3 (.calm 4 (.calm 5 (.calm 6 (.calm 7 (.calm 8 (.calm 9 (.calm 10 (.calm 11 (.calm 12 (.calm 13 (.calm 14 (.calm 16 (.calm 17 (.act 15 false (.act 18 true (.pure 19 (.pure 20 (.pure 21 (.pure 22 (.pure 23 (.pure 25 (.two 24 true (.act 26 true (.act 27 true (.pure 28 .nil))) 26 true (.act 24 true (.act 27 true (.pure 28 .nil))))))))))))))))))))))))))))) (by kernel_rfl) mixed (fun w => SL w _) H.drew ?_⟩
    replace H := H.drew
    refine LdC.i 2 rfl (v := .int .i64 ↑r) rfl (BB.vr fun q25 e25 => ?_)
    cases q25
    ·have h25 := beq_eq_false_iff_ne.1 e25
     refine ⟨?_, ?_⟩
     ·exact ⟨false, ⟨rfl, trivial⟩, rfl, H⟩
     exact ⟨false, ⟨rfl, trivial⟩, rfl, H⟩
    have h25 := eq_of_beq e25
    refine BB.no (decide_eq_false (by omega)) ?_
    refine ⟨?_, ?_⟩
    ·exact ⟨false, ⟨rfl, trivial⟩, rfl, H⟩
    exact ⟨false, ⟨rfl, trivial⟩, rfl, H⟩
   rintro u1 s w ⟨hu1, H⟩
   subst hu1
   refine Cn.no (⟨IW.by (wrap_id (n := ↑k + ↑z) (by omega) (by omega)) ?_⟩)
   refine RgX.cut (id := 13) (ι := Bool) [(65, 106)] (by kernel_rfl) (fun u2 => [(106, .bool u2)]) (fun u2 w => u2 = false ∧ SL w (Slc 3 1 (.slice (some ⟨ob, 0, none⟩) O.length oc) O.length (nats O) :: Slc 3 1 (.slice na N.length nc) N.length (nats N) :: row b3 #[.int .i64 ↑f, .int .i64 ↑t, .int .i64 ↑r] 36 :: A :: F)) ?_ ?_
   ·refine ⟨Drw.oft (.calm 0 (.calm 1 (.calm 2 (.calm 3 (.calm 4 (.calm 5 (.calm 6 (.calm 7 (.calm 8 (.calm 9 (.calm 11 (.calm 12 (.act 10 false (.act 13 true (.pure 14 (.pure 15 (.pure 16 (.pure 17 (.pure 18 (.pure 20 (.two 19 true (.act 21 true (.act 22 true (.pure 23 (.pure 24 (.pure 25 (.act 26 true (.act 27 true (.pure 28 (.pure 29 (.act 30 true (.pure 31 (.pure 32 (.pure 33 (.act 34 true (.act 35 true (.pure 36 (.pure 37 (.act 38 true (.pure 39 (.pure 40 (.pure 41 .nil))))))))))))))))))))) 21 true (.act 19 true (.act 22 true (.pure 23 (.pure 24 (.pure 25 (.act 26 true (.act 27 true (.pure 28 (.pure 29 (.act 30 true (.pure 31 (.pure 32 (.pure 33 (.act 34 true (.act 35 true (.pure 36 (.pure 37 (.act 38 true (.pure 39 (.pure 40 (.pure 41 .nil)))))))))))))))))))))))))))))))))))))))))) (by kernel_rfl) mixed (fun w => SL w _) H.drew ?_⟩
    replace H := H.drew
    refine BB.no (decide_eq_false (by omega)) ?_
    refine ⟨?_, ?_⟩
    ·exact ⟨false, ⟨rfl, trivial⟩, rfl, H⟩
    exact ⟨false, ⟨rfl, trivial⟩, rfl, H⟩
   rintro u2 s w ⟨hu2, H⟩
   subst hu2
   refine Cn.no (⟨IW.by (wrap_id (n := ↑k + 1) (by omega) (by omega)) ?_⟩)
   have hq : crsB l O N z f t r k = false := Bool.eq_false_iff.2 fun hh => by have := hcb.1 hh; omega
   exact ⟨k + 1, ⟨rfl, trivial⟩, ⟨⟨by omega, any_step hB hq⟩, H⟩, (show O.length - (k + 1) < O.length - k by omega)⟩
  have hob : k = O.length := by omega
  obtain rfl := hob
  refine ⟨BB.no (decide_eq_false (by omega)) ?_⟩
  refine Cn.no (⟨ret1 (.bool false) rfl (by rfl) ?_⟩)
  rw [crs_is (by rw [hd]; dsimp only; omega), hd]
  dsimp only
  rw [hO, hN, hZ]
  exact ⟨by rw [hB], H.pick [3] 4 (by decide)⟩
 have h1 := of_decide_eq_true e1
 refine Cn.yes (⟨ret1 (.bool false) rfl (by rfl) ?_⟩)
 have hq : crsF l f t r = false := by unfold crsF; rw [hd]; dsimp only; rw [if_pos (by omega)]
 exact ⟨by rw [hq], H.pick [1] 2 (by decide)⟩
set_option maxHeartbeats 4000000 in
theorem f_is {w : World} {F : List Piece} {A : Piece} {lb lo lc : Nat} {l : List Ev} (hA : EvA A lb lo l) (hR : RtL l) {f t r : Nat} (hf : f < t) (ht : t < l.length) (hr6 : r ≤ 6) (hll : l.length ≤ 2000) (H : SL w (A :: F)) : Calls Tryz.prog 42 #[.slice (some ⟨lb, lo, none⟩) l.length lc, .agg #[.int .i64 ↑f, .int .i64 ↑t, .int .i64 ↑r]] w fun o w' => o = .returned (.bool (isF l f t r)) ∧ SL w' (A :: F) := by
 obtain ⟨⟨kind, g, chan, case_, value, mate, send, ok⟩, he⟩ : ∃ x, l[f]? = some x := ⟨_, List.getElem?_eq_getElem (by omega)⟩
 have hd : l.getD f evz = ⟨kind, g, chan, case_, value, mate, send, ok⟩ := by rw [List.getD_eq_getElem?_getD, he]; rfl
 obtain ⟨⟨ykind, yg, ychan, ycase_, yvalue, ymate, ysend, yok⟩, hy⟩ : ∃ x, l[t]? = some x := ⟨_, List.getElem?_eq_getElem ht⟩
 have hdy : l.getD t evz = ⟨ykind, yg, ychan, ycase_, yvalue, ymate, ysend, yok⟩ := by rw [List.getD_eq_getElem?_getD, hy]; rfl
 refine calls_den (args := [_, _]) Tryz.func42 rfl (Nat.le_of_ble_eq_true (by kernel_rfl)) (by kernel_rfl) ?_
 refine ⟨Nw.as #[.int .i64 ↑f, .int .i64 ↑t, .int .i64 ↑r] 36 rfl H fun b3 w H => ?_⟩
 refine ⟨H.ldi 0 rfl (v := .int .i64 ↑f) rfl ?_⟩
 refine Ix.at f 8 (by kernel_rfl) (rfl) (by omega) ?_
 refine H.ldEv 1 rfl hA f he (Nw.as #[.int .i64 0, .int .i64 0, .int .i64 0, .int .i64 0, .int .i64 0, .int .i64 0, .bool false, .bool false] 53 rfl H fun b5 w H => ?_)
 refine SL.stEv H rfl rfl fun w H => ?_
 refine ⟨H.ldi 1 rfl (v := .int .i64 ↑t) rfl ?_⟩
 refine Ix.at t 8 (by kernel_rfl) (rfl) (by omega) ?_
 refine H.ldEv 2 rfl hA t hy (Nw.as #[.int .i64 0, .int .i64 0, .int .i64 0, .int .i64 0, .int .i64 0, .int .i64 0, .bool false, .bool false] 53 rfl H fun b6 w H => ?_)
 refine SL.stEv H rfl rfl fun w H => ?_
 refine ⟨H.ldi 1 rfl (v := .int .i64 kind) rfl ?_⟩
 refine BB.vr fun q1 e1 => ?_
 cases q1
 ·have h1 := beq_eq_false_iff_ne.1 e1
  refine H.ldi 0 rfl (v := .int .i64 ykind) rfl (BB.vr fun q2 e2 => ?_)
  cases q2
  ·have h2 := beq_eq_false_iff_ne.1 e2
   refine Cn.no (⟨H.ldi 2 rfl (v := .int .i64 ↑r) rfl ?_⟩)
   refine ⟨⟨BB.vr fun q3 e3 => ?_⟩⟩
   cases q3
   ·have h3 := beq_eq_false_iff_ne.1 e3
    refine Cn.no (⟨BB.vr fun q4 e4 => ?_⟩)
    cases q4
    ·have h4 := beq_eq_false_iff_ne.1 e4
     refine Cn.no (⟨BB.vr fun q5 e5 => ?_⟩)
     cases q5
     ·have h5 := beq_eq_false_iff_ne.1 e5
      refine Cn.no (⟨H.ldi 2 rfl (v := .int .i64 ↑f) rfl ?_⟩)
      refine H.ldi 2 rfl (v := .int .i64 ↑t) rfl (H.ldi 2 rfl (v := .int .i64 ↑r) rfl ?_)
      have h1 := H.pick [3, 0, 1, 2] 4 (by decide)
      simp only [pk, nth, pkA, pkB, pkC, pkD, pkE, pkF] at h1
      refine Cl.sl (by kernel_rfl) (f_crosses (lc := lc) hA hR hf ht hr6 hll h1) fun w H => ?_
      replace H := H.pick [1, 2, 3, 0] 4 (by decide)
      simp only [pk, nth, pkA, pkB, pkC, pkD, pkE, pkF] at H
      refine BB.k (ret1 (.bool (crsF l f t r)) rfl (by rfl) ?_)
      have hq : isF l f t r = ((crsF l f t r)) := by
       unfold isF
       rw [hd, hdy]
       dsimp only
       rw [if_neg (by omega)]
       rw [if_neg (by omega)]
       rw [if_neg (by omega)]
       rw [if_neg (by omega)]
      exact ⟨by rw [hq], H.pick [3] 4 (by decide)⟩
     have h5 := eq_of_beq e5
     refine Cn.yes (⟨H.ldi 1 rfl (v := .int .i64 kind) rfl ?_⟩)
     refine BB.vr fun q6 e6 => ?_
     cases q6
     ·have h6 := beq_eq_false_iff_ne.1 e6
      refine ret1 (.bool false) rfl (by rfl) ?_
      have hq : isF l f t r = (false) := by
       unfold isF
       rw [hd, hdy]
       dsimp only
       rw [if_neg (by omega)]
       rw [if_neg (by omega)]
       rw [if_neg (by omega)]
       rw [if_pos (by omega)]
       rw [show (kind == 5) = false from beq_eq_false_iff_ne.2 (by omega)]
       first | rw [show yok = true by assumption] | rw [show yok = false by assumption] | skip
       simp only [Bool.true_and, Bool.and_true, Bool.false_and, Bool.and_false, Bool.true_or, Bool.or_true, Bool.not_true, Bool.not_false, Bool.or_false, Bool.false_or]
      exact ⟨by rw [hq], H.pick [3] 4 (by decide)⟩
     have h6 := eq_of_beq e6
     refine H.ldi 0 rfl (v := .int .i64 ykind) rfl (BB.vr fun q7 e7 => ?_)
     cases q7
     ·have h7 := beq_eq_false_iff_ne.1 e7
      refine H.ldi 0 rfl (v := .int .i64 ykind) rfl (BB.vr fun q8 e8 => ?_)
      cases q8
      ·have h8 := beq_eq_false_iff_ne.1 e8
       refine ret1 (.bool false) rfl (by rfl) ?_
       have hq : isF l f t r = (false) := by
        unfold isF
        rw [hd, hdy]
        dsimp only
        rw [if_neg (by omega)]
        rw [if_neg (by omega)]
        rw [if_neg (by omega)]
        rw [if_pos (by omega)]
        rw [show (kind == 5) = true from beq_iff_eq.2 (by omega)]
        rw [show (ykind == 4) = false from beq_eq_false_iff_ne.2 (by omega)]
        rw [show (ykind == 7) = false from beq_eq_false_iff_ne.2 (by omega)]
        first | rw [show yok = true by assumption] | rw [show yok = false by assumption] | skip
        simp only [Bool.true_and, Bool.and_true, Bool.false_and, Bool.and_false, Bool.true_or, Bool.or_true, Bool.not_true, Bool.not_false, Bool.or_false, Bool.false_or]
       exact ⟨by rw [hq], H.pick [3] 4 (by decide)⟩
      have h8 := eq_of_beq e8
      refine H.ldi 0 rfl (v := .bool yok) rfl (BB.k (BB.vr fun q9 e9 => ?_))
      cases q9
      ·have h9 : yok = true := by simpa using e9
       refine ret1 (.bool false) rfl (by rfl) ?_
       have hq : isF l f t r = (false) := by
        unfold isF
        rw [hd, hdy]
        dsimp only
        rw [if_neg (by omega)]
        rw [if_neg (by omega)]
        rw [if_neg (by omega)]
        rw [if_pos (by omega)]
        rw [show (kind == 5) = true from beq_iff_eq.2 (by omega)]
        rw [show (ykind == 4) = false from beq_eq_false_iff_ne.2 (by omega)]
        rw [show (ykind == 7) = true from beq_iff_eq.2 (by omega)]
        first | rw [show yok = true by assumption] | rw [show yok = false by assumption] | skip
        simp only [Bool.true_and, Bool.and_true, Bool.false_and, Bool.and_false, Bool.true_or, Bool.or_true, Bool.not_true, Bool.not_false, Bool.or_false, Bool.false_or]
       exact ⟨by rw [hq], H.pick [3] 4 (by decide)⟩
      have h9 : yok = false := by simpa using e9
      refine H.ldi 0 rfl (v := .int .i64 ychan) rfl (H.ldi 1 rfl (v := .int .i64 chan) rfl (BB.k (ret1 (.bool (ychan == chan)) rfl (by rfl) ?_)))
      have hq : isF l f t r = (ychan == chan) := by
       unfold isF
       rw [hd, hdy]
       dsimp only
       rw [if_neg (by omega)]
       rw [if_neg (by omega)]
       rw [if_neg (by omega)]
       rw [if_pos (by omega)]
       rw [show (kind == 5) = true from beq_iff_eq.2 (by omega)]
       rw [show (ykind == 4) = false from beq_eq_false_iff_ne.2 (by omega)]
       rw [show (ykind == 7) = true from beq_iff_eq.2 (by omega)]
       first | rw [show yok = true by assumption] | rw [show yok = false by assumption] | skip
       simp only [Bool.true_and, Bool.and_true, Bool.false_and, Bool.and_false, Bool.true_or, Bool.or_true, Bool.not_true, Bool.not_false, Bool.or_false, Bool.false_or]
      exact ⟨by rw [hq], H.pick [3] 4 (by decide)⟩
     have h7 := eq_of_beq e7
     refine H.ldi 0 rfl (v := .bool yok) rfl (BB.k (BB.vr fun q10 e10 => ?_))
     cases q10
     ·have h10 : yok = true := by simpa using e10
      refine ret1 (.bool false) rfl (by rfl) ?_
      have hq : isF l f t r = (false) := by
       unfold isF
       rw [hd, hdy]
       dsimp only
       rw [if_neg (by omega)]
       rw [if_neg (by omega)]
       rw [if_neg (by omega)]
       rw [if_pos (by omega)]
       rw [show (kind == 5) = true from beq_iff_eq.2 (by omega)]
       rw [show (ykind == 4) = true from beq_iff_eq.2 (by omega)]
       first | rw [show yok = true by assumption] | rw [show yok = false by assumption] | skip
       simp only [Bool.true_and, Bool.and_true, Bool.false_and, Bool.and_false, Bool.true_or, Bool.or_true, Bool.not_true, Bool.not_false, Bool.or_false, Bool.false_or]
      exact ⟨by rw [hq], H.pick [3] 4 (by decide)⟩
     have h10 : yok = false := by simpa using e10
     refine H.ldi 0 rfl (v := .int .i64 ychan) rfl (H.ldi 1 rfl (v := .int .i64 chan) rfl (BB.k (ret1 (.bool (ychan == chan)) rfl (by rfl) ?_)))
     have hq : isF l f t r = (ychan == chan) := by
      unfold isF
      rw [hd, hdy]
      dsimp only
      rw [if_neg (by omega)]
      rw [if_neg (by omega)]
      rw [if_neg (by omega)]
      rw [if_pos (by omega)]
      rw [show (kind == 5) = true from beq_iff_eq.2 (by omega)]
      rw [show (ykind == 4) = true from beq_iff_eq.2 (by omega)]
      first | rw [show yok = true by assumption] | rw [show yok = false by assumption] | skip
      simp only [Bool.true_and, Bool.and_true, Bool.false_and, Bool.and_false, Bool.true_or, Bool.or_true, Bool.not_true, Bool.not_false, Bool.or_false, Bool.false_or]
     exact ⟨by rw [hq], H.pick [3] 4 (by decide)⟩
    have h4 := eq_of_beq e4
    refine Cn.yes (⟨H.ldi 1 rfl (v := .int .i64 kind) rfl ?_⟩)
    refine BB.vr fun q11 e11 => ?_
    cases q11
    ·have h11 := beq_eq_false_iff_ne.1 e11
     refine ret1 (.bool false) rfl (by rfl) ?_
     have hq : isF l f t r = (false) := by
      unfold isF
      rw [hd, hdy]
      dsimp only
      rw [if_neg (by omega)]
      rw [if_neg (by omega)]
      rw [if_pos (by omega)]
      rw [show (kind == 1) = false from beq_eq_false_iff_ne.2 (by omega)]
      simp only [Bool.true_and, Bool.and_true, Bool.false_and, Bool.and_false, Bool.true_or, Bool.or_true, Bool.not_true, Bool.not_false, Bool.or_false, Bool.false_or]
     exact ⟨by rw [hq], H.pick [3] 4 (by decide)⟩
    have h11 := eq_of_beq e11
    refine H.ldi 1 rfl (v := .int .i64 mate) rfl (H.ldi 0 rfl (v := .int .i64 yg) rfl (BB.vr fun q12 e12 => ?_))
    cases q12
    ·have h12 := beq_eq_false_iff_ne.1 e12
     refine ret1 (.bool false) rfl (by rfl) ?_
     have hq : isF l f t r = (false) := by
      unfold isF
      rw [hd, hdy]
      dsimp only
      rw [if_neg (by omega)]
      rw [if_neg (by omega)]
      rw [if_pos (by omega)]
      rw [show (kind == 1) = true from beq_iff_eq.2 (by omega)]
      rw [show (mate == yg) = false from beq_eq_false_iff_ne.2 (by omega)]
      simp only [Bool.true_and, Bool.and_true, Bool.false_and, Bool.and_false, Bool.true_or, Bool.or_true, Bool.not_true, Bool.not_false, Bool.or_false, Bool.false_or]
     exact ⟨by rw [hq], H.pick [3] 4 (by decide)⟩
    have h12 := eq_of_beq e12
    refine H.ldi 2 rfl (v := .int .i64 ↑f) rfl (H.ldi 2 rfl (v := .int .i64 ↑t) rfl (H.ldi 2 rfl (v := .int .i64 ↑r) rfl (H.ldi 0 rfl (v := .int .i64 yg) rfl ?_)))
    have h1 := H.pick [3, 0, 1, 2] 4 (by decide)
    simp only [pk, nth, pkA, pkB, pkC, pkD, pkE, pkF] at h1
    refine Cl.sl (by kernel_rfl) (f_between (g := yg) (lc := lc) hA hf ht hll h1) fun w H => ?_
    replace H := H.pick [1, 2, 3, 0] 4 (by decide)
    simp only [pk, nth, pkA, pkB, pkC, pkD, pkE, pkF] at H
    refine BB.k (BB.k (ret1 (.bool (!(btwF l f t yg))) rfl (by rfl) ?_))
    have hq : isF l f t r = (!(btwF l f t yg)) := by
     unfold isF
     rw [hd, hdy]
     dsimp only
     rw [if_neg (by omega)]
     rw [if_neg (by omega)]
     rw [if_pos (by omega)]
     rw [show (kind == 1) = true from beq_iff_eq.2 (by omega)]
     rw [show (mate == yg) = true from beq_iff_eq.2 (by omega)]
     simp only [Bool.true_and, Bool.and_true, Bool.false_and, Bool.and_false, Bool.true_or, Bool.or_true, Bool.not_true, Bool.not_false, Bool.or_false, Bool.false_or]
    exact ⟨by rw [hq], H.pick [3] 4 (by decide)⟩
   have h3 := eq_of_beq e3
   refine Cn.yes (⟨H.ldi 1 rfl (v := .int .i64 g) rfl ?_⟩)
   refine H.ldi 0 rfl (v := .int .i64 yg) rfl (BB.vr fun q13 e13 => ?_)
   cases q13
   ·have h13 := beq_eq_false_iff_ne.1 e13
    refine ret1 (.bool false) rfl (by rfl) ?_
    have hq : isF l f t r = (false) := by
     unfold isF
     rw [hd, hdy]
     dsimp only
     rw [if_neg (by omega)]
     rw [if_pos (by omega)]
     rw [show (g == yg) = false from beq_eq_false_iff_ne.2 (by omega)]
     simp only [Bool.true_and, Bool.and_true, Bool.false_and, Bool.and_false, Bool.true_or, Bool.or_true, Bool.not_true, Bool.not_false, Bool.or_false, Bool.false_or]
    exact ⟨by rw [hq], H.pick [3] 4 (by decide)⟩
   have h13 := eq_of_beq e13
   refine H.ldi 2 rfl (v := .int .i64 ↑f) rfl (H.ldi 2 rfl (v := .int .i64 ↑t) rfl (H.ldi 2 rfl (v := .int .i64 ↑r) rfl (H.ldi 0 rfl (v := .int .i64 yg) rfl ?_)))
   have h1 := H.pick [3, 0, 1, 2] 4 (by decide)
   simp only [pk, nth, pkA, pkB, pkC, pkD, pkE, pkF] at h1
   refine Cl.sl (by kernel_rfl) (f_between (g := yg) (lc := lc) hA hf ht hll h1) fun w H => ?_
   replace H := H.pick [1, 2, 3, 0] 4 (by decide)
   simp only [pk, nth, pkA, pkB, pkC, pkD, pkE, pkF] at H
   refine BB.k (BB.k (ret1 (.bool (!(btwF l f t yg))) rfl (by rfl) ?_))
   have hq : isF l f t r = (!(btwF l f t yg)) := by
    unfold isF
    rw [hd, hdy]
    dsimp only
    rw [if_neg (by omega)]
    rw [if_pos (by omega)]
    rw [show (g == yg) = true from beq_iff_eq.2 (by omega)]
    simp only [Bool.true_and, Bool.and_true, Bool.false_and, Bool.and_false, Bool.true_or, Bool.or_true, Bool.not_true, Bool.not_false, Bool.or_false, Bool.false_or]
   exact ⟨by rw [hq], H.pick [3] 4 (by decide)⟩
  have h2 := eq_of_beq e2
  refine Cn.yes (⟨ret1 (.bool false) rfl (by rfl) ?_⟩)
  have hq : isF l f t r = (false) := by
   unfold isF
   rw [hd, hdy]
   dsimp only
   rw [if_pos (by omega)]
  exact ⟨by rw [hq], H.pick [3] 4 (by decide)⟩
 have h1 := eq_of_beq e1
 refine Cn.yes (⟨ret1 (.bool false) rfl (by rfl) ?_⟩)
 have hq : isF l f t r = (false) := by
  unfold isF
  rw [hd, hdy]
  dsimp only
  rw [if_pos (by omega)]
 exact ⟨by rw [hq], H.pick [3] 4 (by decide)⟩
end Go.Proofs.YtoamjodmidbmbaaGreatDoor
namespace Go.Proofs.YtoamjodmidbmbaaGreatDoor
open Go.RowKit
section
variable {P : Program} {w : World} {F : List Piece} {σ : Fr} {te sz g n c : Nat} {xs : List Value}
theorem SL.setS (H : SL w (Slc te sz (.slice (some ⟨g, 0, none⟩) n c) n xs :: F)) {o : Nat} (ho : o < xs.length) (u : Value) : SL (w.setCell ⟨g, o, none⟩ u) (Slc te sz (.slice (some ⟨g, 0, none⟩) n c) n (xs.set o u) :: F) := by
 obtain ⟨S, ⟨h2, h3⟩, h4, h5⟩ := H.call
 have hg := h3 g rfl
 exact h5 _ [Slc te sz (.slice (some ⟨g, 0, none⟩) n c) n (xs.set o u)] ((Frm.refl S w).setCell (p := ⟨g, o, none⟩) (fun _ => hg) u) ⟨_, fun _ h => h, ⟨own_set h2 ho, fun k hk => .inl (h3 k hk)⟩, trivial⟩
theorem SL.setsS : ∀ (vs : List Value) (o : Nat) {w : World} {xs : List Value}, SL w (Slc te sz (.slice (some ⟨g, 0, none⟩) n c) n xs :: F) → o + vs.length ≤ xs.length → ∃ ys, ys.take o = xs.take o ∧ ys.length = xs.length ∧ SL (w.setCells g o vs) (Slc te sz (.slice (some ⟨g, 0, none⟩) n c) n ys :: F)
 | [], o, w, xs, H, _ => ⟨xs, rfl, rfl, by rw [World.setCells]; exact H⟩
 | v :: vs, o, w, xs, H, h => by
  simp only [List.length_cons] at h
  obtain ⟨ys, h1, h2, h3⟩ := SL.setsS vs (o + 1) (H.setS (show o < xs.length by omega) v) (by rw [List.length_set]; omega)
  refine ⟨ys, ?_, by rw [h2, List.length_set], by rw [World.setCells]; exact h3⟩
  have := congrArg (List.take o) h1
  rw [List.take_take, List.take_take, Nat.min_eq_left (Nat.le_succ o), List.take_set_of_le (Nat.le_refl o)] at this
  exact this
end
end Go.Proofs.YtoamjodmidbmbaaGreatDoor
namespace Go.Proofs.YtoamjodmidbmbaaGreatDoor
open Go.RowKit
section
variable {P : Program} {w : World} {F : List Piece} {σ : Fr} {te sz g n c : Nat} {xs : List Value}
theorem run_clearK (w : World) (t e ty : TypeId) (z : Value) (ht : P.underlying t = some (.slice e)) (hv : ∀ w, (zeroValue e).run P w = .ok z w) (h0 : 0 < z.cells.size) (h1 : ∀ j, j < z.cells.size → (z.cells[j]!).oneCell' = true) (b o m c : Nat) (hm : 0 < m)
  (hc : ∀ j, j < m * z.cells.size → (w.cell? ⟨b, o + j, none⟩).isSome = true) (hf : ∀ j, j < m * z.cells.size → w.frozen? ⟨b, o + j, none⟩ = false) :
  (Builtin.clear_ #[t] ty #[.slice (some ⟨b, o, none⟩) m c]).run P w = .ok (.tuple #[]) (w.setCells b o (Builtin.zeroCells z.cells m).toList) := by
 have hlen : (Builtin.zeroCells z.cells m).toList.length = m * z.cells.size := by simp [Builtin.zeroCells]
 have hst := run_storeCells_cells (P := P) b o (Builtin.zeroCells z.cells m).toList 0 w (fun j hj => hc j (by omega)) (fun j hj => hf j (by omega)) (by
  intro v hv'
  obtain ⟨j, hj, rfl⟩ := List.getElem_of_mem hv'
  have : (Builtin.zeroCells z.cells m).toList[j] = z.cells[j % z.cells.size]! := by simp [Builtin.zeroCells]
  rw [this]
  exact h1 _ (Nat.mod_lt _ h0))
 simp only [Nat.add_zero] at hst
 obtain ⟨k, rfl⟩ : ∃ k, m = k + 1 := ⟨m - 1, by omega⟩
 simp [Builtin.clear_, run_underlying ht, hv, hst]
theorem Mn.clearK {op : Oper} {K : Value → World → Prop} (H : SL w (Slc te sz (.slice (some ⟨g, 0, none⟩) n c) n xs :: F)) (x : Operand) (t : Nat) (hop : op.op = .call { callee := .builtin .clear, args := #[x], argTypes := #[t] }) (ht : P.underlying t = some (.slice te)) {z : Value} (hv : ∀ w, (zeroValue te).run P w = .ok z w) (hz : z.cells.size = sz) (h0 : 0 < sz) (h1 : ∀ j, j < z.cells.size → (z.cells[j]!).oneCell' = true)
  (lo c' : Nat) (hlo : lo < n) (hx : ev σ x = .slice (some ⟨g, lo * sz, none⟩) (n - lo) c') (k : ∀ ys w', ys.take (lo * sz) = xs.take (lo * sz) → ys.length = n * sz → SL w' (Slc te sz (.slice (some ⟨g, 0, none⟩) n c) n ys :: F) → K (.tuple #[]) w') : Mn P σ op w K := by
 obtain ⟨S, _, h2, _⟩ := H.on
 have hl : xs.length = n * sz := h2.1
 have hle : lo * sz + (n - lo) * sz = n * sz := by rw [← Nat.add_mul]; congr 1; omega
 have hrun := run_clearK (P := P) w t te op.type z ht hv (by omega) h1 g (lo * sz) (n - lo) c' (by omega) (fun j hj => by rw [hz] at hj; rw [own_cell h2 (List.getElem?_eq_getElem (show lo * sz + j < xs.length by omega))]; rfl) (fun j hj => own_free h2 _)
 obtain ⟨ys, e1, e2, H'⟩ := SL.setsS (Builtin.zeroCells z.cells (n - lo)).toList (lo * sz) H (by simp [Builtin.zeroCells, hz]; omega)
 refine Mn.by (v := .tuple #[]) ?_ (k ys _ e1 (by omega) H')
 simp only [execOp, hop, resolve, invoke, builtin, Sem.run_bind, Sem.run_pure, Result.andThen_ok, List.map_toArray, List.map_cons, List.map_nil, hx, hrun]
/-- v[lo:] of a slice of one's own, lo below the length: where it lies. -/
theorem Mn.cutK {op : Oper} {K : Value → World → Prop} (H : SL w (Slc te sz (.slice (some ⟨g, 0, none⟩) n c) n xs :: F)) (x l : Operand) (t : Nat) (hop : op.op = .slice t x (some l) none none) (ht : P.underlying t = some (.slice te)) (hsz : (P.info? te).map (·.size) = some sz)
  (lo : Nat) (hx : ev σ x = .slice (some ⟨g, 0, none⟩) n c) (hl : ev σ l = .int .i64 (lo : Int)) (hlo : lo < n) (k : K (.slice (some ⟨g, lo * sz, none⟩) (n - lo) (c - lo)) w) : Mn P σ op w K := by
 obtain ⟨S, _, h2, _⟩ := H.on
 rcases h2.2 with ⟨h, h0⟩ | ⟨g', cap, cur, h, _, hg, hnc, _⟩
 ·omega
 ·injection h with _ _ e
  subst e
  refine Mn.by (run_cut x l hop ht hsz (Nat.le_of_lt hlo) hnc hx hl w) ?_
  rw [if_neg (show c ≠ lo by omega)]
  simpa only [Option.map_some, Addr_add, Nat.zero_add] using k
end
end Go.Proofs.YtoamjodmidbmbaaGreatDoor
namespace Go.Proofs.YtoamjodmidbmbaaGreatDoor
open Go.RowKit
set_option maxRecDepth 100000
theorem of_one {w : World} {F : List Piece} {br : Nat} {z : Edg} {r : Int} {b : Bool} (hb : ((z.rule : Int) != r) = b) (H : SL w (row br #[.int .i64 r] 3 :: F)) : Calls Tryz.prog 44 #[.agg #[.int .i64 ↑z.src, .int .i64 ↑z.dst, .int .i64 ↑z.rule], .pointer (some ⟨br, 0, none⟩)] w fun o w' => o = .returned (.bool b) ∧ SL w' (row br #[.int .i64 r] 3 :: F) := by
 refine calls_den (args := [_, _]) Tryz.func44 rfl (Nat.le_of_ble_eq_true (by kernel_rfl)) (by kernel_rfl) ?_
 refine ⟨Nw.as #[.int .i64 ↑z.src, .int .i64 ↑z.dst, .int .i64 ↑z.rule] 70 rfl H fun b2 w H => ?_⟩
 refine ⟨H.ldi 0 rfl (v := .int .i64 ↑z.rule) rfl ?_⟩
 refine H.ldi 1 rfl (v := .int .i64 r) rfl (BB.k (ret1 (.bool ((↑z.rule : Int) != r)) rfl (by rfl) ?_))
 exact ⟨by rw [← hb], H.pick [1] 2 (by decide)⟩
section
variable {L M : List Edg} {i j k : Nat} {z : Edg} {p : Edg → Bool}
theorem edg_len (L : List Edg) : (L.flatMap Edg.cells).length = L.length * 3 := by
 induction L with
 | nil => rfl
 | cons x L ih => rw [List.flatMap_cons, List.length_append, ih]; show 3 + _ = _; rw [List.length_cons]; omega
theorem edg_at (h : L[j]? = some z) (c : Nat) (hc : c < 3) : (L.flatMap Edg.cells)[j * 3 + c]? = z.cells[c]? := by
 induction L generalizing j with
 | nil => cases h
 | cons x L ih =>
  rw [List.flatMap_cons]
  cases j with
  | zero =>
   injection h with h
   subst h
   rw [List.getElem?_append_left (by show 0 * 3 + c < 3; omega), Nat.zero_mul, Nat.zero_add]
  | succ j =>
   rw [List.getElem?_append_right (by show 3 ≤ _; omega), show (j + 1) * 3 + c - (Edg.cells x).length = j * 3 + c by show (j + 1) * 3 + c - 3 = _; omega]
   exact ih h
theorem edg_set {u : Edg} (h : M[i]? = some u) : (((M.flatMap Edg.cells).set (i * 3) (.int .i64 (z.src : Int))).set (i * 3 + 1) (.int .i64 (z.dst : Int))).set (i * 3 + 2) (.int .i64 (z.rule : Int)) = (M.set i z).flatMap Edg.cells := by
 obtain ⟨hl, hu⟩ := List.getElem?_eq_some_iff.1 h
 have e1 := flat_set Edg.cells 3 (fun _ => rfl) M i 0 (.int .i64 (z.src : Int)) ⟨z.src, u.dst, u.rule⟩ hl (by decide) (by rw [hu]; rfl)
 have e2 := flat_set Edg.cells 3 (fun _ => rfl) (M.set i ⟨z.src, u.dst, u.rule⟩) i 1 (.int .i64 (z.dst : Int)) ⟨z.src, z.dst, u.rule⟩ (by rw [List.length_set]; exact hl) (by decide) (by rw [List.getElem_set_self]; rfl)
 have e3 := flat_set Edg.cells 3 (fun _ => rfl) ((M.set i ⟨z.src, u.dst, u.rule⟩).set i ⟨z.src, z.dst, u.rule⟩) i 2 (.int .i64 (z.rule : Int)) z (by rw [List.length_set, List.length_set]; exact hl) (by decide) (by rw [List.getElem_set_self]; rfl)
 rw [Nat.add_zero] at e1
 rw [e1, e2, e3, List.set_set, List.set_set]
theorem keep_stepE (h : (L.take j).all p = true) (hz : L[j]? = some z) (hp : p z = true) : (L.take (j + 1)).all p = true := by
 rw [List.take_add_one, hz, List.all_append, h]
 simp [hp]
theorem filt_snocE (hz : L[j]? = some z) : (L.take (j + 1)).filter p = (L.take j).filter p ++ (if p z = true then [z] else []) := by
 rw [List.take_add_one, hz, Option.toList_some, List.filter_append]
 congr 1
 by_cases h : p z = true <;> simp [h]
theorem filt_allE (h : L.all p = true) : L.filter p = L := List.filter_eq_self.2 (fun z hz => List.all_eq_true.1 h z hz)
end
theorem e_index {w : World} {F : List Piece} {br : Nat} {r : Int} {sa : Option Addr} {c : Nat} {L : List Edg} (hn : L.length ≤ 100000000) (H : SL w (Slc 70 3 (.slice sa L.length c) L.length (L.flatMap Edg.cells) :: row br #[.int .i64 r] 3 :: F)) : Calls Tryz.prog 82 #[.slice sa L.length c, .func (.func 44) #[] #[.pointer (some ⟨br, 0, none⟩)]] w fun o w' => ∃ t : Int, o = .returned (.int .i64 t) ∧ ((t = -1 ∧ L.all (fun x : Edg => (x.rule : Int) == r) = true) ∨ ∃ (k : Nat) (z : Edg), t = (k : Int) ∧ L[k]? = some z ∧ (L.take k).all (fun x : Edg => (x.rule : Int) == r) = true ∧ ¬ (z.rule : Int) = r) ∧ SL w' (Slc 70 3 (.slice sa L.length c) L.length (L.flatMap Edg.cells) :: row br #[.int .i64 r] 3 :: F) := by
 refine calls_den (args := [_, _]) Tryz.func82 rfl (Nat.le_of_ble_eq_true (by kernel_rfl)) (by kernel_rfl) ?_
 refine ⟨⟨⟨den.loop (ι := Nat) [(4, 5), (8, 18)] (by kernel_rfl) (fun j => [(8, .int .i64 ↑j)]) (fun j w => (j ≤ L.length ∧ (L.take j).all (fun x : Edg => (x.rule : Int) == r) = true) ∧ SL w (Slc 70 3 (.slice sa L.length c) L.length (L.flatMap Edg.cells) :: row br #[.int .i64 r] 3 :: F)) (fun j => L.length - j) 0 ⟨rfl, trivial⟩ ⟨⟨Nat.zero_le _, rfl⟩, H⟩ ?_⟩⟩⟩
 rintro j s w ⟨hc, H⟩
 have hob := Nat.lt_or_ge j L.length
 rcases hob with hj | hj
 ·have hob : ∃ z, L[j]? = some z := ⟨_, List.getElem?_eq_getElem hj⟩
  obtain ⟨z, hz⟩ := hob
  have hob := SL.slcAddr H (by omega)
  obtain ⟨gg, rfl⟩ := hob
  refine ⟨BB.yes (decide_eq_true (by omega)) ?_⟩
  refine Cn.yes (⟨⟨⟨Ix.at0 j 3 (by kernel_rfl) (rfl) (hj) ?_⟩⟩⟩)
  refine H.ldS 0 rfl (v := .int .i64 ↑z.src) ((edg_at hz 0 (by decide)).trans rfl) (H.ldS 0 rfl (v := .int .i64 ↑z.dst) ((edg_at hz 1 (by decide)).trans rfl) (H.ldS 0 rfl (v := .int .i64 ↑z.rule) ((edg_at hz 2 (by decide)).trans rfl) ?_))
  have hob := Classical.em ((z.rule : Int) = r)
  rcases hob with hm | hm
  ·have h1 := H.pick [1, 0] 2 (by decide)
   simp only [pk, nth, pkA, pkB, pkC, pkD, pkE, pkF] at h1
   refine Cl.sl (by kernel_rfl) (of_one (z := z) (bne_eq_false_iff_eq.2 hm) h1) fun w H => ?_
   replace H := H.pick [1, 0] 2 (by decide)
   simp only [pk, nth, pkA, pkB, pkC, pkD, pkE, pkF] at H
   refine BB.no rfl (Cn.no (⟨IW.by (wrap_id (n := ↑j + 1) (by omega) (by omega)) ?_⟩))
   exact ⟨j + 1, ⟨rfl, trivial⟩, ⟨⟨by omega, keep_stepE hc.2 hz (by simp [hm])⟩, H⟩, (show L.length - (j + 1) < L.length - j by omega)⟩
  have h1 := H.pick [1, 0] 2 (by decide)
  simp only [pk, nth, pkA, pkB, pkC, pkD, pkE, pkF] at h1
  refine Cl.sl (by kernel_rfl) (of_one (z := z) (bne_iff_ne.2 hm) h1) fun w H => ?_
  replace H := H.pick [1, 0] 2 (by decide)
  simp only [pk, nth, pkA, pkB, pkC, pkD, pkE, pkF] at H
  refine BB.yes rfl (Cn.yes (⟨ret1 (.int .i64 ↑j) rfl (by rfl) ?_⟩))
  exact ⟨(j : Int), rfl, .inr ⟨j, z, rfl, hz, hc.2, hm⟩, H⟩
 have hob : j = L.length := by omega
 obtain rfl := hob
 rw [List.take_length] at hc
 refine ⟨BB.no (decide_eq_false (by omega)) ?_⟩
 refine Cn.no (⟨ret1 (.int .i64 (-1)) rfl (by rfl) ?_⟩)
 exact ⟨-1, rfl, .inl ⟨rfl, hc.2⟩, H⟩
theorem SL.slcCapE {w : World} {F : List Piece} {te sz n c : Nat} {a : Option Addr} {xs : List Value} (H : SL w (Slc te sz (.slice a n c) n xs :: F)) : n ≤ c := by
 obtain ⟨S, _, ⟨_, h⟩, _⟩ := H.on
 rcases h with ⟨h, rfl⟩ | ⟨g, cap, cur, h, _, _, h2, _⟩
 ·exact Nat.zero_le _
 ·injection h with _ _ e
  subst e
  exact h2
theorem edg_take (M : List Edg) (i : Nat) : (M.flatMap Edg.cells).take (i * 3) = (M.take i).flatMap Edg.cells := by
 induction M generalizing i with
 | nil => simp
 | cons x M ih =>
  cases i with
  | zero => simp
  | succ i =>
   rw [List.take_succ_cons, List.flatMap_cons, List.flatMap_cons, ← ih i, show (i + 1) * 3 = 3 + i * 3 by omega, List.take_append, List.take_of_length_le (by show 3 ≤ 3 + i * 3; omega)]
   show Edg.cells x ++ List.take (3 + i * 3 - 3) _ = _
   rw [Nat.add_sub_cancel_left]
theorem e_delete {w : World} {F : List Piece} {br : Nat} {r : Int} {sa : Option Addr} {c : Nat} {L : List Edg} (hn : L.length ≤ 100000000) (H : SL w (Slc 70 3 (.slice sa L.length c) L.length (L.flatMap Edg.cells) :: row br #[.int .i64 r] 3 :: F)) : Calls Tryz.prog 43 #[.slice sa L.length c, .func (.func 44) #[] #[.pointer (some ⟨br, 0, none⟩)]] w fun o w' => ∃ zs : List Value, o = .returned (.slice sa (L.filter (fun x : Edg => (x.rule : Int) == r)).length c) ∧ (L.filter (fun x : Edg => (x.rule : Int) == r)).length ≤ L.length ∧ zs.take ((L.filter (fun x : Edg => (x.rule : Int) == r)).length * 3) = (L.filter (fun x : Edg => (x.rule : Int) == r)).flatMap Edg.cells ∧ SL w' (Slc 70 3 (.slice sa L.length c) L.length zs :: row br #[.int .i64 r] 3 :: F) := by
 refine calls_den (args := [_, _]) Tryz.func43 rfl (Nat.le_of_ble_eq_true (by kernel_rfl)) (by kernel_rfl) ?_
 refine ⟨⟨?_⟩⟩
 have h1 := H
 refine Cl.by (by kernel_rfl) (e_index hn h1) ?_
 rintro _ w ⟨t, rfl, hr, H⟩
 refine ⟨_, rfl, ?_⟩
 rcases hr with ⟨rfl, hall⟩ | ⟨k, u, rfl, hku, hall, hkr⟩
 ·refine ⟨BB.yes rfl ?_⟩
  refine Cn.yes (⟨ret1 (.slice sa L.length c) rfl (by rfl) ?_⟩)
  have hfl := filt_allE hall
  exact ⟨L.flatMap Edg.cells, by rw [hfl], by rw [hfl]; exact Nat.le_refl _, by rw [hfl, List.take_of_length_le (by rw [edg_len]; exact Nat.le_refl _)], H⟩
 have hk : k < L.length := (List.getElem?_eq_some_iff.1 hku).1
 have hob := SL.slcAddr H (by omega)
 obtain ⟨gg, rfl⟩ := hob
 have hcap : L.length ≤ c := SL.slcCapE H
 refine ⟨BB.no (beq_eq_false_iff_ne.2 (by omega)) ?_⟩
 refine Cn.no (⟨IW.by (wrap_id (n := ↑k + 1) (by omega) (by omega)) ?_⟩)
 refine ⟨den.loop (ι := Nat × Nat × List Edg) [(5, 7), (16, 35)] (by kernel_rfl) (fun (i, j, M) => [(5, .int .i64 ↑i), (6, .int .i64 ↑j)]) (fun (i, j, M) w => (i < j ∧ j ≤ L.length ∧ M.length = L.length ∧ M.take i = (L.take j).filter (fun x : Edg => (x.rule : Int) == r) ∧ M.drop j = L.drop j) ∧ SL w (Slc 70 3 (.slice (some ⟨gg, 0, none⟩) L.length c) L.length (M.flatMap Edg.cells) :: row br #[.int .i64 r] 3 :: F)) (fun (i, j, M) => L.length - j) (k, k + 1, L) ⟨rfl, rfl, trivial⟩ ⟨⟨by omega, by omega, rfl, by rw [filt_snocE hku, if_neg (by simpa using hkr), List.append_nil, filt_allE hall], rfl⟩, (H)⟩ ?_⟩
 rintro ⟨i, j, M⟩ s w ⟨hc, H⟩
 obtain ⟨hij, hjn, hyl, hM, hD⟩ := hc
 have hob := Nat.lt_or_ge j L.length
 rcases hob with hj | hj
 ·have hob : ∃ z, L[j]? = some z := ⟨_, List.getElem?_eq_getElem hj⟩
  obtain ⟨z, hz⟩ := hob
  have hyz : M[j]? = some z := by have := congrArg (fun l => l[0]?) hD; simp only [List.getElem?_drop, Nat.add_zero] at this; exact this.trans hz
  have hob : ∃ y, M[i]? = some y := ⟨_, List.getElem?_eq_getElem (by omega)⟩
  obtain ⟨y, hy⟩ := hob
  refine ⟨BB.yes (decide_eq_true (by omega)) ?_⟩
  refine Cn.yes (⟨⟨Ix.at0 j 3 (by kernel_rfl) (rfl) (hj) ?_⟩⟩)
  refine H.ldS 0 rfl (v := .int .i64 ↑z.src) ((edg_at hyz 0 (by decide)).trans rfl) (H.ldS 0 rfl (v := .int .i64 ↑z.dst) ((edg_at hyz 1 (by decide)).trans rfl) (H.ldS 0 rfl (v := .int .i64 ↑z.rule) ((edg_at hyz 2 (by decide)).trans rfl) (Nw.as #[.int .i64 0, .int .i64 0, .int .i64 0] 70 rfl H fun b7 w H => ?_)))
  refine H.st0 (cs' := #[.int .i64 ↑z.src, .int .i64 0, .int .i64 0]) rfl rfl rfl fun w H => ?_
  refine H.st0 (cs' := #[.int .i64 ↑z.src, .int .i64 ↑z.dst, .int .i64 0]) rfl rfl rfl fun w H => ?_
  refine H.st0 (cs' := #[.int .i64 ↑z.src, .int .i64 ↑z.dst, .int .i64 ↑z.rule]) rfl rfl rfl fun w H => ?_
  refine ⟨H.ldi 0 rfl (v := .int .i64 ↑z.src) rfl ?_⟩
  refine H.ldi 0 rfl (v := .int .i64 ↑z.dst) rfl (H.ldi 0 rfl (v := .int .i64 ↑z.rule) rfl ?_)
  have hob := Classical.em ((z.rule : Int) = r)
  rcases hob with hm | hm
  ·have h1 := H.pick [2, 0, 1] 3 (by decide)
   simp only [pk, nth, pkA, pkB, pkC, pkD, pkE, pkF] at h1
   refine Cl.sl (by kernel_rfl) (of_one (z := z) (bne_eq_false_iff_eq.2 hm) h1) fun w H => ?_
   replace H := H.pick [1, 2, 0] 3 (by decide)
   simp only [pk, nth, pkA, pkB, pkC, pkD, pkE, pkF] at H
   refine BB.no rfl (BB.yes rfl (Cn.yes (⟨H.ldi 0 rfl (v := .int .i64 ↑z.src) rfl ?_⟩)))
   refine H.ldi 0 rfl (v := .int .i64 ↑z.dst) rfl (H.ldi 0 rfl (v := .int .i64 ↑z.rule) rfl (Ix.at0 i 3 (by kernel_rfl) (rfl) (by omega) ?_))
   refine SL.stS (o := i * 3) (u := .int .i64 ↑z.src) H.up1 (by rw [edg_len]; omega) rfl fun w H => ?_
   replace H := H.dn1
   refine SL.stS (o := i * 3 + 1) (u := .int .i64 ↑z.dst) H.up1 (by rw [List.length_set, edg_len]; omega) rfl fun w H => ?_
   replace H := H.dn1
   refine SL.stS (o := i * 3 + 2) (u := .int .i64 ↑z.rule) H.up1 (by rw [List.length_set, List.length_set, edg_len]; omega) rfl fun w H => ?_
   rw [edg_set hy] at H
   replace H := H.dn1
   refine ⟨IW.by (wrap_id (n := ↑i + 1) (by omega) (by omega)) ?_⟩
   refine ⟨IW.by (wrap_id (n := ↑j + 1) (by omega) (by omega)) ?_⟩
   exact ⟨(i + 1, j + 1, M.set i z), ⟨rfl, rfl, trivial⟩, ⟨⟨by omega, by omega, by rw [List.length_set]; exact hyl, by rw [filt_snocE hz, if_pos (by simpa using hm), List.take_add_one, List.getElem?_set_self (by omega), Option.toList_some, List.take_set_of_le (Nat.le_refl i), hM], by rw [List.drop_set, if_pos (by omega), ← List.drop_drop, hD, List.drop_drop]⟩, H.pick [1, 2] 3 (by decide)⟩, (show L.length - (j + 1) < L.length - j by omega)⟩
  have h1 := H.pick [2, 0, 1] 3 (by decide)
  simp only [pk, nth, pkA, pkB, pkC, pkD, pkE, pkF] at h1
  refine Cl.sl (by kernel_rfl) (of_one (z := z) (bne_iff_ne.2 hm) h1) fun w H => ?_
  replace H := H.pick [1, 2, 0] 3 (by decide)
  simp only [pk, nth, pkA, pkB, pkC, pkD, pkE, pkF] at H
  refine BB.yes rfl (BB.no rfl (Cn.no (⟨IW.by (wrap_id (n := ↑j + 1) (by omega) (by omega)) ?_⟩)))
  exact ⟨(i, j + 1, M), ⟨rfl, rfl, trivial⟩, ⟨⟨by omega, by omega, hyl, by rw [filt_snocE hz, if_neg (by simpa using hm), List.append_nil]; exact hM, by rw [← List.drop_drop, hD, List.drop_drop]⟩, H.pick [1, 2] 3 (by decide)⟩, (show L.length - (j + 1) < L.length - j by omega)⟩
 have hob : j = L.length := by omega
 obtain rfl := hob
 rw [List.take_length] at hM
 refine ⟨BB.no (decide_eq_false (by omega)) ?_⟩
 refine Cn.no (⟨Mn.cutK (te := 70) (sz := 3) H (.tmp 36) (.tmp 37) 24 (by rfl) (by kernel_rfl) (by kernel_rfl) i rfl rfl (by omega) ?_⟩)
 refine Mn.clearK (te := 70) (sz := 3) H (.tmp 38) 24 (by rfl) (by kernel_rfl) (z := .agg #[.int .i64 0, .int .i64 0, .int .i64 0]) (fun _ => by kernel_rfl) rfl (by decide) (by decide) i (c - i) (by omega) rfl fun zs w hz1 hz2 H => ?_
 refine ⟨Mn.head (te := 70) (sz := 3) (c := c) (.tmp 39) (.tmp 40) 24 (by rfl) (by kernel_rfl) (by kernel_rfl) i (by omega) (by rfl) (by rfl) ?_⟩
 refine ret1 (.slice (some ⟨gg, 0, none⟩) i c) rfl (by rfl) ?_
 have hbl : (L.filter (fun x : Edg => (x.rule : Int) == r)).length = i := by rw [← hM, List.length_take]; omega
 exact ⟨zs, by rw [hbl], by omega, by rw [hbl, hz1, ← hM]; exact edg_take M i, H⟩
end Go.Proofs.YtoamjodmidbmbaaGreatDoor
