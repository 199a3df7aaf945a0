/- Texts of the proof. -/
import Derived.Test.YtoamjodmidbmbaaGreatDoorX21
import Derived.Test.YtoamjodmidbmbaaGreatDoorX22
set_option linter.unusedVariables false
set_option linter.unusedSimpArgs false
namespace Go.Proofs.YtoamjodmidbmbaaGreatDoor
open Go.RowKit
set_option maxRecDepth 100000
theorem axiomOrder_big {w : World} {F : List Piece} {A : Piece} {la : Option Addr} {n lc : Nat} (hG : SpansA A) (hn : 60 < n) (H : SL w (A :: F)) : Calls Tryz.prog 7 #[.slice la n lc] w fun o w' => o = .returned (.bool true) ∧ SL w' (A :: F) := by
 refine calls_d (args := [_]) Tryz.func7 rfl ?_
 refine ⟨⟨BB.yd ?_⟩⟩
 refine Cn.yes (⟨?_⟩)
 have h1 := H
 refine Cl.s (l_write hG h1) fun w H => ?_
 refine BB.yes rfl (ret1 (.bool true) rfl (by rfl) ?_)
 exact ⟨rfl, H⟩
theorem axiomOrder_nil {w : World} {F : List Piece} {A : Piece} {la : Option Addr} {lc : Nat} (hG : SpansA A) (H : SL w (A :: F)) : Calls Tryz.prog 7 #[.slice la 0 lc] w fun o w' => o = .returned (.bool true) ∧ SL w' (A :: F) := by
 refine calls_d (args := [_]) Tryz.func7 rfl ?_
 refine ⟨⟨BB.no rfl ?_⟩⟩
 refine Cn.no (⟨Cl.b (x_ahead_nil H) ?_⟩)
 rintro _ w ⟨pm, rfl, H⟩
 refine ⟨_, rfl, ?_⟩
 refine ⟨BB.no rfl ?_⟩
 refine BB.no rfl (Cn.no (⟨⟨den.loop (ι := Nat) [(2, 2), (5, 10), (33, 122)] (by kernel_rfl) (fun i => [(33, .int .i64 ↑i)]) (fun i w => i ≤ 0 ∧ SL w (MatP pm 0 (cloR (fun _ _ => false) 0) :: A :: F)) (fun i => 0 - i) 0 ⟨rfl, trivial⟩ ⟨Nat.zero_le _, H⟩ ?_⟩⟩))
 rintro i s w ⟨hi0, H⟩
 have hob : i = 0 := by omega
 obtain rfl := hob
 refine ⟨BB.no rfl ?_⟩
 refine Cn.no (⟨?_⟩)
 have h1 := H.pi [1, 0] 2
 simp only [pl, nth, drL] at h1
 refine Cl.s (l_write hG h1) fun w H => ?_
 replace H := H.pi [1, 0] 2
 simp only [pl, nth, drL] at H
 refine BB.yes rfl (ret1 (.bool true) rfl (by rfl) ?_)
 exact ⟨rfl, H.pi [1] 2⟩
set_option maxHeartbeats 2000000 in
theorem axiomOrder_some {w : World} {F : List Piece} {A : Piece} {lb lo lc : Nat} {l : List Ev} (hA : EvA A lb lo l) (hG : SpansA A) (h0 : 0 < l.length) (hlc : l.length ≤ lc) (hll : l.length ≤ 60) (H : SL w (A :: F)) : Calls Tryz.prog 7 #[.slice (some ⟨lb, lo, none⟩) l.length lc] w fun o w' => o = .returned (.bool true) ∧ SL w' (A :: F) := by
 cases hr : rightF l with
 | false =>
  refine calls_d (args := [_]) Tryz.func7 rfl ?_
  refine ⟨⟨BB.nd ?_⟩⟩
  refine Cn.no (⟨?_⟩)
  have h1 := H
  refine Cl.s (x_ahead_no hA hlc hG h0 (by omega) hr h1) fun w H => ?_
  refine ⟨BB.yes rfl ?_⟩
  refine Cn.yes (⟨BB.yes rfl ?_⟩)
  have h1 := H
  refine Cl.s (l_write hG h1) fun w H => ?_
  refine BB.yes rfl (ret1 (.bool true) rfl (by rfl) ?_)
  exact ⟨rfl, H⟩
 | true =>
  have hR := right_iff.1 hr
  have hal := all_le hr (by omega)
  refine calls_d (args := [_]) Tryz.func7 rfl ?_
  refine ⟨⟨BB.nd ?_⟩⟩
  refine Cn.no (⟨?_⟩)
  have h1 := H
  refine Cl.b (x_ahead hA hlc hG h0 (by omega) hr h1) ?_
  rintro _ w ⟨pm, rfl, H⟩
  refine ⟨_, rfl, ?_⟩
  refine ⟨BB.no rfl ?_⟩
  refine BB.no rfl (Cn.no (⟨⟨den.loop (ι := Nat) [(2, 2), (5, 10), (33, 122)] (by kernel_rfl) (fun i => [(33, .int .i64 ↑i)]) (fun i w => i ≤ l.length ∧ SL w (MatP pm l.length (ahF l) :: A :: F)) (fun i => l.length - i) 0 ⟨rfl, trivial⟩ ⟨Nat.zero_le _, H⟩ ?_⟩⟩))
  rintro i s w ⟨hi0, H⟩
  have hob := Nat.lt_or_ge i l.length
  rcases hob with hi | hi
  ·have hob : ∃ x, l[i]? = some x := ⟨_, get_of hi⟩
   obtain ⟨⟨kind, g, chan, case_, value, mate, send, ok⟩, he⟩ := hob
   have hd : l.getD i evz = ⟨kind, g, chan, case_, value, mate, send, ok⟩ := by rw [List.getD_eq_getElem?_getD, he]; rfl
   refine ⟨BB.yd ?_⟩
   refine Cn.yes (⟨⟨Ix.at i 8 (by kernel_rfl) (rfl) (by omega) ?_⟩⟩)
   refine H.ldEv 1 rfl hA i he (Nw.as ev0C 53 rfl H fun b6 w H => ?_)
   refine SL.stEv H rfl rfl fun w H => ?_
   refine ⟨⟨den.loop (ι := Nat) [(2, 2), (7, 10), (40, 121)] (by kernel_rfl) (fun k => [(40, .int .i64 ↑k)]) (fun k w => k ≤ l.length ∧ SL w (row b6 #[.int .i64 kind, .int .i64 g, .int .i64 chan, .int .i64 case_, .int .i64 value, .int .i64 mate, .bool send, .bool ok] 53 :: MatP pm l.length (ahF l) :: A :: F)) (fun k => l.length - k) 0 ⟨rfl, trivial⟩ ⟨Nat.zero_le _, H⟩ ?_⟩⟩
   rintro k s w ⟨hk0, H⟩
   have hob := Nat.lt_or_ge k l.length
   rcases hob with hk | hk
   ·have hob : ∃ x, l[k]? = some x := ⟨_, get_of hk⟩
    obtain ⟨⟨ykind, yg, ychan, ycase_, yvalue, ymate, ysend, yok⟩, hy⟩ := hob
    have hdy : l.getD k evz = ⟨ykind, yg, ychan, ycase_, yvalue, ymate, ysend, yok⟩ := by rw [List.getD_eq_getElem?_getD, hy]; rfl
    refine ⟨BB.yd ?_⟩
    refine Cn.yes (⟨⟨Ix.at k 8 (by kernel_rfl) (rfl) (by omega) ?_⟩⟩)
    refine H.ldEv 2 rfl hA k hy (Nw.as ev0C 53 rfl H fun b8 w H => ?_)
    refine SL.stEv H rfl rfl fun w H => ?_
    refine ⟨?_⟩
    have h1 := H.pi [2, 0, 1, 3] 4
    simp only [pl, nth, drL] at h1
    have K := m_has (i := i) (k := k) (by omega) (by omega) (by omega) h1
    have hob : ∃ bq0 : Bool, ahF l i k = bq0 := ⟨_, rfl⟩
    obtain ⟨bq, hik⟩ := hob
    cases bq
    ·rw [hik] at K
     refine Cl.s K fun w H => ?_
     replace H := H.pi [1, 2, 0, 3] 4
     simp only [pl, nth, drL] at H
     have hik3 : ¬ (i < k ∧ kind ≠ 13 ∧ ykind ≠ 13 ∧ g = yg) := fun q => by have h3 := (ah_iff hR).2 (own_ahead hR (k - i) i k (by omega) q.1 hk (by rw [hd, hdy]; exact q.2.2.2) (by rw [hd]; exact q.2.1) (by rw [hdy]; exact q.2.2.1)); rw [hik] at h3; cases h3
     refine BB.no rfl (Cn.no ?_)
     refine RgX.cut (id := 14) (ι := Bool) [(9, 9), (54, 73)] (by kernel_rfl) (fun u1 => [(9, .bool u1)]) (fun u1 w => (u1 = true ↔ (kind ≠ 13 ∧ ykind ≠ 13 ∧ g = yg ∧ i < k)) ∧ SL w (row b8 #[.int .i64 ykind, .int .i64 yg, .int .i64 ychan, .int .i64 ycase_, .int .i64 yvalue, .int .i64 ymate, .bool ysend, .bool yok] 53 :: row b6 #[.int .i64 kind, .int .i64 g, .int .i64 chan, .int .i64 case_, .int .i64 value, .int .i64 mate, .bool send, .bool ok] 53 :: MatP pm l.length (ahF l) :: A :: F)) ?_ ?_
     ·refine ⟨H.ldi 1 rfl (v := .int .i64 kind) rfl ?_⟩
      refine BB.vr fun q1 e1 => ?_
      cases q1
      ·have h1 := bne_eq_false_iff_eq.1 e1
       exact ⟨false, ⟨rfl, trivial⟩, ⟨fun hh => Bool.noConfusion hh, fun hh => by exfalso; omega⟩, H⟩
      have h1 := bne_iff_ne.1 e1
      refine H.ldi 0 rfl (v := .int .i64 ykind) rfl (BB.vr fun q2 e2 => ?_)
      cases q2
      ·have h2 := bne_eq_false_iff_eq.1 e2
       exact ⟨false, ⟨rfl, trivial⟩, ⟨fun hh => Bool.noConfusion hh, fun hh => by exfalso; omega⟩, H⟩
      have h2 := bne_iff_ne.1 e2
      refine H.ldi 1 rfl (v := .int .i64 g) rfl (H.ldi 0 rfl (v := .int .i64 yg) rfl (BB.vr fun q3 e3 => ?_))
      cases q3
      ·have h3 := neq_of e3
       exact ⟨false, ⟨rfl, trivial⟩, ⟨fun hh => Bool.noConfusion hh, fun hh => by exfalso; omega⟩, H⟩
      have h3 := eq_of_beq e3
      refine BB.vr fun q4 e4 => ?_
      exact ⟨q4, ⟨rfl, trivial⟩, ⟨fun hh => by subst hh; have := of_decide_eq_true e4; omega, fun hh => by rw [← e4]; exact decide_eq_true (by omega)⟩, H⟩
     rintro u1 s w ⟨hu1, H⟩
     cases u1
     ·have hx : ¬ (kind ≠ 13 ∧ ykind ≠ 13 ∧ g = yg ∧ i < k) := fun hh => Bool.noConfusion (hu1.2 hh)
      refine RgX.cut (id := 15) (ι := Bool) [(74, 97)] (by kernel_rfl) (fun u2 => [(97, .bool u2)]) (fun u2 w => u2 = false ∧ SL w (row b8 #[.int .i64 ykind, .int .i64 yg, .int .i64 ychan, .int .i64 ycase_, .int .i64 yvalue, .int .i64 ymate, .bool ysend, .bool yok] 53 :: row b6 #[.int .i64 kind, .int .i64 g, .int .i64 chan, .int .i64 case_, .int .i64 value, .int .i64 mate, .bool send, .bool ok] 53 :: MatP pm l.length (ahF l) :: A :: F)) ?_ ?_
      ·refine ⟨H.ldi 1 rfl (v := .int .i64 kind) rfl ?_⟩
       refine BB.vr fun q5 e5 => ?_
       cases q5
       ·have h5 := neq_of e5
        refine H.ldi 0 rfl (v := .int .i64 ykind) rfl (BB.vr fun q6 e6 => ?_)
        cases q6
        ·have h6 := neq_of e6
         exact ⟨false, ⟨rfl, trivial⟩, rfl, H⟩
        have h6 := eq_of_beq e6
        have h1 := H.pi [2, 0, 1, 3] 4
        simp only [pl, nth, drL] at h1
        have K := m_has (i := i) (k := k) (by omega) (by omega) (by omega) h1
        rw [hik] at K
        refine Cl.s K fun w H => ?_
        replace H := H.pi [1, 2, 0, 3] 4
        simp only [pl, nth, drL] at H
        refine BB.no rfl ?_
        exact ⟨false, ⟨rfl, trivial⟩, rfl, H⟩
       have h5 := eq_of_beq e5
       have h1 := H.pi [2, 0, 1, 3] 4
       simp only [pl, nth, drL] at h1
       have K := m_has (i := i) (k := k) (by omega) (by omega) (by omega) h1
       rw [hik] at K
       refine Cl.s K fun w H => ?_
       replace H := H.pi [1, 2, 0, 3] 4
       simp only [pl, nth, drL] at H
       refine BB.no rfl ?_
       exact ⟨false, ⟨rfl, trivial⟩, rfl, H⟩
      rintro u2 s w ⟨hu2, H⟩
      subst hu2
      refine Cn.no (⟨⟨den.loop (ι := Nat) [(2, 2), (10, 10), (100, 120)] (by kernel_rfl) (fun j => [(100, .int .i64 ↑j)]) (fun j w => j ≤ l.length ∧ SL w (row b8 #[.int .i64 ykind, .int .i64 yg, .int .i64 ychan, .int .i64 ycase_, .int .i64 yvalue, .int .i64 ymate, .bool ysend, .bool yok] 53 :: row b6 #[.int .i64 kind, .int .i64 g, .int .i64 chan, .int .i64 case_, .int .i64 value, .int .i64 mate, .bool send, .bool ok] 53 :: MatP pm l.length (ahF l) :: A :: F)) (fun j => l.length - j) 0 ⟨rfl, trivial⟩ ⟨Nat.zero_le _, H⟩ ?_⟩⟩)
      rintro j s w ⟨hj0, H⟩
      have hob := Nat.lt_or_ge j l.length
      rcases hob with hj | hj
      ·refine ⟨BB.yd ?_⟩
       refine Cn.yes (⟨⟨⟨?_⟩⟩⟩)
       have h1 := H.pi [2, 0, 1, 3] 4
       simp only [pl, nth, drL] at h1
       have K := m_has (i := i) (k := k) (by omega) (by omega) (by omega) h1
       rw [hik] at K
       refine Cl.s K fun w H => ?_
       replace H := H.pi [1, 2, 0, 3] 4
       simp only [pl, nth, drL] at H
       refine BB.no rfl (Cn.no (⟨IW.i j ?_⟩))
       exact ⟨j + 1, ⟨rfl, trivial⟩, ⟨(by omega : j + 1 ≤ l.length), H⟩, (show l.length - (j + 1) < l.length - j by omega)⟩
      have hob : j = l.length := by omega
      obtain rfl := hob
      refine ⟨BB.nd ?_⟩
      refine Cn.no (⟨IW.i k ?_⟩)
      exact ⟨k + 1, ⟨rfl, trivial⟩, ⟨(by omega : k + 1 ≤ l.length), H.pi [1, 2, 3] 4⟩, (show l.length - (k + 1) < l.length - k by omega)⟩
     have hx := hu1.1 rfl
     refine RgX.cut (id := 15) (ι := Bool) [(74, 97)] (by kernel_rfl) (fun u2 => [(97, .bool u2)]) (fun u2 w => u2 = false ∧ SL w (row b8 #[.int .i64 ykind, .int .i64 yg, .int .i64 ychan, .int .i64 ycase_, .int .i64 yvalue, .int .i64 ymate, .bool ysend, .bool yok] 53 :: row b6 #[.int .i64 kind, .int .i64 g, .int .i64 chan, .int .i64 case_, .int .i64 value, .int .i64 mate, .bool send, .bool ok] 53 :: MatP pm l.length (ahF l) :: A :: F)) ?_ ?_
     ·refine ⟨?_⟩
      have h1 := H.pi [2, 0, 1, 3] 4
      simp only [pl, nth, drL] at h1
      have K := m_has (i := i) (k := k) (by omega) (by omega) (by omega) h1
      rw [hik] at K
      refine Cl.s K fun w H => ?_
      replace H := H.pi [1, 2, 0, 3] 4
      simp only [pl, nth, drL] at H
      refine BB.no rfl (BB.yes rfl ?_)
      exact ⟨(true), ⟨rfl, trivial⟩, (by exfalso; exact absurd hik3 (by omega)), H⟩
     rintro u2 s w ⟨hu2, H⟩
     subst hu2
     refine Cn.no (⟨⟨den.loop (ι := Nat) [(2, 2), (10, 10), (100, 120)] (by kernel_rfl) (fun j => [(100, .int .i64 ↑j)]) (fun j w => j ≤ l.length ∧ SL w (row b8 #[.int .i64 ykind, .int .i64 yg, .int .i64 ychan, .int .i64 ycase_, .int .i64 yvalue, .int .i64 ymate, .bool ysend, .bool yok] 53 :: row b6 #[.int .i64 kind, .int .i64 g, .int .i64 chan, .int .i64 case_, .int .i64 value, .int .i64 mate, .bool send, .bool ok] 53 :: MatP pm l.length (ahF l) :: A :: F)) (fun j => l.length - j) 0 ⟨rfl, trivial⟩ ⟨Nat.zero_le _, H⟩ ?_⟩⟩)
     rintro j s w ⟨hj0, H⟩
     have hob := Nat.lt_or_ge j l.length
     rcases hob with hj | hj
     ·refine ⟨BB.yd ?_⟩
      refine Cn.yes (⟨⟨⟨?_⟩⟩⟩)
      have h1 := H.pi [2, 0, 1, 3] 4
      simp only [pl, nth, drL] at h1
      have K := m_has (i := i) (k := k) (by omega) (by omega) (by omega) h1
      rw [hik] at K
      refine Cl.s K fun w H => ?_
      replace H := H.pi [1, 2, 0, 3] 4
      simp only [pl, nth, drL] at H
      refine BB.no rfl (Cn.no (⟨IW.i j ?_⟩))
      exact ⟨j + 1, ⟨rfl, trivial⟩, ⟨(by omega : j + 1 ≤ l.length), H⟩, (show l.length - (j + 1) < l.length - j by omega)⟩
     have hob : j = l.length := by omega
     obtain rfl := hob
     refine ⟨BB.nd ?_⟩
     refine Cn.no (⟨IW.i k ?_⟩)
     exact ⟨k + 1, ⟨rfl, trivial⟩, ⟨(by omega : k + 1 ≤ l.length), H.pi [1, 2, 3] 4⟩, (show l.length - (k + 1) < l.length - k by omega)⟩
    rw [hik] at K
    refine Cl.s K fun w H => ?_
    replace H := H.pi [1, 2, 0, 3] 4
    simp only [pl, nth, drL] at H
    have hik3 : i < k ∧ kind ≠ 13 ∧ ykind ≠ 13 := by have h3 := Tr.end hR ((ah_iff hR).1 hik); rw [hd, hdy] at h3; exact ⟨h3.1, h3.2.2.1, h3.2.2.2⟩
    refine BB.yes rfl (BB.vr fun q7 e7 => ?_)
    cases q7
    ·have h7 := of_decide_eq_false e7
     refine Cn.no ?_
     refine RgX.cut (id := 14) (ι := Bool) [(9, 9), (54, 73)] (by kernel_rfl) (fun u1 => [(9, .bool u1)]) (fun u1 w => (u1 = true ↔ (kind ≠ 13 ∧ ykind ≠ 13 ∧ g = yg ∧ i < k)) ∧ SL w (row b8 #[.int .i64 ykind, .int .i64 yg, .int .i64 ychan, .int .i64 ycase_, .int .i64 yvalue, .int .i64 ymate, .bool ysend, .bool yok] 53 :: row b6 #[.int .i64 kind, .int .i64 g, .int .i64 chan, .int .i64 case_, .int .i64 value, .int .i64 mate, .bool send, .bool ok] 53 :: MatP pm l.length (ahF l) :: A :: F)) ?_ ?_
     ·refine ⟨H.ldi 1 rfl (v := .int .i64 kind) rfl ?_⟩
      refine BB.vr fun q8 e8 => ?_
      cases q8
      ·have h8 := bne_eq_false_iff_eq.1 e8
       exact ⟨false, ⟨rfl, trivial⟩, ⟨fun hh => Bool.noConfusion hh, fun hh => by exfalso; omega⟩, H⟩
      have h8 := bne_iff_ne.1 e8
      refine H.ldi 0 rfl (v := .int .i64 ykind) rfl (BB.vr fun q9 e9 => ?_)
      cases q9
      ·have h9 := bne_eq_false_iff_eq.1 e9
       exact ⟨false, ⟨rfl, trivial⟩, ⟨fun hh => Bool.noConfusion hh, fun hh => by exfalso; omega⟩, H⟩
      have h9 := bne_iff_ne.1 e9
      refine H.ldi 1 rfl (v := .int .i64 g) rfl (H.ldi 0 rfl (v := .int .i64 yg) rfl (BB.vr fun q10 e10 => ?_))
      cases q10
      ·have h10 := neq_of e10
       exact ⟨false, ⟨rfl, trivial⟩, ⟨fun hh => Bool.noConfusion hh, fun hh => by exfalso; omega⟩, H⟩
      have h10 := eq_of_beq e10
      refine BB.vr fun q11 e11 => ?_
      exact ⟨q11, ⟨rfl, trivial⟩, ⟨fun hh => by subst hh; have := of_decide_eq_true e11; omega, fun hh => by rw [← e11]; exact decide_eq_true (by omega)⟩, H⟩
     rintro u1 s w ⟨hu1, H⟩
     cases u1
     ·have hx : ¬ (kind ≠ 13 ∧ ykind ≠ 13 ∧ g = yg ∧ i < k) := fun hh => Bool.noConfusion (hu1.2 hh)
      refine RgX.cut (id := 15) (ι := Bool) [(74, 97)] (by kernel_rfl) (fun u2 => [(97, .bool u2)]) (fun u2 w => u2 = false ∧ SL w (row b8 #[.int .i64 ykind, .int .i64 yg, .int .i64 ychan, .int .i64 ycase_, .int .i64 yvalue, .int .i64 ymate, .bool ysend, .bool yok] 53 :: row b6 #[.int .i64 kind, .int .i64 g, .int .i64 chan, .int .i64 case_, .int .i64 value, .int .i64 mate, .bool send, .bool ok] 53 :: MatP pm l.length (ahF l) :: A :: F)) ?_ ?_
      ·refine ⟨H.ldi 1 rfl (v := .int .i64 kind) rfl ?_⟩
       refine BB.vr fun q12 e12 => ?_
       cases q12
       ·have h12 := neq_of e12
        refine H.ldi 0 rfl (v := .int .i64 ykind) rfl (BB.vr fun q13 e13 => ?_)
        cases q13
        ·have h13 := neq_of e13
         exact ⟨false, ⟨rfl, trivial⟩, rfl, H⟩
        have h13 := eq_of_beq e13
        have h1 := H.pi [2, 0, 1, 3] 4
        simp only [pl, nth, drL] at h1
        have K := m_has (i := i) (k := k) (by omega) (by omega) (by omega) h1
        rw [hik] at K
        refine Cl.s K fun w H => ?_
        replace H := H.pi [1, 2, 0, 3] 4
        simp only [pl, nth, drL] at H
        refine BB.yes rfl ?_
        exact ⟨(true), ⟨rfl, trivial⟩, (by exfalso; exact absurd hik3 (by omega)), H⟩
       have h12 := eq_of_beq e12
       have h1 := H.pi [2, 0, 1, 3] 4
       simp only [pl, nth, drL] at h1
       have K := m_has (i := i) (k := k) (by omega) (by omega) (by omega) h1
       rw [hik] at K
       refine Cl.s K fun w H => ?_
       replace H := H.pi [1, 2, 0, 3] 4
       simp only [pl, nth, drL] at H
       refine BB.yes rfl ?_
       exact ⟨(true), ⟨rfl, trivial⟩, (by exfalso; exact absurd hik3 (by omega)), H⟩
      rintro u2 s w ⟨hu2, H⟩
      subst hu2
      refine Cn.no (⟨⟨den.loop (ι := Nat) [(2, 2), (10, 10), (100, 120)] (by kernel_rfl) (fun j => [(100, .int .i64 ↑j)]) (fun j w => j ≤ l.length ∧ SL w (row b8 #[.int .i64 ykind, .int .i64 yg, .int .i64 ychan, .int .i64 ycase_, .int .i64 yvalue, .int .i64 ymate, .bool ysend, .bool yok] 53 :: row b6 #[.int .i64 kind, .int .i64 g, .int .i64 chan, .int .i64 case_, .int .i64 value, .int .i64 mate, .bool send, .bool ok] 53 :: MatP pm l.length (ahF l) :: A :: F)) (fun j => l.length - j) 0 ⟨rfl, trivial⟩ ⟨Nat.zero_le _, H⟩ ?_⟩⟩)
      rintro j s w ⟨hj0, H⟩
      have hob := Nat.lt_or_ge j l.length
      rcases hob with hj | hj
      ·refine ⟨BB.yd ?_⟩
       refine Cn.yes (⟨⟨⟨?_⟩⟩⟩)
       have h1 := H.pi [2, 0, 1, 3] 4
       simp only [pl, nth, drL] at h1
       have K := m_has (i := i) (k := k) (by omega) (by omega) (by omega) h1
       rw [hik] at K
       refine Cl.s K fun w H => ?_
       replace H := H.pi [1, 2, 0, 3] 4
       simp only [pl, nth, drL] at H
       refine BB.yes rfl ?_
       have h1 := H.pi [2, 0, 1, 3] 4
       simp only [pl, nth, drL] at h1
       have K := m_has (i := k) (k := j) (by omega) (by omega) (by omega) h1
       have hob : ∃ bq0 : Bool, ahF l k j = bq0 := ⟨_, rfl⟩
       obtain ⟨bq, hkj⟩ := hob
       cases bq
       ·rw [hkj] at K
        refine Cl.s K fun w H => ?_
        replace H := H.pi [1, 2, 0, 3] 4
        simp only [pl, nth, drL] at H
        refine BB.no rfl (Cn.no (⟨IW.i j ?_⟩))
        exact ⟨j + 1, ⟨rfl, trivial⟩, ⟨(by omega : j + 1 ≤ l.length), H⟩, (show l.length - (j + 1) < l.length - j by omega)⟩
       rw [hkj] at K
       refine Cl.s K fun w H => ?_
       replace H := H.pi [1, 2, 0, 3] 4
       simp only [pl, nth, drL] at H
       refine BB.yes rfl ?_
       have h1 := H.pi [2, 0, 1, 3] 4
       simp only [pl, nth, drL] at h1
       have K := m_has (i := i) (k := j) (by omega) (by omega) (by omega) h1
       have hob : ∃ bq0 : Bool, ahF l i j = bq0 := ⟨_, rfl⟩
       obtain ⟨bq, hij⟩ := hob
       cases bq
       ·rw [hij] at K
        refine Cl.s K fun w H => ?_
        replace H := H.pi [1, 2, 0, 3] 4
        simp only [pl, nth, drL] at H
        refine BB.no rfl (BB.yes rfl (Cn.yes (⟨ret1 (.bool false) rfl (by rfl) ?_⟩)))
        exact absurd ((ah_iff hR).2 (((ah_iff hR).1 hik).trans ((ah_iff hR).1 hkj))) (by rw [hij]; decide)
       rw [hij] at K
       refine Cl.s K fun w H => ?_
       replace H := H.pi [1, 2, 0, 3] 4
       simp only [pl, nth, drL] at H
       refine BB.yes rfl (BB.no rfl (Cn.no (⟨IW.i j ?_⟩)))
       exact ⟨j + 1, ⟨rfl, trivial⟩, ⟨(by omega : j + 1 ≤ l.length), H⟩, (show l.length - (j + 1) < l.length - j by omega)⟩
      have hob : j = l.length := by omega
      obtain rfl := hob
      refine ⟨BB.nd ?_⟩
      refine Cn.no (⟨IW.i k ?_⟩)
      exact ⟨k + 1, ⟨rfl, trivial⟩, ⟨(by omega : k + 1 ≤ l.length), H.pi [1, 2, 3] 4⟩, (show l.length - (k + 1) < l.length - k by omega)⟩
     have hx := hu1.1 rfl
     refine RgX.cut (id := 15) (ι := Bool) [(74, 97)] (by kernel_rfl) (fun u2 => [(97, .bool u2)]) (fun u2 w => u2 = false ∧ SL w (row b8 #[.int .i64 ykind, .int .i64 yg, .int .i64 ychan, .int .i64 ycase_, .int .i64 yvalue, .int .i64 ymate, .bool ysend, .bool yok] 53 :: row b6 #[.int .i64 kind, .int .i64 g, .int .i64 chan, .int .i64 case_, .int .i64 value, .int .i64 mate, .bool send, .bool ok] 53 :: MatP pm l.length (ahF l) :: A :: F)) ?_ ?_
     ·refine ⟨?_⟩
      have h1 := H.pi [2, 0, 1, 3] 4
      simp only [pl, nth, drL] at h1
      have K := m_has (i := i) (k := k) (by omega) (by omega) (by omega) h1
      rw [hik] at K
      refine Cl.s K fun w H => ?_
      replace H := H.pi [1, 2, 0, 3] 4
      simp only [pl, nth, drL] at H
      refine BB.yes rfl (BB.no rfl (H.ldi 1 rfl (v := .int .i64 kind) rfl (BB.vr fun q14 e14 => ?_)))
      cases q14
      ·have h14 := neq_of e14
       refine H.ldi 0 rfl (v := .int .i64 ykind) rfl (BB.vr fun q15 e15 => ?_)
       cases q15
       ·have h15 := neq_of e15
        exact ⟨false, ⟨rfl, trivial⟩, rfl, H⟩
       have h15 := eq_of_beq e15
       have h1 := H.pi [2, 0, 1, 3] 4
       simp only [pl, nth, drL] at h1
       have K := m_has (i := i) (k := k) (by omega) (by omega) (by omega) h1
       rw [hik] at K
       refine Cl.s K fun w H => ?_
       replace H := H.pi [1, 2, 0, 3] 4
       simp only [pl, nth, drL] at H
       refine BB.yes rfl ?_
       exact ⟨(true), ⟨rfl, trivial⟩, (by exfalso; exact absurd hik3 (by omega)), H⟩
      have h14 := eq_of_beq e14
      have h1 := H.pi [2, 0, 1, 3] 4
      simp only [pl, nth, drL] at h1
      have K := m_has (i := i) (k := k) (by omega) (by omega) (by omega) h1
      rw [hik] at K
      refine Cl.s K fun w H => ?_
      replace H := H.pi [1, 2, 0, 3] 4
      simp only [pl, nth, drL] at H
      refine BB.yes rfl ?_
      exact ⟨(true), ⟨rfl, trivial⟩, (by exfalso; exact absurd hik3 (by omega)), H⟩
     rintro u2 s w ⟨hu2, H⟩
     subst hu2
     refine Cn.no (⟨⟨den.loop (ι := Nat) [(2, 2), (10, 10), (100, 120)] (by kernel_rfl) (fun j => [(100, .int .i64 ↑j)]) (fun j w => j ≤ l.length ∧ SL w (row b8 #[.int .i64 ykind, .int .i64 yg, .int .i64 ychan, .int .i64 ycase_, .int .i64 yvalue, .int .i64 ymate, .bool ysend, .bool yok] 53 :: row b6 #[.int .i64 kind, .int .i64 g, .int .i64 chan, .int .i64 case_, .int .i64 value, .int .i64 mate, .bool send, .bool ok] 53 :: MatP pm l.length (ahF l) :: A :: F)) (fun j => l.length - j) 0 ⟨rfl, trivial⟩ ⟨Nat.zero_le _, H⟩ ?_⟩⟩)
     rintro j s w ⟨hj0, H⟩
     have hob := Nat.lt_or_ge j l.length
     rcases hob with hj | hj
     ·refine ⟨BB.yd ?_⟩
      refine Cn.yes (⟨⟨⟨?_⟩⟩⟩)
      have h1 := H.pi [2, 0, 1, 3] 4
      simp only [pl, nth, drL] at h1
      have K := m_has (i := i) (k := k) (by omega) (by omega) (by omega) h1
      rw [hik] at K
      refine Cl.s K fun w H => ?_
      replace H := H.pi [1, 2, 0, 3] 4
      simp only [pl, nth, drL] at H
      refine BB.yes rfl ?_
      have h1 := H.pi [2, 0, 1, 3] 4
      simp only [pl, nth, drL] at h1
      have K := m_has (i := k) (k := j) (by omega) (by omega) (by omega) h1
      have hob : ∃ bq0 : Bool, ahF l k j = bq0 := ⟨_, rfl⟩
      obtain ⟨bq, hkj⟩ := hob
      cases bq
      ·rw [hkj] at K
       refine Cl.s K fun w H => ?_
       replace H := H.pi [1, 2, 0, 3] 4
       simp only [pl, nth, drL] at H
       refine BB.no rfl (Cn.no (⟨IW.i j ?_⟩))
       exact ⟨j + 1, ⟨rfl, trivial⟩, ⟨(by omega : j + 1 ≤ l.length), H⟩, (show l.length - (j + 1) < l.length - j by omega)⟩
      rw [hkj] at K
      refine Cl.s K fun w H => ?_
      replace H := H.pi [1, 2, 0, 3] 4
      simp only [pl, nth, drL] at H
      refine BB.yes rfl ?_
      have h1 := H.pi [2, 0, 1, 3] 4
      simp only [pl, nth, drL] at h1
      have K := m_has (i := i) (k := j) (by omega) (by omega) (by omega) h1
      have hob : ∃ bq0 : Bool, ahF l i j = bq0 := ⟨_, rfl⟩
      obtain ⟨bq, hij⟩ := hob
      cases bq
      ·rw [hij] at K
       refine Cl.s K fun w H => ?_
       replace H := H.pi [1, 2, 0, 3] 4
       simp only [pl, nth, drL] at H
       refine BB.no rfl (BB.yes rfl (Cn.yes (⟨ret1 (.bool false) rfl (by rfl) ?_⟩)))
       exact absurd ((ah_iff hR).2 (((ah_iff hR).1 hik).trans ((ah_iff hR).1 hkj))) (by rw [hij]; decide)
      rw [hij] at K
      refine Cl.s K fun w H => ?_
      replace H := H.pi [1, 2, 0, 3] 4
      simp only [pl, nth, drL] at H
      refine BB.yes rfl (BB.no rfl (Cn.no (⟨IW.i j ?_⟩)))
      exact ⟨j + 1, ⟨rfl, trivial⟩, ⟨(by omega : j + 1 ≤ l.length), H⟩, (show l.length - (j + 1) < l.length - j by omega)⟩
     have hob : j = l.length := by omega
     obtain rfl := hob
     refine ⟨BB.nd ?_⟩
     refine Cn.no (⟨IW.i k ?_⟩)
     exact ⟨k + 1, ⟨rfl, trivial⟩, ⟨(by omega : k + 1 ≤ l.length), H.pi [1, 2, 3] 4⟩, (show l.length - (k + 1) < l.length - k by omega)⟩
    have h7 := of_decide_eq_true e7
    refine Cn.yes (⟨ret1 (.bool false) rfl (by rfl) ?_⟩)
    exact absurd hik3 (by omega)
   have hob : k = l.length := by omega
   obtain rfl := hob
   refine ⟨BB.nd ?_⟩
   refine Cn.no (⟨IW.i i ?_⟩)
   exact ⟨i + 1, ⟨rfl, trivial⟩, ⟨(by omega : i + 1 ≤ l.length), H.pi [1, 2] 3⟩, (show l.length - (i + 1) < l.length - i by omega)⟩
  have hob : i = l.length := by omega
  obtain rfl := hob
  refine ⟨BB.nd ?_⟩
  refine Cn.no (⟨?_⟩)
  have h1 := H.pi [1, 0] 2
  simp only [pl, nth, drL] at h1
  refine Cl.s (l_write hG h1) fun w H => ?_
  replace H := H.pi [1, 0] 2
  simp only [pl, nth, drL] at H
  refine BB.yes rfl (ret1 (.bool true) rfl (by rfl) ?_)
  exact ⟨rfl, H.pi [1] 2⟩
theorem axiomOrder_walk {v : Value} {l : List Ev} {W : World} (h : EvIn W v l) (hs : Spans W) : Calls Tryz.prog 7 #[v] W fun e w' => e = .returned (.bool true) ∧ Frm Nil W w' := by
 obtain ⟨a, cap, rfl, hc, hr⟩ := h
 have H := SL.start W
 have hG : SpansA (Old W) := fun w hw => hs.later (SL.old hw)
 have done : ∀ o w', (o = Ending.returned (.bool true) ∧ SL w' [Old W]) → o = .returned (.bool true) ∧ Frm Nil W w' := fun o w' q => ⟨q.1, SL.old q.2⟩
 by_cases h1 : 60 < l.length
 ·exact (axiomOrder_big hG h1 H).mono done
 ·rcases Nat.eq_zero_or_pos l.length with h0 | h0
  ·rw [h0]
   exact (axiomOrder_nil hG H).mono done
  ·obtain ⟨b, off, rfl, hcell⟩ := hr.2.2 h0
   have hA : EvA (Old W) b off l := EvA.of_rd (a := some ⟨b, off, none⟩) (fun S w hS => ⟨hr.1, hr.2.1, fun _ => ⟨b, off, rfl, fun i u hu => by
    have hw := hcell i u hu
    rw [World.cell?_of_block (w := W) (w' := w) ((hS.2.2.2 b (World.block_lt_of_cell? W _ hw)).2)]
    exact hw⟩⟩) rfl
   exact (axiomOrder_some (lc := cap) hA hG h0 hc (by omega) H).mono done
end Go.Proofs.YtoamjodmidbmbaaGreatDoor
