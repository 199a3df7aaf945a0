/- Texts of the proof. -/
import Derived.Test.YtoamjodmidbmbaaGreatDoorX21
import Derived.Test.YtoamjodmidbmbaaGreatDoorX22
set_option linter.unusedVariables false
set_option linter.unusedSimpArgs false
namespace Go.Proofs.YtoamjodmidbmbaaGreatDoor
open Go.RowKit
set_option maxRecDepth 100000
theorem EvA.takeX {A : Piece} {b off : Nat} {l : List Ev} (h : EvA A b off l) (k : Nat) : EvA A b off (l.take k) :=
 ⟨fun S w hS j e hj => h.at_ S w hS j e (by
  rw [List.getElem?_take] at hj
  split at hj
  ·exact hj
  ·cases hj)⟩
theorem x_ahead_take {w : World} {F : List Piece} {A : Piece} {lb lo lc : Nat} {l : List Ev} (hA : EvA A lb lo l) (hG : SpansA A) (h0 : 0 < l.length) (hlc : l.length ≤ lc) (hll : l.length ≤ 60) (hR : RtL l) {m : Nat} (hm : m ≤ l.length) (H : SL w (A :: F)) : Calls Tryz.prog 21 #[.slice (some ⟨lb, lo, none⟩) m lc] w fun o w' => ∃ p, o = .returned (.tuple #[.pointer (some ⟨p, 0, none⟩), .int .i64 0]) ∧ SL w' (MatP p m (ahF (l.take m)) :: A :: F) := by
 rcases Nat.eq_zero_or_pos m with rfl | h1
 ·refine (x_ahead_nil H).mono ?_
  rintro o w' ⟨p, rfl, H⟩
  exact ⟨p, rfl, MatP.same (fun a b ha _ => absurd ha (Nat.not_lt_zero a)) H⟩
 ·have hq : (l.take m).length = m := by rw [List.length_take]; omega
  have K := x_ahead (lc := lc) (hA.takeX m) (by omega) hG (by omega) (by omega) (right_iff.2 (hR.take hm)) H
  rw [hq] at K
  exact K
theorem x_ahead_takeN {w : World} {F : List Piece} {A : Piece} {lb lo lc : Nat} {l : List Ev} (hA : EvA A lb lo l) (hG : SpansA A) (h0 : 0 < l.length) (hlc : l.length ≤ lc) (hll : l.length ≤ 60) {m : Nat} (hm : m ≤ l.length) (H : SL w (A :: F)) : Calls Tryz.prog 21 #[.slice (some ⟨lb, lo, none⟩) m lc] w fun o w' => ∃ va vb, o = .returned (.tuple #[va, vb]) ∧ SL w' (A :: F) := by
 rcases Nat.eq_zero_or_pos m with rfl | h1
 ·refine (x_ahead_nil H).mono ?_
  rintro o w' ⟨p, rfl, H⟩
  exact ⟨_, _, rfl, H.tl⟩
 ·have hq : (l.take m).length = m := by rw [List.length_take]; omega
  cases hr : rightF (l.take m) with
  | false =>
   have K := x_ahead_no (lc := lc) (hA.takeX m) (by omega) hG (by omega) (by omega) hr H
   rw [hq] at K
   exact K.mono fun o w' q => ⟨_, _, q.1, q.2⟩
  | true =>
   have K := x_ahead (lc := lc) (hA.takeX m) (by omega) hG (by omega) (by omega) hr H
   rw [hq] at K
   refine K.mono ?_
   rintro o w' ⟨p, rfl, H⟩
   exact ⟨_, _, rfl, H.tl⟩
theorem x_first_take {w : World} {F : List Piece} {A : Piece} {lb lo lc : Nat} {l : List Ev} (hA : EvA A lb lo l) (hG : SpansA A) (h0 : 0 < l.length) (hlc : l.length ≤ lc) (hll : l.length ≤ 60) (hR : RtL l) {m : Nat} (hm : m ≤ l.length) {cell : Int} (hcell : ¬ (cell < 0 ∨ 8 ≤ cell)) (H : SL w (A :: F)) : Calls Tryz.prog 26 #[.slice (some ⟨lb, lo, none⟩) m lc, .int .i64 cell] w fun o w' => o = .returned (.tuple #[.int .i64 (((frsF (l.take m) cell).getD 0 : Nat) : Int), .bool (frsF (l.take m) cell).isSome, .int .i64 0]) ∧ SL w' (A :: F) := by
 rcases Nat.eq_zero_or_pos m with rfl | h1
 ·exact x_first_nil hcell H
 ·have hq : (l.take m).length = m := by rw [List.length_take]; omega
  have K := x_first (lc := lc) (cell := cell) (hA.takeX m) (by omega) hG (by omega) (by omega) hcell (right_iff.2 (hR.take hm)) H
  rw [hq] at K
  exact K
theorem axiomGrows_big {w : World} {F : List Piece} {A : Piece} {la : Option Addr} {n lc : Nat} {z : Int} (hG : SpansA A) (hn : 50 < n) (H : SL w (A :: F)) : Calls Tryz.prog 8 #[.slice la n lc, .int .i64 z] w fun o w' => o = .returned (.bool true) ∧ SL w' (A :: F) := by
 refine calls_d (args := [_, _]) Tryz.func8 rfl ?_
 refine ⟨⟨BB.yd ?_⟩⟩
 refine Cn.yes (⟨?_⟩)
 have h1 := H
 refine Cl.s (l_write hG h1) fun w H => ?_
 refine BB.yes rfl (ret1 (.bool true) rfl (by rfl) ?_)
 exact ⟨rfl, H⟩
theorem axiomGrows_nil0 {w : World} {F : List Piece} {A : Piece} {la : Option Addr} {lc : Nat} (hG : SpansA A) (H : SL w (A :: F)) : Calls Tryz.prog 8 #[.slice la 0 lc, .int .i64 0] w fun o w' => o = .returned (.bool true) ∧ SL w' (A :: F) := by
 refine calls_d (args := [_, _]) Tryz.func8 rfl ?_
 refine ⟨⟨BB.no rfl ?_⟩⟩
 refine BB.no rfl (BB.no rfl (BB.no rfl (Cn.no (⟨Cl.b (x_ahead_nil H) ?_⟩))))
 rintro _ w ⟨pm, rfl, H⟩
 refine ⟨_, rfl, ?_⟩
 refine ⟨Mn.head (te := 53) (sz := 8) (c := lc) (.tmp 69) (.tmp 70) 22 (by rfl) (by kernel_rfl) (by kernel_rfl) 0 (Nat.zero_le _) (by rfl) (by rfl) ?_⟩
 refine Cl.b (x_ahead_nil H) ?_
 rintro _ w ⟨po, rfl, H⟩
 refine ⟨_, rfl, ?_⟩
 refine ⟨BB.no rfl ?_⟩
 refine Cn.no (⟨BB.no rfl ?_⟩)
 refine BB.no rfl (Cn.no (⟨⟨den.loop (ι := Nat) [(4, 4), (9, 10), (88, 106)] (by kernel_rfl) (fun i => [(9, .int .i64 ↑i)]) (fun i w => i ≤ 0 ∧ SL w (MatP po 0 (cloR (fun _ _ => false) 0) :: MatP pm 0 (cloR (fun _ _ => false) 0) :: A :: F)) (fun i => 0 - i) 0 ⟨rfl, trivial⟩ ⟨Nat.zero_le _, H⟩ ?_⟩⟩))
 rintro i s w ⟨hi0, H⟩
 have hob : i = 0 := by omega
 obtain rfl := hob
 refine ⟨BB.no rfl ?_⟩
 refine Cn.no (⟨⟨den.loop (ι := Nat) [(4, 4), (11, 17), (107, 150)] (by kernel_rfl) (fun c => [(11, .int .i64 ↑c)]) (fun c w => c ≤ 8 ∧ SL w (MatP po 0 (cloR (fun _ _ => false) 0) :: MatP pm 0 (cloR (fun _ _ => false) 0) :: A :: F)) (fun c => 8 - c) 0 ⟨rfl, trivial⟩ ⟨Nat.zero_le _, H⟩ ?_⟩⟩)
 rintro c s w ⟨hc0, H⟩
 have hob := Nat.lt_or_ge c 8
 rcases hob with hc | hc
 ·refine ⟨BB.yd ?_⟩
  refine Cn.yes (⟨⟨Cl.s (x_first_nil (cell := (c : Int)) (by omega) H) fun w H => ?_⟩⟩)
  refine ⟨Mn.head (te := 53) (sz := 8) (c := lc) (.tmp 119) (.tmp 120) 22 (by rfl) (by kernel_rfl) (by kernel_rfl) 0 (Nat.zero_le _) (by rfl) (by rfl) ?_⟩
  refine Cl.s (x_first_nil (cell := (c : Int)) (by omega) H) fun w H => ?_
  refine ⟨BB.no rfl ?_⟩
  refine BB.no rfl (BB.no rfl (Cn.no (⟨IW.i c ?_⟩)))
  exact ⟨c + 1, ⟨rfl, trivial⟩, ⟨(by omega : c + 1 ≤ 8), H⟩, (show 8 - (c + 1) < 8 - c by omega)⟩
 have hob : c = 8 := by omega
 obtain rfl := hob
 refine ⟨BB.no rfl ?_⟩
 refine Cn.no (⟨?_⟩)
 have h1 := H.pi [2, 0, 1] 3
 simp only [pl, nth, drL] at h1
 refine Cl.s (l_write hG h1) fun w H => ?_
 replace H := H.pi [1, 2, 0] 3
 simp only [pl, nth, drL] at H
 refine BB.yes rfl (ret1 (.bool true) rfl (by rfl) ?_)
 exact ⟨rfl, H.pi [2] 3⟩
theorem axiomGrows_nil {w : World} {F : List Piece} {A : Piece} {la : Option Addr} {lc : Nat} {z : Int} (hG : SpansA A) (H : SL w (A :: F)) : Calls Tryz.prog 8 #[.slice la 0 lc, .int .i64 z] w fun o w' => o = .returned (.bool true) ∧ SL w' (A :: F) := by
 by_cases hz0 : z < 0
 ·refine calls_d (args := [_, _]) Tryz.func8 rfl ?_
  refine ⟨⟨BB.no rfl ?_⟩⟩
  refine BB.yd (Cn.yes (⟨?_⟩))
  have h1 := H
  refine Cl.s (l_write hG h1) fun w H => ?_
  refine BB.yes rfl (ret1 (.bool true) rfl (by rfl) ?_)
  exact ⟨rfl, H⟩
 ·by_cases hz1 : z = 0
  ·subst hz1
   exact axiomGrows_nil0 hG H
  refine calls_d (args := [_, _]) Tryz.func8 rfl ?_
  refine ⟨⟨BB.no rfl ?_⟩⟩
  refine BB.nd (BB.yd (Cn.yes (⟨?_⟩)))
  have h1 := H
  refine Cl.s (l_write hG h1) fun w H => ?_
  refine BB.yes rfl (ret1 (.bool true) rfl (by rfl) ?_)
  exact ⟨rfl, H⟩
set_option maxHeartbeats 2000000 in
theorem axiomGrows_in {w : World} {F : List Piece} {A : Piece} {lb lo lc : Nat} {l : List Ev} (hA : EvA A lb lo l) (hG : SpansA A) (h0 : 0 < l.length) (hlc : l.length ≤ lc) {m : Nat} (hm : m ≤ l.length) (hll : l.length ≤ 50) (H : SL w (A :: F)) : Calls Tryz.prog 8 #[.slice (some ⟨lb, lo, none⟩) l.length lc, .int .i64 (m : Int)] w fun o w' => o = .returned (.bool true) ∧ SL w' (A :: F) := by
 obtain ⟨⟨kind, g, chan, case_, value, mate, send, ok⟩, he⟩ : ∃ x, l[m - 1]? = some x := ⟨_, get_of (by omega)⟩
 have hd : l.getD (m - 1) evz = ⟨kind, g, chan, case_, value, mate, send, ok⟩ := by rw [List.getD_eq_getElem?_getD, he]; rfl
 cases hr : rightF l with
 | false =>
  refine calls_d (args := [_, _]) Tryz.func8 rfl ?_
  refine ⟨RgX.cut (id := 1) (ι := Bool) [(18, 61)] (by kernel_rfl) (fun u1 => [(61, .bool u1)]) (fun u1 w => (u1 = false → FullAt l m) ∧ SL w (A :: F)) ?_ ?_⟩
  ·refine ⟨BB.nd ?_⟩
   refine BB.nd (BB.nd (BB.vr fun q1 e1 => ?_))
   cases q1
   ·have h1 := of_decide_eq_false e1
    exact ⟨false, ⟨rfl, trivial⟩, (fun _ h0 hh => by rw [hd] at hh; dsimp only at hh; omega), H⟩
   have h1 := of_decide_eq_true e1
   refine IW.by (m := ↑(m - 1)) (by rw [show ((m : Int) - 1) = ((m - 1 : Nat) : Int) by omega]; exact wrap_id (by omega) (by omega)) (Ix.at (m - 1) 8 (by kernel_rfl) (by omega) (by omega) ?_)
   refine H.ldE 0 rfl hA (m - 1) 5 he (v := .int .i64 mate) rfl (BB.vr fun q2 e2 => ?_)
   cases q2
   ·have h2 := of_decide_eq_false e2
    exact ⟨false, ⟨rfl, trivial⟩, (fun _ h0 hh => by rw [hd] at hh; dsimp only at hh; omega), H⟩
   have h2 := of_decide_eq_true e2
   refine IW.by (m := ↑(m - 1)) (by rw [show ((m : Int) - 1) = ((m - 1 : Nat) : Int) by omega]; exact wrap_id (by omega) (by omega)) (Ix.at (m - 1) 8 (by kernel_rfl) (by omega) (by omega) ?_)
   refine H.ldE 0 rfl hA (m - 1) 0 he (v := .int .i64 kind) rfl (BB.vr fun q3 e3 => ?_)
   cases q3
   ·have h3 := neq_of e3
    refine IW.by (m := ↑(m - 1)) (by rw [show ((m : Int) - 1) = ((m - 1 : Nat) : Int) by omega]; exact wrap_id (by omega) (by omega)) (Ix.at (m - 1) 8 (by kernel_rfl) (by omega) (by omega) ?_)
    refine H.ldE 0 rfl hA (m - 1) 0 he (v := .int .i64 kind) rfl (BB.vr fun q4 e4 => ?_)
    exact ⟨q4, ⟨rfl, trivial⟩, (fun hh h0 hq => by subst hh; rw [hd] at hq; dsimp only at hq; have := beq_eq_false_iff_ne.1 e4; omega), H⟩
   have h3 := eq_of_beq e3
   exact ⟨true, ⟨rfl, trivial⟩, (fun hh => Bool.noConfusion hh), H⟩
  rintro u1 s w ⟨hu1, H⟩
  cases u1
  ·have hf := hu1 rfl
   refine Cn.no (⟨?_⟩)
   have h1 := H
   refine Cl.s (x_ahead_no hA hlc hG h0 (by omega) hr h1) fun w H => ?_
   refine ⟨Mn.head (te := 53) (sz := 8) (c := lc) (.tmp 69) (.tmp 70) 22 (by rfl) (by kernel_rfl) (by kernel_rfl) m (by omega) (by rfl) (by rfl) ?_⟩
   have h1 := H
   refine Cl.b (x_ahead_takeN (lc := lc) hA hG h0 hlc (by omega) hm h1) ?_
   rintro _ w ⟨va, vb, rfl, H⟩
   refine ⟨_, rfl, ?_⟩
   refine ⟨BB.yes rfl ?_⟩
   refine Cn.yes (⟨BB.yes rfl ?_⟩)
   have h1 := H
   refine Cl.s (l_write hG h1) fun w H => ?_
   refine BB.yes rfl (ret1 (.bool true) rfl (by rfl) ?_)
   exact ⟨rfl, H⟩
  refine Cn.yes (⟨?_⟩)
  have h1 := H
  refine Cl.s (l_write hG h1) fun w H => ?_
  refine BB.yes rfl (ret1 (.bool true) rfl (by rfl) ?_)
  exact ⟨rfl, H⟩
 | true =>
  have hR := right_iff.1 hr
  have hal := all_le hr (by omega)
  refine calls_d (args := [_, _]) Tryz.func8 rfl ?_
  refine ⟨RgX.cut (id := 1) (ι := Bool) [(18, 61)] (by kernel_rfl) (fun u1 => [(61, .bool u1)]) (fun u1 w => (u1 = false → FullAt l m) ∧ SL w (A :: F)) ?_ ?_⟩
  ·refine ⟨BB.nd ?_⟩
   refine BB.nd (BB.nd (BB.vr fun q1 e1 => ?_))
   cases q1
   ·have h1 := of_decide_eq_false e1
    exact ⟨false, ⟨rfl, trivial⟩, (fun _ h0 hh => by rw [hd] at hh; dsimp only at hh; omega), H⟩
   have h1 := of_decide_eq_true e1
   refine IW.by (m := ↑(m - 1)) (by rw [show ((m : Int) - 1) = ((m - 1 : Nat) : Int) by omega]; exact wrap_id (by omega) (by omega)) (Ix.at (m - 1) 8 (by kernel_rfl) (by omega) (by omega) ?_)
   refine H.ldE 0 rfl hA (m - 1) 5 he (v := .int .i64 mate) rfl (BB.vr fun q2 e2 => ?_)
   cases q2
   ·have h2 := of_decide_eq_false e2
    exact ⟨false, ⟨rfl, trivial⟩, (fun _ h0 hh => by rw [hd] at hh; dsimp only at hh; omega), H⟩
   have h2 := of_decide_eq_true e2
   refine IW.by (m := ↑(m - 1)) (by rw [show ((m : Int) - 1) = ((m - 1 : Nat) : Int) by omega]; exact wrap_id (by omega) (by omega)) (Ix.at (m - 1) 8 (by kernel_rfl) (by omega) (by omega) ?_)
   refine H.ldE 0 rfl hA (m - 1) 0 he (v := .int .i64 kind) rfl (BB.vr fun q3 e3 => ?_)
   cases q3
   ·have h3 := neq_of e3
    refine IW.by (m := ↑(m - 1)) (by rw [show ((m : Int) - 1) = ((m - 1 : Nat) : Int) by omega]; exact wrap_id (by omega) (by omega)) (Ix.at (m - 1) 8 (by kernel_rfl) (by omega) (by omega) ?_)
    refine H.ldE 0 rfl hA (m - 1) 0 he (v := .int .i64 kind) rfl (BB.vr fun q4 e4 => ?_)
    exact ⟨q4, ⟨rfl, trivial⟩, (fun hh h0 hq => by subst hh; rw [hd] at hq; dsimp only at hq; have := beq_eq_false_iff_ne.1 e4; omega), H⟩
   have h3 := eq_of_beq e3
   exact ⟨true, ⟨rfl, trivial⟩, (fun hh => Bool.noConfusion hh), H⟩
  rintro u1 s w ⟨hu1, H⟩
  cases u1
  ·have hf := hu1 rfl
   refine Cn.no (⟨?_⟩)
   have h1 := H
   refine Cl.b (x_ahead hA hlc hG h0 (by omega) hr h1) ?_
   rintro _ w ⟨pm, rfl, H⟩
   refine ⟨_, rfl, ?_⟩
   refine ⟨Mn.head (te := 53) (sz := 8) (c := lc) (.tmp 69) (.tmp 70) 22 (by rfl) (by kernel_rfl) (by kernel_rfl) m (by omega) (by rfl) (by rfl) ?_⟩
   have h1 := H.pi [1, 0] 2
   simp only [pl, nth, drL] at h1
   refine Cl.b (x_ahead_take (lc := lc) hA hG h0 hlc (by omega) hR hm h1) ?_
   rintro _ w ⟨po, rfl, H⟩
   refine ⟨_, rfl, ?_⟩
   replace H := H.pi [0, 2, 1] 3
   simp only [pl, nth, drL] at H
   refine ⟨BB.no rfl ?_⟩
   refine Cn.no (⟨BB.no rfl ?_⟩)
   refine BB.no rfl (Cn.no (⟨⟨den.loop (ι := Nat) [(4, 4), (9, 10), (88, 106)] (by kernel_rfl) (fun i => [(9, .int .i64 ↑i)]) (fun i w => i ≤ m ∧ SL w (MatP po m (ahF (l.take m)) :: MatP pm l.length (ahF l) :: A :: F)) (fun i => m - i) 0 ⟨rfl, trivial⟩ ⟨Nat.zero_le _, H⟩ ?_⟩⟩))
   rintro i s w ⟨hi0, H⟩
   have hob := Nat.lt_or_ge i m
   rcases hob with hi | hi
   ·refine ⟨BB.yd ?_⟩
    refine Cn.yes (⟨⟨⟨den.loop (ι := Nat) [(4, 4), (10, 10), (93, 106)] (by kernel_rfl) (fun k => [(10, .int .i64 ↑k)]) (fun k w => k ≤ m ∧ SL w (MatP po m (ahF (l.take m)) :: MatP pm l.length (ahF l) :: A :: F)) (fun k => m - k) 0 ⟨rfl, trivial⟩ ⟨Nat.zero_le _, H⟩ ?_⟩⟩⟩)
    rintro k s w ⟨hk0, H⟩
    have hob := Nat.lt_or_ge k m
    rcases hob with hk | hk
    ·refine ⟨BB.yd ?_⟩
     refine Cn.yes (⟨⟨?_⟩⟩)
     have h1 := H.pi [1, 0, 2] 3
     simp only [pl, nth, drL] at h1
     have K := m_has (i := i) (k := k) (by omega) (by omega) (by omega) h1
     have hob : ∃ bq0 : Bool, ahF l i k = bq0 := ⟨_, rfl⟩
     obtain ⟨bq, hik⟩ := hob
     cases bq
     ·rw [hik] at K
      refine Cl.s K fun w H => ?_
      replace H := H.pi [1, 0, 2] 3
      simp only [pl, nth, drL] at H
      refine BB.no rfl ?_
      have h1 := H
      have K := m_has (i := i) (k := k) (by omega) (by omega) (by omega) h1
      rw [ah_take hR hm hf hk, hik] at K
      refine Cl.s K fun w H => ?_
      refine BB.no rfl (BB.no rfl (Cn.no (⟨IW.i k ?_⟩)))
      exact ⟨k + 1, ⟨rfl, trivial⟩, ⟨(by omega : k + 1 ≤ m), H⟩, (show m - (k + 1) < m - k by omega)⟩
     rw [hik] at K
     refine Cl.s K fun w H => ?_
     replace H := H.pi [1, 0, 2] 3
     simp only [pl, nth, drL] at H
     refine BB.yes rfl ?_
     have h1 := H
     have K := m_has (i := i) (k := k) (by omega) (by omega) (by omega) h1
     rw [ah_take hR hm hf hk, hik] at K
     refine Cl.s K fun w H => ?_
     refine BB.yes rfl (BB.no rfl (Cn.no (⟨IW.i k ?_⟩)))
     exact ⟨k + 1, ⟨rfl, trivial⟩, ⟨(by omega : k + 1 ≤ m), H⟩, (show m - (k + 1) < m - k by omega)⟩
    have hob : m = k := by omega
    obtain rfl := hob
    refine ⟨BB.nd ?_⟩
    refine Cn.no (⟨IW.i i ?_⟩)
    exact ⟨i + 1, ⟨rfl, trivial⟩, ⟨(by omega : i + 1 ≤ m), H⟩, (show m - (i + 1) < m - i by omega)⟩
   have hob : m = i := by omega
   obtain rfl := hob
   refine ⟨BB.nd ?_⟩
   refine Cn.no (⟨⟨den.loop (ι := Nat) [(4, 4), (11, 17), (107, 150)] (by kernel_rfl) (fun c => [(11, .int .i64 ↑c)]) (fun c w => c ≤ 8 ∧ SL w (MatP po m (ahF (l.take m)) :: MatP pm l.length (ahF l) :: A :: F)) (fun c => 8 - c) 0 ⟨rfl, trivial⟩ ⟨Nat.zero_le _, H⟩ ?_⟩⟩)
   rintro c s w ⟨hc0, H⟩
   have hob := Nat.lt_or_ge c 8
   rcases hob with hc | hc
   ·refine ⟨BB.yd ?_⟩
    refine Cn.yes (⟨⟨?_⟩⟩)
    have hob : ∃ x, frsF l (c : Int) = x := ⟨_, rfl⟩
    obtain ⟨fr, hfr⟩ := hob
    cases fr with
    | none =>
     have h1 := H.pi [2, 0, 1] 3
     simp only [pl, nth, drL] at h1
     have K := x_first (cell := (c : Int)) hA hlc hG h0 (by omega) (by omega) hr h1
     rw [hfr] at K
     simp only [Option.getD_some, Option.getD_none, Option.isSome_some, Option.isSome_none] at K
     refine Cl.s K fun w H => ?_
     replace H := H.pi [1, 2, 0] 3
     simp only [pl, nth, drL] at H
     refine ⟨Mn.head (te := 53) (sz := 8) (c := lc) (.tmp 119) (.tmp 120) 22 (by rfl) (by kernel_rfl) (by kernel_rfl) m (by omega) (by rfl) (by rfl) ?_⟩
     have h1 := H.pi [2, 0, 1] 3
     simp only [pl, nth, drL] at h1
     have K := x_first_take (lc := lc) (m := m) (cell := (c : Int)) hA hG h0 hlc (by omega) hR hm (by omega) h1
     rw [frs_take hR hm hf, hfr, show (none : Option Nat).filter (fun i => decide (i < m)) = none by simp [Option.filter]] at K
     simp only [Option.getD_some, Option.getD_none, Option.isSome_some, Option.isSome_none] at K
     refine Cl.s K fun w H => ?_
     replace H := H.pi [1, 2, 0] 3
     simp only [pl, nth, drL] at H
     refine ⟨BB.no rfl ?_⟩
     refine BB.no rfl (BB.no rfl (Cn.no (⟨IW.i c ?_⟩)))
     exact ⟨c + 1, ⟨rfl, trivial⟩, ⟨(by omega : c + 1 ≤ 8), H⟩, (show 8 - (c + 1) < 8 - c by omega)⟩
    | some b =>
     have h1 := H.pi [2, 0, 1] 3
     simp only [pl, nth, drL] at h1
     have K := x_first (cell := (c : Int)) hA hlc hG h0 (by omega) (by omega) hr h1
     rw [hfr] at K
     simp only [Option.getD_some, Option.getD_none, Option.isSome_some, Option.isSome_none] at K
     refine Cl.s K fun w H => ?_
     replace H := H.pi [1, 2, 0] 3
     simp only [pl, nth, drL] at H
     refine ⟨Mn.head (te := 53) (sz := 8) (c := lc) (.tmp 119) (.tmp 120) 22 (by rfl) (by kernel_rfl) (by kernel_rfl) m (by omega) (by rfl) (by rfl) ?_⟩
     have hob := Nat.lt_or_ge b m
     rcases hob with hbm | hbm
     ·have h1 := H.pi [2, 0, 1] 3
      simp only [pl, nth, drL] at h1
      have K := x_first_take (lc := lc) (m := m) (cell := (c : Int)) hA hG h0 hlc (by omega) hR hm (by omega) h1
      rw [frs_take hR hm hf, hfr, show (some b : Option Nat).filter (fun i => decide (i < m)) = some b by simp [Option.filter, hbm]] at K
      simp only [Option.getD_some, Option.getD_none, Option.isSome_some, Option.isSome_none] at K
      refine Cl.s K fun w H => ?_
      replace H := H.pi [1, 2, 0] 3
      simp only [pl, nth, drL] at H
      refine ⟨BB.no rfl ?_⟩
      refine BB.no rfl (BB.yd (BB.no rfl (BB.no (bne_self_eq_false _) (Cn.no (⟨IW.i c ?_⟩)))))
      exact ⟨c + 1, ⟨rfl, trivial⟩, ⟨(by omega : c + 1 ≤ 8), H⟩, (show 8 - (c + 1) < 8 - c by omega)⟩
     have hbm := Nat.not_lt.2 hbm
     have h1 := H.pi [2, 0, 1] 3
     simp only [pl, nth, drL] at h1
     have K := x_first_take (lc := lc) (m := m) (cell := (c : Int)) hA hG h0 hlc (by omega) hR hm (by omega) h1
     rw [frs_take hR hm hf, hfr, show (some b : Option Nat).filter (fun i => decide (i < m)) = none by simp [Option.filter, hbm]] at K
     simp only [Option.getD_some, Option.getD_none, Option.isSome_some, Option.isSome_none] at K
     refine Cl.s K fun w H => ?_
     replace H := H.pi [1, 2, 0] 3
     simp only [pl, nth, drL] at H
     refine ⟨BB.no rfl ?_⟩
     refine BB.no rfl (BB.nd (BB.no rfl (Cn.no (⟨IW.i c ?_⟩))))
     exact ⟨c + 1, ⟨rfl, trivial⟩, ⟨(by omega : c + 1 ≤ 8), H⟩, (show 8 - (c + 1) < 8 - c by omega)⟩
   have hob : c = 8 := by omega
   obtain rfl := hob
   refine ⟨BB.no rfl ?_⟩
   refine Cn.no (⟨?_⟩)
   have h1 := H.pi [2, 0, 1] 3
   simp only [pl, nth, drL] at h1
   refine Cl.s (l_write hG h1) fun w H => ?_
   replace H := H.pi [1, 2, 0] 3
   simp only [pl, nth, drL] at H
   refine BB.yes rfl (ret1 (.bool true) rfl (by rfl) ?_)
   exact ⟨rfl, H.pi [2] 3⟩
  refine Cn.yes (⟨?_⟩)
  have h1 := H
  refine Cl.s (l_write hG h1) fun w H => ?_
  refine BB.yes rfl (ret1 (.bool true) rfl (by rfl) ?_)
  exact ⟨rfl, H⟩
theorem axiomGrows_some {w : World} {F : List Piece} {A : Piece} {lb lo lc : Nat} {l : List Ev} (hA : EvA A lb lo l) (hG : SpansA A) (h0 : 0 < l.length) (hlc : l.length ≤ lc) {z : Int} (hll : l.length ≤ 50) (H : SL w (A :: F)) : Calls Tryz.prog 8 #[.slice (some ⟨lb, lo, none⟩) l.length lc, .int .i64 z] w fun o w' => o = .returned (.bool true) ∧ SL w' (A :: F) := by
 by_cases hz0 : z < 0
 ·refine calls_d (args := [_, _]) Tryz.func8 rfl ?_
  refine ⟨⟨BB.nd ?_⟩⟩
  refine BB.yd (Cn.yes (⟨?_⟩))
  have h1 := H
  refine Cl.s (l_write hG h1) fun w H => ?_
  refine BB.yes rfl (ret1 (.bool true) rfl (by rfl) ?_)
  exact ⟨rfl, H⟩
 ·by_cases hz1 : (l.length : Int) < z
  ·refine calls_d (args := [_, _]) Tryz.func8 rfl ?_
   refine ⟨⟨BB.nd ?_⟩⟩
   refine BB.nd (BB.yd (Cn.yes (⟨?_⟩)))
   have h1 := H
   refine Cl.s (l_write hG h1) fun w H => ?_
   refine BB.yes rfl (ret1 (.bool true) rfl (by rfl) ?_)
   exact ⟨rfl, H⟩
  ·obtain ⟨m, rfl⟩ : ∃ m : Nat, z = m := ⟨z.toNat, by omega⟩
   exact axiomGrows_in hA hG h0 hlc (by omega) hll H
theorem axiomGrows_walk {v : Value} {l : List Ev} {W : World} (h : EvIn W v l) (z : Int) (_ : (Lit.int .i64 z).wf = true) (hs : Spans W) : Calls Tryz.prog 8 #[v, .int .i64 z] W fun e w' => e = .returned (.bool true) ∧ Frm Nil W w' := by
 obtain ⟨a, cap, rfl, hc, hr⟩ := h
 have H := SL.start W
 have hG : SpansA (Old W) := fun w hw => hs.later (SL.old hw)
 have done : ∀ o w', (o = Ending.returned (.bool true) ∧ SL w' [Old W]) → o = .returned (.bool true) ∧ Frm Nil W w' := fun o w' q => ⟨q.1, SL.old q.2⟩
 by_cases h1 : 50 < l.length
 ·exact (axiomGrows_big hG h1 H).mono done
 ·rcases Nat.eq_zero_or_pos l.length with h0 | h0
  ·rw [h0]
   exact (axiomGrows_nil hG H).mono done
  ·obtain ⟨b, off, rfl, hcell⟩ := hr.2.2 h0
   have hA : EvA (Old W) b off l := EvA.of_rd (a := some ⟨b, off, none⟩) (fun S w hS => ⟨hr.1, hr.2.1, fun _ => ⟨b, off, rfl, fun i u hu => by
    have hw := hcell i u hu
    rw [World.cell?_of_block (w := W) (w' := w) ((hS.2.2.2 b (World.block_lt_of_cell? W _ hw)).2)]
    exact hw⟩⟩) rfl
   exact (axiomGrows_some (lc := cap) hA hG h0 hc (by omega) H).mono done
end Go.Proofs.YtoamjodmidbmbaaGreatDoor
