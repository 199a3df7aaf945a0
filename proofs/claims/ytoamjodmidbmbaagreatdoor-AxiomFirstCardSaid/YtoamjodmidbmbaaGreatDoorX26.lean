/- Texts of the proof. -/
import Derived.Test.YtoamjodmidbmbaaGreatDoorX22
set_option linter.unusedVariables false
set_option linter.unusedSimpArgs false
namespace Go.Proofs.YtoamjodmidbmbaaGreatDoor
open Go.RowKit
set_option maxRecDepth 100000
theorem hit_inn {l : List Ev} {cell : Int} {i : Nat} : hitF l cell i = (List.range i).any (fun x => accF l cell x && accF l cell i && raceF l x i) := by
 unfold hitF
 cases accF l cell i with
 | false => simp
 | true => simp
def fstF (l : List Ev) (cell : Int) : Int := match frsF l cell with
 | some b => (b : Int)
 | none => -1
set_option maxHeartbeats 2000000 in
theorem yq_first {w : World} {F : List Piece} {A : Piece} {lb lo lc : Nat} {l : List Ev} (hA : EvA A lb lo l) (hlc : l.length ≤ lc) {p : Nat} {cell : Int} (hll : l.length ≤ 1000) (H : SL w (RMP p l.length (ahF l) :: A :: F)) : Calls Tryz.prog 27 #[.agg #[.slice (some ⟨lb, lo, none⟩) l.length lc, .pointer (some ⟨p, 0, none⟩)], .int .i64 cell] w fun o w' => o = .returned (.int .i64 (fstF l cell)) ∧ SL w' (RMP p l.length (ahF l) :: A :: F) := by
 refine calls_d (args := [_, _]) Tryz.func27 rfl ?_
 refine ⟨Nw.as #[.slice (some ⟨lb, lo, none⟩) l.length lc, .pointer (some ⟨p, 0, none⟩)] 44 rfl H fun b2 w H => ?_⟩
 refine ⟨H.ldi 0 rfl (v := .slice (some ⟨lb, lo, none⟩) l.length lc) rfl ?_⟩
 refine ⟨den.loop (ι := Nat) [(4, 9), (13, 94)] (by kernel_rfl) (fun i => [(13, .int .i64 ↑i)]) (fun i w => (i ≤ l.length ∧ (List.range i).find? (hitF l cell) = none) ∧ SL w (RMP p l.length (ahF l) :: A :: row b2 #[.slice (some ⟨lb, lo, none⟩) l.length lc, .pointer (some ⟨p, 0, none⟩)] 44 :: F)) (fun i => l.length - i) 0 ⟨rfl, trivial⟩ ⟨⟨Nat.zero_le _, rfl⟩, (H.pi [1, 2, 0] 3)⟩ ?_⟩
 rintro i s w ⟨hc, H⟩
 obtain ⟨hi0, hn⟩ := hc
 have hob := Nat.lt_or_ge i l.length
 rcases hob with hi | hi
 ·have hob : ∃ x, l[i]? = some x := ⟨_, get_of hi⟩
  obtain ⟨⟨kind, g, chan, case_, value, mate, send, ok⟩, he⟩ := hob
  have hd : l.getD i evz = ⟨kind, g, chan, case_, value, mate, send, ok⟩ := by rw [List.getD_eq_getElem?_getD, he]; rfl
  refine ⟨BB.yd ?_⟩
  refine Cn.yes (⟨⟨Ix.at i 8 (by kernel_rfl) (rfl) (by omega) ?_⟩⟩)
  refine H.ldEv 1 rfl hA i he (Nw.as ev0C 53 rfl H fun b6 w H => ?_)
  refine SL.stEv H rfl rfl fun w H => ?_
  refine ⟨H.ldi 3 rfl (v := .slice (some ⟨lb, lo, none⟩) l.length lc) rfl ?_⟩
  refine Mn.head (te := 53) (sz := 8) (c := lc) (.tmp 19) (.tmp 20) 22 (by rfl) (by kernel_rfl) (by kernel_rfl) i (by omega) (by rfl) (by rfl) ?_
  refine ⟨den.loop (ι := Nat) [(4, 4), (7, 9), (23, 93)] (by kernel_rfl) (fun a => [(23, .int .i64 ↑a)]) (fun a w => (a ≤ i ∧ (List.range a).any (fun x => accF l cell x && accF l cell i && raceF l x i) = false) ∧ SL w (RMP p l.length (ahF l) :: A :: row b2 #[.slice (some ⟨lb, lo, none⟩) l.length lc, .pointer (some ⟨p, 0, none⟩)] 44 :: row b6 #[.int .i64 kind, .int .i64 g, .int .i64 chan, .int .i64 case_, .int .i64 value, .int .i64 mate, .bool send, .bool ok] 53 :: F)) (fun a => i - a) 0 ⟨rfl, trivial⟩ ⟨⟨Nat.zero_le _, rfl⟩, (H.pi [1, 2, 3, 0] 4)⟩ ?_⟩
  rintro a s w ⟨hc, H⟩
  obtain ⟨ha0, hin⟩ := hc
  have hob := Nat.lt_or_ge a i
  rcases hob with ha | ha
  ·have hob : ∃ x, l[a]? = some x := ⟨_, get_of (by omega)⟩
   obtain ⟨⟨ykind, yg, ychan, ycase_, yvalue, ymate, ysend, yok⟩, hy⟩ := hob
   have hdy : l.getD a evz = ⟨ykind, yg, ychan, ycase_, yvalue, ymate, ysend, yok⟩ := by rw [List.getD_eq_getElem?_getD, hy]; rfl
   refine ⟨BB.yd ?_⟩
   refine Cn.yes (⟨⟨Ix.at a 8 (by kernel_rfl) (rfl) (by omega) ?_⟩⟩)
   refine H.ldEv 1 rfl hA a hy (Nw.as ev0C 53 rfl H fun b8 w H => ?_)
   refine SL.stEv H rfl rfl fun w H => ?_
   refine RgX.cut (id := 7) (ι := Bool) [(9, 9), (28, 57)] (by kernel_rfl) (fun u1 => [(9, .bool u1)]) (fun u1 w => (u1 = true ↔ ((ykind = 9 ∨ ykind = 10) ∧ (kind = 9 ∨ kind = 10) ∧ yvalue = cell ∧ value = cell)) ∧ SL w (row b8 #[.int .i64 ykind, .int .i64 yg, .int .i64 ychan, .int .i64 ycase_, .int .i64 yvalue, .int .i64 ymate, .bool ysend, .bool yok] 53 :: RMP p l.length (ahF l) :: A :: row b2 #[.slice (some ⟨lb, lo, none⟩) l.length lc, .pointer (some ⟨p, 0, none⟩)] 44 :: row b6 #[.int .i64 kind, .int .i64 g, .int .i64 chan, .int .i64 case_, .int .i64 value, .int .i64 mate, .bool send, .bool ok] 53 :: F)) ?_ ?_
   ·refine ⟨H.ldi 0 rfl (v := .int .i64 ykind) rfl ?_⟩
    refine BB.vr fun q1 e1 => ?_
    cases q1
    ·have h1 := neq_of e1
     refine H.ldi 0 rfl (v := .int .i64 ykind) rfl (BB.vr fun q2 e2 => ?_)
     cases q2
     ·have h2 := neq_of e2
      exact ⟨false, ⟨rfl, trivial⟩, ⟨fun hh => Bool.noConfusion hh, fun hh => by exfalso; omega⟩, H⟩
     have h2 := eq_of_beq e2
     refine H.ldi 4 rfl (v := .int .i64 kind) rfl (BB.vr fun q3 e3 => ?_)
     cases q3
     ·have h3 := neq_of e3
      refine H.ldi 4 rfl (v := .int .i64 kind) rfl (BB.vr fun q4 e4 => ?_)
      cases q4
      ·have h4 := neq_of e4
       exact ⟨false, ⟨rfl, trivial⟩, ⟨fun hh => Bool.noConfusion hh, fun hh => by exfalso; omega⟩, H⟩
      have h4 := eq_of_beq e4
      refine H.ldi 0 rfl (v := .int .i64 yvalue) rfl (BB.vr fun q5 e5 => ?_)
      cases q5
      ·have h5 := neq_of e5
       exact ⟨false, ⟨rfl, trivial⟩, ⟨fun hh => Bool.noConfusion hh, fun hh => by exfalso; omega⟩, H⟩
      have h5 := eq_of_beq e5
      refine H.ldi 4 rfl (v := .int .i64 value) rfl (BB.vr fun q6 e6 => ?_)
      exact ⟨q6, ⟨rfl, trivial⟩, ⟨fun hh => by subst hh; have := eq_of_beq e6; omega, fun hh => by rw [← e6]; exact beq_iff_eq.2 (by omega)⟩, H⟩
     have h3 := eq_of_beq e3
     refine H.ldi 0 rfl (v := .int .i64 yvalue) rfl (BB.vr fun q7 e7 => ?_)
     cases q7
     ·have h7 := neq_of e7
      exact ⟨false, ⟨rfl, trivial⟩, ⟨fun hh => Bool.noConfusion hh, fun hh => by exfalso; omega⟩, H⟩
     have h7 := eq_of_beq e7
     refine H.ldi 4 rfl (v := .int .i64 value) rfl (BB.vr fun q8 e8 => ?_)
     exact ⟨q8, ⟨rfl, trivial⟩, ⟨fun hh => by subst hh; have := eq_of_beq e8; omega, fun hh => by rw [← e8]; exact beq_iff_eq.2 (by omega)⟩, H⟩
    have h1 := eq_of_beq e1
    refine H.ldi 4 rfl (v := .int .i64 kind) rfl (BB.vr fun q9 e9 => ?_)
    cases q9
    ·have h9 := neq_of e9
     refine H.ldi 4 rfl (v := .int .i64 kind) rfl (BB.vr fun q10 e10 => ?_)
     cases q10
     ·have h10 := neq_of e10
      exact ⟨false, ⟨rfl, trivial⟩, ⟨fun hh => Bool.noConfusion hh, fun hh => by exfalso; omega⟩, H⟩
     have h10 := eq_of_beq e10
     refine H.ldi 0 rfl (v := .int .i64 yvalue) rfl (BB.vr fun q11 e11 => ?_)
     cases q11
     ·have h11 := neq_of e11
      exact ⟨false, ⟨rfl, trivial⟩, ⟨fun hh => Bool.noConfusion hh, fun hh => by exfalso; omega⟩, H⟩
     have h11 := eq_of_beq e11
     refine H.ldi 4 rfl (v := .int .i64 value) rfl (BB.vr fun q12 e12 => ?_)
     exact ⟨q12, ⟨rfl, trivial⟩, ⟨fun hh => by subst hh; have := eq_of_beq e12; omega, fun hh => by rw [← e12]; exact beq_iff_eq.2 (by omega)⟩, H⟩
    have h9 := eq_of_beq e9
    refine H.ldi 0 rfl (v := .int .i64 yvalue) rfl (BB.vr fun q13 e13 => ?_)
    cases q13
    ·have h13 := neq_of e13
     exact ⟨false, ⟨rfl, trivial⟩, ⟨fun hh => Bool.noConfusion hh, fun hh => by exfalso; omega⟩, H⟩
    have h13 := eq_of_beq e13
    refine H.ldi 4 rfl (v := .int .i64 value) rfl (BB.vr fun q14 e14 => ?_)
    exact ⟨q14, ⟨rfl, trivial⟩, ⟨fun hh => by subst hh; have := eq_of_beq e14; omega, fun hh => by rw [← e14]; exact beq_iff_eq.2 (by omega)⟩, H⟩
   rintro u1 s w ⟨hu1, H⟩
   cases u1
   ·have hx : ¬ ((ykind = 9 ∨ ykind = 10) ∧ (kind = 9 ∨ kind = 10) ∧ yvalue = cell ∧ value = cell) := fun hh => Bool.noConfusion (hu1.2 hh)
    have hac : (accF l cell a && accF l cell i) = false := by unfold accF; rw [hd, hdy, Bool.eq_false_iff]; intro hh; simp only [Bool.and_eq_true, Bool.or_eq_true, beq_iff_eq] at hh; exact hx ⟨hh.1.1, hh.2.1, hh.1.2, hh.2.2⟩
    refine RgX.cut (id := 8) (ι := Bool) [(58, 91)] (by kernel_rfl) (fun u2 => [(91, .bool u2)]) (fun u2 w => u2 = false ∧ SL w (row b8 #[.int .i64 ykind, .int .i64 yg, .int .i64 ychan, .int .i64 ycase_, .int .i64 yvalue, .int .i64 ymate, .bool ysend, .bool yok] 53 :: RMP p l.length (ahF l) :: A :: row b2 #[.slice (some ⟨lb, lo, none⟩) l.length lc, .pointer (some ⟨p, 0, none⟩)] 44 :: row b6 #[.int .i64 kind, .int .i64 g, .int .i64 chan, .int .i64 case_, .int .i64 value, .int .i64 mate, .bool send, .bool ok] 53 :: F)) ?_ ?_
    ·refine ⟨?_⟩
     exact ⟨false, ⟨rfl, trivial⟩, rfl, H⟩
    rintro u2 s w ⟨hu2, H⟩
    subst hu2
    refine Cn.no (⟨IW.i a ?_⟩)
    exact ⟨a + 1, ⟨rfl, trivial⟩, ⟨⟨by omega, by rw [List.range_succ, List.any_append, hin, List.any_cons, hac, Bool.false_and]; rfl⟩, H.pi [1, 2, 3, 4] 5⟩, (show i - (a + 1) < i - a by omega)⟩
   have hx := hu1.1 rfl
   have hac : (accF l cell a && accF l cell i) = true := by unfold accF; rw [hd, hdy]; simp only [Bool.and_eq_true, Bool.or_eq_true, beq_iff_eq]; exact ⟨⟨hx.1, hx.2.2.1⟩, hx.2.1, hx.2.2.2⟩
   refine RgX.cut (id := 8) (ι := Bool) [(58, 91)] (by kernel_rfl) (fun u2 => [(91, .bool u2)]) (fun u2 w => u2 = raceF l a i ∧ SL w (row b8 #[.int .i64 ykind, .int .i64 yg, .int .i64 ychan, .int .i64 ycase_, .int .i64 yvalue, .int .i64 ymate, .bool ysend, .bool yok] 53 :: RMP p l.length (ahF l) :: A :: row b2 #[.slice (some ⟨lb, lo, none⟩) l.length lc, .pointer (some ⟨p, 0, none⟩)] 44 :: row b6 #[.int .i64 kind, .int .i64 g, .int .i64 chan, .int .i64 case_, .int .i64 value, .int .i64 mate, .bool send, .bool ok] 53 :: F)) ?_ ?_
   ·refine ⟨H.ldi 0 rfl (v := .int .i64 yg) rfl ?_⟩
    refine H.ldi 4 rfl (v := .int .i64 g) rfl (BB.vr fun q15 e15 => ?_)
    cases q15
    ·have h15 := bne_eq_false_iff_eq.1 e15
     have hq : raceF l a i = (false) := by
      unfold raceF
      rw [hd, hdy]
      dsimp only
      rw [show (yg != g) = false from bne_eq_false_iff_eq.2 (by omega)]
      first | rfl | simp
     exact ⟨(false), ⟨rfl, trivial⟩, hq.symm, H⟩
    have h15 := bne_iff_ne.1 e15
    refine H.ldi 0 rfl (v := .int .i64 ykind) rfl (BB.vr fun q16 e16 => ?_)
    cases q16
    ·have h16 := neq_of e16
     refine H.ldi 4 rfl (v := .int .i64 kind) rfl (BB.vr fun q17 e17 => ?_)
     cases q17
     ·have h17 := neq_of e17
      have hq : raceF l a i = (false) := by
       unfold raceF
       rw [hd, hdy]
       dsimp only
       rw [show (yg != g) = true from bne_iff_ne.2 (by omega)]
       rw [show (kind == 10) = false from beq_eq_false_iff_ne.2 (by omega)]
       rw [show (ykind == 10) = false from beq_eq_false_iff_ne.2 (by omega)]
       first | rfl | simp
      exact ⟨(false), ⟨rfl, trivial⟩, hq.symm, H⟩
     have h17 := eq_of_beq e17
     refine H.ldi 3 rfl (v := .pointer (some ⟨p, 0, none⟩)) rfl ?_
     have h1 := H.pi [1, 0, 2, 3, 4] 5
     simp only [pl, nth, drL] at h1
     have K := yq_has (i := a) (k := i) (by omega) (by omega) (by omega) h1
     have hob : ∃ bq0 : Bool, ahF l a i = bq0 := ⟨_, rfl⟩
     obtain ⟨bq, hai⟩ := hob
     cases bq
     ·rw [hai] at K
      refine Cl.s K fun w H => ?_
      replace H := H.pi [1, 0, 2, 3, 4] 5
      simp only [pl, nth, drL] at H
      refine BB.no rfl (BB.yes rfl (H.ldi 3 rfl (v := .pointer (some ⟨p, 0, none⟩)) rfl ?_))
      have h1 := H.pi [1, 0, 2, 3, 4] 5
      simp only [pl, nth, drL] at h1
      have K := yq_has (i := i) (k := a) (by omega) (by omega) (by omega) h1
      have hob : ∃ bq0 : Bool, ahF l i a = bq0 := ⟨_, rfl⟩
      obtain ⟨bq, hia⟩ := hob
      cases bq
      ·rw [hia] at K
       refine Cl.s K fun w H => ?_
       replace H := H.pi [1, 0, 2, 3, 4] 5
       simp only [pl, nth, drL] at H
       refine BB.no rfl (BB.yes rfl ?_)
       have hq : raceF l a i = (true) := by
        unfold raceF
        rw [hd, hdy, hai, hia]
        dsimp only
        rw [show (yg != g) = true from bne_iff_ne.2 (by omega)]
        rw [show (kind == 10) = true from beq_iff_eq.2 (by omega)]
        rw [show (ykind == 10) = false from beq_eq_false_iff_ne.2 (by omega)]
        first | rfl | simp
       exact ⟨(true), ⟨rfl, trivial⟩, hq.symm, H⟩
      rw [hia] at K
      refine Cl.s K fun w H => ?_
      replace H := H.pi [1, 0, 2, 3, 4] 5
      simp only [pl, nth, drL] at H
      refine BB.yes rfl (BB.no rfl ?_)
      have hq : raceF l a i = (false) := by
       unfold raceF
       rw [hd, hdy, hai, hia]
       dsimp only
       rw [show (yg != g) = true from bne_iff_ne.2 (by omega)]
       rw [show (kind == 10) = true from beq_iff_eq.2 (by omega)]
       rw [show (ykind == 10) = false from beq_eq_false_iff_ne.2 (by omega)]
       first | rfl | simp
      exact ⟨(false), ⟨rfl, trivial⟩, hq.symm, H⟩
     rw [hai] at K
     refine Cl.s K fun w H => ?_
     replace H := H.pi [1, 0, 2, 3, 4] 5
     simp only [pl, nth, drL] at H
     refine BB.yes rfl (BB.no rfl ?_)
     have hq : raceF l a i = (false) := by
      unfold raceF
      rw [hd, hdy, hai]
      dsimp only
      rw [show (yg != g) = true from bne_iff_ne.2 (by omega)]
      rw [show (kind == 10) = true from beq_iff_eq.2 (by omega)]
      rw [show (ykind == 10) = false from beq_eq_false_iff_ne.2 (by omega)]
      first | rfl | simp
     exact ⟨(false), ⟨rfl, trivial⟩, hq.symm, H⟩
    have h16 := eq_of_beq e16
    refine H.ldi 3 rfl (v := .pointer (some ⟨p, 0, none⟩)) rfl ?_
    have h1 := H.pi [1, 0, 2, 3, 4] 5
    simp only [pl, nth, drL] at h1
    have K := yq_has (i := a) (k := i) (by omega) (by omega) (by omega) h1
    have hob : ∃ bq0 : Bool, ahF l a i = bq0 := ⟨_, rfl⟩
    obtain ⟨bq, hai⟩ := hob
    cases bq
    ·rw [hai] at K
     refine Cl.s K fun w H => ?_
     replace H := H.pi [1, 0, 2, 3, 4] 5
     simp only [pl, nth, drL] at H
     refine BB.no rfl (BB.yes rfl (H.ldi 3 rfl (v := .pointer (some ⟨p, 0, none⟩)) rfl ?_))
     have h1 := H.pi [1, 0, 2, 3, 4] 5
     simp only [pl, nth, drL] at h1
     have K := yq_has (i := i) (k := a) (by omega) (by omega) (by omega) h1
     have hob : ∃ bq0 : Bool, ahF l i a = bq0 := ⟨_, rfl⟩
     obtain ⟨bq, hia⟩ := hob
     cases bq
     ·rw [hia] at K
      refine Cl.s K fun w H => ?_
      replace H := H.pi [1, 0, 2, 3, 4] 5
      simp only [pl, nth, drL] at H
      refine BB.no rfl (BB.yes rfl ?_)
      have hq : raceF l a i = (true) := by
       unfold raceF
       rw [hd, hdy, hai, hia]
       dsimp only
       rw [show (yg != g) = true from bne_iff_ne.2 (by omega)]
       rw [show (ykind == 10) = true from beq_iff_eq.2 (by omega)]
       first | rfl | simp
      exact ⟨(true), ⟨rfl, trivial⟩, hq.symm, H⟩
     rw [hia] at K
     refine Cl.s K fun w H => ?_
     replace H := H.pi [1, 0, 2, 3, 4] 5
     simp only [pl, nth, drL] at H
     refine BB.yes rfl (BB.no rfl ?_)
     have hq : raceF l a i = (false) := by
      unfold raceF
      rw [hd, hdy, hai, hia]
      dsimp only
      rw [show (yg != g) = true from bne_iff_ne.2 (by omega)]
      rw [show (ykind == 10) = true from beq_iff_eq.2 (by omega)]
      first | rfl | simp
     exact ⟨(false), ⟨rfl, trivial⟩, hq.symm, H⟩
    rw [hai] at K
    refine Cl.s K fun w H => ?_
    replace H := H.pi [1, 0, 2, 3, 4] 5
    simp only [pl, nth, drL] at H
    refine BB.yes rfl (BB.no rfl ?_)
    have hq : raceF l a i = (false) := by
     unfold raceF
     rw [hd, hdy, hai]
     dsimp only
     rw [show (yg != g) = true from bne_iff_ne.2 (by omega)]
     rw [show (ykind == 10) = true from beq_iff_eq.2 (by omega)]
     first | rfl | simp
    exact ⟨(false), ⟨rfl, trivial⟩, hq.symm, H⟩
   rintro u2 s w ⟨hu2, H⟩
   cases u2
   ·have hrc := hu2.symm
    refine Cn.no (⟨IW.i a ?_⟩)
    exact ⟨a + 1, ⟨rfl, trivial⟩, ⟨⟨by omega, by rw [List.range_succ, List.any_append, hin, List.any_cons, hrc, Bool.and_false]; rfl⟩, H.pi [1, 2, 3, 4] 5⟩, (show i - (a + 1) < i - a by omega)⟩
   have hrc := hu2.symm
   refine Cn.yes (⟨ret1 (.int .i64 ↑i) rfl (by rfl) ?_⟩)
   have hht : hitF l cell i = true := by rw [hit_inn]; exact List.any_eq_true.2 ⟨a, List.mem_range.2 ha, by rw [hac, hrc]; rfl⟩
   exact ⟨by unfold fstF; rw [show frsF l cell = some i from find_hit hn hht hi], H.pi [1, 2] 5⟩
  have hob : i = a := by omega
  obtain rfl := hob
  refine ⟨BB.nd ?_⟩
  refine Cn.no (⟨IW.i i ?_⟩)
  exact ⟨i + 1, ⟨rfl, trivial⟩, ⟨⟨by omega, find_none hn (by rw [hit_inn]; exact hin)⟩, H.pi [0, 1, 2] 4⟩, (show l.length - (i + 1) < l.length - i by omega)⟩
 have hob : i = l.length := by omega
 obtain rfl := hob
 refine ⟨BB.nd ?_⟩
 refine Cn.no (⟨ret1 (.int .i64 (-1)) rfl (by rfl) ?_⟩)
 exact ⟨by unfold fstF; rw [show frsF l cell = none from hn], H.pi [0, 1] 3⟩
end Go.Proofs.YtoamjodmidbmbaaGreatDoor
