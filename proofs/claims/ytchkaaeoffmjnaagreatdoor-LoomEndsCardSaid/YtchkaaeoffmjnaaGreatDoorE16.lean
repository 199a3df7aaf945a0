/- Texts of the proof, several in one file: LawJ. -/
import Derived.Test.YtchkaaeoffmjnaaGreatDoorE14
import Derived.Test.YtchkaaeoffmjnaaGreatDoorE15
namespace Go.Proofs.YtchkaaeoffmjnaaGreatDoor
set_option linter.unusedVariables false
set_option linter.unusedSimpArgs false
open Go.RowKit
set_option maxRecDepth 100000
set_option maxHeartbeats 4000000 in
theorem l_ends {w : World} {F : List Piece} {A : Piece} {pa la da : Option Addr} {pc lc dc : Nat} {t m : Int} {X : List ProgX} {pl dr : List Int} (hX : 0 < X.length → ∃ b off, pa = some ⟨b, off, none⟩ ∧ ScrA A b off X) (hL : Reader A 1 la pl.length (ints pl)) (hD : Reader A 1 da dr.length (ints dr)) (hG : SpansA A) (H : SL w (A :: F)) : Calls Tryz.prog 5 #[.agg #[.int .i64 t, .int .i64 m, .slice pa X.length pc, .slice la pl.length lc, .slice da dr.length dc]] w fun o w' => o = .returned (.bool true) ∧ SL w' (A :: F) := by
 by_cases hck : checkE ⟨t, m, progsM X, pl, dr⟩ = 0
 ·have hr := checkE_right hck
  have hn1 : 1 ≤ X.length := by have := hr.n1; simpa [progsM] using this
  have hpl : pl.length ≤ 200 := hr.pl
  have hri : ∀ e ∈ (runL ⟨t, m, progsM X, pl, dr⟩ (pl.length + 1)).tr, entF e = 0 := run_right hck
  have hrl := run_len hck
  have hvo : verL ⟨t, m, progsM X, pl, dr⟩ (runL ⟨t, m, progsM X, pl, dr⟩ (pl.length + 1)) ≠ 0 := run_over ⟨t, m, progsM X, pl, dr⟩
  have hvr := ver_range ⟨t, m, progsM X, pl, dr⟩ (runL ⟨t, m, progsM X, pl, dr⟩ (pl.length + 1))
  refine calls_den (args := [_]) Tryz.func5 rfl (Nat.le_of_ble_eq_true (by kernel_rfl)) (by kernel_rfl) ?_
  refine ⟨?_⟩
  refine Nw.as #[.int .i64 t, .int .i64 m, .slice pa X.length pc, .slice la pl.length lc, .slice da dr.length dc] 42 rfl H fun b1 w H => ?_
  refine ⟨?_⟩
  refine H.ldi 0 rfl (v := .int .i64 t) rfl ?_
  refine H.ldi 0 rfl (v := .int .i64 m) rfl ?_
  refine H.ldi 0 rfl (v := .slice pa X.length pc) rfl ?_
  refine H.ldi 0 rfl (v := .slice la pl.length lc) rfl ?_
  refine H.ldi 0 rfl (v := .slice da dr.length dc) rfl ?_
  have h1 := H.pick [1, 0] 2 (by decide)
  simp only [pk, nth, pkA, pkB, pkC, pkD, pkE, pkF] at h1
  refine Cl.by (by kernel_rfl) (l_large hX hL hD h1) ?_
  rintro _ w ⟨bl, rfl, H⟩
  refine ⟨_, rfl, ?_⟩
  replace H := H.pick [1, 0] 2 (by decide)
  simp only [pk, nth, pkA, pkB, pkC, pkD, pkE, pkF] at H
  refine BB.k ?_
  cases bl
  ·skip
   refine Cn.no ?_
   refine ⟨?_⟩
   refine H.ldi 0 rfl (v := .int .i64 t) rfl ?_
   refine H.ldi 0 rfl (v := .int .i64 m) rfl ?_
   refine H.ldi 0 rfl (v := .slice pa X.length pc) rfl ?_
   refine H.ldi 0 rfl (v := .slice la pl.length lc) rfl ?_
   refine H.ldi 0 rfl (v := .slice da dr.length dc) rfl ?_
   have h1 := H.pick [1, 0] 2 (by decide)
   simp only [pk, nth, pkA, pkB, pkC, pkD, pkE, pkF] at h1
   refine Cl.by (by kernel_rfl) (p_run hX hL hD hck h1) ?_
   rintro _ w ⟨ka, kc, rfl, H⟩
   refine ⟨_, rfl, ?_⟩
   replace H := H.pick [0, 2, 1] 3 (by decide)
   simp only [pk, nth, pkA, pkB, pkC, pkD, pkE, pkF] at H
   refine ⟨?_⟩
   refine H.ldi 1 rfl (v := .int .i64 t) rfl ?_
   refine H.ldi 1 rfl (v := .int .i64 m) rfl ?_
   refine H.ldi 1 rfl (v := .slice pa X.length pc) rfl ?_
   refine H.ldi 1 rfl (v := .slice la pl.length lc) rfl ?_
   refine H.ldi 1 rfl (v := .slice da dr.length dc) rfl ?_
   have h1 := H.pick [2, 0, 1] 3 (by decide)
   simp only [pk, nth, pkA, pkB, pkC, pkD, pkE, pkF] at h1
   refine Cl.sl (by kernel_rfl) (p_check hX hL hD h1) fun w H => ?_
   replace H := H.pick [1, 2, 0] 3 (by decide)
   simp only [pk, nth, pkA, pkB, pkC, pkD, pkE, pkF] at H
   rw [hck]
   refine BB.no rfl ?_
   refine Cn.no ?_
   refine ⟨?_⟩
   refine BB.no (decide_eq_false (by omega)) ?_
   refine BB.no (decide_eq_false (by omega)) ?_
   refine Cn.no ?_
   refine ⟨?_⟩
   refine H.ldi 1 rfl (v := .int .i64 t) rfl ?_
   refine H.ldi 1 rfl (v := .int .i64 m) rfl ?_
   refine H.ldi 1 rfl (v := .slice pa X.length pc) rfl ?_
   refine H.ldi 1 rfl (v := .slice la pl.length lc) rfl ?_
   refine H.ldi 1 rfl (v := .slice da dr.length dc) rfl ?_
   have h1 := H.pick [2, 0, 1] 3 (by decide)
   simp only [pk, nth, pkA, pkB, pkC, pkD, pkE, pkF] at h1
   refine Cl.by (by kernel_rfl) (p_new_ok hX hL hD hck h1) ?_
   rintro _ w ⟨lm, Z, vb, vc, la', lc', da', dc', hZ, hzl, hgood, rfl, H⟩
   refine ⟨_, rfl, ?_⟩
   replace H := H.pick [0, 1, 3, 4, 2] 5 (by decide)
   simp only [pk, nth, pkA, pkB, pkC, pkD, pkE, pkF] at H
   have hXZ := scrP_A (vc := vc) hgood (rfl : some (⟨vb, 0, none⟩ : Addr) = _)
   refine ⟨?_⟩
   refine BB.no rfl ?_
   refine BB.no rfl ?_
   refine Cn.no ?_
   refine ⟨?_⟩
   refine ⟨?_⟩
   refine den.loop (ι := Nat) [(2, 2), (7, 7), (48, 63)] (by kernel_rfl) (fun i => [(7, .int .i64 ↑i)]) (fun i w => i ≤ pl.length ∧ SL w (row b1 #[.int .i64 t, .int .i64 m, .slice pa X.length pc, .slice la pl.length lc, .slice da dr.length dc] 42 :: LmP lm ⟨t, m, progsM X, pl, dr⟩ ⟨t, m, .slice (some ⟨vb, 0, none⟩) Z.length vc, .slice la' pl.length lc', .slice da' dr.length dc'⟩ (runL ⟨t, m, progsM X, pl, dr⟩ i) :: scrP (some ⟨vb, 0, none⟩) vc Z :: Slc 53 8 (.slice ka ((runL ⟨t, m, progsM X, pl, dr⟩ (pl.length + 1)).tr.length) kc) ((runL ⟨t, m, progsM X, pl, dr⟩ (pl.length + 1)).tr.length) ((runL ⟨t, m, progsM X, pl, dr⟩ (pl.length + 1)).tr.flatMap Ev.cells) :: A :: F)) (fun i => pl.length - i) 0 ⟨rfl, trivial⟩ ⟨Nat.zero_le _, (H.pick [3, 0, 1, 2, 4] 5 (by decide))⟩ ?_
   rintro i s w ⟨hc, H⟩
   have hk := Lk.run (s := ⟨t, m, progsM X, pl, dr⟩) hr.ok (np := X.length) (by unfold progsM; rw [List.length_map]) hn1 i
   have hst := fun (h : verL ⟨t, m, progsM X, pl, dr⟩ (runL ⟨t, m, progsM X, pl, dr⟩ i) ≠ 0) => run_stop (n := pl.length + 1) h (by omega)
   have hrp := fun (h : verL ⟨t, m, progsM X, pl, dr⟩ (runL ⟨t, m, progsM X, pl, dr⟩ i) = 0) => run_p h
   have hob : ∃ x, runL ⟨t, m, progsM X, pl, dr⟩ i = x := ⟨_, rfl⟩
   obtain ⟨x, hx⟩ := hob
   rw [hx] at H hk hst hrp
   have hob := eight hk.n8
   obtain ⟨n0, n1, n2, n3, n4, n5, n6, n7, hn⟩ := hob
   by_cases hv : verL ⟨t, m, progsM X, pl, dr⟩ x = 0
   ·skip
    have hob := ver_zero hv
    obtain ⟨_, _, hvp⟩ := hob
    have hil : i < pl.length := by rw [hrp hv] at hvp; exact hvp
    refine ⟨?_⟩
    have h1 := H.pick [1, 0, 2, 3, 4] 5 (by decide)
    simp only [pk, nth, pkA, pkB, pkC, pkD, pkE, pkF] at h1
    refine Cl.sl (by kernel_rfl) (p_verdict hn hk h1) fun w H => ?_
    replace H := H.pick [1, 0, 2, 3, 4] 5 (by decide)
    simp only [pk, nth, pkA, pkB, pkC, pkD, pkE, pkF] at H
    refine BB.yes (beq_iff_eq.2 hv) ?_
    refine H.ldi 0 rfl (v := .slice la pl.length lc) rfl ?_
    refine BB.yes (decide_eq_true (by omega)) ?_
    refine Cn.yes ?_
    refine ⟨?_⟩
    refine ⟨?_⟩
    have h1 := H.pick [1, 2, 0, 3, 4] 5 (by decide)
    simp only [pk, nth, pkA, pkB, pkC, pkD, pkE, pkF] at h1
    refine Cl.by (by kernel_rfl) (p_step (sc := ⟨t, m, progsM X, pl, dr⟩) hn hk (by omega) hZ.symm hr.ok hzl hn1 hXZ hr.p0 hr.d0 h1) ?_
    rintro _ w ⟨kb, kd, rfl, H⟩
    refine ⟨_, rfl, ?_⟩
    replace H := H.tl
    replace H := H.pick [2, 0, 1, 3, 4] 5 (by decide)
    simp only [pk, nth, pkA, pkB, pkC, pkD, pkE, pkF] at H
    refine BB.no (beq_eq_false_iff_ne.2 (by have := lt_step x hv; omega)) ?_
    refine Cn.no ?_
    refine ⟨?_⟩
    refine IW.by (wrap_id (n := ↑i + 1) (by omega) (by omega)) ?_
    have hxy : runL ⟨t, m, progsM X, pl, dr⟩ (i + 1) = stepL ⟨t, m, progsM X, pl, dr⟩ x := by show stepL ⟨t, m, progsM X, pl, dr⟩ (runL ⟨t, m, progsM X, pl, dr⟩ i) = _; rw [hx]
    rw [← hxy] at H
    exact ⟨i + 1, ⟨rfl, trivial⟩, ⟨(by omega : i + 1 ≤ pl.length), H⟩, (show pl.length - (i + 1) < pl.length - i by omega)⟩
   ·skip
    have hfin := hst hv
    refine ⟨?_⟩
    have h1 := H.pick [1, 0, 2, 3, 4] 5 (by decide)
    simp only [pk, nth, pkA, pkB, pkC, pkD, pkE, pkF] at h1
    refine Cl.sl (by kernel_rfl) (p_verdict hn hk h1) fun w H => ?_
    replace H := H.pick [1, 0, 2, 3, 4] 5 (by decide)
    simp only [pk, nth, pkA, pkB, pkC, pkD, pkE, pkF] at H
    refine BB.no (beq_eq_false_iff_ne.2 hv) ?_
    refine Cn.no ?_
    refine ⟨?_⟩
    refine ⟨?_⟩
    refine den.loop (ι := Nat) [(2, 2), (9, 9), (66, 73)] (by kernel_rfl) (fun j => [(66, .int .i64 ↑j)]) (fun j w => j ≤ (runL ⟨t, m, progsM X, pl, dr⟩ (pl.length + 1)).tr.length ∧ SL w (row b1 #[.int .i64 t, .int .i64 m, .slice pa X.length pc, .slice la pl.length lc, .slice da dr.length dc] 42 :: LmP lm ⟨t, m, progsM X, pl, dr⟩ ⟨t, m, .slice (some ⟨vb, 0, none⟩) Z.length vc, .slice la' pl.length lc', .slice da' dr.length dc'⟩ x :: scrP (some ⟨vb, 0, none⟩) vc Z :: Slc 53 8 (.slice ka ((runL ⟨t, m, progsM X, pl, dr⟩ (pl.length + 1)).tr.length) kc) ((runL ⟨t, m, progsM X, pl, dr⟩ (pl.length + 1)).tr.length) ((runL ⟨t, m, progsM X, pl, dr⟩ (pl.length + 1)).tr.flatMap Ev.cells) :: A :: F)) (fun j => (runL ⟨t, m, progsM X, pl, dr⟩ (pl.length + 1)).tr.length - j) 0 ⟨rfl, trivial⟩ ⟨Nat.zero_le _, (H)⟩ ?_
    rintro j s w ⟨hjj, H⟩
    have hob := Nat.lt_or_ge j (runL ⟨t, m, progsM X, pl, dr⟩ (pl.length + 1)).tr.length
    rcases hob with hjl | hjl
    ·skip
     have hob : ∃ x, (runL ⟨t, m, progsM X, pl, dr⟩ (pl.length + 1)).tr[j]? = some x := ⟨_, List.getElem?_eq_getElem hjl⟩
     obtain ⟨⟨xkind, xg, xchan, xcase_, xvalue, xmate, xsend, xok⟩, hxx⟩ := hob
     have hob := SL.slcAddr H.up3 (by omega)
     obtain ⟨kq, rfl⟩ := hob
     refine ⟨?_⟩
     refine BB.yes (decide_eq_true (by omega)) ?_
     refine Cn.yes ?_
     refine ⟨?_⟩
     refine ⟨?_⟩
     refine Ix.at0 j 8 (by kernel_rfl) (rfl) (hjl) ?_
     refine H.ldS 3 rfl (v := .int .i64 xkind) ((ev_cell hxx 0 (by decide)).trans rfl) ?_
     refine H.ldS 3 rfl (v := .int .i64 xg) ((ev_cell hxx 1 (by decide)).trans rfl) ?_
     refine H.ldS 3 rfl (v := .int .i64 xchan) ((ev_cell hxx 2 (by decide)).trans rfl) ?_
     refine H.ldS 3 rfl (v := .int .i64 xcase_) ((ev_cell hxx 3 (by decide)).trans rfl) ?_
     refine H.ldS 3 rfl (v := .int .i64 xvalue) ((ev_cell hxx 4 (by decide)).trans rfl) ?_
     refine H.ldS 3 rfl (v := .int .i64 xmate) ((ev_cell hxx 5 (by decide)).trans rfl) ?_
     refine H.ldS 3 rfl (v := .bool xsend) ((ev_cell hxx 6 (by decide)).trans rfl) ?_
     refine H.ldS 3 rfl (v := .bool xok) ((ev_cell hxx 7 (by decide)).trans rfl) ?_
     refine Nw.as #[.int .i64 0, .int .i64 0, .int .i64 0, .int .i64 0, .int .i64 0, .int .i64 0, .bool false, .bool false] 53 rfl H fun b9 w H => ?_
     refine H.st0 (cs' := #[.int .i64 xkind, .int .i64 0, .int .i64 0, .int .i64 0, .int .i64 0, .int .i64 0, .bool false, .bool false]) rfl rfl rfl fun w H => ?_
     refine H.st0 (cs' := #[.int .i64 xkind, .int .i64 xg, .int .i64 0, .int .i64 0, .int .i64 0, .int .i64 0, .bool false, .bool false]) rfl rfl rfl fun w H => ?_
     refine H.st0 (cs' := #[.int .i64 xkind, .int .i64 xg, .int .i64 xchan, .int .i64 0, .int .i64 0, .int .i64 0, .bool false, .bool false]) rfl rfl rfl fun w H => ?_
     refine H.st0 (cs' := #[.int .i64 xkind, .int .i64 xg, .int .i64 xchan, .int .i64 xcase_, .int .i64 0, .int .i64 0, .bool false, .bool false]) rfl rfl rfl fun w H => ?_
     refine H.st0 (cs' := #[.int .i64 xkind, .int .i64 xg, .int .i64 xchan, .int .i64 xcase_, .int .i64 xvalue, .int .i64 0, .bool false, .bool false]) rfl rfl rfl fun w H => ?_
     refine H.st0 (cs' := #[.int .i64 xkind, .int .i64 xg, .int .i64 xchan, .int .i64 xcase_, .int .i64 xvalue, .int .i64 xmate, .bool false, .bool false]) rfl rfl rfl fun w H => ?_
     refine H.st0 (cs' := #[.int .i64 xkind, .int .i64 xg, .int .i64 xchan, .int .i64 xcase_, .int .i64 xvalue, .int .i64 xmate, .bool xsend, .bool false]) rfl rfl rfl fun w H => ?_
     refine H.st0 (cs' := #[.int .i64 xkind, .int .i64 xg, .int .i64 xchan, .int .i64 xcase_, .int .i64 xvalue, .int .i64 xmate, .bool xsend, .bool xok]) rfl rfl rfl fun w H => ?_
     refine ⟨?_⟩
     refine H.ldi 0 rfl (v := .int .i64 xkind) rfl ?_
     refine H.ldi 0 rfl (v := .int .i64 xg) rfl ?_
     refine H.ldi 0 rfl (v := .int .i64 xchan) rfl ?_
     refine H.ldi 0 rfl (v := .int .i64 xcase_) rfl ?_
     refine H.ldi 0 rfl (v := .int .i64 xvalue) rfl ?_
     refine H.ldi 0 rfl (v := .int .i64 xmate) rfl ?_
     refine H.ldi 0 rfl (v := .bool xsend) rfl ?_
     refine H.ldi 0 rfl (v := .bool xok) rfl ?_
     have hq := e_checkS hG H 5 rfl ⟨xkind, xg, xchan, xcase_, xvalue, xmate, xsend, xok⟩
     rw [hri ⟨xkind, xg, xchan, xcase_, xvalue, xmate, xsend, xok⟩ (List.mem_of_getElem? hxx)] at hq
     refine Cl.sl (by kernel_rfl) hq fun w H => ?_
     refine BB.no rfl ?_
     refine Cn.no ?_
     refine ⟨?_⟩
     refine IW.by (wrap_id (n := ↑j + 1) (by omega) (by omega)) ?_
     exact ⟨j + 1, ⟨rfl, trivial⟩, ⟨(by omega : j + 1 ≤ (runL ⟨t, m, progsM X, pl, dr⟩ (pl.length + 1)).tr.length), H.pick [1, 2, 3, 4, 5] 6 (by decide)⟩, (show (runL ⟨t, m, progsM X, pl, dr⟩ (pl.length + 1)).tr.length - (j + 1) < (runL ⟨t, m, progsM X, pl, dr⟩ (pl.length + 1)).tr.length - j by omega)⟩
    ·skip
     have hob : j = (runL ⟨t, m, progsM X, pl, dr⟩ (pl.length + 1)).tr.length := by omega
     obtain rfl := hob
     refine ⟨?_⟩
     refine BB.no (decide_eq_false (by omega)) ?_
     refine Cn.no ?_
     refine ⟨?_⟩
     have h1 := H.pick [1, 0, 2, 3, 4] 5 (by decide)
     simp only [pk, nth, pkA, pkB, pkC, pkD, pkE, pkF] at h1
     refine Cl.sl (by kernel_rfl) (p_verdict hn hk h1) fun w H => ?_
     replace H := H.pick [1, 0, 2, 3, 4] 5 (by decide)
     simp only [pk, nth, pkA, pkB, pkC, pkD, pkE, pkF] at H
     refine BB.yes (beq_iff_eq.2 (by rw [hfin])) ?_
     refine H.ldi 0 rfl (v := .slice la pl.length lc) rfl ?_
     refine BB.yes (decide_eq_true (by omega)) ?_
     have h1 := H.pick [1, 2, 0, 3, 4] 5 (by decide)
     simp only [pk, nth, pkA, pkB, pkC, pkD, pkE, pkF] at h1
     refine Cl.by (by kernel_rfl) (p_step (sc := ⟨t, m, progsM X, pl, dr⟩) hn hk (by omega) hZ.symm hr.ok hzl hn1 hXZ hr.p0 hr.d0 h1) ?_
     rintro _ w ⟨kb, kd, rfl, H⟩
     refine ⟨_, rfl, ?_⟩
     replace H := H.tl
     replace H := H.pick [2, 0, 1, 3, 4] 5 (by decide)
     simp only [pk, nth, pkA, pkB, pkC, pkD, pkE, pkF] at H
     refine BB.yes (beq_iff_eq.2 (by rw [step_stop hv, Nat.sub_self]; rfl)) ?_
     refine Cl.sl (by kernel_rfl) (l_hands H) fun w H => ?_
     refine BB.yes rfl ?_
     refine ret1 (fn := Tryz.f5) (.bool true) rfl (by rfl) ?_
     exact ⟨rfl, H.pick [4] 5 (by decide)⟩
  ·skip
   refine Cn.yes ?_
   refine ⟨?_⟩
   refine Cl.sl (by kernel_rfl) (l_hands H) fun w H => ?_
   refine BB.yes rfl ?_
   refine ret1 (fn := Tryz.f5) (.bool true) rfl (by rfl) ?_
   exact ⟨rfl, H.pick [1] 2 (by decide)⟩
 ·skip
  refine calls_den (args := [_]) Tryz.func5 rfl (Nat.le_of_ble_eq_true (by kernel_rfl)) (by kernel_rfl) ?_
  refine ⟨?_⟩
  refine Nw.as #[.int .i64 t, .int .i64 m, .slice pa X.length pc, .slice la pl.length lc, .slice da dr.length dc] 42 rfl H fun b1 w H => ?_
  refine ⟨?_⟩
  refine H.ldi 0 rfl (v := .int .i64 t) rfl ?_
  refine H.ldi 0 rfl (v := .int .i64 m) rfl ?_
  refine H.ldi 0 rfl (v := .slice pa X.length pc) rfl ?_
  refine H.ldi 0 rfl (v := .slice la pl.length lc) rfl ?_
  refine H.ldi 0 rfl (v := .slice da dr.length dc) rfl ?_
  have h1 := H.pick [1, 0] 2 (by decide)
  simp only [pk, nth, pkA, pkB, pkC, pkD, pkE, pkF] at h1
  refine Cl.by (by kernel_rfl) (l_large hX hL hD h1) ?_
  rintro _ w ⟨bl, rfl, H⟩
  refine ⟨_, rfl, ?_⟩
  replace H := H.pick [1, 0] 2 (by decide)
  simp only [pk, nth, pkA, pkB, pkC, pkD, pkE, pkF] at H
  refine BB.k ?_
  cases bl
  ·skip
   refine Cn.no ?_
   refine ⟨?_⟩
   refine H.ldi 0 rfl (v := .int .i64 t) rfl ?_
   refine H.ldi 0 rfl (v := .int .i64 m) rfl ?_
   refine H.ldi 0 rfl (v := .slice pa X.length pc) rfl ?_
   refine H.ldi 0 rfl (v := .slice la pl.length lc) rfl ?_
   refine H.ldi 0 rfl (v := .slice da dr.length dc) rfl ?_
   have h1 := H.pick [1, 0] 2 (by decide)
   simp only [pk, nth, pkA, pkB, pkC, pkD, pkE, pkF] at h1
   refine Cl.sl (by kernel_rfl) (p_run_no hX hL hD hck h1) fun w H => ?_
   replace H := H.pick [1, 0] 2 (by decide)
   simp only [pk, nth, pkA, pkB, pkC, pkD, pkE, pkF] at H
   refine ⟨?_⟩
   refine H.ldi 0 rfl (v := .int .i64 t) rfl ?_
   refine H.ldi 0 rfl (v := .int .i64 m) rfl ?_
   refine H.ldi 0 rfl (v := .slice pa X.length pc) rfl ?_
   refine H.ldi 0 rfl (v := .slice la pl.length lc) rfl ?_
   refine H.ldi 0 rfl (v := .slice da dr.length dc) rfl ?_
   have h1 := H.pick [1, 0] 2 (by decide)
   simp only [pk, nth, pkA, pkB, pkC, pkD, pkE, pkF] at h1
   refine Cl.sl (by kernel_rfl) (p_check hX hL hD h1) fun w H => ?_
   replace H := H.pick [1, 0] 2 (by decide)
   simp only [pk, nth, pkA, pkB, pkC, pkD, pkE, pkF] at H
   refine BB.yes (bne_iff_ne.2 hck) ?_
   refine Cn.yes ?_
   refine ⟨?_⟩
   refine BB.yes rfl ?_
   refine BB.yes rfl ?_
   refine Cl.sl (by kernel_rfl) (l_hands H) fun w H => ?_
   refine BB.yes rfl ?_
   refine ret1 (fn := Tryz.f5) (.bool true) rfl (by rfl) ?_
   exact ⟨rfl, H.pick [1] 2 (by decide)⟩
  ·skip
   refine Cn.yes ?_
   refine ⟨?_⟩
   refine Cl.sl (by kernel_rfl) (l_hands H) fun w H => ?_
   refine BB.yes rfl ?_
   refine ret1 (fn := Tryz.f5) (.bool true) rfl (by rfl) ?_
   exact ⟨rfl, H.pick [1] 2 (by decide)⟩
theorem loomEnds_walk {w : World} {v : Value} {s : ScrX} (y : ScrIn w v s) (hs : Spans w) : Calls Tryz.prog 5 #[v] w fun e w' => e = .returned (.bool true) ∧ Frm Nil w w' := by
 have hv := y.val
 subst hv
 refine (l_ends (F := []) (fun h => Old.scr y.progs h) (Old.rd y.plan) (Old.rd y.draws) (fun w' hw => hs.later (SL.old hw)) (SL.start w)).mono ?_
 rintro e w' ⟨rfl, H⟩
 exact ⟨rfl, H.old⟩
end Go.Proofs.YtchkaaeoffmjnaaGreatDoor
