/- Texts of the proof, several in one file: LoomB10, OpenL, LawK, LawA, LawB, Loom13. -/
import Derived.Test.YtcgajljbahbhdaaGreatV13
import Derived.Test.YtcgajljbahbhdaaGreatV03
namespace Go.Proofs.YtcgajljbahbhdaaGreat
set_option linter.unusedVariables false
set_option linter.unusedSimpArgs false
open Go.RowKit
set_option maxRecDepth 100000
theorem right_parts {t m : Int} {X : List ProgX} {pl dr : List Int} (hck : checkE ⟨t, m, progsM X, pl, dr⟩ = 0) : pl.length ≤ 200 ∧ dr.length ≤ 64 ∧ X.length ≤ 8 ∧ (∀ p ∈ X, p.ops.length ≤ 32) ∧ (∀ p ∈ X, ∀ o ∈ p.ops, o.op.cases.length ≤ 4) ∧ pl.any (fun z => decide (z < (-1)) || decide (z > 1000)) = false ∧ dr.any (fun z => decide (z < 0) || decide (z > 1000)) = false := by
 have hr := checkE_right hck
 have h8 : X.length ≤ 8 := by
  unfold checkE at hck
  split at hck
  ·cases hck
  ·split at hck
   ·cases hck
   ·rename_i h
    simp [progsM] at h
    omega
 refine ⟨hr.pl, hr.dl, h8, fun p hp => ?_, fun p hp o ho => ?_, ?_, ?_⟩
 ·have := hr.ol (p.ops.map (·.op)) (List.mem_map.2 ⟨p, hp, rfl⟩)
  simpa using this
 ·exact (hr.ok (p.ops.map (·.op)) (List.mem_map.2 ⟨p, hp, rfl⟩) o.op (List.mem_map.2 ⟨o, ho, rfl⟩)).cl
 ·rw [List.any_eq_false]
  intro z hz
  have h0 := hr.p0 z hz
  have h1 := hr.p1 z hz
  simp
  omega
 ·rw [List.any_eq_false]
  intro z hz
  have h0 := checkE_drawsB hck z hz
  simp
  omega
theorem p_copyZ {w : World} {F : List Piece} {A : Piece} {pa la da : Option Addr} {pc lc dc : Nat} {t m : Int} {X : List ProgX} {pl dr : List Int} (hX : 0 < X.length → ∃ b off, pa = some ⟨b, off, none⟩ ∧ ScrA A b off X) (hL : Reader A 1 la pl.length (ints pl)) (hD : Reader A 1 da dr.length (ints dr)) (h4 : ∀ p ∈ X, ∀ o ∈ p.ops, o.op.cases.length ≤ 4) (h32 : ∀ p ∈ X, p.ops.length ≤ 32) (h8 : X.length ≤ 8) (hpl : pl.length ≤ 200) (hdl : dr.length ≤ 64) (H : SL w (A :: F)) : Calls Tryz.prog 36 #[.agg #[.int .i64 t, .int .i64 m, .slice pa X.length pc, .slice la pl.length lc, .slice da dr.length dc]] w fun o w' => ∃ (Z : List ProgX) (va : Option Addr) (vc : Nat) (la' : Option Addr) (lc' : Nat) (da' : Option Addr) (dc' : Nat), progsM Z = progsM X ∧ Z.length = X.length ∧ (∀ p ∈ Z, GoodP p) ∧ (0 < X.length → ∃ b, va = some ⟨b, 0, none⟩) ∧ o = .returned (.agg #[.int .i64 t, .int .i64 m, .slice va Z.length vc, .slice la' pl.length lc', .slice da' dr.length dc']) ∧ SL w' (scrP va vc Z :: A :: F) := by
 refine (p_copy hX hL hD h4 h32 h8 hpl hdl H).mono ?_
 rintro o w' ⟨Z, va, vc, la', lc', da', dc', hZ, hzl, hg, hva, rfl, H⟩
 exact ⟨Z, va, vc, la', lc', da', dc', hZ, hzl, hg, hva, by rw [hzl], H⟩
theorem nm_set9 (a0 a1 a2 a3 a4 a5 a6 a7 av tv pv : Value) (j : Nat) (hj : j < 8) :
  #[a0, a1, a2, a3, a4, a5, a6, a7, .int .i64 (nm8 j 0), .int .i64 (nm8 j 1), .int .i64 (nm8 j 2), .int .i64 (nm8 j 3), .int .i64 (nm8 j 4), .int .i64 (nm8 j 5), .int .i64 (nm8 j 6), .int .i64 (nm8 j 7), av, tv, pv].setIfInBounds (8 + j * 1) (.int .i64 (-1)) =
   #[a0, a1, a2, a3, a4, a5, a6, a7, .int .i64 (nm8 (j + 1) 0), .int .i64 (nm8 (j + 1) 1), .int .i64 (nm8 (j + 1) 2), .int .i64 (nm8 (j + 1) 3), .int .i64 (nm8 (j + 1) 4), .int .i64 (nm8 (j + 1) 5), .int .i64 (nm8 (j + 1) 6), .int .i64 (nm8 (j + 1) 7), av, tv, pv] := by
 match j, hj with
 | 0, _ | 1, _ | 2, _ | 3, _ | 4, _ | 5, _ | 6, _ | 7, _ => rfl
theorem lm_new {w : World} {F : List Piece} {lb cb crb pn : Nat} {sc : ScrM} {t m : Int} {vp vl vd : Value} (H : SL w (row lb #[.int .i64 t, .int .i64 m, vp, vl, vd, .pointer (some ⟨cb, 0, none⟩), .pointer (some ⟨crb, 0, none⟩), .slice (some ⟨pn, 0, none⟩) 8 8, .int .i64 (nm8 8 0), .int .i64 (nm8 8 1), .int .i64 (nm8 8 2), .int .i64 (nm8 8 3), .int .i64 (nm8 8 4), .int .i64 (nm8 8 5), .int .i64 (nm8 8 6), .int .i64 (nm8 8 7), .slice none 0 0, .slice none 0 0, .bool false] 83 ::
   CurP cb sc.plan sc.draws :: CrewP crb [⟨0, 0, 0⟩] :: row pn #[.pointer none, .pointer none, .pointer none, .pointer none, .pointer none, .pointer none, .pointer none, .pointer none] 133 :: F)) : SL w (LmP lb sc ⟨t, m, vp, vl, vd⟩ newL :: F) :=
 LmP.iff.2 ⟨cb, crb, .slice (some ⟨pn, 0, none⟩) 8 8, .slice none 0 0, .slice none 0 0, [], ⟨rfl, rfl⟩,
  (SL.slcNil 133 1 (SL.all.2 (SL.slcNil 36 8 (SL.rowSlc (te := 133) (sz := 1) (n := 8) (b := pn) (xs := [.pointer none, .pointer none, .pointer none, .pointer none, .pointer none, .pointer none, .pointer none, .pointer none]) rfl (by decide) H.up3)) : SL w (PsP [] [] :: _))).pick [4, 5, 6, 3, 0, 1, 2] 7 (by decide)⟩
set_option maxHeartbeats 4000000 in
theorem p_new_ok {w : World} {F : List Piece} {A : Piece} {pa la da : Option Addr} {pc lc dc : Nat} {t m : Int} {X : List ProgX} {pl dr : List Int} (hX : 0 < X.length → ∃ b off, pa = some ⟨b, off, none⟩ ∧ ScrA A b off X) (hL : Reader A 1 la pl.length (ints pl)) (hD : Reader A 1 da dr.length (ints dr)) (hck : checkE ⟨t, m, progsM X, pl, dr⟩ = 0) (H : SL w (A :: F)) : Calls Tryz.prog 17 #[.agg #[.int .i64 t, .int .i64 m, .slice pa X.length pc, .slice la pl.length lc, .slice da dr.length dc]] w fun o w' => ∃ (lb : Nat) (Z : List ProgX) (vb vc : Nat) (la' : Option Addr) (lc' : Nat) (da' : Option Addr) (dc' : Nat), progsM Z = progsM X ∧ Z.length = X.length ∧ (∀ p ∈ Z, GoodP p) ∧ o = .returned (.tuple #[.pointer (some ⟨lb, 0, none⟩), .int .i64 0]) ∧ SL w' (LmP lb ⟨t, m, progsM X, pl, dr⟩ ⟨t, m, .slice (some ⟨vb, 0, none⟩) Z.length vc, .slice la' pl.length lc', .slice da' dr.length dc'⟩ newL :: scrP (some ⟨vb, 0, none⟩) vc Z :: A :: F) := by
 have hr := checkE_right hck
 have hn1 : 1 ≤ X.length := by have := hr.n1; simpa [progsM] using this
 obtain ⟨hpl, hdl, h8, h32, h4, hbp, hbd⟩ := right_parts hck
 refine calls_den (args := [_]) Tryz.func17 rfl (Nat.le_of_ble_eq_true (by kernel_rfl)) (by kernel_rfl) ?_
 refine ⟨?_⟩
 refine Nw.as #[.int .i64 t, .int .i64 m, .slice pa X.length pc, .slice la pl.length lc, .slice da dr.length dc] 25 rfl H fun b1 w H => ?_
 refine ⟨?_⟩
 refine H.ldi 0 rfl (v := .int .i64 t) rfl ?_
 refine H.ldi 0 rfl (v := .int .i64 m) rfl ?_
 refine H.ldi 0 rfl (v := .slice pa X.length pc) rfl ?_
 refine H.ldi 0 rfl (v := .slice la pl.length lc) rfl ?_
 refine H.ldi 0 rfl (v := .slice da dr.length dc) rfl ?_
 have h1 := H.pick [1, 0] 2 (by decide)
 simp only [pk, nth, pkA, pkB, pkC, pkD, pkE, pkF] at h1
 refine Cl.sl (by kernel_rfl) (p_check hX hL hD h1) fun w H => ?_
 replace H := H.pick [1, 0] 2 (by decide)
 simp only [pk, nth, pkA, pkB, pkC, pkD, pkE, pkF] at H
 rw [hck]
 refine ⟨?_⟩
 refine BB.no rfl ?_
 refine Cn.no ?_
 refine ⟨?_⟩
 refine H.ldi 0 rfl (v := .slice la pl.length lc) rfl ?_
 refine H.ldi 0 rfl (v := .slice da dr.length dc) rfl ?_
 have h1 := H.pick [1, 0] 2 (by decide)
 simp only [pk, nth, pkA, pkB, pkC, pkD, pkE, pkF] at h1
 refine Cl.by (by kernel_rfl) (p_pick hL hD hbp hbd hpl hdl h1) ?_
 rintro _ w ⟨cb, rfl, H⟩
 refine ⟨_, rfl, ?_⟩
 replace H := H.pick [0, 2, 1] 3 (by decide)
 simp only [pk, nth, pkA, pkB, pkC, pkD, pkE, pkF] at H
 refine ⟨?_⟩
 refine Drw.oft (.calm 0 (.calm 2 (.two 1 false (.two 3 false (.act 4 false (.act 5 true (.act 6 true (.pure 7 .nil)))) 4 false (.act 3 false (.act 5 true (.act 6 true (.pure 7 .nil))))) 4 false (.act 1 false (.act 3 false (.act 5 true (.act 6 true (.pure 7 .nil)))))))) (by kernel_rfl) mixed (fun w => SL w _) H.drew ?_
 replace H := H.drew
 refine LdC.i 1 rfl (v := .int .i64 t) rfl ?_
 refine LdC.i 1 rfl (v := .int .i64 m) rfl ?_
 refine LdC.i 1 rfl (v := .slice pa X.length pc) rfl ?_
 refine LdC.i 1 rfl (v := .slice la pl.length lc) rfl ?_
 refine LdC.i 1 rfl (v := .slice da dr.length dc) rfl ?_
 refine ⟨?_, ?_⟩
 ·skip
  have h1 := H.pick [2, 0, 1] 3 (by decide)
  simp only [pk, nth, pkA, pkB, pkC, pkD, pkE, pkF] at h1
  refine Cl.by (by kernel_rfl) (p_copyZ hX hL hD h4 h32 h8 hpl hdl h1) ?_
  rintro _ w ⟨Z, va, vc, la', lc', da', dc', hZ, hzl, hgood, hva, rfl, H⟩
  refine ⟨_, rfl, ?_⟩
  have hob := hva (by omega)
  obtain ⟨vb, rfl⟩ := hob
  replace H := H.pick [0, 2, 3, 1] 4 (by decide)
  simp only [pk, nth, pkA, pkB, pkC, pkD, pkE, pkF] at H
  refine ⟨.inr (H.pick [1, 2, 3] 4 (by decide)), ?_⟩
  refine ⟨?_, ?_⟩
  ·skip
   refine Cl.by (by kernel_rfl) (p_new H) ?_
   rintro _ w ⟨crb, rfl, H⟩
   refine ⟨_, rfl, ?_⟩
   refine ⟨.inr (H.pick [2, 3, 4] 5 (by decide)), ?_⟩
   refine Mn.new (fun b => .slice (some ⟨b, 0, none⟩) 8 8) #[.pointer none, .pointer none, .pointer none, .pointer none, .pointer none, .pointer none, .pointer none, .pointer none] 133 (by kernel_rfl) H fun pn w H => ?_
   refine ⟨.inr (H.pick [3, 4, 5] 6 (by decide)), ?_⟩
   refine Mn.pure (.agg #[.int .i64 t, .int .i64 m, .slice (some ⟨vb, 0, none⟩) Z.length vc, .slice la' pl.length lc', .slice da' dr.length dc', .pointer (some ⟨cb, 0, none⟩), .pointer (some ⟨crb, 0, none⟩), .slice (some ⟨pn, 0, none⟩) 8 8, .int .i64 0, .int .i64 0, .int .i64 0, .int .i64 0, .int .i64 0, .int .i64 0, .int .i64 0, .int .i64 0, .slice none 0 0, .slice none 0 0, .bool false]) (by kernel_rfl) ?_
   refine ⟨.inl rfl, ?_⟩
   refine Nw.as #[.int .i64 t, .int .i64 m, .slice (some ⟨vb, 0, none⟩) Z.length vc, .slice la' pl.length lc', .slice da' dr.length dc', .pointer (some ⟨cb, 0, none⟩), .pointer (some ⟨crb, 0, none⟩), .slice (some ⟨pn, 0, none⟩) 8 8, .int .i64 0, .int .i64 0, .int .i64 0, .int .i64 0, .int .i64 0, .int .i64 0, .int .i64 0, .int .i64 0, .slice none 0 0, .slice none 0 0, .bool false] 83 rfl H fun b28 w H => ?_
   refine ⟨.inl rfl, ?_⟩
   refine ⟨?_⟩
   refine ⟨?_⟩
   refine den.loop (ι := Nat) [(8, 8), (29, 37)] (by kernel_rfl) (fun j => [(29, .int .i64 ↑j)]) (fun j w => j ≤ 8 ∧ SL w (row b28 #[.int .i64 t, .int .i64 m, .slice (some ⟨vb, 0, none⟩) Z.length vc, .slice la' pl.length lc', .slice da' dr.length dc', .pointer (some ⟨cb, 0, none⟩), .pointer (some ⟨crb, 0, none⟩), .slice (some ⟨pn, 0, none⟩) 8 8, .int .i64 (nm8 j 0), .int .i64 (nm8 j 1), .int .i64 (nm8 j 2), .int .i64 (nm8 j 3), .int .i64 (nm8 j 4), .int .i64 (nm8 j 5), .int .i64 (nm8 j 6), .int .i64 (nm8 j 7), .slice none 0 0, .slice none 0 0, .bool false] 83 :: CurP cb pl dr :: CrewP crb [] :: row pn #[.pointer none, .pointer none, .pointer none, .pointer none, .pointer none, .pointer none, .pointer none, .pointer none] 133 :: scrP (some ⟨vb, 0, none⟩) vc Z :: A :: F)) (fun j => 8 - j) 0 ⟨rfl, trivial⟩ ⟨Nat.zero_le _, (H.pick [0, 4, 2, 1, 3, 6] 7 (by decide))⟩ ?_
   rintro j s w ⟨hc, H⟩
   have h8' : j < 8 ∨ j = 8 := by omega
   rcases h8' with hj | rfl
   ·skip
    refine ⟨?_⟩
    refine BB.yes (decide_eq_true (by omega)) ?_
    refine Cn.yes ?_
    refine ⟨?_⟩
    refine ⟨?_⟩
    refine ⟨?_⟩
    refine Ix.at j 1 (by kernel_rfl) rfl hj ?_
    refine H.st0 (cs' := #[.int .i64 t, .int .i64 m, .slice (some ⟨vb, 0, none⟩) Z.length vc, .slice la' pl.length lc', .slice da' dr.length dc', .pointer (some ⟨cb, 0, none⟩), .pointer (some ⟨crb, 0, none⟩), .slice (some ⟨pn, 0, none⟩) 8 8, .int .i64 (nm8 (j + 1) 0), .int .i64 (nm8 (j + 1) 1), .int .i64 (nm8 (j + 1) 2), .int .i64 (nm8 (j + 1) 3), .int .i64 (nm8 (j + 1) 4), .int .i64 (nm8 (j + 1) 5), .int .i64 (nm8 (j + 1) 6), .int .i64 (nm8 (j + 1) 7), .slice none 0 0, .slice none 0 0, .bool false]) (nm_set9 _ _ _ _ _ _ _ _ _ _ _ j hj) (by simp [Nat.blt_eq]; omega) rfl fun w H => ?_
    refine ⟨?_⟩
    refine IW.by (wrap_id (n := ↑j + 1) (by omega) (by omega)) ?_
    exact ⟨j + 1, ⟨rfl, trivial⟩, ⟨(show j + 1 ≤ 8 by omega), H⟩, (show 8 - (j + 1) < 8 - j by omega)⟩
   ·skip
    refine ⟨?_⟩
    refine BB.no rfl ?_
    refine Cn.no ?_
    refine ⟨?_⟩
    refine H.ldi 0 rfl (v := .pointer (some ⟨crb, 0, none⟩)) rfl ?_
    have h1 := H.pick [2, 0, 1, 3, 4, 5] 6 (by decide)
    simp only [pk, nth, pkA, pkB, pkC, pkD, pkE, pkF] at h1
    refine Cl.sl (by kernel_rfl) (p_spawn (L := []) (Nat.zero_le _) 0 h1) fun w H => ?_
    replace H := H.pick [1, 2, 0, 3, 4, 5] 6 (by decide)
    simp only [pk, nth, pkA, pkB, pkC, pkD, pkE, pkF] at H
    refine ⟨?_⟩
    refine ret2 (fn := Tryz.f17) (.pointer (some ⟨b28, 0, none⟩)) (.int .i64 0) rfl (by rfl) (by rfl) ?_
    exact ⟨b28, Z, vb, vc, la', lc', da', dc', hZ, hzl, hgood, rfl, lm_new (sc := ⟨t, m, progsM X, pl, dr⟩) H⟩
  ·skip
   refine Mn.new (fun b => .slice (some ⟨b, 0, none⟩) 8 8) #[.pointer none, .pointer none, .pointer none, .pointer none, .pointer none, .pointer none, .pointer none, .pointer none] 133 (by kernel_rfl) H fun pn w H => ?_
   refine ⟨.inr (H.pick [2, 3, 4] 5 (by decide)), ?_⟩
   refine Cl.by (by kernel_rfl) (p_new H) ?_
   rintro _ w ⟨crb, rfl, H⟩
   refine ⟨_, rfl, ?_⟩
   refine ⟨.inr (H.pick [3, 4, 5] 6 (by decide)), ?_⟩
   refine Mn.pure (.agg #[.int .i64 t, .int .i64 m, .slice (some ⟨vb, 0, none⟩) Z.length vc, .slice la' pl.length lc', .slice da' dr.length dc', .pointer (some ⟨cb, 0, none⟩), .pointer (some ⟨crb, 0, none⟩), .slice (some ⟨pn, 0, none⟩) 8 8, .int .i64 0, .int .i64 0, .int .i64 0, .int .i64 0, .int .i64 0, .int .i64 0, .int .i64 0, .int .i64 0, .slice none 0 0, .slice none 0 0, .bool false]) (by kernel_rfl) ?_
   refine ⟨.inl rfl, ?_⟩
   refine Nw.as #[.int .i64 t, .int .i64 m, .slice (some ⟨vb, 0, none⟩) Z.length vc, .slice la' pl.length lc', .slice da' dr.length dc', .pointer (some ⟨cb, 0, none⟩), .pointer (some ⟨crb, 0, none⟩), .slice (some ⟨pn, 0, none⟩) 8 8, .int .i64 0, .int .i64 0, .int .i64 0, .int .i64 0, .int .i64 0, .int .i64 0, .int .i64 0, .int .i64 0, .slice none 0 0, .slice none 0 0, .bool false] 83 rfl H fun b28 w H => ?_
   refine ⟨.inl rfl, ?_⟩
   refine ⟨?_⟩
   refine ⟨?_⟩
   refine den.loop (ι := Nat) [(8, 8), (29, 37)] (by kernel_rfl) (fun j => [(29, .int .i64 ↑j)]) (fun j w => j ≤ 8 ∧ SL w (row b28 #[.int .i64 t, .int .i64 m, .slice (some ⟨vb, 0, none⟩) Z.length vc, .slice la' pl.length lc', .slice da' dr.length dc', .pointer (some ⟨cb, 0, none⟩), .pointer (some ⟨crb, 0, none⟩), .slice (some ⟨pn, 0, none⟩) 8 8, .int .i64 (nm8 j 0), .int .i64 (nm8 j 1), .int .i64 (nm8 j 2), .int .i64 (nm8 j 3), .int .i64 (nm8 j 4), .int .i64 (nm8 j 5), .int .i64 (nm8 j 6), .int .i64 (nm8 j 7), .slice none 0 0, .slice none 0 0, .bool false] 83 :: CurP cb pl dr :: CrewP crb [] :: row pn #[.pointer none, .pointer none, .pointer none, .pointer none, .pointer none, .pointer none, .pointer none, .pointer none] 133 :: scrP (some ⟨vb, 0, none⟩) vc Z :: A :: F)) (fun j => 8 - j) 0 ⟨rfl, trivial⟩ ⟨Nat.zero_le _, (H.pick [0, 4, 1, 2, 3, 6] 7 (by decide))⟩ ?_
   rintro j s w ⟨hc, H⟩
   have h8' : j < 8 ∨ j = 8 := by omega
   rcases h8' with hj | rfl
   ·skip
    refine ⟨?_⟩
    refine BB.yes (decide_eq_true (by omega)) ?_
    refine Cn.yes ?_
    refine ⟨?_⟩
    refine ⟨?_⟩
    refine ⟨?_⟩
    refine Ix.at j 1 (by kernel_rfl) rfl hj ?_
    refine H.st0 (cs' := #[.int .i64 t, .int .i64 m, .slice (some ⟨vb, 0, none⟩) Z.length vc, .slice la' pl.length lc', .slice da' dr.length dc', .pointer (some ⟨cb, 0, none⟩), .pointer (some ⟨crb, 0, none⟩), .slice (some ⟨pn, 0, none⟩) 8 8, .int .i64 (nm8 (j + 1) 0), .int .i64 (nm8 (j + 1) 1), .int .i64 (nm8 (j + 1) 2), .int .i64 (nm8 (j + 1) 3), .int .i64 (nm8 (j + 1) 4), .int .i64 (nm8 (j + 1) 5), .int .i64 (nm8 (j + 1) 6), .int .i64 (nm8 (j + 1) 7), .slice none 0 0, .slice none 0 0, .bool false]) (nm_set9 _ _ _ _ _ _ _ _ _ _ _ j hj) (by simp [Nat.blt_eq]; omega) rfl fun w H => ?_
    refine ⟨?_⟩
    refine IW.by (wrap_id (n := ↑j + 1) (by omega) (by omega)) ?_
    exact ⟨j + 1, ⟨rfl, trivial⟩, ⟨(show j + 1 ≤ 8 by omega), H⟩, (show 8 - (j + 1) < 8 - j by omega)⟩
   ·skip
    refine ⟨?_⟩
    refine BB.no rfl ?_
    refine Cn.no ?_
    refine ⟨?_⟩
    refine H.ldi 0 rfl (v := .pointer (some ⟨crb, 0, none⟩)) rfl ?_
    have h1 := H.pick [2, 0, 1, 3, 4, 5] 6 (by decide)
    simp only [pk, nth, pkA, pkB, pkC, pkD, pkE, pkF] at h1
    refine Cl.sl (by kernel_rfl) (p_spawn (L := []) (Nat.zero_le _) 0 h1) fun w H => ?_
    replace H := H.pick [1, 2, 0, 3, 4, 5] 6 (by decide)
    simp only [pk, nth, pkA, pkB, pkC, pkD, pkE, pkF] at H
    refine ⟨?_⟩
    refine ret2 (fn := Tryz.f17) (.pointer (some ⟨b28, 0, none⟩)) (.int .i64 0) rfl (by rfl) (by rfl) ?_
    exact ⟨b28, Z, vb, vc, la', lc', da', dc', hZ, hzl, hgood, rfl, lm_new (sc := ⟨t, m, progsM X, pl, dr⟩) H⟩
 ·skip
  refine Mn.new (fun b => .slice (some ⟨b, 0, none⟩) 8 8) #[.pointer none, .pointer none, .pointer none, .pointer none, .pointer none, .pointer none, .pointer none, .pointer none] 133 (by kernel_rfl) H fun pn w H => ?_
  refine ⟨.inr (H.pick [1, 2, 3] 4 (by decide)), ?_⟩
  have h1 := H.pick [3, 0, 1, 2] 4 (by decide)
  simp only [pk, nth, pkA, pkB, pkC, pkD, pkE, pkF] at h1
  refine Cl.by (by kernel_rfl) (p_copyZ hX hL hD h4 h32 h8 hpl hdl h1) ?_
  rintro _ w ⟨Z, va, vc, la', lc', da', dc', hZ, hzl, hgood, hva, rfl, H⟩
  refine ⟨_, rfl, ?_⟩
  have hob := hva (by omega)
  obtain ⟨vb, rfl⟩ := hob
  replace H := H.pick [0, 2, 3, 4, 1] 5 (by decide)
  simp only [pk, nth, pkA, pkB, pkC, pkD, pkE, pkF] at H
  refine ⟨.inr (H.pick [2, 3, 4] 5 (by decide)), ?_⟩
  refine Cl.by (by kernel_rfl) (p_new H) ?_
  rintro _ w ⟨crb, rfl, H⟩
  refine ⟨_, rfl, ?_⟩
  refine ⟨.inr (H.pick [3, 4, 5] 6 (by decide)), ?_⟩
  refine Mn.pure (.agg #[.int .i64 t, .int .i64 m, .slice (some ⟨vb, 0, none⟩) Z.length vc, .slice la' pl.length lc', .slice da' dr.length dc', .pointer (some ⟨cb, 0, none⟩), .pointer (some ⟨crb, 0, none⟩), .slice (some ⟨pn, 0, none⟩) 8 8, .int .i64 0, .int .i64 0, .int .i64 0, .int .i64 0, .int .i64 0, .int .i64 0, .int .i64 0, .int .i64 0, .slice none 0 0, .slice none 0 0, .bool false]) (by kernel_rfl) ?_
  refine ⟨.inl rfl, ?_⟩
  refine Nw.as #[.int .i64 t, .int .i64 m, .slice (some ⟨vb, 0, none⟩) Z.length vc, .slice la' pl.length lc', .slice da' dr.length dc', .pointer (some ⟨cb, 0, none⟩), .pointer (some ⟨crb, 0, none⟩), .slice (some ⟨pn, 0, none⟩) 8 8, .int .i64 0, .int .i64 0, .int .i64 0, .int .i64 0, .int .i64 0, .int .i64 0, .int .i64 0, .int .i64 0, .slice none 0 0, .slice none 0 0, .bool false] 83 rfl H fun b28 w H => ?_
  refine ⟨.inl rfl, ?_⟩
  refine ⟨?_⟩
  refine ⟨?_⟩
  refine den.loop (ι := Nat) [(8, 8), (29, 37)] (by kernel_rfl) (fun j => [(29, .int .i64 ↑j)]) (fun j w => j ≤ 8 ∧ SL w (row b28 #[.int .i64 t, .int .i64 m, .slice (some ⟨vb, 0, none⟩) Z.length vc, .slice la' pl.length lc', .slice da' dr.length dc', .pointer (some ⟨cb, 0, none⟩), .pointer (some ⟨crb, 0, none⟩), .slice (some ⟨pn, 0, none⟩) 8 8, .int .i64 (nm8 j 0), .int .i64 (nm8 j 1), .int .i64 (nm8 j 2), .int .i64 (nm8 j 3), .int .i64 (nm8 j 4), .int .i64 (nm8 j 5), .int .i64 (nm8 j 6), .int .i64 (nm8 j 7), .slice none 0 0, .slice none 0 0, .bool false] 83 :: CurP cb pl dr :: CrewP crb [] :: row pn #[.pointer none, .pointer none, .pointer none, .pointer none, .pointer none, .pointer none, .pointer none, .pointer none] 133 :: scrP (some ⟨vb, 0, none⟩) vc Z :: A :: F)) (fun j => 8 - j) 0 ⟨rfl, trivial⟩ ⟨Nat.zero_le _, (H.pick [0, 4, 1, 3, 2, 6] 7 (by decide))⟩ ?_
  rintro j s w ⟨hc, H⟩
  have h8' : j < 8 ∨ j = 8 := by omega
  rcases h8' with hj | rfl
  ·skip
   refine ⟨?_⟩
   refine BB.yes (decide_eq_true (by omega)) ?_
   refine Cn.yes ?_
   refine ⟨?_⟩
   refine ⟨?_⟩
   refine ⟨?_⟩
   refine Ix.at j 1 (by kernel_rfl) rfl hj ?_
   refine H.st0 (cs' := #[.int .i64 t, .int .i64 m, .slice (some ⟨vb, 0, none⟩) Z.length vc, .slice la' pl.length lc', .slice da' dr.length dc', .pointer (some ⟨cb, 0, none⟩), .pointer (some ⟨crb, 0, none⟩), .slice (some ⟨pn, 0, none⟩) 8 8, .int .i64 (nm8 (j + 1) 0), .int .i64 (nm8 (j + 1) 1), .int .i64 (nm8 (j + 1) 2), .int .i64 (nm8 (j + 1) 3), .int .i64 (nm8 (j + 1) 4), .int .i64 (nm8 (j + 1) 5), .int .i64 (nm8 (j + 1) 6), .int .i64 (nm8 (j + 1) 7), .slice none 0 0, .slice none 0 0, .bool false]) (nm_set9 _ _ _ _ _ _ _ _ _ _ _ j hj) (by simp [Nat.blt_eq]; omega) rfl fun w H => ?_
   refine ⟨?_⟩
   refine IW.by (wrap_id (n := ↑j + 1) (by omega) (by omega)) ?_
   exact ⟨j + 1, ⟨rfl, trivial⟩, ⟨(show j + 1 ≤ 8 by omega), H⟩, (show 8 - (j + 1) < 8 - j by omega)⟩
  ·skip
   refine ⟨?_⟩
   refine BB.no rfl ?_
   refine Cn.no ?_
   refine ⟨?_⟩
   refine H.ldi 0 rfl (v := .pointer (some ⟨crb, 0, none⟩)) rfl ?_
   have h1 := H.pick [2, 0, 1, 3, 4, 5] 6 (by decide)
   simp only [pk, nth, pkA, pkB, pkC, pkD, pkE, pkF] at h1
   refine Cl.sl (by kernel_rfl) (p_spawn (L := []) (Nat.zero_le _) 0 h1) fun w H => ?_
   replace H := H.pick [1, 2, 0, 3, 4, 5] 6 (by decide)
   simp only [pk, nth, pkA, pkB, pkC, pkD, pkE, pkF] at H
   refine ⟨?_⟩
   refine ret2 (fn := Tryz.f17) (.pointer (some ⟨b28, 0, none⟩)) (.int .i64 0) rfl (by rfl) (by rfl) ?_
   exact ⟨b28, Z, vb, vc, la', lc', da', dc', hZ, hzl, hgood, rfl, lm_new (sc := ⟨t, m, progsM X, pl, dr⟩) H⟩
theorem p_new_no {w : World} {F : List Piece} {A : Piece} {pa la da : Option Addr} {pc lc dc : Nat} {t m : Int} {X : List ProgX} {pl dr : List Int} (hX : 0 < X.length → ∃ b off, pa = some ⟨b, off, none⟩ ∧ ScrA A b off X) (hL : Reader A 1 la pl.length (ints pl)) (hD : Reader A 1 da dr.length (ints dr)) (hck : checkE ⟨t, m, progsM X, pl, dr⟩ ≠ 0) (H : SL w (A :: F)) : Calls Tryz.prog 17 #[.agg #[.int .i64 t, .int .i64 m, .slice pa X.length pc, .slice la pl.length lc, .slice da dr.length dc]] w fun o w' => o = .returned (.tuple #[.pointer none, .int .i64 (checkE ⟨t, m, progsM X, pl, dr⟩)]) ∧ SL w' (A :: F) := by
 refine calls_den (args := [_]) Tryz.func17 rfl (Nat.le_of_ble_eq_true (by kernel_rfl)) (by kernel_rfl) ?_
 refine ⟨?_⟩
 refine Nw.as #[.int .i64 t, .int .i64 m, .slice pa X.length pc, .slice la pl.length lc, .slice da dr.length dc] 25 rfl H fun b1 w H => ?_
 refine ⟨?_⟩
 refine H.ldi 0 rfl (v := .int .i64 t) rfl ?_
 refine H.ldi 0 rfl (v := .int .i64 m) rfl ?_
 refine H.ldi 0 rfl (v := .slice pa X.length pc) rfl ?_
 refine H.ldi 0 rfl (v := .slice la pl.length lc) rfl ?_
 refine H.ldi 0 rfl (v := .slice da dr.length dc) rfl ?_
 have h1 := H.pick [1, 0] 2 (by decide)
 simp only [pk, nth, pkA, pkB, pkC, pkD, pkE, pkF] at h1
 refine Cl.sl (by kernel_rfl) (p_check hX hL hD h1) fun w H => ?_
 replace H := H.pick [1, 0] 2 (by decide)
 simp only [pk, nth, pkA, pkB, pkC, pkD, pkE, pkF] at H
 refine ⟨?_⟩
 refine BB.yes (bne_iff_ne.2 hck) ?_
 refine Cn.yes ?_
 refine ⟨?_⟩
 refine ret2 (fn := Tryz.f17) (.pointer none) (.int .i64 (checkE ⟨t, m, progsM X, pl, dr⟩)) rfl (by rfl) (by rfl) ?_
 exact ⟨rfl, H.pick [1] 2 (by decide)⟩
theorem step_p {s : ScrM} {x : LmM} (h : verL s x = 0) : (stepL s x).p = x.p + 1 := by
 unfold stepL
 rw [if_neg (fun hh => hh h)]
 split
 ·rfl
 ·exact does_p s { x with p := x.p + 1 } _ _
theorem run_stop {s : ScrM} {i n : Nat} (h : verL s (runL s i) ≠ 0) (hn : i ≤ n) : runL s n = runL s i := by
 induction n with
 | zero => rw [Nat.le_zero.1 hn]
 | succ n ih =>
  by_cases e : i = n + 1
  ·rw [e]
  ·have := ih (by omega)
   show stepL s (runL s n) = _
   rw [this, step_stop h]
set_option maxHeartbeats 4000000 in
theorem p_run {w : World} {F : List Piece} {A : Piece} {pa la da : Option Addr} {pc lc dc : Nat} {t m : Int} {X : List ProgX} {pl dr : List Int} (hX : 0 < X.length → ∃ b off, pa = some ⟨b, off, none⟩ ∧ ScrA A b off X) (hL : Reader A 1 la pl.length (ints pl)) (hD : Reader A 1 da dr.length (ints dr)) (hck : checkE ⟨t, m, progsM X, pl, dr⟩ = 0) (H : SL w (A :: F)) : Calls Tryz.prog 12 #[.agg #[.int .i64 t, .int .i64 m, .slice pa X.length pc, .slice la pl.length lc, .slice da dr.length dc]] w fun o w' => ∃ ka kc, o = .returned (.tuple #[.slice ka (runL ⟨t, m, progsM X, pl, dr⟩ (pl.length + 1)).tr.length kc, .int .i64 (verL ⟨t, m, progsM X, pl, dr⟩ (runL ⟨t, m, progsM X, pl, dr⟩ (pl.length + 1)))]) ∧ SL w' (Slc 36 8 (.slice ka (runL ⟨t, m, progsM X, pl, dr⟩ (pl.length + 1)).tr.length kc) (runL ⟨t, m, progsM X, pl, dr⟩ (pl.length + 1)).tr.length ((runL ⟨t, m, progsM X, pl, dr⟩ (pl.length + 1)).tr.flatMap Ev.cells) :: A :: F) := by
 have hr := checkE_right hck
 have hn1 : 1 ≤ X.length := by have := hr.n1; simpa [progsM] using this
 have hpl : pl.length ≤ 200 := hr.pl
 refine calls_den (args := [_]) Tryz.func12 rfl (Nat.le_of_ble_eq_true (by kernel_rfl)) (by kernel_rfl) ?_
 refine ⟨?_⟩
 refine Nw.as #[.int .i64 t, .int .i64 m, .slice pa X.length pc, .slice la pl.length lc, .slice da dr.length dc] 25 rfl H fun b1 w H => ?_
 refine ⟨?_⟩
 refine H.ldi 0 rfl (v := .int .i64 t) rfl ?_
 refine H.ldi 0 rfl (v := .int .i64 m) rfl ?_
 refine H.ldi 0 rfl (v := .slice pa X.length pc) rfl ?_
 refine H.ldi 0 rfl (v := .slice la pl.length lc) rfl ?_
 refine H.ldi 0 rfl (v := .slice da dr.length dc) rfl ?_
 have h1 := H.pick [1, 0] 2 (by decide)
 simp only [pk, nth, pkA, pkB, pkC, pkD, pkE, pkF] at h1
 refine Cl.by (by kernel_rfl) (p_new_ok hX hL hD hck h1) ?_
 rintro _ w ⟨lb, Z, vb, vc, la', lc', da', dc', hZ, hzl, hgood, rfl, H⟩
 refine ⟨_, rfl, ?_⟩
 have hXZ := scrP_A (vc := vc) hgood (rfl : some (⟨vb, 0, none⟩ : Addr) = _)
 replace H := H.pick [0, 1, 3, 2] 4 (by decide)
 simp only [pk, nth, pkA, pkB, pkC, pkD, pkE, pkF] at H
 refine ⟨?_⟩
 refine BB.no rfl ?_
 refine Cn.no ?_
 refine ⟨?_⟩
 refine den.loop (ι := Nat) [(13, 17)] (by kernel_rfl) (fun i => []) (fun i w => (i ≤ pl.length ∧ (runL ⟨t, m, progsM X, pl, dr⟩ i).p = i) ∧ SL w (LmP lb ⟨t, m, progsM X, pl, dr⟩ ⟨t, m, .slice (some ⟨vb, 0, none⟩) Z.length vc, .slice la' pl.length lc', .slice da' dr.length dc'⟩ (runL ⟨t, m, progsM X, pl, dr⟩ i) :: scrP (some ⟨vb, 0, none⟩) vc Z :: A :: F)) (fun i => pl.length - i) 0 trivial ⟨⟨Nat.zero_le _, rfl⟩, (H.pick [0, 1, 3] 4 (by decide))⟩ ?_
 rintro i s w ⟨hc, H⟩
 have hk := Lk.run (s := ⟨t, m, progsM X, pl, dr⟩) hr.ok (np := X.length) (by unfold progsM; rw [List.length_map]) hn1 i
 have hob := eight hk.n8
 obtain ⟨n0, n1, n2, n3, n4, n5, n6, n7, hn⟩ := hob
 refine ⟨?_⟩
 have h1 := H
 refine Cl.sl (by kernel_rfl) (p_verdict hn hk h1) fun w H => ?_
 refine BB.vr fun q1 e1 => ?_
 cases q1
 ·skip
  have h1 := beq_eq_false_iff_ne.1 e1
  refine Cn.no ?_
  refine ⟨?_⟩
  have h1 := H
  refine Cl.by (by kernel_rfl) (p_trace hn hk (by omega) h1) ?_
  rintro _ w ⟨ka, kc, rfl, H⟩
  refine ⟨_, rfl, ?_⟩
  have h1 := H.pick [1, 0, 2, 3] 4 (by decide)
  simp only [pk, nth, pkA, pkB, pkC, pkD, pkE, pkF] at h1
  refine Cl.sl (by kernel_rfl) (p_verdict hn hk h1) fun w H => ?_
  replace H := H.pick [1, 0, 2, 3] 4 (by decide)
  simp only [pk, nth, pkA, pkB, pkC, pkD, pkE, pkF] at H
  refine ret2 (fn := Tryz.f12) (.slice ka ((runL ⟨t, m, progsM X, pl, dr⟩ i).tr.length) kc) (.int .i64 (verL ⟨t, m, progsM X, pl, dr⟩ (runL ⟨t, m, progsM X, pl, dr⟩ i))) rfl (by rfl) (by rfl) ?_
  have hst : runL ⟨t, m, progsM X, pl, dr⟩ (pl.length + 1) = runL ⟨t, m, progsM X, pl, dr⟩ i := run_stop (by assumption) (by omega)
  rw [hst]
  exact ⟨ka, kc, rfl, H.pick [0, 3] 4 (by decide)⟩
 ·skip
  have h1 := eq_of_beq e1
  refine Cn.yes ?_
  refine ⟨?_⟩
  refine ⟨?_⟩
  have h1 := H
  refine Cl.by (by kernel_rfl) (p_step (sc := ⟨t, m, progsM X, pl, dr⟩) hn hk (by omega) hZ.symm hr.ok hzl hn1 hXZ hr.p0 hr.d0 h1) ?_
  rintro _ w ⟨ka, kc, rfl, H⟩
  refine ⟨_, rfl, ?_⟩
  replace H := H.tl
  have hob := ver_zero (s := ⟨t, m, progsM X, pl, dr⟩) (x := runL ⟨t, m, progsM X, pl, dr⟩ i) (by assumption)
  obtain ⟨_, _, hpp⟩ := hob
  have hil : i < pl.length := by rw [hc.2] at hpp; exact hpp
  exact ⟨i + 1, trivial, ⟨⟨by omega, by show (stepL ⟨t, m, progsM X, pl, dr⟩ (runL ⟨t, m, progsM X, pl, dr⟩ i)).p = i + 1; rw [step_p (by assumption), hc.2]⟩, H⟩, (show pl.length - (i + 1) < pl.length - i by omega)⟩
theorem p_run_no {w : World} {F : List Piece} {A : Piece} {pa la da : Option Addr} {pc lc dc : Nat} {t m : Int} {X : List ProgX} {pl dr : List Int} (hX : 0 < X.length → ∃ b off, pa = some ⟨b, off, none⟩ ∧ ScrA A b off X) (hL : Reader A 1 la pl.length (ints pl)) (hD : Reader A 1 da dr.length (ints dr)) (hck : checkE ⟨t, m, progsM X, pl, dr⟩ ≠ 0) (H : SL w (A :: F)) : Calls Tryz.prog 12 #[.agg #[.int .i64 t, .int .i64 m, .slice pa X.length pc, .slice la pl.length lc, .slice da dr.length dc]] w fun o w' => o = .returned (.tuple #[.slice none 0 0, .int .i64 0]) ∧ SL w' (A :: F) := by
 refine calls_den (args := [_]) Tryz.func12 rfl (Nat.le_of_ble_eq_true (by kernel_rfl)) (by kernel_rfl) ?_
 refine ⟨?_⟩
 refine Nw.as #[.int .i64 t, .int .i64 m, .slice pa X.length pc, .slice la pl.length lc, .slice da dr.length dc] 25 rfl H fun b1 w H => ?_
 refine ⟨?_⟩
 refine H.ldi 0 rfl (v := .int .i64 t) rfl ?_
 refine H.ldi 0 rfl (v := .int .i64 m) rfl ?_
 refine H.ldi 0 rfl (v := .slice pa X.length pc) rfl ?_
 refine H.ldi 0 rfl (v := .slice la pl.length lc) rfl ?_
 refine H.ldi 0 rfl (v := .slice da dr.length dc) rfl ?_
 have h1 := H.pick [1, 0] 2 (by decide)
 simp only [pk, nth, pkA, pkB, pkC, pkD, pkE, pkF] at h1
 refine Cl.sl (by kernel_rfl) (p_new_no hX hL hD hck h1) fun w H => ?_
 replace H := H.pick [1, 0] 2 (by decide)
 simp only [pk, nth, pkA, pkB, pkC, pkD, pkE, pkF] at H
 refine ⟨?_⟩
 refine BB.yes (bne_iff_ne.2 hck) ?_
 refine Cn.yes ?_
 refine ⟨?_⟩
 refine ret2 (fn := Tryz.f12) (.slice none 0 0) (.int .i64 0) rfl (by rfl) (by rfl) ?_
 exact ⟨rfl, H.pick [1] 2 (by decide)⟩
end Go.Proofs.YtcgajljbahbhdaaGreat
namespace Go.Proofs.YtcgajljbahbhdaaGreat
set_option linter.unusedVariables false
set_option linter.unusedSimpArgs false
open Go.ChangeShapes Go.WideShapes Go.ChangeAt Go.RowKit
theorem Opens.ex {α β : Type} {t : TypeId} {K : Kx α} {K' : Kx β} (h : Opens t K) (hf : ∀ w v cs, K w v cs → ∃ v', K' w v' cs) : Opens t K' := by
 refine ⟨?_⟩
 intro H enc w base sp held fuel cs x hx
 obtain ⟨v, hv⟩ := h.out hx
 exact hf _ _ _ hv
def kCase : Kx CaseM := fun _ c cs => cs = c.cells
theorem opens_case : Opens 98 kCase :=
 (opens_struct (fs := [_, _, _]) (sz := 3) Tryz.underlying98 (by kernel_rfl)
  (parts_cons (sz := 1) (m := 2) rfl (by kernel_rfl) (opens_bool Tryz.underlying4) (by decide)
  (parts_cons (sz := 1) (m := 1) rfl (by kernel_rfl) (opens_int Tryz.underlying3) (by decide)
  (parts_one (sz := 1) rfl (by kernel_rfl) (opens_int Tryz.underlying3))))).imp
  (fun v => ⟨v.1, v.2.1, v.2.2⟩) (fun w v cs h => by
   obtain ⟨v1, v2, v3⟩ := v
   obtain ⟨_, _, rfl, rfl, _, _, rfl, ⟨rfl, _⟩, rfl, _⟩ := h
   rfl)
def kOp : Kx OpX := fun w o cs => cs = o.cells ∧ o.op.cases.length ≤ o.cc ∧ Rd w 3 o.ca o.op.cases.length (o.op.cases.flatMap CaseM.cells)
theorem opens_op : Opens 44 kOp :=
 (opens_struct (fs := [_, _, _, _, _]) (sz := 5) Tryz.underlying44 (by kernel_rfl)
  (parts_cons (sz := 1) (m := 4) rfl (by kernel_rfl) (opens_int Tryz.underlying3) (by decide)
  (parts_cons (sz := 1) (m := 3) rfl (by kernel_rfl) (opens_int Tryz.underlying3) (by decide)
  (parts_cons (sz := 1) (m := 2) rfl (by kernel_rfl) (opens_int Tryz.underlying3) (by decide)
  (parts_cons (sz := 1) (m := 1) rfl (by kernel_rfl) (opens_slice (sz := 3) (K := kCase) Tryz.underlying42 (by kernel_rfl) (by decide) opens_case) (by decide)
  (parts_one (sz := 1) rfl (by kernel_rfl) (opens_bool Tryz.underlying4))))))).ex
  (fun w v cs h => by
   obtain ⟨v1, v2, v3, v4, v5⟩ := v
   obtain ⟨_, _, rfl, ⟨rfl, _⟩, _, _, rfl, ⟨rfl, _⟩, _, _, rfl, ⟨rfl, _⟩, _, _, rfl, hs, rfl⟩ := h
   obtain ⟨a, cap, rfl, hc, hr⟩ := rd_of_slice (f := CaseM.cells) (fun _ => rfl) hs
   exact ⟨⟨⟨v1, v2, v3, v4, v5⟩, a, cap⟩, rfl, hc, hr⟩)
def kProg : Kx ProgX := fun w p cs => cs = [.slice p.pa p.ops.length p.pc] ∧ p.ops.length ≤ p.pc ∧ p.ops.length ≤ maxLen ∧ (0 < p.ops.length → ∃ b off, p.pa = some ⟨b, off, none⟩ ∧ ∀ j o, p.ops[j]? = some o → ∀ i v, o.cells[i]? = some v → w.cell? ⟨b, off + j * 5 + i, none⟩ = some v) ∧
 ∀ o ∈ p.ops, o.op.cases.length ≤ o.cc ∧ Rd w 3 o.ca o.op.cases.length (o.op.cases.flatMap CaseM.cells)
theorem opens_prog : Opens 41 kProg :=
 (opens_slice (sz := 5) (K := kOp) Tryz.underlying41 (by kernel_rfl) (by decide) opens_op).ex (fun w xs cs h => by
  obtain ⟨a, cap, rfl, hc, hm, hx⟩ := h
  refine ⟨⟨xs, a, cap⟩, rfl, hc, Nat.le_trans hc hm, fun h0 => ?_, fun o ho => ?_⟩
  ·obtain ⟨b, off, ha, hi⟩ := hx h0
   refine ⟨b, off, ha, fun j o hj i v hv => ?_⟩
   obtain ⟨hjl, rfl⟩ := List.getElem?_eq_some_iff.1 hj
   obtain ⟨c, _, ⟨rfl, _⟩, hcell⟩ := hi j hjl
   exact hcell i v hv
  ·obtain ⟨i, hi, rfl⟩ := List.getElem_of_mem ho
   obtain ⟨b, off, ha, hh⟩ := hx (Nat.lt_of_le_of_lt (Nat.zero_le _) hi)
   obtain ⟨c, _, ⟨rfl, h1, h2⟩, _⟩ := hh i hi
   exact ⟨h1, h2⟩)
/-- The parts of a script that came in. -/
structure ScrX where
 t : Int
 m : Int
 X : List ProgX
 pa : Option Addr
 pc : Nat
 pl : List Int
 la : Option Addr
 lc : Nat
 dr : List Int
 da : Option Addr
 dc : Nat
def ScrX.cells (s : ScrX) : List Value := [.int .i64 s.t, .int .i64 s.m, .slice s.pa s.X.length s.pc, .slice s.la s.pl.length s.lc, .slice s.da s.dr.length s.dc]
def ScrX.M (s : ScrX) : ScrM := ⟨s.t, s.m, progsM s.X, s.pl, s.dr⟩
structure ProgsIn (w : World) (pa : Option Addr) (X : List ProgX) : Prop where
 len : X.length ≤ maxLen
 at_ : 0 < X.length → ∃ b off, pa = some ⟨b, off, none⟩ ∧ ∀ (k : Nat) p, X[k]? = some p → w.cell? ⟨b, off + k * 1, none⟩ = some (.slice p.pa p.ops.length p.pc)
 prog : ∀ p ∈ X, p.ops.length ≤ p.pc ∧ p.ops.length ≤ maxLen ∧ (0 < p.ops.length → ∃ b off, p.pa = some ⟨b, off, none⟩ ∧ ∀ j o, p.ops[j]? = some o → ∀ i v, o.cells[i]? = some v → w.cell? ⟨b, off + j * 5 + i, none⟩ = some v) ∧
  ∀ o ∈ p.ops, o.op.cases.length ≤ o.cc ∧ Rd w 3 o.ca o.op.cases.length (o.op.cases.flatMap CaseM.cells)
def kScr : Kx ScrX := fun w s cs => cs = s.cells ∧ ProgsIn w s.pa s.X ∧ s.X.length ≤ s.pc ∧ Rd w 1 s.la s.pl.length (ints s.pl) ∧ s.pl.length ≤ s.lc ∧ Rd w 1 s.da s.dr.length (ints s.dr) ∧ s.dr.length ≤ s.dc
theorem flat_ints (l : List Int) : l.flatMap (fun n => [Value.int .i64 n]) = ints l := by
 induction l with
 | nil => rfl
 | cons a l ih =>
  rw [List.flatMap_cons, ih]
  rfl
set_option maxRecDepth 100000 in
theorem opens_scr : Opens 25 kScr :=
 (opens_struct (fs := [_, _, _, _, _]) (sz := 5) Tryz.underlying25 (by kernel_rfl)
  (parts_cons (sz := 1) (m := 4) rfl (by kernel_rfl) (opens_int Tryz.underlying3) (by decide)
  (parts_cons (sz := 1) (m := 3) rfl (by kernel_rfl) (opens_int Tryz.underlying3) (by decide)
  (parts_cons (sz := 1) (m := 2) rfl (by kernel_rfl) (opens_slice (sz := 1) (K := kProg) Tryz.underlying22 (by kernel_rfl) (by decide) opens_prog) (by decide)
  (parts_cons (sz := 1) (m := 1) rfl (by kernel_rfl) (opens_slice (sz := 1) (K := kInt) Tryz.underlying23 (by kernel_rfl) (by decide) (opens_int Tryz.underlying3)) (by decide)
  (parts_one (sz := 1) rfl (by kernel_rfl) (opens_slice (sz := 1) (K := kInt) Tryz.underlying23 (by kernel_rfl) (by decide) (opens_int Tryz.underlying3)))))))).ex
  (fun w v cs h => by
   obtain ⟨v1, v2, v3, v4, v5⟩ := v
   obtain ⟨_, _, rfl, ⟨rfl, _⟩, _, _, rfl, ⟨rfl, _⟩, _, _, rfl, hp, _, _, rfl, h4, h5⟩ := h
   obtain ⟨pa, pc, rfl, hpc, hpm, hpx⟩ := hp
   obtain ⟨la, lc, rfl, hlc, hlr⟩ := rd_of_slice (f := fun n => [Value.int .i64 n]) (fun _ => rfl) (h4.imp (fun _ _ h => h.1))
   obtain ⟨da, dc, rfl, hdc, hdr⟩ := rd_of_slice (f := fun n => [Value.int .i64 n]) (fun _ => rfl) (h5.imp (fun _ _ h => h.1))
   rw [flat_ints] at hlr hdr
   refine ⟨⟨v1, v2, v3, pa, pc, v4, la, lc, v5, da, dc⟩, rfl, ⟨Nat.le_trans hpc hpm, fun h0 => ?_, fun p hp => ?_⟩, hpc, hlr, hlc, hdr, hdc⟩
   ·obtain ⟨b, off, ha, hi⟩ := hpx h0
    refine ⟨b, off, ha, fun k p hk => ?_⟩
    obtain ⟨hkl, rfl⟩ := List.getElem?_eq_some_iff.1 hk
    obtain ⟨c, _, ⟨rfl, _⟩, hcell⟩ := hi k hkl
    exact hcell 0 _ rfl
   ·obtain ⟨i, hi, rfl⟩ := List.getElem_of_mem hp
    obtain ⟨b, off, ha, hh⟩ := hpx (Nat.lt_of_le_of_lt (Nat.zero_le _) hi)
    obtain ⟨c, _, ⟨rfl, h1, h2, h3, h4⟩, _⟩ := hh i hi
    exact ⟨h1, h2, h3, h4⟩)
structure ScrIn (w : World) (v : Value) (s : ScrX) : Prop where
 val : v = .agg s.cells.toArray
 progs : ProgsIn w s.pa s.X
 plan : Rd w 1 s.la s.pl.length (ints s.pl)
 planc : s.pl.length ≤ s.lc
 draws : Rd w 1 s.da s.dr.length (ints s.dr)
 drawsc : s.dr.length ≤ s.dc
set_option maxRecDepth 100000 in
theorem open_api_Script {r : Reach} {b0 : Nat} {H : Type} {enc : TypeId × Value → H} {w : World} {base : Nat} {sp : Nat → Bool} {held : Bool} {v : Value} {d : DataW H} {p : List MemPlace}
  (hv : Value.okWide Tryz.prog w r b0 25 v) (h : DataW.Trod enc Tryz.prog w base sp held 25 v d p) : ∃ s, ScrIn w v s := by
 obtain ⟨s, hs, h1, h2, h3, h4, h5, h6⟩ := open_arg opens_scr h
 obtain ⟨cs, rfl, _⟩ := okWide_struct Tryz.underlying25 hv
 simp only [Value.cells] at hs
 refine ⟨s, ?_, h1, h3, h4, h5, h6⟩
 rw [← hs]
section
variable {w0 : World}
theorem Old.cell {S : Nat → Prop} {w : World} (h : (Old w0).on S w) {b o : Nat} {v : Value} (hc : w0.cell? ⟨b, o, none⟩ = some v) : w.cell? ⟨b, o, none⟩ = some v :=
 (World.cell?_of_block (w := w0) (h.2.2.2 b (World.block_lt_of_cell? w0 _ hc)).2).trans hc
theorem Old.rd {sz n : Nat} {a : Option Addr} {xs : List Value} (h : Rd w0 sz a n xs) : Reader (Old w0) sz a n xs := by
 intro S w hS
 refine ⟨h.1, h.2.1, fun hn => ?_⟩
 obtain ⟨b, off, ha, hc⟩ := h.2.2 hn
 exact ⟨b, off, ha, fun i u hu => Old.cell hS (hc i u hu)⟩
theorem Old.scr {pa : Option Addr} {X : List ProgX} (h : ProgsIn w0 pa X) (h0 : 0 < X.length) : ∃ b off, pa = some ⟨b, off, none⟩ ∧ ScrA (Old w0) b off X := by
 obtain ⟨b, off, ha, hc⟩ := h.at_ h0
 refine ⟨b, off, ha, ?_⟩
 refine ⟨fun S w hS k p hk => Old.cell hS (hc k p hk), fun k p hk hl => ?_, fun S w hS k p hk b2 o2 hpa j o hj i v hv => ?_, fun k p hk => (h.prog p (List.mem_of_getElem? hk)).1, fun k p hk j o hj => ?_⟩
 ·obtain ⟨b, off, hb, _⟩ := (h.prog p (List.mem_of_getElem? hk)).2.2.1 hl
  exact ⟨b, off, hb⟩
 ·have hjl := (List.getElem?_eq_some_iff.1 hj).1
  obtain ⟨b', off', hb, hcell⟩ := (h.prog p (List.mem_of_getElem? hk)).2.2.1 (by omega)
  rw [hb] at hpa
  injection hpa with hpa
  injection hpa with e1 e2
  subst e1 e2
  exact Old.cell hS (hcell j o hj i v hv)
 ·obtain ⟨h1, h2⟩ := (h.prog p (List.mem_of_getElem? hk)).2.2.2 o (List.mem_of_getElem? hj)
  exact ⟨Old.rd h2, h1⟩
end
end Go.Proofs.YtcgajljbahbhdaaGreat
namespace Go.Proofs.YtcgajljbahbhdaaGreat
set_option linter.unusedVariables false
set_option linter.unusedSimpArgs false
open Go.RowKit
theorem run_neq_ev (e f : Ev) (w : World) : (binOp .neq 36 e.agg f.agg).run Tryz.prog w = .ok (.bool (!decide (e = f))) w := by
 have h := run_eq_ev e f w
 have h1 : e.agg = .agg e.cells.toArray := rfl
 have h2 : f.agg = .agg f.cells.toArray := rfl
 rw [h1, h2] at h ⊢
 rw [run_eql_struct] at h
 rw [run_neq_struct]
 cases hr : (Op.equalIn 10000 36 (.agg e.cells.toArray) (.agg f.cells.toArray)).run Tryz.prog w with
 | ok b w' =>
  rw [hr] at h
  simp only [Result.andThen_ok, Result.ok.injEq, Value.bool.injEq] at h
  obtain ⟨rfl, rfl⟩ := h
  rfl
 | halt c w' =>
  rw [hr] at h
  cases h
theorem exec_neq_ev {σ : Fr} {op : Oper} (e f : Ev) (x y : Operand) (ty : Nat) (hop : op.op = .binOp .neq 36 x y ty) (hx : ev σ x = e.agg) (hy : ev σ y = f.agg) (w : World) : (execOp (ev σ) op).run Tryz.prog w = .ok (.value (.bool (!decide (e = f)))) w := by
 have hg := run_eqGuard_agg (P := Tryz.prog) w .neq 36 x y e.cells.toArray f.cells.toArray (by kernel_rfl)
 have h1 : e.agg = .agg e.cells.toArray := rfl
 have h2 : f.agg = .agg f.cells.toArray := rfl
 have h3 := run_neq_ev e f w
 rw [h1, h2] at h3
 simp only [execOp, hop, hx, hy, h1, h2, Sem.run_bind, hg, h3, Result.andThen_ok, Sem.run_pure]
theorem MnC.neqEv {σ : Fr} {op : Oper} {S : World → Prop} {K : Value → Prop} (e f : Ev) (x y : Operand) (ty : Nat) (hop : op.op = .binOp .neq 36 x y ty) (hx : ev σ x = e.agg) (hy : ev σ y = f.agg) (b : Bool) (hb : (!decide (e = f)) = b) (k : K (.bool b)) : MnC Tryz.prog S σ op K := by
 subst hb
 exact MnC.pure _ (fun w => exec_neq_ev e f x y ty hop hx hy w) k
theorem ev_cell {L : List Ev} {j : Nat} {e : Ev} (h : L[j]? = some e) (i : Nat) (hi : i < 8) : (L.flatMap Ev.cells)[j * 8 + i]? = e.cells[i]? := by
 obtain ⟨hk, rfl⟩ := List.getElem?_eq_some_iff.1 h
 exact flat_get Ev.cells 8 (fun _ => rfl) L j i hi hk
end Go.Proofs.YtcgajljbahbhdaaGreat
namespace Go.Proofs.YtcgajljbahbhdaaGreat
set_option linter.unusedVariables false
set_option linter.unusedSimpArgs false
open Go.RowKit
set_option maxRecDepth 100000
theorem l_events {w : World} {F : List Piece} {A C : Piece} {xa ya : Option Addr} {xc yc : Nat} {l : List Ev} (hl : l.length ≤ 1000000) (hA : Reader A 8 xa l.length (l.flatMap Ev.cells)) (hB : Reader C 8 ya l.length (l.flatMap Ev.cells)) (H : SL w (A :: C :: F)) : Calls Tryz.prog 14 #[.slice xa l.length xc, .slice ya l.length yc] w fun o w' => o = .returned (.bool true) ∧ SL w' (A :: C :: F) := by
 refine calls_den (args := [_, _]) Tryz.func14 rfl (Nat.le_of_ble_eq_true (by kernel_rfl)) (by kernel_rfl) ?_
 refine ⟨?_⟩
 refine ⟨?_⟩
 refine ⟨?_⟩
 refine den.loop (ι := Nat) [(4, 5), (8, 26)] (by kernel_rfl) (fun j => [(8, .int .i64 ↑j)]) (fun j w => j ≤ l.length ∧ SL w (A :: C :: F)) (fun j => l.length - j) 0 ⟨rfl, trivial⟩ ⟨Nat.zero_le _, H⟩ ?_
 rintro j s w ⟨hc, H⟩
 have hob := Nat.lt_or_ge j l.length
 rcases hob with hj | hj
 ·skip
  have hob : ∃ z, l[j]? = some z := ⟨_, List.getElem?_eq_getElem hj⟩
  obtain ⟨z, hz⟩ := hob
  have hob := H.addrR 0 rfl hA (by omega)
  obtain ⟨xb, xo, rfl⟩ := hob
  have hob := H.addrR 1 rfl hB (by omega)
  obtain ⟨yb, yo, rfl⟩ := hob
  refine ⟨?_⟩
  refine BB.yes (decide_eq_true (by omega)) ?_
  refine Cn.yes ?_
  refine ⟨?_⟩
  refine ⟨?_⟩
  refine ⟨?_⟩
  refine Drw.of [(0, true), (1, true), (2, true), (3, true), (4, true), (5, true), (6, true), (7, true), (8, true), (9, true), (10, true), (11, true), (12, true), (13, true), (14, true)] (by kernel_rfl) mixed (fun w => SL w _) H.drew ?_
  replace H := H.drew
  refine BB.no (decide_eq_false (by omega)) ?_
  refine Ix.at j 8 (by kernel_rfl) (rfl) (hj) ?_
  refine LdC.R 0 rfl hA (by omega) (q := j * 8 + 0) rfl (v := .int .i64 z.kind) ((ev_cell hz 0 (by decide)).trans rfl) ?_
  refine LdC.R 0 rfl hA (by omega) (q := j * 8 + 1) rfl (v := .int .i64 z.g) ((ev_cell hz 1 (by decide)).trans rfl) ?_
  refine LdC.R 0 rfl hA (by omega) (q := j * 8 + 2) rfl (v := .int .i64 z.chan) ((ev_cell hz 2 (by decide)).trans rfl) ?_
  refine LdC.R 0 rfl hA (by omega) (q := j * 8 + 3) rfl (v := .int .i64 z.case_) ((ev_cell hz 3 (by decide)).trans rfl) ?_
  refine LdC.R 0 rfl hA (by omega) (q := j * 8 + 4) rfl (v := .int .i64 z.value) ((ev_cell hz 4 (by decide)).trans rfl) ?_
  refine LdC.R 0 rfl hA (by omega) (q := j * 8 + 5) rfl (v := .int .i64 z.mate) ((ev_cell hz 5 (by decide)).trans rfl) ?_
  refine LdC.R 0 rfl hA (by omega) (q := j * 8 + 6) rfl (v := .bool z.send) ((ev_cell hz 6 (by decide)).trans rfl) ?_
  refine LdC.R 0 rfl hA (by omega) (q := j * 8 + 7) rfl (v := .bool z.ok) ((ev_cell hz 7 (by decide)).trans rfl) ?_
  refine Ix.at j 8 (by kernel_rfl) (rfl) (hj) ?_
  refine LdC.R 1 rfl hB (by omega) (q := j * 8 + 0) rfl (v := .int .i64 z.kind) ((ev_cell hz 0 (by decide)).trans rfl) ?_
  refine LdC.R 1 rfl hB (by omega) (q := j * 8 + 1) rfl (v := .int .i64 z.g) ((ev_cell hz 1 (by decide)).trans rfl) ?_
  refine LdC.R 1 rfl hB (by omega) (q := j * 8 + 2) rfl (v := .int .i64 z.chan) ((ev_cell hz 2 (by decide)).trans rfl) ?_
  refine LdC.R 1 rfl hB (by omega) (q := j * 8 + 3) rfl (v := .int .i64 z.case_) ((ev_cell hz 3 (by decide)).trans rfl) ?_
  refine LdC.R 1 rfl hB (by omega) (q := j * 8 + 4) rfl (v := .int .i64 z.value) ((ev_cell hz 4 (by decide)).trans rfl) ?_
  refine LdC.R 1 rfl hB (by omega) (q := j * 8 + 5) rfl (v := .int .i64 z.mate) ((ev_cell hz 5 (by decide)).trans rfl) ?_
  refine LdC.R 1 rfl hB (by omega) (q := j * 8 + 6) rfl (v := .bool z.send) ((ev_cell hz 6 (by decide)).trans rfl) ?_
  refine LdC.R 1 rfl hB (by omega) (q := j * 8 + 7) rfl (v := .bool z.ok) ((ev_cell hz 7 (by decide)).trans rfl) ?_
  refine MnC.neqEv z z _ _ _ (by rfl) (by rfl) (by rfl) false (by simp) ?_
  refine Cn.no ?_
  refine ⟨?_⟩
  refine IW.by (wrap_id (n := ↑j + 1) (by omega) (by omega)) ?_
  exact ⟨j + 1, ⟨rfl, trivial⟩, ⟨(by omega : j + 1 ≤ l.length), H⟩, (show l.length - (j + 1) < l.length - j by omega)⟩
 ·skip
  have hob : j = l.length := by omega
  obtain rfl := hob
  refine ⟨?_⟩
  refine BB.no (decide_eq_false (by omega)) ?_
  refine Cn.no ?_
  refine ⟨?_⟩
  refine BB.yes (beq_self_eq_true _) ?_
  refine ret1 (fn := Tryz.f14) (.bool true) rfl (by rfl) ?_
  exact ⟨rfl, H⟩
set_option maxHeartbeats 2000000 in
theorem l_large {w : World} {F : List Piece} {A : Piece} {pa la da : Option Addr} {pc lc dc : Nat} {t m : Int} {X : List ProgX} {pl dr : List Int} (hX : 0 < X.length → ∃ b off, pa = some ⟨b, off, none⟩ ∧ ScrA A b off X) (hL : Reader A 1 la pl.length (ints pl)) (hD : Reader A 1 da dr.length (ints dr)) (H : SL w (A :: F)) : Calls Tryz.prog 10 #[.agg #[.int .i64 t, .int .i64 m, .slice pa X.length pc, .slice la pl.length lc, .slice da dr.length dc]] w fun o w' => ∃ b : Bool, o = .returned (.bool b) ∧ SL w' (A :: F) := by
 refine calls_den (args := [_]) Tryz.func10 rfl (Nat.le_of_ble_eq_true (by kernel_rfl)) (by kernel_rfl) ?_
 refine ⟨?_⟩
 refine Nw.as #[.int .i64 t, .int .i64 m, .slice pa X.length pc, .slice la pl.length lc, .slice da dr.length dc] 25 rfl H fun b1 w H => ?_
 refine ⟨?_⟩
 refine H.ldi 0 rfl (v := .slice pa X.length pc) rfl ?_
 refine BB.vr fun q1 e1 => ?_
 cases q1
 ·skip
  have h1 := of_decide_eq_false e1
  refine H.ldi 0 rfl (v := .slice la pl.length lc) rfl ?_
  refine BB.vr fun q2 e2 => ?_
  cases q2
  ·skip
   have h2 := of_decide_eq_false e2
   refine H.ldi 0 rfl (v := .slice da dr.length dc) rfl ?_
   refine BB.vr fun q3 e3 => ?_
   cases q3
   ·skip
    have h3 := of_decide_eq_false e3
    refine Cn.no ?_
    refine ⟨?_⟩
    refine ⟨?_⟩
    refine H.ldi 0 rfl (v := .slice pa X.length pc) rfl ?_
    refine ⟨?_⟩
    refine den.loop (ι := Nat × Int) [(2, 3), (5, 5), (7, 7), (27, 48)] (by kernel_rfl) (fun (k, n0) => [(27, .int .i64 ↑k), (3, .int .i64 n0)]) (fun (k, n0) w => k ≤ X.length ∧ SL w (row b1 #[.int .i64 t, .int .i64 m, .slice pa X.length pc, .slice la pl.length lc, .slice da dr.length dc] 25 :: A :: F)) (fun (k, n0) => X.length - k) (0, 0) ⟨rfl, rfl, trivial⟩ ⟨Nat.zero_le _, (H)⟩ ?_
    rintro ⟨k, n0⟩ s w ⟨hc, H⟩
    have hob := Nat.lt_or_ge k X.length
    rcases hob with hk | hk
    ·skip
     have hob : ∃ z, X[k]? = some z := ⟨_, List.getElem?_eq_getElem hk⟩
     obtain ⟨px, hY⟩ := hob
     have hob := hX (by omega)
     obtain ⟨pb, po, rfl, hXA⟩ := hob
     have hM : (progsM X)[k]? = some (px.ops.map (·.op)) := by unfold progsM; rw [List.getElem?_map, hY]; rfl
     have hsome := hXA.some_ k px hY
     have hcase := hXA.case k px hY
     obtain ⟨ops, qa, qc⟩ := px
     dsimp only at hM hsome hcase
     refine ⟨?_⟩
     refine BB.yes (decide_eq_true (by omega)) ?_
     refine Cn.yes ?_
     refine ⟨?_⟩
     refine ⟨?_⟩
     refine Ix.at k 1 (by kernel_rfl) (rfl) (hk) ?_
     refine H.ldPv 1 rfl hXA k hY (v := .slice qa ops.length qc) rfl ?_
     refine ⟨?_⟩
     refine BB.vr fun q4 e4 => ?_
     cases q4
     ·skip
      have h4 := of_decide_eq_false e4
      refine Cn.no ?_
      refine ⟨?_⟩
      refine ⟨?_⟩
      refine den.loop (ι := Nat × Int) [(2, 3), (7, 7), (36, 47)] (by kernel_rfl) (fun (i, n) => [(36, .int .i64 ↑i), (3, .int .i64 n)]) (fun (i, n) w => i ≤ ops.length ∧ SL w (row b1 #[.int .i64 t, .int .i64 m, .slice (some ⟨pb, po, none⟩) X.length pc, .slice la pl.length lc, .slice da dr.length dc] 25 :: A :: F)) (fun (i, n) => ops.length - i) (0, n0) ⟨rfl, rfl, trivial⟩ ⟨Nat.zero_le _, (H)⟩ ?_
      rintro ⟨i, n⟩ s w ⟨hd, H⟩
      have hob := Nat.lt_or_ge i ops.length
      rcases hob with hi | hi
      ·skip
       have hob := hsome (by omega)
       obtain ⟨qb, qo, rfl⟩ := hob
       have hob : ∃ z, ops[i]? = some z := ⟨_, List.getElem?_eq_getElem hi⟩
       obtain ⟨ox, hox⟩ := hob
       have hob : ∃ z, IntKind.i64.wrap (n + (ox.op.cases.length : Int)) = z := ⟨_, rfl⟩
       obtain ⟨nn, hnn⟩ := hob
       refine ⟨?_⟩
       refine BB.yes (decide_eq_true (by omega)) ?_
       refine Cn.yes ?_
       refine ⟨?_⟩
       refine ⟨?_⟩
       refine Ix.at i 5 (by kernel_rfl) (rfl) (hi) ?_
       refine H.ldO 1 rfl hXA k hY rfl i 0 hox (v := .int .i64 ox.op.kind) rfl ?_
       refine H.ldO 1 rfl hXA k hY rfl i 1 hox (v := .int .i64 ox.op.a) rfl ?_
       refine H.ldO 1 rfl hXA k hY rfl i 2 hox (v := .int .i64 ox.op.b) rfl ?_
       refine H.ldO 1 rfl hXA k hY rfl i 3 hox (v := .slice ox.ca ox.op.cases.length ox.cc) rfl ?_
       refine H.ldO 1 rfl hXA k hY rfl i 4 hox (v := .bool ox.op.dflt) rfl ?_
       refine Nw.as #[.int .i64 0, .int .i64 0, .int .i64 0, .slice none 0 0, .bool false] 44 rfl H fun b7 w H => ?_
       refine H.st0 (cs' := #[.int .i64 ox.op.kind, .int .i64 0, .int .i64 0, .slice none 0 0, .bool false]) rfl rfl rfl fun w H => ?_
       refine H.st0 (cs' := #[.int .i64 ox.op.kind, .int .i64 ox.op.a, .int .i64 0, .slice none 0 0, .bool false]) rfl rfl rfl fun w H => ?_
       refine H.st0 (cs' := #[.int .i64 ox.op.kind, .int .i64 ox.op.a, .int .i64 ox.op.b, .slice none 0 0, .bool false]) rfl rfl rfl fun w H => ?_
       refine H.st0 (cs' := #[.int .i64 ox.op.kind, .int .i64 ox.op.a, .int .i64 ox.op.b, .slice ox.ca ox.op.cases.length ox.cc, .bool false]) rfl rfl rfl fun w H => ?_
       refine H.st0 (cs' := #[.int .i64 ox.op.kind, .int .i64 ox.op.a, .int .i64 ox.op.b, .slice ox.ca ox.op.cases.length ox.cc, .bool ox.op.dflt]) rfl rfl rfl fun w H => ?_
       refine ⟨?_⟩
       refine H.ldi 0 rfl (v := .slice ox.ca ox.op.cases.length ox.cc) rfl ?_
       refine IW.by (m := nn) (hnn) ?_
       refine ⟨?_⟩
       refine BB.vr fun q5 e5 => ?_
       cases q5
       ·skip
        have h5 := of_decide_eq_false e5
        refine Cn.no ?_
        refine ⟨?_⟩
        refine IW.by (wrap_id (n := ↑i + 1) (by omega) (by omega)) ?_
        exact ⟨(i + 1, nn), ⟨rfl, rfl, trivial⟩, ⟨(by omega : i + 1 ≤ ops.length), H.pick [1, 2] 3 (by decide)⟩, (show ops.length - (i + 1) < ops.length - i by omega)⟩
       ·skip
        have h5 := of_decide_eq_true e5
        refine Cn.yes ?_
        refine ⟨?_⟩
        refine ret1 (fn := Tryz.f10) (.bool true) rfl (by rfl) ?_
        exact ⟨_, rfl, H.pick [2] 3 (by decide)⟩
      ·skip
       have hob : i = ops.length := by omega
       obtain rfl := hob
       refine ⟨?_⟩
       refine BB.no (decide_eq_false (by omega)) ?_
       refine Cn.no ?_
       refine ⟨?_⟩
       refine IW.by (wrap_id (n := ↑k + 1) (by omega) (by omega)) ?_
       exact ⟨(k + 1, n), ⟨rfl, rfl, trivial⟩, ⟨(by omega : k + 1 ≤ X.length), H⟩, (show X.length - (k + 1) < X.length - k by omega)⟩
     ·skip
      have h4 := of_decide_eq_true e4
      refine Cn.yes ?_
      refine ⟨?_⟩
      refine ret1 (fn := Tryz.f10) (.bool true) rfl (by rfl) ?_
      exact ⟨_, rfl, H.pick [1] 2 (by decide)⟩
    ·skip
     have hob : k = X.length := by omega
     obtain rfl := hob
     refine ⟨?_⟩
     refine BB.no (decide_eq_false (by omega)) ?_
     refine Cn.no ?_
     refine ⟨?_⟩
     refine ret1 (fn := Tryz.f10) (.bool false) rfl (by rfl) ?_
     exact ⟨_, rfl, H.pick [1] 2 (by decide)⟩
   ·skip
    have h3 := of_decide_eq_true e3
    refine Cn.yes ?_
    refine ⟨?_⟩
    refine ret1 (fn := Tryz.f10) (.bool true) rfl (by rfl) ?_
    exact ⟨_, rfl, H.pick [1] 2 (by decide)⟩
  ·skip
   have h2 := of_decide_eq_true e2
   refine Cn.yes ?_
   refine ⟨?_⟩
   refine ret1 (fn := Tryz.f10) (.bool true) rfl (by rfl) ?_
   exact ⟨_, rfl, H.pick [1] 2 (by decide)⟩
 ·skip
  have h1 := of_decide_eq_true e1
  refine Cn.yes ?_
  refine ⟨?_⟩
  refine ret1 (fn := Tryz.f10) (.bool true) rfl (by rfl) ?_
  exact ⟨_, rfl, H.pick [1] 2 (by decide)⟩
end Go.Proofs.YtcgajljbahbhdaaGreat
namespace Go.Proofs.YtcgajljbahbhdaaGreat
set_option linter.unusedVariables false
set_option linter.unusedSimpArgs false
open Go.RowKit
set_option maxRecDepth 100000
def hop (k a b : Int) : OpX := ⟨⟨k, a, b, [], false⟩, none, 0⟩
def handX (b7 b9 : Nat) : List ProgX := [⟨[hop 2 0 0, hop 1 1 0, hop 4 0 0], some ⟨b7, 0, none⟩, 3⟩, ⟨[hop 3 0 5], some ⟨b9, 0, none⟩, 1⟩]
def handS : ScrM := ⟨9, 9, [[⟨2, 0, 0, [], false⟩, ⟨1, 1, 0, [], false⟩, ⟨4, 0, 0, [], false⟩], [⟨3, 0, 5, [], false⟩]], [0, 0, 0, 0], []⟩
def handE : List Ev := [⟨2, 0, 0, -1, 0, -1, false, false⟩, ⟨1, 0, -1, -1, 1, 1, false, false⟩, ⟨6, 0, 0, -1, 0, -1, false, false⟩, ⟨3, 1, 0, -1, 5, 0, true, false⟩, ⟨7, 0, 0, -1, 5, 1, false, true⟩]
theorem hands_ver : verL handS (runL handS 5) = 4 := by kernel_rfl
theorem hands_tr : (runL handS 5).tr = handE := by kernel_rfl
section
variable {b7 b9 b10 b11 : Nat}
theorem row_on {S : Nat → Prop} {w : World} {b t : Nat} {cs : Array Value} (h : (row b cs t).on S w) {o : Nat} {v : Value} (hv : cs[o]? = some v) : w.cell? ⟨b, o, none⟩ = some v := row_cell h.2 o hv
theorem rd_none {w : World} {sz : Nat} : Rd w sz none 0 [] := ⟨by simp, Nat.zero_le _, fun h => absurd h (Nat.lt_irrefl 0)⟩
theorem hands_draws : Reader (all [row b10 #[.slice (some ⟨b7, 0, none⟩) 3 3, .slice (some ⟨b9, 0, none⟩) 1 1] 41, row b7 #[.int .i64 2, .int .i64 0, .int .i64 0, .slice none 0 0, .bool false, .int .i64 1, .int .i64 1, .int .i64 0, .slice none 0 0, .bool false, .int .i64 4, .int .i64 0, .int .i64 0, .slice none 0 0, .bool false] 44, row b9 #[.int .i64 3, .int .i64 0, .int .i64 5, .slice none 0 0, .bool false] 44, row b11 #[.int .i64 0, .int .i64 0, .int .i64 0, .int .i64 0] 3]) 1 none ([] : List Int).length (ints []) := fun _ _ _ => rd_none
theorem hands_plan : Reader (all [row b10 #[.slice (some ⟨b7, 0, none⟩) 3 3, .slice (some ⟨b9, 0, none⟩) 1 1] 41, row b7 #[.int .i64 2, .int .i64 0, .int .i64 0, .slice none 0 0, .bool false, .int .i64 1, .int .i64 1, .int .i64 0, .slice none 0 0, .bool false, .int .i64 4, .int .i64 0, .int .i64 0, .slice none 0 0, .bool false] 44, row b9 #[.int .i64 3, .int .i64 0, .int .i64 5, .slice none 0 0, .bool false] 44, row b11 #[.int .i64 0, .int .i64 0, .int .i64 0, .int .i64 0] 3]) 1 (some ⟨b11, 0, none⟩) ([0, 0, 0, 0] : List Int).length (ints [0, 0, 0, 0]) := by
 intro S w h
 obtain ⟨T, _, hT⟩ := SLs.at 3 h rfl
 refine ⟨rfl, by decide, fun _ => ⟨b11, 0, rfl, fun i u hu => row_on hT (by rw [Nat.zero_add]; simpa [ints] using hu)⟩⟩
theorem hands_scr : ScrA (all [row b10 #[.slice (some ⟨b7, 0, none⟩) 3 3, .slice (some ⟨b9, 0, none⟩) 1 1] 41, row b7 #[.int .i64 2, .int .i64 0, .int .i64 0, .slice none 0 0, .bool false, .int .i64 1, .int .i64 1, .int .i64 0, .slice none 0 0, .bool false, .int .i64 4, .int .i64 0, .int .i64 0, .slice none 0 0, .bool false] 44, row b9 #[.int .i64 3, .int .i64 0, .int .i64 5, .slice none 0 0, .bool false] 44, row b11 #[.int .i64 0, .int .i64 0, .int .i64 0, .int .i64 0] 3]) b10 0 (handX b7 b9) where
 prog := by
  intro S w h k p hk
  obtain ⟨T, _, hT⟩ := SLs.at 0 h rfl
  match k, hk with
  | 0, hk => injection hk with hk; subst hk; exact row_on hT rfl
  | 1, hk => injection hk with hk; subst hk; exact row_on hT rfl
 some_ := by
  intro k p hk _
  match k, hk with
  | 0, hk => injection hk with hk; subst hk; exact ⟨_, _, rfl⟩
  | 1, hk => injection hk with hk; subst hk; exact ⟨_, _, rfl⟩
 op := by
  intro S w h k p hk b2 o2 hpa j o hj i v hv
  match k, hk with
  | 0, hk =>
   obtain ⟨T, _, hT⟩ := SLs.at 1 h rfl
   injection hk with hk; subst hk
   injection hpa with hpa
   injection hpa with e1 e2
   subst e1 e2
   match j, hj with
   | 0, hj => injection hj with hj; subst hj; match i, hv with | 0, hv | 1, hv | 2, hv | 3, hv | 4, hv => exact row_on hT hv
   | 1, hj => injection hj with hj; subst hj; match i, hv with | 0, hv | 1, hv | 2, hv | 3, hv | 4, hv => exact row_on hT hv
   | 2, hj => injection hj with hj; subst hj; match i, hv with | 0, hv | 1, hv | 2, hv | 3, hv | 4, hv => exact row_on hT hv
  | 1, hk =>
   obtain ⟨T, _, hT⟩ := SLs.at 2 h rfl
   injection hk with hk; subst hk
   injection hpa with hpa
   injection hpa with e1 e2
   subst e1 e2
   match j, hj with
   | 0, hj => injection hj with hj; subst hj; match i, hv with | 0, hv | 1, hv | 2, hv | 3, hv | 4, hv => exact row_on hT hv
 cap := by
  intro k p hk
  match k, hk with
  | 0, hk => injection hk with hk; subst hk; exact Nat.le_refl 3
  | 1, hk => injection hk with hk; subst hk; exact Nat.le_refl 1
 case := by
  intro k p hk j o hj
  match k, hk with
  | 0, hk =>
   injection hk with hk; subst hk
   match j, hj with
   | 0, hj => injection hj with hj; subst hj; exact ⟨fun _ _ _ => rd_none, Nat.le_refl 0⟩
   | 1, hj => injection hj with hj; subst hj; exact ⟨fun _ _ _ => rd_none, Nat.le_refl 0⟩
   | 2, hj => injection hj with hj; subst hj; exact ⟨fun _ _ _ => rd_none, Nat.le_refl 0⟩
  | 1, hk =>
   injection hk with hk; subst hk
   match j, hj with
   | 0, hj => injection hj with hj; subst hj; exact ⟨fun _ _ _ => rd_none, Nat.le_refl 0⟩
end
theorem l_handrun {b7 b9 b10 b11 : Nat} {w : World} {F : List Piece} (H : SL w (row b10 #[.slice (some ⟨b7, 0, none⟩) 3 3, .slice (some ⟨b9, 0, none⟩) 1 1] 41 :: row b7 #[.int .i64 2, .int .i64 0, .int .i64 0, .slice none 0 0, .bool false, .int .i64 1, .int .i64 1, .int .i64 0, .slice none 0 0, .bool false, .int .i64 4, .int .i64 0, .int .i64 0, .slice none 0 0, .bool false] 44 :: row b9 #[.int .i64 3, .int .i64 0, .int .i64 5, .slice none 0 0, .bool false] 44 :: row b11 #[.int .i64 0, .int .i64 0, .int .i64 0, .int .i64 0] 3 :: F)) : Calls Tryz.prog 12 #[.agg #[.int .i64 9, .int .i64 9, .slice (some ⟨b10, 0, none⟩) 2 2, .slice (some ⟨b11, 0, none⟩) 4 4, .slice none 0 0]] w fun o w' => ∃ tb kc, o = .returned (.tuple #[.slice (some ⟨tb, 0, none⟩) 5 kc, .int .i64 4]) ∧ SL w' (Slc 36 8 (.slice (some ⟨tb, 0, none⟩) 5 kc) 5 (handE.flatMap Ev.cells) :: F) := by
 have h2 : SL w ((all [row b10 #[.slice (some ⟨b7, 0, none⟩) 3 3, .slice (some ⟨b9, 0, none⟩) 1 1] 41, row b7 #[.int .i64 2, .int .i64 0, .int .i64 0, .slice none 0 0, .bool false, .int .i64 1, .int .i64 1, .int .i64 0, .slice none 0 0, .bool false, .int .i64 4, .int .i64 0, .int .i64 0, .slice none 0 0, .bool false] 44, row b9 #[.int .i64 3, .int .i64 0, .int .i64 5, .slice none 0 0, .bool false] 44, row b11 #[.int .i64 0, .int .i64 0, .int .i64 0, .int .i64 0] 3]) :: F) := SL.all.2 H
 have hrun := p_run (t := 9) (m := 9) (X := handX b7 b9) (pl := [0, 0, 0, 0]) (dr := []) (pc := 2) (lc := 4) (dc := 0) (fun _ => ⟨b10, 0, rfl, hands_scr⟩) hands_plan hands_draws (show checkE handS = 0 by decide) h2
 refine Calls.mono hrun ?_
 rintro o w' ⟨ka, kc, rfl, H'⟩
 have ev : verL ⟨9, 9, progsM (handX b7 b9), [0, 0, 0, 0], []⟩ (runL ⟨9, 9, progsM (handX b7 b9), [0, 0, 0, 0], []⟩ (([0, 0, 0, 0] : List Int).length + 1)) = 4 := hands_ver
 have et : (runL ⟨9, 9, progsM (handX b7 b9), [0, 0, 0, 0], []⟩ (([0, 0, 0, 0] : List Int).length + 1)).tr = handE := hands_tr
 rw [et] at H'
 rw [et, ev]
 obtain ⟨tb, rfl⟩ := SL.slcAddr H' (by decide)
 exact ⟨tb, kc, rfl, H'.pick [0] 2 (by decide)⟩
set_option maxHeartbeats 2000000 in
theorem l_hands {w : World} {F : List Piece} (H : SL w F) : Calls Tryz.prog 11 #[] w fun o w' => o = .returned (.bool true) ∧ SL w' F := by
 refine calls_den (args := []) Tryz.func11 rfl (Nat.le_of_ble_eq_true (by kernel_rfl)) (by kernel_rfl) ?_
 refine ⟨?_⟩
 refine ⟨?_⟩
 refine Mn.pure (.agg #[.int .i64 2, .int .i64 0, .int .i64 0, .slice none 0 0, .bool false]) (by kernel_rfl) ?_
 refine Mn.pure (.agg #[.int .i64 1, .int .i64 1, .int .i64 0, .slice none 0 0, .bool false]) (by kernel_rfl) ?_
 refine Mn.pure (.agg #[.int .i64 4, .int .i64 0, .int .i64 0, .slice none 0 0, .bool false]) (by kernel_rfl) ?_
 refine Mn.new (fun b => .slice (some ⟨b, 0, none⟩) 3 3) #[.int .i64 2, .int .i64 0, .int .i64 0, .slice none 0 0, .bool false, .int .i64 1, .int .i64 1, .int .i64 0, .slice none 0 0, .bool false, .int .i64 4, .int .i64 0, .int .i64 0, .slice none 0 0, .bool false] 44 (by kernel_rfl) H fun b7 w H => ?_
 refine Mn.pure (.agg #[.int .i64 3, .int .i64 0, .int .i64 5, .slice none 0 0, .bool false]) (by kernel_rfl) ?_
 refine Mn.new (fun b => .slice (some ⟨b, 0, none⟩) 1 1) #[.int .i64 3, .int .i64 0, .int .i64 5, .slice none 0 0, .bool false] 44 (by kernel_rfl) H fun b9 w H => ?_
 refine Mn.new (fun b => .slice (some ⟨b, 0, none⟩) 2 2) #[.slice (some ⟨b7, 0, none⟩) 3 3, .slice (some ⟨b9, 0, none⟩) 1 1] 41 (by kernel_rfl) H fun b10 w H => ?_
 refine Mn.new (fun b => .slice (some ⟨b, 0, none⟩) 4 4) #[.int .i64 0, .int .i64 0, .int .i64 0, .int .i64 0] 3 (by kernel_rfl) H fun b11 w H => ?_
 refine Mn.pure (.agg #[.int .i64 9, .int .i64 9, .slice (some ⟨b10, 0, none⟩) 2 2, .slice (some ⟨b11, 0, none⟩) 4 4, .slice none 0 0]) (by kernel_rfl) ?_
 have h1 := H.pick [1, 3, 2, 0] 4 (by decide)
 simp only [pk, nth, pkA, pkB, pkC, pkD, pkE, pkF] at h1
 refine Cl.by (by kernel_rfl) (l_handrun h1) ?_
 rintro _ w ⟨tb, kc, rfl, H⟩
 refine ⟨_, rfl, ?_⟩
 refine ⟨?_⟩
 refine BB.yes rfl ?_
 refine BB.yes rfl ?_
 refine Ix.at0 2 8 (by kernel_rfl) rfl (by decide) ?_
 refine H.ldS 0 rfl (v := .int .i64 6) (rfl) ?_
 refine BB.yes rfl ?_
 refine Ix.at0 3 8 (by kernel_rfl) rfl (by decide) ?_
 refine H.ldS 0 rfl (v := .int .i64 3) (rfl) ?_
 refine BB.yes rfl ?_
 refine Ix.at0 3 8 (by kernel_rfl) rfl (by decide) ?_
 refine H.ldS 0 rfl (v := .int .i64 0) (rfl) ?_
 refine BB.yes rfl ?_
 refine Ix.at0 4 8 (by kernel_rfl) rfl (by decide) ?_
 refine H.ldS 0 rfl (v := .int .i64 7) (rfl) ?_
 refine BB.yes rfl ?_
 refine Ix.at0 4 8 (by kernel_rfl) rfl (by decide) ?_
 refine H.ldS 0 rfl (v := .int .i64 5) (rfl) ?_
 refine BB.yes rfl ?_
 refine ret1 (fn := Tryz.f11) (.bool true) rfl (by rfl) ?_
 exact ⟨rfl, H.tl⟩
end Go.Proofs.YtcgajljbahbhdaaGreat
namespace Go.Proofs.YtcgajljbahbhdaaGreat
set_option linter.unusedVariables false
set_option linter.unusedSimpArgs false
open Go.RowKit
set_option maxRecDepth 100000
end Go.Proofs.YtcgajljbahbhdaaGreat
