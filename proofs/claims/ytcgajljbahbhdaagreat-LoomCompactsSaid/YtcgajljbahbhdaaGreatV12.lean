/- Texts of the proof, several in one file: LoomB6, LoomB7, LoomX6, LoomB8, SheetA, SheetB. -/
import Derived.Test.YtcgajljbahbhdaaGreatV10
import Derived.Test.YtcgajljbahbhdaaGreatV11
import Derived.Test.YtcgajljbahbhdaaGreatV07
import Derived.Test.YtcgajljbahbhdaaGreatV06
namespace Go.Proofs.YtcgajljbahbhdaaGreat
set_option linter.unusedVariables false
set_option linter.unusedSimpArgs false
open Go.RowKit
set_option maxRecDepth 100000
theorem p_verdict {w : World} {F : List Piece} {np k lb : Nat} {sc : ScrM} {x : LmM} {t m : Int} {vp vl vd : Value} {n0 n1 n2 n3 n4 n5 n6 n7 : Int} (hn : x.name = [n0, n1, n2, n3, n4, n5, n6, n7]) (hk : Lk np k x)  (H : SL w (LmP lb sc ⟨t, m, vp, vl, vd⟩ x :: F)) : Calls Tryz.prog 21 #[.pointer (some ⟨lb, 0, none⟩)] w fun o w' => o = .returned (.int .i64 (verL sc x)) ∧ SL w' (LmP lb sc ⟨t, m, vp, vl, vd⟩ x :: F) := by
 have hld : (sc.plan.drop x.p).length = sc.plan.length - x.p := List.length_drop
 have hob := lm_open (x := x) hn H
 obtain ⟨cb1, crb1, pn1, pc1, ala1, alc1, ta1, tc1, ps1, hl1, H⟩ := hob
 refine calls_den (args := [_]) Tryz.func21 rfl (Nat.le_of_ble_eq_true (by kernel_rfl)) (by kernel_rfl) ?_
 refine ⟨?_⟩
 refine ⟨?_⟩
 refine ⟨?_⟩
 refine BB.no rfl ?_
 refine Cn.no ?_
 refine ⟨?_⟩
 refine H.ldi 0 rfl (v := .bool x.pan) rfl ?_
 refine BB.vr fun q1 e1 => ?_
 cases q1
 ·skip
  refine Cn.no ?_
  refine ⟨?_⟩
  refine H.ldi 0 rfl (v := .pointer (some ⟨crb1, 0, none⟩)) rfl ?_
  have h1 := H.pick [2, 0, 1, 3, 4, 5, 6] 7 (by decide)
  simp only [pk, nth, pkA, pkB, pkC, pkD, pkE, pkF] at h1
  refine Cl.sl (by kernel_rfl) (p_over (L := x.crew) hk.cl h1) fun w H => ?_
  replace H := H.pick [1, 2, 0, 3, 4, 5, 6] 7 (by decide)
  simp only [pk, nth, pkA, pkB, pkC, pkD, pkE, pkF] at H
  refine ⟨?_⟩
  refine BB.vr fun q2 e2 => ?_
  cases q2
  ·skip
   have h2 := bne_eq_false_iff_eq.1 e2
   refine Cn.no ?_
   refine ⟨?_⟩
   refine H.ldi 0 rfl (v := .pointer (some ⟨cb1, 0, none⟩)) rfl ?_
   have h1 := H.pick [1, 0, 2, 3, 4, 5, 6] 7 (by decide)
   simp only [pk, nth, pkA, pkB, pkC, pkD, pkE, pkF] at h1
   refine Cl.sl (by kernel_rfl) (cur_left h1) fun w H => ?_
   replace H := H.pick [1, 0, 2, 3, 4, 5, 6] 7 (by decide)
   simp only [pk, nth, pkA, pkB, pkC, pkD, pkE, pkF] at H
   refine ⟨?_⟩
   refine BB.vr fun q3 e3 => ?_
   cases q3
   ·skip
    have h3 := beq_eq_false_iff_ne.1 e3
    refine Cn.no ?_
    refine ⟨?_⟩
    refine ret1 (fn := Tryz.f21) (.int .i64 0) rfl (by rfl) ?_
    have H0 := H
    replace H := lm_shut (x := x) hl1 (by first | rfl | simp [turnL, noteL, backN_len]) hn H0
    have hc : verL sc x = 0 := by unfold verL; rw [if_neg (by simp [*]), if_neg (fun h => h (by assumption)), if_neg (by omega)]
    rw [hc]
    exact ⟨rfl, H⟩
   ·skip
    have h3 := eq_of_beq e3
    refine Cn.yes ?_
    refine ⟨?_⟩
    refine ret1 (fn := Tryz.f21) (.int .i64 4) rfl (by rfl) ?_
    have H0 := H
    replace H := lm_shut (x := x) hl1 (by first | rfl | simp [turnL, noteL, backN_len]) hn H0
    have hc : verL sc x = 4 := by unfold verL; rw [if_neg (by simp [*]), if_neg (fun h => h (by assumption)), if_pos (by omega)]
    rw [hc]
    exact ⟨rfl, H⟩
  ·skip
   have h2 := bne_iff_ne.1 e2
   refine Cn.yes ?_
   refine ⟨?_⟩
   refine ret1 (fn := Tryz.f21) (.int .i64 (overF x.crew)) rfl (by rfl) ?_
   have H0 := H
   replace H := lm_shut (x := x) hl1 (by first | rfl | simp [turnL, noteL, backN_len]) hn H0
   have hc : verL sc x = (overF x.crew) := by unfold verL; rw [if_neg (by simp [*]), if_pos (by assumption)]
   rw [hc]
   exact ⟨rfl, H⟩
 ·skip
  refine Cn.yes ?_
  refine ⟨?_⟩
  refine ret1 (fn := Tryz.f21) (.int .i64 3) rfl (by rfl) ?_
  have H0 := H
  replace H := lm_shut (x := x) hl1 (by first | rfl | simp [turnL, noteL, backN_len]) hn H0
  have hc : verL sc x = 3 := by unfold verL; rw [if_pos (by assumption)]
  rw [hc]
  exact ⟨rfl, H⟩
theorem p_of {w : World} {F : List Piece} {a : Option Addr} {ac : Nat} {L : List Int} {z : Int} (hr : Rd w 1 a L.length (ints L)) (hz : 0 ≤ z) (hab : 0 < L.length) (H : SL w F) : Calls Tryz.prog 81 #[.int .i64 z, .slice a L.length ac] w fun o w' => o = .returned (.tuple #[.int .i64 (L.getD (z.toNat % L.length) 0), .int .i64 0]) ∧ SL w' F := by
 obtain ⟨ab, ao, rfl, hcell⟩ := Rd.int_at hr hab
 have hcell' : ∀ j, j < L.length → w.cell? ⟨ab, ao + j * 1, none⟩ = some (.int .i64 (L.getD j 0)) := fun j hj => by rw [Nat.mul_one]; exact hcell j hj
 have hjl : z.toNat % L.length < L.length := Nat.mod_lt _ hab
 have hzm : (z % (L.length : Int)) = ((z.toNat % L.length : Nat) : Int) := by obtain ⟨k, rfl⟩ := Int.eq_ofNat_of_zero_le hz; simp
 refine calls_den (args := [_, _]) Tryz.func81 rfl (Nat.le_of_ble_eq_true (by kernel_rfl)) (by kernel_rfl) ?_
 refine ⟨?_⟩
 refine ⟨?_⟩
 refine ⟨?_⟩
 refine BB.no (decide_eq_false (by omega)) ?_
 refine Cn.no ?_
 refine ⟨?_⟩
 refine BB.no (beq_eq_false_iff_ne.2 (by omega)) ?_
 refine Cn.no ?_
 refine ⟨?_⟩
 refine Mn.rem (.tmp 14) (.tmp 16) 3 3 (by rfl) z ↑L.length (by rfl) (by rfl) ((by omega)) ((by omega)) (z % ↑L.length) (rfl) ?_
 refine Ix.at (z.toNat % L.length) 1 (by kernel_rfl) (hzm) (hjl) ?_
 refine Ld.by (hcell' _ hjl) ?_
 refine ret2 (fn := Tryz.f81) (.int .i64 (L.getD (z.toNat % L.length) 0)) (.int .i64 0) rfl (by rfl) (by rfl) ?_
 exact ⟨rfl, H⟩
theorem p_chosen {w : World} {F : List Piece} {np k lb : Nat} {sc : ScrM} {x : LmM} {t m : Int} {vp vl vd : Value} {n0 n1 n2 n3 n4 n5 n6 n7 : Int} (hn : x.name = [n0, n1, n2, n3, n4, n5, n6, n7]) (hk : Lk np k x)  (z : Int) (hz : -1 ≤ z) (hab : z ≠ -1 → 0 < (ableF x.crew).length) (H : SL w (LmP lb sc ⟨t, m, vp, vl, vd⟩ x :: F)) : Calls Tryz.prog 43 #[.pointer (some ⟨lb, 0, none⟩), .int .i64 z] w fun o w' => o = .returned (.int .i64 (if z = -1 then (-1 : Int) else (ableF x.crew).getD (z.toNat % (ableF x.crew).length) 0)) ∧ SL w' (LmP lb sc ⟨t, m, vp, vl, vd⟩ x :: F) := by
 have hob := lm_open (x := x) hn H
 obtain ⟨cb1, crb1, pn1, pc1, ala1, alc1, ta1, tc1, ps1, hl1, H⟩ := hob
 refine calls_den (args := [_, _]) Tryz.func43 rfl (Nat.le_of_ble_eq_true (by kernel_rfl)) (by kernel_rfl) ?_
 refine ⟨?_⟩
 refine ⟨?_⟩
 refine BB.vr fun q1 e1 => ?_
 cases q1
 ·skip
  have h1 := beq_eq_false_iff_ne.1 e1
  refine Cn.no ?_
  refine ⟨?_⟩
  refine H.ldi 0 rfl (v := .pointer (some ⟨crb1, 0, none⟩)) rfl ?_
  have h1 := H.pick [2, 0, 1, 3, 4, 5, 6] 7 (by decide)
  simp only [pk, nth, pkA, pkB, pkC, pkD, pkE, pkF] at h1
  refine Cl.by (by kernel_rfl) (p_able hk.cl h1) ?_
  rintro _ w ⟨aa, ac, rfl, hr, H⟩
  refine ⟨_, rfl, ?_⟩
  replace H := H.pick [1, 2, 0, 3, 4, 5, 6] 7 (by decide)
  simp only [pk, nth, pkA, pkB, pkC, pkD, pkE, pkF] at H
  refine Cl.sl (by kernel_rfl) (p_of (L := ableF x.crew) hr (by omega) (hab (by assumption)) H) fun w H => ?_
  refine ⟨?_⟩
  refine ret1 (fn := Tryz.f43) (.int .i64 ((ableF x.crew).getD (z.toNat % (ableF x.crew).length) 0)) rfl (by rfl) ?_
  have H0 := H
  replace H := lm_shut (x := x) hl1 (by first | rfl | simp [turnL, noteL, backN_len]) hn H0
  have hc : (if z = -1 then (-1 : Int) else (ableF x.crew).getD (z.toNat % (ableF x.crew).length) 0) = ((ableF x.crew).getD (z.toNat % (ableF x.crew).length) 0) := by rw [if_neg (by assumption)]
  rw [hc]
  exact ⟨rfl, H⟩
 ·skip
  have h1 := eq_of_beq e1
  refine Cn.yes ?_
  refine ⟨?_⟩
  refine ret1 (fn := Tryz.f43) (.int .i64 (-1)) rfl (by rfl) ?_
  have H0 := H
  replace H := lm_shut (x := x) hl1 (by first | rfl | simp [turnL, noteL, backN_len]) hn H0
  have hc : (if z = -1 then (-1 : Int) else (ableF x.crew).getD (z.toNat % (ableF x.crew).length) 0) = -1 := by rw [if_pos (by assumption)]
  rw [hc]
  exact ⟨rfl, H⟩
theorem case_one (c : CaseM) : c.cells.all Value.oneCell' = true := rfl
theorem cases_one (L : List CaseM) : (L.flatMap CaseM.cells).all Value.oneCell' = true := by
 rw [List.all_flatMap, List.all_eq_true]
 exact fun c _ => case_one c
theorem p_atO {w : World} {F : List Piece} {c : Nat} {L : List One} {gk prn pln : Nat} {cst : Int} (hone : L[gk]? = some ⟨prn, pln, cst⟩) (H : SL w (CrewP c L :: F)) : Calls Tryz.prog 83 #[.pointer (some ⟨c, 0, none⟩), .int .i64 (gk : Int)] w fun e w' => e = .returned (.tuple #[.int .i64 (prn : Int), .int .i64 (pln : Int), .bool true]) ∧ SL w' (CrewP c L :: F) := by
 have h := p_at (gk : Int) H
 have e : atF L (gk : Int) = ((prn : Int), (pln : Int), true) := by
  unfold atF
  rw [if_pos (Int.natCast_nonneg _), Int.toNat_natCast, hone]
 rw [e] at h
 exact h
set_option maxHeartbeats 4000000 in
theorem p_op {w : World} {F : List Piece} {A : Piece} {lb : Nat} {sc : ScrM} {x : LmM} {t m : Int} {vl vd : Value} {n0 n1 n2 n3 n4 n5 n6 n7 : Int} {pb po pc0 gk prn pln : Nat} {cst : Int} {Y : List ProgX} (hn : x.name = [n0, n1, n2, n3, n4, n5, n6, n7]) (hps : sc.progs = progsM Y) (hpo : ProgsOk sc.progs) (hX : ScrA A pb po Y) (hone : x.crew[gk]? = some ⟨prn, pln, cst⟩) (hprn : prn < Y.length)
  (H : SL w (LmP lb sc ⟨t, m, .slice (some ⟨pb, po, none⟩) Y.length pc0, vl, vd⟩ x :: A :: F)) : Calls Tryz.prog 44 #[.pointer (some ⟨lb, 0, none⟩), .int .i64 (gk : Int)] w fun o w' => ∃ (ox : OpX) (C : Piece), ox.op = opL sc x gk ∧ Reader C 3 ox.ca ox.op.cases.length (ox.op.cases.flatMap CaseM.cells) ∧ o = .returned (.agg ox.cells.toArray) ∧
   SL w' (LmP lb sc ⟨t, m, .slice (some ⟨pb, po, none⟩) Y.length pc0, vl, vd⟩ x :: A :: C :: F) := by
 have hgk : gk < x.crew.length := (List.getElem?_eq_some_iff.1 hone).1
 obtain ⟨px, hY⟩ : ∃ px, Y[prn]? = some px := ⟨_, List.getElem?_eq_getElem hprn⟩
 have hpr : sc.progs[prn]? = some (px.ops.map (·.op)) := by rw [hps]; unfold progsM; rw [List.getElem?_map, hY]; rfl
 have hsome := hX.some_ prn px hY
 obtain ⟨ops, pa, pc⟩ := px
 dsimp only at hpr hsome
 have hml : ((ops.map (·.op)).length : Int) = (ops.length : Int) := by rw [List.length_map]
 have hob := lm_open (x := x) hn H
 obtain ⟨cb1, crb1, pn1, pc1, ala1, alc1, ta1, tc1, ps1, hl1, H⟩ := hob
 by_cases hpln : pln < ops.length
 ·obtain ⟨qb, qo, rfl⟩ := hsome (by omega)
  obtain ⟨ox, hox⟩ : ∃ ox, ops[pln]? = some ox := ⟨_, List.getElem?_eq_getElem hpln⟩
  have hcl : ox.op.cases.length ≤ 4 := (hpo _ (List.mem_of_getElem? hpr) ox.op (List.mem_map.2 ⟨ox, List.mem_of_getElem? hox, rfl⟩)).cl
  refine calls_den (args := [_, _]) Tryz.func44 rfl (Nat.le_of_ble_eq_true (by kernel_rfl)) (by kernel_rfl) ?_
  refine ⟨?_⟩
  refine Nw.as #[.int .i64 0, .int .i64 0, .int .i64 0, .slice none 0 0, .bool false] 44 rfl H fun b4 w H => ?_
  refine ⟨?_⟩
  refine H.ldi 1 rfl (v := .pointer (some ⟨crb1, 0, none⟩)) rfl ?_
  have h1 := H.pick [3, 0, 1, 2, 4, 5, 6, 7, 8] 9 (by decide)
  simp only [pk, nth, pkA, pkB, pkC, pkD, pkE, pkF] at h1
  refine Cl.sl (by kernel_rfl) (p_atO (L := x.crew) hone h1) fun w H => ?_
  replace H := H.pick [1, 2, 3, 0, 4, 5, 6, 7, 8] 9 (by decide)
  simp only [pk, nth, pkA, pkB, pkC, pkD, pkE, pkF] at H
  refine ⟨?_⟩
  refine H.ldi 1 rfl (v := .slice (some ⟨pb, po, none⟩) Y.length pc0) rfl ?_
  refine Ix.at prn 1 (by kernel_rfl) (rfl) (hprn) ?_
  refine H.ldPv 8 rfl hX prn hY (v := .slice (some ⟨qb, qo, none⟩) ops.length pc) rfl ?_
  refine BB.no (decide_eq_false (by omega)) ?_
  refine Cn.no ?_
  refine ⟨?_⟩
  refine H.ldi 1 rfl (v := .slice (some ⟨pb, po, none⟩) Y.length pc0) rfl ?_
  refine Ix.at prn 1 (by kernel_rfl) (rfl) (hprn) ?_
  refine H.ldPv 8 rfl hX prn hY (v := .slice (some ⟨qb, qo, none⟩) ops.length pc) rfl ?_
  refine Ix.at pln 5 (by kernel_rfl) (rfl) (hpln) ?_
  refine H.ldO 8 rfl hX prn hY rfl pln 0 hox (v := .int .i64 ox.op.kind) rfl ?_
  refine H.ldO 8 rfl hX prn hY rfl pln 1 hox (v := .int .i64 ox.op.a) rfl ?_
  refine H.ldO 8 rfl hX prn hY rfl pln 2 hox (v := .int .i64 ox.op.b) rfl ?_
  refine H.ldO 8 rfl hX prn hY rfl pln 3 hox (v := .slice ox.ca ox.op.cases.length ox.cc) rfl ?_
  refine H.ldO 8 rfl hX prn hY rfl pln 4 hox (v := .bool ox.op.dflt) rfl ?_
  refine Nw.as #[.int .i64 0, .int .i64 0, .int .i64 0, .slice none 0 0, .bool false] 44 rfl H fun b8 w H => ?_
  refine H.st0 (cs' := #[.int .i64 ox.op.kind, .int .i64 0, .int .i64 0, .slice none 0 0, .bool false]) rfl rfl rfl fun w H => ?_
  refine H.st0 (cs' := #[.int .i64 ox.op.kind, .int .i64 ox.op.a, .int .i64 0, .slice none 0 0, .bool false]) rfl rfl rfl fun w H => ?_
  refine H.st0 (cs' := #[.int .i64 ox.op.kind, .int .i64 ox.op.a, .int .i64 ox.op.b, .slice none 0 0, .bool false]) rfl rfl rfl fun w H => ?_
  refine H.st0 (cs' := #[.int .i64 ox.op.kind, .int .i64 ox.op.a, .int .i64 ox.op.b, .slice ox.ca ox.op.cases.length ox.cc, .bool false]) rfl rfl rfl fun w H => ?_
  refine H.st0 (cs' := #[.int .i64 ox.op.kind, .int .i64 ox.op.a, .int .i64 ox.op.b, .slice ox.ca ox.op.cases.length ox.cc, .bool ox.op.dflt]) rfl rfl rfl fun w H => ?_
  refine ⟨?_⟩
  refine H.ldi 0 rfl (v := .slice ox.ca ox.op.cases.length ox.cc) rfl ?_
  have h1 := H.pick [9, 0, 1, 2, 3, 4, 5, 6, 7, 8] 10 (by decide)
  simp only [pk, nth, pkA, pkB, pkC, pkD, pkE, pkF] at h1
  refine Cl.by (by kernel_rfl) (clone_case (hX.case prn _ hY pln ox hox).1 (cases_one _) (by omega) h1) ?_
  rintro _ w ⟨ka, kc, rfl, H⟩
  refine ⟨_, rfl, ?_⟩
  replace H := H.pick [0, 2, 3, 4, 5, 6, 7, 8, 9, 10, 1] 11 (by decide)
  simp only [pk, nth, pkA, pkB, pkC, pkD, pkE, pkF] at H
  refine H.st1 (cs' := #[.int .i64 ox.op.kind, .int .i64 ox.op.a, .int .i64 ox.op.b, .slice ka ox.op.cases.length kc, .bool ox.op.dflt]) rfl rfl rfl fun w H => ?_
  refine ⟨?_⟩
  refine H.ldi 1 rfl (v := .int .i64 ox.op.kind) rfl ?_
  refine H.ldi 1 rfl (v := .int .i64 ox.op.a) rfl ?_
  refine H.ldi 1 rfl (v := .int .i64 ox.op.b) rfl ?_
  refine H.ldi 1 rfl (v := .slice ka ox.op.cases.length kc) rfl ?_
  refine H.ldi 1 rfl (v := .bool ox.op.dflt) rfl ?_
  refine H.st2 (cs' := #[.int .i64 ox.op.kind, .int .i64 0, .int .i64 0, .slice none 0 0, .bool false]) rfl rfl rfl fun w H => ?_
  refine H.st2 (cs' := #[.int .i64 ox.op.kind, .int .i64 ox.op.a, .int .i64 0, .slice none 0 0, .bool false]) rfl rfl rfl fun w H => ?_
  refine H.st2 (cs' := #[.int .i64 ox.op.kind, .int .i64 ox.op.a, .int .i64 ox.op.b, .slice none 0 0, .bool false]) rfl rfl rfl fun w H => ?_
  refine H.st2 (cs' := #[.int .i64 ox.op.kind, .int .i64 ox.op.a, .int .i64 ox.op.b, .slice ka ox.op.cases.length kc, .bool false]) rfl rfl rfl fun w H => ?_
  refine H.st2 (cs' := #[.int .i64 ox.op.kind, .int .i64 ox.op.a, .int .i64 ox.op.b, .slice ka ox.op.cases.length kc, .bool ox.op.dflt]) rfl rfl rfl fun w H => ?_
  refine retC (fn := Tryz.f44) H 2 rfl rfl (by rfl) (by kernel_rfl) (by kernel_rfl) ?_
  have H0 := H.pick [3, 4, 5, 6, 7, 8, 9, 0, 1, 2, 10] 11 (by decide)
  simp only [pk, nth, pkA, pkB, pkC, pkD, pkE, pkF] at H0
  replace H := lm_shut (x := x) hl1 (by first | rfl | simp [turnL, noteL, backN_len]) hn H0
  exact ⟨⟨ox.op, ka, kc⟩, _, by unfold opL; simp only [Int.toNat_natCast, hone, hpr]; rw [if_neg (by simp only [List.length_map]; omega)]; simp [hox], Reader.slc, rfl, H.pick [0, 4, 1] 5 (by decide)⟩
 ·skip
  refine calls_den (args := [_, _]) Tryz.func44 rfl (Nat.le_of_ble_eq_true (by kernel_rfl)) (by kernel_rfl) ?_
  refine ⟨?_⟩
  refine Nw.as #[.int .i64 0, .int .i64 0, .int .i64 0, .slice none 0 0, .bool false] 44 rfl H fun b4 w H => ?_
  refine ⟨?_⟩
  refine H.ldi 1 rfl (v := .pointer (some ⟨crb1, 0, none⟩)) rfl ?_
  have h1 := H.pick [3, 0, 1, 2, 4, 5, 6, 7, 8] 9 (by decide)
  simp only [pk, nth, pkA, pkB, pkC, pkD, pkE, pkF] at h1
  refine Cl.sl (by kernel_rfl) (p_atO (L := x.crew) hone h1) fun w H => ?_
  replace H := H.pick [1, 2, 3, 0, 4, 5, 6, 7, 8] 9 (by decide)
  simp only [pk, nth, pkA, pkB, pkC, pkD, pkE, pkF] at H
  refine ⟨?_⟩
  refine H.ldi 1 rfl (v := .slice (some ⟨pb, po, none⟩) Y.length pc0) rfl ?_
  refine Ix.at prn 1 (by kernel_rfl) (rfl) (hprn) ?_
  refine H.ldPv 8 rfl hX prn hY (v := .slice pa ops.length pc) rfl ?_
  refine BB.yes (decide_eq_true (by omega)) ?_
  refine Cn.yes ?_
  refine ⟨?_⟩
  refine Mn.pure (.agg #[.int .i64 9, .int .i64 0, .int .i64 0, .slice none 0 0, .bool false]) (by kernel_rfl) ?_
  refine H.st0 (cs' := #[.int .i64 9, .int .i64 0, .int .i64 0, .slice none 0 0, .bool false]) rfl rfl rfl fun w H => ?_
  refine H.st0 (cs' := #[.int .i64 9, .int .i64 0, .int .i64 0, .slice none 0 0, .bool false]) rfl rfl rfl fun w H => ?_
  refine H.st0 (cs' := #[.int .i64 9, .int .i64 0, .int .i64 0, .slice none 0 0, .bool false]) rfl rfl rfl fun w H => ?_
  refine H.st0 (cs' := #[.int .i64 9, .int .i64 0, .int .i64 0, .slice none 0 0, .bool false]) rfl rfl rfl fun w H => ?_
  refine H.st0 (cs' := #[.int .i64 9, .int .i64 0, .int .i64 0, .slice none 0 0, .bool false]) rfl rfl rfl fun w H => ?_
  refine retC (fn := Tryz.f44) H 0 rfl rfl (by rfl) (by kernel_rfl) (by kernel_rfl) ?_
  replace H := SL.slcNil 98 3 H
  have H0 := H.pick [2, 3, 4, 5, 6, 7, 8, 0, 1, 9] 10 (by decide)
  simp only [pk, nth, pkA, pkB, pkC, pkD, pkE, pkF] at H0
  replace H := lm_shut (x := x) hl1 (by first | rfl | simp [turnL, noteL, backN_len]) hn H0
  exact ⟨⟨exitOp, none, 0⟩, _, by unfold opL; simp only [Int.toNat_natCast, hone, hpr]; rw [if_pos (by simp only [List.length_map]; omega)], Reader.slc, rfl, H.pick [0, 3, 1] 4 (by decide)⟩
end Go.Proofs.YtcgajljbahbhdaaGreat
namespace Go.Proofs.YtcgajljbahbhdaaGreat
set_option linter.unusedVariables false
set_option linter.unusedSimpArgs false
open Go.RowKit
set_option maxRecDepth 100000
theorem ablePos {L : List One} (h : overF L = 0) : 0 < (ableF L).length := by
 unfold overF at h
 split at h
 ·assumption
 ·split at h <;> cases h
def CopyP (nb cb : Nat) (z : Int) (pl dr : List Int) : Piece := exP fun (y : (Nat × Nat) × (Nat × Value)) => all [row nb #[.slice (some ⟨y.1.1, y.1.2, none⟩) (pl.length + 1) y.2.1, y.2.2] 118, Qu 3 1 (.slice (some ⟨y.1.1, y.1.2, none⟩) (pl.length + 1) y.2.1) (pl.length + 1) (ints (z :: pl)), row cb #[.slice (some ⟨y.1.1, y.1.2, none⟩) (pl.length + 1) y.2.1, y.2.2] 118, Qu 3 1 y.2.2 dr.length (ints dr)]
section
variable {w : World} {F : List Piece} {cb nb : Nat} {z : Int} {pl0 pl dr : List Int}
theorem cur_copyC (hp : pl0 = z :: pl) (H : SL w (CurP cb pl0 dr :: F)) : Calls Tryz.prog 41 #[.pointer (some ⟨cb, 0, none⟩)] w fun o w' => ∃ b, o = .returned (.pointer (some ⟨b, 0, none⟩)) ∧ SL w' (CopyP b cb z pl dr :: F) := by
 subst hp
 refine (cur_copy H).mono ?_
 rintro o w' ⟨b, rfl, g, off, c, v2, H⟩
 exact ⟨b, rfl, SL.exP.2 ⟨((g, off), (c, v2)), SL.all.2 H⟩⟩
theorem cur_nextC (hp : pl0 = z :: pl) (H : SL w (CopyP nb cb z pl dr :: F)) : Calls Tryz.prog 42 #[.pointer (some ⟨nb, 0, none⟩)] w fun o w' => o = .returned (.tuple #[.int .i64 z, .bool true]) ∧ SL w' (CurP cb pl0 dr :: F) := by
 subst hp
 obtain ⟨⟨⟨g, off⟩, ⟨c, v2⟩⟩, H⟩ := SL.exP.1 H
 exact (next_some (SL.all.1 H)).mono (fun o w' q => ⟨q.1, cur_uncopy q.2⟩)
theorem cur_nextD (hp : pl0 = z :: pl) (H : SL w (CurP cb pl0 dr :: F)) : Calls Tryz.prog 42 #[.pointer (some ⟨cb, 0, none⟩)] w fun o w' => o = .returned (.tuple #[.int .i64 z, .bool true]) ∧ SL w' (CurP cb pl dr :: F) := by
 subst hp
 exact cur_next H
end
theorem p_who {w : World} {F : List Piece} {np k lb : Nat} {sc : ScrM} {x : LmM} {t m : Int} {vp vl vd : Value} {n0 n1 n2 n3 n4 n5 n6 n7 : Int} (hn : x.name = [n0, n1, n2, n3, n4, n5, n6, n7]) (hk : Lk np k x) {z : Int} (hz : -1 ≤ z) (hwz : whoL sc x = if z = -1 then -1 else (ableF x.crew).getD (z.toNat % (ableF x.crew).length) 0) (hab : 0 < (ableF x.crew).length) (H : SL w (LmP lb sc ⟨t, m, vp, vl, vd⟩ x :: F)) : Calls Tryz.prog 43 #[.pointer (some ⟨lb, 0, none⟩), .int .i64 z] w fun o w' => o = .returned (.int .i64 (whoL sc x)) ∧ SL w' (LmP lb sc ⟨t, m, vp, vl, vd⟩ x :: F) := by
 rw [hwz]
 exact p_chosen hn hk z hz (fun _ => hab) H
theorem p_next_over {w : World} {F : List Piece} {np k lb : Nat} {sc : ScrM} {x : LmM} {t m : Int} {vp vl vd : Value} {n0 n1 n2 n3 n4 n5 n6 n7 : Int} (hn : x.name = [n0, n1, n2, n3, n4, n5, n6, n7]) (hk : Lk np k x) (hv : verL sc x ≠ 0) (H : SL w (LmP lb sc ⟨t, m, vp, vl, vd⟩ x :: F)) : Calls Tryz.prog 19 #[.pointer (some ⟨lb, 0, none⟩)] w fun o w' => o = .returned (.tuple #[.int .i64 0, .agg #[.int .i64 0, .int .i64 0, .int .i64 0, .slice none 0 0, .bool false], .bool false]) ∧ SL w' (LmP lb sc ⟨t, m, vp, vl, vd⟩ x :: F) := by
 have hob := lm_open (x := x) hn H
 obtain ⟨cb1, crb1, pn1, pc1, ala1, alc1, ta1, tc1, ps1, hl1, H⟩ := hob
 refine calls_den (args := [_]) Tryz.func19 rfl (Nat.le_of_ble_eq_true (by kernel_rfl)) (by kernel_rfl) ?_
 refine ⟨?_⟩
 refine Nw.as #[.int .i64 0, .int .i64 0, .int .i64 0, .slice none 0 0, .bool false] 44 rfl H fun b3 w H => ?_
 refine ⟨?_⟩
 refine BB.no rfl ?_
 have H0 := H.pick [1, 2, 3, 4, 5, 6, 7, 0] 8 (by decide)
 simp only [pk, nth, pkA, pkB, pkC, pkD, pkE, pkF] at H0
 replace H := lm_shut (x := x) hl1 (by first | rfl | simp [turnL, noteL, backN_len]) hn H0
 have h1 := H
 refine Cl.sl (by kernel_rfl) (p_verdict (x := x) hn hk h1) fun w H => ?_
 have hob := lm_open (x := x) hn H
 obtain ⟨cb2, crb2, pn2, pc2, ala2, alc2, ta2, tc2, ps2, hl2, H⟩ := hob
 refine BB.yes (bne_iff_ne.2 hv) ?_
 refine Cn.yes ?_
 refine ⟨?_⟩
 refine Mn.pure (.agg #[.int .i64 0, .int .i64 0, .int .i64 0, .slice none 0 0, .bool false]) (by kernel_rfl) ?_
 refine H.st7 (cs' := #[.int .i64 0, .int .i64 0, .int .i64 0, .slice none 0 0, .bool false]) rfl rfl rfl fun w H => ?_
 refine H.st7 (cs' := #[.int .i64 0, .int .i64 0, .int .i64 0, .slice none 0 0, .bool false]) rfl rfl rfl fun w H => ?_
 refine H.st7 (cs' := #[.int .i64 0, .int .i64 0, .int .i64 0, .slice none 0 0, .bool false]) rfl rfl rfl fun w H => ?_
 refine H.st7 (cs' := #[.int .i64 0, .int .i64 0, .int .i64 0, .slice none 0 0, .bool false]) rfl rfl rfl fun w H => ?_
 refine H.st7 (cs' := #[.int .i64 0, .int .i64 0, .int .i64 0, .slice none 0 0, .bool false]) rfl rfl rfl fun w H => ?_
 refine ret3C (fn := Tryz.f19) H 7 rfl rfl (by rfl) (by rfl) (by rfl) (by kernel_rfl) (by kernel_rfl) ?_
 have H0 := H
 replace H := lm_shut (x := x) hl2 (by first | rfl | simp [turnL, noteL, backN_len]) hn H0
 exact ⟨rfl, H.pick [0] 2 (by decide)⟩
theorem p_next_compact {w : World} {F : List Piece} {np k lb : Nat} {sc : ScrM} {x : LmM} {t m : Int} {vp vl vd : Value} {n0 n1 n2 n3 n4 n5 n6 n7 : Int} (hn : x.name = [n0, n1, n2, n3, n4, n5, n6, n7]) (hk : Lk np k x) (hv : verL sc x = 0) (hgp : ∀ z ∈ sc.plan, -1 ≤ z) (h0 : whoL sc x < 0) (H : SL w (LmP lb sc ⟨t, m, vp, vl, vd⟩ x :: F)) : Calls Tryz.prog 19 #[.pointer (some ⟨lb, 0, none⟩)] w fun o w' => o = .returned (.tuple #[.int .i64 (-1), .agg #[.int .i64 0, .int .i64 0, .int .i64 0, .slice none 0 0, .bool false], .bool true]) ∧ SL w' (LmP lb sc ⟨t, m, vp, vl, vd⟩ x :: F) := by
 obtain ⟨hpan, hvo, hvp⟩ := ver_zero hv
 obtain ⟨z, hz⟩ : ∃ z, sc.plan[x.p]? = some z := ⟨_, List.getElem?_eq_getElem hvp⟩
 have hz1 : -1 ≤ z := hgp z (List.mem_of_getElem? hz)
 have hdrop : sc.plan.drop x.p = z :: sc.plan.drop (x.p + 1) := by rw [List.drop_eq_getElem_cons hvp]; rw [List.getElem?_eq_getElem hvp] at hz; injection hz with hz; rw [hz]
 have hwz : whoL sc x = if z = -1 then -1 else (ableF x.crew).getD (z.toNat % (ableF x.crew).length) 0 := by
  unfold whoL
  rw [List.getD_eq_getElem?_getD, hz]
  rfl
 have hab : 0 < (ableF x.crew).length := ablePos hvo
 have hob := lm_open (x := x) hn H
 obtain ⟨cb1, crb1, pn1, pc1, ala1, alc1, ta1, tc1, ps1, hl1, H⟩ := hob
 refine calls_den (args := [_]) Tryz.func19 rfl (Nat.le_of_ble_eq_true (by kernel_rfl)) (by kernel_rfl) ?_
 refine ⟨?_⟩
 refine Nw.as #[.int .i64 0, .int .i64 0, .int .i64 0, .slice none 0 0, .bool false] 44 rfl H fun b3 w H => ?_
 refine ⟨?_⟩
 refine BB.no rfl ?_
 have H0 := H.pick [1, 2, 3, 4, 5, 6, 7, 0] 8 (by decide)
 simp only [pk, nth, pkA, pkB, pkC, pkD, pkE, pkF] at H0
 replace H := lm_shut (x := x) hl1 (by first | rfl | simp [turnL, noteL, backN_len]) hn H0
 have h1 := H
 refine Cl.sl (by kernel_rfl) (p_verdict (x := x) hn hk h1) fun w H => ?_
 have hob := lm_open (x := x) hn H
 obtain ⟨cb2, crb2, pn2, pc2, ala2, alc2, ta2, tc2, ps2, hl2, H⟩ := hob
 refine BB.no (bne_eq_false_iff_eq.2 hv) ?_
 refine Cn.no ?_
 refine ⟨?_⟩
 refine H.ldi 0 rfl (v := .pointer (some ⟨cb2, 0, none⟩)) rfl ?_
 have h1 := H.pick [1, 0, 2, 3, 4, 5, 6, 7] 8 (by decide)
 simp only [pk, nth, pkA, pkB, pkC, pkD, pkE, pkF] at h1
 refine Cl.by (by kernel_rfl) (cur_copyC hdrop h1) ?_
 rintro _ w ⟨nb, rfl, H⟩
 refine ⟨_, rfl, ?_⟩
 replace H := H.pick [1, 0, 2, 3, 4, 5, 6, 7] 8 (by decide)
 simp only [pk, nth, pkA, pkB, pkC, pkD, pkE, pkF] at H
 have h1 := H.pick [1, 0, 2, 3, 4, 5, 6, 7] 8 (by decide)
 simp only [pk, nth, pkA, pkB, pkC, pkD, pkE, pkF] at h1
 refine Cl.sl (by kernel_rfl) (cur_nextC hdrop h1) fun w H => ?_
 replace H := H.pick [1, 0, 2, 3, 4, 5, 6, 7] 8 (by decide)
 simp only [pk, nth, pkA, pkB, pkC, pkD, pkE, pkF] at H
 refine ⟨?_⟩
 have H0 := H
 replace H := lm_shut (x := x) hl2 (by first | rfl | simp [turnL, noteL, backN_len]) hn H0
 have h1 := H
 refine Cl.sl (by kernel_rfl) (p_who hn hk (z := z) hz1 hwz (by omega) h1) fun w H => ?_
 refine ⟨?_⟩
 refine BB.yes (decide_eq_true h0) ?_
 refine Cn.yes ?_
 refine ⟨?_⟩
 refine Mn.pure (.agg #[.int .i64 0, .int .i64 0, .int .i64 0, .slice none 0 0, .bool false]) (by kernel_rfl) ?_
 refine H.st1 (cs' := #[.int .i64 0, .int .i64 0, .int .i64 0, .slice none 0 0, .bool false]) rfl rfl rfl fun w H => ?_
 refine H.st1 (cs' := #[.int .i64 0, .int .i64 0, .int .i64 0, .slice none 0 0, .bool false]) rfl rfl rfl fun w H => ?_
 refine H.st1 (cs' := #[.int .i64 0, .int .i64 0, .int .i64 0, .slice none 0 0, .bool false]) rfl rfl rfl fun w H => ?_
 refine H.st1 (cs' := #[.int .i64 0, .int .i64 0, .int .i64 0, .slice none 0 0, .bool false]) rfl rfl rfl fun w H => ?_
 refine H.st1 (cs' := #[.int .i64 0, .int .i64 0, .int .i64 0, .slice none 0 0, .bool false]) rfl rfl rfl fun w H => ?_
 refine ret3C (fn := Tryz.f19) H 1 rfl rfl (by rfl) (by rfl) (by rfl) (by kernel_rfl) (by kernel_rfl) ?_
 exact ⟨rfl, H.pick [0] 2 (by decide)⟩
theorem p_next_does {w : World} {F : List Piece} {A : Piece} {np k lb : Nat} {sc : ScrM} {x : LmM} {t m : Int} {vl vd : Value} {n0 n1 n2 n3 n4 n5 n6 n7 : Int} {pb po pc0 : Nat} {Y : List ProgX} (hn : x.name = [n0, n1, n2, n3, n4, n5, n6, n7]) (hk : Lk np k x) (hps : sc.progs = progsM Y) (hpo : ProgsOk sc.progs) (hnp : Y.length = np) (hX : ScrA A pb po Y) (hv : verL sc x = 0) (hgp : ∀ z ∈ sc.plan, -1 ≤ z) (h0 : ¬ whoL sc x < 0) (H : SL w (LmP lb sc ⟨t, m, .slice (some ⟨pb, po, none⟩) Y.length pc0, vl, vd⟩ x :: A :: F)) : Calls Tryz.prog 19 #[.pointer (some ⟨lb, 0, none⟩)] w fun o w' => ∃ (ox : OpX) (C : Piece), ox.op = opL sc x (whoL sc x) ∧ Reader C 3 ox.ca ox.op.cases.length (ox.op.cases.flatMap CaseM.cells) ∧ o = .returned (.tuple #[.int .i64 (whoL sc x), .agg ox.cells.toArray, .bool true]) ∧ SL w' (LmP lb sc ⟨t, m, .slice (some ⟨pb, po, none⟩) Y.length pc0, vl, vd⟩ x :: A :: C :: F) := by
 obtain ⟨hpan, hvo, hvp⟩ := ver_zero hv
 obtain ⟨z, hz⟩ : ∃ z, sc.plan[x.p]? = some z := ⟨_, List.getElem?_eq_getElem hvp⟩
 have hz1 : -1 ≤ z := hgp z (List.mem_of_getElem? hz)
 have hdrop : sc.plan.drop x.p = z :: sc.plan.drop (x.p + 1) := by rw [List.drop_eq_getElem_cons hvp]; rw [List.getElem?_eq_getElem hvp] at hz; injection hz with hz; rw [hz]
 have hwz : whoL sc x = if z = -1 then -1 else (ableF x.crew).getD (z.toNat % (ableF x.crew).length) 0 := by
  unfold whoL
  rw [List.getD_eq_getElem?_getD, hz]
  rfl
 have hab : 0 < (ableF x.crew).length := ablePos hvo
 have hgw := who_in hv h0
 obtain ⟨gk, hgk⟩ := Int.eq_ofNat_of_zero_le hgw.1
 have hgl : gk < x.crew.length := by omega
 obtain ⟨⟨pr0, pl0, cst⟩, hone0⟩ : ∃ z, x.crew[gk]? = some z := ⟨_, List.getElem?_eq_getElem hgl⟩
 have hpr0 := hk.pr _ (List.mem_of_getElem? hone0)
 have hsm0 := hk.sm _ (List.mem_of_getElem? hone0)
 dsimp only at hpr0 hsm0
 obtain ⟨prn, rfl⟩ := Int.eq_ofNat_of_zero_le hpr0.1
 obtain ⟨pln, rfl⟩ := Int.eq_ofNat_of_zero_le hsm0.1
 have hone := hone0
 have hprn : prn < Y.length := by omega
 have hob := lm_open (x := x) hn H
 obtain ⟨cb1, crb1, pn1, pc1, ala1, alc1, ta1, tc1, ps1, hl1, H⟩ := hob
 refine calls_den (args := [_]) Tryz.func19 rfl (Nat.le_of_ble_eq_true (by kernel_rfl)) (by kernel_rfl) ?_
 refine ⟨?_⟩
 refine Nw.as #[.int .i64 0, .int .i64 0, .int .i64 0, .slice none 0 0, .bool false] 44 rfl H fun b3 w H => ?_
 refine ⟨?_⟩
 refine BB.no rfl ?_
 have H0 := H.pick [1, 2, 3, 4, 5, 6, 7, 0, 8] 9 (by decide)
 simp only [pk, nth, pkA, pkB, pkC, pkD, pkE, pkF] at H0
 replace H := lm_shut (x := x) hl1 (by first | rfl | simp [turnL, noteL, backN_len]) hn H0
 have h1 := H
 refine Cl.sl (by kernel_rfl) (p_verdict (x := x) hn hk h1) fun w H => ?_
 have hob := lm_open (x := x) hn H
 obtain ⟨cb2, crb2, pn2, pc2, ala2, alc2, ta2, tc2, ps2, hl2, H⟩ := hob
 refine BB.no (bne_eq_false_iff_eq.2 hv) ?_
 refine Cn.no ?_
 refine ⟨?_⟩
 refine H.ldi 0 rfl (v := .pointer (some ⟨cb2, 0, none⟩)) rfl ?_
 have h1 := H.pick [1, 0, 2, 3, 4, 5, 6, 7, 8] 9 (by decide)
 simp only [pk, nth, pkA, pkB, pkC, pkD, pkE, pkF] at h1
 refine Cl.by (by kernel_rfl) (cur_copyC hdrop h1) ?_
 rintro _ w ⟨nb, rfl, H⟩
 refine ⟨_, rfl, ?_⟩
 replace H := H.pick [1, 0, 2, 3, 4, 5, 6, 7, 8] 9 (by decide)
 simp only [pk, nth, pkA, pkB, pkC, pkD, pkE, pkF] at H
 have h1 := H.pick [1, 0, 2, 3, 4, 5, 6, 7, 8] 9 (by decide)
 simp only [pk, nth, pkA, pkB, pkC, pkD, pkE, pkF] at h1
 refine Cl.sl (by kernel_rfl) (cur_nextC hdrop h1) fun w H => ?_
 replace H := H.pick [1, 0, 2, 3, 4, 5, 6, 7, 8] 9 (by decide)
 simp only [pk, nth, pkA, pkB, pkC, pkD, pkE, pkF] at H
 refine ⟨?_⟩
 have H0 := H
 replace H := lm_shut (x := x) hl2 (by first | rfl | simp [turnL, noteL, backN_len]) hn H0
 have h1 := H
 refine Cl.sl (by kernel_rfl) (p_who hn hk (z := z) hz1 hwz (by omega) h1) fun w H => ?_
 refine ⟨?_⟩
 refine BB.no (decide_eq_false (by omega)) ?_
 refine Cn.no ?_
 refine ⟨?_⟩
 have h1 := H.pick [0, 2, 1] 3 (by decide)
 simp only [pk, nth, pkA, pkB, pkC, pkD, pkE, pkF] at h1
 have ho := p_op (w := w) hn hps hpo hX hone hprn h1
 rw [← hgk] at ho
 refine Cl.by (by kernel_rfl) ho ?_
 rintro _ w ⟨ox, C, hox, hC, rfl, H⟩
 refine ⟨_, rfl, ?_⟩
 refine H.st3 (cs' := #[.int .i64 ox.op.kind, .int .i64 0, .int .i64 0, .slice none 0 0, .bool false]) rfl rfl rfl fun w H => ?_
 refine H.st3 (cs' := #[.int .i64 ox.op.kind, .int .i64 ox.op.a, .int .i64 0, .slice none 0 0, .bool false]) rfl rfl rfl fun w H => ?_
 refine H.st3 (cs' := #[.int .i64 ox.op.kind, .int .i64 ox.op.a, .int .i64 ox.op.b, .slice none 0 0, .bool false]) rfl rfl rfl fun w H => ?_
 refine H.st3 (cs' := #[.int .i64 ox.op.kind, .int .i64 ox.op.a, .int .i64 ox.op.b, .slice ox.ca ox.op.cases.length ox.cc, .bool false]) rfl rfl rfl fun w H => ?_
 refine H.st3 (cs' := #[.int .i64 ox.op.kind, .int .i64 ox.op.a, .int .i64 ox.op.b, .slice ox.ca ox.op.cases.length ox.cc, .bool ox.op.dflt]) rfl rfl rfl fun w H => ?_
 refine ret3C (fn := Tryz.f19) H 3 rfl rfl (by rfl) (by rfl) (by rfl) (by kernel_rfl) (by kernel_rfl) ?_
 exact ⟨ox, C, hox, hC, rfl, H.pick [0, 1, 2] 4 (by decide)⟩
end Go.Proofs.YtcgajljbahbhdaaGreat
namespace Go.Proofs.YtcgajljbahbhdaaGreat
set_option linter.unusedVariables false
set_option linter.unusedSimpArgs false
open Go.RowKit
theorem pre_wakes (x : LmM) (g ch : Int) (ws : List Wtr) : x.tr <+: (wakesL x g ch ws).tr := by
 induction ws generalizing x with
 | nil => exact List.prefix_refl _
 | cons z a ih =>
  unfold wakesL
  split
  ·exact (show x.tr <+: (wakeL x _).tr from ⟨[_], rfl⟩).trans (ih _)
  ·exact ih x
theorem pre_senders (x : LmM) (ws : List Wtr) : x.tr <+: (sendersL x ws).tr := by
 induction ws with
 | nil => exact List.prefix_refl _
 | cons z a ih =>
  unfold sendersL
  split
  ·exact ⟨[_], rfl⟩
  ·exact ih
theorem pre_talk (x : LmM) (g : Int) (c : CaseM) (a : Int) : x.tr <+: (talkL x g c a).tr := by
 unfold talkL
 dsimp only
 split
 ·exact ⟨[_], rfl⟩
 ·split
  ·exact (show x.tr <+: _ from ⟨[_], rfl⟩).trans ⟨[_], rfl⟩
  ·exact ⟨[_], rfl⟩
theorem pre_alone (x : LmM) (g : Int) (c : CaseM) : x.tr <+: (aloneL x g c).tr := by
 unfold aloneL
 split
 ·exact pre_talk ..
 ·dsimp only
  split <;> exact ⟨[_], rfl⟩
theorem pre_shut (x : LmM) (g c : Int) : x.tr <+: (shutL x g c).tr := by
 unfold shutL
 dsimp only
 split
 ·exact ⟨[_], rfl⟩
 ·split
  ·exact ⟨[_], rfl⟩
  ·refine List.IsPrefix.trans ?_ (pre_senders _ _)
   refine List.IsPrefix.trans ?_ (pre_wakes _ _ _ _)
   exact ⟨[_], rfl⟩
theorem pre_choose (s : ScrM) (x : LmM) (g : Int) (o : OpM) : x.tr <+: (chooseL s x g o).tr := by
 unfold chooseL
 dsimp only
 split
 ·refine List.IsPrefix.trans ?_ (pre_talk _ _ _ _)
  rw [drawL_I]
  exact List.prefix_refl _
 ·split <;> exact ⟨[_], rfl⟩
theorem pre_other (x : LmM) (g : Int) (o : OpM) : x.tr <+: (otherL x g o).tr := by
 unfold otherL
 split
 ·exact ⟨[_], rfl⟩
 ·split
  ·exact ⟨[_], rfl⟩
  ·split
   ·exact ⟨[_], rfl⟩
   ·split <;> exact ⟨[_], rfl⟩
theorem pre_does (s : ScrM) (x : LmM) (g : Int) (o : OpM) : x.tr <+: (doesL s x g o).tr := by
 unfold doesL
 split
 ·exact pre_alone ..
 ·split
  ·exact pre_alone ..
  ·split
   ·exact pre_shut ..
   ·split
    ·exact pre_choose ..
    ·exact pre_other ..
theorem pre_does_len (s : ScrM) (x : LmM) (g : Int) (o : OpM) : x.tr.length ≤ (doesL s x g o).tr.length := (pre_does s x g o).length_le
theorem evs_drop (l : List Ev) : ∀ k, (l.flatMap Ev.cells).drop (k * 8) = (l.drop k).flatMap Ev.cells := by
 induction l with
 | nil => intro k; simp
 | cons e l ih =>
  intro k
  cases k with
  | zero => simp
  | succ k =>
   rw [List.flatMap_cons, List.drop_succ_cons, ← ih k, show (k + 1) * 8 = 8 + k * 8 by omega, ← List.drop_drop]
   rfl
theorem ev_one (e : Ev) : e.cells.all Value.oneCell' = true := rfl
theorem evs_one (L : List Ev) : (L.flatMap Ev.cells).all Value.oneCell' = true := by
 rw [List.all_flatMap, List.all_eq_true]
 exact fun c _ => ev_one c
end Go.Proofs.YtcgajljbahbhdaaGreat
namespace Go.Proofs.YtcgajljbahbhdaaGreat
set_option linter.unusedVariables false
set_option linter.unusedSimpArgs false
open Go.RowKit
set_option maxRecDepth 100000
set_option maxHeartbeats 4000000 in
theorem p_step {w : World} {F : List Piece} {A : Piece} {np k lb : Nat} {sc : ScrM} {x : LmM} {t m : Int} {vl vd : Value} {n0 n1 n2 n3 n4 n5 n6 n7 : Int} {pb po pc0 : Nat} {Y : List ProgX} (hn : x.name = [n0, n1, n2, n3, n4, n5, n6, n7]) (hk : Lk np k x) (hkb : k ≤ 980000) (hps : sc.progs = progsM Y) (hpo : ProgsOk sc.progs) (hnp : Y.length = np) (hnp1 : 1 ≤ np) (hX : ScrA A pb po Y) (hgp : ∀ z ∈ sc.plan, -1 ≤ z) (hge : ∀ z ∈ sc.draws, 0 ≤ z) (H : SL w (LmP lb sc ⟨t, m, .slice (some ⟨pb, po, none⟩) Y.length pc0, vl, vd⟩ x :: A :: F)) :
  Calls Tryz.prog 25 #[.pointer (some ⟨lb, 0, none⟩)] w fun o w' => ∃ ka kc, o = .returned (.slice ka ((stepL sc x).tr.length - x.tr.length) kc) ∧ SL w' (Slc 36 8 (.slice ka ((stepL sc x).tr.length - x.tr.length) kc) ((stepL sc x).tr.length - x.tr.length) (((stepL sc x).tr.drop x.tr.length).flatMap Ev.cells) :: LmP lb sc ⟨t, m, .slice (some ⟨pb, po, none⟩) Y.length pc0, vl, vd⟩ (stepL sc x) :: A :: F) := by
 have hnp' : sc.progs.length = np := by rw [hps]; unfold progsM; rw [List.length_map]; exact hnp
 by_cases hv : verL sc x = 0
 ·obtain ⟨hpan, hvo, hvp⟩ := ver_zero hv
  obtain ⟨z, hz⟩ : ∃ z, sc.plan[x.p]? = some z := ⟨_, List.getElem?_eq_getElem hvp⟩
  have hdrop : sc.plan.drop x.p = z :: sc.plan.drop (x.p + 1) := by rw [List.drop_eq_getElem_cons hvp]; rw [List.getElem?_eq_getElem hvp] at hz; injection hz with hz; rw [hz]
  by_cases h0 : whoL sc x < 0
  ·skip
   have hob := lm_open (x := x) hn H
   obtain ⟨cb1, crb1, pn1, pc1, ala1, alc1, ta1, tc1, ps1, hl1, H⟩ := hob
   refine calls_scope (args := [_]) 0 Tryz.func25 rfl rfl (Nat.le_of_ble_eq_true (by kernel_rfl)) (by kernel_rfl) (by kernel_rfl) (by kernel_rfl) ?_
   refine ⟨?_⟩
   refine ⟨?_⟩
   have H0 := H
   replace H := lm_shut (x := x) hl1 (by first | rfl | simp [turnL, noteL, backN_len]) hn H0
   have h1 := H
   refine Cl.sl (by kernel_rfl) (p_next_compact hn hk hv hgp h0 h1) fun w H => ?_
   have hob := lm_open (x := x) hn H
   obtain ⟨cb2, crb2, pn2, pc2, ala2, alc2, ta2, tc2, ps2, hl2, H⟩ := hob
   refine Nw.as #[.int .i64 0, .int .i64 0, .int .i64 0, .slice none 0 0, .bool false] 44 rfl H fun b4 w H => ?_
   refine H.st0 (cs' := #[.int .i64 0, .int .i64 0, .int .i64 0, .slice none 0 0, .bool false]) rfl rfl rfl fun w H => ?_
   refine H.st0 (cs' := #[.int .i64 0, .int .i64 0, .int .i64 0, .slice none 0 0, .bool false]) rfl rfl rfl fun w H => ?_
   refine H.st0 (cs' := #[.int .i64 0, .int .i64 0, .int .i64 0, .slice none 0 0, .bool false]) rfl rfl rfl fun w H => ?_
   refine H.st0 (cs' := #[.int .i64 0, .int .i64 0, .int .i64 0, .slice none 0 0, .bool false]) rfl rfl rfl fun w H => ?_
   refine H.st0 (cs' := #[.int .i64 0, .int .i64 0, .int .i64 0, .slice none 0 0, .bool false]) rfl rfl rfl fun w H => ?_
   refine ⟨?_⟩
   refine BB.no rfl ?_
   refine Cn.no ?_
   refine ⟨?_⟩
   refine H.ldi 1 rfl (v := .pointer (some ⟨cb2, 0, none⟩)) rfl ?_
   have h1 := H.pick [2, 0, 1, 3, 4, 5, 6, 7, 8] 9 (by decide)
   simp only [pk, nth, pkA, pkB, pkC, pkD, pkE, pkF] at h1
   refine Cl.sl (by kernel_rfl) (cur_nextD hdrop h1) fun w H => ?_
   replace H := H.pick [1, 2, 0, 3, 4, 5, 6, 7, 8] 9 (by decide)
   simp only [pk, nth, pkA, pkB, pkC, pkD, pkE, pkF] at H
   refine ⟨?_⟩
   refine H.ldi 1 rfl (v := .slice ta2 x.tr.length tc2) rfl ?_
   refine ⟨?_⟩
   refine BB.yes rfl ?_
   refine Cn.yes ?_
   refine ⟨?_⟩
   refine Cl.sl (by kernel_rfl) (p_bare H 13 (-1)) fun w H => ?_
   have h1 := H.pick [1, 7, 0, 2, 3, 4, 5, 6, 8] 9 (by decide)
   simp only [pk, nth, pkA, pkB, pkC, pkD, pkE, pkF] at h1
   refine Cl.by (by kernel_rfl) (p_noteO (Nat.le_trans ((hk.pp (x.p + 1))).tr (by omega)) ⟨13, -1, -1, -1, -1, -1, false, false⟩ h1) ?_
   rintro _ w ⟨tn1, tk1, rfl, H⟩
   refine ⟨_, rfl, ?_⟩
   replace H := H.pick [2, 0, 3, 4, 5, 6, 7, 1, 8] 9 (by decide)
   simp only [pk, nth, pkA, pkB, pkC, pkD, pkE, pkF] at H
   refine ⟨rfl, ?_⟩
   refine ⟨?_⟩
   refine H.ldi 1 rfl (v := .slice tn1 ((noteL ({ x with p := x.p + 1 }) ⟨13, -1, -1, -1, -1, -1, false, false⟩).tr.length) tk1) rfl ?_
   refine Mn.cutS (lo := x.tr.length) H 7 rfl (.tmp 41) (.tmp 42) 28 (by rfl) (by kernel_rfl) (by kernel_rfl) (by rfl) (by rfl) (by show x.tr.length ≤ (x.tr ++ [_]).length; rw [List.length_append]; exact Nat.le_add_right _ _) fun sa1 sk1 hR1 => ?_
   have h1 := H.pick [7, 0, 1, 2, 3, 4, 5, 6, 8] 9 (by decide)
   simp only [pk, nth, pkA, pkB, pkC, pkD, pkE, pkF] at h1
   rw [evs_drop] at hR1
   refine Cl.by (by kernel_rfl) (clone_ev hR1 (evs_one _) (Nat.lt_of_le_of_lt (Nat.sub_le _ _) (Nat.lt_of_le_of_lt (((hk.pp (x.p + 1)).note ⟨13, -1, -1, -1, -1, -1, false, false⟩)).tr (by omega))) h1) ?_
   rintro _ w ⟨ka, kc, rfl, H⟩
   refine ⟨_, rfl, ?_⟩
   replace H := H.pick [0, 2, 3, 4, 5, 6, 7, 8, 1, 9] 10 (by decide)
   simp only [pk, nth, pkA, pkB, pkC, pkD, pkE, pkF] at H
   refine ret1 (fn := Tryz.f25) (.slice ka ((noteL ({ x with p := x.p + 1 }) ⟨13, -1, -1, -1, -1, -1, false, false⟩).tr.length - x.tr.length) kc) rfl (by rfl) ?_
   have H0 := H.pick [2, 3, 4, 5, 6, 7, 8, 0, 1, 9] 10 (by decide)
   simp only [pk, nth, pkA, pkB, pkC, pkD, pkE, pkF] at H0
   replace H := lm_shut (x := (noteL ({ x with p := x.p + 1 }) ⟨13, -1, -1, -1, -1, -1, false, false⟩)) hl2 (by first | rfl | simp [turnL, noteL, backN_len]) hn H0
   have hst : stepL sc x = (noteL ({ x with p := x.p + 1 }) ⟨13, -1, -1, -1, -1, -1, false, false⟩) := step_compact hv h0
   rw [hst]
   exact ⟨ka, kc, rfl, H.pick [1, 0, 3] 4 (by decide)⟩
  ·have hgw := who_in hv h0
   have hob := lm_open (x := x) hn H
   obtain ⟨cb1, crb1, pn1, pc1, ala1, alc1, ta1, tc1, ps1, hl1, H⟩ := hob
   refine calls_scope (args := [_]) 0 Tryz.func25 rfl rfl (Nat.le_of_ble_eq_true (by kernel_rfl)) (by kernel_rfl) (by kernel_rfl) (by kernel_rfl) ?_
   refine ⟨?_⟩
   refine ⟨?_⟩
   have H0 := H
   replace H := lm_shut (x := x) hl1 (by first | rfl | simp [turnL, noteL, backN_len]) hn H0
   have h1 := H
   refine Cl.by (by kernel_rfl) (p_next_does hn hk hps hpo hnp hX hv hgp h0 h1) ?_
   rintro _ w ⟨ox, C, hox, hC, rfl, H⟩
   refine ⟨_, rfl, ?_⟩
   have hob := lm_open (x := x) hn H
   obtain ⟨cb2, crb2, pn2, pc2, ala2, alc2, ta2, tc2, ps2, hl2, H⟩ := hob
   refine Nw.as #[.int .i64 0, .int .i64 0, .int .i64 0, .slice none 0 0, .bool false] 44 rfl H fun b4 w H => ?_
   refine H.st0 (cs' := #[.int .i64 ox.op.kind, .int .i64 0, .int .i64 0, .slice none 0 0, .bool false]) rfl rfl rfl fun w H => ?_
   refine H.st0 (cs' := #[.int .i64 ox.op.kind, .int .i64 ox.op.a, .int .i64 0, .slice none 0 0, .bool false]) rfl rfl rfl fun w H => ?_
   refine H.st0 (cs' := #[.int .i64 ox.op.kind, .int .i64 ox.op.a, .int .i64 ox.op.b, .slice none 0 0, .bool false]) rfl rfl rfl fun w H => ?_
   refine H.st0 (cs' := #[.int .i64 ox.op.kind, .int .i64 ox.op.a, .int .i64 ox.op.b, .slice ox.ca ox.op.cases.length ox.cc, .bool false]) rfl rfl rfl fun w H => ?_
   refine H.st0 (cs' := #[.int .i64 ox.op.kind, .int .i64 ox.op.a, .int .i64 ox.op.b, .slice ox.ca ox.op.cases.length ox.cc, .bool ox.op.dflt]) rfl rfl rfl fun w H => ?_
   refine ⟨?_⟩
   refine BB.no rfl ?_
   refine Cn.no ?_
   refine ⟨?_⟩
   refine H.ldi 1 rfl (v := .pointer (some ⟨cb2, 0, none⟩)) rfl ?_
   have h1 := H.pick [2, 0, 1, 3, 4, 5, 6, 7, 8, 9] 10 (by decide)
   simp only [pk, nth, pkA, pkB, pkC, pkD, pkE, pkF] at h1
   refine Cl.sl (by kernel_rfl) (cur_nextD hdrop h1) fun w H => ?_
   replace H := H.pick [1, 2, 0, 3, 4, 5, 6, 7, 8, 9] 10 (by decide)
   simp only [pk, nth, pkA, pkB, pkC, pkD, pkE, pkF] at H
   refine ⟨?_⟩
   refine H.ldi 1 rfl (v := .slice ta2 x.tr.length tc2) rfl ?_
   refine ⟨?_⟩
   refine BB.no (decide_eq_false (by omega)) ?_
   refine Cn.no ?_
   refine ⟨?_⟩
   refine H.ldi 0 rfl (v := .int .i64 ox.op.kind) rfl ?_
   refine H.ldi 0 rfl (v := .int .i64 ox.op.a) rfl ?_
   refine H.ldi 0 rfl (v := .int .i64 ox.op.b) rfl ?_
   refine H.ldi 0 rfl (v := .slice ox.ca ox.op.cases.length ox.cc) rfl ?_
   refine H.ldi 0 rfl (v := .bool ox.op.dflt) rfl ?_
   have H0 := H.pick [1, 2, 3, 4, 5, 6, 7, 0, 8, 9] 10 (by decide)
   simp only [pk, nth, pkA, pkB, pkC, pkD, pkE, pkF] at H0
   replace H := lm_shut (x := { x with p := x.p + 1 }) hl2 (by first | rfl | simp [turnL, noteL, backN_len]) hn H0
   have h1 := H.pick [0, 3, 1, 2] 4 (by decide)
   simp only [pk, nth, pkA, pkB, pkC, pkD, pkE, pkF] at h1
   have hop : OpOk np ox.op := by rw [hox, ← hnp']; exact opL_ok hpo (by omega) _ _
   refine Cl.by (by kernel_rfl) (p_does (x := { x with p := x.p + 1 }) hn (hk.pp (x.p + 1)) (by omega) hgw hge hC hop h1) ?_
   rintro _ w ⟨b, y0, rfl, hres, H⟩
   refine ⟨_, rfl, ?_⟩
   replace H := H.pick [0, 2, 3, 1] 4 (by decide)
   simp only [pk, nth, pkA, pkB, pkC, pkD, pkE, pkF] at H
   have hkD := (hk.pp (x.p + 1)).does (g := whoL sc x) hgw hop sc
   have hlen := pre_does_len sc { x with p := x.p + 1 } (whoL sc x) ox.op
   have hst : stepL sc x = doesL sc { x with p := x.p + 1 } (whoL sc x) ox.op := by rw [hox]; exact step_does hv h0
   refine BB.k ?_
   refine BB.vr fun q1 e1 => ?_
   cases q1
   ·skip
    have h1 : b = true := by simpa using e1
    subst h1
    refine Cn.no ?_
    rw [if_pos rfl] at hres
    rw [hres] at hkD hlen hst
    have hob := eight hkD.n8
    obtain ⟨n0, n1, n2, n3, n4, n5, n6, n7, hn9⟩ := hob
    have hob := lm_open (x := y0) hn9 H
    obtain ⟨cb3, crb3, pn3, pc3, ala3, alc3, ta3, tc3, ps3, hl3, H⟩ := hob
    refine ⟨?_⟩
    refine H.ldi 0 rfl (v := .slice ta3 y0.tr.length tc3) rfl ?_
    refine Mn.cutS (lo := x.tr.length) H 6 rfl (.tmp 41) (.tmp 42) 28 (by rfl) (by kernel_rfl) (by kernel_rfl) (by rfl) (by rfl) (hlen) fun sa2 sk2 hR2 => ?_
    have h1 := H.pick [6, 0, 1, 2, 3, 4, 5, 7, 8, 9] 10 (by decide)
    simp only [pk, nth, pkA, pkB, pkC, pkD, pkE, pkF] at h1
    rw [evs_drop] at hR2
    refine Cl.by (by kernel_rfl) (clone_ev hR2 (evs_one _) (Nat.lt_of_le_of_lt (Nat.sub_le _ _) (Nat.lt_of_le_of_lt (hkD).tr (by omega))) h1) ?_
    rintro _ w ⟨ka, kc, rfl, H⟩
    refine ⟨_, rfl, ?_⟩
    replace H := H.pick [0, 2, 3, 4, 5, 6, 7, 1, 8, 9, 10] 11 (by decide)
    simp only [pk, nth, pkA, pkB, pkC, pkD, pkE, pkF] at H
    refine ret1 (fn := Tryz.f25) (.slice ka (y0.tr.length - x.tr.length) kc) rfl (by rfl) ?_
    have H0 := H.pick [1, 2, 3, 4, 5, 6, 7, 0, 8, 9, 10] 11 (by decide)
    simp only [pk, nth, pkA, pkB, pkC, pkD, pkE, pkF] at H0
    replace H := lm_shut (x := y0) hl3 (by first | rfl | simp [turnL, noteL, backN_len]) hn9 H0
    rw [hst]
    exact ⟨ka, kc, rfl, H.pick [1, 0, 3] 5 (by decide)⟩
   ·skip
    have h1 : b = false := by simpa using e1
    subst h1
    refine Cn.yes ?_
    rw [if_neg Bool.false_ne_true] at hres
    rw [hres] at hkD hlen hst
    have hob := eight hkD.n8
    obtain ⟨n0, n1, n2, n3, n4, n5, n6, n7, hn9⟩ := hob
    have hob := lm_open (x := y0) hn9 H
    obtain ⟨cb4, crb4, pn4, pc4, ala4, alc4, ta4, tc4, ps4, hl4, H⟩ := hob
    refine ⟨?_⟩
    refine H.st0 (cs' := #[.int .i64 t, .int .i64 m, .slice (some ⟨pb, po, none⟩) Y.length pc0, vl, vd, .pointer (some ⟨cb4, 0, none⟩), .pointer (some ⟨crb4, 0, none⟩), .slice (some ⟨pn4, 0, none⟩) 8 pc4, .int .i64 n0, .int .i64 n1, .int .i64 n2, .int .i64 n3, .int .i64 n4, .int .i64 n5, .int .i64 n6, .int .i64 n7, .slice ala4 y0.M.length alc4, .slice ta4 y0.tr.length tc4, .bool true]) rfl rfl rfl fun w H => ?_
    refine ⟨?_⟩
    refine H.ldi 0 rfl (v := .slice ta4 y0.tr.length tc4) rfl ?_
    refine Mn.cutS (lo := x.tr.length) H 6 rfl (.tmp 41) (.tmp 42) 28 (by rfl) (by kernel_rfl) (by kernel_rfl) (by rfl) (by rfl) (hlen) fun sa3 sk3 hR3 => ?_
    have h1 := H.pick [6, 0, 1, 2, 3, 4, 5, 7, 8, 9] 10 (by decide)
    simp only [pk, nth, pkA, pkB, pkC, pkD, pkE, pkF] at h1
    rw [evs_drop] at hR3
    refine Cl.by (by kernel_rfl) (clone_ev hR3 (evs_one _) (Nat.lt_of_le_of_lt (Nat.sub_le _ _) (Nat.lt_of_le_of_lt (hkD).tr (by omega))) h1) ?_
    rintro _ w ⟨ka, kc, rfl, H⟩
    refine ⟨_, rfl, ?_⟩
    replace H := H.pick [0, 2, 3, 4, 5, 6, 7, 1, 8, 9, 10] 11 (by decide)
    simp only [pk, nth, pkA, pkB, pkC, pkD, pkE, pkF] at H
    refine ret1 (fn := Tryz.f25) (.slice ka (y0.tr.length - x.tr.length) kc) rfl (by rfl) ?_
    have H0 := H.pick [1, 2, 3, 4, 5, 6, 7, 0, 8, 9, 10] 11 (by decide)
    simp only [pk, nth, pkA, pkB, pkC, pkD, pkE, pkF] at H0
    replace H := lm_shut (x := { y0 with pan := true }) hl4 (by first | rfl | simp [turnL, noteL, backN_len]) hn9 H0
    rw [hst]
    exact ⟨ka, kc, rfl, H.pick [1, 0, 3] 5 (by decide)⟩
 ·skip
  have hob := lm_open (x := x) hn H
  obtain ⟨cb1, crb1, pn1, pc1, ala1, alc1, ta1, tc1, ps1, hl1, H⟩ := hob
  refine calls_scope (args := [_]) 0 Tryz.func25 rfl rfl (Nat.le_of_ble_eq_true (by kernel_rfl)) (by kernel_rfl) (by kernel_rfl) (by kernel_rfl) ?_
  refine ⟨?_⟩
  refine ⟨?_⟩
  have H0 := H
  replace H := lm_shut (x := x) hl1 (by first | rfl | simp [turnL, noteL, backN_len]) hn H0
  have h1 := H
  refine Cl.sl (by kernel_rfl) (p_next_over hn hk hv h1) fun w H => ?_
  have hob := lm_open (x := x) hn H
  obtain ⟨cb2, crb2, pn2, pc2, ala2, alc2, ta2, tc2, ps2, hl2, H⟩ := hob
  refine Nw.as #[.int .i64 0, .int .i64 0, .int .i64 0, .slice none 0 0, .bool false] 44 rfl H fun b4 w H => ?_
  refine H.st0 (cs' := #[.int .i64 0, .int .i64 0, .int .i64 0, .slice none 0 0, .bool false]) rfl rfl rfl fun w H => ?_
  refine H.st0 (cs' := #[.int .i64 0, .int .i64 0, .int .i64 0, .slice none 0 0, .bool false]) rfl rfl rfl fun w H => ?_
  refine H.st0 (cs' := #[.int .i64 0, .int .i64 0, .int .i64 0, .slice none 0 0, .bool false]) rfl rfl rfl fun w H => ?_
  refine H.st0 (cs' := #[.int .i64 0, .int .i64 0, .int .i64 0, .slice none 0 0, .bool false]) rfl rfl rfl fun w H => ?_
  refine H.st0 (cs' := #[.int .i64 0, .int .i64 0, .int .i64 0, .slice none 0 0, .bool false]) rfl rfl rfl fun w H => ?_
  refine ⟨?_⟩
  refine BB.yes rfl ?_
  refine Cn.yes ?_
  refine ⟨?_⟩
  refine ret1 (fn := Tryz.f25) (.slice none 0 0) rfl (by rfl) ?_
  have H0 := H.pick [1, 2, 3, 4, 5, 6, 7, 0, 8] 9 (by decide)
  simp only [pk, nth, pkA, pkB, pkC, pkD, pkE, pkF] at H0
  replace H := lm_shut (x := x) hl2 (by first | rfl | simp [turnL, noteL, backN_len]) hn H0
  have hst : stepL sc x = x := by unfold stepL; rw [if_pos hv]
  rw [hst, Nat.sub_self, List.drop_length]
  exact ⟨none, 0, rfl, SL.slcNil 36 8 (H.pick [0, 2] 3 (by decide))⟩
end Go.Proofs.YtcgajljbahbhdaaGreat
namespace Go.Proofs.YtcgajljbahbhdaaGreat
set_option linter.unusedVariables false
set_option linter.unusedSimpArgs false
open Go.RowKit
set_option maxRecDepth 100000
def belowB (n m : Int) : Bool := decide (0 ≤ n ∧ n < m)
theorem d_below {w : World} {F : List Piece} (n m : Int) (H : SL w F) : Calls Tryz.prog 71 #[.int .i64 n, .int .i64 m] w fun o w' => o = .returned (.bool (belowB n m)) ∧ SL w' F := by
 refine calls_den (args := [_, _]) Tryz.func71 rfl (Nat.le_of_ble_eq_true (by kernel_rfl)) (by kernel_rfl) ?_
 refine ⟨?_⟩
 refine ⟨?_⟩
 refine BB.vr fun q1 e1 => ?_
 cases q1
 ·skip
  have h1 := of_decide_eq_false e1
  refine ret1 (fn := Tryz.f71) (.bool false) rfl (by rfl) ?_
  have hc : belowB n m = (false) := by unfold belowB; first | (simp [*]; done) | (simp; omega)
  rw [hc]
  exact ⟨rfl, H⟩
 ·skip
  have h1 := of_decide_eq_true e1
  refine BB.k ?_
  refine ret1 (fn := Tryz.f71) (.bool (decide (n < m))) rfl (by rfl) ?_
  have hc : belowB n m = (decide (n < m)) := by unfold belowB; first | (simp [*]; done) | (simp; omega)
  rw [hc]
  exact ⟨rfl, H⟩
def mxF (c m : Int) : Int := if m > c then m else c
theorem Mn.most {P : Program} {w : World} {σ : Fr} {op : Oper} {K : Value → World → Prop} {t : TypeId} (x : Operand) (c : Int) {m : Int} (hop : op.op = .call { callee := .builtin .max, args := #[.const (.int .i64 c), x], argTypes := #[t, t] }) (hx : ev σ x = .int .i64 m) (k : K (.int .i64 (mxF c m)) w) : Mn P σ op w K := by
 refine Mn.by (v := .int .i64 (mxF c m)) (w' := w) ?_ k
 have e : ev σ (.const (.int .i64 c)) = .int .i64 c := rfl
 simp [execOp, hop, resolve, invoke, builtin, Builtin.max_, Builtin.max2, hx, e, Result.andThen, mxF]
def fitB (n m : Int) : Bool := belowB n (mxF 1 m)
theorem d_fits {w : World} {F : List Piece} (n m : Int) (H : SL w F) : Calls Tryz.prog 70 #[.int .i64 n, .int .i64 m] w fun o w' => o = .returned (.bool (fitB n m)) ∧ SL w' F := by
 refine calls_den (args := [_, _]) Tryz.func70 rfl (Nat.le_of_ble_eq_true (by kernel_rfl)) (by kernel_rfl) ?_
 refine ⟨?_⟩
 refine ⟨?_⟩
 refine Mn.most (.tmp 6) 1 (m := m) (by rfl) (by rfl) ?_
 refine Cl.sl (by kernel_rfl) (d_below n (mxF 1 m) H) fun w H => ?_
 refine BB.k ?_
 refine ret1 (fn := Tryz.f70) (.bool (belowB n (mxF 1 m))) rfl (by rfl) ?_
 exact ⟨rfl, H⟩
def limF (k np : Int) : Int × Int := if k = 1 then (np, 0) else if k = 2 then (8, 5) else if k = 4 then (8, 0) else if k = 5 then (8, 0) else if k = 3 then (8, 100) else if k = 7 then (8, 0) else if k = 8 then (8, 0) else (0, 0)
theorem d_limits {w : World} {F : List Piece} (k np : Int) (H : SL w F) : Calls Tryz.prog 69 #[.int .i64 k, .int .i64 np] w fun o w' => o = .returned (.tuple #[.int .i64 (limF k np).1, .int .i64 (limF k np).2]) ∧ SL w' F := by
 refine calls_den (args := [_, _]) Tryz.func69 rfl (Nat.le_of_ble_eq_true (by kernel_rfl)) (by kernel_rfl) ?_
 refine ⟨?_⟩
 refine ⟨?_⟩
 refine ⟨?_⟩
 refine ⟨?_⟩
 refine ⟨?_⟩
 refine ⟨?_⟩
 refine ⟨?_⟩
 refine ⟨?_⟩
 refine ⟨?_⟩
 refine BB.vr fun q1 e1 => ?_
 cases q1
 ·skip
  have h1 := beq_eq_false_iff_ne.1 e1
  refine Cn.no ?_
  refine ⟨?_⟩
  refine BB.vr fun q2 e2 => ?_
  cases q2
  ·skip
   have h2 := beq_eq_false_iff_ne.1 e2
   refine Cn.no ?_
   refine ⟨?_⟩
   refine BB.vr fun q3 e3 => ?_
   cases q3
   ·skip
    have h3 := beq_eq_false_iff_ne.1 e3
    refine Cn.no ?_
    refine ⟨?_⟩
    refine BB.vr fun q4 e4 => ?_
    cases q4
    ·skip
     have h4 := beq_eq_false_iff_ne.1 e4
     refine Cn.no ?_
     refine ⟨?_⟩
     refine BB.vr fun q5 e5 => ?_
     cases q5
     ·skip
      have h5 := beq_eq_false_iff_ne.1 e5
      refine Cn.no ?_
      refine ⟨?_⟩
      refine BB.vr fun q6 e6 => ?_
      cases q6
      ·skip
       have h6 := beq_eq_false_iff_ne.1 e6
       refine Cn.no ?_
       refine ⟨?_⟩
       refine BB.vr fun q7 e7 => ?_
       cases q7
       ·skip
        have h7 := beq_eq_false_iff_ne.1 e7
        refine Cn.no ?_
        refine ⟨?_⟩
        refine ret2 (fn := Tryz.f69) (.int .i64 0) (.int .i64 0) rfl (by rfl) (by rfl) ?_
        have hc : limF k np = (0, 0) := by unfold limF; simp [*]
        rw [hc]
        exact ⟨rfl, H⟩
       ·skip
        have h7 := eq_of_beq e7
        refine Cn.yes ?_
        refine ⟨?_⟩
        refine ⟨?_⟩
        refine ret2 (fn := Tryz.f69) (.int .i64 8) (.int .i64 0) rfl (by rfl) (by rfl) ?_
        have hc : limF k np = (8, 0) := by unfold limF; simp [*]
        rw [hc]
        exact ⟨rfl, H⟩
      ·skip
       have h6 := eq_of_beq e6
       refine Cn.yes ?_
       refine Cn.yes ?_
       refine ⟨?_⟩
       refine ⟨?_⟩
       refine ret2 (fn := Tryz.f69) (.int .i64 8) (.int .i64 0) rfl (by rfl) (by rfl) ?_
       have hc : limF k np = (8, 0) := by unfold limF; simp [*]
       rw [hc]
       exact ⟨rfl, H⟩
     ·skip
      have h5 := eq_of_beq e5
      refine Cn.yes ?_
      refine ⟨?_⟩
      refine ⟨?_⟩
      refine ret2 (fn := Tryz.f69) (.int .i64 8) (.int .i64 100) rfl (by rfl) (by rfl) ?_
      have hc : limF k np = (8, 100) := by unfold limF; simp [*]
      rw [hc]
      exact ⟨rfl, H⟩
    ·skip
     have h4 := eq_of_beq e4
     refine Cn.yes ?_
     refine ⟨?_⟩
     refine ⟨?_⟩
     refine ret2 (fn := Tryz.f69) (.int .i64 8) (.int .i64 0) rfl (by rfl) (by rfl) ?_
     have hc : limF k np = (8, 0) := by unfold limF; simp [*]
     rw [hc]
     exact ⟨rfl, H⟩
   ·skip
    have h3 := eq_of_beq e3
    refine Cn.yes ?_
    refine Cn.yes ?_
    refine ⟨?_⟩
    refine ⟨?_⟩
    refine ret2 (fn := Tryz.f69) (.int .i64 8) (.int .i64 0) rfl (by rfl) (by rfl) ?_
    have hc : limF k np = (8, 0) := by unfold limF; simp [*]
    rw [hc]
    exact ⟨rfl, H⟩
  ·skip
   have h2 := eq_of_beq e2
   refine Cn.yes ?_
   refine ⟨?_⟩
   refine ⟨?_⟩
   refine ⟨?_⟩
   refine ret2 (fn := Tryz.f69) (.int .i64 8) (.int .i64 5) rfl (by rfl) (by rfl) ?_
   have hc : limF k np = (8, 5) := by unfold limF; simp [*]
   rw [hc]
   exact ⟨rfl, H⟩
 ·skip
  have h1 := eq_of_beq e1
  refine Cn.yes ?_
  refine ⟨?_⟩
  refine ⟨?_⟩
  refine ret2 (fn := Tryz.f69) (.int .i64 np) (.int .i64 0) rfl (by rfl) (by rfl) ?_
  have hc : limF k np = (np, 0) := by unfold limF; simp [*]
  rw [hc]
  exact ⟨rfl, H⟩
end Go.Proofs.YtcgajljbahbhdaaGreat
namespace Go.Proofs.YtcgajljbahbhdaaGreat
set_option linter.unusedVariables false
set_option linter.unusedSimpArgs false
open Go.RowKit
set_option maxRecDepth 100000
def caseP (c : CaseM) : Bool := belowB c.chan 8 && belowB c.value 100 && (c.send || c.value == 0)
def opP (np : Int) (o : OpM) : Int :=
 if np < 1 ∨ 8 < np ∨ o.kind < 1 ∨ 9 < o.kind then 1
 else if 4 < o.cases.length then 2
 else if ¬ (fitB o.a (limF o.kind np).1 = true ∧ fitB o.b (limF o.kind np).2 = true) ∨ (o.kind ≠ 6 ∧ (0 < o.cases.length ∨ o.dflt = true)) then 4
 else if o.cases.all caseP = true then 0 else 4
section
variable {np : Int} {o : OpM} (h1 : ¬ (np < 1 ∨ 8 < np ∨ o.kind < 1 ∨ 9 < o.kind)) (h2 : ¬ 4 < o.cases.length)
theorem opP_1 (h : np < 1 ∨ 8 < np ∨ o.kind < 1 ∨ 9 < o.kind) : opP np o = 1 := by unfold opP; rw [if_pos h]
include h1
theorem opP_2 (h : 4 < o.cases.length) : opP np o = 2 := by unfold opP; rw [if_neg h1, if_pos h]
include h2
theorem opP_3 (h : ¬ (fitB o.a (limF o.kind np).1 = true ∧ fitB o.b (limF o.kind np).2 = true) ∨ (o.kind ≠ 6 ∧ (0 < o.cases.length ∨ o.dflt = true))) : opP np o = 4 := by unfold opP; rw [if_neg h1, if_neg h2, if_pos h]
theorem opP_4 (h : o.cases.all caseP = false) : opP np o = 4 := by
 unfold opP
 rw [if_neg h1, if_neg h2]
 split
 ·rfl
 ·rw [if_neg (by rw [h]; exact Bool.false_ne_true)]
theorem opP_5 (h3 : ¬ (¬ (fitB o.a (limF o.kind np).1 = true ∧ fitB o.b (limF o.kind np).2 = true) ∨ (o.kind ≠ 6 ∧ (0 < o.cases.length ∨ o.dflt = true)))) (h : o.cases.all caseP = true) : opP np o = 0 := by unfold opP; rw [if_neg h1, if_neg h2, if_neg h3, if_pos h]
end
theorem caseP_R (c : CaseM) : caseP c = caseR c := by
 unfold caseP caseR withinF belowB
 cases hs : c.send <;> rw [Bool.eq_iff_iff] <;> simp <;> omega
theorem opP_E (np : Int) (o : OpM) : opP np o = opE np o := by
 unfold opP opE
 by_cases h1 : np < 1 ∨ 8 < np ∨ o.kind < 1 ∨ 9 < o.kind
 ·rw [if_pos h1, if_pos h1]
 ·rw [if_neg h1, if_neg h1]
  by_cases h2 : 4 < o.cases.length
  ·rw [if_pos h2, if_pos h2]
  ·rw [if_neg h2, if_neg h2]
   have key : (fitB o.a (limF o.kind np).1 = true ∧ fitB o.b (limF o.kind np).2 = true) ↔ (withinF o.a (rowF o.kind).1 np = true ∧ withinF o.b (rowF o.kind).2 np = true) := by
    have hk : o.kind = 1 ∨ o.kind = 2 ∨ o.kind = 3 ∨ o.kind = 4 ∨ o.kind = 5 ∨ o.kind = 6 ∨ o.kind = 7 ∨ o.kind = 8 ∨ o.kind = 9 := by omega
    have hn : ¬ np < 1 := by omega
    rcases hk with hk | hk | hk | hk | hk | hk | hk | hk | hk <;> rw [hk] <;> simp [fitB, limF, belowB, mxF, rowF, withinF] <;> (try split) <;> omega
   have hall : o.cases.all caseP = o.cases.all caseR := by congr 1; funext c; exact caseP_R c
   rw [hall]
   have hF : (¬ (fitB o.a (limF o.kind np).1 = true ∧ fitB o.b (limF o.kind np).2 = true) ∨ (o.kind ≠ 6 ∧ (0 < o.cases.length ∨ o.dflt = true))) ↔ (¬ (withinF o.a (rowF o.kind).1 np = true ∧ withinF o.b (rowF o.kind).2 np = true) ∨ (o.kind ≠ 6 ∧ (o.cases.length ≠ 0 ∨ o.dflt = true))) := by
    rw [key, Nat.pos_iff_ne_zero]
   by_cases h3 : withinF o.a (rowF o.kind).1 np = true ∧ withinF o.b (rowF o.kind).2 np = true
   ·have hW : ¬ ¬ (withinF o.a (rowF o.kind).1 np = true ∧ withinF o.b (rowF o.kind).2 np = true) := fun h => h h3
    by_cases h4 : o.kind ≠ 6 ∧ (o.cases.length ≠ 0 ∨ o.dflt = true)
    ·have hP := hF.2 (.inr h4)
     rw [if_pos hP, if_neg hW, if_pos h4]
    ·have hP : ¬ _ := fun h => (hF.1 h).elim (fun h => h h3) h4
     rw [if_neg hP, if_neg hW, if_neg h4]
   ·have hP := hF.2 (.inl h3)
    rw [if_pos hP, if_pos h3]
set_option maxHeartbeats 4000000 in
theorem d_check {w : World} {F : List Piece} {A : Piece} {ca : Option Addr} {cc : Nat} {ok oa ob np : Int} {cs : List CaseM} {df : Bool} (hA : Reader A 3 ca cs.length (cs.flatMap CaseM.cells)) (H : SL w (A :: F)) :
  Calls Tryz.prog 34 #[.agg #[.int .i64 ok, .int .i64 oa, .int .i64 ob, .slice ca cs.length cc, .bool df], .int .i64 np] w fun o w' => o = .returned (.int .i64 (opE np ⟨ok, oa, ob, cs, df⟩)) ∧ SL w' (A :: F) := by
 rw [← opP_E]
 refine calls_den (args := [_, _]) Tryz.func34 rfl (Nat.le_of_ble_eq_true (by kernel_rfl)) (by kernel_rfl) ?_
 refine ⟨?_⟩
 refine Nw.as #[.int .i64 ok, .int .i64 oa, .int .i64 ob, .slice ca cs.length cc, .bool df] 44 rfl H fun b2 w H => ?_
 refine ⟨?_⟩
 refine BB.vr fun q1 e1 => ?_
 cases q1
 ·skip
  have h1 := of_decide_eq_false e1
  refine BB.vr fun q2 e2 => ?_
  cases q2
  ·skip
   have h2 := of_decide_eq_false e2
   refine H.ldi 0 rfl (v := .int .i64 ok) rfl ?_
   refine BB.vr fun q3 e3 => ?_
   cases q3
   ·skip
    have h3 := of_decide_eq_false e3
    refine H.ldi 0 rfl (v := .int .i64 ok) rfl ?_
    refine BB.vr fun q4 e4 => ?_
    cases q4
    ·skip
     have h4 := of_decide_eq_false e4
     refine Cn.no ?_
     refine ⟨?_⟩
     refine H.ldi 0 rfl (v := .slice ca cs.length cc) rfl ?_
     refine BB.vr fun q5 e5 => ?_
     cases q5
     ·skip
      have h5 := of_decide_eq_false e5
      refine Cn.no ?_
      refine ⟨?_⟩
      refine H.ldi 0 rfl (v := .int .i64 ok) rfl ?_
      refine Cl.sl (by kernel_rfl) (d_limits ok np H) fun w H => ?_
      refine ⟨?_⟩
      refine H.ldi 0 rfl (v := .int .i64 oa) rfl ?_
      refine Cl.sl (by kernel_rfl) (d_fits oa ((limF ok np).1) H) fun w H => ?_
      refine BB.vr fun q6 e6 => ?_
      cases q6
      ·skip
       refine BB.yes rfl ?_
       refine Cn.yes ?_
       refine ⟨?_⟩
       refine ret1 (fn := Tryz.f34) (.int .i64 4) rfl (by rfl) ?_
       have hcc : opP np ⟨ok, oa, ob, cs, df⟩ = 4 := opP_3 (by dsimp only; omega) (by dsimp only; omega) (.inl (by dsimp only; simp [*]))
       rw [hcc]
       exact ⟨rfl, H.pick [1] 2 (by decide)⟩
      ·skip
       refine BB.no rfl ?_
       refine H.ldi 0 rfl (v := .int .i64 ob) rfl ?_
       refine Cl.sl (by kernel_rfl) (d_fits ob ((limF ok np).2) H) fun w H => ?_
       refine BB.vr fun q7 e7 => ?_
       cases q7
       ·skip
        refine BB.yes rfl ?_
        refine Cn.yes ?_
        refine ⟨?_⟩
        refine ret1 (fn := Tryz.f34) (.int .i64 4) rfl (by rfl) ?_
        have hcc : opP np ⟨ok, oa, ob, cs, df⟩ = 4 := opP_3 (by dsimp only; omega) (by dsimp only; omega) (.inl (by dsimp only; simp [*]))
        rw [hcc]
        exact ⟨rfl, H.pick [1] 2 (by decide)⟩
       ·skip
        refine BB.no rfl ?_
        refine H.ldi 0 rfl (v := .int .i64 ok) rfl ?_
        refine BB.vr fun q8 e8 => ?_
        cases q8
        ·skip
         have h8 := bne_eq_false_iff_eq.1 e8
         refine Cn.no ?_
         refine ⟨?_⟩
         refine H.ldi 0 rfl (v := .slice ca cs.length cc) rfl ?_
         refine ⟨?_⟩
         refine den.loop (ι := Nat) [(4, 4), (8, 8), (66, 90)] (by kernel_rfl) (fun j => [(66, .int .i64 ↑j)]) (fun j w => (j ≤ cs.length ∧ (cs.take j).all caseP = true) ∧ SL w (row b2 #[.int .i64 ok, .int .i64 oa, .int .i64 ob, .slice ca cs.length cc, .bool df] 44 :: A :: F)) (fun j => cs.length - j) 0 ⟨rfl, trivial⟩ ⟨⟨Nat.zero_le _, rfl⟩, (H)⟩ ?_
         rintro j s w ⟨hc, H⟩
         have hob := Nat.lt_or_ge j cs.length
         rcases hob with hj | hj
         ·skip
          have hob : ∃ z, cs[j]? = some z := ⟨_, List.getElem?_eq_getElem hj⟩
          obtain ⟨cz, hcz⟩ := hob
          have hob := H.addrR 1 rfl hA (by omega)
          obtain ⟨cb, co, rfl⟩ := hob
          refine ⟨?_⟩
          refine BB.yes (decide_eq_true (by omega)) ?_
          refine Cn.yes ?_
          refine ⟨?_⟩
          refine ⟨?_⟩
          refine Ix.at j 3 (by kernel_rfl) (rfl) (hj) ?_
          refine H.ldR 1 rfl hA (by omega) (q := j * 3 + 0) rfl (v := .bool cz.send) ((case_cell hcz 0 (by decide)).trans rfl) ?_
          refine H.ldR 1 rfl hA (by omega) (q := j * 3 + 1) rfl (v := .int .i64 cz.chan) ((case_cell hcz 1 (by decide)).trans rfl) ?_
          refine H.ldR 1 rfl hA (by omega) (q := j * 3 + 2) rfl (v := .int .i64 cz.value) ((case_cell hcz 2 (by decide)).trans rfl) ?_
          refine Nw.as #[.bool false, .int .i64 0, .int .i64 0] 98 rfl H fun b8 w H => ?_
          refine H.st0 (cs' := #[.bool cz.send, .int .i64 0, .int .i64 0]) rfl rfl rfl fun w H => ?_
          refine H.st0 (cs' := #[.bool cz.send, .int .i64 cz.chan, .int .i64 0]) rfl rfl rfl fun w H => ?_
          refine H.st0 (cs' := #[.bool cz.send, .int .i64 cz.chan, .int .i64 cz.value]) rfl rfl rfl fun w H => ?_
          refine ⟨?_⟩
          refine H.ldi 0 rfl (v := .int .i64 cz.chan) rfl ?_
          refine Cl.sl (by kernel_rfl) (d_below cz.chan 8 H) fun w H => ?_
          refine BB.vr fun q9 e9 => ?_
          cases q9
          ·skip
           refine BB.yes rfl ?_
           refine Cn.yes ?_
           refine ⟨?_⟩
           refine ret1 (fn := Tryz.f34) (.int .i64 4) rfl (by rfl) ?_
           have hcc : opP np ⟨ok, oa, ob, cs, df⟩ = 4 := opP_4 (by dsimp only; omega) (by dsimp only; omega) (all_no hcz (by unfold caseP; simp [*, show belowB 0 100 = true from rfl]))
           rw [hcc]
           exact ⟨rfl, H.pick [2] 3 (by decide)⟩
          ·skip
           refine BB.no rfl ?_
           refine H.ldi 0 rfl (v := .int .i64 cz.value) rfl ?_
           refine Cl.sl (by kernel_rfl) (d_below cz.value 100 H) fun w H => ?_
           refine BB.vr fun q10 e10 => ?_
           cases q10
           ·skip
            refine BB.yes rfl ?_
            refine Cn.yes ?_
            refine ⟨?_⟩
            refine ret1 (fn := Tryz.f34) (.int .i64 4) rfl (by rfl) ?_
            have hcc : opP np ⟨ok, oa, ob, cs, df⟩ = 4 := opP_4 (by dsimp only; omega) (by dsimp only; omega) (all_no hcz (by unfold caseP; simp [*, show belowB 0 100 = true from rfl]))
            rw [hcc]
            exact ⟨rfl, H.pick [2] 3 (by decide)⟩
           ·skip
            refine BB.no rfl ?_
            refine H.ldi 0 rfl (v := .bool cz.send) rfl ?_
            refine BB.vr fun q11 e11 => ?_
            cases q11
            ·skip
             refine BB.yes rfl ?_
             refine H.ldi 0 rfl (v := .int .i64 cz.value) rfl ?_
             refine BB.vr fun q12 e12 => ?_
             cases q12
             ·skip
              have h12 := bne_eq_false_iff_eq.1 e12
              refine Cn.no ?_
              refine ⟨?_⟩
              refine IW.by (wrap_id (n := ↑j + 1) (by omega) (by omega)) ?_
              have hcase : caseP cz = true := by unfold caseP; simp [*, show belowB 0 100 = true from rfl]
              exact ⟨j + 1, ⟨rfl, trivial⟩, ⟨⟨by omega, all_step hc.2 hcz hcase⟩, H.pick [1, 2] 3 (by decide)⟩, (show cs.length - (j + 1) < cs.length - j by omega)⟩
             ·skip
              have h12 := bne_iff_ne.1 e12
              refine Cn.yes ?_
              refine ⟨?_⟩
              refine ret1 (fn := Tryz.f34) (.int .i64 4) rfl (by rfl) ?_
              have hcc : opP np ⟨ok, oa, ob, cs, df⟩ = 4 := opP_4 (by dsimp only; omega) (by dsimp only; omega) (all_no hcz (by unfold caseP; simp [*, show belowB 0 100 = true from rfl]))
              rw [hcc]
              exact ⟨rfl, H.pick [2] 3 (by decide)⟩
            ·skip
             refine BB.no rfl ?_
             refine Cn.no ?_
             refine ⟨?_⟩
             refine IW.by (wrap_id (n := ↑j + 1) (by omega) (by omega)) ?_
             have hcase : caseP cz = true := by unfold caseP; simp [*, show belowB 0 100 = true from rfl]
             exact ⟨j + 1, ⟨rfl, trivial⟩, ⟨⟨by omega, all_step hc.2 hcz hcase⟩, H.pick [1, 2] 3 (by decide)⟩, (show cs.length - (j + 1) < cs.length - j by omega)⟩
         ·skip
          have hob : j = cs.length := by omega
          obtain rfl := hob
          rw [List.take_length] at hc
          refine ⟨?_⟩
          refine BB.no (decide_eq_false (by omega)) ?_
          refine Cn.no ?_
          refine ⟨?_⟩
          refine ret1 (fn := Tryz.f34) (.int .i64 0) rfl (by rfl) ?_
          have hcc : opP np ⟨ok, oa, ob, cs, df⟩ = 0 := opP_5 (by dsimp only; omega) (by dsimp only; omega) (by dsimp only; rintro (h | ⟨h1, h2⟩); exact h ⟨by assumption, by assumption⟩; exact h1 (by first | assumption | rfl)) hc.2
          rw [hcc]
          exact ⟨rfl, H.pick [1] 2 (by decide)⟩
        ·skip
         have h8 := bne_iff_ne.1 e8
         refine H.ldi 0 rfl (v := .slice ca cs.length cc) rfl ?_
         refine BB.vr fun q13 e13 => ?_
         cases q13
         ·skip
          have h13 := of_decide_eq_false e13
          refine H.ldi 0 rfl (v := .bool df) rfl ?_
          refine BB.k ?_
          cases df
          ·skip
           refine Cn.no ?_
           refine ⟨?_⟩
           refine H.ldi 0 rfl (v := .slice ca cs.length cc) rfl ?_
           refine ⟨?_⟩
           refine den.loop (ι := Nat) [(4, 4), (8, 8), (66, 90)] (by kernel_rfl) (fun j => [(66, .int .i64 ↑j)]) (fun j w => (j ≤ cs.length ∧ (cs.take j).all caseP = true) ∧ SL w (row b2 #[.int .i64 ok, .int .i64 oa, .int .i64 ob, .slice ca cs.length cc, .bool false] 44 :: A :: F)) (fun j => cs.length - j) 0 ⟨rfl, trivial⟩ ⟨⟨Nat.zero_le _, rfl⟩, (H)⟩ ?_
           rintro j s w ⟨hc, H⟩
           have hob := Nat.lt_or_ge j cs.length
           rcases hob with hj | hj
           ·skip
            have hob : ∃ z, cs[j]? = some z := ⟨_, List.getElem?_eq_getElem hj⟩
            obtain ⟨cz, hcz⟩ := hob
            have hob := H.addrR 1 rfl hA (by omega)
            obtain ⟨cb, co, rfl⟩ := hob
            refine ⟨?_⟩
            refine BB.yes (decide_eq_true (by omega)) ?_
            refine Cn.yes ?_
            refine ⟨?_⟩
            refine ⟨?_⟩
            refine Ix.at j 3 (by kernel_rfl) (rfl) (hj) ?_
            refine H.ldR 1 rfl hA (by omega) (q := j * 3 + 0) rfl (v := .bool cz.send) ((case_cell hcz 0 (by decide)).trans rfl) ?_
            refine H.ldR 1 rfl hA (by omega) (q := j * 3 + 1) rfl (v := .int .i64 cz.chan) ((case_cell hcz 1 (by decide)).trans rfl) ?_
            refine H.ldR 1 rfl hA (by omega) (q := j * 3 + 2) rfl (v := .int .i64 cz.value) ((case_cell hcz 2 (by decide)).trans rfl) ?_
            refine Nw.as #[.bool false, .int .i64 0, .int .i64 0] 98 rfl H fun b8 w H => ?_
            refine H.st0 (cs' := #[.bool cz.send, .int .i64 0, .int .i64 0]) rfl rfl rfl fun w H => ?_
            refine H.st0 (cs' := #[.bool cz.send, .int .i64 cz.chan, .int .i64 0]) rfl rfl rfl fun w H => ?_
            refine H.st0 (cs' := #[.bool cz.send, .int .i64 cz.chan, .int .i64 cz.value]) rfl rfl rfl fun w H => ?_
            refine ⟨?_⟩
            refine H.ldi 0 rfl (v := .int .i64 cz.chan) rfl ?_
            refine Cl.sl (by kernel_rfl) (d_below cz.chan 8 H) fun w H => ?_
            refine BB.vr fun q14 e14 => ?_
            cases q14
            ·skip
             refine BB.yes rfl ?_
             refine Cn.yes ?_
             refine ⟨?_⟩
             refine ret1 (fn := Tryz.f34) (.int .i64 4) rfl (by rfl) ?_
             have hcc : opP np ⟨ok, oa, ob, cs, false⟩ = 4 := opP_4 (by dsimp only; omega) (by dsimp only; omega) (all_no hcz (by unfold caseP; simp [*, show belowB 0 100 = true from rfl]))
             rw [hcc]
             exact ⟨rfl, H.pick [2] 3 (by decide)⟩
            ·skip
             refine BB.no rfl ?_
             refine H.ldi 0 rfl (v := .int .i64 cz.value) rfl ?_
             refine Cl.sl (by kernel_rfl) (d_below cz.value 100 H) fun w H => ?_
             refine BB.vr fun q15 e15 => ?_
             cases q15
             ·skip
              refine BB.yes rfl ?_
              refine Cn.yes ?_
              refine ⟨?_⟩
              refine ret1 (fn := Tryz.f34) (.int .i64 4) rfl (by rfl) ?_
              have hcc : opP np ⟨ok, oa, ob, cs, false⟩ = 4 := opP_4 (by dsimp only; omega) (by dsimp only; omega) (all_no hcz (by unfold caseP; simp [*, show belowB 0 100 = true from rfl]))
              rw [hcc]
              exact ⟨rfl, H.pick [2] 3 (by decide)⟩
             ·skip
              refine BB.no rfl ?_
              refine H.ldi 0 rfl (v := .bool cz.send) rfl ?_
              refine BB.vr fun q16 e16 => ?_
              cases q16
              ·skip
               refine BB.yes rfl ?_
               refine H.ldi 0 rfl (v := .int .i64 cz.value) rfl ?_
               refine BB.vr fun q17 e17 => ?_
               cases q17
               ·skip
                have h17 := bne_eq_false_iff_eq.1 e17
                refine Cn.no ?_
                refine ⟨?_⟩
                refine IW.by (wrap_id (n := ↑j + 1) (by omega) (by omega)) ?_
                have hcase : caseP cz = true := by unfold caseP; simp [*, show belowB 0 100 = true from rfl]
                exact ⟨j + 1, ⟨rfl, trivial⟩, ⟨⟨by omega, all_step hc.2 hcz hcase⟩, H.pick [1, 2] 3 (by decide)⟩, (show cs.length - (j + 1) < cs.length - j by omega)⟩
               ·skip
                have h17 := bne_iff_ne.1 e17
                refine Cn.yes ?_
                refine ⟨?_⟩
                refine ret1 (fn := Tryz.f34) (.int .i64 4) rfl (by rfl) ?_
                have hcc : opP np ⟨ok, oa, ob, cs, false⟩ = 4 := opP_4 (by dsimp only; omega) (by dsimp only; omega) (all_no hcz (by unfold caseP; simp [*, show belowB 0 100 = true from rfl]))
                rw [hcc]
                exact ⟨rfl, H.pick [2] 3 (by decide)⟩
              ·skip
               refine BB.no rfl ?_
               refine Cn.no ?_
               refine ⟨?_⟩
               refine IW.by (wrap_id (n := ↑j + 1) (by omega) (by omega)) ?_
               have hcase : caseP cz = true := by unfold caseP; simp [*, show belowB 0 100 = true from rfl]
               exact ⟨j + 1, ⟨rfl, trivial⟩, ⟨⟨by omega, all_step hc.2 hcz hcase⟩, H.pick [1, 2] 3 (by decide)⟩, (show cs.length - (j + 1) < cs.length - j by omega)⟩
           ·skip
            have hob : j = cs.length := by omega
            obtain rfl := hob
            rw [List.take_length] at hc
            refine ⟨?_⟩
            refine BB.no (decide_eq_false (by omega)) ?_
            refine Cn.no ?_
            refine ⟨?_⟩
            refine ret1 (fn := Tryz.f34) (.int .i64 0) rfl (by rfl) ?_
            have hcc : opP np ⟨ok, oa, ob, cs, false⟩ = 0 := opP_5 (by dsimp only; omega) (by dsimp only; omega) (by dsimp only; rintro (h | ⟨h1, h2⟩); exact h ⟨by assumption, by assumption⟩; exact h2.elim (fun h => by omega) (fun h => by cases h)) hc.2
            rw [hcc]
            exact ⟨rfl, H.pick [1] 2 (by decide)⟩
          ·skip
           refine Cn.yes ?_
           refine ⟨?_⟩
           refine ret1 (fn := Tryz.f34) (.int .i64 4) rfl (by rfl) ?_
           have hcc : opP np ⟨ok, oa, ob, cs, true⟩ = 4 := opP_3 (by dsimp only; omega) (by dsimp only; omega) (.inr ⟨by assumption, .inr rfl⟩)
           rw [hcc]
           exact ⟨rfl, H.pick [1] 2 (by decide)⟩
         ·skip
          have h13 := of_decide_eq_true e13
          refine Cn.yes ?_
          refine ⟨?_⟩
          refine ret1 (fn := Tryz.f34) (.int .i64 4) rfl (by rfl) ?_
          have hcc : opP np ⟨ok, oa, ob, cs, df⟩ = 4 := opP_3 (by dsimp only; omega) (by dsimp only; omega) (.inr ⟨by assumption, .inl (by dsimp only; omega)⟩)
          rw [hcc]
          exact ⟨rfl, H.pick [1] 2 (by decide)⟩
     ·skip
      have h5 := of_decide_eq_true e5
      refine Cn.yes ?_
      refine ⟨?_⟩
      refine ret1 (fn := Tryz.f34) (.int .i64 2) rfl (by rfl) ?_
      have hcc : opP np ⟨ok, oa, ob, cs, df⟩ = 2 := opP_2 (by dsimp only; omega) (by dsimp only; omega)
      rw [hcc]
      exact ⟨rfl, H.pick [1] 2 (by decide)⟩
    ·skip
     have h4 := of_decide_eq_true e4
     refine Cn.yes ?_
     refine ⟨?_⟩
     refine ret1 (fn := Tryz.f34) (.int .i64 1) rfl (by rfl) ?_
     have hcc : opP np ⟨ok, oa, ob, cs, df⟩ = 1 := opP_1 (by dsimp only; omega)
     rw [hcc]
     exact ⟨rfl, H.pick [1] 2 (by decide)⟩
   ·skip
    have h3 := of_decide_eq_true e3
    refine Cn.yes ?_
    refine ⟨?_⟩
    refine ret1 (fn := Tryz.f34) (.int .i64 1) rfl (by rfl) ?_
    have hcc : opP np ⟨ok, oa, ob, cs, df⟩ = 1 := opP_1 (by dsimp only; omega)
    rw [hcc]
    exact ⟨rfl, H.pick [1] 2 (by decide)⟩
  ·skip
   have h2 := of_decide_eq_true e2
   refine Cn.yes ?_
   refine ⟨?_⟩
   refine ret1 (fn := Tryz.f34) (.int .i64 1) rfl (by rfl) ?_
   have hcc : opP np ⟨ok, oa, ob, cs, df⟩ = 1 := opP_1 (by dsimp only; omega)
   rw [hcc]
   exact ⟨rfl, H.pick [1] 2 (by decide)⟩
 ·skip
  have h1 := of_decide_eq_true e1
  refine Cn.yes ?_
  refine ⟨?_⟩
  refine ret1 (fn := Tryz.f34) (.int .i64 1) rfl (by rfl) ?_
  have hcc : opP np ⟨ok, oa, ob, cs, df⟩ = 1 := opP_1 (by dsimp only; omega)
  rw [hcc]
  exact ⟨rfl, H.pick [1] 2 (by decide)⟩
end Go.Proofs.YtcgajljbahbhdaaGreat
