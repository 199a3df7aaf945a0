/- Texts of the proof, several in one file: LoomB4, LoomB5, LoomC. -/
import Derived.Test.YtchkaaeoffmjnaaGreatDoorG10
import Derived.Test.YtchkaaeoffmjnaaGreatDoorG08
import Derived.Test.YtchkaaeoffmjnaaGreatDoorG07
import Derived.Test.YtchkaaeoffmjnaaGreatDoorG03
namespace Go.Proofs.YtchkaaeoffmjnaaGreatDoor
set_option linter.unusedVariables false
set_option linter.unusedSimpArgs false
open Go.RowKit
set_option maxRecDepth 100000
theorem cur_drawI {w : World} {F : List Piece} {cb : Nat} {pl dr : List Int} {d n : Nat} (h0 : 1 ≤ n) (h1 : n ≤ 64) (hd : ∀ y ∈ dr, 0 ≤ y) (H : SL w (CurP cb pl (dr.drop d) :: F)) : Calls Tryz.prog 165 #[.pointer (some ⟨cb, 0, none⟩), .int .i64 n] w fun o w' =>
  o = .returned (.tuple #[.int .i64 ((drawI dr d n).1 : Int), .int .i64 0]) ∧ SL w' (CurP cb pl (dr.drop (drawI dr d n).2) :: F) := by
 refine (cur_draw h0 h1 (fun y hy => hd y (List.mem_of_mem_drop hy)) H).mono ?_
 rintro o w' ⟨rfl, H⟩
 unfold drawI
 have hl : (dr.drop d).length = dr.length - d := List.length_drop
 by_cases hn : n = 1
 ·rw [if_pos (.inl hn), if_pos (.inl hn)]
  rw [if_pos hn] at H
  exact ⟨rfl, H⟩
 ·rw [if_neg hn] at H
  by_cases hdl : dr.length ≤ d
  ·rw [if_pos (.inr (by omega)), if_pos (.inr hdl)]
   have e : dr.drop d = [] := List.drop_eq_nil_of_le hdl
   rw [e] at H
   dsimp only
   rw [e]
   exact ⟨rfl, H⟩
  ·rw [if_neg (by omega), if_neg (by omega), ← List.drop_one, List.drop_drop] at *
   refine ⟨?_, ?_⟩
   ·rw [List.getD_eq_getElem?_getD, List.getElem?_drop, Nat.add_zero, ← List.getD_eq_getElem?_getD]
   ·exact H
theorem p_talkC {w : World} {F : List Piece} {np k lb : Nat} {sc : ScrM} {x : LmM} {t m : Int} {vp vl vd : Value} {n0 n1 n2 n3 n4 n5 n6 n7 : Int} (hn : x.name = [n0, n1, n2, n3, n4, n5, n6, n7]) (hk : Lk np k x) (hkb : k ≤ 998000) (g : Int) {c : CaseM} (hc : 0 ≤ c.chan ∧ c.chan < 8) (ca : Int) (H : SL w (LmP lb sc ⟨t, m, vp, vl, vd⟩ x :: F)) :
  Calls Tryz.prog 108 #[.pointer (some ⟨lb, 0, none⟩), .int .i64 g, .agg #[.bool c.send, .int .i64 c.chan, .int .i64 c.value], .int .i64 ca] w fun o w' => ∃ b y0, o = .returned (.bool b) ∧ talkL x g c ca = (if b = true then y0 else { y0 with pan := true }) ∧ SL w' (LmP lb sc ⟨t, m, vp, vl, vd⟩ y0 :: F) := by
 obtain ⟨cj, hj⟩ := Int.eq_ofNat_of_zero_le hc.1
 have h := p_talk (w := w) (F := F) hn hk hkb g (cj := cj) (by omega) c.send c.value ca H
 rw [← hj] at h
 exact h
set_option maxHeartbeats 4000000 in
theorem p_choose {w : World} {F : List Piece} {np k lb : Nat} {sc : ScrM} {x : LmM} {t m : Int} {vp vl vd : Value} {A : Piece} {n0 n1 n2 n3 n4 n5 n6 n7 : Int} (hn : x.name = [n0, n1, n2, n3, n4, n5, n6, n7]) (hk : Lk np k x) (hkb : k ≤ 995000) {g : Int} (hgw : 0 ≤ g ∧ g < (x.crew.length : Int)) (hge : ∀ z ∈ sc.draws, 0 ≤ z) {ox : OpX} (hA : Reader A 3 ox.ca ox.op.cases.length (ox.op.cases.flatMap CaseM.cells)) (hop : OpOk np ox.op) (H : SL w (LmP lb sc ⟨t, m, vp, vl, vd⟩ x :: A :: F)) :
  Calls Tryz.prog 111 #[.pointer (some ⟨lb, 0, none⟩), .int .i64 g, .agg ox.cells.toArray] w fun o w' => ∃ b y0, o = .returned (.bool b) ∧ chooseL sc x g ox.op = (if b = true then y0 else { y0 with pan := true }) ∧ SL w' (LmP lb sc ⟨t, m, vp, vl, vd⟩ y0 :: A :: F) := by
 have hcl := hop.cl
 obtain ⟨rd, hrd⟩ : ∃ z, readyL (okN x) (pipesN x) ox.op.cases = z := ⟨_, rfl⟩
 have hrl := readyL_len (okN x) (pipesN x) ox.op.cases
 rw [hrd] at hrl
 obtain ⟨oca, hoca⟩ : ∃ z, ox.ca = z := ⟨_, rfl⟩
 rw [hoca] at hA
 unfold OpX.cells
 rw [hoca]
 rcases Nat.lt_or_ge 0 rd.length with hr | hr
 ·have hdl := drawI_lt sc.draws x.d hr
  obtain ⟨an, han, hanl⟩ := readyL_at (ok := okN x) (M := pipesN x) (L := ox.op.cases) (i := (drawI sc.draws x.d rd.length).1) (by rw [hrd]; exact hdl)
  rw [hrd] at han
  have hdn : rd[(drawI sc.draws x.d rd.length).1]? = some (an : Int) := by rw [List.getD_eq_getElem?_getD, List.getElem?_eq_getElem hdl] at han; rw [List.getElem?_eq_getElem hdl]; exact congrArg some han
  obtain ⟨cz, hcz⟩ : ∃ z, ox.op.cases[an]? = some z := ⟨_, List.getElem?_eq_getElem hanl⟩
  have hcz8 := hop.ch cz (List.mem_of_getElem? hcz)
  obtain ⟨ocb, oco, rfl⟩ := H.addrR 1 rfl hA (by omega)
  have hob := lm_open (x := x) hn H
  obtain ⟨cb1, crb1, pn1, pc1, ala1, alc1, ta1, tc1, ps1, hl1, H⟩ := hob
  refine calls_den (args := [_, _, _]) Tryz.func111 rfl (Nat.le_of_ble_eq_true (by kernel_rfl)) (by kernel_rfl) ?_
  refine ⟨?_⟩
  refine Nw.as #[.int .i64 ox.op.kind, .int .i64 ox.op.a, .int .i64 ox.op.b, .slice (some ⟨ocb, oco, none⟩) ox.op.cases.length ox.cc, .bool ox.op.dflt] 66 rfl H fun b5 w H => ?_
  refine ⟨?_⟩
  refine Drw.oft (.calm 0 (.calm 1 (.calm 2 (.calm 3 (.calm 4 (.calm 5 (.act 6 true (.pure 7 .nil)))))))) (by kernel_rfl) mixed (fun w => SL w _) H.drew ?_
  replace H := H.drew
  refine LdC.i 0 rfl (v := .slice (some ⟨ocb, oco, none⟩) ox.op.cases.length ox.cc) rfl ?_
  refine LdC.i 1 rfl (v := .slice (some ⟨pn1, 0, none⟩) 8 pc1) rfl ?_
  have h1 := H.pick [6, 8, 4, 0, 1, 2, 3, 5, 7] 9 (by decide)
  simp only [pk, nth, pkA, pkB, pkC, pkD, pkE, pkF] at h1
  have hq := p_readies (x := x) (L := ox.op.cases) (ca := ox.cc) (cb := pc1) hk hl1 (by omega) hA Reader.slc h1
  rw [hrd] at hq
  refine Cl.by (by kernel_rfl) hq ?_
  rintro _ w ⟨ra, rc, rfl, H⟩
  refine ⟨_, rfl, ?_⟩
  replace H := H.pick [0, 4, 5, 6, 7, 3, 8, 1, 9, 2] 10 (by decide)
  simp only [pk, nth, pkA, pkB, pkC, pkD, pkE, pkF] at H
  have hob := SL.slcAddr H (by omega)
  obtain ⟨rb, rfl⟩ := hob
  refine ⟨.inl rfl, ?_⟩
  refine ⟨?_⟩
  refine ⟨?_⟩
  refine BB.yes (decide_eq_true (by omega)) ?_
  refine Cn.yes ?_
  refine ⟨?_⟩
  refine H.ldi 2 rfl (v := .pointer (some ⟨cb1, 0, none⟩)) rfl ?_
  have h1 := H.pick [3, 0, 1, 2, 4, 5, 6, 7, 8, 9] 10 (by decide)
  simp only [pk, nth, pkA, pkB, pkC, pkD, pkE, pkF] at h1
  refine Cl.sl (by kernel_rfl) (cur_drawI (dr := sc.draws) (d := x.d) (n := rd.length) (by omega) (by omega) hge h1) fun w H => ?_
  replace H := H.pick [1, 2, 3, 0, 4, 5, 6, 7, 8, 9] 10 (by decide)
  simp only [pk, nth, pkA, pkB, pkC, pkD, pkE, pkF] at H
  refine ⟨?_⟩
  refine Drw.oft (.calm 0 (.calm 1 (.calm 2 (.calm 3 (.calm 4 (.calm 5 (.calm 6 (.calm 7 (.calm 8 (.calm 9 (.calm 10 (.calm 11 (.calm 12 (.calm 13 (.act 14 true (.pure 15 .nil)))))))))))))))) (by kernel_rfl) mixed (fun w => SL w _) H.drew ?_
  replace H := H.drew
  refine LdC.i 1 rfl (v := .slice (some ⟨ocb, oco, none⟩) ox.op.cases.length ox.cc) rfl ?_
  refine Ix.at0 ((drawI sc.draws x.d rd.length).1) 1 (by kernel_rfl) (rfl) (hdl) ?_
  refine LdC.S 0 rfl (v := .int .i64 ↑an) ((by rw [Nat.mul_one]; unfold ints; rw [List.getElem?_map, hdn]; rfl)) ?_
  refine Ix.at an 3 (by kernel_rfl) (rfl) (hanl) ?_
  refine LdC.R 9 rfl hA (by omega) (q := an * 3 + 0) rfl (v := .bool cz.send) ((case_cell hcz 0 (by decide)).trans rfl) ?_
  refine LdC.R 9 rfl hA (by omega) (q := an * 3 + 1) rfl (v := .int .i64 cz.chan) ((case_cell hcz 1 (by decide)).trans rfl) ?_
  refine LdC.R 9 rfl hA (by omega) (q := an * 3 + 2) rfl (v := .int .i64 cz.value) ((case_cell hcz 2 (by decide)).trans rfl) ?_
  refine Ix.at0 ((drawI sc.draws x.d rd.length).1) 1 (by kernel_rfl) (rfl) (hdl) ?_
  refine LdC.S 0 rfl (v := .int .i64 ↑an) ((by rw [Nat.mul_one]; unfold ints; rw [List.getElem?_map, hdn]; rfl)) ?_
  have H0 := H.pick [2, 3, 4, 5, 6, 7, 8, 0, 1, 9] 10 (by decide)
  simp only [pk, nth, pkA, pkB, pkC, pkD, pkE, pkF] at H0
  replace H := lm_shut (x := { x with d := (drawI sc.draws x.d rd.length).2 }) hl1 (by first | rfl | simp [turnL, noteL, backN_len]) hn H0
  have h1 := H
  refine Cl.by (by kernel_rfl) (p_talkC (x := { x with d := (drawI sc.draws x.d rd.length).2 }) hn ((hk.dd (drawI sc.draws x.d rd.length).2)) (by omega) g (c := cz) hcz8 (an : Int) h1) ?_
  rintro _ w ⟨b, y0, rfl, hres, H⟩
  refine ⟨_, rfl, ?_⟩
  refine BB.k ?_
  refine ⟨.inl rfl, ?_⟩
  refine ret1 (fn := Tryz.f111) (.bool b) rfl (by rfl) ?_
  have hc : chooseL sc x g ox.op = (if b = true then y0 else { y0 with pan := true }) := by rw [choose_ready hrd hr han hcz]; exact hres
  exact ⟨b, y0, rfl, hc, H.pick [0, 3] 4 (by decide)⟩
 ·have hr : ¬ 0 < rd.length := by omega
  cases hdf : ox.op.dflt with
  | true =>
   have hob := lm_open (x := x) hn H
   obtain ⟨cb1, crb1, pn1, pc1, ala1, alc1, ta1, tc1, ps1, hl1, H⟩ := hob
   refine calls_den (args := [_, _, _]) Tryz.func111 rfl (Nat.le_of_ble_eq_true (by kernel_rfl)) (by kernel_rfl) ?_
   refine ⟨?_⟩
   refine Nw.as #[.int .i64 ox.op.kind, .int .i64 ox.op.a, .int .i64 ox.op.b, .slice oca ox.op.cases.length ox.cc, .bool true] 66 rfl H fun b5 w H => ?_
   refine ⟨?_⟩
   refine Drw.oft (.calm 0 (.calm 1 (.calm 2 (.calm 3 (.calm 4 (.calm 5 (.act 6 true (.pure 7 .nil)))))))) (by kernel_rfl) mixed (fun w => SL w _) H.drew ?_
   replace H := H.drew
   refine LdC.i 0 rfl (v := .slice oca ox.op.cases.length ox.cc) rfl ?_
   refine LdC.i 1 rfl (v := .slice (some ⟨pn1, 0, none⟩) 8 pc1) rfl ?_
   have h1 := H.pick [6, 8, 4, 0, 1, 2, 3, 5, 7] 9 (by decide)
   simp only [pk, nth, pkA, pkB, pkC, pkD, pkE, pkF] at h1
   have hq := p_readies (x := x) (L := ox.op.cases) (ca := ox.cc) (cb := pc1) hk hl1 (by omega) hA Reader.slc h1
   rw [hrd] at hq
   refine Cl.by (by kernel_rfl) hq ?_
   rintro _ w ⟨ra, rc, rfl, H⟩
   refine ⟨_, rfl, ?_⟩
   replace H := H.pick [0, 4, 5, 6, 7, 3, 8, 1, 9, 2] 10 (by decide)
   simp only [pk, nth, pkA, pkB, pkC, pkD, pkE, pkF] at H
   refine ⟨.inl rfl, ?_⟩
   refine ⟨?_⟩
   refine ⟨?_⟩
   refine BB.no (decide_eq_false (by omega)) ?_
   refine Cn.no ?_
   refine ⟨?_⟩
   refine H.ldi 1 rfl (v := .bool true) rfl ?_
   refine BB.yes rfl ?_
   refine Cn.yes ?_
   refine ⟨?_⟩
   refine Cl.sl (by kernel_rfl) (p_bare H 8 g) fun w H => ?_
   have h1 := H.pick [2, 8, 0, 1, 3, 4, 5, 6, 7, 9] 10 (by decide)
   simp only [pk, nth, pkA, pkB, pkC, pkD, pkE, pkF] at h1
   refine Cl.by (by kernel_rfl) (p_noteO (Nat.le_trans (hk).tr (by omega)) ⟨8, g, -1, -1, -1, -1, false, false⟩ h1) ?_
   rintro _ w ⟨tn1, tk1, rfl, H⟩
   refine ⟨_, rfl, ?_⟩
   replace H := H.pick [2, 3, 0, 4, 5, 6, 7, 8, 1, 9] 10 (by decide)
   simp only [pk, nth, pkA, pkB, pkC, pkD, pkE, pkF] at H
   refine ⟨?_⟩
   refine H.ldi 2 rfl (v := .pointer (some ⟨crb1, 0, none⟩)) rfl ?_
   have h1 := H.pick [4, 0, 1, 2, 3, 5, 6, 7, 8, 9] 10 (by decide)
   simp only [pk, nth, pkA, pkB, pkC, pkD, pkE, pkF] at h1
   refine Cl.sl (by kernel_rfl) (p_go (L := (noteL x ⟨8, g, -1, -1, -1, -1, false, false⟩).crew) (Small.more ((hk.note ⟨8, g, -1, -1, -1, -1, false, false⟩)).sm (by omega)) g h1) fun w H => ?_
   replace H := H.pick [1, 2, 3, 4, 0, 5, 6, 7, 8, 9] 10 (by decide)
   simp only [pk, nth, pkA, pkB, pkC, pkD, pkE, pkF] at H
   refine ⟨?_⟩
   refine ret1 (fn := Tryz.f111) (.bool true) rfl (by rfl) ?_
   have H0 := H.pick [2, 3, 4, 5, 6, 7, 8, 0, 1, 9] 10 (by decide)
   simp only [pk, nth, pkA, pkB, pkC, pkD, pkE, pkF] at H0
   replace H := lm_shut (x := (turnL (noteL x ⟨8, g, -1, -1, -1, -1, false, false⟩) g 0 0)) hl1 (by first | rfl | simp [turnL, noteL, backN_len]) hn H0
   have hc : chooseL sc x g ox.op = (turnL (noteL x ⟨8, g, -1, -1, -1, -1, false, false⟩) g 0 0) := by exact choose_dflt (by rw [hrd]; exact hr) hdf
   exact ⟨true, (turnL (noteL x ⟨8, g, -1, -1, -1, -1, false, false⟩) g 0 0), rfl, hc, H.pick [0, 3] 4 (by decide)⟩
  | false =>
   have hob := lm_open (x := x) hn H
   obtain ⟨cb1, crb1, pn1, pc1, ala1, alc1, ta1, tc1, ps1, hl1, H⟩ := hob
   refine calls_den (args := [_, _, _]) Tryz.func111 rfl (Nat.le_of_ble_eq_true (by kernel_rfl)) (by kernel_rfl) ?_
   refine ⟨?_⟩
   refine Nw.as #[.int .i64 ox.op.kind, .int .i64 ox.op.a, .int .i64 ox.op.b, .slice oca ox.op.cases.length ox.cc, .bool false] 66 rfl H fun b5 w H => ?_
   refine ⟨?_⟩
   refine Drw.oft (.calm 0 (.calm 1 (.calm 2 (.calm 3 (.calm 4 (.calm 5 (.act 6 true (.pure 7 .nil)))))))) (by kernel_rfl) mixed (fun w => SL w _) H.drew ?_
   replace H := H.drew
   refine LdC.i 0 rfl (v := .slice oca ox.op.cases.length ox.cc) rfl ?_
   refine LdC.i 1 rfl (v := .slice (some ⟨pn1, 0, none⟩) 8 pc1) rfl ?_
   have h1 := H.pick [6, 8, 4, 0, 1, 2, 3, 5, 7] 9 (by decide)
   simp only [pk, nth, pkA, pkB, pkC, pkD, pkE, pkF] at h1
   have hq := p_readies (x := x) (L := ox.op.cases) (ca := ox.cc) (cb := pc1) hk hl1 (by omega) hA Reader.slc h1
   rw [hrd] at hq
   refine Cl.by (by kernel_rfl) hq ?_
   rintro _ w ⟨ra, rc, rfl, H⟩
   refine ⟨_, rfl, ?_⟩
   replace H := H.pick [0, 4, 5, 6, 7, 3, 8, 1, 9, 2] 10 (by decide)
   simp only [pk, nth, pkA, pkB, pkC, pkD, pkE, pkF] at H
   refine ⟨.inl rfl, ?_⟩
   refine ⟨?_⟩
   refine ⟨?_⟩
   refine BB.no (decide_eq_false (by omega)) ?_
   refine Cn.no ?_
   refine ⟨?_⟩
   refine H.ldi 1 rfl (v := .bool false) rfl ?_
   refine BB.no rfl ?_
   refine Cn.no ?_
   refine ⟨?_⟩
   refine Cl.sl (by kernel_rfl) (p_bare H 6 g) fun w H => ?_
   refine Nw.as #[.int .i64 0, .int .i64 0, .int .i64 0, .int .i64 0, .int .i64 0, .int .i64 0, .bool false, .bool false] 53 rfl H fun b10 w H => ?_
   refine H.st0 (cs' := #[.int .i64 6, .int .i64 0, .int .i64 0, .int .i64 0, .int .i64 0, .int .i64 0, .bool false, .bool false]) rfl rfl rfl fun w H => ?_
   refine H.st0 (cs' := #[.int .i64 6, .int .i64 g, .int .i64 0, .int .i64 0, .int .i64 0, .int .i64 0, .bool false, .bool false]) rfl rfl rfl fun w H => ?_
   refine H.st0 (cs' := #[.int .i64 6, .int .i64 g, .int .i64 (-1), .int .i64 0, .int .i64 0, .int .i64 0, .bool false, .bool false]) rfl rfl rfl fun w H => ?_
   refine H.st0 (cs' := #[.int .i64 6, .int .i64 g, .int .i64 (-1), .int .i64 (-1), .int .i64 0, .int .i64 0, .bool false, .bool false]) rfl rfl rfl fun w H => ?_
   refine H.st0 (cs' := #[.int .i64 6, .int .i64 g, .int .i64 (-1), .int .i64 (-1), .int .i64 (-1), .int .i64 0, .bool false, .bool false]) rfl rfl rfl fun w H => ?_
   refine H.st0 (cs' := #[.int .i64 6, .int .i64 g, .int .i64 (-1), .int .i64 (-1), .int .i64 (-1), .int .i64 (-1), .bool false, .bool false]) rfl rfl rfl fun w H => ?_
   refine H.st0 (cs' := #[.int .i64 6, .int .i64 g, .int .i64 (-1), .int .i64 (-1), .int .i64 (-1), .int .i64 (-1), .bool false, .bool false]) rfl rfl rfl fun w H => ?_
   refine H.st0 (cs' := #[.int .i64 6, .int .i64 g, .int .i64 (-1), .int .i64 (-1), .int .i64 (-1), .int .i64 (-1), .bool false, .bool false]) rfl rfl rfl fun w H => ?_
   refine ⟨?_⟩
   refine H.ldi 2 rfl (v := .slice oca ox.op.cases.length ox.cc) rfl ?_
   refine H.st0 (cs' := #[.int .i64 6, .int .i64 g, .int .i64 (-1), .int .i64 ↑ox.op.cases.length, .int .i64 (-1), .int .i64 (-1), .bool false, .bool false]) rfl rfl rfl fun w H => ?_
   refine H.st0 (cs' := #[.int .i64 6, .int .i64 g, .int .i64 (-1), .int .i64 ↑ox.op.cases.length, .int .i64 0, .int .i64 (-1), .bool false, .bool false]) rfl rfl rfl fun w H => ?_
   refine ⟨?_⟩
   refine H.ldi 0 rfl (v := .int .i64 6) rfl ?_
   refine H.ldi 0 rfl (v := .int .i64 g) rfl ?_
   refine H.ldi 0 rfl (v := .int .i64 (-1)) rfl ?_
   refine H.ldi 0 rfl (v := .int .i64 ↑ox.op.cases.length) rfl ?_
   refine H.ldi 0 rfl (v := .int .i64 0) rfl ?_
   refine H.ldi 0 rfl (v := .int .i64 (-1)) rfl ?_
   refine H.ldi 0 rfl (v := .bool false) rfl ?_
   refine H.ldi 0 rfl (v := .bool false) rfl ?_
   have h1 := H.pick [3, 9, 0, 1, 2, 4, 5, 6, 7, 8, 10] 11 (by decide)
   simp only [pk, nth, pkA, pkB, pkC, pkD, pkE, pkF] at h1
   refine Cl.by (by kernel_rfl) (p_noteO (Nat.le_trans (hk).tr (by omega)) ⟨6, g, -1, ↑ox.op.cases.length, 0, -1, false, false⟩ h1) ?_
   rintro _ w ⟨tn1, tk1, rfl, H⟩
   refine ⟨_, rfl, ?_⟩
   replace H := H.pick [2, 3, 4, 0, 5, 6, 7, 8, 9, 1, 10] 11 (by decide)
   simp only [pk, nth, pkA, pkB, pkC, pkD, pkE, pkF] at H
   refine ⟨?_⟩
   refine Drw.of [(0, true), (1, true), (2, true), (3, true), (4, true), (5, true), (6, true), (7, false)] (by kernel_rfl) mixed (fun w => SL w _) H.drew ?_
   replace H := H.drew
   refine LdC.i 2 rfl (v := .slice oca ox.op.cases.length ox.cc) rfl ?_
   refine LdC.i 3 rfl (v := .slice (some ⟨pn1, 0, none⟩) 8 pc1) rfl ?_
   have h1 := H.pick [8, 10, 6, 0, 1, 2, 3, 4, 5, 7, 9] 11 (by decide)
   simp only [pk, nth, pkA, pkB, pkC, pkD, pkE, pkF] at h1
   refine Cl.sl (by kernel_rfl) (p_parks (x := (noteL x ⟨6, g, -1, ↑ox.op.cases.length, 0, -1, false, false⟩)) (L := ox.op.cases) (ca := ox.cc) (cb := pc1) g ((hk.note ⟨6, g, -1, ↑ox.op.cases.length, 0, -1, false, false⟩)) hl1 (by omega) hA Reader.slc h1) fun w H => ?_
   replace H := H.pick [3, 4, 5, 6, 7, 8, 2, 9, 0, 10, 1] 11 (by decide)
   simp only [pk, nth, pkA, pkB, pkC, pkD, pkE, pkF] at H
   have hkP : Lk np (k + 1) ({ (noteL x ⟨6, g, -1, ↑ox.op.cases.length, 0, -1, false, false⟩) with M := backN (noteL x ⟨6, g, -1, ↑ox.op.cases.length, 0, -1, false, false⟩).name (parkF (okN (noteL x ⟨6, g, -1, ↑ox.op.cases.length, 0, -1, false, false⟩)) g ox.op.cases (pipesN (noteL x ⟨6, g, -1, ↑ox.op.cases.length, 0, -1, false, false⟩))).2 (noteL x ⟨6, g, -1, ↑ox.op.cases.length, 0, -1, false, false⟩).M } : LmM) := Lk.parked (x := (noteL x ⟨6, g, -1, ↑ox.op.cases.length, 0, -1, false, false⟩)) ((hk.note ⟨6, g, -1, ↑ox.op.cases.length, 0, -1, false, false⟩)) hgw ox.op.cases
   refine ⟨.inl rfl, ?_⟩
   refine ⟨?_⟩
   refine H.ldi 3 rfl (v := .pointer (some ⟨crb1, 0, none⟩)) rfl ?_
   have h1 := H.pick [5, 0, 1, 2, 3, 4, 6, 7, 8, 9, 10] 11 (by decide)
   simp only [pk, nth, pkA, pkB, pkC, pkD, pkE, pkF] at h1
   refine Cl.sl (by kernel_rfl) (p_park (L := ({ (noteL x ⟨6, g, -1, ↑ox.op.cases.length, 0, -1, false, false⟩) with M := backN (noteL x ⟨6, g, -1, ↑ox.op.cases.length, 0, -1, false, false⟩).name (parkF (okN (noteL x ⟨6, g, -1, ↑ox.op.cases.length, 0, -1, false, false⟩)) g ox.op.cases (pipesN (noteL x ⟨6, g, -1, ↑ox.op.cases.length, 0, -1, false, false⟩))).2 (noteL x ⟨6, g, -1, ↑ox.op.cases.length, 0, -1, false, false⟩).M }).crew) (Small.more (hkP).sm (by omega)) g h1) fun w H => ?_
   replace H := H.pick [1, 2, 3, 4, 5, 0, 6, 7, 8, 9, 10] 11 (by decide)
   simp only [pk, nth, pkA, pkB, pkC, pkD, pkE, pkF] at H
   refine ⟨?_⟩
   refine ret1 (fn := Tryz.f111) (.bool true) rfl (by rfl) ?_
   have H0 := H.pick [3, 4, 5, 6, 7, 8, 9, 0, 1, 2, 10] 11 (by decide)
   simp only [pk, nth, pkA, pkB, pkC, pkD, pkE, pkF] at H0
   replace H := lm_shut (x := (turnL ({ (noteL x ⟨6, g, -1, ↑ox.op.cases.length, 0, -1, false, false⟩) with M := backN (noteL x ⟨6, g, -1, ↑ox.op.cases.length, 0, -1, false, false⟩).name (parkF (okN (noteL x ⟨6, g, -1, ↑ox.op.cases.length, 0, -1, false, false⟩)) g ox.op.cases (pipesN (noteL x ⟨6, g, -1, ↑ox.op.cases.length, 0, -1, false, false⟩))).2 (noteL x ⟨6, g, -1, ↑ox.op.cases.length, 0, -1, false, false⟩).M }) g 0 1)) hl1 (by first | rfl | simp [turnL, noteL, backN_len]) hn H0
   have hc : chooseL sc x g ox.op = (turnL ({ (noteL x ⟨6, g, -1, ↑ox.op.cases.length, 0, -1, false, false⟩) with M := backN (noteL x ⟨6, g, -1, ↑ox.op.cases.length, 0, -1, false, false⟩).name (parkF (okN (noteL x ⟨6, g, -1, ↑ox.op.cases.length, 0, -1, false, false⟩)) g ox.op.cases (pipesN (noteL x ⟨6, g, -1, ↑ox.op.cases.length, 0, -1, false, false⟩))).2 (noteL x ⟨6, g, -1, ↑ox.op.cases.length, 0, -1, false, false⟩).M }) g 0 1) := by exact choose_park (by rw [hrd]; exact hr) hdf
   exact ⟨true, (turnL ({ (noteL x ⟨6, g, -1, ↑ox.op.cases.length, 0, -1, false, false⟩) with M := backN (noteL x ⟨6, g, -1, ↑ox.op.cases.length, 0, -1, false, false⟩).name (parkF (okN (noteL x ⟨6, g, -1, ↑ox.op.cases.length, 0, -1, false, false⟩)) g ox.op.cases (pipesN (noteL x ⟨6, g, -1, ↑ox.op.cases.length, 0, -1, false, false⟩))).2 (noteL x ⟨6, g, -1, ↑ox.op.cases.length, 0, -1, false, false⟩).M }) g 0 1), rfl, hc, H.pick [0, 4] 5 (by decide)⟩
end Go.Proofs.YtchkaaeoffmjnaaGreatDoor
namespace Go.Proofs.YtchkaaeoffmjnaaGreatDoor
set_option linter.unusedVariables false
set_option linter.unusedSimpArgs false
open Go.RowKit
set_option maxRecDepth 100000
section
variable {np k : Nat} {x : LmM} {ps : List Nat} {w : World} {F : List Piece} {j h : Nat}
theorem names_make (hk : Lk np k x) (hl : ps.length = x.M.length) : (pcs (gsN x.name ps)).set (j * 1) (.pointer (some ⟨h, 0, none⟩)) = pcs (gsN (x.name.set j (x.M.length : Int)) (ps ++ [h])) := by
 rw [← hl, gsN_make (by rw [hl]; exact hk.nm), Nat.mul_one]
 unfold pcs
 rw [List.map_set]
 rfl
theorem names_got (hk : Lk np k x) (hl : ps.length = x.M.length) (hj : j < 8) : (pcs (gsN (x.name.set j (x.M.length : Int)) (ps ++ [h])))[j * 1]? = some (.pointer (some ⟨h, 0, none⟩)) := by
 rw [← names_make hk hl, Nat.mul_one]
 have hlt : j < (pcs (gsN x.name ps)).length := by unfold pcs; rw [List.length_map, gsN_len, hk.n8]; exact hj
 rw [List.getElem?_set, if_pos rfl, if_pos hlt]
theorem exit_go (L : List One) (g : Int) : (turnF (turnF L g 0 2 0).2 g 0 0 1).2 = (turnF L g 0 2 0).2 := by
 by_cases hg : 0 ≤ g
 ·cases hz : L[g.toNat]? with
  | none =>
   have e : (turnF L g 0 2 0).2 = L := by unfold turnF; rw [if_pos hg, hz]
   rw [e]
   unfold turnF
   rw [if_pos hg, hz]
  | some z =>
   by_cases hs : z.state = 0
   ·have e : (turnF L g 0 2 0).2 = L.set g.toNat ⟨z.program, z.place + 0, 2⟩ := by unfold turnF; rw [if_pos hg, hz]; dsimp only; rw [if_pos hs]
    rw [e]
    have hlt := (List.getElem?_eq_some_iff.1 hz).1
    unfold turnF
    rw [if_pos hg, List.getElem?_set, if_pos rfl, if_pos hlt]
    dsimp only
    rw [if_neg (by decide)]
   ·have e : (turnF L g 0 2 0).2 = L := by unfold turnF; rw [if_pos hg, hz]; dsimp only; rw [if_neg hs]
    rw [e]
    unfold turnF
    rw [if_pos hg, hz]
    dsimp only
    rw [if_neg hs]
 ·have e : ∀ M : List One, ∀ a b c : Int, (turnF M g a b c).2 = M := fun M a b c => by unfold turnF; rw [if_neg hg]
  rw [e, e]
theorem p_goX {c : Nat} {L : List One} (g : Int) (hp : Small (turnF L g 0 2 0).2 100000000) (H : SL w (CrewP c (turnF L g 0 2 0).2 :: F)) : Calls Tryz.prog 114 #[.pointer (some ⟨c, 0, none⟩), .int .i64 g] w fun e w' => e = .returned (.int .i64 (turnF (turnF L g 0 2 0).2 g 0 0 1).1) ∧ SL w' (CrewP c (turnF L g 0 2 0).2 :: F) := by
 have h := p_go hp g H
 rw [exit_go] at h
 exact h
end
set_option maxHeartbeats 40000000 in
theorem p_does {w : World} {F : List Piece} {np k lb : Nat} {sc : ScrM} {x : LmM} {t m : Int} {vp vl vd : Value} {A : Piece} {n0 n1 n2 n3 n4 n5 n6 n7 : Int} (hn : x.name = [n0, n1, n2, n3, n4, n5, n6, n7]) (hk : Lk np k x) (hkb : k ≤ 990000) {g : Int} (hgw : 0 ≤ g ∧ g < (x.crew.length : Int)) (hge : ∀ z ∈ sc.draws, 0 ≤ z) {ox : OpX} (hA : Reader A 3 ox.ca ox.op.cases.length (ox.op.cases.flatMap CaseM.cells)) (hop : OpOk np ox.op) (H : SL w (LmP lb sc ⟨t, m, vp, vl, vd⟩ x :: A :: F)) :
  Calls Tryz.prog 56 #[.pointer (some ⟨lb, 0, none⟩), .int .i64 g, .agg ox.cells.toArray] w fun o w' => ∃ b y0, o = .returned (.bool b) ∧ doesL sc x g ox.op = (if b = true then y0 else { y0 with pan := true }) ∧ SL w' (LmP lb sc ⟨t, m, vp, vl, vd⟩ y0 :: A :: F) := by
 have hml := hk.ml
 obtain ⟨⟨ok, oa, ob, cs, df⟩, ca, cc⟩ := ox
 have hkd : ok = 1 ∨ ok = 2 ∨ ok = 3 ∨ ok = 4 ∨ ok = 5 ∨ ok = 6 ∨ ok = 7 ∨ ok = 8 ∨ ok = 9 := by have h1 := hop.k0; have h2 := hop.k1; dsimp only at h1 h2; omega
 have ha0 : 0 ≤ oa := hop.a0
 have ha1 : oa < 8 := hop.a1
 have hpr : ok = 1 → oa < (np : Int) := hop.pr
 have hb0 : 0 ≤ ob := hop.b0
 have hcap : ok = 2 → ob ≤ 4 := hop.cap
 have hbz : ok = 4 → ob = 0 := hop.bz
 rcases hkd with rfl | rfl | rfl | rfl | rfl | rfl | rfl | rfl | rfl
 ·skip
  have hob := lm_open (x := x) hn H
  obtain ⟨cb1, crb1, pn1, pc1, ala1, alc1, ta1, tc1, ps1, hl1, H⟩ := hob
  refine calls_den (args := [_, _, _]) Tryz.func56 rfl (Nat.le_of_ble_eq_true (by kernel_rfl)) (by kernel_rfl) ?_
  refine ⟨?_⟩
  refine Nw.as #[.int .i64 1, .int .i64 oa, .int .i64 ob, .slice ca cs.length cc, .bool df] 66 rfl H fun b5 w H => ?_
  refine ⟨?_⟩
  refine Cl.sl (by kernel_rfl) (p_bare H 0 g) fun w H => ?_
  refine Nw.as #[.int .i64 0, .int .i64 0, .int .i64 0, .int .i64 0, .int .i64 0, .int .i64 0, .bool false, .bool false] 53 rfl H fun b7 w H => ?_
  refine H.st0 (cs' := #[.int .i64 0, .int .i64 0, .int .i64 0, .int .i64 0, .int .i64 0, .int .i64 0, .bool false, .bool false]) rfl rfl rfl fun w H => ?_
  refine H.st0 (cs' := #[.int .i64 0, .int .i64 g, .int .i64 0, .int .i64 0, .int .i64 0, .int .i64 0, .bool false, .bool false]) rfl rfl rfl fun w H => ?_
  refine H.st0 (cs' := #[.int .i64 0, .int .i64 g, .int .i64 (-1), .int .i64 0, .int .i64 0, .int .i64 0, .bool false, .bool false]) rfl rfl rfl fun w H => ?_
  refine H.st0 (cs' := #[.int .i64 0, .int .i64 g, .int .i64 (-1), .int .i64 (-1), .int .i64 0, .int .i64 0, .bool false, .bool false]) rfl rfl rfl fun w H => ?_
  refine H.st0 (cs' := #[.int .i64 0, .int .i64 g, .int .i64 (-1), .int .i64 (-1), .int .i64 (-1), .int .i64 0, .bool false, .bool false]) rfl rfl rfl fun w H => ?_
  refine H.st0 (cs' := #[.int .i64 0, .int .i64 g, .int .i64 (-1), .int .i64 (-1), .int .i64 (-1), .int .i64 (-1), .bool false, .bool false]) rfl rfl rfl fun w H => ?_
  refine H.st0 (cs' := #[.int .i64 0, .int .i64 g, .int .i64 (-1), .int .i64 (-1), .int .i64 (-1), .int .i64 (-1), .bool false, .bool false]) rfl rfl rfl fun w H => ?_
  refine H.st0 (cs' := #[.int .i64 0, .int .i64 g, .int .i64 (-1), .int .i64 (-1), .int .i64 (-1), .int .i64 (-1), .bool false, .bool false]) rfl rfl rfl fun w H => ?_
  refine ⟨?_⟩
  refine H.ldi 1 rfl (v := .int .i64 1) rfl ?_
  refine ⟨?_⟩
  refine ⟨?_⟩
  refine BB.no rfl ?_
  refine Cn.no ?_
  refine ⟨?_⟩
  refine BB.no rfl ?_
  refine Cn.no ?_
  refine ⟨?_⟩
  refine BB.no rfl ?_
  refine Cn.no ?_
  refine ⟨?_⟩
  refine BB.no rfl ?_
  refine Cn.no ?_
  refine ⟨?_⟩
  refine BB.yes rfl ?_
  refine Cn.yes ?_
  refine ⟨?_⟩
  refine Drw.oft (.calm 0 (.calm 1 (.calm 2 (.act 3 false (.pure 4 (.act 5 true .nil)))))) (by kernel_rfl) mixed (fun w => SL w _) (H.drew.pick [1, 2, 3, 4, 5, 6, 7, 8, 9] 10 (by decide)) ?_
  replace H := H.drew
  refine LdC.i 0 rfl (v := .int .i64 oa) rfl ?_
  refine H.st0 (cs' := #[.int .i64 1, .int .i64 g, .int .i64 (-1), .int .i64 (-1), .int .i64 (-1), .int .i64 (-1), .bool false, .bool false]) rfl rfl rfl fun w H => ?_
  refine ⟨.inr (H.pick [1, 2, 3, 4, 5, 6, 7, 8, 9] 10 (by decide)), ?_⟩
  refine H.st0 (cs' := #[.int .i64 1, .int .i64 g, .int .i64 (-1), .int .i64 (-1), .int .i64 oa, .int .i64 (-1), .bool false, .bool false]) rfl rfl rfl fun w H => ?_
  refine ⟨.inl rfl, ?_⟩
  refine ⟨?_⟩
  refine Drw.oft (.calm 0 (.calm 1 (.calm 2 (.calm 3 (.calm 4 (.calm 5 (.act 6 true (.pure 7 (.pure 8 (.pure 9 (.pure 10 (.act 11 true .nil)))))))))))) (by kernel_rfl) mixed (fun w => SL w _) H.drew ?_
  replace H := H.drew
  refine LdC.i 2 rfl (v := .pointer (some ⟨crb1, 0, none⟩)) rfl ?_
  refine LdC.i 1 rfl (v := .int .i64 oa) rfl ?_
  have h1 := H.pick [4, 0, 1, 2, 3, 5, 6, 7, 8, 9] 10 (by decide)
  simp only [pk, nth, pkA, pkB, pkC, pkD, pkE, pkF] at h1
  refine Cl.sl (by kernel_rfl) (p_spawn (L := x.crew) hk.cl oa h1) fun w H => ?_
  replace H := H.pick [1, 2, 3, 4, 0, 5, 6, 7, 8, 9] 10 (by decide)
  simp only [pk, nth, pkA, pkB, pkC, pkD, pkE, pkF] at H
  refine ⟨.inl rfl, ?_⟩
  refine H.st0 (cs' := #[.int .i64 1, .int .i64 g, .int .i64 (-1), .int .i64 (-1), .int .i64 oa, .int .i64 ((spawnF x.crew oa).1.1), .bool false, .bool false]) rfl rfl rfl fun w H => ?_
  refine ⟨.inl rfl, ?_⟩
  refine ⟨?_⟩
  refine H.ldi 0 rfl (v := .int .i64 1) rfl ?_
  refine H.ldi 0 rfl (v := .int .i64 g) rfl ?_
  refine H.ldi 0 rfl (v := .int .i64 (-1)) rfl ?_
  refine H.ldi 0 rfl (v := .int .i64 (-1)) rfl ?_
  refine H.ldi 0 rfl (v := .int .i64 oa) rfl ?_
  refine H.ldi 0 rfl (v := .int .i64 ((spawnF x.crew oa).1.1)) rfl ?_
  refine H.ldi 0 rfl (v := .bool false) rfl ?_
  refine H.ldi 0 rfl (v := .bool false) rfl ?_
  have h1 := H.pick [2, 8, 0, 1, 3, 4, 5, 6, 7, 9] 10 (by decide)
  simp only [pk, nth, pkA, pkB, pkC, pkD, pkE, pkF] at h1
  refine Cl.by (by kernel_rfl) (p_noteO (Nat.le_trans ((hk.spawn ha0 (hpr rfl))).tr (by omega)) ⟨1, g, -1, -1, oa, (spawnF x.crew oa).1.1, false, false⟩ h1) ?_
  rintro _ w ⟨tn1, tk1, rfl, H⟩
  refine ⟨_, rfl, ?_⟩
  replace H := H.pick [2, 3, 0, 4, 5, 6, 7, 8, 1, 9] 10 (by decide)
  simp only [pk, nth, pkA, pkB, pkC, pkD, pkE, pkF] at H
  refine ⟨?_⟩
  refine H.ldi 2 rfl (v := .pointer (some ⟨crb1, 0, none⟩)) rfl ?_
  have h1 := H.pick [4, 0, 1, 2, 3, 5, 6, 7, 8, 9] 10 (by decide)
  simp only [pk, nth, pkA, pkB, pkC, pkD, pkE, pkF] at h1
  refine Cl.sl (by kernel_rfl) (p_go (L := (noteL ({ x with crew := (spawnF x.crew oa).2 }) ⟨1, g, -1, -1, oa, (spawnF x.crew oa).1.1, false, false⟩).crew) (Small.more (((hk.spawn ha0 (hpr rfl)).note ⟨1, g, -1, -1, oa, (spawnF x.crew oa).1.1, false, false⟩)).sm (by omega)) g h1) fun w H => ?_
  replace H := H.pick [1, 2, 3, 4, 0, 5, 6, 7, 8, 9] 10 (by decide)
  simp only [pk, nth, pkA, pkB, pkC, pkD, pkE, pkF] at H
  refine ⟨?_⟩
  refine ret1 (fn := Tryz.f56) (.bool true) rfl (by rfl) ?_
  have H0 := H.pick [2, 3, 4, 5, 6, 7, 8, 0, 1, 9] 10 (by decide)
  simp only [pk, nth, pkA, pkB, pkC, pkD, pkE, pkF] at H0
  replace H := lm_shut (x := (turnL (noteL ({ x with crew := (spawnF x.crew oa).2 }) ⟨1, g, -1, -1, oa, (spawnF x.crew oa).1.1, false, false⟩) g 0 0)) hl1 (by first | rfl | simp [turnL, noteL, backN_len]) hn H0
  have hc : doesL sc x g ⟨1, oa, ob, cs, df⟩ = (turnL (noteL ({ x with crew := (spawnF x.crew oa).2 }) ⟨1, g, -1, -1, oa, (spawnF x.crew oa).1.1, false, false⟩) g 0 0) := by rw [does_other (by dsimp only; decide) (by dsimp only; decide) (by dsimp only; decide) (by dsimp only; decide)]; rfl
  exact ⟨true, (turnL (noteL ({ x with crew := (spawnF x.crew oa).2 }) ⟨1, g, -1, -1, oa, (spawnF x.crew oa).1.1, false, false⟩) g 0 0), rfl, hc, H.pick [0, 3] 4 (by decide)⟩
 ·skip
  obtain ⟨an, rfl⟩ := Int.eq_ofNat_of_zero_le ha0
  have han : an < 8 := by omega
  have hb4 := hcap rfl
  obtain ⟨bn, rfl⟩ := Int.eq_ofNat_of_zero_le hb0
  have hob := lm_open (x := x) hn H
  obtain ⟨cb1, crb1, pn1, pc1, ala1, alc1, ta1, tc1, ps1, hl1, H⟩ := hob
  refine calls_den (args := [_, _, _]) Tryz.func56 rfl (Nat.le_of_ble_eq_true (by kernel_rfl)) (by kernel_rfl) ?_
  refine ⟨?_⟩
  refine Nw.as #[.int .i64 2, .int .i64 ↑an, .int .i64 ↑bn, .slice ca cs.length cc, .bool df] 66 rfl H fun b5 w H => ?_
  refine ⟨?_⟩
  refine Cl.sl (by kernel_rfl) (p_bare H 0 g) fun w H => ?_
  refine Nw.as #[.int .i64 0, .int .i64 0, .int .i64 0, .int .i64 0, .int .i64 0, .int .i64 0, .bool false, .bool false] 53 rfl H fun b7 w H => ?_
  refine H.st0 (cs' := #[.int .i64 0, .int .i64 0, .int .i64 0, .int .i64 0, .int .i64 0, .int .i64 0, .bool false, .bool false]) rfl rfl rfl fun w H => ?_
  refine H.st0 (cs' := #[.int .i64 0, .int .i64 g, .int .i64 0, .int .i64 0, .int .i64 0, .int .i64 0, .bool false, .bool false]) rfl rfl rfl fun w H => ?_
  refine H.st0 (cs' := #[.int .i64 0, .int .i64 g, .int .i64 (-1), .int .i64 0, .int .i64 0, .int .i64 0, .bool false, .bool false]) rfl rfl rfl fun w H => ?_
  refine H.st0 (cs' := #[.int .i64 0, .int .i64 g, .int .i64 (-1), .int .i64 (-1), .int .i64 0, .int .i64 0, .bool false, .bool false]) rfl rfl rfl fun w H => ?_
  refine H.st0 (cs' := #[.int .i64 0, .int .i64 g, .int .i64 (-1), .int .i64 (-1), .int .i64 (-1), .int .i64 0, .bool false, .bool false]) rfl rfl rfl fun w H => ?_
  refine H.st0 (cs' := #[.int .i64 0, .int .i64 g, .int .i64 (-1), .int .i64 (-1), .int .i64 (-1), .int .i64 (-1), .bool false, .bool false]) rfl rfl rfl fun w H => ?_
  refine H.st0 (cs' := #[.int .i64 0, .int .i64 g, .int .i64 (-1), .int .i64 (-1), .int .i64 (-1), .int .i64 (-1), .bool false, .bool false]) rfl rfl rfl fun w H => ?_
  refine H.st0 (cs' := #[.int .i64 0, .int .i64 g, .int .i64 (-1), .int .i64 (-1), .int .i64 (-1), .int .i64 (-1), .bool false, .bool false]) rfl rfl rfl fun w H => ?_
  refine ⟨?_⟩
  refine H.ldi 1 rfl (v := .int .i64 2) rfl ?_
  refine ⟨?_⟩
  refine ⟨?_⟩
  refine BB.no rfl ?_
  refine Cn.no ?_
  refine ⟨?_⟩
  refine BB.no rfl ?_
  refine Cn.no ?_
  refine ⟨?_⟩
  refine BB.no rfl ?_
  refine Cn.no ?_
  refine ⟨?_⟩
  refine BB.no rfl ?_
  refine Cn.no ?_
  refine ⟨?_⟩
  refine BB.no rfl ?_
  refine Cn.no ?_
  refine ⟨?_⟩
  refine BB.yes rfl ?_
  refine Cn.yes ?_
  refine ⟨?_⟩
  refine Drw.oft (.calm 0 (.calm 1 (.calm 2 (.calm 3 (.calm 4 (.calm 5 (.calm 6 (.calm 7 (.act 8 false (.pure 9 (.act 10 false (.pure 11 (.act 12 true .nil))))))))))))) (by kernel_rfl) mixed (fun w => SL w _) (H.drew.pick [1, 2, 3, 4, 5, 6, 7, 8, 9] 10 (by decide)) ?_
  replace H := H.drew
  refine LdC.i 0 rfl (v := .int .i64 ↑bn) rfl ?_
  refine LdC.i 1 rfl (v := .slice ala1 x.M.length alc1) rfl ?_
  refine H.st0 (cs' := #[.int .i64 2, .int .i64 g, .int .i64 (-1), .int .i64 (-1), .int .i64 (-1), .int .i64 (-1), .bool false, .bool false]) rfl rfl rfl fun w H => ?_
  refine ⟨.inr (H.pick [1, 2, 3, 4, 5, 6, 7, 8, 9] 10 (by decide)), ?_⟩
  refine H.st0 (cs' := #[.int .i64 2, .int .i64 g, .int .i64 (-1), .int .i64 (-1), .int .i64 ↑bn, .int .i64 (-1), .bool false, .bool false]) rfl rfl rfl fun w H => ?_
  refine ⟨.inr (H.pick [1, 2, 3, 4, 5, 6, 7, 8, 9] 10 (by decide)), ?_⟩
  refine H.st0 (cs' := #[.int .i64 2, .int .i64 g, .int .i64 ↑x.M.length, .int .i64 (-1), .int .i64 ↑bn, .int .i64 (-1), .bool false, .bool false]) rfl rfl rfl fun w H => ?_
  refine ⟨.inl rfl, ?_⟩
  refine ⟨?_⟩
  refine Drw.oft (.calm 0 (.calm 1 (.calm 2 (.calm 3 (.calm 4 (.calm 5 (.calm 6 (.calm 7 (.act 8 false (.pure 9 (.pure 10 (.pure 11 (.pure 12 (.act 13 true .nil)))))))))))))) (by kernel_rfl) mixed (fun w => SL w _) H.drew ?_
  replace H := H.drew
  refine LdC.i 2 rfl (v := .slice (some ⟨pn1, 0, none⟩) 8 pc1) rfl ?_
  refine LdC.i 1 rfl (v := .int .i64 ↑an) rfl ?_
  refine LdC.i 1 rfl (v := .int .i64 ↑bn) rfl ?_
  refine Cl.by (by kernel_rfl) (sl_new bn (by omega) H) ?_
  rintro _ w ⟨ph, rfl, H⟩
  refine ⟨_, rfl, ?_⟩
  refine ⟨.inr (H.pick [1, 2, 3, 4, 5, 6, 7, 8, 9, 10] 11 (by decide)), ?_⟩
  refine Ix.at0 an 1 (by kernel_rfl) (rfl) (han) ?_
  refine SL.stS (o := an * 1) (u := .pointer (some ⟨ph, 0, none⟩)) H.up6 (by rw [Nat.mul_one]; unfold pcs; rw [List.length_map, gsN_len, hk.n8]; exact han) rfl fun w H => ?_
  rw [names_make (x := x) (h := ph) hk hl1] at H
  replace H := H.dn6
  refine ⟨.inl rfl, ?_⟩
  refine ⟨?_⟩
  refine Drw.of [(0, true), (1, true), (2, true), (3, true), (4, true), (5, true), (6, true), (7, true), (8, true), (9, true), (10, true), (11, false)] (by kernel_rfl) mixed (fun w => SL w _) H.drew ?_
  replace H := H.drew
  refine LdC.i 2 rfl (v := .int .i64 ↑an) rfl ?_
  refine LdC.i 3 rfl (v := .slice ala1 x.M.length alc1) rfl ?_
  refine Ix.at an 1 (by kernel_rfl) rfl han ?_
  have hob := name_set9 (v := (x.M.length : Int)) (x := x) hn an han
  obtain ⟨m0, m1, m2, m3, m4, m5, m6, m7, hn', hset⟩ := hob
  refine H.st3 (cs' := #[.int .i64 t, .int .i64 m, vp, vl, vd, .pointer (some ⟨cb1, 0, none⟩), .pointer (some ⟨crb1, 0, none⟩), .slice (some ⟨pn1, 0, none⟩) 8 pc1, .int .i64 m0, .int .i64 m1, .int .i64 m2, .int .i64 m3, .int .i64 m4, .int .i64 m5, .int .i64 m6, .int .i64 m7, .slice ala1 x.M.length alc1, .slice ta1 x.tr.length tc1, .bool x.pan]) (hset _ _ _ _ _ _ _ _ _ _ _) (by simp [Nat.blt_eq]; omega) rfl fun w H => ?_
  refine ⟨.inl rfl, ?_⟩
  refine ⟨?_⟩
  refine Drw.oft (.calm 0 (.calm 1 (.calm 2 (.calm 3 (.calm 4 (.calm 5 (.calm 6 (.calm 7 (.calm 8 (.calm 9 (.calm 10 (.calm 11 (.calm 12 (.act 13 false (.act 14 false (.pure 15 (.pure 16 (.act 17 true .nil)))))))))))))))))) (by kernel_rfl) mixed (fun w => SL w _) (H.drew.pick [0, 1, 2, 3, 4, 5, 6, 8, 10] 11 (by decide)) ?_
  replace H := H.drew
  refine LdC.i 3 rfl (v := .slice ala1 x.M.length alc1) rfl ?_
  refine LdC.i 3 rfl (v := .slice (some ⟨pn1, 0, none⟩) 8 pc1) rfl ?_
  refine LdC.i 2 rfl (v := .int .i64 ↑an) rfl ?_
  refine Ix.at0 an 1 (by kernel_rfl) (rfl) (han) ?_
  refine LdC.S 6 rfl (v := .pointer (some ⟨ph, 0, none⟩)) (names_got (x := x) hk hl1 han) ?_
  refine Mn.new (fun b => .slice (some ⟨b, 0, none⟩) 1 1) #[.pointer (some ⟨ph, 0, none⟩)] 176 (by kernel_rfl) H fun b122 w H => ?_
  refine ⟨.inr (H.pick [1, 2, 3, 4, 5, 6, 7, 9, 11] 12 (by decide)), ?_⟩
  refine SL.appS H.up8 (.tmp 113) (.tmp 122) 94 (.pointer none) 8 (by rfl) (by kernel_rfl) (by kernel_rfl) (by rfl) (by decide) (by rfl) (some ⟨b122, 0, none⟩) 1 1 [.pointer (some ⟨ph, 0, none⟩)] (by rfl) (H.rdRow 0 rfl (by rfl) (by decide)) (by rfl) (by omega) (by decide) (by decide) fun g1 c1 w H => ?_
  refine ⟨.inr (H.pick [2, 3, 4, 5, 6, 7, 8, 9, 11] 12 (by decide)), ?_⟩
  refine H.st5 (cs' := #[.int .i64 t, .int .i64 m, vp, vl, vd, .pointer (some ⟨cb1, 0, none⟩), .pointer (some ⟨crb1, 0, none⟩), .slice (some ⟨pn1, 0, none⟩) 8 pc1, .int .i64 m0, .int .i64 m1, .int .i64 m2, .int .i64 m3, .int .i64 m4, .int .i64 m5, .int .i64 m6, .int .i64 m7, .slice (some ⟨g1, 0, none⟩) (x.M.length + 1) c1, .slice ta1 x.tr.length tc1, .bool x.pan]) rfl rfl rfl fun w H => ?_
  refine ⟨.inl rfl, ?_⟩
  have H0 := H.pick [2, 9, 0, 1, 3, 4, 5, 6, 7, 8, 10, 11] 12 (by decide)
  simp only [pk, nth, pkA, pkB, pkC, pkD, pkE, pkF] at H0
  have hl9 : (ps1 ++ [ph]).length = x.M.length + 1 := by rw [List.length_append, hl1]; rfl
  replace H := rs_snoc hl1 H0
  have hob : ∃ z, z = ps1 ++ [ph] := ⟨_, rfl⟩
  obtain ⟨ps9, hps9⟩ := hob
  rw [← hps9] at H hl9
  rw [show pcs (ps1.map some) ++ [.pointer (some ⟨ph, 0, none⟩)] = pcs (ps9.map some) by rw [hps9]; simp [pcs, adr]] at H
  have hkm := hk.make (a := an) (b := bn) han (by omega)
  have hob : ∃ z, z = cb1 := ⟨_, rfl⟩
  obtain ⟨cb9, hcb⟩ := hob
  have hob : ∃ z, z = crb1 := ⟨_, rfl⟩
  obtain ⟨crb9, hcrb⟩ := hob
  rw [← hcb, ← hcrb] at H
  refine ⟨?_⟩
  refine H.ldi 3 rfl (v := .int .i64 2) rfl ?_
  refine H.ldi 3 rfl (v := .int .i64 g) rfl ?_
  refine H.ldi 3 rfl (v := .int .i64 ↑x.M.length) rfl ?_
  refine H.ldi 3 rfl (v := .int .i64 (-1)) rfl ?_
  refine H.ldi 3 rfl (v := .int .i64 ↑bn) rfl ?_
  refine H.ldi 3 rfl (v := .int .i64 (-1)) rfl ?_
  refine H.ldi 3 rfl (v := .bool false) rfl ?_
  refine H.ldi 3 rfl (v := .bool false) rfl ?_
  have h1 := H.pick [5, 9, 0, 1, 2, 3, 4, 6, 7, 8, 10] 11 (by decide)
  simp only [pk, nth, pkA, pkB, pkC, pkD, pkE, pkF] at h1
  refine Cl.by (by kernel_rfl) (p_noteO (Nat.le_trans (hkm).tr (by omega)) ⟨2, g, ↑x.M.length, -1, ↑bn, -1, false, false⟩ h1) ?_
  rintro _ w ⟨tn1, tk1, rfl, H⟩
  refine ⟨_, rfl, ?_⟩
  replace H := H.pick [2, 3, 4, 5, 6, 0, 7, 8, 9, 1, 10] 11 (by decide)
  simp only [pk, nth, pkA, pkB, pkC, pkD, pkE, pkF] at H
  refine ⟨?_⟩
  refine H.ldi 5 rfl (v := .pointer (some ⟨crb9, 0, none⟩)) rfl ?_
  have h1 := H.pick [7, 0, 1, 2, 3, 4, 5, 6, 8, 9, 10] 11 (by decide)
  simp only [pk, nth, pkA, pkB, pkC, pkD, pkE, pkF] at h1
  refine Cl.sl (by kernel_rfl) (p_go (L := (noteL ({ x with M := x.M ++ [emptyM bn], name := x.name.set an x.M.length }) ⟨2, g, ↑x.M.length, -1, ↑bn, -1, false, false⟩).crew) (Small.more ((hkm.note ⟨2, g, ↑x.M.length, -1, ↑bn, -1, false, false⟩)).sm (by omega)) g h1) fun w H => ?_
  replace H := H.pick [1, 2, 3, 4, 5, 6, 7, 0, 8, 9, 10] 11 (by decide)
  simp only [pk, nth, pkA, pkB, pkC, pkD, pkE, pkF] at H
  refine ⟨?_⟩
  refine ret1 (fn := Tryz.f56) (.bool true) rfl (by rfl) ?_
  have H0 := H.pick [5, 6, 7, 8, 1, 0, 9, 2, 3, 4, 10] 11 (by decide)
  simp only [pk, nth, pkA, pkB, pkC, pkD, pkE, pkF] at H0
  replace H := lm_shut (x := (turnL (noteL ({ x with M := x.M ++ [emptyM bn], name := x.name.set an x.M.length }) ⟨2, g, ↑x.M.length, -1, ↑bn, -1, false, false⟩) g 0 0)) hl9 (by first | rfl | simp [turnL, noteL, backN_len]) hn' H0
  have hc : doesL sc x g ⟨2, (an : Int), (bn : Int), cs, df⟩ = (turnL (noteL ({ x with M := x.M ++ [emptyM bn], name := x.name.set an x.M.length }) ⟨2, g, ↑x.M.length, -1, ↑bn, -1, false, false⟩) g 0 0) := by rw [does_other (by dsimp only; decide) (by dsimp only; decide) (by dsimp only; decide) (by dsimp only; decide)]; rfl
  exact ⟨true, (turnL (noteL ({ x with M := x.M ++ [emptyM bn], name := x.name.set an x.M.length }) ⟨2, g, ↑x.M.length, -1, ↑bn, -1, false, false⟩) g 0 0), rfl, hc, H.pick [0, 4] 5 (by decide)⟩
 ·skip
  obtain ⟨an, rfl⟩ := Int.eq_ofNat_of_zero_le ha0
  have han : an < 8 := by omega
  have hob := lm_open (x := x) hn H
  obtain ⟨cb1, crb1, pn1, pc1, ala1, alc1, ta1, tc1, ps1, hl1, H⟩ := hob
  refine calls_den (args := [_, _, _]) Tryz.func56 rfl (Nat.le_of_ble_eq_true (by kernel_rfl)) (by kernel_rfl) ?_
  refine ⟨?_⟩
  refine Nw.as #[.int .i64 3, .int .i64 ↑an, .int .i64 ob, .slice ca cs.length cc, .bool df] 66 rfl H fun b5 w H => ?_
  refine ⟨?_⟩
  refine Cl.sl (by kernel_rfl) (p_bare H 0 g) fun w H => ?_
  refine Nw.as #[.int .i64 0, .int .i64 0, .int .i64 0, .int .i64 0, .int .i64 0, .int .i64 0, .bool false, .bool false] 53 rfl H fun b7 w H => ?_
  refine H.st0 (cs' := #[.int .i64 0, .int .i64 0, .int .i64 0, .int .i64 0, .int .i64 0, .int .i64 0, .bool false, .bool false]) rfl rfl rfl fun w H => ?_
  refine H.st0 (cs' := #[.int .i64 0, .int .i64 g, .int .i64 0, .int .i64 0, .int .i64 0, .int .i64 0, .bool false, .bool false]) rfl rfl rfl fun w H => ?_
  refine H.st0 (cs' := #[.int .i64 0, .int .i64 g, .int .i64 (-1), .int .i64 0, .int .i64 0, .int .i64 0, .bool false, .bool false]) rfl rfl rfl fun w H => ?_
  refine H.st0 (cs' := #[.int .i64 0, .int .i64 g, .int .i64 (-1), .int .i64 (-1), .int .i64 0, .int .i64 0, .bool false, .bool false]) rfl rfl rfl fun w H => ?_
  refine H.st0 (cs' := #[.int .i64 0, .int .i64 g, .int .i64 (-1), .int .i64 (-1), .int .i64 (-1), .int .i64 0, .bool false, .bool false]) rfl rfl rfl fun w H => ?_
  refine H.st0 (cs' := #[.int .i64 0, .int .i64 g, .int .i64 (-1), .int .i64 (-1), .int .i64 (-1), .int .i64 (-1), .bool false, .bool false]) rfl rfl rfl fun w H => ?_
  refine H.st0 (cs' := #[.int .i64 0, .int .i64 g, .int .i64 (-1), .int .i64 (-1), .int .i64 (-1), .int .i64 (-1), .bool false, .bool false]) rfl rfl rfl fun w H => ?_
  refine H.st0 (cs' := #[.int .i64 0, .int .i64 g, .int .i64 (-1), .int .i64 (-1), .int .i64 (-1), .int .i64 (-1), .bool false, .bool false]) rfl rfl rfl fun w H => ?_
  refine ⟨?_⟩
  refine H.ldi 1 rfl (v := .int .i64 3) rfl ?_
  refine ⟨?_⟩
  refine ⟨?_⟩
  refine BB.yes rfl ?_
  refine Cn.yes ?_
  refine Cn.yes ?_
  refine ⟨?_⟩
  refine H.ldi 1 rfl (v := .int .i64 3) rfl ?_
  refine BB.yes rfl ?_
  refine H.ldi 1 rfl (v := .int .i64 ↑an) rfl ?_
  refine H.ldi 1 rfl (v := .int .i64 ob) rfl ?_
  refine Mn.pure (.agg #[.bool true, .int .i64 ↑an, .int .i64 ob]) (by kernel_rfl) ?_
  refine Nw.as #[.bool false, .int .i64 0, .int .i64 0] 154 rfl H fun b8 w H => ?_
  refine H.st0 (cs' := #[.bool true, .int .i64 0, .int .i64 0]) rfl rfl rfl fun w H => ?_
  refine H.st0 (cs' := #[.bool true, .int .i64 ↑an, .int .i64 0]) rfl rfl rfl fun w H => ?_
  refine H.st0 (cs' := #[.bool true, .int .i64 ↑an, .int .i64 ob]) rfl rfl rfl fun w H => ?_
  refine ⟨?_⟩
  refine Drw.of [(0, true), (1, true), (2, true), (3, true), (4, true), (5, true), (6, true), (7, true), (8, true), (9, true), (10, false)] (by kernel_rfl) mixed (fun w => SL w _) H.drew ?_
  replace H := H.drew
  refine LdC.i 3 rfl (v := .slice (some ⟨pn1, 0, none⟩) 8 pc1) rfl ?_
  refine LdC.i 2 rfl (v := .int .i64 ↑an) rfl ?_
  refine Ix.at0 an 1 (by kernel_rfl) (rfl) (han) ?_
  refine LdC.S 6 rfl (v := (adr (nm (gsN x.name ps1) (an : Int)))) (by rw [Nat.mul_one]; exact pipe_cell hk han) ?_
  refine LdC.i 0 rfl (v := .bool true) rfl ?_
  refine BB.yes rfl ?_
  have h1 := H.pick [8, 0, 1, 2, 3, 4, 5, 6, 7, 9, 10] 11 (by decide)
  simp only [pk, nth, pkA, pkB, pkC, pkD, pkE, pkF] at h1
  refine Cl.sl (by kernel_rfl) (p_readyN (x := x) (ps := ps1) (j := an) hk hl1 han true ob h1) fun w H => ?_
  replace H := H.pick [1, 2, 3, 4, 5, 6, 7, 8, 0, 9, 10] 11 (by decide)
  simp only [pk, nth, pkA, pkB, pkC, pkD, pkE, pkF] at H
  refine BB.vr fun q1 e1 => ?_
  refine ⟨.inl rfl, ?_⟩
  cases q1
  ·skip
   refine Cn.no ?_
   refine ⟨?_⟩
   refine H.ldi 0 rfl (v := .bool true) rfl ?_
   refine H.ldi 0 rfl (v := .int .i64 ↑an) rfl ?_
   refine H.ldi 0 rfl (v := .int .i64 ob) rfl ?_
   have H0 := H.pick [3, 4, 5, 6, 7, 8, 9, 0, 1, 2, 10] 11 (by decide)
   simp only [pk, nth, pkA, pkB, pkC, pkD, pkE, pkF] at H0
   replace H := lm_shut (x := x) hl1 (by first | rfl | simp [turnL, noteL, backN_len]) hn H0
   have h1 := H
   refine Cl.sl (by kernel_rfl) (p_parkL hn hk (by omega) g (cj := an) han true ob h1) fun w H => ?_
   refine ⟨?_⟩
   refine ret1 (fn := Tryz.f56) (.bool true) rfl (by rfl) ?_
   have hc : doesL sc x g ⟨3, (an : Int), ob, cs, df⟩ = (parkL x g ⟨true, (an : Int), ob⟩) := by rw [does_alone3 rfl]; exact alone_park hk han (by assumption)
   exact ⟨true, (parkL x g ⟨true, (an : Int), ob⟩), rfl, hc, H.pick [0, 4] 5 (by decide)⟩
  ·skip
   refine Cn.yes ?_
   refine ⟨?_⟩
   refine H.ldi 0 rfl (v := .bool true) rfl ?_
   refine H.ldi 0 rfl (v := .int .i64 ↑an) rfl ?_
   refine H.ldi 0 rfl (v := .int .i64 ob) rfl ?_
   have H0 := H.pick [3, 4, 5, 6, 7, 8, 9, 0, 1, 2, 10] 11 (by decide)
   simp only [pk, nth, pkA, pkB, pkC, pkD, pkE, pkF] at H0
   replace H := lm_shut (x := x) hl1 (by first | rfl | simp [turnL, noteL, backN_len]) hn H0
   have h1 := H
   refine Cl.by (by kernel_rfl) (p_talk hn hk (by omega) g (cj := an) han true ob (-1) h1) ?_
   rintro _ w ⟨b, y0, rfl, hres, H⟩
   refine ⟨_, rfl, ?_⟩
   refine BB.k ?_
   refine ret1 (fn := Tryz.f56) (.bool b) rfl (by rfl) ?_
   have hc : doesL sc x g ⟨3, (an : Int), ob, cs, df⟩ = (if b = true then y0 else { y0 with pan := true }) := by rw [does_alone3 rfl]; unfold aloneL; rw [if_pos (by assumption)]; exact hres
   exact ⟨b, y0, rfl, hc, H.pick [0, 4] 5 (by decide)⟩
 ·skip
  obtain ⟨an, rfl⟩ := Int.eq_ofNat_of_zero_le ha0
  have han : an < 8 := by omega
  obtain rfl : ob = 0 := hbz rfl
  have hob := lm_open (x := x) hn H
  obtain ⟨cb1, crb1, pn1, pc1, ala1, alc1, ta1, tc1, ps1, hl1, H⟩ := hob
  refine calls_den (args := [_, _, _]) Tryz.func56 rfl (Nat.le_of_ble_eq_true (by kernel_rfl)) (by kernel_rfl) ?_
  refine ⟨?_⟩
  refine Nw.as #[.int .i64 4, .int .i64 ↑an, .int .i64 0, .slice ca cs.length cc, .bool df] 66 rfl H fun b5 w H => ?_
  refine ⟨?_⟩
  refine Cl.sl (by kernel_rfl) (p_bare H 0 g) fun w H => ?_
  refine Nw.as #[.int .i64 0, .int .i64 0, .int .i64 0, .int .i64 0, .int .i64 0, .int .i64 0, .bool false, .bool false] 53 rfl H fun b7 w H => ?_
  refine H.st0 (cs' := #[.int .i64 0, .int .i64 0, .int .i64 0, .int .i64 0, .int .i64 0, .int .i64 0, .bool false, .bool false]) rfl rfl rfl fun w H => ?_
  refine H.st0 (cs' := #[.int .i64 0, .int .i64 g, .int .i64 0, .int .i64 0, .int .i64 0, .int .i64 0, .bool false, .bool false]) rfl rfl rfl fun w H => ?_
  refine H.st0 (cs' := #[.int .i64 0, .int .i64 g, .int .i64 (-1), .int .i64 0, .int .i64 0, .int .i64 0, .bool false, .bool false]) rfl rfl rfl fun w H => ?_
  refine H.st0 (cs' := #[.int .i64 0, .int .i64 g, .int .i64 (-1), .int .i64 (-1), .int .i64 0, .int .i64 0, .bool false, .bool false]) rfl rfl rfl fun w H => ?_
  refine H.st0 (cs' := #[.int .i64 0, .int .i64 g, .int .i64 (-1), .int .i64 (-1), .int .i64 (-1), .int .i64 0, .bool false, .bool false]) rfl rfl rfl fun w H => ?_
  refine H.st0 (cs' := #[.int .i64 0, .int .i64 g, .int .i64 (-1), .int .i64 (-1), .int .i64 (-1), .int .i64 (-1), .bool false, .bool false]) rfl rfl rfl fun w H => ?_
  refine H.st0 (cs' := #[.int .i64 0, .int .i64 g, .int .i64 (-1), .int .i64 (-1), .int .i64 (-1), .int .i64 (-1), .bool false, .bool false]) rfl rfl rfl fun w H => ?_
  refine H.st0 (cs' := #[.int .i64 0, .int .i64 g, .int .i64 (-1), .int .i64 (-1), .int .i64 (-1), .int .i64 (-1), .bool false, .bool false]) rfl rfl rfl fun w H => ?_
  refine ⟨?_⟩
  refine H.ldi 1 rfl (v := .int .i64 4) rfl ?_
  refine ⟨?_⟩
  refine ⟨?_⟩
  refine BB.no rfl ?_
  refine Cn.no ?_
  refine ⟨?_⟩
  refine BB.yes rfl ?_
  refine Cn.yes ?_
  refine ⟨?_⟩
  refine H.ldi 1 rfl (v := .int .i64 4) rfl ?_
  refine BB.no rfl ?_
  refine H.ldi 1 rfl (v := .int .i64 ↑an) rfl ?_
  refine H.ldi 1 rfl (v := .int .i64 0) rfl ?_
  refine Mn.pure (.agg #[.bool false, .int .i64 ↑an, .int .i64 0]) (by kernel_rfl) ?_
  refine Nw.as #[.bool false, .int .i64 0, .int .i64 0] 154 rfl H fun b8 w H => ?_
  refine H.st0 (cs' := #[.bool false, .int .i64 0, .int .i64 0]) rfl rfl rfl fun w H => ?_
  refine H.st0 (cs' := #[.bool false, .int .i64 ↑an, .int .i64 0]) rfl rfl rfl fun w H => ?_
  refine H.st0 (cs' := #[.bool false, .int .i64 ↑an, .int .i64 0]) rfl rfl rfl fun w H => ?_
  refine ⟨?_⟩
  refine Drw.of [(0, true), (1, true), (2, true), (3, true), (4, true), (5, true), (6, true), (7, true), (8, true), (9, true), (10, false)] (by kernel_rfl) mixed (fun w => SL w _) H.drew ?_
  replace H := H.drew
  refine LdC.i 3 rfl (v := .slice (some ⟨pn1, 0, none⟩) 8 pc1) rfl ?_
  refine LdC.i 2 rfl (v := .int .i64 ↑an) rfl ?_
  refine Ix.at0 an 1 (by kernel_rfl) (rfl) (han) ?_
  refine LdC.S 6 rfl (v := (adr (nm (gsN x.name ps1) (an : Int)))) (by rw [Nat.mul_one]; exact pipe_cell hk han) ?_
  refine LdC.i 0 rfl (v := .bool false) rfl ?_
  refine BB.no rfl ?_
  have h1 := H.pick [8, 0, 1, 2, 3, 4, 5, 6, 7, 9, 10] 11 (by decide)
  simp only [pk, nth, pkA, pkB, pkC, pkD, pkE, pkF] at h1
  refine Cl.sl (by kernel_rfl) (p_readyN (x := x) (ps := ps1) (j := an) hk hl1 han false 0 h1) fun w H => ?_
  replace H := H.pick [1, 2, 3, 4, 5, 6, 7, 8, 0, 9, 10] 11 (by decide)
  simp only [pk, nth, pkA, pkB, pkC, pkD, pkE, pkF] at H
  refine BB.vr fun q1 e1 => ?_
  refine ⟨.inl rfl, ?_⟩
  cases q1
  ·skip
   refine Cn.no ?_
   refine ⟨?_⟩
   refine H.ldi 0 rfl (v := .bool false) rfl ?_
   refine H.ldi 0 rfl (v := .int .i64 ↑an) rfl ?_
   refine H.ldi 0 rfl (v := .int .i64 0) rfl ?_
   have H0 := H.pick [3, 4, 5, 6, 7, 8, 9, 0, 1, 2, 10] 11 (by decide)
   simp only [pk, nth, pkA, pkB, pkC, pkD, pkE, pkF] at H0
   replace H := lm_shut (x := x) hl1 (by first | rfl | simp [turnL, noteL, backN_len]) hn H0
   have h1 := H
   refine Cl.sl (by kernel_rfl) (p_parkL hn hk (by omega) g (cj := an) han false 0 h1) fun w H => ?_
   refine ⟨?_⟩
   refine ret1 (fn := Tryz.f56) (.bool true) rfl (by rfl) ?_
   have hc : doesL sc x g ⟨4, (an : Int), 0, cs, df⟩ = (parkL x g ⟨false, (an : Int), 0⟩) := by rw [does_alone4 (by dsimp only; decide) rfl]; exact alone_park hk han (by assumption)
   exact ⟨true, (parkL x g ⟨false, (an : Int), 0⟩), rfl, hc, H.pick [0, 4] 5 (by decide)⟩
  ·skip
   refine Cn.yes ?_
   refine ⟨?_⟩
   refine H.ldi 0 rfl (v := .bool false) rfl ?_
   refine H.ldi 0 rfl (v := .int .i64 ↑an) rfl ?_
   refine H.ldi 0 rfl (v := .int .i64 0) rfl ?_
   have H0 := H.pick [3, 4, 5, 6, 7, 8, 9, 0, 1, 2, 10] 11 (by decide)
   simp only [pk, nth, pkA, pkB, pkC, pkD, pkE, pkF] at H0
   replace H := lm_shut (x := x) hl1 (by first | rfl | simp [turnL, noteL, backN_len]) hn H0
   have h1 := H
   refine Cl.by (by kernel_rfl) (p_talk hn hk (by omega) g (cj := an) han false 0 (-1) h1) ?_
   rintro _ w ⟨b, y0, rfl, hres, H⟩
   refine ⟨_, rfl, ?_⟩
   refine BB.k ?_
   refine ret1 (fn := Tryz.f56) (.bool b) rfl (by rfl) ?_
   have hc : doesL sc x g ⟨4, (an : Int), 0, cs, df⟩ = (if b = true then y0 else { y0 with pan := true }) := by rw [does_alone4 (by dsimp only; decide) rfl]; unfold aloneL; rw [if_pos (by assumption)]; exact hres
   exact ⟨b, y0, rfl, hc, H.pick [0, 4] 5 (by decide)⟩
 ·skip
  obtain ⟨an, rfl⟩ := Int.eq_ofNat_of_zero_le ha0
  have han : an < 8 := by omega
  have hob := lm_open (x := x) hn H
  obtain ⟨cb1, crb1, pn1, pc1, ala1, alc1, ta1, tc1, ps1, hl1, H⟩ := hob
  refine calls_den (args := [_, _, _]) Tryz.func56 rfl (Nat.le_of_ble_eq_true (by kernel_rfl)) (by kernel_rfl) ?_
  refine ⟨?_⟩
  refine Nw.as #[.int .i64 5, .int .i64 ↑an, .int .i64 ob, .slice ca cs.length cc, .bool df] 66 rfl H fun b5 w H => ?_
  refine ⟨?_⟩
  refine Cl.sl (by kernel_rfl) (p_bare H 0 g) fun w H => ?_
  refine Nw.as #[.int .i64 0, .int .i64 0, .int .i64 0, .int .i64 0, .int .i64 0, .int .i64 0, .bool false, .bool false] 53 rfl H fun b7 w H => ?_
  refine H.st0 (cs' := #[.int .i64 0, .int .i64 0, .int .i64 0, .int .i64 0, .int .i64 0, .int .i64 0, .bool false, .bool false]) rfl rfl rfl fun w H => ?_
  refine H.st0 (cs' := #[.int .i64 0, .int .i64 g, .int .i64 0, .int .i64 0, .int .i64 0, .int .i64 0, .bool false, .bool false]) rfl rfl rfl fun w H => ?_
  refine H.st0 (cs' := #[.int .i64 0, .int .i64 g, .int .i64 (-1), .int .i64 0, .int .i64 0, .int .i64 0, .bool false, .bool false]) rfl rfl rfl fun w H => ?_
  refine H.st0 (cs' := #[.int .i64 0, .int .i64 g, .int .i64 (-1), .int .i64 (-1), .int .i64 0, .int .i64 0, .bool false, .bool false]) rfl rfl rfl fun w H => ?_
  refine H.st0 (cs' := #[.int .i64 0, .int .i64 g, .int .i64 (-1), .int .i64 (-1), .int .i64 (-1), .int .i64 0, .bool false, .bool false]) rfl rfl rfl fun w H => ?_
  refine H.st0 (cs' := #[.int .i64 0, .int .i64 g, .int .i64 (-1), .int .i64 (-1), .int .i64 (-1), .int .i64 (-1), .bool false, .bool false]) rfl rfl rfl fun w H => ?_
  refine H.st0 (cs' := #[.int .i64 0, .int .i64 g, .int .i64 (-1), .int .i64 (-1), .int .i64 (-1), .int .i64 (-1), .bool false, .bool false]) rfl rfl rfl fun w H => ?_
  refine H.st0 (cs' := #[.int .i64 0, .int .i64 g, .int .i64 (-1), .int .i64 (-1), .int .i64 (-1), .int .i64 (-1), .bool false, .bool false]) rfl rfl rfl fun w H => ?_
  refine ⟨?_⟩
  refine H.ldi 1 rfl (v := .int .i64 5) rfl ?_
  refine ⟨?_⟩
  refine ⟨?_⟩
  refine BB.no rfl ?_
  refine Cn.no ?_
  refine ⟨?_⟩
  refine BB.no rfl ?_
  refine Cn.no ?_
  refine ⟨?_⟩
  refine BB.yes rfl ?_
  refine Cn.yes ?_
  refine ⟨?_⟩
  refine H.ldi 1 rfl (v := .int .i64 ↑an) rfl ?_
  have H0 := H.pick [2, 3, 4, 5, 6, 7, 8, 0, 1, 9] 10 (by decide)
  simp only [pk, nth, pkA, pkB, pkC, pkD, pkE, pkF] at H0
  replace H := lm_shut (x := x) hl1 (by first | rfl | simp [turnL, noteL, backN_len]) hn H0
  have h1 := H
  refine Cl.by (by kernel_rfl) (p_shut hn hk (by omega) g (cj := an) han h1) ?_
  rintro _ w ⟨b, y0, rfl, hres, H⟩
  refine ⟨_, rfl, ?_⟩
  refine BB.k ?_
  refine ret1 (fn := Tryz.f56) (.bool b) rfl (by rfl) ?_
  have hc : doesL sc x g ⟨5, (an : Int), ob, cs, df⟩ = (if b = true then y0 else { y0 with pan := true }) := by rw [does_shut (by dsimp only; decide) (by dsimp only; decide) rfl]; exact hres
  exact ⟨b, y0, rfl, hc, H.pick [0, 3] 4 (by decide)⟩
 ·skip
  have hob := lm_open (x := x) hn H
  obtain ⟨cb1, crb1, pn1, pc1, ala1, alc1, ta1, tc1, ps1, hl1, H⟩ := hob
  refine calls_den (args := [_, _, _]) Tryz.func56 rfl (Nat.le_of_ble_eq_true (by kernel_rfl)) (by kernel_rfl) ?_
  refine ⟨?_⟩
  refine Nw.as #[.int .i64 6, .int .i64 oa, .int .i64 ob, .slice ca cs.length cc, .bool df] 66 rfl H fun b5 w H => ?_
  refine ⟨?_⟩
  refine Cl.sl (by kernel_rfl) (p_bare H 0 g) fun w H => ?_
  refine Nw.as #[.int .i64 0, .int .i64 0, .int .i64 0, .int .i64 0, .int .i64 0, .int .i64 0, .bool false, .bool false] 53 rfl H fun b7 w H => ?_
  refine H.st0 (cs' := #[.int .i64 0, .int .i64 0, .int .i64 0, .int .i64 0, .int .i64 0, .int .i64 0, .bool false, .bool false]) rfl rfl rfl fun w H => ?_
  refine H.st0 (cs' := #[.int .i64 0, .int .i64 g, .int .i64 0, .int .i64 0, .int .i64 0, .int .i64 0, .bool false, .bool false]) rfl rfl rfl fun w H => ?_
  refine H.st0 (cs' := #[.int .i64 0, .int .i64 g, .int .i64 (-1), .int .i64 0, .int .i64 0, .int .i64 0, .bool false, .bool false]) rfl rfl rfl fun w H => ?_
  refine H.st0 (cs' := #[.int .i64 0, .int .i64 g, .int .i64 (-1), .int .i64 (-1), .int .i64 0, .int .i64 0, .bool false, .bool false]) rfl rfl rfl fun w H => ?_
  refine H.st0 (cs' := #[.int .i64 0, .int .i64 g, .int .i64 (-1), .int .i64 (-1), .int .i64 (-1), .int .i64 0, .bool false, .bool false]) rfl rfl rfl fun w H => ?_
  refine H.st0 (cs' := #[.int .i64 0, .int .i64 g, .int .i64 (-1), .int .i64 (-1), .int .i64 (-1), .int .i64 (-1), .bool false, .bool false]) rfl rfl rfl fun w H => ?_
  refine H.st0 (cs' := #[.int .i64 0, .int .i64 g, .int .i64 (-1), .int .i64 (-1), .int .i64 (-1), .int .i64 (-1), .bool false, .bool false]) rfl rfl rfl fun w H => ?_
  refine H.st0 (cs' := #[.int .i64 0, .int .i64 g, .int .i64 (-1), .int .i64 (-1), .int .i64 (-1), .int .i64 (-1), .bool false, .bool false]) rfl rfl rfl fun w H => ?_
  refine ⟨?_⟩
  refine H.ldi 1 rfl (v := .int .i64 6) rfl ?_
  refine ⟨?_⟩
  refine ⟨?_⟩
  refine BB.no rfl ?_
  refine Cn.no ?_
  refine ⟨?_⟩
  refine BB.no rfl ?_
  refine Cn.no ?_
  refine ⟨?_⟩
  refine BB.no rfl ?_
  refine Cn.no ?_
  refine ⟨?_⟩
  refine BB.yes rfl ?_
  refine Cn.yes ?_
  refine ⟨?_⟩
  refine H.ldi 1 rfl (v := .int .i64 6) rfl ?_
  refine H.ldi 1 rfl (v := .int .i64 oa) rfl ?_
  refine H.ldi 1 rfl (v := .int .i64 ob) rfl ?_
  refine H.ldi 1 rfl (v := .slice ca cs.length cc) rfl ?_
  refine H.ldi 1 rfl (v := .bool df) rfl ?_
  have H0 := H.pick [2, 3, 4, 5, 6, 7, 8, 0, 1, 9] 10 (by decide)
  simp only [pk, nth, pkA, pkB, pkC, pkD, pkE, pkF] at H0
  replace H := lm_shut (x := x) hl1 (by first | rfl | simp [turnL, noteL, backN_len]) hn H0
  have h1 := H.pick [0, 3, 1, 2] 4 (by decide)
  simp only [pk, nth, pkA, pkB, pkC, pkD, pkE, pkF] at h1
  refine Cl.by (by kernel_rfl) (p_choose (ox := ⟨⟨6, oa, ob, cs, df⟩, ca, cc⟩) hn hk (by omega) hgw hge hA hop h1) ?_
  rintro _ w ⟨b, y0, rfl, hres, H⟩
  refine ⟨_, rfl, ?_⟩
  replace H := H.pick [0, 2, 3, 1] 4 (by decide)
  simp only [pk, nth, pkA, pkB, pkC, pkD, pkE, pkF] at H
  refine BB.k ?_
  refine ret1 (fn := Tryz.f56) (.bool b) rfl (by rfl) ?_
  have hc : doesL sc x g ⟨6, oa, ob, cs, df⟩ = (if b = true then y0 else { y0 with pan := true }) := by rw [does_choose (by dsimp only; decide) (by dsimp only; decide) (by dsimp only; decide) rfl]; exact hres
  exact ⟨b, y0, rfl, hc, H.pick [0, 3] 4 (by decide)⟩
 ·skip
  have hob := lm_open (x := x) hn H
  obtain ⟨cb1, crb1, pn1, pc1, ala1, alc1, ta1, tc1, ps1, hl1, H⟩ := hob
  refine calls_den (args := [_, _, _]) Tryz.func56 rfl (Nat.le_of_ble_eq_true (by kernel_rfl)) (by kernel_rfl) ?_
  refine ⟨?_⟩
  refine Nw.as #[.int .i64 7, .int .i64 oa, .int .i64 ob, .slice ca cs.length cc, .bool df] 66 rfl H fun b5 w H => ?_
  refine ⟨?_⟩
  refine Cl.sl (by kernel_rfl) (p_bare H 0 g) fun w H => ?_
  refine Nw.as #[.int .i64 0, .int .i64 0, .int .i64 0, .int .i64 0, .int .i64 0, .int .i64 0, .bool false, .bool false] 53 rfl H fun b7 w H => ?_
  refine H.st0 (cs' := #[.int .i64 0, .int .i64 0, .int .i64 0, .int .i64 0, .int .i64 0, .int .i64 0, .bool false, .bool false]) rfl rfl rfl fun w H => ?_
  refine H.st0 (cs' := #[.int .i64 0, .int .i64 g, .int .i64 0, .int .i64 0, .int .i64 0, .int .i64 0, .bool false, .bool false]) rfl rfl rfl fun w H => ?_
  refine H.st0 (cs' := #[.int .i64 0, .int .i64 g, .int .i64 (-1), .int .i64 0, .int .i64 0, .int .i64 0, .bool false, .bool false]) rfl rfl rfl fun w H => ?_
  refine H.st0 (cs' := #[.int .i64 0, .int .i64 g, .int .i64 (-1), .int .i64 (-1), .int .i64 0, .int .i64 0, .bool false, .bool false]) rfl rfl rfl fun w H => ?_
  refine H.st0 (cs' := #[.int .i64 0, .int .i64 g, .int .i64 (-1), .int .i64 (-1), .int .i64 (-1), .int .i64 0, .bool false, .bool false]) rfl rfl rfl fun w H => ?_
  refine H.st0 (cs' := #[.int .i64 0, .int .i64 g, .int .i64 (-1), .int .i64 (-1), .int .i64 (-1), .int .i64 (-1), .bool false, .bool false]) rfl rfl rfl fun w H => ?_
  refine H.st0 (cs' := #[.int .i64 0, .int .i64 g, .int .i64 (-1), .int .i64 (-1), .int .i64 (-1), .int .i64 (-1), .bool false, .bool false]) rfl rfl rfl fun w H => ?_
  refine H.st0 (cs' := #[.int .i64 0, .int .i64 g, .int .i64 (-1), .int .i64 (-1), .int .i64 (-1), .int .i64 (-1), .bool false, .bool false]) rfl rfl rfl fun w H => ?_
  refine ⟨?_⟩
  refine H.ldi 1 rfl (v := .int .i64 7) rfl ?_
  refine ⟨?_⟩
  refine ⟨?_⟩
  refine BB.no rfl ?_
  refine Cn.no ?_
  refine ⟨?_⟩
  refine BB.no rfl ?_
  refine Cn.no ?_
  refine ⟨?_⟩
  refine BB.no rfl ?_
  refine Cn.no ?_
  refine ⟨?_⟩
  refine BB.no rfl ?_
  refine Cn.no ?_
  refine ⟨?_⟩
  refine BB.no rfl ?_
  refine Cn.no ?_
  refine ⟨?_⟩
  refine BB.no rfl ?_
  refine Cn.no ?_
  refine ⟨?_⟩
  refine BB.yes rfl ?_
  refine Cn.yes ?_
  refine ⟨?_⟩
  refine Drw.oft (.calm 0 (.calm 1 (.calm 2 (.act 3 false (.pure 4 (.act 5 true .nil)))))) (by kernel_rfl) mixed (fun w => SL w _) (H.drew.pick [1, 2, 3, 4, 5, 6, 7, 8, 9] 10 (by decide)) ?_
  replace H := H.drew
  refine LdC.i 0 rfl (v := .int .i64 oa) rfl ?_
  refine H.st0 (cs' := #[.int .i64 9, .int .i64 g, .int .i64 (-1), .int .i64 (-1), .int .i64 (-1), .int .i64 (-1), .bool false, .bool false]) rfl rfl rfl fun w H => ?_
  refine ⟨.inr (H.pick [1, 2, 3, 4, 5, 6, 7, 8, 9] 10 (by decide)), ?_⟩
  refine H.st0 (cs' := #[.int .i64 9, .int .i64 g, .int .i64 (-1), .int .i64 (-1), .int .i64 oa, .int .i64 (-1), .bool false, .bool false]) rfl rfl rfl fun w H => ?_
  refine ⟨.inl rfl, ?_⟩
  refine ⟨?_⟩
  refine H.ldi 0 rfl (v := .int .i64 9) rfl ?_
  refine H.ldi 0 rfl (v := .int .i64 g) rfl ?_
  refine H.ldi 0 rfl (v := .int .i64 (-1)) rfl ?_
  refine H.ldi 0 rfl (v := .int .i64 (-1)) rfl ?_
  refine H.ldi 0 rfl (v := .int .i64 oa) rfl ?_
  refine H.ldi 0 rfl (v := .int .i64 (-1)) rfl ?_
  refine H.ldi 0 rfl (v := .bool false) rfl ?_
  refine H.ldi 0 rfl (v := .bool false) rfl ?_
  have h1 := H.pick [2, 8, 0, 1, 3, 4, 5, 6, 7, 9] 10 (by decide)
  simp only [pk, nth, pkA, pkB, pkC, pkD, pkE, pkF] at h1
  refine Cl.by (by kernel_rfl) (p_noteO (Nat.le_trans (hk).tr (by omega)) ⟨9, g, -1, -1, oa, -1, false, false⟩ h1) ?_
  rintro _ w ⟨tn1, tk1, rfl, H⟩
  refine ⟨_, rfl, ?_⟩
  replace H := H.pick [2, 3, 0, 4, 5, 6, 7, 8, 1, 9] 10 (by decide)
  simp only [pk, nth, pkA, pkB, pkC, pkD, pkE, pkF] at H
  refine ⟨?_⟩
  refine H.ldi 2 rfl (v := .pointer (some ⟨crb1, 0, none⟩)) rfl ?_
  have h1 := H.pick [4, 0, 1, 2, 3, 5, 6, 7, 8, 9] 10 (by decide)
  simp only [pk, nth, pkA, pkB, pkC, pkD, pkE, pkF] at h1
  refine Cl.sl (by kernel_rfl) (p_go (L := (noteL x ⟨9, g, -1, -1, oa, -1, false, false⟩).crew) (Small.more ((hk.note ⟨9, g, -1, -1, oa, -1, false, false⟩)).sm (by omega)) g h1) fun w H => ?_
  replace H := H.pick [1, 2, 3, 4, 0, 5, 6, 7, 8, 9] 10 (by decide)
  simp only [pk, nth, pkA, pkB, pkC, pkD, pkE, pkF] at H
  refine ⟨?_⟩
  refine ret1 (fn := Tryz.f56) (.bool true) rfl (by rfl) ?_
  have H0 := H.pick [2, 3, 4, 5, 6, 7, 8, 0, 1, 9] 10 (by decide)
  simp only [pk, nth, pkA, pkB, pkC, pkD, pkE, pkF] at H0
  replace H := lm_shut (x := (turnL (noteL x ⟨9, g, -1, -1, oa, -1, false, false⟩) g 0 0)) hl1 (by first | rfl | simp [turnL, noteL, backN_len]) hn H0
  have hc : doesL sc x g ⟨7, oa, ob, cs, df⟩ = (turnL (noteL x ⟨9, g, -1, -1, oa, -1, false, false⟩) g 0 0) := by rw [does_other (by dsimp only; decide) (by dsimp only; decide) (by dsimp only; decide) (by dsimp only; decide)]; rfl
  exact ⟨true, (turnL (noteL x ⟨9, g, -1, -1, oa, -1, false, false⟩) g 0 0), rfl, hc, H.pick [0, 3] 4 (by decide)⟩
 ·skip
  have hob := lm_open (x := x) hn H
  obtain ⟨cb1, crb1, pn1, pc1, ala1, alc1, ta1, tc1, ps1, hl1, H⟩ := hob
  refine calls_den (args := [_, _, _]) Tryz.func56 rfl (Nat.le_of_ble_eq_true (by kernel_rfl)) (by kernel_rfl) ?_
  refine ⟨?_⟩
  refine Nw.as #[.int .i64 8, .int .i64 oa, .int .i64 ob, .slice ca cs.length cc, .bool df] 66 rfl H fun b5 w H => ?_
  refine ⟨?_⟩
  refine Cl.sl (by kernel_rfl) (p_bare H 0 g) fun w H => ?_
  refine Nw.as #[.int .i64 0, .int .i64 0, .int .i64 0, .int .i64 0, .int .i64 0, .int .i64 0, .bool false, .bool false] 53 rfl H fun b7 w H => ?_
  refine H.st0 (cs' := #[.int .i64 0, .int .i64 0, .int .i64 0, .int .i64 0, .int .i64 0, .int .i64 0, .bool false, .bool false]) rfl rfl rfl fun w H => ?_
  refine H.st0 (cs' := #[.int .i64 0, .int .i64 g, .int .i64 0, .int .i64 0, .int .i64 0, .int .i64 0, .bool false, .bool false]) rfl rfl rfl fun w H => ?_
  refine H.st0 (cs' := #[.int .i64 0, .int .i64 g, .int .i64 (-1), .int .i64 0, .int .i64 0, .int .i64 0, .bool false, .bool false]) rfl rfl rfl fun w H => ?_
  refine H.st0 (cs' := #[.int .i64 0, .int .i64 g, .int .i64 (-1), .int .i64 (-1), .int .i64 0, .int .i64 0, .bool false, .bool false]) rfl rfl rfl fun w H => ?_
  refine H.st0 (cs' := #[.int .i64 0, .int .i64 g, .int .i64 (-1), .int .i64 (-1), .int .i64 (-1), .int .i64 0, .bool false, .bool false]) rfl rfl rfl fun w H => ?_
  refine H.st0 (cs' := #[.int .i64 0, .int .i64 g, .int .i64 (-1), .int .i64 (-1), .int .i64 (-1), .int .i64 (-1), .bool false, .bool false]) rfl rfl rfl fun w H => ?_
  refine H.st0 (cs' := #[.int .i64 0, .int .i64 g, .int .i64 (-1), .int .i64 (-1), .int .i64 (-1), .int .i64 (-1), .bool false, .bool false]) rfl rfl rfl fun w H => ?_
  refine H.st0 (cs' := #[.int .i64 0, .int .i64 g, .int .i64 (-1), .int .i64 (-1), .int .i64 (-1), .int .i64 (-1), .bool false, .bool false]) rfl rfl rfl fun w H => ?_
  refine ⟨?_⟩
  refine H.ldi 1 rfl (v := .int .i64 8) rfl ?_
  refine ⟨?_⟩
  refine ⟨?_⟩
  refine BB.no rfl ?_
  refine Cn.no ?_
  refine ⟨?_⟩
  refine BB.no rfl ?_
  refine Cn.no ?_
  refine ⟨?_⟩
  refine BB.no rfl ?_
  refine Cn.no ?_
  refine ⟨?_⟩
  refine BB.no rfl ?_
  refine Cn.no ?_
  refine ⟨?_⟩
  refine BB.no rfl ?_
  refine Cn.no ?_
  refine ⟨?_⟩
  refine BB.no rfl ?_
  refine Cn.no ?_
  refine ⟨?_⟩
  refine BB.no rfl ?_
  refine Cn.no ?_
  refine ⟨?_⟩
  refine BB.yes rfl ?_
  refine Cn.yes ?_
  refine ⟨?_⟩
  refine Drw.oft (.calm 0 (.calm 1 (.calm 2 (.act 3 false (.pure 4 (.act 5 true .nil)))))) (by kernel_rfl) mixed (fun w => SL w _) (H.drew.pick [1, 2, 3, 4, 5, 6, 7, 8, 9] 10 (by decide)) ?_
  replace H := H.drew
  refine LdC.i 0 rfl (v := .int .i64 oa) rfl ?_
  refine H.st0 (cs' := #[.int .i64 10, .int .i64 g, .int .i64 (-1), .int .i64 (-1), .int .i64 (-1), .int .i64 (-1), .bool false, .bool false]) rfl rfl rfl fun w H => ?_
  refine ⟨.inr (H.pick [1, 2, 3, 4, 5, 6, 7, 8, 9] 10 (by decide)), ?_⟩
  refine H.st0 (cs' := #[.int .i64 10, .int .i64 g, .int .i64 (-1), .int .i64 (-1), .int .i64 oa, .int .i64 (-1), .bool false, .bool false]) rfl rfl rfl fun w H => ?_
  refine ⟨.inl rfl, ?_⟩
  refine ⟨?_⟩
  refine H.ldi 0 rfl (v := .int .i64 10) rfl ?_
  refine H.ldi 0 rfl (v := .int .i64 g) rfl ?_
  refine H.ldi 0 rfl (v := .int .i64 (-1)) rfl ?_
  refine H.ldi 0 rfl (v := .int .i64 (-1)) rfl ?_
  refine H.ldi 0 rfl (v := .int .i64 oa) rfl ?_
  refine H.ldi 0 rfl (v := .int .i64 (-1)) rfl ?_
  refine H.ldi 0 rfl (v := .bool false) rfl ?_
  refine H.ldi 0 rfl (v := .bool false) rfl ?_
  have h1 := H.pick [2, 8, 0, 1, 3, 4, 5, 6, 7, 9] 10 (by decide)
  simp only [pk, nth, pkA, pkB, pkC, pkD, pkE, pkF] at h1
  refine Cl.by (by kernel_rfl) (p_noteO (Nat.le_trans (hk).tr (by omega)) ⟨10, g, -1, -1, oa, -1, false, false⟩ h1) ?_
  rintro _ w ⟨tn1, tk1, rfl, H⟩
  refine ⟨_, rfl, ?_⟩
  replace H := H.pick [2, 3, 0, 4, 5, 6, 7, 8, 1, 9] 10 (by decide)
  simp only [pk, nth, pkA, pkB, pkC, pkD, pkE, pkF] at H
  refine ⟨?_⟩
  refine H.ldi 2 rfl (v := .pointer (some ⟨crb1, 0, none⟩)) rfl ?_
  have h1 := H.pick [4, 0, 1, 2, 3, 5, 6, 7, 8, 9] 10 (by decide)
  simp only [pk, nth, pkA, pkB, pkC, pkD, pkE, pkF] at h1
  refine Cl.sl (by kernel_rfl) (p_go (L := (noteL x ⟨10, g, -1, -1, oa, -1, false, false⟩).crew) (Small.more ((hk.note ⟨10, g, -1, -1, oa, -1, false, false⟩)).sm (by omega)) g h1) fun w H => ?_
  replace H := H.pick [1, 2, 3, 4, 0, 5, 6, 7, 8, 9] 10 (by decide)
  simp only [pk, nth, pkA, pkB, pkC, pkD, pkE, pkF] at H
  refine ⟨?_⟩
  refine ret1 (fn := Tryz.f56) (.bool true) rfl (by rfl) ?_
  have H0 := H.pick [2, 3, 4, 5, 6, 7, 8, 0, 1, 9] 10 (by decide)
  simp only [pk, nth, pkA, pkB, pkC, pkD, pkE, pkF] at H0
  replace H := lm_shut (x := (turnL (noteL x ⟨10, g, -1, -1, oa, -1, false, false⟩) g 0 0)) hl1 (by first | rfl | simp [turnL, noteL, backN_len]) hn H0
  have hc : doesL sc x g ⟨8, oa, ob, cs, df⟩ = (turnL (noteL x ⟨10, g, -1, -1, oa, -1, false, false⟩) g 0 0) := by rw [does_other (by dsimp only; decide) (by dsimp only; decide) (by dsimp only; decide) (by dsimp only; decide)]; rfl
  exact ⟨true, (turnL (noteL x ⟨10, g, -1, -1, oa, -1, false, false⟩) g 0 0), rfl, hc, H.pick [0, 3] 4 (by decide)⟩
 ·skip
  have hob := lm_open (x := x) hn H
  obtain ⟨cb1, crb1, pn1, pc1, ala1, alc1, ta1, tc1, ps1, hl1, H⟩ := hob
  refine calls_den (args := [_, _, _]) Tryz.func56 rfl (Nat.le_of_ble_eq_true (by kernel_rfl)) (by kernel_rfl) ?_
  refine ⟨?_⟩
  refine Nw.as #[.int .i64 9, .int .i64 oa, .int .i64 ob, .slice ca cs.length cc, .bool df] 66 rfl H fun b5 w H => ?_
  refine ⟨?_⟩
  refine Cl.sl (by kernel_rfl) (p_bare H 0 g) fun w H => ?_
  refine Nw.as #[.int .i64 0, .int .i64 0, .int .i64 0, .int .i64 0, .int .i64 0, .int .i64 0, .bool false, .bool false] 53 rfl H fun b7 w H => ?_
  refine H.st0 (cs' := #[.int .i64 0, .int .i64 0, .int .i64 0, .int .i64 0, .int .i64 0, .int .i64 0, .bool false, .bool false]) rfl rfl rfl fun w H => ?_
  refine H.st0 (cs' := #[.int .i64 0, .int .i64 g, .int .i64 0, .int .i64 0, .int .i64 0, .int .i64 0, .bool false, .bool false]) rfl rfl rfl fun w H => ?_
  refine H.st0 (cs' := #[.int .i64 0, .int .i64 g, .int .i64 (-1), .int .i64 0, .int .i64 0, .int .i64 0, .bool false, .bool false]) rfl rfl rfl fun w H => ?_
  refine H.st0 (cs' := #[.int .i64 0, .int .i64 g, .int .i64 (-1), .int .i64 (-1), .int .i64 0, .int .i64 0, .bool false, .bool false]) rfl rfl rfl fun w H => ?_
  refine H.st0 (cs' := #[.int .i64 0, .int .i64 g, .int .i64 (-1), .int .i64 (-1), .int .i64 (-1), .int .i64 0, .bool false, .bool false]) rfl rfl rfl fun w H => ?_
  refine H.st0 (cs' := #[.int .i64 0, .int .i64 g, .int .i64 (-1), .int .i64 (-1), .int .i64 (-1), .int .i64 (-1), .bool false, .bool false]) rfl rfl rfl fun w H => ?_
  refine H.st0 (cs' := #[.int .i64 0, .int .i64 g, .int .i64 (-1), .int .i64 (-1), .int .i64 (-1), .int .i64 (-1), .bool false, .bool false]) rfl rfl rfl fun w H => ?_
  refine H.st0 (cs' := #[.int .i64 0, .int .i64 g, .int .i64 (-1), .int .i64 (-1), .int .i64 (-1), .int .i64 (-1), .bool false, .bool false]) rfl rfl rfl fun w H => ?_
  refine ⟨?_⟩
  refine H.ldi 1 rfl (v := .int .i64 9) rfl ?_
  refine ⟨?_⟩
  refine ⟨?_⟩
  refine BB.no rfl ?_
  refine Cn.no ?_
  refine ⟨?_⟩
  refine BB.no rfl ?_
  refine Cn.no ?_
  refine ⟨?_⟩
  refine BB.no rfl ?_
  refine Cn.no ?_
  refine ⟨?_⟩
  refine BB.no rfl ?_
  refine Cn.no ?_
  refine ⟨?_⟩
  refine BB.no rfl ?_
  refine Cn.no ?_
  refine ⟨?_⟩
  refine BB.no rfl ?_
  refine Cn.no ?_
  refine ⟨?_⟩
  refine BB.no rfl ?_
  refine Cn.no ?_
  refine ⟨?_⟩
  refine BB.no rfl ?_
  refine Cn.no ?_
  refine ⟨?_⟩
  refine BB.yes rfl ?_
  refine Cn.yes ?_
  refine ⟨?_⟩
  refine H.st0 (cs' := #[.int .i64 11, .int .i64 g, .int .i64 (-1), .int .i64 (-1), .int .i64 (-1), .int .i64 (-1), .bool false, .bool false]) rfl rfl rfl fun w H => ?_
  refine ⟨?_⟩
  refine H.ldi 2 rfl (v := .pointer (some ⟨crb1, 0, none⟩)) rfl ?_
  have h1 := H.pick [4, 0, 1, 2, 3, 5, 6, 7, 8, 9] 10 (by decide)
  simp only [pk, nth, pkA, pkB, pkC, pkD, pkE, pkF] at h1
  refine Cl.sl (by kernel_rfl) (p_exit (L := x.crew) (Small.more (hk).sm (by omega)) g h1) fun w H => ?_
  replace H := H.pick [1, 2, 3, 4, 0, 5, 6, 7, 8, 9] 10 (by decide)
  simp only [pk, nth, pkA, pkB, pkC, pkD, pkE, pkF] at H
  refine ⟨?_⟩
  refine H.ldi 0 rfl (v := .int .i64 11) rfl ?_
  refine H.ldi 0 rfl (v := .int .i64 g) rfl ?_
  refine H.ldi 0 rfl (v := .int .i64 (-1)) rfl ?_
  refine H.ldi 0 rfl (v := .int .i64 (-1)) rfl ?_
  refine H.ldi 0 rfl (v := .int .i64 (-1)) rfl ?_
  refine H.ldi 0 rfl (v := .int .i64 (-1)) rfl ?_
  refine H.ldi 0 rfl (v := .bool false) rfl ?_
  refine H.ldi 0 rfl (v := .bool false) rfl ?_
  have h1 := H.pick [2, 8, 0, 1, 3, 4, 5, 6, 7, 9] 10 (by decide)
  simp only [pk, nth, pkA, pkB, pkC, pkD, pkE, pkF] at h1
  refine Cl.by (by kernel_rfl) (p_noteO (Nat.le_trans ((hk.turn g 0 2)).tr (by omega)) ⟨11, g, -1, -1, -1, -1, false, false⟩ h1) ?_
  rintro _ w ⟨tn1, tk1, rfl, H⟩
  refine ⟨_, rfl, ?_⟩
  replace H := H.pick [2, 3, 0, 4, 5, 6, 7, 8, 1, 9] 10 (by decide)
  simp only [pk, nth, pkA, pkB, pkC, pkD, pkE, pkF] at H
  refine ⟨?_⟩
  refine H.ldi 2 rfl (v := .pointer (some ⟨crb1, 0, none⟩)) rfl ?_
  have h1 := H.pick [4, 0, 1, 2, 3, 5, 6, 7, 8, 9] 10 (by decide)
  simp only [pk, nth, pkA, pkB, pkC, pkD, pkE, pkF] at h1
  refine Cl.sl (by kernel_rfl) (p_goX g (Small.more (hk.turn g 0 2).sm (by omega)) h1) fun w H => ?_
  replace H := H.pick [1, 2, 3, 4, 0, 5, 6, 7, 8, 9] 10 (by decide)
  simp only [pk, nth, pkA, pkB, pkC, pkD, pkE, pkF] at H
  refine ⟨?_⟩
  refine ret1 (fn := Tryz.f56) (.bool true) rfl (by rfl) ?_
  have H0 := H.pick [2, 3, 4, 5, 6, 7, 8, 0, 1, 9] 10 (by decide)
  simp only [pk, nth, pkA, pkB, pkC, pkD, pkE, pkF] at H0
  replace H := lm_shut (x := (noteL (turnL x g 0 2) ⟨11, g, -1, -1, -1, -1, false, false⟩)) hl1 (by first | rfl | simp [turnL, noteL, backN_len]) hn H0
  have hc : doesL sc x g ⟨9, oa, ob, cs, df⟩ = (noteL (turnL x g 0 2) ⟨11, g, -1, -1, -1, -1, false, false⟩) := by rw [does_other (by dsimp only; decide) (by dsimp only; decide) (by dsimp only; decide) (by dsimp only; decide)]; rfl
  exact ⟨true, (noteL (turnL x g 0 2) ⟨11, g, -1, -1, -1, -1, false, false⟩), rfl, hc, H.pick [0, 3] 4 (by decide)⟩
end Go.Proofs.YtchkaaeoffmjnaaGreatDoor
namespace Go.Proofs.YtchkaaeoffmjnaaGreatDoor
set_option linter.unusedVariables false
set_option linter.unusedSimpArgs false
open Go.RowKit
set_option maxRecDepth 100000
theorem SL.rowSlc {w : World} {F : List Piece} {te sz n b : Nat} {xs : List Value} (hl : xs.length = n * sz) (hn : n ≤ maxLen) (H : SL w (row b xs.toArray te :: F)) : SL w (Slc te sz (.slice (some ⟨b, 0, none⟩) n n) n xs :: F) := by
 obtain ⟨T, h1, ⟨h2, h3⟩, h4⟩ := H
 refine ⟨T, h1, ⟨⟨hl, .inr ⟨b, n, xs.toArray, rfl, Nat.zero_le _, h3, Nat.le_refl _, hn, by simpa using hl, ?_⟩⟩, fun k hk => ?_⟩, h4⟩
 ·rw [← hl]
  simp
 ·injection hk with hk
  rw [← hk]
  exact h2
theorem clone_ev {w : World} {F : List Piece} {A : Piece} {a : Option Addr} {n c : Nat} {xs : List Value} (hA : Reader A 8 a n xs) (hx : xs.all Value.oneCell' = true) (hn : n < 1000000) (H : SL w (A :: F)) :
  Calls Tryz.prog 57 #[.slice a n c] w fun o w' => ∃ a' c', o = .returned (.slice a' n c') ∧ SL w' (Slc 53 8 (.slice a' n c') n xs :: A :: F) := by
 have hr := H.read hA
 rcases a with _ | ad
 ·have hn0 : n = 0 := by
   rcases Nat.eq_zero_or_pos n with h | h
   ·exact h
   ·obtain ⟨_, _, h, _⟩ := hr.2.2 h
    cases h
  subst hn0
  have hxs : xs = [] := List.eq_nil_of_length_eq_zero (by simpa using hr.1)
  subst hxs
  refine calls_den (args := [_]) Tryz.func57 rfl (Nat.le_of_ble_eq_true (by kernel_rfl)) (by kernel_rfl) ?_
  refine ⟨?_⟩
  refine ⟨?_⟩
  refine BB.yes rfl ?_
  refine Cn.yes ?_
  refine ⟨?_⟩
  refine ret1 (fn := Tryz.f57) (.slice none 0 0) rfl (by rfl) ?_
  exact ⟨none, 0, rfl, SL.slcNil 53 8 H⟩
 ·skip
  refine calls_den (args := [_]) Tryz.func57 rfl (Nat.le_of_ble_eq_true (by kernel_rfl)) (by kernel_rfl) ?_
  refine ⟨?_⟩
  refine ⟨?_⟩
  refine BB.no rfl ?_
  refine Cn.no ?_
  refine ⟨?_⟩
  refine Mn.new (fun b => .slice (some ⟨b, 0, none⟩) 0 0) #[] 53 (by kernel_rfl) H fun b5 w H => ?_
  replace H := SL.rowSlc (sz := 8) (n := 0) (xs := []) (by rfl) (by decide) H
  refine SL.appF H (.tmp 5) (.tmp 6) 22 (.agg #[.int .i64 0, .int .i64 0, .int .i64 0, .int .i64 0, .int .i64 0, .int .i64 0, .bool false, .bool false]) 56 (by rfl) (by kernel_rfl) (by kernel_rfl) (by rfl) (by decide) (by rfl) (some ad) n c xs (by rfl) ((H.one 1 rfl).read hA) hx (by omega) (by decide) fun a' c' w H => ?_
  rw [Nat.zero_add, List.nil_append] at H
  rw [Nat.zero_add]
  refine ret1 (fn := Tryz.f57) (.slice a' n c') rfl (by rfl) ?_
  exact ⟨a', c', rfl, H⟩
theorem clone_int {w : World} {F : List Piece} {A : Piece} {a : Option Addr} {n c : Nat} {xs : List Value} (hA : Reader A 1 a n xs) (hx : xs.all Value.oneCell' = true) (hn : n < 1000000) (H : SL w (A :: F)) :
  Calls Tryz.prog 95 #[.slice a n c] w fun o w' => ∃ a' c', o = .returned (.slice a' n c') ∧ SL w' (Slc 3 1 (.slice a' n c') n xs :: A :: F) := by
 have hr := H.read hA
 rcases a with _ | ad
 ·have hn0 : n = 0 := by
   rcases Nat.eq_zero_or_pos n with h | h
   ·exact h
   ·obtain ⟨_, _, h, _⟩ := hr.2.2 h
    cases h
  subst hn0
  have hxs : xs = [] := List.eq_nil_of_length_eq_zero (by simpa using hr.1)
  subst hxs
  refine calls_den (args := [_]) Tryz.func95 rfl (Nat.le_of_ble_eq_true (by kernel_rfl)) (by kernel_rfl) ?_
  refine ⟨?_⟩
  refine ⟨?_⟩
  refine BB.yes rfl ?_
  refine Cn.yes ?_
  refine ⟨?_⟩
  refine ret1 (fn := Tryz.f95) (.slice none 0 0) rfl (by rfl) ?_
  exact ⟨none, 0, rfl, SL.slcNil 3 1 H⟩
 ·skip
  refine calls_den (args := [_]) Tryz.func95 rfl (Nat.le_of_ble_eq_true (by kernel_rfl)) (by kernel_rfl) ?_
  refine ⟨?_⟩
  refine ⟨?_⟩
  refine BB.no rfl ?_
  refine Cn.no ?_
  refine ⟨?_⟩
  refine Mn.new (fun b => .slice (some ⟨b, 0, none⟩) 0 0) #[] 3 (by kernel_rfl) H fun b5 w H => ?_
  replace H := SL.rowSlc (sz := 1) (n := 0) (xs := []) (by rfl) (by decide) H
  refine SL.appF H (.tmp 5) (.tmp 6) 40 (.int .i64 0) 8 (by rfl) (by kernel_rfl) (by kernel_rfl) (by rfl) (by decide) (by rfl) (some ad) n c xs (by rfl) ((H.one 1 rfl).read hA) hx (by omega) (by decide) fun a' c' w H => ?_
  rw [Nat.zero_add, List.nil_append] at H
  rw [Nat.zero_add]
  refine ret1 (fn := Tryz.f95) (.slice a' n c') rfl (by rfl) ?_
  exact ⟨a', c', rfl, H⟩
theorem clone_case {w : World} {F : List Piece} {A : Piece} {a : Option Addr} {n c : Nat} {xs : List Value} (hA : Reader A 3 a n xs) (hx : xs.all Value.oneCell' = true) (hn : n < 1000000) (H : SL w (A :: F)) :
  Calls Tryz.prog 100 #[.slice a n c] w fun o w' => ∃ a' c', o = .returned (.slice a' n c') ∧ SL w' (Slc 154 3 (.slice a' n c') n xs :: A :: F) := by
 have hr := H.read hA
 rcases a with _ | ad
 ·have hn0 : n = 0 := by
   rcases Nat.eq_zero_or_pos n with h | h
   ·exact h
   ·obtain ⟨_, _, h, _⟩ := hr.2.2 h
    cases h
  subst hn0
  have hxs : xs = [] := List.eq_nil_of_length_eq_zero (by simpa using hr.1)
  subst hxs
  refine calls_den (args := [_]) Tryz.func100 rfl (Nat.le_of_ble_eq_true (by kernel_rfl)) (by kernel_rfl) ?_
  refine ⟨?_⟩
  refine ⟨?_⟩
  refine BB.yes rfl ?_
  refine Cn.yes ?_
  refine ⟨?_⟩
  refine ret1 (fn := Tryz.f100) (.slice none 0 0) rfl (by rfl) ?_
  exact ⟨none, 0, rfl, SL.slcNil 154 3 H⟩
 ·skip
  refine calls_den (args := [_]) Tryz.func100 rfl (Nat.le_of_ble_eq_true (by kernel_rfl)) (by kernel_rfl) ?_
  refine ⟨?_⟩
  refine ⟨?_⟩
  refine BB.no rfl ?_
  refine Cn.no ?_
  refine ⟨?_⟩
  refine Mn.new (fun b => .slice (some ⟨b, 0, none⟩) 0 0) #[] 154 (by kernel_rfl) H fun b5 w H => ?_
  replace H := SL.rowSlc (sz := 3) (n := 0) (xs := []) (by rfl) (by decide) H
  refine SL.appF H (.tmp 5) (.tmp 6) 64 (.agg #[.bool false, .int .i64 0, .int .i64 0]) 24 (by rfl) (by kernel_rfl) (by kernel_rfl) (by rfl) (by decide) (by rfl) (some ad) n c xs (by rfl) ((H.one 1 rfl).read hA) hx (by omega) (by decide) fun a' c' w H => ?_
  rw [Nat.zero_add, List.nil_append] at H
  rw [Nat.zero_add]
  refine ret1 (fn := Tryz.f100) (.slice a' n c') rfl (by rfl) ?_
  exact ⟨a', c', rfl, H⟩
end Go.Proofs.YtchkaaeoffmjnaaGreatDoor
