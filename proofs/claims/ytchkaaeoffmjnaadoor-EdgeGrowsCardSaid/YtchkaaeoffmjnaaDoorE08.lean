/- Texts of the proof, several in one file: Loom5, LoomX4, Loom6, Loom7. -/
import Derived.Test.YtchkaaeoffmjnaaDoorE07
namespace Go.Proofs.YtchkaaeoffmjnaaDoor
set_option linter.unusedVariables false
set_option linter.unusedSimpArgs false
open Go.RowKit
set_option maxRecDepth 100000
set_option maxHeartbeats 40000000 in
theorem r_shut {w : World} {F : List Piece} {np k lb : Nat} {x : LmM} {t m : Int} {vp vl vd : Value} {n0 n1 n2 n3 n4 n5 n6 n7 : Int} (hn : x.name = [n0, n1, n2, n3, n4, n5, n6, n7]) (hk : Lk np k x) (hkb : k ≤ 997000) (g : Int) {cj : Nat} (hcj : cj < 8) (H : SL w (RlP lb ⟨t, m, vp, vl, vd⟩ x :: F)) :
  Calls Tryd.prog 39 #[.pointer (some ⟨lb, 0, none⟩), .int .i64 g, .int .i64 (cj : Int)] w fun o w' => o = .returned (.tuple #[]) ∧ SL w' (RlP lb ⟨t, m, vp, vl, vd⟩ (shutL x g (cj : Int)) :: F) := by
 have hob := rl_open (x := x) hn H
 obtain ⟨hb1, crb1, cha1, chc1, ta1, tc1, ps1, hl1, H⟩ := hob
 rcases num_or hk hl1 hcj with ⟨hz, hnm⟩ | ⟨i, pg, hni, hi, hg, hnm⟩
 ·skip
  refine calls_den (args := [_, _, _]) Tryd.func39 rfl (Nat.le_of_ble_eq_true (by kernel_rfl)) (by kernel_rfl) ?_
  refine ⟨?_⟩
  have h1 := H.pick [0, 3, 1, 2, 4, 5] 6 (by decide)
  simp only [pk, nth, pkA, pkB, pkC, pkD, pkE, pkF] at h1
  refine Cl.by (by kernel_rfl) (r_pipes (x := x) hn (hk) hl1 h1) ?_
  rintro _ w ⟨oa1, oc1, rfl, H⟩
  refine ⟨_, rfl, ?_⟩
  replace H := H.pick [0, 1, 3, 4, 2, 5, 6] 7 (by decide)
  simp only [pk, nth, pkA, pkB, pkC, pkD, pkE, pkF] at H
  have h1 := H
  refine Cl.sl (by kernel_rfl) (q_named (x := x) (ps := ps1) (cb := oc1) hk Reader.slc (none) hnm h1) fun w H => ?_
  refine ⟨?_⟩
  refine BB.yes rfl ?_
  refine Cn.yes ?_
  refine ⟨?_⟩
  have H0 := H.pick [1, 2, 3, 4, 5, 6, 0] 7 (by decide)
  simp only [pk, nth, pkA, pkB, pkC, pkD, pkE, pkF] at H0
  replace H := rl_shut (x := x) hl1 (by first | rfl | simp [turnL, noteL, backN_len]) hn H0
  have h1 := H
  refine Cl.sl (by kernel_rfl) (r_panics (x := x) (Nat.le_trans (hk).tr (by omega)) g h1) fun w H => ?_
  have hob := rl_open (x := (panicL x g)) hn H
  obtain ⟨hb2, crb2, cha2, chc2, ta2, tc2, ps2, hl2, H⟩ := hob
  refine ret0 (fn := Tryd.f39) rfl ?_
  have H0 := H
  replace H := rl_shut (x := (panicL x g)) hl2 (by first | rfl | simp [turnL, noteL, backN_len]) hn H0
  have hc : shutL x g (cj : Int) = (panicL x g) := by exact shut_nil hz
  rw [hc]
  exact ⟨rfl, H.pick [0] 2 (by decide)⟩
 ·obtain ⟨hinR, hinS, hlR, hlS⟩ := close_in hk hi
  have hkC := hk.closed hi
  obtain ⟨⟨⟨R, Sd, ec⟩, y⟩, hC⟩ : ∃ r, closeF (x.M.getD i (emptyM 0)) = r := ⟨_, rfl⟩
  rw [hC] at hinR hinS hlR hlS hkC
  dsimp only at hinR hinS hlR hlS hkC
  refine calls_den (args := [_, _, _]) Tryd.func39 rfl (Nat.le_of_ble_eq_true (by kernel_rfl)) (by kernel_rfl) ?_
  refine ⟨?_⟩
  have h1 := H.pick [0, 3, 1, 2, 4, 5] 6 (by decide)
  simp only [pk, nth, pkA, pkB, pkC, pkD, pkE, pkF] at h1
  refine Cl.by (by kernel_rfl) (r_pipes (x := x) hn (hk) hl1 h1) ?_
  rintro _ w ⟨oa1, oc1, rfl, H⟩
  refine ⟨_, rfl, ?_⟩
  replace H := H.pick [0, 1, 3, 4, 2, 5, 6] 7 (by decide)
  simp only [pk, nth, pkA, pkB, pkC, pkD, pkE, pkF] at H
  have h1 := H
  refine Cl.sl (by kernel_rfl) (q_named (x := x) (ps := ps1) (cb := oc1) hk Reader.slc (some pg) hnm h1) fun w H => ?_
  refine ⟨?_⟩
  refine BB.no rfl ?_
  refine rs_closed hl1 hg H 5 rfl ?_
  refine BB.vr fun q1 e1 => ?_
  cases q1
  ·skip
   refine Cn.no ?_
   refine ⟨?_⟩
   have h1 := H.pick [5, 0, 1, 2, 3, 4, 6] 7 (by decide)
   simp only [pk, nth, pkA, pkB, pkC, pkD, pkE, pkF] at h1
   have hq := q_close (x := x) hl1 hg h1
   rw [hC] at hq
   dsimp only at hq
   refine Cl.by (by kernel_rfl) hq ?_
   rintro _ w ⟨ra, rac, rb, rbc, rfl, H⟩
   refine ⟨_, rfl, ?_⟩
   refine ⟨?_⟩
   refine Cl.sl (by kernel_rfl) (r_bare H 5 g) fun w H => ?_
   refine Nw.as #[.int .i64 0, .int .i64 0, .int .i64 0, .int .i64 0, .int .i64 0, .int .i64 0, .bool false, .bool false] 33 rfl H fun b10 w H => ?_
   refine H.st0 (cs' := #[.int .i64 5, .int .i64 0, .int .i64 0, .int .i64 0, .int .i64 0, .int .i64 0, .bool false, .bool false]) rfl rfl rfl fun w H => ?_
   refine H.st0 (cs' := #[.int .i64 5, .int .i64 g, .int .i64 0, .int .i64 0, .int .i64 0, .int .i64 0, .bool false, .bool false]) rfl rfl rfl fun w H => ?_
   refine H.st0 (cs' := #[.int .i64 5, .int .i64 g, .int .i64 (-1), .int .i64 0, .int .i64 0, .int .i64 0, .bool false, .bool false]) rfl rfl rfl fun w H => ?_
   refine H.st0 (cs' := #[.int .i64 5, .int .i64 g, .int .i64 (-1), .int .i64 (-1), .int .i64 0, .int .i64 0, .bool false, .bool false]) rfl rfl rfl fun w H => ?_
   refine H.st0 (cs' := #[.int .i64 5, .int .i64 g, .int .i64 (-1), .int .i64 (-1), .int .i64 (-1), .int .i64 0, .bool false, .bool false]) rfl rfl rfl fun w H => ?_
   refine H.st0 (cs' := #[.int .i64 5, .int .i64 g, .int .i64 (-1), .int .i64 (-1), .int .i64 (-1), .int .i64 (-1), .bool false, .bool false]) rfl rfl rfl fun w H => ?_
   refine H.st0 (cs' := #[.int .i64 5, .int .i64 g, .int .i64 (-1), .int .i64 (-1), .int .i64 (-1), .int .i64 (-1), .bool false, .bool false]) rfl rfl rfl fun w H => ?_
   refine H.st0 (cs' := #[.int .i64 5, .int .i64 g, .int .i64 (-1), .int .i64 (-1), .int .i64 (-1), .int .i64 (-1), .bool false, .bool false]) rfl rfl rfl fun w H => ?_
   refine ⟨?_⟩
   refine Ix.at cj 1 (by kernel_rfl) rfl hcj ?_
   refine H.ldi 5 rfl (v := .int .i64 (numL x ↑cj)) (name_cell (x := x) hn cj hcj) ?_
   refine H.st0 (cs' := #[.int .i64 5, .int .i64 g, .int .i64 (numL x ↑cj), .int .i64 (-1), .int .i64 (-1), .int .i64 (-1), .bool false, .bool false]) rfl rfl rfl fun w H => ?_
   refine ⟨?_⟩
   refine H.ldi 0 rfl (v := .int .i64 5) rfl ?_
   refine H.ldi 0 rfl (v := .int .i64 g) rfl ?_
   refine H.ldi 0 rfl (v := .int .i64 (numL x ↑cj)) rfl ?_
   refine H.ldi 0 rfl (v := .int .i64 (-1)) rfl ?_
   refine H.ldi 0 rfl (v := .int .i64 (-1)) rfl ?_
   refine H.ldi 0 rfl (v := .int .i64 (-1)) rfl ?_
   refine H.ldi 0 rfl (v := .bool false) rfl ?_
   refine H.ldi 0 rfl (v := .bool false) rfl ?_
   have h1 := H.pick [5, 9, 0, 1, 2, 3, 4, 6, 7, 8] 10 (by decide)
   simp only [pk, nth, pkA, pkB, pkC, pkD, pkE, pkF] at h1
   refine Cl.by (by kernel_rfl) (r_noteO (Nat.le_trans (hkC).tr (by omega)) ⟨5, g, (numL x ↑cj), -1, -1, -1, false, false⟩ h1) ?_
   rintro _ w ⟨tn1, tk1, rfl, H⟩
   refine ⟨_, rfl, ?_⟩
   replace H := H.pick [2, 3, 4, 5, 6, 0, 7, 8, 9, 1] 10 (by decide)
   simp only [pk, nth, pkA, pkB, pkC, pkD, pkE, pkF] at H
   refine ⟨?_⟩
   refine H.ldi 5 rfl (v := .pointer (some ⟨crb1, 0, none⟩)) rfl ?_
   have h1 := H.pick [7, 0, 1, 2, 3, 4, 5, 6, 8, 9] 10 (by decide)
   simp only [pk, nth, pkA, pkB, pkC, pkD, pkE, pkF] at h1
   refine Cl.sl (by kernel_rfl) (q_turn (L := (noteL ({ x with M := x.M.set i y }) ⟨5, g, (numL x ↑cj), -1, -1, -1, false, false⟩).crew) (Small.more ((hkC.note ⟨5, g, (numL x ↑cj), -1, -1, -1, false, false⟩)).sm (by omega)) g 0 0 (by decide) h1) fun w H => ?_
   replace H := H.pick [1, 2, 3, 4, 5, 6, 7, 0, 8, 9] 10 (by decide)
   simp only [pk, nth, pkA, pkB, pkC, pkD, pkE, pkF] at H
   refine ⟨?_⟩
   refine ⟨?_⟩
   have H0 := H.pick [5, 6, 7, 8, 3, 9, 0, 1, 2, 4] 10 (by decide)
   simp only [pk, nth, pkA, pkB, pkC, pkD, pkE, pkF] at H0
   replace H := rl_shut (x := (turnL (noteL ({ x with M := x.M.set i y }) ⟨5, g, (numL x ↑cj), -1, -1, -1, false, false⟩) g 0 0)) hl1 (by first | rfl | simp [turnL, noteL, backN_len]) hn H0
   have hob : ∃ z, z = (turnL (noteL ({ x with M := x.M.set i y }) ⟨5, g, (numL x ↑cj), -1, -1, -1, false, false⟩) g 0 0) := ⟨_, rfl⟩
   obtain ⟨x2, hx2⟩ := hob
   rw [← hx2] at H
   have hn2 : x2.name = [n0, n1, n2, n3, n4, n5, n6, n7] := by rw [hx2]; exact hn
   have hk2 : Lk np (k + 2) x2 := by rw [hx2]; exact ((hkC.note ⟨5, g, (numL x ↑cj), -1, -1, -1, false, false⟩).turn g 0 0)
   have hc2 : x2.crew.length = x.crew.length := by rw [hx2]; exact turn_len _ _ _ _ _
   refine den.loop (ι := Nat) [(12, 12), (56, 83)] (by kernel_rfl) (fun j => [(56, .int .i64 ↑j)]) (fun j w => (j ≤ R.length) ∧ SL w (RlP lb ⟨t, m, vp, vl, vd⟩ (wakesL x2 g (numL x ↑cj) (R.take j)) :: RdP ra R.length 3 (R.flatMap Wtr.cells) :: RdP rb Sd.length 3 (Sd.flatMap Wtr.cells) :: row b10 #[.int .i64 5, .int .i64 g, .int .i64 (numL x ↑cj), .int .i64 (-1), .int .i64 (-1), .int .i64 (-1), .bool false, .bool false] 33 :: F)) (fun j => R.length - j) 0 ⟨rfl, trivial⟩ ⟨Nat.zero_le _, (H.pick [0, 2, 3, 1] 5 (by decide))⟩ ?_
   rintro j s w ⟨hc, H⟩
   have hob := Nat.lt_or_ge j R.length
   rcases hob with hj | hj
   ·skip
    have hkj : Lk np (k + 1100) (wakesL x2 g (numL x ↑cj) (R.take j)) := (hk2.wakes _ _ _).more (by rw [List.length_take]; omega)
    have hob : ∃ z, R[j]? = some z := ⟨_, List.getElem?_eq_getElem hj⟩
    obtain ⟨wz, hw⟩ := hob
    have hwr := hinR _ (List.mem_of_getElem? hw)
    have hob := Int.eq_ofNat_of_zero_le hwr.1
    obtain ⟨wn, hwg⟩ := hob
    have hwn : wn < (wakesL x2 g (numL x ↑cj) (R.take j)).crew.length := by rw [wakes_crew, hc2]; omega
    have hob : ∃ z, (wakesL x2 g (numL x ↑cj) (R.take j)).crew[wn]? = some z := ⟨_, List.getElem?_eq_getElem hwn⟩
    obtain ⟨oz, hone⟩ := hob
    have hstep := wakes_step (x := x2) (g := g) (ch := numL x ↑cj) hw
    rw [hwg, stateF_at hone, ← hwg] at hstep
    have hob := H.addrR 1 rfl Reader.rdp (by omega)
    obtain ⟨rab, rao, rfl⟩ := hob
    have hob := rl_open (x := (wakesL x2 g (numL x ↑cj) (R.take j))) ((wakes_name x2 g (numL x ↑cj) (R.take j)).trans hn2) H
    obtain ⟨hb2, crb2, cha2, chc2, ta2, tc2, ps2, hl2, H⟩ := hob
    have H0 := H.pick [2, 0, 1, 3, 4, 5, 6, 7, 8] 9 (by decide)
    simp only [pk, nth, pkA, pkB, pkC, pkD, pkE, pkF] at H0
    have hob := ones_open H0
    obtain ⟨ov, H⟩ := hob
    have hob := SL.slcForm H.up1
    obtain ⟨oa, oc, rfl⟩ := hob
    have hob := SL.slcAddr H.up1 (by omega)
    obtain ⟨ob, rfl⟩ := hob
    refine ⟨?_⟩
    refine BB.yes (decide_eq_true (by omega)) ?_
    refine Cn.yes ?_
    refine ⟨?_⟩
    refine ⟨?_⟩
    refine Ix.at j 3 (by kernel_rfl) (rfl) (hj) ?_
    refine H.ldR 7 rfl Reader.rdp (by omega) (q := j * 3 + 0) rfl (v := .int .i64 wz.g) ((wtr_cell hw 0 (by decide)).trans rfl) ?_
    refine H.ldR 7 rfl Reader.rdp (by omega) (q := j * 3 + 1) rfl (v := .int .i64 wz.case_) ((wtr_cell hw 1 (by decide)).trans rfl) ?_
    refine H.ldR 7 rfl Reader.rdp (by omega) (q := j * 3 + 2) rfl (v := .int .i64 wz.value) ((wtr_cell hw 2 (by decide)).trans rfl) ?_
    refine Nw.as #[.int .i64 0, .int .i64 0, .int .i64 0] 134 rfl H fun b12 w H => ?_
    refine H.st0 (cs' := #[.int .i64 wz.g, .int .i64 0, .int .i64 0]) rfl rfl rfl fun w H => ?_
    refine H.st0 (cs' := #[.int .i64 wz.g, .int .i64 wz.case_, .int .i64 0]) rfl rfl rfl fun w H => ?_
    refine H.st0 (cs' := #[.int .i64 wz.g, .int .i64 wz.case_, .int .i64 wz.value]) rfl rfl rfl fun w H => ?_
    refine ⟨?_⟩
    refine Drw.of [(0, true), (1, true), (2, true), (3, true), (4, true), (5, true), (6, true), (7, true), (8, true), (9, true), (10, true), (11, true), (12, true)] (by kernel_rfl) mixed (fun w => SL w _) H.drew ?_
    replace H := H.drew
    refine LdC.i 3 rfl (v := .pointer (some ⟨crb2, 0, none⟩)) rfl ?_
    refine LdC.i 1 rfl (v := .slice (some ⟨ob, 0, none⟩) ((wakesL x2 g (numL x ↑cj) (R.take j)).crew.length) oc) rfl ?_
    refine LdC.i 0 rfl (v := .int .i64 wz.g) rfl ?_
    refine Ix.at0 wn 3 (by kernel_rfl) (hwg) (hwn) ?_
    refine LdC.S 2 rfl (v := .int .i64 oz.state) ((ones_at hone 2 (by decide)).trans rfl) ?_
    refine BB.vr fun q2 e2 => ?_
    cases q2
    ·skip
     have h2 := beq_eq_false_iff_ne.1 e2
     refine Cn.no ?_
     refine ⟨?_⟩
     refine IW.by (wrap_id (n := ↑j + 1) (by omega) (by omega)) ?_
     have H0 := H.pick [1, 2, 0, 3, 4, 5, 6, 7, 8, 9, 10] 11 (by decide)
     simp only [pk, nth, pkA, pkB, pkC, pkD, pkE, pkF] at H0
     replace H := ones_shut H0
     have H0 := H.pick [2, 3, 0, 4, 5, 6, 1, 7, 8, 9] 10 (by decide)
     simp only [pk, nth, pkA, pkB, pkC, pkD, pkE, pkF] at H0
     replace H := rl_shut (x := (wakesL x2 g (numL x ↑cj) (R.take j))) hl2 (by first | rfl | simp [turnL, noteL, backN_len]) ((wakes_name x2 g (numL x ↑cj) (R.take j)).trans hn2) H0
     rw [if_neg (by first | exact rfl | assumption)] at hstep
     rw [← hstep] at H
     exact ⟨j + 1, ⟨rfl, trivial⟩, ⟨(by omega : j + 1 ≤ R.length), H.pick [0, 2, 3, 4] 5 (by decide)⟩, (show R.length - (j + 1) < R.length - j by omega)⟩
    ·skip
     have h2 := eq_of_beq e2
     refine Cn.yes ?_
     refine ⟨?_⟩
     refine H.ldi 0 rfl (v := .int .i64 wz.g) rfl ?_
     refine H.ldi 10 rfl (v := .int .i64 (numL x ↑cj)) rfl ?_
     refine H.ldi 0 rfl (v := .int .i64 wz.case_) rfl ?_
     refine Mn.pure (.agg #[.int .i64 7, .int .i64 wz.g, .int .i64 (numL x ↑cj), .int .i64 wz.case_, .int .i64 0, .int .i64 g, .bool false, .bool false]) (by kernel_rfl) ?_
     have H0 := H.pick [1, 2, 0, 3, 4, 5, 6, 7, 8, 9, 10] 11 (by decide)
     simp only [pk, nth, pkA, pkB, pkC, pkD, pkE, pkF] at H0
     replace H := ones_shut H0
     have H0 := H.pick [2, 3, 0, 4, 5, 6, 1, 7, 8, 9] 10 (by decide)
     simp only [pk, nth, pkA, pkB, pkC, pkD, pkE, pkF] at H0
     replace H := rl_shut (x := (wakesL x2 g (numL x ↑cj) (R.take j))) hl2 (by first | rfl | simp [turnL, noteL, backN_len]) ((wakes_name x2 g (numL x ↑cj) (R.take j)).trans hn2) H0
     have h1 := H
     refine Cl.sl (by kernel_rfl) (r_wake (x := (wakesL x2 g (numL x ↑cj) (R.take j))) ((wakes_name x2 g (numL x ↑cj) (R.take j)).trans hn2) (hkj) (by omega) ⟨7, wz.g, (numL x ↑cj), wz.case_, 0, g, false, false⟩ h1) fun w H => ?_
     have hob := rl_open (x := (wakeL (wakesL x2 g (numL x ↑cj) (R.take j)) ⟨7, wz.g, (numL x ↑cj), wz.case_, 0, g, false, false⟩)) ((wakes_name x2 g (numL x ↑cj) (R.take j)).trans hn2) H
     obtain ⟨hb3, crb3, cha3, chc3, ta3, tc3, ps3, hl3, H⟩ := hob
     refine ⟨?_⟩
     refine IW.by (wrap_id (n := ↑j + 1) (by omega) (by omega)) ?_
     have H0 := H
     replace H := rl_shut (x := (wakeL (wakesL x2 g (numL x ↑cj) (R.take j)) ⟨7, wz.g, (numL x ↑cj), wz.case_, 0, g, false, false⟩)) hl3 (by first | rfl | simp [turnL, noteL, backN_len]) ((wakes_name x2 g (numL x ↑cj) (R.take j)).trans hn2) H0
     rw [if_pos (by first | exact rfl | assumption)] at hstep
     rw [← hstep] at H
     exact ⟨j + 1, ⟨rfl, trivial⟩, ⟨(by omega : j + 1 ≤ R.length), H.pick [0, 2, 3, 4] 5 (by decide)⟩, (show R.length - (j + 1) < R.length - j by omega)⟩
   ·skip
    have hob : j = R.length := by omega
    obtain rfl := hob
    rw [List.take_length] at H
    have hkw : Lk np (k + 1100) (wakesL x2 g (numL x ↑cj) R) := (hk2.wakes _ _ _).more (by omega)
    refine ⟨?_⟩
    refine BB.no (decide_eq_false (by omega)) ?_
    refine Cn.no ?_
    refine ⟨?_⟩
    refine ⟨?_⟩
    have hcw : (wakesL x2 g (numL x ↑cj) R).crew.length = x.crew.length := by rw [wakes_crew, hc2]
    refine den.loop (ι := Nat) [(14, 14), (86, 107)] (by kernel_rfl) (fun j => [(86, .int .i64 ↑j)]) (fun j w => (j ≤ Sd.length ∧ sendersL (wakesL x2 g (numL x ↑cj) R) Sd = sendersL (wakesL x2 g (numL x ↑cj) R) (Sd.drop j)) ∧ SL w (RlP lb ⟨t, m, vp, vl, vd⟩ (wakesL x2 g (numL x ↑cj) R) :: RdP rb Sd.length 3 (Sd.flatMap Wtr.cells) :: F)) (fun j => Sd.length - j) 0 ⟨rfl, trivial⟩ ⟨⟨Nat.zero_le _, rfl⟩, (H.pick [0, 2] 4 (by decide))⟩ ?_
    rintro j s w ⟨hc, H⟩
    have hob := Nat.lt_or_ge j Sd.length
    rcases hob with hj | hj
    ·skip
     have hob : ∃ z, Sd[j]? = some z := ⟨_, List.getElem?_eq_getElem hj⟩
     obtain ⟨wz, hw⟩ := hob
     have hwr := hinS _ (List.mem_of_getElem? hw)
     have hob := Int.eq_ofNat_of_zero_le hwr.1
     obtain ⟨wn, hwg⟩ := hob
     have hwn : wn < (wakesL x2 g (numL x ↑cj) R).crew.length := by omega
     have hob : ∃ z, (wakesL x2 g (numL x ↑cj) R).crew[wn]? = some z := ⟨_, List.getElem?_eq_getElem hwn⟩
     obtain ⟨oz, hone⟩ := hob
     have hstep := senders_step (x := (wakesL x2 g (numL x ↑cj) R)) hw
     rw [hwg, stateF_at hone, ← hwg] at hstep
     have hob := H.addrR 1 rfl Reader.rdp (by omega)
     obtain ⟨rbb, rbo, rfl⟩ := hob
     have hob := rl_open (x := (wakesL x2 g (numL x ↑cj) R)) ((wakes_name x2 g (numL x ↑cj) R).trans hn2) H
     obtain ⟨hb4, crb4, cha4, chc4, ta4, tc4, ps4, hl4, H⟩ := hob
     have H0 := H.pick [2, 0, 1, 3, 4, 5, 6] 7 (by decide)
     simp only [pk, nth, pkA, pkB, pkC, pkD, pkE, pkF] at H0
     have hob := ones_open H0
     obtain ⟨ov, H⟩ := hob
     have hob := SL.slcForm H.up1
     obtain ⟨oa, oc, rfl⟩ := hob
     have hob := SL.slcAddr H.up1 (by omega)
     obtain ⟨ob, rfl⟩ := hob
     refine ⟨?_⟩
     refine BB.yes (decide_eq_true (by omega)) ?_
     refine Cn.yes ?_
     refine ⟨?_⟩
     refine ⟨?_⟩
     refine Ix.at j 3 (by kernel_rfl) (rfl) (hj) ?_
     refine H.ldR 7 rfl Reader.rdp (by omega) (q := j * 3 + 0) rfl (v := .int .i64 wz.g) ((wtr_cell hw 0 (by decide)).trans rfl) ?_
     refine H.ldR 7 rfl Reader.rdp (by omega) (q := j * 3 + 1) rfl (v := .int .i64 wz.case_) ((wtr_cell hw 1 (by decide)).trans rfl) ?_
     refine H.ldR 7 rfl Reader.rdp (by omega) (q := j * 3 + 2) rfl (v := .int .i64 wz.value) ((wtr_cell hw 2 (by decide)).trans rfl) ?_
     refine Nw.as #[.int .i64 0, .int .i64 0, .int .i64 0] 134 rfl H fun b14 w H => ?_
     refine H.st0 (cs' := #[.int .i64 wz.g, .int .i64 0, .int .i64 0]) rfl rfl rfl fun w H => ?_
     refine H.st0 (cs' := #[.int .i64 wz.g, .int .i64 wz.case_, .int .i64 0]) rfl rfl rfl fun w H => ?_
     refine H.st0 (cs' := #[.int .i64 wz.g, .int .i64 wz.case_, .int .i64 wz.value]) rfl rfl rfl fun w H => ?_
     refine ⟨?_⟩
     refine Drw.of [(0, true), (1, true), (2, true), (3, true), (4, true), (5, true), (6, true), (7, true), (8, true), (9, true), (10, true), (11, true), (12, true)] (by kernel_rfl) mixed (fun w => SL w _) H.drew ?_
     replace H := H.drew
     refine LdC.i 3 rfl (v := .pointer (some ⟨crb4, 0, none⟩)) rfl ?_
     refine LdC.i 1 rfl (v := .slice (some ⟨ob, 0, none⟩) ((wakesL x2 g (numL x ↑cj) R).crew.length) oc) rfl ?_
     refine LdC.i 0 rfl (v := .int .i64 wz.g) rfl ?_
     refine Ix.at0 wn 3 (by kernel_rfl) (hwg) (hwn) ?_
     refine LdC.S 2 rfl (v := .int .i64 oz.state) ((ones_at hone 2 (by decide)).trans rfl) ?_
     refine BB.vr fun q3 e3 => ?_
     cases q3
     ·skip
      have h3 := beq_eq_false_iff_ne.1 e3
      refine Cn.no ?_
      refine ⟨?_⟩
      refine IW.by (wrap_id (n := ↑j + 1) (by omega) (by omega)) ?_
      have H0 := H.pick [1, 2, 0, 3, 4, 5, 6, 7, 8] 9 (by decide)
      simp only [pk, nth, pkA, pkB, pkC, pkD, pkE, pkF] at H0
      replace H := ones_shut H0
      have H0 := H.pick [2, 3, 0, 4, 5, 6, 1, 7] 8 (by decide)
      simp only [pk, nth, pkA, pkB, pkC, pkD, pkE, pkF] at H0
      replace H := rl_shut (x := (wakesL x2 g (numL x ↑cj) R)) hl4 (by first | rfl | simp [turnL, noteL, backN_len]) ((wakes_name x2 g (numL x ↑cj) R).trans hn2) H0
      rw [if_neg (by assumption)] at hstep
      exact ⟨j + 1, ⟨rfl, trivial⟩, ⟨⟨by omega, hc.2.trans hstep⟩, H.pick [0, 2] 3 (by decide)⟩, (show Sd.length - (j + 1) < Sd.length - j by omega)⟩
     ·skip
      have h3 := eq_of_beq e3
      refine Cn.yes ?_
      refine ⟨?_⟩
      refine H.ldi 0 rfl (v := .int .i64 wz.g) rfl ?_
      have H0 := H.pick [1, 2, 0, 3, 4, 5, 6, 7, 8] 9 (by decide)
      simp only [pk, nth, pkA, pkB, pkC, pkD, pkE, pkF] at H0
      replace H := ones_shut H0
      have H0 := H.pick [2, 3, 0, 4, 5, 6, 1, 7] 8 (by decide)
      simp only [pk, nth, pkA, pkB, pkC, pkD, pkE, pkF] at H0
      replace H := rl_shut (x := (wakesL x2 g (numL x ↑cj) R)) hl4 (by first | rfl | simp [turnL, noteL, backN_len]) ((wakes_name x2 g (numL x ↑cj) R).trans hn2) H0
      have h1 := H
      refine Cl.sl (by kernel_rfl) (r_panics (x := (wakesL x2 g (numL x ↑cj) R)) (Nat.le_trans (hkw).tr (by omega)) wz.g h1) fun w H => ?_
      have hob := rl_open (x := (panicL (wakesL x2 g (numL x ↑cj) R) wz.g)) ((wakes_name x2 g (numL x ↑cj) R).trans hn2) H
      obtain ⟨hb5, crb5, cha5, chc5, ta5, tc5, ps5, hl5, H⟩ := hob
      refine ret0 (fn := Tryd.f39) rfl ?_
      rw [if_pos (by first | exact rfl | assumption)] at hstep
      have H0 := H
      replace H := rl_shut (x := (panicL (wakesL x2 g (numL x ↑cj) R) wz.g)) hl5 (by first | rfl | simp [turnL, noteL, backN_len]) ((wakes_name x2 g (numL x ↑cj) R).trans hn2) H0
      have hc : shutL x g (cj : Int) = (panicL (wakesL x2 g (numL x ↑cj) R) wz.g) := by rw [shut_main hni (by assumption) hC, ← hx2, hc.2, hstep]
      rw [hc]
      exact ⟨rfl, H.pick [0] 3 (by decide)⟩
    ·skip
     have hob : j = Sd.length := by omega
     obtain rfl := hob
     rw [List.drop_length] at hc
     refine ⟨?_⟩
     refine BB.no (decide_eq_false (by omega)) ?_
     refine Cn.no ?_
     refine ret0 (fn := Tryd.f39) rfl ?_
     have hc : shutL x g (cj : Int) = (wakesL x2 g (numL x ↑cj) R) := by rw [shut_main hni (by assumption) hC, ← hx2, hc.2]; rfl
     rw [hc]
     exact ⟨rfl, H.pick [0] 2 (by decide)⟩
  ·skip
   refine Cn.yes ?_
   refine ⟨?_⟩
   have H0 := H.pick [1, 2, 3, 4, 5, 6, 0] 7 (by decide)
   simp only [pk, nth, pkA, pkB, pkC, pkD, pkE, pkF] at H0
   replace H := rl_shut (x := x) hl1 (by first | rfl | simp [turnL, noteL, backN_len]) hn H0
   have h1 := H
   refine Cl.sl (by kernel_rfl) (r_panics (x := x) (Nat.le_trans (hk).tr (by omega)) g h1) fun w H => ?_
   have hob := rl_open (x := (panicL x g)) hn H
   obtain ⟨hb6, crb6, cha6, chc6, ta6, tc6, ps6, hl6, H⟩ := hob
   refine ret0 (fn := Tryd.f39) rfl ?_
   have H0 := H
   replace H := rl_shut (x := (panicL x g)) hl6 (by first | rfl | simp [turnL, noteL, backN_len]) hn H0
   have hc : shutL x g (cj : Int) = (panicL x g) := by exact shut_shut hni (by assumption)
   rw [hc]
   exact ⟨rfl, H.pick [0] 2 (by decide)⟩
end Go.Proofs.YtchkaaeoffmjnaaDoor
namespace Go.Proofs.YtchkaaeoffmjnaaDoor
set_option linter.unusedVariables false
set_option linter.unusedSimpArgs false
open Go.RowKit
def drawI (dr : List Int) (d n : Nat) : Nat × Nat := if n = 1 ∨ dr.length ≤ d then (0, d) else ((dr.getD d 0).toNat % n, d + 1)
theorem drawL_I (s : ScrM) (x : LmM) (n : Nat) : drawL s x n = ((drawI s.draws x.d n).1, { x with d := (drawI s.draws x.d n).2 }) := by
 unfold drawL drawI
 split <;> rfl
theorem drawI_lt (dr : List Int) (d : Nat) {n : Nat} (h : 0 < n) : (drawI dr d n).1 < n := by
 unfold drawI
 split
 ·exact h
 ·exact Nat.mod_lt _ h
theorem readyL_at {ok : List Bool} {M : List PipeM} {L : List CaseM} {i : Nat} (h : i < (readyL ok M L).length) : ∃ a : Nat, (readyL ok M L).getD i 0 = (a : Int) ∧ a < L.length := by
 have hm : (readyL ok M L)[i]? = some (readyL ok M L)[i] := List.getElem?_eq_getElem h
 have h1 : (readyL ok M L)[i] ∈ readyL ok M L := List.getElem_mem h
 rw [List.getD_eq_getElem?_getD, hm]
 generalize (readyL ok M L)[i] = z at h1
 unfold readyL readyK at h1
 obtain ⟨a, ha, rfl⟩ := List.mem_map.1 h1
 exact ⟨a, rfl, List.mem_range.1 (List.mem_filter.1 ha).1⟩
theorem readyL_len (ok : List Bool) (M : List PipeM) (L : List CaseM) : (readyL ok M L).length ≤ L.length := readyK_le ok M L L.length
theorem choose_ready {s : ScrM} {x : LmM} {g : Int} {o : OpM} {rd : List Int} {an : Nat} {cz : CaseM} (hrd : readyL (okN x) (pipesN x) o.cases = rd) (hr : 0 < rd.length) (han : rd.getD (drawI s.draws x.d rd.length).1 0 = (an : Int)) (hcz : o.cases[an]? = some cz) :
  chooseL s x g o = talkL { x with d := (drawI s.draws x.d rd.length).2 } g cz (an : Int) := by
 unfold chooseL
 dsimp only
 rw [hrd, if_pos hr, drawL_I]
 dsimp only
 rw [han, Int.toNat_natCast, List.getD_eq_getElem?_getD, hcz]
 rfl
theorem choose_dflt {s : ScrM} {x : LmM} {g : Int} {o : OpM} (hr : ¬ 0 < (readyL (okN x) (pipesN x) o.cases).length) (hd : o.dflt = true) : chooseL s x g o = turnL (noteL x (bareE 8 g)) g 0 0 := by
 unfold chooseL
 dsimp only
 rw [if_neg hr, if_pos hd]
theorem choose_park {s : ScrM} {x : LmM} {g : Int} {o : OpM} (hr : ¬ 0 < (readyL (okN x) (pipesN x) o.cases).length) (hd : o.dflt = false) :
  chooseL s x g o = turnL { noteL x ⟨6, g, -1, (o.cases.length : Int), 0, -1, false, false⟩ with M := backN (noteL x ⟨6, g, -1, (o.cases.length : Int), 0, -1, false, false⟩).name (parkF (okN (noteL x ⟨6, g, -1, (o.cases.length : Int), 0, -1, false, false⟩)) g o.cases (pipesN (noteL x ⟨6, g, -1, (o.cases.length : Int), 0, -1, false, false⟩))).2 (noteL x ⟨6, g, -1, (o.cases.length : Int), 0, -1, false, false⟩).M } g 0 1 := by
 unfold chooseL
 dsimp only
 rw [if_neg hr, if_neg (by rw [hd]; exact Bool.false_ne_true)]
 rfl
namespace Lk
variable {np k : Nat} {x : LmM}
theorem spawn (h : Lk np k x) {a : Int} (h0 : 0 ≤ a) (h1 : a < (np : Int)) : Lk np k { x with crew := (spawnF x.crew a).2 } := by
 have hs : (spawnF x.crew a).2 = x.crew ∨ ((spawnF x.crew a).2 = x.crew ++ [⟨a, 0, 0⟩] ∧ x.crew.length ≠ 512) := by
  unfold spawnF
  rw [if_neg (by omega)]
  split
  ·exact .inl rfl
  ·rename_i hn
   exact .inr ⟨rfl, hn⟩
 rcases hs with hs | ⟨hs, hn⟩
 ·rw [hs]
  exact h
 ·rw [hs]
  have := h.cl
  refine { h with sm := ?_, cl := ?_, pr := ?_, wt := ?_ }
  ·intro o ho
   rcases List.mem_append.1 ho with ho | ho
   ·exact h.sm o ho
   ·simp at ho
    subst ho
    exact ⟨Int.le_refl _, Int.natCast_nonneg k⟩
  ·show (x.crew ++ [(⟨a, 0, 0⟩ : One)]).length ≤ 512
   simp
   omega
  ·intro o ho
   rcases List.mem_append.1 ho with ho | ho
   ·exact h.pr o ho
   ·simp at ho
    subst ho
    exact ⟨h0, h1⟩
  ·intro y hy b hb
   have := h.wt y hy b hb
   show 0 ≤ b.g ∧ b.g < ((x.crew ++ [(⟨a, 0, 0⟩ : One)]).length : Int)
   simp
   omega
theorem make (h : Lk np k x) {a b : Nat} (ha : a < 8) (hb : b ≤ 4) : Lk np (k + 1) { x with M := x.M ++ [emptyM b], name := x.name.set a x.M.length } := by
 refine { h.more (Nat.le_succ k) with nm := ?_, n8 := ?_, inv := ?_, wt := ?_, ml := ?_ }
 ·refine ⟨fun n hn => ?_, ?_⟩
  ·show n < ((x.M ++ [emptyM b]).length : Int)
   rcases List.mem_or_eq_of_mem_set hn with hn | rfl
   ·have := h.nm.lt n hn
    simp
    omega
   ·simp
    omega
  ·rw [List.pairwise_iff_getElem]
   intro i j hi hj hij
   have hp := List.pairwise_iff_getElem.1 h.nm.ne i j (by simpa using hi) (by simpa using hj) hij
   simp only [List.length_set] at hi hj
   simp only [List.getElem_set]
   have hli := h.nm.lt _ (List.getElem_mem hi)
   have hlj := h.nm.lt _ (List.getElem_mem hj)
   intro h0
   split <;> split <;> omega
 ·show (x.name.set a _).length = 8
  rw [List.length_set]
  exact h.n8
 ·intro y hy
  rcases List.mem_append.1 hy with hy | hy
  ·exact (h.inv y hy).more (Nat.le_succ k)
  ·simp at hy
   subst hy
   exact (Inv9.empty hb).more (Nat.zero_le _)
 ·intro y hy c hc
  rcases List.mem_append.1 hy with hy | hy
  ·exact h.wt y hy c hc
  ·simp at hy
   subst hy
   simp [emptyM] at hc
 ·show (x.M ++ [emptyM b]).length ≤ k + 1
  have := h.ml
  simp
  omega
theorem talk (h : Lk np k x) (g : Int) (c : CaseM) (a : Int) : Lk np (k + 4) (talkL x g c a) := by
 have h1 := h.tried c
 unfold talkL
 dsimp only
 split
 ·exact (h1.panic g).more (by omega)
 ·split
  ·exact (((h1.note _).turn g 0 0).wake _)
  ·exact ((h1.note _).turn g 0 0).more (by omega)
theorem alone (h : Lk np k x) {g : Int} (hg : 0 ≤ g ∧ g < (x.crew.length : Int)) (c : CaseM) : Lk np (k + 4) (aloneL x g c) := by
 unfold aloneL
 dsimp only
 split
 ·exact h.talk g c _
 ·have h1 := h.note ⟨6, g, numL x c.chan, -1, c.value, -1, c.send, false⟩
  split
  ·rename_i h0
   by_cases hi : (numL x c.chan).toNat < (noteL x ⟨6, g, numL x c.chan, -1, c.value, -1, c.send, false⟩).M.length
   ·exact ((h1.waited hi c.send (m := ⟨g, -1, c.value⟩) hg).turn g 0 1).more (by omega)
   ·rw [List.set_eq_of_length_le (by omega)]
    exact (h1.turn g 0 1).more (by omega)
  ·exact (h1.turn g 0 1).more (by omega)
theorem shut (h : Lk np k x) (g c : Int) : Lk np (k + 1100) (shutL x g c) := by
 unfold shutL
 dsimp only
 split
 ·exact (h.panic g).more (by omega)
 ·split
  ·exact (h.panic g).more (by omega)
  ·by_cases hi : (numL x c).toNat < x.M.length
   ·have h1 := ((h.closed hi).note ⟨5, g, numL x c, -1, -1, -1, false, false⟩).turn g 0 0
    have hl := (close_in h hi).2.2.1
    exact ((h1.wakes g (numL x c) _).sends _).more (by omega)
   ·have e : x.M.getD (numL x c).toNat (emptyM 0) = emptyM 0 := by rw [List.getD_eq_getElem?_getD, List.getElem?_eq_none (by omega)]; rfl
    rw [List.set_eq_of_length_le (by omega), e]
    have h1 := (h.note ⟨5, g, numL x c, -1, -1, -1, false, false⟩).turn g 0 0
    exact ((h1.wakes g (numL x c) []).sends []).more (by simp)
theorem choose (h : Lk np k x) {g : Int} (hg : 0 ≤ g ∧ g < (x.crew.length : Int)) (s : ScrM) (o : OpM) : Lk np (k + 4) (chooseL s x g o) := by
 unfold chooseL
 dsimp only
 split
 ·rw [drawL_I]
  exact (h.dd _).talk g _ _
 ·split
  ·exact ((h.note _).turn g 0 0).more (by omega)
  ·have h1 := h.note ⟨6, g, -1, (o.cases.length : Int), 0, -1, false, false⟩
   refine ((h1.back (j := k + 1) (AllInv.parkF (M := pipesN x) ?_ ?_ g o.cases) (WtIn.parkF (M := pipesN x) ?_ _ hg o.cases) (Nat.le_refl _)).turn g 0 1).more (by omega)
   ·exact h1.inv.named
   ·rw [h.pipes_len, h.ok_len]
   ·exact h.wt.named
theorem other (h : Lk np k x) {o : OpM} (ho : OpOk np o) (g : Int) : Lk np (k + 4) (otherL x g o) := by
 unfold otherL
 split
 ·rename_i h1
  exact (((h.spawn ho.a0 (ho.pr h1)).note _).turn g 0 0).more (by omega)
 ·split
  ·rename_i h2
   have ha := ho.a0; have ha1 := ho.a1; have hb := ho.cap h2
   exact (((h.make (a := o.a.toNat) (b := o.b.toNat) (by omega) (by omega)).note _).turn g 0 0).more (by omega)
  ·split
   ·exact ((h.note _).turn g 0 0).more (by omega)
   ·split
    ·exact ((h.note _).turn g 0 0).more (by omega)
    ·exact ((h.turn g 0 2).note _).more (by omega)
theorem does (h : Lk np k x) {g : Int} (hg : 0 ≤ g ∧ g < (x.crew.length : Int)) {o : OpM} (ho : OpOk np o) (s : ScrM) : Lk np (k + 1100) (doesL s x g o) := by
 unfold doesL
 split
 ·exact (h.alone hg _).more (by omega)
 ·split
  ·exact (h.alone hg _).more (by omega)
  ·split
   ·exact h.shut g _
   ·split
    ·exact (h.choose hg s o).more (by omega)
    ·exact (h.other ho g).more (by omega)
end Lk
theorem over_able {L : List One} (h : overF L = 0) : 0 < (ableF L).length := by
 unfold overF at h
 split at h
 ·assumption
 ·split at h <;> cases h
theorem ver_zero {s : ScrM} {x : LmM} (h : verL s x = 0) : x.pan = false ∧ overF x.crew = 0 ∧ x.p < s.plan.length := by
 unfold verL at h
 split at h
 ·cases h
 ·rename_i hp
  split at h
  ·rename_i ho
   exact absurd h ho
  ·rename_i ho
   split at h
   ·cases h
   ·exact ⟨by simpa using hp, by simpa using ho, by omega⟩
theorem who_in {s : ScrM} {x : LmM} (h : verL s x = 0) (h0 : ¬ whoL s x < 0) : 0 ≤ whoL s x ∧ whoL s x < (x.crew.length : Int) := by
 obtain ⟨_, ho, _⟩ := ver_zero h
 have ha := over_able ho
 refine ⟨by omega, ?_⟩
 unfold whoL at h0 ⊢
 split at h0
 ·omega
 ·rename_i hn
  rw [if_neg hn]
  have hm : (s.plan.getD x.p 0).toNat % (ableF x.crew).length < (ableF x.crew).length := Nat.mod_lt _ ha
  rw [List.getD_eq_getElem?_getD, List.getElem?_eq_getElem hm]
  exact (ableF_in x.crew x.crew.length _ (List.getElem_mem hm)).2
theorem Lk.step {np k : Nat} {s : ScrM} {x : LmM} (h : Lk np k x) (hs : ProgsOk s.progs) (hn : s.progs.length = np) (h1 : 1 ≤ np) : Lk np (k + 1100) (stepL s x) := by
 unfold stepL
 split
 ·exact h.more (by omega)
 ·rename_i hv
  have hv : verL s x = 0 := Classical.byContradiction hv
  split
  ·exact ((h.pp _).note _).more (by omega)
  ·rename_i h0
   have hw := who_in hv h0
   subst hn
   exact (h.pp (x.p + 1)).does hw (opL_ok hs h1 x _) s
theorem Lk.new (np : Nat) (h : 1 ≤ np) : Lk np 0 newL where
 nm := ⟨fun n hn => by
  have : n = -1 := List.eq_of_mem_replicate hn
  rw [this]
  exact Int.lt_of_lt_of_le (by decide) (Int.natCast_nonneg _), by
  show (List.replicate 8 (-1 : Int)).Pairwise _
  exact List.pairwise_replicate.2 (.inr (fun h => by omega))⟩
 n8 := rfl
 inv := fun x hx => absurd hx List.not_mem_nil
 sm := fun o ho => by
  obtain rfl : o = ⟨0, 0, 0⟩ := List.mem_singleton.1 ho
  exact ⟨Int.le_refl _, Int.le_refl _⟩
 cl := by decide
 pr := fun o ho => by
  obtain rfl : o = ⟨0, 0, 0⟩ := List.mem_singleton.1 ho
  exact ⟨Int.le_refl _, by dsimp only; omega⟩
 tr := Nat.le_refl _
 wt := fun y hy => absurd hy List.not_mem_nil
 ml := Nat.le_refl _
theorem Lk.run {np : Nat} {s : ScrM} (hs : ProgsOk s.progs) (hn : s.progs.length = np) (h1 : 1 ≤ np) : ∀ n, Lk np (n * 1100) (runL s n)
 | 0 => Lk.new np h1
 | n + 1 => ((Lk.run hs hn h1 n).step hs hn h1).more (by omega)
theorem rs_snoc {w : World} {F : List Piece} {P : Nat → PipeM → Piece} {ps : List Nat} {M : List PipeM} {h : Nat} {y : PipeM} (hl : ps.length = M.length) (H : SL w (P h y :: all (List.zipWith (pieceO P) (ps.map some) M) :: F)) : SL w (all (List.zipWith (pieceO P) ((ps ++ [h]).map some) (M ++ [y])) :: F) := by
 rw [List.map_append, List.zipWith_append (by simp [hl])]
 obtain ⟨T, t1, t2, T2, u1, u2, h3⟩ := H.up1
 refine ⟨fun k => T k ∨ T2 k, fun k hk => hk.elim (t1 k) (fun h => (u1 k h).1), ?_, h3.mono (fun k hk => ⟨hk.1.1, fun h => h.elim hk.1.2 hk.2⟩)⟩
 exact SLs.app.2 ⟨T, fun k hk => .inl hk, t2, ⟨T2, fun k hk => ⟨.inr hk, fun h => (u1 k hk).2 h⟩, u2, trivial⟩⟩
theorem name_set {n0 n1 n2 n3 n4 n5 n6 n7 v : Int} {x : LmM} (hn : x.name = [n0, n1, n2, n3, n4, n5, n6, n7]) (j : Nat) (hj : j < 8) : ∃ m0 m1 m2 m3 m4 m5 m6 m7, x.name.set j v = [m0, m1, m2, m3, m4, m5, m6, m7] ∧ ∀ (a0 a1 a2 a3 a4 a5 a6 a7 tv pv : Value),
  #[a0, a1, a2, a3, a4, a5, a6, a7, .int .i64 n0, .int .i64 n1, .int .i64 n2, .int .i64 n3, .int .i64 n4, .int .i64 n5, .int .i64 n6, .int .i64 n7, tv, pv].setIfInBounds (8 + j * 1) (.int .i64 v) =
   #[a0, a1, a2, a3, a4, a5, a6, a7, .int .i64 m0, .int .i64 m1, .int .i64 m2, .int .i64 m3, .int .i64 m4, .int .i64 m5, .int .i64 m6, .int .i64 m7, tv, pv] := by
 rw [hn]
 match j, hj with
 | 0, _ | 1, _ | 2, _ | 3, _ | 4, _ | 5, _ | 6, _ | 7, _ => exact ⟨_, _, _, _, _, _, _, _, rfl, fun _ _ _ _ _ _ _ _ _ _ => rfl⟩
end Go.Proofs.YtchkaaeoffmjnaaDoor
namespace Go.Proofs.YtchkaaeoffmjnaaDoor
set_option linter.unusedVariables false
set_option linter.unusedSimpArgs false
open Go.RowKit
set_option maxRecDepth 100000
theorem r_draw {w : World} {F : List Piece} {A : Piece} {hb d n dc : Nat} {vl : Value} {p : Int} {da : Option Addr} {dr : List Int} (hA : Reader A 1 da dr.length (ints dr)) (hge : ∀ z ∈ dr, 0 ≤ z) (hn1 : 1 ≤ n) (hn : n ≤ 64) (hdb : d ≤ 1000)
  (H : SL w (row hb #[vl, .slice da dr.length dc, .int .i64 p, .int .i64 (d : Int)] 102 :: A :: F)) : Calls Tryd.prog 69 #[.pointer (some ⟨hb, 0, none⟩), .int .i64 (n : Int)] w fun o w' => o = .returned (.tuple #[.int .i64 ((drawI dr d n).1 : Int), .int .i64 0]) ∧
   SL w' (row hb #[vl, .slice da dr.length dc, .int .i64 p, .int .i64 ((drawI dr d n).2 : Int)] 102 :: A :: F) := by
 rcases Nat.decEq n 1 with hn' | hn
 ·rcases Nat.lt_or_ge d dr.length with hd' | hd
  ·obtain ⟨z, hz⟩ : ∃ z, dr[d]? = some z := ⟨_, List.getElem?_eq_getElem hd'⟩
   have hz0 := hge z (List.mem_of_getElem? hz)
   have hzm : z % (n : Int) = ((z.toNat % n : Nat) : Int) := by obtain ⟨k, rfl⟩ := Int.eq_ofNat_of_zero_le hz0; simp
   obtain ⟨dab, dao, rfl⟩ := H.addrR 1 rfl hA (by omega)
   refine calls_den (args := [_, _]) Tryd.func69 rfl (Nat.le_of_ble_eq_true (by kernel_rfl)) (by kernel_rfl) ?_
   refine ⟨?_⟩
   refine ⟨?_⟩
   refine BB.no (decide_eq_false (by omega)) ?_
   refine BB.no (decide_eq_false (by omega)) ?_
   refine Cn.no ?_
   refine ⟨?_⟩
   refine Drw.of [(0, true), (1, true), (2, true), (3, true), (4, true), (5, true), (6, true), (7, true), (8, true), (9, true), (10, true), (11, true), (12, true), (13, true)] (by kernel_rfl) mixed (fun w => SL w _) H.drew ?_
   replace H := H.drew
   refine BB.no (beq_eq_false_iff_ne.2 (by omega)) ?_
   refine LdC.i 0 rfl (v := .int .i64 ↑d) rfl ?_
   refine LdC.i 0 rfl (v := .slice (some ⟨dab, dao, none⟩) dr.length dc) rfl ?_
   refine BB.no (decide_eq_false (by omega)) ?_
   refine Cn.no ?_
   refine ⟨?_⟩
   refine H.ldi 0 rfl (v := .int .i64 ↑d) rfl ?_
   refine IW.by (m := ↑(d + 1)) ((wrap_id (by omega) (by omega)).trans (by simp)) ?_
   refine H.st0 (cs' := #[vl, .slice (some ⟨dab, dao, none⟩) dr.length dc, .int .i64 p, .int .i64 (↑(d + 1))]) rfl rfl rfl fun w H => ?_
   refine ⟨?_⟩
   refine Drw.of [(0, true), (1, true), (2, true), (3, true), (4, true), (5, true), (6, true), (7, true), (8, true), (9, true), (10, true), (11, true), (12, true), (13, true), (14, true)] (by kernel_rfl) mixed (fun w => SL w _) H.drew ?_
   replace H := H.drew
   refine LdC.i 0 rfl (v := .slice (some ⟨dab, dao, none⟩) dr.length dc) rfl ?_
   refine LdC.i 0 rfl (v := .int .i64 (↑(d + 1))) rfl ?_
   refine IW.by (m := ↑d) ((wrap_id (by omega) (by omega)).trans (by omega)) ?_
   refine Ix.at d 1 (by kernel_rfl) (rfl) (hd') ?_
   refine LdC.R 1 rfl hA (by omega) (q := d * 1) (by rfl) (v := .int .i64 z) (by rw [Nat.mul_one]; unfold ints; rw [List.getElem?_map, hz]; rfl) ?_
   refine MnC.rem (.tmp 44) (.tmp 45) 3 3 (by rfl) z ↑n (by rfl) (by rfl) ((by omega)) ((by omega)) (↑(z.toNat % n)) (hzm) ?_
   refine ret2 (fn := Tryd.f69) (.int .i64 (↑(z.toNat % n))) (.int .i64 0) rfl (by rfl) (by rfl) ?_
   have hc : drawI dr d n = (z.toNat % n, d + 1) := by unfold drawI; rw [if_neg (by omega), List.getD_eq_getElem?_getD, hz]; rfl
   rw [hc]
   exact ⟨rfl, H.pick [0, 1] 2 (by decide)⟩
  ·skip
   refine calls_den (args := [_, _]) Tryd.func69 rfl (Nat.le_of_ble_eq_true (by kernel_rfl)) (by kernel_rfl) ?_
   refine ⟨?_⟩
   refine ⟨?_⟩
   refine BB.no (decide_eq_false (by omega)) ?_
   refine BB.no (decide_eq_false (by omega)) ?_
   refine Cn.no ?_
   refine ⟨?_⟩
   refine Drw.of [(0, true), (1, true), (2, true), (3, true), (4, true), (5, true), (6, true), (7, true), (8, true), (9, true), (10, true), (11, true), (12, true), (13, true)] (by kernel_rfl) mixed (fun w => SL w _) H.drew ?_
   replace H := H.drew
   refine BB.no (beq_eq_false_iff_ne.2 (by omega)) ?_
   refine LdC.i 0 rfl (v := .int .i64 ↑d) rfl ?_
   refine LdC.i 0 rfl (v := .slice da dr.length dc) rfl ?_
   refine BB.yes (decide_eq_true (by omega)) ?_
   refine Cn.yes ?_
   refine ⟨?_⟩
   refine ret2 (fn := Tryd.f69) (.int .i64 0) (.int .i64 0) rfl (by rfl) (by rfl) ?_
   have hc : drawI dr d n = (0, d) := by unfold drawI; rw [if_pos (.inr hd)]
   rw [hc]
   exact ⟨rfl, H.pick [0, 1] 2 (by decide)⟩
 ·skip
  refine calls_den (args := [_, _]) Tryd.func69 rfl (Nat.le_of_ble_eq_true (by kernel_rfl)) (by kernel_rfl) ?_
  refine ⟨?_⟩
  refine ⟨?_⟩
  refine BB.no (decide_eq_false (by omega)) ?_
  refine BB.no (decide_eq_false (by omega)) ?_
  refine Cn.no ?_
  refine ⟨?_⟩
  refine Drw.of [(0, true), (1, true), (2, true), (3, true), (4, true), (5, true), (6, true), (7, true), (8, true), (9, true), (10, true), (11, true), (12, true), (13, true)] (by kernel_rfl) mixed (fun w => SL w _) H.drew ?_
  replace H := H.drew
  refine BB.yes (beq_iff_eq.2 (by omega)) ?_
  refine Cn.yes ?_
  refine ⟨?_⟩
  refine ret2 (fn := Tryd.f69) (.int .i64 0) (.int .i64 0) rfl (by rfl) (by rfl) ?_
  have hc : drawI dr d n = (0, d) := by unfold drawI; rw [if_pos (.inl hn)]
  rw [hc]
  exact ⟨rfl, H.pick [0, 1] 2 (by decide)⟩
theorem r_next06 {w : World} {F : List Piece} {A : Piece} {hb p lc : Nat} {vd : Value} {d : Int} {la : Option Addr} {pl : List Int} (hA : Reader A 1 la pl.length (ints pl)) (hp : p < pl.length) (hpb : p ≤ 1000)
  (H : SL w (row hb #[.slice la pl.length lc, vd, .int .i64 (p : Int), .int .i64 d] 102 :: A :: F)) : Calls Tryd.prog 34 #[.pointer (some ⟨hb, 0, none⟩)] w fun o w' => o = .returned (.tuple #[.int .i64 (pl.getD p 0), .bool true]) ∧
   SL w' (row hb #[.slice la pl.length lc, vd, .int .i64 ((p + 1 : Nat) : Int), .int .i64 d] 102 :: A :: F) := by
 obtain ⟨z, hz⟩ : ∃ z, pl[p]? = some z := ⟨_, List.getElem?_eq_getElem hp⟩
 rw [show pl.getD p 0 = z by rw [List.getD_eq_getElem?_getD, hz]; rfl]
 obtain ⟨lab, lao, rfl⟩ := H.addrR 1 rfl hA (by omega)
 refine calls_den (args := [_]) Tryd.func34 rfl (Nat.le_of_ble_eq_true (by kernel_rfl)) (by kernel_rfl) ?_
 refine ⟨?_⟩
 refine ⟨?_⟩
 refine Drw.of [(0, true), (1, true), (2, true), (3, true), (4, true), (5, true), (6, true), (7, true), (8, true), (9, true)] (by kernel_rfl) mixed (fun w => SL w _) H.drew ?_
 replace H := H.drew
 refine LdC.i 0 rfl (v := .int .i64 ↑p) rfl ?_
 refine LdC.i 0 rfl (v := .slice (some ⟨lab, lao, none⟩) pl.length lc) rfl ?_
 refine BB.no (decide_eq_false (by omega)) ?_
 refine Cn.no ?_
 refine ⟨?_⟩
 refine H.ldi 0 rfl (v := .int .i64 ↑p) rfl ?_
 refine IW.by (m := ↑(p + 1)) ((wrap_id (by omega) (by omega)).trans (by simp)) ?_
 refine H.st0 (cs' := #[.slice (some ⟨lab, lao, none⟩) pl.length lc, vd, .int .i64 (↑(p + 1)), .int .i64 d]) rfl rfl rfl fun w H => ?_
 refine ⟨?_⟩
 refine Drw.of [(0, true), (1, true), (2, true), (3, true), (4, true), (5, true), (6, true), (7, true), (8, true), (9, true), (10, true), (11, true), (12, true)] (by kernel_rfl) mixed (fun w => SL w _) H.drew ?_
 replace H := H.drew
 refine LdC.i 0 rfl (v := .slice (some ⟨lab, lao, none⟩) pl.length lc) rfl ?_
 refine LdC.i 0 rfl (v := .int .i64 (↑(p + 1))) rfl ?_
 refine IW.by (m := ↑p) ((wrap_id (by omega) (by omega)).trans (by omega)) ?_
 refine Ix.at p 1 (by kernel_rfl) (rfl) (hp) ?_
 refine LdC.R 1 rfl hA (by omega) (q := p * 1) (by rfl) (v := .int .i64 z) (by rw [Nat.mul_one]; unfold ints; rw [List.getElem?_map, hz]; rfl) ?_
 refine ret2 (fn := Tryd.f34) (.int .i64 z) (.bool true) rfl (by rfl) (by rfl) ?_
 exact ⟨rfl, H.pick [0, 1] 2 (by decide)⟩
end Go.Proofs.YtchkaaeoffmjnaaDoor
namespace Go.Proofs.YtchkaaeoffmjnaaDoor
set_option linter.unusedVariables false
set_option linter.unusedSimpArgs false
open Go.RowKit
set_option maxRecDepth 100000
theorem case_cell {R : List CaseM} {j : Nat} {m : CaseM} (h : R[j]? = some m) (i : Nat) (hi : i < 3) : (R.flatMap CaseM.cells)[j * 3 + i]? = m.cells[i]? := by
 obtain ⟨hk, rfl⟩ := List.getElem?_eq_some_iff.1 h
 exact flat_get CaseM.cells 3 (fun _ => rfl) R j i hi hk
theorem Lk.parked {np k : Nat} {x : LmM} (h1 : Lk np k x) {g : Int} (hg : 0 ≤ g ∧ g < (x.crew.length : Int)) (L : List CaseM) : Lk np k { x with M := backN x.name (parkF (okN x) g L (pipesN x)).2 x.M } :=
 h1.back (AllInv.parkF (M := pipesN x) h1.inv.named (by rw [h1.pipes_len, h1.ok_len]) g L) (WtIn.parkF (M := pipesN x) h1.wt.named _ hg L) (Nat.le_refl _)
theorem r_talkC {w : World} {F : List Piece} {np k lb : Nat} {x : LmM} {t m : Int} {vp vl vd : Value} {n0 n1 n2 n3 n4 n5 n6 n7 : Int} (hn : x.name = [n0, n1, n2, n3, n4, n5, n6, n7]) (hk : Lk np k x) (hkb : k ≤ 998000) (g : Int) {c : CaseM} (hc : 0 ≤ c.chan ∧ c.chan < 8) (ca : Int) (H : SL w (RlP lb ⟨t, m, vp, vl, vd⟩ x :: F)) :
  Calls Tryd.prog 62 #[.pointer (some ⟨lb, 0, none⟩), .int .i64 g, .agg #[.bool c.send, .int .i64 c.chan, .int .i64 c.value], .int .i64 ca] w fun o w' => o = .returned (.tuple #[]) ∧ SL w' (RlP lb ⟨t, m, vp, vl, vd⟩ (talkL x g c ca) :: F) := by
 obtain ⟨cj, hj⟩ := Int.eq_ofNat_of_zero_le hc.1
 have h := r_talk (w := w) (F := F) hn hk hkb g (cj := cj) (by omega) c.send c.value ca H
 rw [← hj] at h
 exact h
theorem r_aloneC {w : World} {F : List Piece} {np k lb : Nat} {x : LmM} {t m : Int} {vp vl vd : Value} {n0 n1 n2 n3 n4 n5 n6 n7 : Int} (hn : x.name = [n0, n1, n2, n3, n4, n5, n6, n7]) (hk : Lk np k x) (hkb : k ≤ 997000) {g : Int} (hgw : 0 ≤ g ∧ g < (x.crew.length : Int)) (sd : Bool) {c : Int} (hc : 0 ≤ c ∧ c < 8) (cv : Int) (H : SL w (RlP lb ⟨t, m, vp, vl, vd⟩ x :: F)) :
  Calls Tryd.prog 38 #[.pointer (some ⟨lb, 0, none⟩), .int .i64 g, .agg #[.bool sd, .int .i64 c, .int .i64 cv]] w fun o w' => o = .returned (.tuple #[]) ∧ SL w' (RlP lb ⟨t, m, vp, vl, vd⟩ (aloneL x g ⟨sd, c, cv⟩) :: F) := by
 obtain ⟨cj, rfl⟩ := Int.eq_ofNat_of_zero_le hc.1
 exact r_alone (w := w) (F := F) hn hk hkb hgw (cj := cj) (by omega) sd cv H
theorem r_shutC {w : World} {F : List Piece} {np k lb : Nat} {x : LmM} {t m : Int} {vp vl vd : Value} {n0 n1 n2 n3 n4 n5 n6 n7 : Int} (hn : x.name = [n0, n1, n2, n3, n4, n5, n6, n7]) (hk : Lk np k x) (hkb : k ≤ 997000) (g : Int) {c : Int} (hc : 0 ≤ c ∧ c < 8) (H : SL w (RlP lb ⟨t, m, vp, vl, vd⟩ x :: F)) :
  Calls Tryd.prog 39 #[.pointer (some ⟨lb, 0, none⟩), .int .i64 g, .int .i64 c] w fun o w' => o = .returned (.tuple #[]) ∧ SL w' (RlP lb ⟨t, m, vp, vl, vd⟩ (shutL x g c) :: F) := by
 obtain ⟨cj, rfl⟩ := Int.eq_ofNat_of_zero_le hc.1
 exact r_shut (w := w) (F := F) hn hk hkb g (cj := cj) (by omega) H
set_option maxHeartbeats 4000000 in
theorem r_choose {w : World} {F : List Piece} {np k lb : Nat} {x : LmM} {t m : Int} {vp vl : Value} {A : Piece} {s : ScrM} {dr : List Int} {da : Option Addr} {dc : Nat} {n0 n1 n2 n3 n4 n5 n6 n7 : Int} (hn : x.name = [n0, n1, n2, n3, n4, n5, n6, n7]) (hk : Lk np k x) (hkb : k ≤ 995000) {g : Int} (hgw : 0 ≤ g ∧ g < (x.crew.length : Int)) (hdr : s.draws = dr) (hAd : Reader A 1 da dr.length (ints dr)) (hge : ∀ z ∈ dr, 0 ≤ z) (hdb : x.d ≤ 1000) {ox : OpX} (hA : Reader A 3 ox.ca ox.op.cases.length (ox.op.cases.flatMap CaseM.cells)) (hop : OpOk np ox.op) (H : SL w (RlP lb ⟨t, m, vp, vl, .slice da dr.length dc⟩ x :: A :: F)) :
  Calls Tryd.prog 40 #[.pointer (some ⟨lb, 0, none⟩), .int .i64 g, .agg ox.cells.toArray] w fun o w' => o = .returned (.tuple #[]) ∧ SL w' (RlP lb ⟨t, m, vp, vl, .slice da dr.length dc⟩ (chooseL s x g ox.op) :: A :: F) := by
 have hcl := hop.cl
 obtain ⟨rd, hrd⟩ : ∃ z, readyL (okN x) (pipesN x) ox.op.cases = z := ⟨_, rfl⟩
 have hrl := readyL_len (okN x) (pipesN x) ox.op.cases
 rw [hrd] at hrl
 obtain ⟨oca, hoca⟩ : ∃ z, ox.ca = z := ⟨_, rfl⟩
 rw [hoca] at hA
 unfold OpX.cells
 rw [hoca]
 rcases Nat.lt_or_ge 0 rd.length with hr | hr
 ·have hdl := drawI_lt dr x.d hr
  obtain ⟨an, han, hanl⟩ := readyL_at (ok := okN x) (M := pipesN x) (L := ox.op.cases) (i := (drawI dr x.d rd.length).1) (by rw [hrd]; exact hdl)
  rw [hrd] at han
  have hdn : rd[(drawI dr x.d rd.length).1]? = some (an : Int) := by rw [List.getD_eq_getElem?_getD, List.getElem?_eq_getElem hdl] at han; rw [List.getElem?_eq_getElem hdl]; exact congrArg some han
  obtain ⟨cz, hcz⟩ : ∃ z, ox.op.cases[an]? = some z := ⟨_, List.getElem?_eq_getElem hanl⟩
  have hcz8 := hop.ch cz (List.mem_of_getElem? hcz)
  obtain ⟨ocb, oco, rfl⟩ := H.addrR 1 rfl hA (by omega)
  have hob := rl_open (x := x) hn H
  obtain ⟨hb1, crb1, cha1, chc1, ta1, tc1, ps1, hl1, H⟩ := hob
  refine calls_den (args := [_, _, _]) Tryd.func40 rfl (Nat.le_of_ble_eq_true (by kernel_rfl)) (by kernel_rfl) ?_
  refine ⟨?_⟩
  refine Nw.as #[.int .i64 ox.op.kind, .int .i64 ox.op.a, .int .i64 ox.op.b, .slice (some ⟨ocb, oco, none⟩) ox.op.cases.length ox.cc, .bool ox.op.dflt] 41 rfl H fun b5 w H => ?_
  refine ⟨?_⟩
  refine Drw.of [(0, true), (1, true), (2, true), (3, false), (4, false), (5, true)] (by kernel_rfl) mixed (fun w => SL w _) H.drew ?_
  replace H := H.drew
  refine LdC.i 0 rfl (v := .slice (some ⟨ocb, oco, none⟩) ox.op.cases.length ox.cc) rfl ?_
  have h1 := H.pick [1, 4, 0, 2, 3, 5, 6, 7] 8 (by decide)
  simp only [pk, nth, pkA, pkB, pkC, pkD, pkE, pkF] at h1
  refine Cl.by (by kernel_rfl) (r_pipes (x := x) hn (hk) hl1 h1) ?_
  rintro _ w ⟨oa1, oc1, rfl, H⟩
  refine ⟨_, rfl, ?_⟩
  replace H := H.pick [0, 3, 1, 4, 5, 2, 6, 7, 8] 9 (by decide)
  simp only [pk, nth, pkA, pkB, pkC, pkD, pkE, pkF] at H
  refine ⟨.inr H.tl, ?_⟩
  have h1 := H.pick [6, 8, 0, 1, 2, 3, 4, 5, 7] 9 (by decide)
  simp only [pk, nth, pkA, pkB, pkC, pkD, pkE, pkF] at h1
  have hq := q_readies (x := x) (L := ox.op.cases) (ca := ox.cc) (cb := oc1) hk hl1 (by omega) hA Reader.slc h1
  rw [hrd] at hq
  refine Cl.by (by kernel_rfl) hq ?_
  rintro _ w ⟨ra, rc, rfl, H⟩
  refine ⟨_, rfl, ?_⟩
  replace H := H.pick [0, 3, 4, 5, 6, 7, 8, 1, 9, 2] 10 (by decide)
  simp only [pk, nth, pkA, pkB, pkC, pkD, pkE, pkF] at H
  have hob := SL.slcAddr H (by omega)
  obtain ⟨rb, rfl⟩ := hob
  refine ⟨.inr H.tl.tl, ?_⟩
  refine ⟨?_⟩
  refine BB.yes (decide_eq_true (by omega)) ?_
  refine Cn.yes ?_
  refine ⟨?_⟩
  refine H.ldi 3 rfl (v := .pointer (some ⟨hb1, 0, none⟩)) rfl ?_
  have h1 := H.pick [4, 9, 0, 1, 2, 3, 5, 6, 7, 8] 10 (by decide)
  simp only [pk, nth, pkA, pkB, pkC, pkD, pkE, pkF] at h1
  refine Cl.sl (by kernel_rfl) (r_draw hAd hge (n := rd.length) (by omega) (by omega) hdb h1) fun w H => ?_
  replace H := H.pick [2, 3, 4, 5, 0, 6, 7, 8, 9, 1] 10 (by decide)
  simp only [pk, nth, pkA, pkB, pkC, pkD, pkE, pkF] at H
  refine ⟨?_⟩
  refine Ix.at0 ((drawI dr x.d rd.length).1) 1 (by kernel_rfl) (rfl) (hdl) ?_
  refine H.ldS 0 rfl (v := .int .i64 ↑an) ((by rw [Nat.mul_one]; unfold ints; rw [List.getElem?_map, hdn]; rfl)) ?_
  refine ⟨?_⟩
  refine H.ldi 2 rfl (v := .slice (some ⟨ocb, oco, none⟩) ox.op.cases.length ox.cc) rfl ?_
  refine Ix.at an 3 (by kernel_rfl) (rfl) (hanl) ?_
  refine H.ldR 9 rfl hA (by omega) (q := an * 3 + 0) rfl (v := .bool cz.send) ((case_cell hcz 0 (by decide)).trans rfl) ?_
  refine H.ldR 9 rfl hA (by omega) (q := an * 3 + 1) rfl (v := .int .i64 cz.chan) ((case_cell hcz 1 (by decide)).trans rfl) ?_
  refine H.ldR 9 rfl hA (by omega) (q := an * 3 + 2) rfl (v := .int .i64 cz.value) ((case_cell hcz 2 (by decide)).trans rfl) ?_
  have H0 := H.pick [3, 4, 5, 6, 7, 8, 0, 1, 2, 9] 10 (by decide)
  simp only [pk, nth, pkA, pkB, pkC, pkD, pkE, pkF] at H0
  replace H := rl_shut (x := { x with d := (drawI dr x.d rd.length).2 }) hl1 (by first | rfl | simp [turnL, noteL, backN_len]) hn H0
  have h1 := H
  refine Cl.sl (by kernel_rfl) (r_talkC (x := { x with d := (drawI dr x.d rd.length).2 }) hn ((hk.dd (drawI dr x.d rd.length).2)) (by omega) g (c := cz) hcz8 (an : Int) h1) fun w H => ?_
  refine ret0 (fn := Tryd.f40) rfl ?_
  have hc : chooseL s x g ox.op = (talkL ({ x with d := (drawI dr x.d rd.length).2 }) g cz (an : Int)) := by subst hdr; exact choose_ready hrd hr han hcz
  rw [hc]
  exact ⟨rfl, H.pick [0, 4] 5 (by decide)⟩
 ·have hr : ¬ 0 < rd.length := by omega
  cases hdf : ox.op.dflt with
  | true =>
   have hob := rl_open (x := x) hn H
   obtain ⟨hb1, crb1, cha1, chc1, ta1, tc1, ps1, hl1, H⟩ := hob
   refine calls_den (args := [_, _, _]) Tryd.func40 rfl (Nat.le_of_ble_eq_true (by kernel_rfl)) (by kernel_rfl) ?_
   refine ⟨?_⟩
   refine Nw.as #[.int .i64 ox.op.kind, .int .i64 ox.op.a, .int .i64 ox.op.b, .slice oca ox.op.cases.length ox.cc, .bool true] 41 rfl H fun b5 w H => ?_
   refine ⟨?_⟩
   refine Drw.of [(0, true), (1, true), (2, true), (3, false), (4, false), (5, true)] (by kernel_rfl) mixed (fun w => SL w _) H.drew ?_
   replace H := H.drew
   refine LdC.i 0 rfl (v := .slice oca ox.op.cases.length ox.cc) rfl ?_
   have h1 := H.pick [1, 4, 0, 2, 3, 5, 6, 7] 8 (by decide)
   simp only [pk, nth, pkA, pkB, pkC, pkD, pkE, pkF] at h1
   refine Cl.by (by kernel_rfl) (r_pipes (x := x) hn (hk) hl1 h1) ?_
   rintro _ w ⟨oa1, oc1, rfl, H⟩
   refine ⟨_, rfl, ?_⟩
   replace H := H.pick [0, 3, 1, 4, 5, 2, 6, 7, 8] 9 (by decide)
   simp only [pk, nth, pkA, pkB, pkC, pkD, pkE, pkF] at H
   refine ⟨.inr H.tl, ?_⟩
   have h1 := H.pick [6, 8, 0, 1, 2, 3, 4, 5, 7] 9 (by decide)
   simp only [pk, nth, pkA, pkB, pkC, pkD, pkE, pkF] at h1
   have hq := q_readies (x := x) (L := ox.op.cases) (ca := ox.cc) (cb := oc1) hk hl1 (by omega) hA Reader.slc h1
   rw [hrd] at hq
   refine Cl.by (by kernel_rfl) hq ?_
   rintro _ w ⟨ra, rc, rfl, H⟩
   refine ⟨_, rfl, ?_⟩
   replace H := H.pick [0, 3, 4, 5, 6, 7, 8, 1, 9, 2] 10 (by decide)
   simp only [pk, nth, pkA, pkB, pkC, pkD, pkE, pkF] at H
   refine ⟨.inr H.tl.tl, ?_⟩
   refine ⟨?_⟩
   refine BB.no (decide_eq_false (by omega)) ?_
   refine Cn.no ?_
   refine ⟨?_⟩
   refine H.ldi 2 rfl (v := .bool true) rfl ?_
   refine BB.yes rfl ?_
   refine Cn.yes ?_
   refine ⟨?_⟩
   refine Cl.sl (by kernel_rfl) (r_bare H 8 g) fun w H => ?_
   have h1 := H.pick [3, 8, 0, 1, 2, 4, 5, 6, 7, 9] 10 (by decide)
   simp only [pk, nth, pkA, pkB, pkC, pkD, pkE, pkF] at h1
   refine Cl.by (by kernel_rfl) (r_noteO (Nat.le_trans (hk).tr (by omega)) ⟨8, g, -1, -1, -1, -1, false, false⟩ h1) ?_
   rintro _ w ⟨tn1, tk1, rfl, H⟩
   refine ⟨_, rfl, ?_⟩
   replace H := H.pick [2, 3, 4, 0, 5, 6, 7, 8, 1, 9] 10 (by decide)
   simp only [pk, nth, pkA, pkB, pkC, pkD, pkE, pkF] at H
   refine ⟨?_⟩
   refine H.ldi 3 rfl (v := .pointer (some ⟨crb1, 0, none⟩)) rfl ?_
   have h1 := H.pick [5, 0, 1, 2, 3, 4, 6, 7, 8, 9] 10 (by decide)
   simp only [pk, nth, pkA, pkB, pkC, pkD, pkE, pkF] at h1
   refine Cl.sl (by kernel_rfl) (q_turn (L := (noteL x ⟨8, g, -1, -1, -1, -1, false, false⟩).crew) (Small.more ((hk.note ⟨8, g, -1, -1, -1, -1, false, false⟩)).sm (by omega)) g 0 0 (by decide) h1) fun w H => ?_
   replace H := H.pick [1, 2, 3, 4, 5, 0, 6, 7, 8, 9] 10 (by decide)
   simp only [pk, nth, pkA, pkB, pkC, pkD, pkE, pkF] at H
   refine ret0 (fn := Tryd.f40) rfl ?_
   have H0 := H.pick [3, 4, 5, 6, 7, 8, 0, 1, 2, 9] 10 (by decide)
   simp only [pk, nth, pkA, pkB, pkC, pkD, pkE, pkF] at H0
   replace H := rl_shut (x := (turnL (noteL x ⟨8, g, -1, -1, -1, -1, false, false⟩) g 0 0)) hl1 (by first | rfl | simp [turnL, noteL, backN_len]) hn H0
   have hc : chooseL s x g ox.op = (turnL (noteL x ⟨8, g, -1, -1, -1, -1, false, false⟩) g 0 0) := by exact choose_dflt (by rw [hrd]; exact hr) hdf
   rw [hc]
   exact ⟨rfl, H.pick [0, 4] 5 (by decide)⟩
  | false =>
   have hob := rl_open (x := x) hn H
   obtain ⟨hb1, crb1, cha1, chc1, ta1, tc1, ps1, hl1, H⟩ := hob
   refine calls_den (args := [_, _, _]) Tryd.func40 rfl (Nat.le_of_ble_eq_true (by kernel_rfl)) (by kernel_rfl) ?_
   refine ⟨?_⟩
   refine Nw.as #[.int .i64 ox.op.kind, .int .i64 ox.op.a, .int .i64 ox.op.b, .slice oca ox.op.cases.length ox.cc, .bool false] 41 rfl H fun b5 w H => ?_
   refine ⟨?_⟩
   refine Drw.of [(0, true), (1, true), (2, true), (3, false), (4, false), (5, true)] (by kernel_rfl) mixed (fun w => SL w _) H.drew ?_
   replace H := H.drew
   refine LdC.i 0 rfl (v := .slice oca ox.op.cases.length ox.cc) rfl ?_
   have h1 := H.pick [1, 4, 0, 2, 3, 5, 6, 7] 8 (by decide)
   simp only [pk, nth, pkA, pkB, pkC, pkD, pkE, pkF] at h1
   refine Cl.by (by kernel_rfl) (r_pipes (x := x) hn (hk) hl1 h1) ?_
   rintro _ w ⟨oa1, oc1, rfl, H⟩
   refine ⟨_, rfl, ?_⟩
   replace H := H.pick [0, 3, 1, 4, 5, 2, 6, 7, 8] 9 (by decide)
   simp only [pk, nth, pkA, pkB, pkC, pkD, pkE, pkF] at H
   refine ⟨.inr H.tl, ?_⟩
   have h1 := H.pick [6, 8, 0, 1, 2, 3, 4, 5, 7] 9 (by decide)
   simp only [pk, nth, pkA, pkB, pkC, pkD, pkE, pkF] at h1
   have hq := q_readies (x := x) (L := ox.op.cases) (ca := ox.cc) (cb := oc1) hk hl1 (by omega) hA Reader.slc h1
   rw [hrd] at hq
   refine Cl.by (by kernel_rfl) hq ?_
   rintro _ w ⟨ra, rc, rfl, H⟩
   refine ⟨_, rfl, ?_⟩
   replace H := H.pick [0, 3, 4, 5, 6, 7, 8, 1, 9, 2] 10 (by decide)
   simp only [pk, nth, pkA, pkB, pkC, pkD, pkE, pkF] at H
   refine ⟨.inr H.tl.tl, ?_⟩
   refine ⟨?_⟩
   refine BB.no (decide_eq_false (by omega)) ?_
   refine Cn.no ?_
   refine ⟨?_⟩
   refine H.ldi 2 rfl (v := .bool false) rfl ?_
   refine BB.no rfl ?_
   refine Cn.no ?_
   refine ⟨?_⟩
   refine Cl.sl (by kernel_rfl) (r_bare H 6 g) fun w H => ?_
   refine Nw.as #[.int .i64 0, .int .i64 0, .int .i64 0, .int .i64 0, .int .i64 0, .int .i64 0, .bool false, .bool false] 33 rfl H fun b10 w H => ?_
   refine H.st0 (cs' := #[.int .i64 6, .int .i64 0, .int .i64 0, .int .i64 0, .int .i64 0, .int .i64 0, .bool false, .bool false]) rfl rfl rfl fun w H => ?_
   refine H.st0 (cs' := #[.int .i64 6, .int .i64 g, .int .i64 0, .int .i64 0, .int .i64 0, .int .i64 0, .bool false, .bool false]) rfl rfl rfl fun w H => ?_
   refine H.st0 (cs' := #[.int .i64 6, .int .i64 g, .int .i64 (-1), .int .i64 0, .int .i64 0, .int .i64 0, .bool false, .bool false]) rfl rfl rfl fun w H => ?_
   refine H.st0 (cs' := #[.int .i64 6, .int .i64 g, .int .i64 (-1), .int .i64 (-1), .int .i64 0, .int .i64 0, .bool false, .bool false]) rfl rfl rfl fun w H => ?_
   refine H.st0 (cs' := #[.int .i64 6, .int .i64 g, .int .i64 (-1), .int .i64 (-1), .int .i64 (-1), .int .i64 0, .bool false, .bool false]) rfl rfl rfl fun w H => ?_
   refine H.st0 (cs' := #[.int .i64 6, .int .i64 g, .int .i64 (-1), .int .i64 (-1), .int .i64 (-1), .int .i64 (-1), .bool false, .bool false]) rfl rfl rfl fun w H => ?_
   refine H.st0 (cs' := #[.int .i64 6, .int .i64 g, .int .i64 (-1), .int .i64 (-1), .int .i64 (-1), .int .i64 (-1), .bool false, .bool false]) rfl rfl rfl fun w H => ?_
   refine H.st0 (cs' := #[.int .i64 6, .int .i64 g, .int .i64 (-1), .int .i64 (-1), .int .i64 (-1), .int .i64 (-1), .bool false, .bool false]) rfl rfl rfl fun w H => ?_
   refine ⟨?_⟩
   refine H.ldi 3 rfl (v := .slice oca ox.op.cases.length ox.cc) rfl ?_
   refine H.st0 (cs' := #[.int .i64 6, .int .i64 g, .int .i64 (-1), .int .i64 ↑ox.op.cases.length, .int .i64 (-1), .int .i64 (-1), .bool false, .bool false]) rfl rfl rfl fun w H => ?_
   refine ⟨?_⟩
   refine H.st0 (cs' := #[.int .i64 6, .int .i64 g, .int .i64 (-1), .int .i64 ↑ox.op.cases.length, .int .i64 0, .int .i64 (-1), .bool false, .bool false]) rfl rfl rfl fun w H => ?_
   refine ⟨?_⟩
   refine H.ldi 0 rfl (v := .int .i64 6) rfl ?_
   refine H.ldi 0 rfl (v := .int .i64 g) rfl ?_
   refine H.ldi 0 rfl (v := .int .i64 (-1)) rfl ?_
   refine H.ldi 0 rfl (v := .int .i64 ↑ox.op.cases.length) rfl ?_
   refine H.ldi 0 rfl (v := .int .i64 0) rfl ?_
   refine H.ldi 0 rfl (v := .int .i64 (-1)) rfl ?_
   refine H.ldi 0 rfl (v := .bool false) rfl ?_
   refine H.ldi 0 rfl (v := .bool false) rfl ?_
   have h1 := H.pick [4, 9, 0, 1, 2, 3, 5, 6, 7, 8, 10] 11 (by decide)
   simp only [pk, nth, pkA, pkB, pkC, pkD, pkE, pkF] at h1
   refine Cl.by (by kernel_rfl) (r_noteO (Nat.le_trans (hk).tr (by omega)) ⟨6, g, -1, ↑ox.op.cases.length, 0, -1, false, false⟩ h1) ?_
   rintro _ w ⟨tn1, tk1, rfl, H⟩
   refine ⟨_, rfl, ?_⟩
   replace H := H.pick [2, 3, 4, 5, 0, 6, 7, 8, 9, 1, 10] 11 (by decide)
   simp only [pk, nth, pkA, pkB, pkC, pkD, pkE, pkF] at H
   refine ⟨?_⟩
   refine Drw.of [(0, true), (1, true), (2, true), (3, true), (4, false), (5, false)] (by kernel_rfl) mixed (fun w => SL w _) H.drew ?_
   replace H := H.drew
   refine LdC.i 3 rfl (v := .slice oca ox.op.cases.length ox.cc) rfl ?_
   have h1 := H.pick [4, 7, 0, 1, 2, 3, 5, 6, 8, 9, 10] 11 (by decide)
   simp only [pk, nth, pkA, pkB, pkC, pkD, pkE, pkF] at h1
   refine Cl.by (by kernel_rfl) (r_pipes (x := (noteL x ⟨6, g, -1, ↑ox.op.cases.length, 0, -1, false, false⟩)) hn ((hk.note ⟨6, g, -1, ↑ox.op.cases.length, 0, -1, false, false⟩)) hl1 h1) ?_
   rintro _ w ⟨oa2, oc2, rfl, H⟩
   refine ⟨_, rfl, ?_⟩
   replace H := H.pick [0, 3, 4, 5, 6, 1, 7, 8, 2, 9, 10, 11] 12 (by decide)
   simp only [pk, nth, pkA, pkB, pkC, pkD, pkE, pkF] at H
   refine ⟨.inr H.tl, ?_⟩
   have h1 := H.pick [9, 11, 0, 1, 2, 3, 4, 5, 6, 7, 8, 10] 12 (by decide)
   simp only [pk, nth, pkA, pkB, pkC, pkD, pkE, pkF] at h1
   have h1 := H.pick [9, 11, 0, 1, 2, 3, 4, 5, 6, 7, 8, 10] 12 (by decide)
   simp only [pk, nth, pkA, pkB, pkC, pkD, pkE, pkF] at h1
   refine Cl.sl (by kernel_rfl) (q_park (x := (noteL x ⟨6, g, -1, ↑ox.op.cases.length, 0, -1, false, false⟩)) (L := ox.op.cases) (ca := ox.cc) (cb := oc2) g ((hk.note ⟨6, g, -1, ↑ox.op.cases.length, 0, -1, false, false⟩)) hl1 (by omega) hA Reader.slc h1) fun w H => ?_
   replace H := H.pick [2, 3, 4, 5, 6, 7, 8, 9, 10, 0, 11, 1] 12 (by decide)
   simp only [pk, nth, pkA, pkB, pkC, pkD, pkE, pkF] at H
   have hkP : Lk np (k + 1) ({ (noteL x ⟨6, g, -1, ↑ox.op.cases.length, 0, -1, false, false⟩) with M := backN (noteL x ⟨6, g, -1, ↑ox.op.cases.length, 0, -1, false, false⟩).name (parkF (okN (noteL x ⟨6, g, -1, ↑ox.op.cases.length, 0, -1, false, false⟩)) g ox.op.cases (pipesN (noteL x ⟨6, g, -1, ↑ox.op.cases.length, 0, -1, false, false⟩))).2 (noteL x ⟨6, g, -1, ↑ox.op.cases.length, 0, -1, false, false⟩).M } : LmM) := Lk.parked (x := (noteL x ⟨6, g, -1, ↑ox.op.cases.length, 0, -1, false, false⟩)) ((hk.note ⟨6, g, -1, ↑ox.op.cases.length, 0, -1, false, false⟩)) hgw ox.op.cases
   refine ⟨.inl rfl, ?_⟩
   refine ⟨?_⟩
   refine H.ldi 5 rfl (v := .pointer (some ⟨crb1, 0, none⟩)) rfl ?_
   have h1 := H.pick [7, 0, 1, 2, 3, 4, 5, 6, 8, 9, 10, 11] 12 (by decide)
   simp only [pk, nth, pkA, pkB, pkC, pkD, pkE, pkF] at h1
   refine Cl.sl (by kernel_rfl) (q_turn (L := ({ (noteL x ⟨6, g, -1, ↑ox.op.cases.length, 0, -1, false, false⟩) with M := backN (noteL x ⟨6, g, -1, ↑ox.op.cases.length, 0, -1, false, false⟩).name (parkF (okN (noteL x ⟨6, g, -1, ↑ox.op.cases.length, 0, -1, false, false⟩)) g ox.op.cases (pipesN (noteL x ⟨6, g, -1, ↑ox.op.cases.length, 0, -1, false, false⟩))).2 (noteL x ⟨6, g, -1, ↑ox.op.cases.length, 0, -1, false, false⟩).M }).crew) (Small.more (hkP).sm (by omega)) g 0 1 (by decide) h1) fun w H => ?_
   replace H := H.pick [1, 2, 3, 4, 5, 6, 7, 0, 8, 9, 10, 11] 12 (by decide)
   simp only [pk, nth, pkA, pkB, pkC, pkD, pkE, pkF] at H
   refine ret0 (fn := Tryd.f40) rfl ?_
   have H0 := H.pick [5, 6, 7, 8, 9, 10, 0, 1, 2, 3, 4, 11] 12 (by decide)
   simp only [pk, nth, pkA, pkB, pkC, pkD, pkE, pkF] at H0
   replace H := rl_shut (x := (turnL ({ (noteL x ⟨6, g, -1, ↑ox.op.cases.length, 0, -1, false, false⟩) with M := backN (noteL x ⟨6, g, -1, ↑ox.op.cases.length, 0, -1, false, false⟩).name (parkF (okN (noteL x ⟨6, g, -1, ↑ox.op.cases.length, 0, -1, false, false⟩)) g ox.op.cases (pipesN (noteL x ⟨6, g, -1, ↑ox.op.cases.length, 0, -1, false, false⟩))).2 (noteL x ⟨6, g, -1, ↑ox.op.cases.length, 0, -1, false, false⟩).M }) g 0 1)) hl1 (by first | rfl | simp [turnL, noteL, backN_len]) hn H0
   have hc : chooseL s x g ox.op = (turnL ({ (noteL x ⟨6, g, -1, ↑ox.op.cases.length, 0, -1, false, false⟩) with M := backN (noteL x ⟨6, g, -1, ↑ox.op.cases.length, 0, -1, false, false⟩).name (parkF (okN (noteL x ⟨6, g, -1, ↑ox.op.cases.length, 0, -1, false, false⟩)) g ox.op.cases (pipesN (noteL x ⟨6, g, -1, ↑ox.op.cases.length, 0, -1, false, false⟩))).2 (noteL x ⟨6, g, -1, ↑ox.op.cases.length, 0, -1, false, false⟩).M }) g 0 1) := by exact choose_park (by rw [hrd]; exact hr) hdf
   rw [hc]
   exact ⟨rfl, H.pick [0, 6] 7 (by decide)⟩
end Go.Proofs.YtchkaaeoffmjnaaDoor
