/- Texts of the proof, several in one file: LoomB2, LoomB3. -/
import Derived.Test.YtchkaaeoffmjnaaGreatDoorG09
namespace Go.Proofs.YtchkaaeoffmjnaaGreatDoor
set_option linter.unusedVariables false
set_option linter.unusedSimpArgs false
open Go.RowKit
set_option maxRecDepth 100000
theorem try_sok (ok : List Bool) (M : List PipeM) {c : CaseM} (h : c.send = true) : (tryF ok M c).1.1.ok = false := by
 unfold tryF
 split
 ·rfl
 ·rw [if_pos h]
  unfold sendF
  split
  ·rfl
  ·split
   ·rfl
   ·split <;> rfl
set_option maxHeartbeats 4000000 in
theorem p_talk {w : World} {F : List Piece} {np k lb : Nat} {sc : ScrM} {x : LmM} {t m : Int} {vp vl vd : Value} {n0 n1 n2 n3 n4 n5 n6 n7 : Int} (hn : x.name = [n0, n1, n2, n3, n4, n5, n6, n7]) (hk : Lk np k x) (hkb : k ≤ 998000) (g : Int) {cj : Nat} (hcj : cj < 8) (sd : Bool) (cv ca : Int) (H : SL w (LmP lb sc ⟨t, m, vp, vl, vd⟩ x :: F)) :
  Calls Tryz.prog 108 #[.pointer (some ⟨lb, 0, none⟩), .int .i64 g, .agg #[.bool sd, .int .i64 (cj : Int), .int .i64 cv], .int .i64 ca] w fun o w' => ∃ b y0, o = .returned (.bool b) ∧ talkL x g ⟨sd, (cj : Int), cv⟩ ca = (if b = true then y0 else { y0 with pan := true }) ∧ SL w' (LmP lb sc ⟨t, m, vp, vl, vd⟩ y0 :: F) := by
 obtain ⟨⟨⟨⟨rd, ok_, wk, gv, ⟨mg, mc, mv⟩⟩, er⟩, ys⟩, hR⟩ : ∃ R, tryF (okN x) (pipesN x) ⟨sd, (cj : Int), cv⟩ = R := ⟨_, rfl⟩
 have hT1 := hk.tried ⟨sd, (cj : Int), cv⟩
 rw [hR] at hT1
 dsimp only at hT1
 have hso : sd = true → ok_ = false := fun h => by have := try_sok (okN x) (pipesN x) (c := ⟨sd, (cj : Int), cv⟩) h; rw [hR] at this; exact this
 have hob := lm_open (x := x) hn H
 obtain ⟨cb1, crb1, pn1, pc1, ala1, alc1, ta1, tc1, ps1, hl1, H⟩ := hob
 refine calls_den (args := [_, _, _, _]) Tryz.func108 rfl (Nat.le_of_ble_eq_true (by kernel_rfl)) (by kernel_rfl) ?_
 refine ⟨?_⟩
 refine Nw.as #[.bool sd, .int .i64 ↑cj, .int .i64 cv] 154 rfl H fun b6 w H => ?_
 refine ⟨?_⟩
 refine Drw.of [(0, true), (1, true), (2, true), (3, true), (4, true), (5, true), (6, true), (7, true)] (by kernel_rfl) mixed (fun w => SL w _) H.drew ?_
 replace H := H.drew
 refine LdC.i 0 rfl (v := .int .i64 ↑cj) rfl ?_
 refine Ix.at cj 1 (by kernel_rfl) rfl hcj ?_
 refine LdC.i 1 rfl (v := .int .i64 (numL x ↑cj)) (name_cell9 (x := x) hn cj hcj) ?_
 refine ⟨?_⟩
 refine Drw.oft (.calm 0 (.calm 1 (.calm 2 (.calm 3 (.calm 4 (.two 5 true (.pure 6 (.pure 7 (.pure 8 (.act 9 true (.act 10 true (.pure 11 .nil)))))) 9 false (.act 5 true (.pure 6 (.pure 7 (.pure 8 (.act 10 true (.pure 11 .nil)))))))))))) (by kernel_rfl) mixed (fun w => SL w _) H.drew ?_
 replace H := H.drew
 refine LdC.i 0 rfl (v := .bool sd) rfl ?_
 refine LdC.i 0 rfl (v := .int .i64 ↑cj) rfl ?_
 refine LdC.i 0 rfl (v := .int .i64 cv) rfl ?_
 refine LdC.i 1 rfl (v := .slice (some ⟨pn1, 0, none⟩) 8 pc1) rfl ?_
 refine ⟨?_, ?_⟩
 ·skip
  have h1 := H.pick [6, 4, 0, 1, 2, 3, 5, 7] 8 (by decide)
  simp only [pk, nth, pkA, pkB, pkC, pkD, pkE, pkF] at h1
  have hT := p_try (x := x) (cb := pc1) hk (by omega) hl1 ⟨sd, (cj : Int), cv⟩ Reader.slc h1
  rw [hR] at hT
  dsimp only at hT
  refine Cl.sl (by kernel_rfl) hT fun w H => ?_
  replace H := H.pick [2, 3, 4, 5, 1, 6, 0, 7] 8 (by decide)
  simp only [pk, nth, pkA, pkB, pkC, pkD, pkE, pkF] at H
  refine ⟨.inl rfl, ?_⟩
  refine Nw.as #[.bool false, .bool false, .bool false, .int .i64 0, .int .i64 0, .int .i64 0, .int .i64 0] 227 rfl H fun b10 w H => ?_
  refine ⟨.inl rfl, ?_⟩
  refine H.st0 (cs' := #[.bool rd, .bool false, .bool false, .int .i64 0, .int .i64 0, .int .i64 0, .int .i64 0]) rfl rfl rfl fun w H => ?_
  refine H.st0 (cs' := #[.bool rd, .bool ok_, .bool false, .int .i64 0, .int .i64 0, .int .i64 0, .int .i64 0]) rfl rfl rfl fun w H => ?_
  refine H.st0 (cs' := #[.bool rd, .bool ok_, .bool wk, .int .i64 0, .int .i64 0, .int .i64 0, .int .i64 0]) rfl rfl rfl fun w H => ?_
  refine H.st0 (cs' := #[.bool rd, .bool ok_, .bool wk, .int .i64 gv, .int .i64 0, .int .i64 0, .int .i64 0]) rfl rfl rfl fun w H => ?_
  refine H.st0 (cs' := #[.bool rd, .bool ok_, .bool wk, .int .i64 gv, .int .i64 mg, .int .i64 0, .int .i64 0]) rfl rfl rfl fun w H => ?_
  refine H.st0 (cs' := #[.bool rd, .bool ok_, .bool wk, .int .i64 gv, .int .i64 mg, .int .i64 mc, .int .i64 0]) rfl rfl rfl fun w H => ?_
  refine H.st0 (cs' := #[.bool rd, .bool ok_, .bool wk, .int .i64 gv, .int .i64 mg, .int .i64 mc, .int .i64 mv]) rfl rfl rfl fun w H => ?_
  refine ⟨.inl rfl, ?_⟩
  refine ⟨?_⟩
  refine BB.vr fun q1 e1 => ?_
  cases q1
  ·skip
   have h1 := bne_eq_false_iff_eq.1 e1
   subst h1
   refine Cn.no ?_
   refine ⟨?_⟩
   refine H.ldi 0 rfl (v := .int .i64 gv) rfl ?_
   refine H.ldi 0 rfl (v := .bool ok_) rfl ?_
   refine BB.k ?_
   refine Mn.pure (.agg #[.int .i64 4, .int .i64 g, .int .i64 (numL x ↑cj), .int .i64 ca, .int .i64 gv, .int .i64 (-1), .bool false, .bool ok_]) (by kernel_rfl) ?_
   refine Nw.as #[.int .i64 0, .int .i64 0, .int .i64 0, .int .i64 0, .int .i64 0, .int .i64 0, .bool false, .bool false] 53 rfl H fun b12 w H => ?_
   refine H.st0 (cs' := #[.int .i64 4, .int .i64 0, .int .i64 0, .int .i64 0, .int .i64 0, .int .i64 0, .bool false, .bool false]) rfl rfl rfl fun w H => ?_
   refine H.st0 (cs' := #[.int .i64 4, .int .i64 g, .int .i64 0, .int .i64 0, .int .i64 0, .int .i64 0, .bool false, .bool false]) rfl rfl rfl fun w H => ?_
   refine H.st0 (cs' := #[.int .i64 4, .int .i64 g, .int .i64 (numL x ↑cj), .int .i64 0, .int .i64 0, .int .i64 0, .bool false, .bool false]) rfl rfl rfl fun w H => ?_
   refine H.st0 (cs' := #[.int .i64 4, .int .i64 g, .int .i64 (numL x ↑cj), .int .i64 ca, .int .i64 0, .int .i64 0, .bool false, .bool false]) rfl rfl rfl fun w H => ?_
   refine H.st0 (cs' := #[.int .i64 4, .int .i64 g, .int .i64 (numL x ↑cj), .int .i64 ca, .int .i64 gv, .int .i64 0, .bool false, .bool false]) rfl rfl rfl fun w H => ?_
   refine H.st0 (cs' := #[.int .i64 4, .int .i64 g, .int .i64 (numL x ↑cj), .int .i64 ca, .int .i64 gv, .int .i64 (-1), .bool false, .bool false]) rfl rfl rfl fun w H => ?_
   refine H.st0 (cs' := #[.int .i64 4, .int .i64 g, .int .i64 (numL x ↑cj), .int .i64 ca, .int .i64 gv, .int .i64 (-1), .bool false, .bool false]) rfl rfl rfl fun w H => ?_
   refine H.st0 (cs' := #[.int .i64 4, .int .i64 g, .int .i64 (numL x ↑cj), .int .i64 ca, .int .i64 gv, .int .i64 (-1), .bool false, .bool ok_]) rfl rfl rfl fun w H => ?_
   refine ⟨?_⟩
   refine H.ldi 2 rfl (v := .bool sd) rfl ?_
   refine BB.k ?_
   cases sd
   ·skip
    refine Cn.no ?_
    refine ⟨?_⟩
    refine H.ldi 1 rfl (v := .bool wk) rfl ?_
    refine BB.k ?_
    cases wk
    ·skip
     refine Cn.no ?_
     refine ⟨?_⟩
     refine H.ldi 0 rfl (v := .int .i64 4) rfl ?_
     refine H.ldi 0 rfl (v := .int .i64 g) rfl ?_
     refine H.ldi 0 rfl (v := .int .i64 (numL x ↑cj)) rfl ?_
     refine H.ldi 0 rfl (v := .int .i64 ca) rfl ?_
     refine H.ldi 0 rfl (v := .int .i64 gv) rfl ?_
     refine H.ldi 0 rfl (v := .int .i64 (-1)) rfl ?_
     refine H.ldi 0 rfl (v := .bool false) rfl ?_
     refine H.ldi 0 rfl (v := .bool ok_) rfl ?_
     have h1 := H.pick [3, 9, 0, 1, 2, 4, 5, 6, 7, 8] 10 (by decide)
     simp only [pk, nth, pkA, pkB, pkC, pkD, pkE, pkF] at h1
     refine Cl.by (by kernel_rfl) (p_noteO (Nat.le_trans (hT1).tr (by omega)) ⟨4, g, (numL x ↑cj), ca, gv, -1, false, ok_⟩ h1) ?_
     rintro _ w ⟨tn1, tk1, rfl, H⟩
     refine ⟨_, rfl, ?_⟩
     replace H := H.pick [2, 3, 4, 0, 5, 6, 7, 8, 9, 1] 10 (by decide)
     simp only [pk, nth, pkA, pkB, pkC, pkD, pkE, pkF] at H
     refine ⟨?_⟩
     refine H.ldi 3 rfl (v := .pointer (some ⟨crb1, 0, none⟩)) rfl ?_
     have h1 := H.pick [5, 0, 1, 2, 3, 4, 6, 7, 8, 9] 10 (by decide)
     simp only [pk, nth, pkA, pkB, pkC, pkD, pkE, pkF] at h1
     refine Cl.sl (by kernel_rfl) (p_go (L := (noteL ({ x with M := backN x.name ys x.M }) ⟨4, g, (numL x ↑cj), ca, gv, -1, false, ok_⟩).crew) (Small.more ((hT1.note ⟨4, g, (numL x ↑cj), ca, gv, -1, false, ok_⟩)).sm (by omega)) g h1) fun w H => ?_
     replace H := H.pick [1, 2, 3, 4, 5, 0, 6, 7, 8, 9] 10 (by decide)
     simp only [pk, nth, pkA, pkB, pkC, pkD, pkE, pkF] at H
     refine ⟨?_⟩
     refine H.ldi 1 rfl (v := .bool false) rfl ?_
     refine BB.no rfl ?_
     refine Cn.no ?_
     refine ⟨?_⟩
     refine ret1 (fn := Tryz.f108) (.bool true) rfl (by rfl) ?_
     have H0 := H.pick [3, 4, 5, 6, 7, 8, 9, 0, 1, 2] 10 (by decide)
     simp only [pk, nth, pkA, pkB, pkC, pkD, pkE, pkF] at H0
     replace H := lm_shut (x := (turnL (noteL ({ x with M := backN x.name ys x.M }) ⟨4, g, (numL x ↑cj), ca, gv, -1, false, ok_⟩) g 0 0)) hl1 (by first | rfl | simp [turnL, noteL, backN_len]) hn H0
     have hc : talkL x g ⟨false, (cj : Int), cv⟩ ca = (turnL (noteL ({ x with M := backN x.name ys x.M }) ⟨4, g, (numL x ↑cj), ca, gv, -1, false, ok_⟩) g 0 0) := by unfold talkL; rw [hR]; dsimp only; rw [if_neg (by decide)]; rfl
     exact ⟨true, (turnL (noteL ({ x with M := backN x.name ys x.M }) ⟨4, g, (numL x ↑cj), ca, gv, -1, false, ok_⟩) g 0 0), rfl, hc, H.pick [0] 4 (by decide)⟩
    ·skip
     refine Cn.yes ?_
     refine ⟨?_⟩
     refine H.ldi 1 rfl (v := .int .i64 mg) rfl ?_
     refine H.st0 (cs' := #[.int .i64 4, .int .i64 g, .int .i64 (numL x ↑cj), .int .i64 ca, .int .i64 gv, .int .i64 mg, .bool false, .bool ok_]) rfl rfl rfl fun w H => ?_
     refine ⟨?_⟩
     refine H.ldi 0 rfl (v := .int .i64 4) rfl ?_
     refine H.ldi 0 rfl (v := .int .i64 g) rfl ?_
     refine H.ldi 0 rfl (v := .int .i64 (numL x ↑cj)) rfl ?_
     refine H.ldi 0 rfl (v := .int .i64 ca) rfl ?_
     refine H.ldi 0 rfl (v := .int .i64 gv) rfl ?_
     refine H.ldi 0 rfl (v := .int .i64 mg) rfl ?_
     refine H.ldi 0 rfl (v := .bool false) rfl ?_
     refine H.ldi 0 rfl (v := .bool ok_) rfl ?_
     have h1 := H.pick [3, 9, 0, 1, 2, 4, 5, 6, 7, 8] 10 (by decide)
     simp only [pk, nth, pkA, pkB, pkC, pkD, pkE, pkF] at h1
     refine Cl.by (by kernel_rfl) (p_noteO (Nat.le_trans (hT1).tr (by omega)) ⟨4, g, (numL x ↑cj), ca, gv, mg, false, ok_⟩ h1) ?_
     rintro _ w ⟨tn2, tk2, rfl, H⟩
     refine ⟨_, rfl, ?_⟩
     replace H := H.pick [2, 3, 4, 0, 5, 6, 7, 8, 9, 1] 10 (by decide)
     simp only [pk, nth, pkA, pkB, pkC, pkD, pkE, pkF] at H
     refine ⟨?_⟩
     refine H.ldi 3 rfl (v := .pointer (some ⟨crb1, 0, none⟩)) rfl ?_
     have h1 := H.pick [5, 0, 1, 2, 3, 4, 6, 7, 8, 9] 10 (by decide)
     simp only [pk, nth, pkA, pkB, pkC, pkD, pkE, pkF] at h1
     refine Cl.sl (by kernel_rfl) (p_go (L := (noteL ({ x with M := backN x.name ys x.M }) ⟨4, g, (numL x ↑cj), ca, gv, mg, false, ok_⟩).crew) (Small.more ((hT1.note ⟨4, g, (numL x ↑cj), ca, gv, mg, false, ok_⟩)).sm (by omega)) g h1) fun w H => ?_
     replace H := H.pick [1, 2, 3, 4, 5, 0, 6, 7, 8, 9] 10 (by decide)
     simp only [pk, nth, pkA, pkB, pkC, pkD, pkE, pkF] at H
     refine ⟨?_⟩
     refine H.ldi 1 rfl (v := .bool true) rfl ?_
     refine BB.yes rfl ?_
     refine Cn.yes ?_
     refine ⟨?_⟩
     refine H.ldi 1 rfl (v := .int .i64 mg) rfl ?_
     refine H.ldi 1 rfl (v := .int .i64 mc) rfl ?_
     refine H.ldi 1 rfl (v := .int .i64 mv) rfl ?_
     refine H.ldi 2 rfl (v := .bool false) rfl ?_
     refine BB.no rfl ?_
     refine BB.yes rfl ?_
     refine Mn.pure (.agg #[.int .i64 0, .int .i64 mg, .int .i64 (numL x ↑cj), .int .i64 mc, .int .i64 mv, .int .i64 g, .bool true, .bool true]) (by kernel_rfl) ?_
     refine Nw.as #[.int .i64 0, .int .i64 0, .int .i64 0, .int .i64 0, .int .i64 0, .int .i64 0, .bool false, .bool false] 53 rfl H fun b13 w H => ?_
     refine H.st0 (cs' := #[.int .i64 0, .int .i64 0, .int .i64 0, .int .i64 0, .int .i64 0, .int .i64 0, .bool false, .bool false]) rfl rfl rfl fun w H => ?_
     refine H.st0 (cs' := #[.int .i64 0, .int .i64 mg, .int .i64 0, .int .i64 0, .int .i64 0, .int .i64 0, .bool false, .bool false]) rfl rfl rfl fun w H => ?_
     refine H.st0 (cs' := #[.int .i64 0, .int .i64 mg, .int .i64 (numL x ↑cj), .int .i64 0, .int .i64 0, .int .i64 0, .bool false, .bool false]) rfl rfl rfl fun w H => ?_
     refine H.st0 (cs' := #[.int .i64 0, .int .i64 mg, .int .i64 (numL x ↑cj), .int .i64 mc, .int .i64 0, .int .i64 0, .bool false, .bool false]) rfl rfl rfl fun w H => ?_
     refine H.st0 (cs' := #[.int .i64 0, .int .i64 mg, .int .i64 (numL x ↑cj), .int .i64 mc, .int .i64 mv, .int .i64 0, .bool false, .bool false]) rfl rfl rfl fun w H => ?_
     refine H.st0 (cs' := #[.int .i64 0, .int .i64 mg, .int .i64 (numL x ↑cj), .int .i64 mc, .int .i64 mv, .int .i64 g, .bool false, .bool false]) rfl rfl rfl fun w H => ?_
     refine H.st0 (cs' := #[.int .i64 0, .int .i64 mg, .int .i64 (numL x ↑cj), .int .i64 mc, .int .i64 mv, .int .i64 g, .bool true, .bool false]) rfl rfl rfl fun w H => ?_
     refine H.st0 (cs' := #[.int .i64 0, .int .i64 mg, .int .i64 (numL x ↑cj), .int .i64 mc, .int .i64 mv, .int .i64 g, .bool true, .bool true]) rfl rfl rfl fun w H => ?_
     refine ⟨?_⟩
     refine H.ldi 3 rfl (v := .bool false) rfl ?_
     refine BB.no rfl ?_
     refine Cn.no ?_
     refine ⟨?_⟩
     refine H.ldi 0 rfl (v := .int .i64 0) rfl ?_
     refine H.ldi 0 rfl (v := .int .i64 mg) rfl ?_
     refine H.ldi 0 rfl (v := .int .i64 (numL x ↑cj)) rfl ?_
     refine H.ldi 0 rfl (v := .int .i64 mc) rfl ?_
     refine H.ldi 0 rfl (v := .int .i64 mv) rfl ?_
     refine H.ldi 0 rfl (v := .int .i64 g) rfl ?_
     refine H.ldi 0 rfl (v := .bool true) rfl ?_
     refine H.ldi 0 rfl (v := .bool true) rfl ?_
     have H0 := H.pick [4, 5, 6, 7, 8, 9, 10, 0, 1, 2, 3] 11 (by decide)
     simp only [pk, nth, pkA, pkB, pkC, pkD, pkE, pkF] at H0
     replace H := lm_shut (x := (turnL (noteL ({ x with M := backN x.name ys x.M }) ⟨4, g, (numL x ↑cj), ca, gv, mg, false, ok_⟩) g 0 0)) hl1 (by first | rfl | simp [turnL, noteL, backN_len]) hn H0
     have h1 := H
     refine Cl.sl (by kernel_rfl) (p_wakeL (x := (turnL (noteL ({ x with M := backN x.name ys x.M }) ⟨4, g, (numL x ↑cj), ca, gv, mg, false, ok_⟩) g 0 0)) hn (((hT1.note ⟨4, g, (numL x ↑cj), ca, gv, mg, false, ok_⟩).turn g 0 0)) (by omega) 0 ⟨7, mg, (numL x ↑cj), mc, mv, g, true, true⟩ h1) fun w H => ?_
     have hob := lm_open (x := (wakeL (turnL (noteL ({ x with M := backN x.name ys x.M }) ⟨4, g, (numL x ↑cj), ca, gv, mg, false, ok_⟩) g 0 0) ⟨7, mg, (numL x ↑cj), mc, mv, g, true, true⟩)) hn H
     obtain ⟨cb2, crb2, pn2, pc2, ala2, alc2, ta2, tc2, ps2, hl2, H⟩ := hob
     refine ⟨?_⟩
     refine ret1 (fn := Tryz.f108) (.bool true) rfl (by rfl) ?_
     have H0 := H
     replace H := lm_shut (x := (wakeL (turnL (noteL ({ x with M := backN x.name ys x.M }) ⟨4, g, (numL x ↑cj), ca, gv, mg, false, ok_⟩) g 0 0) ⟨7, mg, (numL x ↑cj), mc, mv, g, true, true⟩)) hl2 (by first | rfl | simp [turnL, noteL, backN_len]) hn H0
     have hc : talkL x g ⟨false, (cj : Int), cv⟩ ca = (wakeL (turnL (noteL ({ x with M := backN x.name ys x.M }) ⟨4, g, (numL x ↑cj), ca, gv, mg, false, ok_⟩) g 0 0) ⟨7, mg, (numL x ↑cj), mc, mv, g, true, true⟩) := by unfold talkL; rw [hR]; dsimp only; rw [if_neg (by decide)]; rfl
     exact ⟨true, (wakeL (turnL (noteL ({ x with M := backN x.name ys x.M }) ⟨4, g, (numL x ↑cj), ca, gv, mg, false, ok_⟩) g 0 0) ⟨7, mg, (numL x ↑cj), mc, mv, g, true, true⟩), rfl, hc, H.pick [0] 5 (by decide)⟩
   ·skip
    refine Cn.yes ?_
    refine ⟨?_⟩
    refine Drw.oft (.calm 0 (.calm 1 (.calm 2 (.act 3 false (.pure 4 (.act 5 true (.pure 6 (.act 7 true .nil)))))))) (by kernel_rfl) mixed (fun w => SL w _) (H.drew.pick [1, 2, 3, 4, 5, 6, 7, 8, 9] 10 (by decide)) ?_
    replace H := H.drew
    refine LdC.i 1 rfl (v := .int .i64 cv) rfl ?_
    refine H.st0 (cs' := #[.int .i64 3, .int .i64 g, .int .i64 (numL x ↑cj), .int .i64 ca, .int .i64 gv, .int .i64 (-1), .bool false, .bool ok_]) rfl rfl rfl fun w H => ?_
    refine ⟨.inr (H.pick [1, 2, 3, 4, 5, 6, 7, 8, 9] 10 (by decide)), ?_⟩
    refine H.st0 (cs' := #[.int .i64 3, .int .i64 g, .int .i64 (numL x ↑cj), .int .i64 ca, .int .i64 cv, .int .i64 (-1), .bool false, .bool ok_]) rfl rfl rfl fun w H => ?_
    refine ⟨.inl rfl, ?_⟩
    refine H.st0 (cs' := #[.int .i64 3, .int .i64 g, .int .i64 (numL x ↑cj), .int .i64 ca, .int .i64 cv, .int .i64 (-1), .bool true, .bool ok_]) rfl rfl rfl fun w H => ?_
    refine ⟨.inl rfl, ?_⟩
    refine ⟨?_⟩
    refine H.ldi 1 rfl (v := .bool wk) rfl ?_
    refine BB.k ?_
    cases wk
    ·skip
     refine Cn.no ?_
     refine ⟨?_⟩
     refine H.ldi 0 rfl (v := .int .i64 3) rfl ?_
     refine H.ldi 0 rfl (v := .int .i64 g) rfl ?_
     refine H.ldi 0 rfl (v := .int .i64 (numL x ↑cj)) rfl ?_
     refine H.ldi 0 rfl (v := .int .i64 ca) rfl ?_
     refine H.ldi 0 rfl (v := .int .i64 cv) rfl ?_
     refine H.ldi 0 rfl (v := .int .i64 (-1)) rfl ?_
     refine H.ldi 0 rfl (v := .bool true) rfl ?_
     refine H.ldi 0 rfl (v := .bool ok_) rfl ?_
     have h1 := H.pick [3, 9, 0, 1, 2, 4, 5, 6, 7, 8] 10 (by decide)
     simp only [pk, nth, pkA, pkB, pkC, pkD, pkE, pkF] at h1
     refine Cl.by (by kernel_rfl) (p_noteO (Nat.le_trans (hT1).tr (by omega)) ⟨3, g, (numL x ↑cj), ca, cv, -1, true, ok_⟩ h1) ?_
     rintro _ w ⟨tn3, tk3, rfl, H⟩
     refine ⟨_, rfl, ?_⟩
     replace H := H.pick [2, 3, 4, 0, 5, 6, 7, 8, 9, 1] 10 (by decide)
     simp only [pk, nth, pkA, pkB, pkC, pkD, pkE, pkF] at H
     refine ⟨?_⟩
     refine H.ldi 3 rfl (v := .pointer (some ⟨crb1, 0, none⟩)) rfl ?_
     have h1 := H.pick [5, 0, 1, 2, 3, 4, 6, 7, 8, 9] 10 (by decide)
     simp only [pk, nth, pkA, pkB, pkC, pkD, pkE, pkF] at h1
     refine Cl.sl (by kernel_rfl) (p_go (L := (noteL ({ x with M := backN x.name ys x.M }) ⟨3, g, (numL x ↑cj), ca, cv, -1, true, ok_⟩).crew) (Small.more ((hT1.note ⟨3, g, (numL x ↑cj), ca, cv, -1, true, ok_⟩)).sm (by omega)) g h1) fun w H => ?_
     replace H := H.pick [1, 2, 3, 4, 5, 0, 6, 7, 8, 9] 10 (by decide)
     simp only [pk, nth, pkA, pkB, pkC, pkD, pkE, pkF] at H
     refine ⟨?_⟩
     refine H.ldi 1 rfl (v := .bool false) rfl ?_
     refine BB.no rfl ?_
     refine Cn.no ?_
     refine ⟨?_⟩
     refine ret1 (fn := Tryz.f108) (.bool true) rfl (by rfl) ?_
     have hob := hso rfl
     obtain rfl := hob
     have H0 := H.pick [3, 4, 5, 6, 7, 8, 9, 0, 1, 2] 10 (by decide)
     simp only [pk, nth, pkA, pkB, pkC, pkD, pkE, pkF] at H0
     replace H := lm_shut (x := (turnL (noteL ({ x with M := backN x.name ys x.M }) ⟨3, g, (numL x ↑cj), ca, cv, -1, true, false⟩) g 0 0)) hl1 (by first | rfl | simp [turnL, noteL, backN_len]) hn H0
     have hc : talkL x g ⟨true, (cj : Int), cv⟩ ca = (turnL (noteL ({ x with M := backN x.name ys x.M }) ⟨3, g, (numL x ↑cj), ca, cv, -1, true, false⟩) g 0 0) := by unfold talkL; rw [hR]; dsimp only; rw [if_neg (by decide)]; rfl
     exact ⟨true, (turnL (noteL ({ x with M := backN x.name ys x.M }) ⟨3, g, (numL x ↑cj), ca, cv, -1, true, false⟩) g 0 0), rfl, hc, H.pick [0] 4 (by decide)⟩
    ·skip
     refine Cn.yes ?_
     refine ⟨?_⟩
     refine H.ldi 1 rfl (v := .int .i64 mg) rfl ?_
     refine H.st0 (cs' := #[.int .i64 3, .int .i64 g, .int .i64 (numL x ↑cj), .int .i64 ca, .int .i64 cv, .int .i64 mg, .bool true, .bool ok_]) rfl rfl rfl fun w H => ?_
     refine ⟨?_⟩
     refine H.ldi 0 rfl (v := .int .i64 3) rfl ?_
     refine H.ldi 0 rfl (v := .int .i64 g) rfl ?_
     refine H.ldi 0 rfl (v := .int .i64 (numL x ↑cj)) rfl ?_
     refine H.ldi 0 rfl (v := .int .i64 ca) rfl ?_
     refine H.ldi 0 rfl (v := .int .i64 cv) rfl ?_
     refine H.ldi 0 rfl (v := .int .i64 mg) rfl ?_
     refine H.ldi 0 rfl (v := .bool true) rfl ?_
     refine H.ldi 0 rfl (v := .bool ok_) rfl ?_
     have h1 := H.pick [3, 9, 0, 1, 2, 4, 5, 6, 7, 8] 10 (by decide)
     simp only [pk, nth, pkA, pkB, pkC, pkD, pkE, pkF] at h1
     refine Cl.by (by kernel_rfl) (p_noteO (Nat.le_trans (hT1).tr (by omega)) ⟨3, g, (numL x ↑cj), ca, cv, mg, true, ok_⟩ h1) ?_
     rintro _ w ⟨tn4, tk4, rfl, H⟩
     refine ⟨_, rfl, ?_⟩
     replace H := H.pick [2, 3, 4, 0, 5, 6, 7, 8, 9, 1] 10 (by decide)
     simp only [pk, nth, pkA, pkB, pkC, pkD, pkE, pkF] at H
     refine ⟨?_⟩
     refine H.ldi 3 rfl (v := .pointer (some ⟨crb1, 0, none⟩)) rfl ?_
     have h1 := H.pick [5, 0, 1, 2, 3, 4, 6, 7, 8, 9] 10 (by decide)
     simp only [pk, nth, pkA, pkB, pkC, pkD, pkE, pkF] at h1
     refine Cl.sl (by kernel_rfl) (p_go (L := (noteL ({ x with M := backN x.name ys x.M }) ⟨3, g, (numL x ↑cj), ca, cv, mg, true, ok_⟩).crew) (Small.more ((hT1.note ⟨3, g, (numL x ↑cj), ca, cv, mg, true, ok_⟩)).sm (by omega)) g h1) fun w H => ?_
     replace H := H.pick [1, 2, 3, 4, 5, 0, 6, 7, 8, 9] 10 (by decide)
     simp only [pk, nth, pkA, pkB, pkC, pkD, pkE, pkF] at H
     refine ⟨?_⟩
     refine H.ldi 1 rfl (v := .bool true) rfl ?_
     refine BB.yes rfl ?_
     refine Cn.yes ?_
     refine ⟨?_⟩
     refine H.ldi 1 rfl (v := .int .i64 mg) rfl ?_
     refine H.ldi 1 rfl (v := .int .i64 mc) rfl ?_
     refine H.ldi 1 rfl (v := .int .i64 mv) rfl ?_
     refine H.ldi 2 rfl (v := .bool true) rfl ?_
     refine BB.yes rfl ?_
     refine BB.no rfl ?_
     refine Mn.pure (.agg #[.int .i64 0, .int .i64 mg, .int .i64 (numL x ↑cj), .int .i64 mc, .int .i64 mv, .int .i64 g, .bool false, .bool true]) (by kernel_rfl) ?_
     refine Nw.as #[.int .i64 0, .int .i64 0, .int .i64 0, .int .i64 0, .int .i64 0, .int .i64 0, .bool false, .bool false] 53 rfl H fun b13 w H => ?_
     refine H.st0 (cs' := #[.int .i64 0, .int .i64 0, .int .i64 0, .int .i64 0, .int .i64 0, .int .i64 0, .bool false, .bool false]) rfl rfl rfl fun w H => ?_
     refine H.st0 (cs' := #[.int .i64 0, .int .i64 mg, .int .i64 0, .int .i64 0, .int .i64 0, .int .i64 0, .bool false, .bool false]) rfl rfl rfl fun w H => ?_
     refine H.st0 (cs' := #[.int .i64 0, .int .i64 mg, .int .i64 (numL x ↑cj), .int .i64 0, .int .i64 0, .int .i64 0, .bool false, .bool false]) rfl rfl rfl fun w H => ?_
     refine H.st0 (cs' := #[.int .i64 0, .int .i64 mg, .int .i64 (numL x ↑cj), .int .i64 mc, .int .i64 0, .int .i64 0, .bool false, .bool false]) rfl rfl rfl fun w H => ?_
     refine H.st0 (cs' := #[.int .i64 0, .int .i64 mg, .int .i64 (numL x ↑cj), .int .i64 mc, .int .i64 mv, .int .i64 0, .bool false, .bool false]) rfl rfl rfl fun w H => ?_
     refine H.st0 (cs' := #[.int .i64 0, .int .i64 mg, .int .i64 (numL x ↑cj), .int .i64 mc, .int .i64 mv, .int .i64 g, .bool false, .bool false]) rfl rfl rfl fun w H => ?_
     refine H.st0 (cs' := #[.int .i64 0, .int .i64 mg, .int .i64 (numL x ↑cj), .int .i64 mc, .int .i64 mv, .int .i64 g, .bool false, .bool false]) rfl rfl rfl fun w H => ?_
     refine H.st0 (cs' := #[.int .i64 0, .int .i64 mg, .int .i64 (numL x ↑cj), .int .i64 mc, .int .i64 mv, .int .i64 g, .bool false, .bool true]) rfl rfl rfl fun w H => ?_
     refine ⟨?_⟩
     refine H.ldi 3 rfl (v := .bool true) rfl ?_
     refine BB.yes rfl ?_
     refine Cn.yes ?_
     refine ⟨?_⟩
     refine H.ldi 3 rfl (v := .int .i64 cv) rfl ?_
     refine H.st0 (cs' := #[.int .i64 0, .int .i64 mg, .int .i64 (numL x ↑cj), .int .i64 mc, .int .i64 cv, .int .i64 g, .bool false, .bool true]) rfl rfl rfl fun w H => ?_
     refine ⟨?_⟩
     refine H.ldi 0 rfl (v := .int .i64 0) rfl ?_
     refine H.ldi 0 rfl (v := .int .i64 mg) rfl ?_
     refine H.ldi 0 rfl (v := .int .i64 (numL x ↑cj)) rfl ?_
     refine H.ldi 0 rfl (v := .int .i64 mc) rfl ?_
     refine H.ldi 0 rfl (v := .int .i64 cv) rfl ?_
     refine H.ldi 0 rfl (v := .int .i64 g) rfl ?_
     refine H.ldi 0 rfl (v := .bool false) rfl ?_
     refine H.ldi 0 rfl (v := .bool true) rfl ?_
     have H0 := H.pick [4, 5, 6, 7, 8, 9, 10, 0, 1, 2, 3] 11 (by decide)
     simp only [pk, nth, pkA, pkB, pkC, pkD, pkE, pkF] at H0
     replace H := lm_shut (x := (turnL (noteL ({ x with M := backN x.name ys x.M }) ⟨3, g, (numL x ↑cj), ca, cv, mg, true, ok_⟩) g 0 0)) hl1 (by first | rfl | simp [turnL, noteL, backN_len]) hn H0
     have h1 := H
     refine Cl.sl (by kernel_rfl) (p_wakeL (x := (turnL (noteL ({ x with M := backN x.name ys x.M }) ⟨3, g, (numL x ↑cj), ca, cv, mg, true, ok_⟩) g 0 0)) hn (((hT1.note ⟨3, g, (numL x ↑cj), ca, cv, mg, true, ok_⟩).turn g 0 0)) (by omega) 0 ⟨7, mg, (numL x ↑cj), mc, cv, g, false, true⟩ h1) fun w H => ?_
     have hob := lm_open (x := (wakeL (turnL (noteL ({ x with M := backN x.name ys x.M }) ⟨3, g, (numL x ↑cj), ca, cv, mg, true, ok_⟩) g 0 0) ⟨7, mg, (numL x ↑cj), mc, cv, g, false, true⟩)) hn H
     obtain ⟨cb3, crb3, pn3, pc3, ala3, alc3, ta3, tc3, ps3, hl3, H⟩ := hob
     refine ⟨?_⟩
     refine ret1 (fn := Tryz.f108) (.bool true) rfl (by rfl) ?_
     have hob := hso rfl
     obtain rfl := hob
     have H0 := H
     replace H := lm_shut (x := (wakeL (turnL (noteL ({ x with M := backN x.name ys x.M }) ⟨3, g, (numL x ↑cj), ca, cv, mg, true, false⟩) g 0 0) ⟨7, mg, (numL x ↑cj), mc, cv, g, false, true⟩)) hl3 (by first | rfl | simp [turnL, noteL, backN_len]) hn H0
     have hc : talkL x g ⟨true, (cj : Int), cv⟩ ca = (wakeL (turnL (noteL ({ x with M := backN x.name ys x.M }) ⟨3, g, (numL x ↑cj), ca, cv, mg, true, false⟩) g 0 0) ⟨7, mg, (numL x ↑cj), mc, cv, g, false, true⟩) := by unfold talkL; rw [hR]; dsimp only; rw [if_neg (by decide)]; rfl
     exact ⟨true, (wakeL (turnL (noteL ({ x with M := backN x.name ys x.M }) ⟨3, g, (numL x ↑cj), ca, cv, mg, true, false⟩) g 0 0) ⟨7, mg, (numL x ↑cj), mc, cv, g, false, true⟩), rfl, hc, H.pick [0] 5 (by decide)⟩
  ·skip
   have h1 := bne_iff_ne.1 e1
   refine Cn.yes ?_
   refine ⟨?_⟩
   refine Cl.sl (by kernel_rfl) (p_bare H 12 g) fun w H => ?_
   have h1 := H.pick [2, 8, 0, 1, 3, 4, 5, 6, 7] 9 (by decide)
   simp only [pk, nth, pkA, pkB, pkC, pkD, pkE, pkF] at h1
   refine Cl.by (by kernel_rfl) (p_noteO (Nat.le_trans (hT1).tr (by omega)) ⟨12, g, -1, -1, -1, -1, false, false⟩ h1) ?_
   rintro _ w ⟨tn5, tk5, rfl, H⟩
   refine ⟨_, rfl, ?_⟩
   replace H := H.pick [2, 3, 0, 4, 5, 6, 7, 8, 1] 9 (by decide)
   simp only [pk, nth, pkA, pkB, pkC, pkD, pkE, pkF] at H
   refine ⟨?_⟩
   refine ret1 (fn := Tryz.f108) (.bool false) rfl (by rfl) ?_
   have H0 := H.pick [2, 3, 4, 5, 6, 7, 8, 0, 1] 9 (by decide)
   simp only [pk, nth, pkA, pkB, pkC, pkD, pkE, pkF] at H0
   replace H := lm_shut (x := (noteL ({ x with M := backN x.name ys x.M }) ⟨12, g, -1, -1, -1, -1, false, false⟩)) hl1 (by first | rfl | simp [turnL, noteL, backN_len]) hn H0
   have hc : talkL x g ⟨sd, (cj : Int), cv⟩ ca = { (noteL ({ x with M := backN x.name ys x.M }) ⟨12, g, -1, -1, -1, -1, false, false⟩) with pan := true } := by unfold talkL; rw [hR]; dsimp only; rw [if_pos (by assumption)]; rfl
   exact ⟨false, (noteL ({ x with M := backN x.name ys x.M }) ⟨12, g, -1, -1, -1, -1, false, false⟩), rfl, hc, H.pick [0] 3 (by decide)⟩
 ·skip
  refine Nw.as #[.bool false, .bool false, .bool false, .int .i64 0, .int .i64 0, .int .i64 0, .int .i64 0] 227 rfl H fun b10 w H => ?_
  refine ⟨.inr (H.pick [1, 2, 3, 4, 5, 6, 7, 8] 9 (by decide)), ?_⟩
  have h1 := H.pick [7, 5, 0, 1, 2, 3, 4, 6, 8] 9 (by decide)
  simp only [pk, nth, pkA, pkB, pkC, pkD, pkE, pkF] at h1
  have hT := p_try (x := x) (cb := pc1) hk (by omega) hl1 ⟨sd, (cj : Int), cv⟩ Reader.slc h1
  rw [hR] at hT
  dsimp only at hT
  refine Cl.sl (by kernel_rfl) hT fun w H => ?_
  replace H := H.pick [2, 3, 4, 5, 6, 1, 7, 0, 8] 9 (by decide)
  simp only [pk, nth, pkA, pkB, pkC, pkD, pkE, pkF] at H
  refine ⟨.inl rfl, ?_⟩
  refine H.st0 (cs' := #[.bool rd, .bool false, .bool false, .int .i64 0, .int .i64 0, .int .i64 0, .int .i64 0]) rfl rfl rfl fun w H => ?_
  refine H.st0 (cs' := #[.bool rd, .bool ok_, .bool false, .int .i64 0, .int .i64 0, .int .i64 0, .int .i64 0]) rfl rfl rfl fun w H => ?_
  refine H.st0 (cs' := #[.bool rd, .bool ok_, .bool wk, .int .i64 0, .int .i64 0, .int .i64 0, .int .i64 0]) rfl rfl rfl fun w H => ?_
  refine H.st0 (cs' := #[.bool rd, .bool ok_, .bool wk, .int .i64 gv, .int .i64 0, .int .i64 0, .int .i64 0]) rfl rfl rfl fun w H => ?_
  refine H.st0 (cs' := #[.bool rd, .bool ok_, .bool wk, .int .i64 gv, .int .i64 mg, .int .i64 0, .int .i64 0]) rfl rfl rfl fun w H => ?_
  refine H.st0 (cs' := #[.bool rd, .bool ok_, .bool wk, .int .i64 gv, .int .i64 mg, .int .i64 mc, .int .i64 0]) rfl rfl rfl fun w H => ?_
  refine H.st0 (cs' := #[.bool rd, .bool ok_, .bool wk, .int .i64 gv, .int .i64 mg, .int .i64 mc, .int .i64 mv]) rfl rfl rfl fun w H => ?_
  refine ⟨.inl rfl, ?_⟩
  refine ⟨?_⟩
  refine BB.vr fun q2 e2 => ?_
  cases q2
  ·skip
   have h2 := bne_eq_false_iff_eq.1 e2
   subst h2
   refine Cn.no ?_
   refine ⟨?_⟩
   refine H.ldi 0 rfl (v := .int .i64 gv) rfl ?_
   refine H.ldi 0 rfl (v := .bool ok_) rfl ?_
   refine BB.k ?_
   refine Mn.pure (.agg #[.int .i64 4, .int .i64 g, .int .i64 (numL x ↑cj), .int .i64 ca, .int .i64 gv, .int .i64 (-1), .bool false, .bool ok_]) (by kernel_rfl) ?_
   refine Nw.as #[.int .i64 0, .int .i64 0, .int .i64 0, .int .i64 0, .int .i64 0, .int .i64 0, .bool false, .bool false] 53 rfl H fun b12 w H => ?_
   refine H.st0 (cs' := #[.int .i64 4, .int .i64 0, .int .i64 0, .int .i64 0, .int .i64 0, .int .i64 0, .bool false, .bool false]) rfl rfl rfl fun w H => ?_
   refine H.st0 (cs' := #[.int .i64 4, .int .i64 g, .int .i64 0, .int .i64 0, .int .i64 0, .int .i64 0, .bool false, .bool false]) rfl rfl rfl fun w H => ?_
   refine H.st0 (cs' := #[.int .i64 4, .int .i64 g, .int .i64 (numL x ↑cj), .int .i64 0, .int .i64 0, .int .i64 0, .bool false, .bool false]) rfl rfl rfl fun w H => ?_
   refine H.st0 (cs' := #[.int .i64 4, .int .i64 g, .int .i64 (numL x ↑cj), .int .i64 ca, .int .i64 0, .int .i64 0, .bool false, .bool false]) rfl rfl rfl fun w H => ?_
   refine H.st0 (cs' := #[.int .i64 4, .int .i64 g, .int .i64 (numL x ↑cj), .int .i64 ca, .int .i64 gv, .int .i64 0, .bool false, .bool false]) rfl rfl rfl fun w H => ?_
   refine H.st0 (cs' := #[.int .i64 4, .int .i64 g, .int .i64 (numL x ↑cj), .int .i64 ca, .int .i64 gv, .int .i64 (-1), .bool false, .bool false]) rfl rfl rfl fun w H => ?_
   refine H.st0 (cs' := #[.int .i64 4, .int .i64 g, .int .i64 (numL x ↑cj), .int .i64 ca, .int .i64 gv, .int .i64 (-1), .bool false, .bool false]) rfl rfl rfl fun w H => ?_
   refine H.st0 (cs' := #[.int .i64 4, .int .i64 g, .int .i64 (numL x ↑cj), .int .i64 ca, .int .i64 gv, .int .i64 (-1), .bool false, .bool ok_]) rfl rfl rfl fun w H => ?_
   refine ⟨?_⟩
   refine H.ldi 2 rfl (v := .bool sd) rfl ?_
   refine BB.k ?_
   cases sd
   ·skip
    refine Cn.no ?_
    refine ⟨?_⟩
    refine H.ldi 1 rfl (v := .bool wk) rfl ?_
    refine BB.k ?_
    cases wk
    ·skip
     refine Cn.no ?_
     refine ⟨?_⟩
     refine H.ldi 0 rfl (v := .int .i64 4) rfl ?_
     refine H.ldi 0 rfl (v := .int .i64 g) rfl ?_
     refine H.ldi 0 rfl (v := .int .i64 (numL x ↑cj)) rfl ?_
     refine H.ldi 0 rfl (v := .int .i64 ca) rfl ?_
     refine H.ldi 0 rfl (v := .int .i64 gv) rfl ?_
     refine H.ldi 0 rfl (v := .int .i64 (-1)) rfl ?_
     refine H.ldi 0 rfl (v := .bool false) rfl ?_
     refine H.ldi 0 rfl (v := .bool ok_) rfl ?_
     have h1 := H.pick [3, 9, 0, 1, 2, 4, 5, 6, 7, 8] 10 (by decide)
     simp only [pk, nth, pkA, pkB, pkC, pkD, pkE, pkF] at h1
     refine Cl.by (by kernel_rfl) (p_noteO (Nat.le_trans (hT1).tr (by omega)) ⟨4, g, (numL x ↑cj), ca, gv, -1, false, ok_⟩ h1) ?_
     rintro _ w ⟨tn6, tk6, rfl, H⟩
     refine ⟨_, rfl, ?_⟩
     replace H := H.pick [2, 3, 4, 0, 5, 6, 7, 8, 9, 1] 10 (by decide)
     simp only [pk, nth, pkA, pkB, pkC, pkD, pkE, pkF] at H
     refine ⟨?_⟩
     refine H.ldi 3 rfl (v := .pointer (some ⟨crb1, 0, none⟩)) rfl ?_
     have h1 := H.pick [5, 0, 1, 2, 3, 4, 6, 7, 8, 9] 10 (by decide)
     simp only [pk, nth, pkA, pkB, pkC, pkD, pkE, pkF] at h1
     refine Cl.sl (by kernel_rfl) (p_go (L := (noteL ({ x with M := backN x.name ys x.M }) ⟨4, g, (numL x ↑cj), ca, gv, -1, false, ok_⟩).crew) (Small.more ((hT1.note ⟨4, g, (numL x ↑cj), ca, gv, -1, false, ok_⟩)).sm (by omega)) g h1) fun w H => ?_
     replace H := H.pick [1, 2, 3, 4, 5, 0, 6, 7, 8, 9] 10 (by decide)
     simp only [pk, nth, pkA, pkB, pkC, pkD, pkE, pkF] at H
     refine ⟨?_⟩
     refine H.ldi 1 rfl (v := .bool false) rfl ?_
     refine BB.no rfl ?_
     refine Cn.no ?_
     refine ⟨?_⟩
     refine ret1 (fn := Tryz.f108) (.bool true) rfl (by rfl) ?_
     have H0 := H.pick [3, 4, 5, 6, 7, 8, 9, 0, 1, 2] 10 (by decide)
     simp only [pk, nth, pkA, pkB, pkC, pkD, pkE, pkF] at H0
     replace H := lm_shut (x := (turnL (noteL ({ x with M := backN x.name ys x.M }) ⟨4, g, (numL x ↑cj), ca, gv, -1, false, ok_⟩) g 0 0)) hl1 (by first | rfl | simp [turnL, noteL, backN_len]) hn H0
     have hc : talkL x g ⟨false, (cj : Int), cv⟩ ca = (turnL (noteL ({ x with M := backN x.name ys x.M }) ⟨4, g, (numL x ↑cj), ca, gv, -1, false, ok_⟩) g 0 0) := by unfold talkL; rw [hR]; dsimp only; rw [if_neg (by decide)]; rfl
     exact ⟨true, (turnL (noteL ({ x with M := backN x.name ys x.M }) ⟨4, g, (numL x ↑cj), ca, gv, -1, false, ok_⟩) g 0 0), rfl, hc, H.pick [0] 4 (by decide)⟩
    ·skip
     refine Cn.yes ?_
     refine ⟨?_⟩
     refine H.ldi 1 rfl (v := .int .i64 mg) rfl ?_
     refine H.st0 (cs' := #[.int .i64 4, .int .i64 g, .int .i64 (numL x ↑cj), .int .i64 ca, .int .i64 gv, .int .i64 mg, .bool false, .bool ok_]) rfl rfl rfl fun w H => ?_
     refine ⟨?_⟩
     refine H.ldi 0 rfl (v := .int .i64 4) rfl ?_
     refine H.ldi 0 rfl (v := .int .i64 g) rfl ?_
     refine H.ldi 0 rfl (v := .int .i64 (numL x ↑cj)) rfl ?_
     refine H.ldi 0 rfl (v := .int .i64 ca) rfl ?_
     refine H.ldi 0 rfl (v := .int .i64 gv) rfl ?_
     refine H.ldi 0 rfl (v := .int .i64 mg) rfl ?_
     refine H.ldi 0 rfl (v := .bool false) rfl ?_
     refine H.ldi 0 rfl (v := .bool ok_) rfl ?_
     have h1 := H.pick [3, 9, 0, 1, 2, 4, 5, 6, 7, 8] 10 (by decide)
     simp only [pk, nth, pkA, pkB, pkC, pkD, pkE, pkF] at h1
     refine Cl.by (by kernel_rfl) (p_noteO (Nat.le_trans (hT1).tr (by omega)) ⟨4, g, (numL x ↑cj), ca, gv, mg, false, ok_⟩ h1) ?_
     rintro _ w ⟨tn7, tk7, rfl, H⟩
     refine ⟨_, rfl, ?_⟩
     replace H := H.pick [2, 3, 4, 0, 5, 6, 7, 8, 9, 1] 10 (by decide)
     simp only [pk, nth, pkA, pkB, pkC, pkD, pkE, pkF] at H
     refine ⟨?_⟩
     refine H.ldi 3 rfl (v := .pointer (some ⟨crb1, 0, none⟩)) rfl ?_
     have h1 := H.pick [5, 0, 1, 2, 3, 4, 6, 7, 8, 9] 10 (by decide)
     simp only [pk, nth, pkA, pkB, pkC, pkD, pkE, pkF] at h1
     refine Cl.sl (by kernel_rfl) (p_go (L := (noteL ({ x with M := backN x.name ys x.M }) ⟨4, g, (numL x ↑cj), ca, gv, mg, false, ok_⟩).crew) (Small.more ((hT1.note ⟨4, g, (numL x ↑cj), ca, gv, mg, false, ok_⟩)).sm (by omega)) g h1) fun w H => ?_
     replace H := H.pick [1, 2, 3, 4, 5, 0, 6, 7, 8, 9] 10 (by decide)
     simp only [pk, nth, pkA, pkB, pkC, pkD, pkE, pkF] at H
     refine ⟨?_⟩
     refine H.ldi 1 rfl (v := .bool true) rfl ?_
     refine BB.yes rfl ?_
     refine Cn.yes ?_
     refine ⟨?_⟩
     refine H.ldi 1 rfl (v := .int .i64 mg) rfl ?_
     refine H.ldi 1 rfl (v := .int .i64 mc) rfl ?_
     refine H.ldi 1 rfl (v := .int .i64 mv) rfl ?_
     refine H.ldi 2 rfl (v := .bool false) rfl ?_
     refine BB.no rfl ?_
     refine BB.yes rfl ?_
     refine Mn.pure (.agg #[.int .i64 0, .int .i64 mg, .int .i64 (numL x ↑cj), .int .i64 mc, .int .i64 mv, .int .i64 g, .bool true, .bool true]) (by kernel_rfl) ?_
     refine Nw.as #[.int .i64 0, .int .i64 0, .int .i64 0, .int .i64 0, .int .i64 0, .int .i64 0, .bool false, .bool false] 53 rfl H fun b13 w H => ?_
     refine H.st0 (cs' := #[.int .i64 0, .int .i64 0, .int .i64 0, .int .i64 0, .int .i64 0, .int .i64 0, .bool false, .bool false]) rfl rfl rfl fun w H => ?_
     refine H.st0 (cs' := #[.int .i64 0, .int .i64 mg, .int .i64 0, .int .i64 0, .int .i64 0, .int .i64 0, .bool false, .bool false]) rfl rfl rfl fun w H => ?_
     refine H.st0 (cs' := #[.int .i64 0, .int .i64 mg, .int .i64 (numL x ↑cj), .int .i64 0, .int .i64 0, .int .i64 0, .bool false, .bool false]) rfl rfl rfl fun w H => ?_
     refine H.st0 (cs' := #[.int .i64 0, .int .i64 mg, .int .i64 (numL x ↑cj), .int .i64 mc, .int .i64 0, .int .i64 0, .bool false, .bool false]) rfl rfl rfl fun w H => ?_
     refine H.st0 (cs' := #[.int .i64 0, .int .i64 mg, .int .i64 (numL x ↑cj), .int .i64 mc, .int .i64 mv, .int .i64 0, .bool false, .bool false]) rfl rfl rfl fun w H => ?_
     refine H.st0 (cs' := #[.int .i64 0, .int .i64 mg, .int .i64 (numL x ↑cj), .int .i64 mc, .int .i64 mv, .int .i64 g, .bool false, .bool false]) rfl rfl rfl fun w H => ?_
     refine H.st0 (cs' := #[.int .i64 0, .int .i64 mg, .int .i64 (numL x ↑cj), .int .i64 mc, .int .i64 mv, .int .i64 g, .bool true, .bool false]) rfl rfl rfl fun w H => ?_
     refine H.st0 (cs' := #[.int .i64 0, .int .i64 mg, .int .i64 (numL x ↑cj), .int .i64 mc, .int .i64 mv, .int .i64 g, .bool true, .bool true]) rfl rfl rfl fun w H => ?_
     refine ⟨?_⟩
     refine H.ldi 3 rfl (v := .bool false) rfl ?_
     refine BB.no rfl ?_
     refine Cn.no ?_
     refine ⟨?_⟩
     refine H.ldi 0 rfl (v := .int .i64 0) rfl ?_
     refine H.ldi 0 rfl (v := .int .i64 mg) rfl ?_
     refine H.ldi 0 rfl (v := .int .i64 (numL x ↑cj)) rfl ?_
     refine H.ldi 0 rfl (v := .int .i64 mc) rfl ?_
     refine H.ldi 0 rfl (v := .int .i64 mv) rfl ?_
     refine H.ldi 0 rfl (v := .int .i64 g) rfl ?_
     refine H.ldi 0 rfl (v := .bool true) rfl ?_
     refine H.ldi 0 rfl (v := .bool true) rfl ?_
     have H0 := H.pick [4, 5, 6, 7, 8, 9, 10, 0, 1, 2, 3] 11 (by decide)
     simp only [pk, nth, pkA, pkB, pkC, pkD, pkE, pkF] at H0
     replace H := lm_shut (x := (turnL (noteL ({ x with M := backN x.name ys x.M }) ⟨4, g, (numL x ↑cj), ca, gv, mg, false, ok_⟩) g 0 0)) hl1 (by first | rfl | simp [turnL, noteL, backN_len]) hn H0
     have h1 := H
     refine Cl.sl (by kernel_rfl) (p_wakeL (x := (turnL (noteL ({ x with M := backN x.name ys x.M }) ⟨4, g, (numL x ↑cj), ca, gv, mg, false, ok_⟩) g 0 0)) hn (((hT1.note ⟨4, g, (numL x ↑cj), ca, gv, mg, false, ok_⟩).turn g 0 0)) (by omega) 0 ⟨7, mg, (numL x ↑cj), mc, mv, g, true, true⟩ h1) fun w H => ?_
     have hob := lm_open (x := (wakeL (turnL (noteL ({ x with M := backN x.name ys x.M }) ⟨4, g, (numL x ↑cj), ca, gv, mg, false, ok_⟩) g 0 0) ⟨7, mg, (numL x ↑cj), mc, mv, g, true, true⟩)) hn H
     obtain ⟨cb4, crb4, pn4, pc4, ala4, alc4, ta4, tc4, ps4, hl4, H⟩ := hob
     refine ⟨?_⟩
     refine ret1 (fn := Tryz.f108) (.bool true) rfl (by rfl) ?_
     have H0 := H
     replace H := lm_shut (x := (wakeL (turnL (noteL ({ x with M := backN x.name ys x.M }) ⟨4, g, (numL x ↑cj), ca, gv, mg, false, ok_⟩) g 0 0) ⟨7, mg, (numL x ↑cj), mc, mv, g, true, true⟩)) hl4 (by first | rfl | simp [turnL, noteL, backN_len]) hn H0
     have hc : talkL x g ⟨false, (cj : Int), cv⟩ ca = (wakeL (turnL (noteL ({ x with M := backN x.name ys x.M }) ⟨4, g, (numL x ↑cj), ca, gv, mg, false, ok_⟩) g 0 0) ⟨7, mg, (numL x ↑cj), mc, mv, g, true, true⟩) := by unfold talkL; rw [hR]; dsimp only; rw [if_neg (by decide)]; rfl
     exact ⟨true, (wakeL (turnL (noteL ({ x with M := backN x.name ys x.M }) ⟨4, g, (numL x ↑cj), ca, gv, mg, false, ok_⟩) g 0 0) ⟨7, mg, (numL x ↑cj), mc, mv, g, true, true⟩), rfl, hc, H.pick [0] 5 (by decide)⟩
   ·skip
    refine Cn.yes ?_
    refine ⟨?_⟩
    refine Drw.oft (.calm 0 (.calm 1 (.calm 2 (.act 3 false (.pure 4 (.act 5 true (.pure 6 (.act 7 true .nil)))))))) (by kernel_rfl) mixed (fun w => SL w _) (H.drew.pick [1, 2, 3, 4, 5, 6, 7, 8, 9] 10 (by decide)) ?_
    replace H := H.drew
    refine LdC.i 1 rfl (v := .int .i64 cv) rfl ?_
    refine H.st0 (cs' := #[.int .i64 3, .int .i64 g, .int .i64 (numL x ↑cj), .int .i64 ca, .int .i64 gv, .int .i64 (-1), .bool false, .bool ok_]) rfl rfl rfl fun w H => ?_
    refine ⟨.inr (H.pick [1, 2, 3, 4, 5, 6, 7, 8, 9] 10 (by decide)), ?_⟩
    refine H.st0 (cs' := #[.int .i64 3, .int .i64 g, .int .i64 (numL x ↑cj), .int .i64 ca, .int .i64 cv, .int .i64 (-1), .bool false, .bool ok_]) rfl rfl rfl fun w H => ?_
    refine ⟨.inl rfl, ?_⟩
    refine H.st0 (cs' := #[.int .i64 3, .int .i64 g, .int .i64 (numL x ↑cj), .int .i64 ca, .int .i64 cv, .int .i64 (-1), .bool true, .bool ok_]) rfl rfl rfl fun w H => ?_
    refine ⟨.inl rfl, ?_⟩
    refine ⟨?_⟩
    refine H.ldi 1 rfl (v := .bool wk) rfl ?_
    refine BB.k ?_
    cases wk
    ·skip
     refine Cn.no ?_
     refine ⟨?_⟩
     refine H.ldi 0 rfl (v := .int .i64 3) rfl ?_
     refine H.ldi 0 rfl (v := .int .i64 g) rfl ?_
     refine H.ldi 0 rfl (v := .int .i64 (numL x ↑cj)) rfl ?_
     refine H.ldi 0 rfl (v := .int .i64 ca) rfl ?_
     refine H.ldi 0 rfl (v := .int .i64 cv) rfl ?_
     refine H.ldi 0 rfl (v := .int .i64 (-1)) rfl ?_
     refine H.ldi 0 rfl (v := .bool true) rfl ?_
     refine H.ldi 0 rfl (v := .bool ok_) rfl ?_
     have h1 := H.pick [3, 9, 0, 1, 2, 4, 5, 6, 7, 8] 10 (by decide)
     simp only [pk, nth, pkA, pkB, pkC, pkD, pkE, pkF] at h1
     refine Cl.by (by kernel_rfl) (p_noteO (Nat.le_trans (hT1).tr (by omega)) ⟨3, g, (numL x ↑cj), ca, cv, -1, true, ok_⟩ h1) ?_
     rintro _ w ⟨tn8, tk8, rfl, H⟩
     refine ⟨_, rfl, ?_⟩
     replace H := H.pick [2, 3, 4, 0, 5, 6, 7, 8, 9, 1] 10 (by decide)
     simp only [pk, nth, pkA, pkB, pkC, pkD, pkE, pkF] at H
     refine ⟨?_⟩
     refine H.ldi 3 rfl (v := .pointer (some ⟨crb1, 0, none⟩)) rfl ?_
     have h1 := H.pick [5, 0, 1, 2, 3, 4, 6, 7, 8, 9] 10 (by decide)
     simp only [pk, nth, pkA, pkB, pkC, pkD, pkE, pkF] at h1
     refine Cl.sl (by kernel_rfl) (p_go (L := (noteL ({ x with M := backN x.name ys x.M }) ⟨3, g, (numL x ↑cj), ca, cv, -1, true, ok_⟩).crew) (Small.more ((hT1.note ⟨3, g, (numL x ↑cj), ca, cv, -1, true, ok_⟩)).sm (by omega)) g h1) fun w H => ?_
     replace H := H.pick [1, 2, 3, 4, 5, 0, 6, 7, 8, 9] 10 (by decide)
     simp only [pk, nth, pkA, pkB, pkC, pkD, pkE, pkF] at H
     refine ⟨?_⟩
     refine H.ldi 1 rfl (v := .bool false) rfl ?_
     refine BB.no rfl ?_
     refine Cn.no ?_
     refine ⟨?_⟩
     refine ret1 (fn := Tryz.f108) (.bool true) rfl (by rfl) ?_
     have hob := hso rfl
     obtain rfl := hob
     have H0 := H.pick [3, 4, 5, 6, 7, 8, 9, 0, 1, 2] 10 (by decide)
     simp only [pk, nth, pkA, pkB, pkC, pkD, pkE, pkF] at H0
     replace H := lm_shut (x := (turnL (noteL ({ x with M := backN x.name ys x.M }) ⟨3, g, (numL x ↑cj), ca, cv, -1, true, false⟩) g 0 0)) hl1 (by first | rfl | simp [turnL, noteL, backN_len]) hn H0
     have hc : talkL x g ⟨true, (cj : Int), cv⟩ ca = (turnL (noteL ({ x with M := backN x.name ys x.M }) ⟨3, g, (numL x ↑cj), ca, cv, -1, true, false⟩) g 0 0) := by unfold talkL; rw [hR]; dsimp only; rw [if_neg (by decide)]; rfl
     exact ⟨true, (turnL (noteL ({ x with M := backN x.name ys x.M }) ⟨3, g, (numL x ↑cj), ca, cv, -1, true, false⟩) g 0 0), rfl, hc, H.pick [0] 4 (by decide)⟩
    ·skip
     refine Cn.yes ?_
     refine ⟨?_⟩
     refine H.ldi 1 rfl (v := .int .i64 mg) rfl ?_
     refine H.st0 (cs' := #[.int .i64 3, .int .i64 g, .int .i64 (numL x ↑cj), .int .i64 ca, .int .i64 cv, .int .i64 mg, .bool true, .bool ok_]) rfl rfl rfl fun w H => ?_
     refine ⟨?_⟩
     refine H.ldi 0 rfl (v := .int .i64 3) rfl ?_
     refine H.ldi 0 rfl (v := .int .i64 g) rfl ?_
     refine H.ldi 0 rfl (v := .int .i64 (numL x ↑cj)) rfl ?_
     refine H.ldi 0 rfl (v := .int .i64 ca) rfl ?_
     refine H.ldi 0 rfl (v := .int .i64 cv) rfl ?_
     refine H.ldi 0 rfl (v := .int .i64 mg) rfl ?_
     refine H.ldi 0 rfl (v := .bool true) rfl ?_
     refine H.ldi 0 rfl (v := .bool ok_) rfl ?_
     have h1 := H.pick [3, 9, 0, 1, 2, 4, 5, 6, 7, 8] 10 (by decide)
     simp only [pk, nth, pkA, pkB, pkC, pkD, pkE, pkF] at h1
     refine Cl.by (by kernel_rfl) (p_noteO (Nat.le_trans (hT1).tr (by omega)) ⟨3, g, (numL x ↑cj), ca, cv, mg, true, ok_⟩ h1) ?_
     rintro _ w ⟨tn9, tk9, rfl, H⟩
     refine ⟨_, rfl, ?_⟩
     replace H := H.pick [2, 3, 4, 0, 5, 6, 7, 8, 9, 1] 10 (by decide)
     simp only [pk, nth, pkA, pkB, pkC, pkD, pkE, pkF] at H
     refine ⟨?_⟩
     refine H.ldi 3 rfl (v := .pointer (some ⟨crb1, 0, none⟩)) rfl ?_
     have h1 := H.pick [5, 0, 1, 2, 3, 4, 6, 7, 8, 9] 10 (by decide)
     simp only [pk, nth, pkA, pkB, pkC, pkD, pkE, pkF] at h1
     refine Cl.sl (by kernel_rfl) (p_go (L := (noteL ({ x with M := backN x.name ys x.M }) ⟨3, g, (numL x ↑cj), ca, cv, mg, true, ok_⟩).crew) (Small.more ((hT1.note ⟨3, g, (numL x ↑cj), ca, cv, mg, true, ok_⟩)).sm (by omega)) g h1) fun w H => ?_
     replace H := H.pick [1, 2, 3, 4, 5, 0, 6, 7, 8, 9] 10 (by decide)
     simp only [pk, nth, pkA, pkB, pkC, pkD, pkE, pkF] at H
     refine ⟨?_⟩
     refine H.ldi 1 rfl (v := .bool true) rfl ?_
     refine BB.yes rfl ?_
     refine Cn.yes ?_
     refine ⟨?_⟩
     refine H.ldi 1 rfl (v := .int .i64 mg) rfl ?_
     refine H.ldi 1 rfl (v := .int .i64 mc) rfl ?_
     refine H.ldi 1 rfl (v := .int .i64 mv) rfl ?_
     refine H.ldi 2 rfl (v := .bool true) rfl ?_
     refine BB.yes rfl ?_
     refine BB.no rfl ?_
     refine Mn.pure (.agg #[.int .i64 0, .int .i64 mg, .int .i64 (numL x ↑cj), .int .i64 mc, .int .i64 mv, .int .i64 g, .bool false, .bool true]) (by kernel_rfl) ?_
     refine Nw.as #[.int .i64 0, .int .i64 0, .int .i64 0, .int .i64 0, .int .i64 0, .int .i64 0, .bool false, .bool false] 53 rfl H fun b13 w H => ?_
     refine H.st0 (cs' := #[.int .i64 0, .int .i64 0, .int .i64 0, .int .i64 0, .int .i64 0, .int .i64 0, .bool false, .bool false]) rfl rfl rfl fun w H => ?_
     refine H.st0 (cs' := #[.int .i64 0, .int .i64 mg, .int .i64 0, .int .i64 0, .int .i64 0, .int .i64 0, .bool false, .bool false]) rfl rfl rfl fun w H => ?_
     refine H.st0 (cs' := #[.int .i64 0, .int .i64 mg, .int .i64 (numL x ↑cj), .int .i64 0, .int .i64 0, .int .i64 0, .bool false, .bool false]) rfl rfl rfl fun w H => ?_
     refine H.st0 (cs' := #[.int .i64 0, .int .i64 mg, .int .i64 (numL x ↑cj), .int .i64 mc, .int .i64 0, .int .i64 0, .bool false, .bool false]) rfl rfl rfl fun w H => ?_
     refine H.st0 (cs' := #[.int .i64 0, .int .i64 mg, .int .i64 (numL x ↑cj), .int .i64 mc, .int .i64 mv, .int .i64 0, .bool false, .bool false]) rfl rfl rfl fun w H => ?_
     refine H.st0 (cs' := #[.int .i64 0, .int .i64 mg, .int .i64 (numL x ↑cj), .int .i64 mc, .int .i64 mv, .int .i64 g, .bool false, .bool false]) rfl rfl rfl fun w H => ?_
     refine H.st0 (cs' := #[.int .i64 0, .int .i64 mg, .int .i64 (numL x ↑cj), .int .i64 mc, .int .i64 mv, .int .i64 g, .bool false, .bool false]) rfl rfl rfl fun w H => ?_
     refine H.st0 (cs' := #[.int .i64 0, .int .i64 mg, .int .i64 (numL x ↑cj), .int .i64 mc, .int .i64 mv, .int .i64 g, .bool false, .bool true]) rfl rfl rfl fun w H => ?_
     refine ⟨?_⟩
     refine H.ldi 3 rfl (v := .bool true) rfl ?_
     refine BB.yes rfl ?_
     refine Cn.yes ?_
     refine ⟨?_⟩
     refine H.ldi 3 rfl (v := .int .i64 cv) rfl ?_
     refine H.st0 (cs' := #[.int .i64 0, .int .i64 mg, .int .i64 (numL x ↑cj), .int .i64 mc, .int .i64 cv, .int .i64 g, .bool false, .bool true]) rfl rfl rfl fun w H => ?_
     refine ⟨?_⟩
     refine H.ldi 0 rfl (v := .int .i64 0) rfl ?_
     refine H.ldi 0 rfl (v := .int .i64 mg) rfl ?_
     refine H.ldi 0 rfl (v := .int .i64 (numL x ↑cj)) rfl ?_
     refine H.ldi 0 rfl (v := .int .i64 mc) rfl ?_
     refine H.ldi 0 rfl (v := .int .i64 cv) rfl ?_
     refine H.ldi 0 rfl (v := .int .i64 g) rfl ?_
     refine H.ldi 0 rfl (v := .bool false) rfl ?_
     refine H.ldi 0 rfl (v := .bool true) rfl ?_
     have H0 := H.pick [4, 5, 6, 7, 8, 9, 10, 0, 1, 2, 3] 11 (by decide)
     simp only [pk, nth, pkA, pkB, pkC, pkD, pkE, pkF] at H0
     replace H := lm_shut (x := (turnL (noteL ({ x with M := backN x.name ys x.M }) ⟨3, g, (numL x ↑cj), ca, cv, mg, true, ok_⟩) g 0 0)) hl1 (by first | rfl | simp [turnL, noteL, backN_len]) hn H0
     have h1 := H
     refine Cl.sl (by kernel_rfl) (p_wakeL (x := (turnL (noteL ({ x with M := backN x.name ys x.M }) ⟨3, g, (numL x ↑cj), ca, cv, mg, true, ok_⟩) g 0 0)) hn (((hT1.note ⟨3, g, (numL x ↑cj), ca, cv, mg, true, ok_⟩).turn g 0 0)) (by omega) 0 ⟨7, mg, (numL x ↑cj), mc, cv, g, false, true⟩ h1) fun w H => ?_
     have hob := lm_open (x := (wakeL (turnL (noteL ({ x with M := backN x.name ys x.M }) ⟨3, g, (numL x ↑cj), ca, cv, mg, true, ok_⟩) g 0 0) ⟨7, mg, (numL x ↑cj), mc, cv, g, false, true⟩)) hn H
     obtain ⟨cb5, crb5, pn5, pc5, ala5, alc5, ta5, tc5, ps5, hl5, H⟩ := hob
     refine ⟨?_⟩
     refine ret1 (fn := Tryz.f108) (.bool true) rfl (by rfl) ?_
     have hob := hso rfl
     obtain rfl := hob
     have H0 := H
     replace H := lm_shut (x := (wakeL (turnL (noteL ({ x with M := backN x.name ys x.M }) ⟨3, g, (numL x ↑cj), ca, cv, mg, true, false⟩) g 0 0) ⟨7, mg, (numL x ↑cj), mc, cv, g, false, true⟩)) hl5 (by first | rfl | simp [turnL, noteL, backN_len]) hn H0
     have hc : talkL x g ⟨true, (cj : Int), cv⟩ ca = (wakeL (turnL (noteL ({ x with M := backN x.name ys x.M }) ⟨3, g, (numL x ↑cj), ca, cv, mg, true, false⟩) g 0 0) ⟨7, mg, (numL x ↑cj), mc, cv, g, false, true⟩) := by unfold talkL; rw [hR]; dsimp only; rw [if_neg (by decide)]; rfl
     exact ⟨true, (wakeL (turnL (noteL ({ x with M := backN x.name ys x.M }) ⟨3, g, (numL x ↑cj), ca, cv, mg, true, false⟩) g 0 0) ⟨7, mg, (numL x ↑cj), mc, cv, g, false, true⟩), rfl, hc, H.pick [0] 5 (by decide)⟩
  ·skip
   have h2 := bne_iff_ne.1 e2
   refine Cn.yes ?_
   refine ⟨?_⟩
   refine Cl.sl (by kernel_rfl) (p_bare H 12 g) fun w H => ?_
   have h1 := H.pick [2, 8, 0, 1, 3, 4, 5, 6, 7] 9 (by decide)
   simp only [pk, nth, pkA, pkB, pkC, pkD, pkE, pkF] at h1
   refine Cl.by (by kernel_rfl) (p_noteO (Nat.le_trans (hT1).tr (by omega)) ⟨12, g, -1, -1, -1, -1, false, false⟩ h1) ?_
   rintro _ w ⟨tn10, tk10, rfl, H⟩
   refine ⟨_, rfl, ?_⟩
   replace H := H.pick [2, 3, 0, 4, 5, 6, 7, 8, 1] 9 (by decide)
   simp only [pk, nth, pkA, pkB, pkC, pkD, pkE, pkF] at H
   refine ⟨?_⟩
   refine ret1 (fn := Tryz.f108) (.bool false) rfl (by rfl) ?_
   have H0 := H.pick [2, 3, 4, 5, 6, 7, 8, 0, 1] 9 (by decide)
   simp only [pk, nth, pkA, pkB, pkC, pkD, pkE, pkF] at H0
   replace H := lm_shut (x := (noteL ({ x with M := backN x.name ys x.M }) ⟨12, g, -1, -1, -1, -1, false, false⟩)) hl1 (by first | rfl | simp [turnL, noteL, backN_len]) hn H0
   have hc : talkL x g ⟨sd, (cj : Int), cv⟩ ca = { (noteL ({ x with M := backN x.name ys x.M }) ⟨12, g, -1, -1, -1, -1, false, false⟩) with pan := true } := by unfold talkL; rw [hR]; dsimp only; rw [if_pos (by assumption)]; rfl
   exact ⟨false, (noteL ({ x with M := backN x.name ys x.M }) ⟨12, g, -1, -1, -1, -1, false, false⟩), rfl, hc, H.pick [0] 3 (by decide)⟩
end Go.Proofs.YtchkaaeoffmjnaaGreatDoor
namespace Go.Proofs.YtchkaaeoffmjnaaGreatDoor
set_option linter.unusedVariables false
set_option linter.unusedSimpArgs false
open Go.RowKit
set_option maxRecDepth 100000
section
variable {np k : Nat} {x : LmM} {ps : List Nat} {w : World} {F : List Piece}
theorem closeN_nil {c : Option Nat} (hv : c = none) (H : SL w F) : Calls Tryz.prog 162 #[adr c] w fun e w' => e = .returned (.tuple #[.slice none 0 0, .slice none 0 0, .int .i64 6]) ∧ SL w' F := by
 subst hv
 exact close_nilN H
theorem p_closeS {i g : Nat} {c : Option Nat} (hk : Lk np k x) (hl : ps.length = x.M.length) (h3 : (ps.map some)[i]? = some (some g)) (hv : c = some g) (hc : (x.M.getD i (emptyM 0)).closed = true) (H : SL w (PsP (ps.map some) x.M :: F)) :
  Calls Tryz.prog 162 #[adr c] w fun e w' => ∃ a d b f, e = .returned (.tuple #[.slice a 0 d, .slice b 0 f, .int .i64 90]) ∧ SL w' (PsP (ps.map some) x.M :: F) := by
 subst hv
 have hC : closeF (x.M.getD i (emptyM 0)) = (([], [], 90), x.M.getD i (emptyM 0)) := by unfold closeF; rw [if_pos hc]
 have h := p_close hk hl h3 H
 rw [hC] at h
 refine h.mono ?_
 rintro e w' ⟨a, d, b, f, rfl, H⟩
 dsimp only at H
 rw [list_set_same] at H
 exact ⟨a, d, b, f, rfl, H.tl.tl⟩
theorem p_closeM {i g : Nat} {c : Option Nat} {R Sd : List Wtr} {y : PipeM} {ec : Int} (hk : Lk np k x) (hl : ps.length = x.M.length) (h3 : (ps.map some)[i]? = some (some g)) (hv : c = some g) (hC : closeF (x.M.getD i (emptyM 0)) = ((R, Sd, ec), y)) (H : SL w (PsP (ps.map some) x.M :: F)) :
  Calls Tryz.prog 162 #[adr c] w fun e w' => ∃ a d b f, e = .returned (.tuple #[.slice a R.length d, .slice b Sd.length f, .int .i64 ec]) ∧
   SL w' (RdP a R.length 3 (R.flatMap Wtr.cells) :: RdP b Sd.length 3 (Sd.flatMap Wtr.cells) :: PsP (ps.map some) (x.M.set i y) :: F) := by
 subst hv
 have h := p_close hk hl h3 H
 rw [hC] at h
 exact h
end
set_option maxHeartbeats 40000000 in
theorem p_shut {w : World} {F : List Piece} {np k lb : Nat} {sc : ScrM} {x : LmM} {t m : Int} {vp vl vd : Value} {n0 n1 n2 n3 n4 n5 n6 n7 : Int} (hn : x.name = [n0, n1, n2, n3, n4, n5, n6, n7]) (hk : Lk np k x) (hkb : k ≤ 997000) (g : Int) {cj : Nat} (hcj : cj < 8) (H : SL w (LmP lb sc ⟨t, m, vp, vl, vd⟩ x :: F)) :
  Calls Tryz.prog 110 #[.pointer (some ⟨lb, 0, none⟩), .int .i64 g, .int .i64 (cj : Int)] w fun o w' => ∃ b y0, o = .returned (.bool b) ∧ shutL x g (cj : Int) = (if b = true then y0 else { y0 with pan := true }) ∧ SL w' (LmP lb sc ⟨t, m, vp, vl, vd⟩ y0 :: F) := by
 have hob := lm_open (x := x) hn H
 obtain ⟨cb1, crb1, pn1, pc1, ala1, alc1, ta1, tc1, ps1, hl1, H⟩ := hob
 rcases num_or hk hl1 hcj with ⟨hz, hnm⟩ | ⟨i, pg, hni, hi, hg, hnm⟩
 ·skip
  refine calls_den (args := [_, _, _]) Tryz.func110 rfl (Nat.le_of_ble_eq_true (by kernel_rfl)) (by kernel_rfl) ?_
  refine ⟨?_⟩
  refine ⟨?_⟩
  refine H.ldi 0 rfl (v := .slice (some ⟨pn1, 0, none⟩) 8 pc1) rfl ?_
  refine Ix.at0 cj 1 (by kernel_rfl) (rfl) (hcj) ?_
  refine H.ldS 3 rfl (v := (adr (nm (gsN x.name ps1) (cj : Int)))) (by rw [Nat.mul_one]; exact pipe_cell hk hcj) ?_
  refine Cl.sl (by kernel_rfl) (closeN_nil hnm H) fun w H => ?_
  refine ⟨?_⟩
  refine BB.yes rfl ?_
  refine Cn.yes ?_
  refine ⟨?_⟩
  refine Cl.sl (by kernel_rfl) (p_bare H 12 g) fun w H => ?_
  have h1 := H.pick [0, 6, 1, 2, 3, 4, 5] 7 (by decide)
  simp only [pk, nth, pkA, pkB, pkC, pkD, pkE, pkF] at h1
  refine Cl.by (by kernel_rfl) (p_noteO (Nat.le_trans (hk).tr (by omega)) ⟨12, g, -1, -1, -1, -1, false, false⟩ h1) ?_
  rintro _ w ⟨tn1, tk1, rfl, H⟩
  refine ⟨_, rfl, ?_⟩
  replace H := H.pick [0, 2, 3, 4, 5, 6, 1] 7 (by decide)
  simp only [pk, nth, pkA, pkB, pkC, pkD, pkE, pkF] at H
  refine ⟨?_⟩
  refine ret1 (fn := Tryz.f110) (.bool false) rfl (by rfl) ?_
  have H0 := H
  replace H := lm_shut (x := (noteL x ⟨12, g, -1, -1, -1, -1, false, false⟩)) hl1 (by first | rfl | simp [turnL, noteL, backN_len]) hn H0
  have hc : shutL x g (cj : Int) = { (noteL x ⟨12, g, -1, -1, -1, -1, false, false⟩) with pan := true } := by rw [shut_nil hz]; rfl
  exact ⟨false, (noteL x ⟨12, g, -1, -1, -1, -1, false, false⟩), rfl, hc, H⟩
 ·cases hcl : (x.M.getD i (emptyM 0)).closed with
  | true =>
   refine calls_den (args := [_, _, _]) Tryz.func110 rfl (Nat.le_of_ble_eq_true (by kernel_rfl)) (by kernel_rfl) ?_
   refine ⟨?_⟩
   refine ⟨?_⟩
   refine H.ldi 0 rfl (v := .slice (some ⟨pn1, 0, none⟩) 8 pc1) rfl ?_
   refine Ix.at0 cj 1 (by kernel_rfl) (rfl) (hcj) ?_
   refine H.ldS 3 rfl (v := (adr (nm (gsN x.name ps1) (cj : Int)))) (by rw [Nat.mul_one]; exact pipe_cell hk hcj) ?_
   have h1 := H.pick [5, 0, 1, 2, 3, 4, 6] 7 (by decide)
   simp only [pk, nth, pkA, pkB, pkC, pkD, pkE, pkF] at h1
   refine Cl.by (by kernel_rfl) (p_closeS hk hl1 hg hnm hcl h1) ?_
   rintro _ w ⟨ra, rac, rb, rbc, rfl, H⟩
   refine ⟨_, rfl, ?_⟩
   replace H := H.pick [1, 2, 3, 4, 5, 0, 6] 7 (by decide)
   simp only [pk, nth, pkA, pkB, pkC, pkD, pkE, pkF] at H
   refine ⟨?_⟩
   refine BB.yes rfl ?_
   refine Cn.yes ?_
   refine ⟨?_⟩
   refine Cl.sl (by kernel_rfl) (p_bare H 12 g) fun w H => ?_
   have h1 := H.pick [0, 6, 1, 2, 3, 4, 5] 7 (by decide)
   simp only [pk, nth, pkA, pkB, pkC, pkD, pkE, pkF] at h1
   refine Cl.by (by kernel_rfl) (p_noteO (Nat.le_trans (hk).tr (by omega)) ⟨12, g, -1, -1, -1, -1, false, false⟩ h1) ?_
   rintro _ w ⟨tn1, tk1, rfl, H⟩
   refine ⟨_, rfl, ?_⟩
   replace H := H.pick [0, 2, 3, 4, 5, 6, 1] 7 (by decide)
   simp only [pk, nth, pkA, pkB, pkC, pkD, pkE, pkF] at H
   refine ⟨?_⟩
   refine ret1 (fn := Tryz.f110) (.bool false) rfl (by rfl) ?_
   have H0 := H
   replace H := lm_shut (x := (noteL x ⟨12, g, -1, -1, -1, -1, false, false⟩)) hl1 (by first | rfl | simp [turnL, noteL, backN_len]) hn H0
   have hc : shutL x g (cj : Int) = { (noteL x ⟨12, g, -1, -1, -1, -1, false, false⟩) with pan := true } := by rw [shut_shut hni hcl]; rfl
   exact ⟨false, (noteL x ⟨12, g, -1, -1, -1, -1, false, false⟩), rfl, hc, H⟩
  | false =>
   obtain ⟨hinR, hinS, hlR, hlS⟩ := close_in hk hi
   have hkC := hk.closed hi
   have hec : (closeF (x.M.getD i (emptyM 0))).1.2.2 = 0 := by unfold closeF; rw [hcl]; rfl
   obtain ⟨⟨⟨R, Sd, ec⟩, y⟩, hC⟩ : ∃ r, closeF (x.M.getD i (emptyM 0)) = r := ⟨_, rfl⟩
   rw [hC] at hinR hinS hlR hlS hkC hec
   dsimp only at hinR hinS hlR hlS hkC hec
   subst hec
   refine calls_den (args := [_, _, _]) Tryz.func110 rfl (Nat.le_of_ble_eq_true (by kernel_rfl)) (by kernel_rfl) ?_
   refine ⟨?_⟩
   refine ⟨?_⟩
   refine H.ldi 0 rfl (v := .slice (some ⟨pn1, 0, none⟩) 8 pc1) rfl ?_
   refine Ix.at0 cj 1 (by kernel_rfl) (rfl) (hcj) ?_
   refine H.ldS 3 rfl (v := (adr (nm (gsN x.name ps1) (cj : Int)))) (by rw [Nat.mul_one]; exact pipe_cell hk hcj) ?_
   have h1 := H.pick [5, 0, 1, 2, 3, 4, 6] 7 (by decide)
   simp only [pk, nth, pkA, pkB, pkC, pkD, pkE, pkF] at h1
   refine Cl.by (by kernel_rfl) (p_closeM hk hl1 hg hnm hC h1) ?_
   rintro _ w ⟨ra, rac, rb, rbc, rfl, H⟩
   refine ⟨_, rfl, ?_⟩
   refine ⟨?_⟩
   refine BB.no rfl ?_
   refine Cn.no ?_
   refine ⟨?_⟩
   refine Cl.sl (by kernel_rfl) (p_bare H 5 g) fun w H => ?_
   refine Nw.as #[.int .i64 0, .int .i64 0, .int .i64 0, .int .i64 0, .int .i64 0, .int .i64 0, .bool false, .bool false] 53 rfl H fun b10 w H => ?_
   refine H.st0 (cs' := #[.int .i64 5, .int .i64 0, .int .i64 0, .int .i64 0, .int .i64 0, .int .i64 0, .bool false, .bool false]) rfl rfl rfl fun w H => ?_
   refine H.st0 (cs' := #[.int .i64 5, .int .i64 g, .int .i64 0, .int .i64 0, .int .i64 0, .int .i64 0, .bool false, .bool false]) rfl rfl rfl fun w H => ?_
   refine H.st0 (cs' := #[.int .i64 5, .int .i64 g, .int .i64 (-1), .int .i64 0, .int .i64 0, .int .i64 0, .bool false, .bool false]) rfl rfl rfl fun w H => ?_
   refine H.st0 (cs' := #[.int .i64 5, .int .i64 g, .int .i64 (-1), .int .i64 (-1), .int .i64 0, .int .i64 0, .bool false, .bool false]) rfl rfl rfl fun w H => ?_
   refine H.st0 (cs' := #[.int .i64 5, .int .i64 g, .int .i64 (-1), .int .i64 (-1), .int .i64 (-1), .int .i64 0, .bool false, .bool false]) rfl rfl rfl fun w H => ?_
   refine H.st0 (cs' := #[.int .i64 5, .int .i64 g, .int .i64 (-1), .int .i64 (-1), .int .i64 (-1), .int .i64 (-1), .bool false, .bool false]) rfl rfl rfl fun w H => ?_
   refine H.st0 (cs' := #[.int .i64 5, .int .i64 g, .int .i64 (-1), .int .i64 (-1), .int .i64 (-1), .int .i64 (-1), .bool false, .bool false]) rfl rfl rfl fun w H => ?_
   refine H.st0 (cs' := #[.int .i64 5, .int .i64 g, .int .i64 (-1), .int .i64 (-1), .int .i64 (-1), .int .i64 (-1), .bool false, .bool false]) rfl rfl rfl fun w H => ?_
   refine ⟨?_⟩
   refine Ix.at cj 1 (by kernel_rfl) rfl hcj ?_
   refine H.ldi 4 rfl (v := .int .i64 (numL x ↑cj)) (name_cell9 (x := x) hn cj hcj) ?_
   refine H.st0 (cs' := #[.int .i64 5, .int .i64 g, .int .i64 (numL x ↑cj), .int .i64 (-1), .int .i64 (-1), .int .i64 (-1), .bool false, .bool false]) rfl rfl rfl fun w H => ?_
   refine ⟨?_⟩
   refine H.ldi 0 rfl (v := .int .i64 5) rfl ?_
   refine H.ldi 0 rfl (v := .int .i64 g) rfl ?_
   refine H.ldi 0 rfl (v := .int .i64 (numL x ↑cj)) rfl ?_
   refine H.ldi 0 rfl (v := .int .i64 (-1)) rfl ?_
   refine H.ldi 0 rfl (v := .int .i64 (-1)) rfl ?_
   refine H.ldi 0 rfl (v := .int .i64 (-1)) rfl ?_
   refine H.ldi 0 rfl (v := .bool false) rfl ?_
   refine H.ldi 0 rfl (v := .bool false) rfl ?_
   have h1 := H.pick [4, 9, 0, 1, 2, 3, 5, 6, 7, 8] 10 (by decide)
   simp only [pk, nth, pkA, pkB, pkC, pkD, pkE, pkF] at h1
   refine Cl.by (by kernel_rfl) (p_noteO (Nat.le_trans (hkC).tr (by omega)) ⟨5, g, (numL x ↑cj), -1, -1, -1, false, false⟩ h1) ?_
   rintro _ w ⟨tn1, tk1, rfl, H⟩
   refine ⟨_, rfl, ?_⟩
   replace H := H.pick [2, 3, 4, 5, 0, 6, 7, 8, 9, 1] 10 (by decide)
   simp only [pk, nth, pkA, pkB, pkC, pkD, pkE, pkF] at H
   refine ⟨?_⟩
   refine H.ldi 4 rfl (v := .pointer (some ⟨crb1, 0, none⟩)) rfl ?_
   have h1 := H.pick [6, 0, 1, 2, 3, 4, 5, 7, 8, 9] 10 (by decide)
   simp only [pk, nth, pkA, pkB, pkC, pkD, pkE, pkF] at h1
   refine Cl.sl (by kernel_rfl) (p_go (L := (noteL ({ x with M := x.M.set i y }) ⟨5, g, (numL x ↑cj), -1, -1, -1, false, false⟩).crew) (Small.more ((hkC.note ⟨5, g, (numL x ↑cj), -1, -1, -1, false, false⟩)).sm (by omega)) g h1) fun w H => ?_
   replace H := H.pick [1, 2, 3, 4, 5, 6, 0, 7, 8, 9] 10 (by decide)
   simp only [pk, nth, pkA, pkB, pkC, pkD, pkE, pkF] at H
   refine ⟨?_⟩
   refine ⟨?_⟩
   have H0 := H.pick [4, 5, 6, 7, 8, 3, 9, 0, 1, 2] 10 (by decide)
   simp only [pk, nth, pkA, pkB, pkC, pkD, pkE, pkF] at H0
   replace H := lm_shut (x := (turnL (noteL ({ x with M := x.M.set i y }) ⟨5, g, (numL x ↑cj), -1, -1, -1, false, false⟩) g 0 0)) hl1 (by first | rfl | simp [turnL, noteL, backN_len]) hn H0
   have hob : ∃ z, z = (turnL (noteL ({ x with M := x.M.set i y }) ⟨5, g, (numL x ↑cj), -1, -1, -1, false, false⟩) g 0 0) := ⟨_, rfl⟩
   obtain ⟨x2, hx2⟩ := hob
   rw [← hx2] at H
   have hn2 : x2.name = [n0, n1, n2, n3, n4, n5, n6, n7] := by rw [hx2]; exact hn
   have hk2 : Lk np (k + 2) x2 := by rw [hx2]; exact ((hkC.note ⟨5, g, (numL x ↑cj), -1, -1, -1, false, false⟩).turn g 0 0)
   have hc2 : x2.crew.length = x.crew.length := by rw [hx2]; exact turn_len _ _ _ _ _
   refine den.loop (ι := Nat) [(12, 14), (57, 83)] (by kernel_rfl) (fun j => [(57, .int .i64 ↑j)]) (fun j w => (j ≤ R.length) ∧ SL w (LmP lb sc ⟨t, m, vp, vl, vd⟩ (wakesL x2 g (numL x ↑cj) (R.take j)) :: RdP ra R.length 3 (R.flatMap Wtr.cells) :: RdP rb Sd.length 3 (Sd.flatMap Wtr.cells) :: row b10 #[.int .i64 5, .int .i64 g, .int .i64 (numL x ↑cj), .int .i64 (-1), .int .i64 (-1), .int .i64 (-1), .bool false, .bool false] 53 :: F)) (fun j => R.length - j) 0 ⟨rfl, trivial⟩ ⟨Nat.zero_le _, (H.pick [0, 2, 3, 1] 4 (by decide))⟩ ?_
   rintro j s w ⟨hc, H⟩
   have hob := Nat.lt_or_ge j R.length
   rcases hob with hj | hj
   ·skip
    have hkj : Lk np (k + 1100) (wakesL x2 g (numL x ↑cj) (R.take j)) := (hk2.wakes _ _ _).more (by rw [List.length_take]; omega)
    have hob : ∃ z, R[j]? = some z := ⟨_, List.getElem?_eq_getElem hj⟩
    obtain ⟨wz, hw⟩ := hob
    have hstep := wakes_step (x := x2) (g := g) (ch := numL x ↑cj) hw
    have hob := H.addrR 1 rfl Reader.rdp (by omega)
    obtain ⟨rab, rao, rfl⟩ := hob
    have hob := lm_open (x := (wakesL x2 g (numL x ↑cj) (R.take j))) ((wakes_name x2 g (numL x ↑cj) (R.take j)).trans hn2) H
    obtain ⟨cb2, crb2, pn2, pc2, ala2, alc2, ta2, tc2, ps2, hl2, H⟩ := hob
    refine ⟨?_⟩
    refine BB.yes (decide_eq_true (by omega)) ?_
    refine Cn.yes ?_
    refine ⟨?_⟩
    refine ⟨?_⟩
    refine Ix.at j 3 (by kernel_rfl) (rfl) (hj) ?_
    refine H.ldR 7 rfl Reader.rdp (by omega) (q := j * 3 + 0) rfl (v := .int .i64 wz.g) ((wtr_cell hw 0 (by decide)).trans rfl) ?_
    refine H.ldR 7 rfl Reader.rdp (by omega) (q := j * 3 + 1) rfl (v := .int .i64 wz.case_) ((wtr_cell hw 1 (by decide)).trans rfl) ?_
    refine H.ldR 7 rfl Reader.rdp (by omega) (q := j * 3 + 2) rfl (v := .int .i64 wz.value) ((wtr_cell hw 2 (by decide)).trans rfl) ?_
    refine Nw.as #[.int .i64 0, .int .i64 0, .int .i64 0] 225 rfl H fun b12 w H => ?_
    refine H.st0 (cs' := #[.int .i64 wz.g, .int .i64 0, .int .i64 0]) rfl rfl rfl fun w H => ?_
    refine H.st0 (cs' := #[.int .i64 wz.g, .int .i64 wz.case_, .int .i64 0]) rfl rfl rfl fun w H => ?_
    refine H.st0 (cs' := #[.int .i64 wz.g, .int .i64 wz.case_, .int .i64 wz.value]) rfl rfl rfl fun w H => ?_
    refine ⟨?_⟩
    refine Drw.oft (.calm 0 (.calm 1 (.calm 2 (.calm 3 (.calm 4 (.calm 5 (.act 6 true (.pure 7 (.pure 8 (.pure 9 (.pure 10 (.pure 11 .nil)))))))))))) (by kernel_rfl) mixed (fun w => SL w _) H.drew ?_
    replace H := H.drew
    refine LdC.i 1 rfl (v := .pointer (some ⟨crb2, 0, none⟩)) rfl ?_
    refine LdC.i 0 rfl (v := .int .i64 wz.g) rfl ?_
    have h1 := H.pick [3, 0, 1, 2, 4, 5, 6, 7, 8, 9, 10] 11 (by decide)
    simp only [pk, nth, pkA, pkB, pkC, pkD, pkE, pkF] at h1
    refine Cl.sl (by kernel_rfl) (p_state (L := (wakesL x2 g (numL x ↑cj) (R.take j)).crew) wz.g h1) fun w H => ?_
    replace H := H.pick [1, 2, 3, 0, 4, 5, 6, 7, 8, 9, 10] 11 (by decide)
    simp only [pk, nth, pkA, pkB, pkC, pkD, pkE, pkF] at H
    refine ⟨.inl rfl, ?_⟩
    refine ⟨?_⟩
    refine BB.vr fun q1 e1 => ?_
    cases q1
    ·skip
     have h1 := beq_eq_false_iff_ne.1 e1
     refine Cn.no ?_
     refine ⟨?_⟩
     refine IW.by (wrap_id (n := ↑j + 1) (by omega) (by omega)) ?_
     have H0 := H.pick [1, 2, 3, 4, 5, 6, 7, 0, 8, 9, 10] 11 (by decide)
     simp only [pk, nth, pkA, pkB, pkC, pkD, pkE, pkF] at H0
     replace H := lm_shut (x := (wakesL x2 g (numL x ↑cj) (R.take j))) hl2 (by first | rfl | simp [turnL, noteL, backN_len]) ((wakes_name x2 g (numL x ↑cj) (R.take j)).trans hn2) H0
     rw [if_neg (by first | exact rfl | assumption)] at hstep
     rw [← hstep] at H
     exact ⟨j + 1, ⟨rfl, trivial⟩, ⟨(by omega : j + 1 ≤ R.length), H.pick [0, 2, 3, 4] 5 (by decide)⟩, (show R.length - (j + 1) < R.length - j by omega)⟩
    ·skip
     have h1 := eq_of_beq e1
     refine Cn.yes ?_
     refine ⟨?_⟩
     refine H.ldi 0 rfl (v := .int .i64 wz.g) rfl ?_
     refine H.ldi 10 rfl (v := .int .i64 (numL x ↑cj)) rfl ?_
     refine H.ldi 0 rfl (v := .int .i64 wz.case_) rfl ?_
     refine Mn.pure (.agg #[.int .i64 0, .int .i64 wz.g, .int .i64 (numL x ↑cj), .int .i64 wz.case_, .int .i64 0, .int .i64 g, .bool false, .bool false]) (by kernel_rfl) ?_
     have H0 := H.pick [1, 2, 3, 4, 5, 6, 7, 0, 8, 9, 10] 11 (by decide)
     simp only [pk, nth, pkA, pkB, pkC, pkD, pkE, pkF] at H0
     replace H := lm_shut (x := (wakesL x2 g (numL x ↑cj) (R.take j))) hl2 (by first | rfl | simp [turnL, noteL, backN_len]) ((wakes_name x2 g (numL x ↑cj) (R.take j)).trans hn2) H0
     have h1 := H
     refine Cl.sl (by kernel_rfl) (p_wakeL (x := (wakesL x2 g (numL x ↑cj) (R.take j))) ((wakes_name x2 g (numL x ↑cj) (R.take j)).trans hn2) (hkj) (by omega) 0 ⟨7, wz.g, (numL x ↑cj), wz.case_, 0, g, false, false⟩ h1) fun w H => ?_
     have hob := lm_open (x := (wakeL (wakesL x2 g (numL x ↑cj) (R.take j)) ⟨7, wz.g, (numL x ↑cj), wz.case_, 0, g, false, false⟩)) ((wakes_name x2 g (numL x ↑cj) (R.take j)).trans hn2) H
     obtain ⟨cb3, crb3, pn3, pc3, ala3, alc3, ta3, tc3, ps3, hl3, H⟩ := hob
     refine ⟨?_⟩
     refine IW.by (wrap_id (n := ↑j + 1) (by omega) (by omega)) ?_
     have H0 := H
     replace H := lm_shut (x := (wakeL (wakesL x2 g (numL x ↑cj) (R.take j)) ⟨7, wz.g, (numL x ↑cj), wz.case_, 0, g, false, false⟩)) hl3 (by first | rfl | simp [turnL, noteL, backN_len]) ((wakes_name x2 g (numL x ↑cj) (R.take j)).trans hn2) H0
     rw [if_pos (by first | exact rfl | assumption)] at hstep
     rw [← hstep] at H
     exact ⟨j + 1, ⟨rfl, trivial⟩, ⟨(by omega : j + 1 ≤ R.length), H.pick [0, 2, 3, 4] 5 (by decide)⟩, (show R.length - (j + 1) < R.length - j by omega)⟩
   ·skip
    have hob : j = R.length := by omega
    obtain rfl := hob
    rw [List.take_length] at H
    have hkw : Lk np (k + 1100) (wakesL x2 g (numL x ↑cj) R) := (hk2.wakes _ _ _).more (by omega)
    refine ⟨?_⟩
    refine BB.no (decide_eq_false (by omega)) ?_
    refine Cn.no ?_
    refine ⟨?_⟩
    refine ⟨?_⟩
    refine den.loop (ι := Nat) [(6, 6), (16, 18), (86, 107)] (by kernel_rfl) (fun j => [(86, .int .i64 ↑j)]) (fun j w => (j ≤ Sd.length ∧ sendersL (wakesL x2 g (numL x ↑cj) R) Sd = sendersL (wakesL x2 g (numL x ↑cj) R) (Sd.drop j)) ∧ SL w (LmP lb sc ⟨t, m, vp, vl, vd⟩ (wakesL x2 g (numL x ↑cj) R) :: RdP rb Sd.length 3 (Sd.flatMap Wtr.cells) :: F)) (fun j => Sd.length - j) 0 ⟨rfl, trivial⟩ ⟨⟨Nat.zero_le _, rfl⟩, (H.pick [0, 2] 4 (by decide))⟩ ?_
    rintro j s w ⟨hc, H⟩
    have hob := Nat.lt_or_ge j Sd.length
    rcases hob with hj | hj
    ·skip
     have hob : ∃ z, Sd[j]? = some z := ⟨_, List.getElem?_eq_getElem hj⟩
     obtain ⟨wz, hw⟩ := hob
     have hstep := senders_step (x := (wakesL x2 g (numL x ↑cj) R)) hw
     have hob := H.addrR 1 rfl Reader.rdp (by omega)
     obtain ⟨rbb, rbo, rfl⟩ := hob
     have hob := lm_open (x := (wakesL x2 g (numL x ↑cj) R)) ((wakes_name x2 g (numL x ↑cj) R).trans hn2) H
     obtain ⟨cb4, crb4, pn4, pc4, ala4, alc4, ta4, tc4, ps4, hl4, H⟩ := hob
     refine ⟨?_⟩
     refine BB.yes (decide_eq_true (by omega)) ?_
     refine Cn.yes ?_
     refine ⟨?_⟩
     refine ⟨?_⟩
     refine Ix.at j 3 (by kernel_rfl) (rfl) (hj) ?_
     refine H.ldR 7 rfl Reader.rdp (by omega) (q := j * 3 + 0) rfl (v := .int .i64 wz.g) ((wtr_cell hw 0 (by decide)).trans rfl) ?_
     refine H.ldR 7 rfl Reader.rdp (by omega) (q := j * 3 + 1) rfl (v := .int .i64 wz.case_) ((wtr_cell hw 1 (by decide)).trans rfl) ?_
     refine H.ldR 7 rfl Reader.rdp (by omega) (q := j * 3 + 2) rfl (v := .int .i64 wz.value) ((wtr_cell hw 2 (by decide)).trans rfl) ?_
     refine Nw.as #[.int .i64 0, .int .i64 0, .int .i64 0] 225 rfl H fun b16 w H => ?_
     refine H.st0 (cs' := #[.int .i64 wz.g, .int .i64 0, .int .i64 0]) rfl rfl rfl fun w H => ?_
     refine H.st0 (cs' := #[.int .i64 wz.g, .int .i64 wz.case_, .int .i64 0]) rfl rfl rfl fun w H => ?_
     refine H.st0 (cs' := #[.int .i64 wz.g, .int .i64 wz.case_, .int .i64 wz.value]) rfl rfl rfl fun w H => ?_
     refine ⟨?_⟩
     refine Drw.oft (.calm 0 (.calm 1 (.calm 2 (.calm 3 (.calm 4 (.calm 5 (.act 6 true (.pure 7 (.pure 8 (.pure 9 (.pure 10 (.pure 11 .nil)))))))))))) (by kernel_rfl) mixed (fun w => SL w _) H.drew ?_
     replace H := H.drew
     refine LdC.i 1 rfl (v := .pointer (some ⟨crb4, 0, none⟩)) rfl ?_
     refine LdC.i 0 rfl (v := .int .i64 wz.g) rfl ?_
     have h1 := H.pick [3, 0, 1, 2, 4, 5, 6, 7, 8] 9 (by decide)
     simp only [pk, nth, pkA, pkB, pkC, pkD, pkE, pkF] at h1
     refine Cl.sl (by kernel_rfl) (p_state (L := (wakesL x2 g (numL x ↑cj) R).crew) wz.g h1) fun w H => ?_
     replace H := H.pick [1, 2, 3, 0, 4, 5, 6, 7, 8] 9 (by decide)
     simp only [pk, nth, pkA, pkB, pkC, pkD, pkE, pkF] at H
     refine ⟨.inl rfl, ?_⟩
     refine ⟨?_⟩
     refine BB.vr fun q2 e2 => ?_
     cases q2
     ·skip
      have h2 := beq_eq_false_iff_ne.1 e2
      refine Cn.no ?_
      refine ⟨?_⟩
      refine IW.by (wrap_id (n := ↑j + 1) (by omega) (by omega)) ?_
      have H0 := H.pick [1, 2, 3, 4, 5, 6, 7, 0, 8] 9 (by decide)
      simp only [pk, nth, pkA, pkB, pkC, pkD, pkE, pkF] at H0
      replace H := lm_shut (x := (wakesL x2 g (numL x ↑cj) R)) hl4 (by first | rfl | simp [turnL, noteL, backN_len]) ((wakes_name x2 g (numL x ↑cj) R).trans hn2) H0
      rw [if_neg (by assumption)] at hstep
      exact ⟨j + 1, ⟨rfl, trivial⟩, ⟨⟨by omega, hc.2.trans hstep⟩, H.pick [0, 2] 3 (by decide)⟩, (show Sd.length - (j + 1) < Sd.length - j by omega)⟩
     ·skip
      have h2 := eq_of_beq e2
      refine Cn.yes ?_
      refine ⟨?_⟩
      refine H.ldi 0 rfl (v := .int .i64 wz.g) rfl ?_
      refine Cl.sl (by kernel_rfl) (p_bare H 12 wz.g) fun w H => ?_
      have h1 := H.pick [1, 7, 0, 2, 3, 4, 5, 6, 8] 9 (by decide)
      simp only [pk, nth, pkA, pkB, pkC, pkD, pkE, pkF] at h1
      refine Cl.by (by kernel_rfl) (p_noteO (Nat.le_trans (hkw).tr (by omega)) ⟨12, wz.g, -1, -1, -1, -1, false, false⟩ h1) ?_
      rintro _ w ⟨tn2, tk2, rfl, H⟩
      refine ⟨_, rfl, ?_⟩
      replace H := H.pick [2, 0, 3, 4, 5, 6, 7, 1, 8] 9 (by decide)
      simp only [pk, nth, pkA, pkB, pkC, pkD, pkE, pkF] at H
      refine ⟨?_⟩
      refine ret1 (fn := Tryz.f110) (.bool false) rfl (by rfl) ?_
      rw [if_pos (by first | exact rfl | assumption)] at hstep
      have H0 := H.pick [1, 2, 3, 4, 5, 6, 7, 0, 8] 9 (by decide)
      simp only [pk, nth, pkA, pkB, pkC, pkD, pkE, pkF] at H0
      replace H := lm_shut (x := (noteL (wakesL x2 g (numL x ↑cj) R) ⟨12, wz.g, -1, -1, -1, -1, false, false⟩)) hl4 (by first | rfl | simp [turnL, noteL, backN_len]) ((wakes_name x2 g (numL x ↑cj) R).trans hn2) H0
      have hc : shutL x g (cj : Int) = { (noteL (wakesL x2 g (numL x ↑cj) R) ⟨12, wz.g, -1, -1, -1, -1, false, false⟩) with pan := true } := by rw [shut_main hni hcl hC, ← hx2, hc.2, hstep]; rfl
      exact ⟨false, (noteL (wakesL x2 g (numL x ↑cj) R) ⟨12, wz.g, -1, -1, -1, -1, false, false⟩), rfl, hc, H.pick [0] 3 (by decide)⟩
    ·skip
     have hob : j = Sd.length := by omega
     obtain rfl := hob
     rw [List.drop_length] at hc
     refine ⟨?_⟩
     refine BB.no (decide_eq_false (by omega)) ?_
     refine Cn.no ?_
     refine ⟨?_⟩
     refine ret1 (fn := Tryz.f110) (.bool true) rfl (by rfl) ?_
     have hc : shutL x g (cj : Int) = (wakesL x2 g (numL x ↑cj) R) := by rw [shut_main hni hcl hC, ← hx2, hc.2]; rfl
     exact ⟨true, (wakesL x2 g (numL x ↑cj) R), rfl, hc, H.pick [0] 2 (by decide)⟩
end Go.Proofs.YtchkaaeoffmjnaaGreatDoor
