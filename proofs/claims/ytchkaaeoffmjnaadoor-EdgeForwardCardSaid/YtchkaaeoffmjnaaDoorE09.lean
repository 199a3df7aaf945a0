/- Texts of the proof, several in one file: Loom8, Loom9, LoomX5. -/
import Derived.Test.YtchkaaeoffmjnaaDoorE08
namespace Go.Proofs.YtchkaaeoffmjnaaDoor
set_option linter.unusedVariables false
set_option linter.unusedSimpArgs false
open Go.RowKit
set_option maxRecDepth 100000
set_option maxHeartbeats 4000000 in
theorem r_other {w : World} {F : List Piece} {np k lb : Nat} {x : LmM} {t m : Int} {vp vl vd : Value} {n0 n1 n2 n3 n4 n5 n6 n7 : Int} (hn : x.name = [n0, n1, n2, n3, n4, n5, n6, n7]) (hk : Lk np k x) (hkb : k ≤ 990000) (g : Int) {kind a b : Int} {cs : List CaseM} {cv : Value} {df : Bool} (hkind : kind = 1 ∨ kind = 2 ∨ kind = 7 ∨ kind = 8 ∨ kind = 9) (ha0 : 0 ≤ a) (ha1 : a < 8) (hpr : kind = 1 → a < (np : Int)) (hb0 : 0 ≤ b) (hcap : kind = 2 → b ≤ 4) (H : SL w (RlP lb ⟨t, m, vp, vl, vd⟩ x :: F)) :
  Calls Tryd.prog 41 #[.pointer (some ⟨lb, 0, none⟩), .int .i64 g, .agg #[.int .i64 kind, .int .i64 a, .int .i64 b, cv, .bool df]] w fun o w' => o = .returned (.tuple #[]) ∧ SL w' (RlP lb ⟨t, m, vp, vl, vd⟩ (otherL x g ⟨kind, a, b, cs, df⟩) :: F) := by
 have hml := hk.ml
 rcases hkind with rfl | rfl | rfl | rfl | rfl
 ·skip
  have hob := rl_open (x := x) hn H
  obtain ⟨hb1, crb1, cha1, chc1, ta1, tc1, ps1, hl1, H⟩ := hob
  refine calls_den (args := [_, _, _]) Tryd.func41 rfl (Nat.le_of_ble_eq_true (by kernel_rfl)) (by kernel_rfl) ?_
  refine ⟨?_⟩
  refine Nw.as #[.int .i64 1, .int .i64 a, .int .i64 b, cv, .bool df] 41 rfl H fun b5 w H => ?_
  refine ⟨?_⟩
  refine Cl.sl (by kernel_rfl) (r_bare H 0 g) fun w H => ?_
  refine Nw.as #[.int .i64 0, .int .i64 0, .int .i64 0, .int .i64 0, .int .i64 0, .int .i64 0, .bool false, .bool false] 33 rfl H fun b6 w H => ?_
  refine H.st0 (cs' := #[.int .i64 0, .int .i64 0, .int .i64 0, .int .i64 0, .int .i64 0, .int .i64 0, .bool false, .bool false]) rfl rfl rfl fun w H => ?_
  refine H.st0 (cs' := #[.int .i64 0, .int .i64 g, .int .i64 0, .int .i64 0, .int .i64 0, .int .i64 0, .bool false, .bool false]) rfl rfl rfl fun w H => ?_
  refine H.st0 (cs' := #[.int .i64 0, .int .i64 g, .int .i64 (-1), .int .i64 0, .int .i64 0, .int .i64 0, .bool false, .bool false]) rfl rfl rfl fun w H => ?_
  refine H.st0 (cs' := #[.int .i64 0, .int .i64 g, .int .i64 (-1), .int .i64 (-1), .int .i64 0, .int .i64 0, .bool false, .bool false]) rfl rfl rfl fun w H => ?_
  refine H.st0 (cs' := #[.int .i64 0, .int .i64 g, .int .i64 (-1), .int .i64 (-1), .int .i64 (-1), .int .i64 0, .bool false, .bool false]) rfl rfl rfl fun w H => ?_
  refine H.st0 (cs' := #[.int .i64 0, .int .i64 g, .int .i64 (-1), .int .i64 (-1), .int .i64 (-1), .int .i64 (-1), .bool false, .bool false]) rfl rfl rfl fun w H => ?_
  refine H.st0 (cs' := #[.int .i64 0, .int .i64 g, .int .i64 (-1), .int .i64 (-1), .int .i64 (-1), .int .i64 (-1), .bool false, .bool false]) rfl rfl rfl fun w H => ?_
  refine H.st0 (cs' := #[.int .i64 0, .int .i64 g, .int .i64 (-1), .int .i64 (-1), .int .i64 (-1), .int .i64 (-1), .bool false, .bool false]) rfl rfl rfl fun w H => ?_
  refine ⟨?_⟩
  refine H.ldi 1 rfl (v := .int .i64 1) rfl ?_
  refine ⟨?_⟩
  refine ⟨?_⟩
  refine BB.yes rfl ?_
  refine Cn.yes ?_
  refine ⟨?_⟩
  refine Drw.oft (.calm 0 (.calm 1 (.calm 2 (.calm 3 (.calm 4 (.calm 5 (.act 6 true (.pure 7 (.pure 8 (.pure 9 (.pure 10 (.pure 11 .nil)))))))))))) (by kernel_rfl) mixed (fun w => SL w _) H.drew ?_
  replace H := H.drew
  refine LdC.i 2 rfl (v := .pointer (some ⟨crb1, 0, none⟩)) rfl ?_
  refine LdC.i 1 rfl (v := .int .i64 a) rfl ?_
  have h1 := H.pick [4, 0, 1, 2, 3, 5, 6, 7] 8 (by decide)
  simp only [pk, nth, pkA, pkB, pkC, pkD, pkE, pkF] at h1
  refine Cl.sl (by kernel_rfl) (q_spawn (L := x.crew) hk.cl a h1) fun w H => ?_
  replace H := H.pick [1, 2, 3, 4, 0, 5, 6, 7] 8 (by decide)
  simp only [pk, nth, pkA, pkB, pkC, pkD, pkE, pkF] at H
  refine ⟨.inl rfl, ?_⟩
  refine ⟨?_⟩
  refine H.st0 (cs' := #[.int .i64 1, .int .i64 g, .int .i64 (-1), .int .i64 (-1), .int .i64 (-1), .int .i64 (-1), .bool false, .bool false]) rfl rfl rfl fun w H => ?_
  refine ⟨?_⟩
  refine H.ldi 1 rfl (v := .int .i64 a) rfl ?_
  refine H.st0 (cs' := #[.int .i64 1, .int .i64 g, .int .i64 (-1), .int .i64 (-1), .int .i64 a, .int .i64 (-1), .bool false, .bool false]) rfl rfl rfl fun w H => ?_
  refine ⟨?_⟩
  refine H.st0 (cs' := #[.int .i64 1, .int .i64 g, .int .i64 (-1), .int .i64 (-1), .int .i64 a, .int .i64 ((spawnF x.crew a).1.1), .bool false, .bool false]) rfl rfl rfl fun w H => ?_
  refine ⟨?_⟩
  refine H.ldi 0 rfl (v := .int .i64 1) rfl ?_
  refine H.ldi 0 rfl (v := .int .i64 g) rfl ?_
  refine H.ldi 0 rfl (v := .int .i64 (-1)) rfl ?_
  refine H.ldi 0 rfl (v := .int .i64 (-1)) rfl ?_
  refine H.ldi 0 rfl (v := .int .i64 a) rfl ?_
  refine H.ldi 0 rfl (v := .int .i64 ((spawnF x.crew a).1.1)) rfl ?_
  refine H.ldi 0 rfl (v := .bool false) rfl ?_
  refine H.ldi 0 rfl (v := .bool false) rfl ?_
  have h1 := H.pick [2, 7, 0, 1, 3, 4, 5, 6] 8 (by decide)
  simp only [pk, nth, pkA, pkB, pkC, pkD, pkE, pkF] at h1
  refine Cl.by (by kernel_rfl) (r_noteO (Nat.le_trans ((hk.spawn ha0 (hpr rfl))).tr (by omega)) ⟨1, g, -1, -1, a, (spawnF x.crew a).1.1, false, false⟩ h1) ?_
  rintro _ w ⟨tn1, tk1, rfl, H⟩
  refine ⟨_, rfl, ?_⟩
  replace H := H.pick [2, 3, 0, 4, 5, 6, 7, 1] 8 (by decide)
  simp only [pk, nth, pkA, pkB, pkC, pkD, pkE, pkF] at H
  refine ⟨?_⟩
  refine H.ldi 1 rfl (v := .int .i64 1) rfl ?_
  refine BB.yes rfl ?_
  refine Cn.yes ?_
  refine ⟨?_⟩
  refine H.ldi 2 rfl (v := .pointer (some ⟨crb1, 0, none⟩)) rfl ?_
  have h1 := H.pick [4, 0, 1, 2, 3, 5, 6, 7] 8 (by decide)
  simp only [pk, nth, pkA, pkB, pkC, pkD, pkE, pkF] at h1
  refine Cl.sl (by kernel_rfl) (q_turn (L := (noteL ({ x with crew := (spawnF x.crew a).2 }) ⟨1, g, -1, -1, a, (spawnF x.crew a).1.1, false, false⟩).crew) (Small.more (((hk.spawn ha0 (hpr rfl)).note ⟨1, g, -1, -1, a, (spawnF x.crew a).1.1, false, false⟩)).sm (by omega)) g 0 0 (by decide) h1) fun w H => ?_
  replace H := H.pick [1, 2, 3, 4, 0, 5, 6, 7] 8 (by decide)
  simp only [pk, nth, pkA, pkB, pkC, pkD, pkE, pkF] at H
  refine ret0 (fn := Tryd.f41) rfl ?_
  have H0 := H.pick [2, 3, 4, 5, 6, 7, 0, 1] 8 (by decide)
  simp only [pk, nth, pkA, pkB, pkC, pkD, pkE, pkF] at H0
  replace H := rl_shut (x := (turnL (noteL ({ x with crew := (spawnF x.crew a).2 }) ⟨1, g, -1, -1, a, (spawnF x.crew a).1.1, false, false⟩) g 0 0)) hl1 (by first | rfl | simp [turnL, noteL, backN_len]) hn H0
  have hc : otherL x g ⟨1, a, b, cs, df⟩ = (turnL (noteL ({ x with crew := (spawnF x.crew a).2 }) ⟨1, g, -1, -1, a, (spawnF x.crew a).1.1, false, false⟩) g 0 0) := by rfl
  rw [hc]
  exact ⟨rfl, H.pick [0] 3 (by decide)⟩
 ·have hb4 := hcap rfl
  obtain ⟨an, rfl⟩ := Int.eq_ofNat_of_zero_le ha0
  obtain ⟨bn, rfl⟩ := Int.eq_ofNat_of_zero_le hb0
  have han : an < 8 := by omega
  have hob := rl_open (x := x) hn H
  obtain ⟨hb1, crb1, cha1, chc1, ta1, tc1, ps1, hl1, H⟩ := hob
  refine calls_den (args := [_, _, _]) Tryd.func41 rfl (Nat.le_of_ble_eq_true (by kernel_rfl)) (by kernel_rfl) ?_
  refine ⟨?_⟩
  refine Nw.as #[.int .i64 2, .int .i64 ↑an, .int .i64 ↑bn, cv, .bool df] 41 rfl H fun b5 w H => ?_
  refine ⟨?_⟩
  refine Cl.sl (by kernel_rfl) (r_bare H 0 g) fun w H => ?_
  refine Nw.as #[.int .i64 0, .int .i64 0, .int .i64 0, .int .i64 0, .int .i64 0, .int .i64 0, .bool false, .bool false] 33 rfl H fun b6 w H => ?_
  refine H.st0 (cs' := #[.int .i64 0, .int .i64 0, .int .i64 0, .int .i64 0, .int .i64 0, .int .i64 0, .bool false, .bool false]) rfl rfl rfl fun w H => ?_
  refine H.st0 (cs' := #[.int .i64 0, .int .i64 g, .int .i64 0, .int .i64 0, .int .i64 0, .int .i64 0, .bool false, .bool false]) rfl rfl rfl fun w H => ?_
  refine H.st0 (cs' := #[.int .i64 0, .int .i64 g, .int .i64 (-1), .int .i64 0, .int .i64 0, .int .i64 0, .bool false, .bool false]) rfl rfl rfl fun w H => ?_
  refine H.st0 (cs' := #[.int .i64 0, .int .i64 g, .int .i64 (-1), .int .i64 (-1), .int .i64 0, .int .i64 0, .bool false, .bool false]) rfl rfl rfl fun w H => ?_
  refine H.st0 (cs' := #[.int .i64 0, .int .i64 g, .int .i64 (-1), .int .i64 (-1), .int .i64 (-1), .int .i64 0, .bool false, .bool false]) rfl rfl rfl fun w H => ?_
  refine H.st0 (cs' := #[.int .i64 0, .int .i64 g, .int .i64 (-1), .int .i64 (-1), .int .i64 (-1), .int .i64 (-1), .bool false, .bool false]) rfl rfl rfl fun w H => ?_
  refine H.st0 (cs' := #[.int .i64 0, .int .i64 g, .int .i64 (-1), .int .i64 (-1), .int .i64 (-1), .int .i64 (-1), .bool false, .bool false]) rfl rfl rfl fun w H => ?_
  refine H.st0 (cs' := #[.int .i64 0, .int .i64 g, .int .i64 (-1), .int .i64 (-1), .int .i64 (-1), .int .i64 (-1), .bool false, .bool false]) rfl rfl rfl fun w H => ?_
  refine ⟨?_⟩
  refine H.ldi 1 rfl (v := .int .i64 2) rfl ?_
  refine ⟨?_⟩
  refine ⟨?_⟩
  refine BB.no rfl ?_
  refine Cn.no ?_
  refine ⟨?_⟩
  refine BB.yes rfl ?_
  refine Cn.yes ?_
  refine ⟨?_⟩
  refine H.ldi 1 rfl (v := .int .i64 ↑bn) rfl ?_
  refine Cl.by (by kernel_rfl) (r_new bn (by omega) H) ?_
  rintro _ w ⟨ph, rfl, H⟩
  refine ⟨_, rfl, ?_⟩
  refine ⟨?_⟩
  refine H.st1 (cs' := #[.int .i64 2, .int .i64 g, .int .i64 (-1), .int .i64 (-1), .int .i64 (-1), .int .i64 (-1), .bool false, .bool false]) rfl rfl rfl fun w H => ?_
  refine ⟨?_⟩
  refine H.ldi 2 rfl (v := .int .i64 ↑bn) rfl ?_
  refine H.st1 (cs' := #[.int .i64 2, .int .i64 g, .int .i64 (-1), .int .i64 (-1), .int .i64 ↑bn, .int .i64 (-1), .bool false, .bool false]) rfl rfl rfl fun w H => ?_
  refine ⟨?_⟩
  refine H.ldi 3 rfl (v := .slice cha1 x.M.length chc1) rfl ?_
  refine H.st1 (cs' := #[.int .i64 2, .int .i64 g, .int .i64 ↑x.M.length, .int .i64 (-1), .int .i64 ↑bn, .int .i64 (-1), .bool false, .bool false]) rfl rfl rfl fun w H => ?_
  refine ⟨?_⟩
  refine Drw.of [(0, true), (1, true), (2, true), (3, true), (4, true), (5, true), (6, true), (7, true), (8, true), (9, true), (10, true), (11, false)] (by kernel_rfl) mixed (fun w => SL w _) H.drew ?_
  replace H := H.drew
  refine LdC.i 2 rfl (v := .int .i64 ↑an) rfl ?_
  refine LdC.i 3 rfl (v := .slice cha1 x.M.length chc1) rfl ?_
  refine Ix.at an 1 (by kernel_rfl) rfl han ?_
  have hob := name_set (v := (x.M.length : Int)) (x := x) hn an han
  obtain ⟨m0, m1, m2, m3, m4, m5, m6, m7, hn', hset⟩ := hob
  refine H.st3 (cs' := #[.int .i64 t, .int .i64 m, vp, vl, vd, .pointer (some ⟨hb1, 0, none⟩), .pointer (some ⟨crb1, 0, none⟩), .slice cha1 x.M.length chc1, .int .i64 m0, .int .i64 m1, .int .i64 m2, .int .i64 m3, .int .i64 m4, .int .i64 m5, .int .i64 m6, .int .i64 m7, .slice ta1 x.tr.length tc1, .bool x.pan]) (hset _ _ _ _ _ _ _ _ _ _) (by simp [Nat.blt_eq]; omega) rfl fun w H => ?_
  refine ⟨.inl rfl, ?_⟩
  refine ⟨?_⟩
  refine H.ldi 3 rfl (v := .slice cha1 x.M.length chc1) rfl ?_
  refine Mn.new (fun b => .slice (some ⟨b, 0, none⟩) 1 1) #[.pointer (some ⟨ph, 0, none⟩)] 127 (by kernel_rfl) H fun b75 w H => ?_
  refine SL.appS H.up7 (.tmp 73) (.tmp 75) 65 (.pointer none) 8 (by rfl) (by kernel_rfl) (by kernel_rfl) (by rfl) (by decide) (by rfl) (some ⟨b75, 0, none⟩) 1 1 [.pointer (some ⟨ph, 0, none⟩)] (by rfl) (H.rdRow 0 rfl (by rfl) (by decide)) (by rfl) (by omega) (by decide) (by decide) fun g1 c1 w H => ?_
  refine H.st5 (cs' := #[.int .i64 t, .int .i64 m, vp, vl, vd, .pointer (some ⟨hb1, 0, none⟩), .pointer (some ⟨crb1, 0, none⟩), .slice (some ⟨g1, 0, none⟩) (x.M.length + 1) c1, .int .i64 m0, .int .i64 m1, .int .i64 m2, .int .i64 m3, .int .i64 m4, .int .i64 m5, .int .i64 m6, .int .i64 m7, .slice ta1 x.tr.length tc1, .bool x.pan]) rfl rfl rfl fun w H => ?_
  have H0 := H.pick [2, 8, 0, 1, 3, 4, 5, 6, 7, 9] 10 (by decide)
  simp only [pk, nth, pkA, pkB, pkC, pkD, pkE, pkF] at H0
  have hl9 : (ps1 ++ [ph]).length = x.M.length + 1 := by rw [List.length_append, hl1]; rfl
  replace H := rs_snoc hl1 H0
  have hob : ∃ z, z = ps1 ++ [ph] := ⟨_, rfl⟩
  obtain ⟨ps9, hps9⟩ := hob
  rw [← hps9] at H hl9
  rw [show pcs (ps1.map some) ++ [.pointer (some ⟨ph, 0, none⟩)] = pcs (ps9.map some) by rw [hps9]; simp [pcs, adr]] at H
  have hkm := hk.make (a := an) (b := bn) han (by omega)
  have hob : ∃ z, z = hb1 := ⟨_, rfl⟩
  obtain ⟨hb9, hhb⟩ := hob
  have hob : ∃ z, z = crb1 := ⟨_, rfl⟩
  obtain ⟨crb9, hcrb⟩ := hob
  rw [← hhb, ← hcrb] at H
  refine ⟨?_⟩
  refine H.ldi 3 rfl (v := .int .i64 2) rfl ?_
  refine H.ldi 3 rfl (v := .int .i64 g) rfl ?_
  refine H.ldi 3 rfl (v := .int .i64 ↑x.M.length) rfl ?_
  refine H.ldi 3 rfl (v := .int .i64 (-1)) rfl ?_
  refine H.ldi 3 rfl (v := .int .i64 ↑bn) rfl ?_
  refine H.ldi 3 rfl (v := .int .i64 (-1)) rfl ?_
  refine H.ldi 3 rfl (v := .bool false) rfl ?_
  refine H.ldi 3 rfl (v := .bool false) rfl ?_
  have h1 := H.pick [5, 8, 0, 1, 2, 3, 4, 6, 7] 9 (by decide)
  simp only [pk, nth, pkA, pkB, pkC, pkD, pkE, pkF] at h1
  refine Cl.by (by kernel_rfl) (r_noteO (Nat.le_trans (hkm).tr (by omega)) ⟨2, g, ↑x.M.length, -1, ↑bn, -1, false, false⟩ h1) ?_
  rintro _ w ⟨tn1, tk1, rfl, H⟩
  refine ⟨_, rfl, ?_⟩
  replace H := H.pick [2, 3, 4, 5, 6, 0, 7, 8, 1] 9 (by decide)
  simp only [pk, nth, pkA, pkB, pkC, pkD, pkE, pkF] at H
  refine ⟨?_⟩
  refine H.ldi 4 rfl (v := .int .i64 2) rfl ?_
  refine BB.yes rfl ?_
  refine Cn.yes ?_
  refine ⟨?_⟩
  refine H.ldi 5 rfl (v := .pointer (some ⟨crb9, 0, none⟩)) rfl ?_
  have h1 := H.pick [7, 0, 1, 2, 3, 4, 5, 6, 8] 9 (by decide)
  simp only [pk, nth, pkA, pkB, pkC, pkD, pkE, pkF] at h1
  refine Cl.sl (by kernel_rfl) (q_turn (L := (noteL ({ x with M := x.M ++ [emptyM bn], name := x.name.set an x.M.length }) ⟨2, g, ↑x.M.length, -1, ↑bn, -1, false, false⟩).crew) (Small.more ((hkm.note ⟨2, g, ↑x.M.length, -1, ↑bn, -1, false, false⟩)).sm (by omega)) g 0 0 (by decide) h1) fun w H => ?_
  replace H := H.pick [1, 2, 3, 4, 5, 6, 7, 0, 8] 9 (by decide)
  simp only [pk, nth, pkA, pkB, pkC, pkD, pkE, pkF] at H
  refine ret0 (fn := Tryd.f41) rfl ?_
  have H0 := H.pick [5, 6, 7, 1, 0, 8, 2, 3, 4] 9 (by decide)
  simp only [pk, nth, pkA, pkB, pkC, pkD, pkE, pkF] at H0
  replace H := rl_shut (x := (turnL (noteL ({ x with M := x.M ++ [emptyM bn], name := x.name.set an x.M.length }) ⟨2, g, ↑x.M.length, -1, ↑bn, -1, false, false⟩) g 0 0)) hl9 (by first | rfl | simp [turnL, noteL, backN_len]) hn' H0
  have hc : otherL x g ⟨2, (an : Int), (bn : Int), cs, df⟩ = (turnL (noteL ({ x with M := x.M ++ [emptyM bn], name := x.name.set an x.M.length }) ⟨2, g, ↑x.M.length, -1, ↑bn, -1, false, false⟩) g 0 0) := by rfl
  rw [hc]
  exact ⟨rfl, H.pick [0] 4 (by decide)⟩
 ·skip
  have hob := rl_open (x := x) hn H
  obtain ⟨hb1, crb1, cha1, chc1, ta1, tc1, ps1, hl1, H⟩ := hob
  refine calls_den (args := [_, _, _]) Tryd.func41 rfl (Nat.le_of_ble_eq_true (by kernel_rfl)) (by kernel_rfl) ?_
  refine ⟨?_⟩
  refine Nw.as #[.int .i64 7, .int .i64 a, .int .i64 b, cv, .bool df] 41 rfl H fun b5 w H => ?_
  refine ⟨?_⟩
  refine Cl.sl (by kernel_rfl) (r_bare H 0 g) fun w H => ?_
  refine Nw.as #[.int .i64 0, .int .i64 0, .int .i64 0, .int .i64 0, .int .i64 0, .int .i64 0, .bool false, .bool false] 33 rfl H fun b6 w H => ?_
  refine H.st0 (cs' := #[.int .i64 0, .int .i64 0, .int .i64 0, .int .i64 0, .int .i64 0, .int .i64 0, .bool false, .bool false]) rfl rfl rfl fun w H => ?_
  refine H.st0 (cs' := #[.int .i64 0, .int .i64 g, .int .i64 0, .int .i64 0, .int .i64 0, .int .i64 0, .bool false, .bool false]) rfl rfl rfl fun w H => ?_
  refine H.st0 (cs' := #[.int .i64 0, .int .i64 g, .int .i64 (-1), .int .i64 0, .int .i64 0, .int .i64 0, .bool false, .bool false]) rfl rfl rfl fun w H => ?_
  refine H.st0 (cs' := #[.int .i64 0, .int .i64 g, .int .i64 (-1), .int .i64 (-1), .int .i64 0, .int .i64 0, .bool false, .bool false]) rfl rfl rfl fun w H => ?_
  refine H.st0 (cs' := #[.int .i64 0, .int .i64 g, .int .i64 (-1), .int .i64 (-1), .int .i64 (-1), .int .i64 0, .bool false, .bool false]) rfl rfl rfl fun w H => ?_
  refine H.st0 (cs' := #[.int .i64 0, .int .i64 g, .int .i64 (-1), .int .i64 (-1), .int .i64 (-1), .int .i64 (-1), .bool false, .bool false]) rfl rfl rfl fun w H => ?_
  refine H.st0 (cs' := #[.int .i64 0, .int .i64 g, .int .i64 (-1), .int .i64 (-1), .int .i64 (-1), .int .i64 (-1), .bool false, .bool false]) rfl rfl rfl fun w H => ?_
  refine H.st0 (cs' := #[.int .i64 0, .int .i64 g, .int .i64 (-1), .int .i64 (-1), .int .i64 (-1), .int .i64 (-1), .bool false, .bool false]) rfl rfl rfl fun w H => ?_
  refine ⟨?_⟩
  refine H.ldi 1 rfl (v := .int .i64 7) rfl ?_
  refine ⟨?_⟩
  refine ⟨?_⟩
  refine BB.no rfl ?_
  refine Cn.no ?_
  refine ⟨?_⟩
  refine BB.no rfl ?_
  refine Cn.no ?_
  refine ⟨?_⟩
  refine BB.yes rfl ?_
  refine Cn.yes ?_
  refine ⟨?_⟩
  refine H.st0 (cs' := #[.int .i64 9, .int .i64 g, .int .i64 (-1), .int .i64 (-1), .int .i64 (-1), .int .i64 (-1), .bool false, .bool false]) rfl rfl rfl fun w H => ?_
  refine ⟨?_⟩
  refine H.ldi 1 rfl (v := .int .i64 a) rfl ?_
  refine H.st0 (cs' := #[.int .i64 9, .int .i64 g, .int .i64 (-1), .int .i64 (-1), .int .i64 a, .int .i64 (-1), .bool false, .bool false]) rfl rfl rfl fun w H => ?_
  refine ⟨?_⟩
  refine H.ldi 0 rfl (v := .int .i64 9) rfl ?_
  refine H.ldi 0 rfl (v := .int .i64 g) rfl ?_
  refine H.ldi 0 rfl (v := .int .i64 (-1)) rfl ?_
  refine H.ldi 0 rfl (v := .int .i64 (-1)) rfl ?_
  refine H.ldi 0 rfl (v := .int .i64 a) rfl ?_
  refine H.ldi 0 rfl (v := .int .i64 (-1)) rfl ?_
  refine H.ldi 0 rfl (v := .bool false) rfl ?_
  refine H.ldi 0 rfl (v := .bool false) rfl ?_
  have h1 := H.pick [2, 7, 0, 1, 3, 4, 5, 6] 8 (by decide)
  simp only [pk, nth, pkA, pkB, pkC, pkD, pkE, pkF] at h1
  refine Cl.by (by kernel_rfl) (r_noteO (Nat.le_trans (hk).tr (by omega)) ⟨9, g, -1, -1, a, -1, false, false⟩ h1) ?_
  rintro _ w ⟨tn1, tk1, rfl, H⟩
  refine ⟨_, rfl, ?_⟩
  replace H := H.pick [2, 3, 0, 4, 5, 6, 7, 1] 8 (by decide)
  simp only [pk, nth, pkA, pkB, pkC, pkD, pkE, pkF] at H
  refine ⟨?_⟩
  refine H.ldi 1 rfl (v := .int .i64 7) rfl ?_
  refine BB.yes rfl ?_
  refine Cn.yes ?_
  refine ⟨?_⟩
  refine H.ldi 2 rfl (v := .pointer (some ⟨crb1, 0, none⟩)) rfl ?_
  have h1 := H.pick [4, 0, 1, 2, 3, 5, 6, 7] 8 (by decide)
  simp only [pk, nth, pkA, pkB, pkC, pkD, pkE, pkF] at h1
  refine Cl.sl (by kernel_rfl) (q_turn (L := (noteL x ⟨9, g, -1, -1, a, -1, false, false⟩).crew) (Small.more ((hk.note ⟨9, g, -1, -1, a, -1, false, false⟩)).sm (by omega)) g 0 0 (by decide) h1) fun w H => ?_
  replace H := H.pick [1, 2, 3, 4, 0, 5, 6, 7] 8 (by decide)
  simp only [pk, nth, pkA, pkB, pkC, pkD, pkE, pkF] at H
  refine ret0 (fn := Tryd.f41) rfl ?_
  have H0 := H.pick [2, 3, 4, 5, 6, 7, 0, 1] 8 (by decide)
  simp only [pk, nth, pkA, pkB, pkC, pkD, pkE, pkF] at H0
  replace H := rl_shut (x := (turnL (noteL x ⟨9, g, -1, -1, a, -1, false, false⟩) g 0 0)) hl1 (by first | rfl | simp [turnL, noteL, backN_len]) hn H0
  have hc : otherL x g ⟨7, a, b, cs, df⟩ = (turnL (noteL x ⟨9, g, -1, -1, a, -1, false, false⟩) g 0 0) := by rfl
  rw [hc]
  exact ⟨rfl, H.pick [0] 3 (by decide)⟩
 ·skip
  have hob := rl_open (x := x) hn H
  obtain ⟨hb1, crb1, cha1, chc1, ta1, tc1, ps1, hl1, H⟩ := hob
  refine calls_den (args := [_, _, _]) Tryd.func41 rfl (Nat.le_of_ble_eq_true (by kernel_rfl)) (by kernel_rfl) ?_
  refine ⟨?_⟩
  refine Nw.as #[.int .i64 8, .int .i64 a, .int .i64 b, cv, .bool df] 41 rfl H fun b5 w H => ?_
  refine ⟨?_⟩
  refine Cl.sl (by kernel_rfl) (r_bare H 0 g) fun w H => ?_
  refine Nw.as #[.int .i64 0, .int .i64 0, .int .i64 0, .int .i64 0, .int .i64 0, .int .i64 0, .bool false, .bool false] 33 rfl H fun b6 w H => ?_
  refine H.st0 (cs' := #[.int .i64 0, .int .i64 0, .int .i64 0, .int .i64 0, .int .i64 0, .int .i64 0, .bool false, .bool false]) rfl rfl rfl fun w H => ?_
  refine H.st0 (cs' := #[.int .i64 0, .int .i64 g, .int .i64 0, .int .i64 0, .int .i64 0, .int .i64 0, .bool false, .bool false]) rfl rfl rfl fun w H => ?_
  refine H.st0 (cs' := #[.int .i64 0, .int .i64 g, .int .i64 (-1), .int .i64 0, .int .i64 0, .int .i64 0, .bool false, .bool false]) rfl rfl rfl fun w H => ?_
  refine H.st0 (cs' := #[.int .i64 0, .int .i64 g, .int .i64 (-1), .int .i64 (-1), .int .i64 0, .int .i64 0, .bool false, .bool false]) rfl rfl rfl fun w H => ?_
  refine H.st0 (cs' := #[.int .i64 0, .int .i64 g, .int .i64 (-1), .int .i64 (-1), .int .i64 (-1), .int .i64 0, .bool false, .bool false]) rfl rfl rfl fun w H => ?_
  refine H.st0 (cs' := #[.int .i64 0, .int .i64 g, .int .i64 (-1), .int .i64 (-1), .int .i64 (-1), .int .i64 (-1), .bool false, .bool false]) rfl rfl rfl fun w H => ?_
  refine H.st0 (cs' := #[.int .i64 0, .int .i64 g, .int .i64 (-1), .int .i64 (-1), .int .i64 (-1), .int .i64 (-1), .bool false, .bool false]) rfl rfl rfl fun w H => ?_
  refine H.st0 (cs' := #[.int .i64 0, .int .i64 g, .int .i64 (-1), .int .i64 (-1), .int .i64 (-1), .int .i64 (-1), .bool false, .bool false]) rfl rfl rfl fun w H => ?_
  refine ⟨?_⟩
  refine H.ldi 1 rfl (v := .int .i64 8) rfl ?_
  refine ⟨?_⟩
  refine ⟨?_⟩
  refine BB.no rfl ?_
  refine Cn.no ?_
  refine ⟨?_⟩
  refine BB.no rfl ?_
  refine Cn.no ?_
  refine ⟨?_⟩
  refine BB.no rfl ?_
  refine Cn.no ?_
  refine ⟨?_⟩
  refine BB.yes rfl ?_
  refine Cn.yes ?_
  refine ⟨?_⟩
  refine H.st0 (cs' := #[.int .i64 10, .int .i64 g, .int .i64 (-1), .int .i64 (-1), .int .i64 (-1), .int .i64 (-1), .bool false, .bool false]) rfl rfl rfl fun w H => ?_
  refine ⟨?_⟩
  refine H.ldi 1 rfl (v := .int .i64 a) rfl ?_
  refine H.st0 (cs' := #[.int .i64 10, .int .i64 g, .int .i64 (-1), .int .i64 (-1), .int .i64 a, .int .i64 (-1), .bool false, .bool false]) rfl rfl rfl fun w H => ?_
  refine ⟨?_⟩
  refine H.ldi 0 rfl (v := .int .i64 10) rfl ?_
  refine H.ldi 0 rfl (v := .int .i64 g) rfl ?_
  refine H.ldi 0 rfl (v := .int .i64 (-1)) rfl ?_
  refine H.ldi 0 rfl (v := .int .i64 (-1)) rfl ?_
  refine H.ldi 0 rfl (v := .int .i64 a) rfl ?_
  refine H.ldi 0 rfl (v := .int .i64 (-1)) rfl ?_
  refine H.ldi 0 rfl (v := .bool false) rfl ?_
  refine H.ldi 0 rfl (v := .bool false) rfl ?_
  have h1 := H.pick [2, 7, 0, 1, 3, 4, 5, 6] 8 (by decide)
  simp only [pk, nth, pkA, pkB, pkC, pkD, pkE, pkF] at h1
  refine Cl.by (by kernel_rfl) (r_noteO (Nat.le_trans (hk).tr (by omega)) ⟨10, g, -1, -1, a, -1, false, false⟩ h1) ?_
  rintro _ w ⟨tn1, tk1, rfl, H⟩
  refine ⟨_, rfl, ?_⟩
  replace H := H.pick [2, 3, 0, 4, 5, 6, 7, 1] 8 (by decide)
  simp only [pk, nth, pkA, pkB, pkC, pkD, pkE, pkF] at H
  refine ⟨?_⟩
  refine H.ldi 1 rfl (v := .int .i64 8) rfl ?_
  refine BB.yes rfl ?_
  refine Cn.yes ?_
  refine ⟨?_⟩
  refine H.ldi 2 rfl (v := .pointer (some ⟨crb1, 0, none⟩)) rfl ?_
  have h1 := H.pick [4, 0, 1, 2, 3, 5, 6, 7] 8 (by decide)
  simp only [pk, nth, pkA, pkB, pkC, pkD, pkE, pkF] at h1
  refine Cl.sl (by kernel_rfl) (q_turn (L := (noteL x ⟨10, g, -1, -1, a, -1, false, false⟩).crew) (Small.more ((hk.note ⟨10, g, -1, -1, a, -1, false, false⟩)).sm (by omega)) g 0 0 (by decide) h1) fun w H => ?_
  replace H := H.pick [1, 2, 3, 4, 0, 5, 6, 7] 8 (by decide)
  simp only [pk, nth, pkA, pkB, pkC, pkD, pkE, pkF] at H
  refine ret0 (fn := Tryd.f41) rfl ?_
  have H0 := H.pick [2, 3, 4, 5, 6, 7, 0, 1] 8 (by decide)
  simp only [pk, nth, pkA, pkB, pkC, pkD, pkE, pkF] at H0
  replace H := rl_shut (x := (turnL (noteL x ⟨10, g, -1, -1, a, -1, false, false⟩) g 0 0)) hl1 (by first | rfl | simp [turnL, noteL, backN_len]) hn H0
  have hc : otherL x g ⟨8, a, b, cs, df⟩ = (turnL (noteL x ⟨10, g, -1, -1, a, -1, false, false⟩) g 0 0) := by rfl
  rw [hc]
  exact ⟨rfl, H.pick [0] 3 (by decide)⟩
 ·skip
  have hob := rl_open (x := x) hn H
  obtain ⟨hb1, crb1, cha1, chc1, ta1, tc1, ps1, hl1, H⟩ := hob
  refine calls_den (args := [_, _, _]) Tryd.func41 rfl (Nat.le_of_ble_eq_true (by kernel_rfl)) (by kernel_rfl) ?_
  refine ⟨?_⟩
  refine Nw.as #[.int .i64 9, .int .i64 a, .int .i64 b, cv, .bool df] 41 rfl H fun b5 w H => ?_
  refine ⟨?_⟩
  refine Cl.sl (by kernel_rfl) (r_bare H 0 g) fun w H => ?_
  refine Nw.as #[.int .i64 0, .int .i64 0, .int .i64 0, .int .i64 0, .int .i64 0, .int .i64 0, .bool false, .bool false] 33 rfl H fun b6 w H => ?_
  refine H.st0 (cs' := #[.int .i64 0, .int .i64 0, .int .i64 0, .int .i64 0, .int .i64 0, .int .i64 0, .bool false, .bool false]) rfl rfl rfl fun w H => ?_
  refine H.st0 (cs' := #[.int .i64 0, .int .i64 g, .int .i64 0, .int .i64 0, .int .i64 0, .int .i64 0, .bool false, .bool false]) rfl rfl rfl fun w H => ?_
  refine H.st0 (cs' := #[.int .i64 0, .int .i64 g, .int .i64 (-1), .int .i64 0, .int .i64 0, .int .i64 0, .bool false, .bool false]) rfl rfl rfl fun w H => ?_
  refine H.st0 (cs' := #[.int .i64 0, .int .i64 g, .int .i64 (-1), .int .i64 (-1), .int .i64 0, .int .i64 0, .bool false, .bool false]) rfl rfl rfl fun w H => ?_
  refine H.st0 (cs' := #[.int .i64 0, .int .i64 g, .int .i64 (-1), .int .i64 (-1), .int .i64 (-1), .int .i64 0, .bool false, .bool false]) rfl rfl rfl fun w H => ?_
  refine H.st0 (cs' := #[.int .i64 0, .int .i64 g, .int .i64 (-1), .int .i64 (-1), .int .i64 (-1), .int .i64 (-1), .bool false, .bool false]) rfl rfl rfl fun w H => ?_
  refine H.st0 (cs' := #[.int .i64 0, .int .i64 g, .int .i64 (-1), .int .i64 (-1), .int .i64 (-1), .int .i64 (-1), .bool false, .bool false]) rfl rfl rfl fun w H => ?_
  refine H.st0 (cs' := #[.int .i64 0, .int .i64 g, .int .i64 (-1), .int .i64 (-1), .int .i64 (-1), .int .i64 (-1), .bool false, .bool false]) rfl rfl rfl fun w H => ?_
  refine ⟨?_⟩
  refine H.ldi 1 rfl (v := .int .i64 9) rfl ?_
  refine ⟨?_⟩
  refine ⟨?_⟩
  refine BB.no rfl ?_
  refine Cn.no ?_
  refine ⟨?_⟩
  refine BB.no rfl ?_
  refine Cn.no ?_
  refine ⟨?_⟩
  refine BB.no rfl ?_
  refine Cn.no ?_
  refine ⟨?_⟩
  refine BB.no rfl ?_
  refine Cn.no ?_
  refine ⟨?_⟩
  refine H.st0 (cs' := #[.int .i64 11, .int .i64 g, .int .i64 (-1), .int .i64 (-1), .int .i64 (-1), .int .i64 (-1), .bool false, .bool false]) rfl rfl rfl fun w H => ?_
  refine ⟨?_⟩
  refine H.ldi 2 rfl (v := .pointer (some ⟨crb1, 0, none⟩)) rfl ?_
  have h1 := H.pick [4, 0, 1, 2, 3, 5, 6, 7] 8 (by decide)
  simp only [pk, nth, pkA, pkB, pkC, pkD, pkE, pkF] at h1
  refine Cl.sl (by kernel_rfl) (q_turn (L := x.crew) (Small.more (hk).sm (by omega)) g 0 2 (by decide) h1) fun w H => ?_
  replace H := H.pick [1, 2, 3, 4, 0, 5, 6, 7] 8 (by decide)
  simp only [pk, nth, pkA, pkB, pkC, pkD, pkE, pkF] at H
  refine ⟨?_⟩
  refine H.ldi 0 rfl (v := .int .i64 11) rfl ?_
  refine H.ldi 0 rfl (v := .int .i64 g) rfl ?_
  refine H.ldi 0 rfl (v := .int .i64 (-1)) rfl ?_
  refine H.ldi 0 rfl (v := .int .i64 (-1)) rfl ?_
  refine H.ldi 0 rfl (v := .int .i64 (-1)) rfl ?_
  refine H.ldi 0 rfl (v := .int .i64 (-1)) rfl ?_
  refine H.ldi 0 rfl (v := .bool false) rfl ?_
  refine H.ldi 0 rfl (v := .bool false) rfl ?_
  have h1 := H.pick [2, 7, 0, 1, 3, 4, 5, 6] 8 (by decide)
  simp only [pk, nth, pkA, pkB, pkC, pkD, pkE, pkF] at h1
  refine Cl.by (by kernel_rfl) (r_noteO (Nat.le_trans ((hk.turn g 0 2)).tr (by omega)) ⟨11, g, -1, -1, -1, -1, false, false⟩ h1) ?_
  rintro _ w ⟨tn1, tk1, rfl, H⟩
  refine ⟨_, rfl, ?_⟩
  replace H := H.pick [2, 3, 0, 4, 5, 6, 7, 1] 8 (by decide)
  simp only [pk, nth, pkA, pkB, pkC, pkD, pkE, pkF] at H
  refine ⟨?_⟩
  refine H.ldi 1 rfl (v := .int .i64 9) rfl ?_
  refine BB.no rfl ?_
  refine Cn.no ?_
  refine ret0 (fn := Tryd.f41) rfl ?_
  have H0 := H.pick [2, 3, 4, 5, 6, 7, 0, 1] 8 (by decide)
  simp only [pk, nth, pkA, pkB, pkC, pkD, pkE, pkF] at H0
  replace H := rl_shut (x := (noteL (turnL x g 0 2) ⟨11, g, -1, -1, -1, -1, false, false⟩)) hl1 (by first | rfl | simp [turnL, noteL, backN_len]) hn H0
  have hc : otherL x g ⟨9, a, b, cs, df⟩ = (noteL (turnL x g 0 2) ⟨11, g, -1, -1, -1, -1, false, false⟩) := by rfl
  rw [hc]
  exact ⟨rfl, H.pick [0] 3 (by decide)⟩
end Go.Proofs.YtchkaaeoffmjnaaDoor
namespace Go.Proofs.YtchkaaeoffmjnaaDoor
set_option linter.unusedVariables false
set_option linter.unusedSimpArgs false
open Go.RowKit
set_option maxRecDepth 100000
theorem IntA.of {A : Piece} {b o : Nat} {xs : List Int} (h : Reader A 1 (some ⟨b, o, none⟩) xs.length (ints xs)) : IntA A b o xs := by
 intro T w hT j x hx
 have hl := (List.getElem?_eq_some_iff.1 hx).1
 obtain ⟨b', o', he, hc⟩ := (h T w hT).2.2 (by omega)
 cases he
 rw [Nat.mul_one]
 exact hc j _ (by unfold ints; rw [List.getElem?_map, hx]; rfl)
theorem step_stop {s : ScrM} {x : LmM} (h : ¬ verL s x = 0) : stepL s x = x := by unfold stepL; rw [if_pos h]
theorem step_compact {s : ScrM} {x : LmM} (h : verL s x = 0) (h0 : whoL s x < 0) : stepL s x = noteL { x with p := x.p + 1 } ⟨13, -1, -1, -1, -1, -1, false, false⟩ := by
 unfold stepL
 rw [if_neg (fun hh => hh h), if_pos h0]
 rfl
theorem step_does {s : ScrM} {x : LmM} (h : verL s x = 0) (h0 : ¬ whoL s x < 0) : stepL s x = doesL s { x with p := x.p + 1 } (whoL s x) (opL s x (whoL s x)) := by
 unfold stepL
 rw [if_neg (fun hh => hh h), if_neg h0]
theorem does_alone3 {s : ScrM} {x : LmM} {g : Int} {o : OpM} (h : o.kind = 3) : doesL s x g o = aloneL x g ⟨true, o.a, o.b⟩ := by unfold doesL; rw [if_pos h]
theorem does_alone4 {s : ScrM} {x : LmM} {g : Int} {o : OpM} (h3 : o.kind ≠ 3) (h : o.kind = 4) : doesL s x g o = aloneL x g ⟨false, o.a, 0⟩ := by unfold doesL; rw [if_neg h3, if_pos h]
theorem does_shut {s : ScrM} {x : LmM} {g : Int} {o : OpM} (h3 : o.kind ≠ 3) (h4 : o.kind ≠ 4) (h : o.kind = 5) : doesL s x g o = shutL x g o.a := by unfold doesL; rw [if_neg h3, if_neg h4, if_pos h]
theorem does_choose {s : ScrM} {x : LmM} {g : Int} {o : OpM} (h3 : o.kind ≠ 3) (h4 : o.kind ≠ 4) (h5 : o.kind ≠ 5) (h : o.kind = 6) : doesL s x g o = chooseL s x g o := by unfold doesL; rw [if_neg h3, if_neg h4, if_neg h5, if_pos h]
theorem does_other {s : ScrM} {x : LmM} {g : Int} {o : OpM} (h3 : o.kind ≠ 3) (h4 : o.kind ≠ 4) (h5 : o.kind ≠ 5) (h6 : o.kind ≠ 6) : doesL s x g o = otherL x g o := by unfold doesL; rw [if_neg h3, if_neg h4, if_neg h5, if_neg h6]
set_option maxHeartbeats 4000000 in
theorem r_step {w : World} {F : List Piece} {A : Piece} {np k lb pb po pc0 lc dc : Nat} {s : ScrM} {x : LmM} {t m : Int} {Y : List ProgX} {la da : Option Addr} {pl dr : List Int} (hps : s.progs = progsM Y) (hX : ScrA A pb po Y) (hpl : s.plan = pl) (hAl : Reader A 1 la pl.length (ints pl)) (hgp : ∀ z ∈ pl, -1 ≤ z) (hdr : s.draws = dr) (hAd : Reader A 1 da dr.length (ints dr)) (hgd : ∀ z ∈ dr, 0 ≤ z)
  (hnp : s.progs.length = np) (hnp1 : 1 ≤ np) (hpo : ProgsOk s.progs) (hpb : pl.length ≤ 1000) (hdb : x.d ≤ 1000) (hk : Lk np k x) (hkb : k ≤ 980000) (H : SL w (RlP lb ⟨t, m, .slice (some ⟨pb, po, none⟩) Y.length pc0, .slice la pl.length lc, .slice da dr.length dc⟩ x :: A :: F)) :
  Calls Tryd.prog 20 #[.pointer (some ⟨lb, 0, none⟩)] w fun o w' => o = .returned (.bool (decide (verL s x = 0))) ∧ SL w' (RlP lb ⟨t, m, .slice (some ⟨pb, po, none⟩) Y.length pc0, .slice la pl.length lc, .slice da dr.length dc⟩ (stepL s x) :: A :: F) := by
 obtain ⟨n0, n1, n2, n3, n4, n5, n6, n7, hn⟩ := eight hk.n8
 by_cases hv : verL s x = 0
 ·obtain ⟨_, hvo, hvp⟩ := ver_zero hv
  rw [hpl] at hvp
  obtain ⟨lab, lao, rfl⟩ := H.addrR 1 rfl hAl (by omega)
  have hLA := IntA.of hAl
  by_cases h0 : whoL s x < 0
  ·skip
   refine calls_den (args := [_]) Tryd.func20 rfl (Nat.le_of_ble_eq_true (by kernel_rfl)) (by kernel_rfl) ?_
   refine ⟨?_⟩
   refine ⟨?_⟩
   have h1 := H
   refine Cl.sl (by kernel_rfl) (r_verdict hpl h1) fun w H => ?_
   refine BB.no (bne_eq_false_iff_eq.2 hv) ?_
   refine Cn.no ?_
   refine ⟨?_⟩
   have h1 := H
   have hq := r_who hpl hLA hvp hgp hk.cl (over_able hvo) h1
   refine Cl.sl (by kernel_rfl) hq fun w H => ?_
   have hob := rl_open (x := x) hn H
   obtain ⟨hb1, crb1, cha1, chc1, ta1, tc1, ps1, hl1, H⟩ := hob
   refine ⟨?_⟩
   refine H.ldi 0 rfl (v := .pointer (some ⟨hb1, 0, none⟩)) rfl ?_
   have h1 := H.pick [1, 6, 0, 2, 3, 4, 5] 7 (by decide)
   simp only [pk, nth, pkA, pkB, pkC, pkD, pkE, pkF] at h1
   refine Cl.sl (by kernel_rfl) (r_next06 hAl hvp (by omega) h1) fun w H => ?_
   replace H := H.pick [2, 0, 3, 4, 5, 6, 1] 7 (by decide)
   simp only [pk, nth, pkA, pkB, pkC, pkD, pkE, pkF] at H
   refine ⟨?_⟩
   refine BB.yes (decide_eq_true h0) ?_
   refine Cn.yes ?_
   refine ⟨?_⟩
   refine Cl.sl (by kernel_rfl) (r_bare H 13 (-1)) fun w H => ?_
   have h1 := H.pick [0, 5, 1, 2, 3, 4, 6] 7 (by decide)
   simp only [pk, nth, pkA, pkB, pkC, pkD, pkE, pkF] at h1
   refine Cl.by (by kernel_rfl) (r_noteO (Nat.le_trans ((hk.pp (x.p + 1))).tr (by omega)) ⟨13, -1, -1, -1, -1, -1, false, false⟩ h1) ?_
   rintro _ w ⟨tn1, tk1, rfl, H⟩
   refine ⟨_, rfl, ?_⟩
   replace H := H.pick [0, 2, 3, 4, 5, 1, 6] 7 (by decide)
   simp only [pk, nth, pkA, pkB, pkC, pkD, pkE, pkF] at H
   refine ⟨?_⟩
   refine ret1 (fn := Tryd.f20) (.bool true) rfl (by rfl) ?_
   have H0 := H
   replace H := rl_shut (x := (noteL ({ x with p := x.p + 1 }) ⟨13, -1, -1, -1, -1, -1, false, false⟩)) hl1 (by first | rfl | simp [turnL, noteL, backN_len]) hn H0
   have hc : stepL s x = (noteL ({ x with p := x.p + 1 }) ⟨13, -1, -1, -1, -1, -1, false, false⟩) := by exact step_compact hv h0
   rw [hc, decide_eq_true hv]
   exact ⟨rfl, H⟩
  ·have hgw := who_in hv h0
   obtain ⟨gk, hgk⟩ := Int.eq_ofNat_of_zero_le hgw.1
   rw [hgk] at hgw
   have hgl : gk < x.crew.length := by omega
   obtain ⟨⟨pr0, pl0, cst⟩, hone0⟩ : ∃ z, x.crew[gk]? = some z := ⟨_, List.getElem?_eq_getElem hgl⟩
   have hpr0 := hk.pr _ (List.mem_of_getElem? hone0)
   have hsm0 := hk.sm _ (List.mem_of_getElem? hone0)
   dsimp only at hpr0 hsm0
   obtain ⟨prn, rfl⟩ := Int.eq_ofNat_of_zero_le hpr0.1
   obtain ⟨pln, rfl⟩ := Int.eq_ofNat_of_zero_le hsm0.1
   have hprn : prn < Y.length := by rw [hps] at hnp; simp [progsM] at hnp; omega
   have hone : ({ x with p := x.p + 1 } : LmM).crew[gk]? = some ⟨prn, pln, cst⟩ := hone0
   refine calls_den (args := [_]) Tryd.func20 rfl (Nat.le_of_ble_eq_true (by kernel_rfl)) (by kernel_rfl) ?_
   refine ⟨?_⟩
   refine ⟨?_⟩
   have h1 := H
   refine Cl.sl (by kernel_rfl) (r_verdict hpl h1) fun w H => ?_
   refine BB.no (bne_eq_false_iff_eq.2 hv) ?_
   refine Cn.no ?_
   refine ⟨?_⟩
   have h1 := H
   have hq := r_who hpl hLA hvp hgp hk.cl (over_able hvo) h1
   rw [hgk] at hq
   refine Cl.sl (by kernel_rfl) hq fun w H => ?_
   have hob := rl_open (x := x) hn H
   obtain ⟨hb1, crb1, cha1, chc1, ta1, tc1, ps1, hl1, H⟩ := hob
   refine ⟨?_⟩
   refine H.ldi 0 rfl (v := .pointer (some ⟨hb1, 0, none⟩)) rfl ?_
   have h1 := H.pick [1, 6, 0, 2, 3, 4, 5] 7 (by decide)
   simp only [pk, nth, pkA, pkB, pkC, pkD, pkE, pkF] at h1
   refine Cl.sl (by kernel_rfl) (r_next06 hAl hvp (by omega) h1) fun w H => ?_
   replace H := H.pick [2, 0, 3, 4, 5, 6, 1] 7 (by decide)
   simp only [pk, nth, pkA, pkB, pkC, pkD, pkE, pkF] at H
   refine ⟨?_⟩
   refine BB.no (decide_eq_false (by omega)) ?_
   refine Cn.no ?_
   refine ⟨?_⟩
   have H0 := H
   replace H := rl_shut (x := { x with p := x.p + 1 }) hl1 (by first | rfl | simp [turnL, noteL, backN_len]) hn H0
   have h1 := H
   refine Cl.by (by kernel_rfl) (r_op (x := { x with p := x.p + 1 }) hps hX hone hprn h1) ?_
   rintro _ w ⟨ox, hox, ⟨hoA, _⟩, rfl, H⟩
   refine ⟨_, rfl, ?_⟩
   have hop : OpOk np ox.op := by rw [hox, ← hnp]; exact opL_ok hpo (by omega) _ _
   have hop0 := hop.a0
   have hop1 := hop.a1
   refine Nw.as #[.int .i64 0, .int .i64 0, .int .i64 0, .slice none 0 0, .bool false] 41 rfl H fun b4 w H => ?_
   refine H.st0 (cs' := #[.int .i64 ox.op.kind, .int .i64 0, .int .i64 0, .slice none 0 0, .bool false]) rfl rfl rfl fun w H => ?_
   refine H.st0 (cs' := #[.int .i64 ox.op.kind, .int .i64 ox.op.a, .int .i64 0, .slice none 0 0, .bool false]) rfl rfl rfl fun w H => ?_
   refine H.st0 (cs' := #[.int .i64 ox.op.kind, .int .i64 ox.op.a, .int .i64 ox.op.b, .slice none 0 0, .bool false]) rfl rfl rfl fun w H => ?_
   refine H.st0 (cs' := #[.int .i64 ox.op.kind, .int .i64 ox.op.a, .int .i64 ox.op.b, .slice ox.ca ox.op.cases.length ox.cc, .bool false]) rfl rfl rfl fun w H => ?_
   refine H.st0 (cs' := #[.int .i64 ox.op.kind, .int .i64 ox.op.a, .int .i64 ox.op.b, .slice ox.ca ox.op.cases.length ox.cc, .bool ox.op.dflt]) rfl rfl rfl fun w H => ?_
   refine ⟨?_⟩
   refine H.ldi 0 rfl (v := .int .i64 ox.op.kind) rfl ?_
   refine ⟨?_⟩
   refine ⟨?_⟩
   refine BB.vr fun q1 e1 => ?_
   cases q1
   ·skip
    have h1 := beq_eq_false_iff_ne.1 e1
    refine Cn.no ?_
    refine ⟨?_⟩
    refine BB.vr fun q2 e2 => ?_
    cases q2
    ·skip
     have h2 := beq_eq_false_iff_ne.1 e2
     refine Cn.no ?_
     refine ⟨?_⟩
     refine BB.vr fun q3 e3 => ?_
     cases q3
     ·skip
      have h3 := beq_eq_false_iff_ne.1 e3
      refine Cn.no ?_
      refine ⟨?_⟩
      refine BB.vr fun q4 e4 => ?_
      cases q4
      ·skip
       have h4 := beq_eq_false_iff_ne.1 e4
       refine Cn.no ?_
       refine ⟨?_⟩
       refine H.ldi 0 rfl (v := .int .i64 ox.op.kind) rfl ?_
       refine H.ldi 0 rfl (v := .int .i64 ox.op.a) rfl ?_
       refine H.ldi 0 rfl (v := .int .i64 ox.op.b) rfl ?_
       refine H.ldi 0 rfl (v := .slice ox.ca ox.op.cases.length ox.cc) rfl ?_
       refine H.ldi 0 rfl (v := .bool ox.op.dflt) rfl ?_
       have hk9 : ox.op.kind = 1 ∨ ox.op.kind = 2 ∨ ox.op.kind = 7 ∨ ox.op.kind = 8 ∨ ox.op.kind = 9 := by have := hop.k0; have := hop.k1; omega
       have h1 := H.pick [1, 0, 2] 3 (by decide)
       simp only [pk, nth, pkA, pkB, pkC, pkD, pkE, pkF] at h1
       refine Cl.sl (by kernel_rfl) (r_other (x := { x with p := x.p + 1 }) (cs := ox.op.cases) hn (hk.pp _) (by omega) ↑gk hk9 hop0 hop1 hop.pr hop.b0 hop.cap h1) fun w H => ?_
       replace H := H.pick [1, 0, 2] 3 (by decide)
       simp only [pk, nth, pkA, pkB, pkC, pkD, pkE, pkF] at H
       refine ⟨?_⟩
       refine ret1 (fn := Tryd.f20) (.bool true) rfl (by rfl) ?_
       have hc : stepL s x = (otherL { x with p := x.p + 1 } ↑gk ox.op) := by rw [step_does hv h0, hgk, show opL s x (gk : Int) = ox.op from hox.symm]; exact does_other (by assumption) (by assumption) (by assumption) (by assumption)
       rw [hc, decide_eq_true hv]
       exact ⟨rfl, H.pick [1, 2] 3 (by decide)⟩
      ·skip
       have h4 := eq_of_beq e4
       refine Cn.yes ?_
       refine ⟨?_⟩
       refine H.ldi 0 rfl (v := .int .i64 ox.op.kind) rfl ?_
       refine H.ldi 0 rfl (v := .int .i64 ox.op.a) rfl ?_
       refine H.ldi 0 rfl (v := .int .i64 ox.op.b) rfl ?_
       refine H.ldi 0 rfl (v := .slice ox.ca ox.op.cases.length ox.cc) rfl ?_
       refine H.ldi 0 rfl (v := .bool ox.op.dflt) rfl ?_
       have h1 := H.pick [1, 2, 0] 3 (by decide)
       simp only [pk, nth, pkA, pkB, pkC, pkD, pkE, pkF] at h1
       refine Cl.sl (by kernel_rfl) (r_choose (x := { x with p := x.p + 1 }) hn (hk.pp _) (by omega) hgw hdr hAd hgd hdb hoA hop h1) fun w H => ?_
       replace H := H.pick [2, 0, 1] 3 (by decide)
       simp only [pk, nth, pkA, pkB, pkC, pkD, pkE, pkF] at H
       refine ⟨?_⟩
       refine ret1 (fn := Tryd.f20) (.bool true) rfl (by rfl) ?_
       have hc : stepL s x = (chooseL s { x with p := x.p + 1 } ↑gk ox.op) := by rw [step_does hv h0, hgk, show opL s x (gk : Int) = ox.op from hox.symm]; exact does_choose (by assumption) (by assumption) (by assumption) (by assumption)
       rw [hc, decide_eq_true hv]
       exact ⟨rfl, H.pick [1, 2] 3 (by decide)⟩
     ·skip
      have h3 := eq_of_beq e3
      refine Cn.yes ?_
      refine ⟨?_⟩
      refine H.ldi 0 rfl (v := .int .i64 ox.op.a) rfl ?_
      have h1 := H.pick [1, 0, 2] 3 (by decide)
      simp only [pk, nth, pkA, pkB, pkC, pkD, pkE, pkF] at h1
      refine Cl.sl (by kernel_rfl) (r_shutC (x := { x with p := x.p + 1 }) hn (hk.pp _) (by omega) ↑gk ⟨hop0, hop1⟩ h1) fun w H => ?_
      replace H := H.pick [1, 0, 2] 3 (by decide)
      simp only [pk, nth, pkA, pkB, pkC, pkD, pkE, pkF] at H
      refine ⟨?_⟩
      refine ret1 (fn := Tryd.f20) (.bool true) rfl (by rfl) ?_
      have hc : stepL s x = (shutL { x with p := x.p + 1 } ↑gk ox.op.a) := by rw [step_does hv h0, hgk, show opL s x (gk : Int) = ox.op from hox.symm]; exact does_shut (by assumption) (by assumption) (by assumption)
      rw [hc, decide_eq_true hv]
      exact ⟨rfl, H.pick [1, 2] 3 (by decide)⟩
    ·skip
     have h2 := eq_of_beq e2
     refine Cn.yes ?_
     refine ⟨?_⟩
     refine H.ldi 0 rfl (v := .int .i64 ox.op.a) rfl ?_
     refine Mn.pure (.agg #[.bool false, .int .i64 ox.op.a, .int .i64 0]) (by kernel_rfl) ?_
     have h1 := H.pick [1, 0, 2] 3 (by decide)
     simp only [pk, nth, pkA, pkB, pkC, pkD, pkE, pkF] at h1
     refine Cl.sl (by kernel_rfl) (r_aloneC (x := { x with p := x.p + 1 }) hn (hk.pp _) (by omega) hgw false ⟨hop0, hop1⟩ 0 h1) fun w H => ?_
     replace H := H.pick [1, 0, 2] 3 (by decide)
     simp only [pk, nth, pkA, pkB, pkC, pkD, pkE, pkF] at H
     refine ⟨?_⟩
     refine ret1 (fn := Tryd.f20) (.bool true) rfl (by rfl) ?_
     have hc : stepL s x = (aloneL { x with p := x.p + 1 } ↑gk ⟨false, ox.op.a, 0⟩) := by rw [step_does hv h0, hgk, show opL s x (gk : Int) = ox.op from hox.symm]; exact does_alone4 (by assumption) (by assumption)
     rw [hc, decide_eq_true hv]
     exact ⟨rfl, H.pick [1, 2] 3 (by decide)⟩
   ·skip
    have h1 := eq_of_beq e1
    refine Cn.yes ?_
    refine ⟨?_⟩
    refine H.ldi 0 rfl (v := .int .i64 ox.op.a) rfl ?_
    refine H.ldi 0 rfl (v := .int .i64 ox.op.b) rfl ?_
    refine Mn.pure (.agg #[.bool true, .int .i64 ox.op.a, .int .i64 ox.op.b]) (by kernel_rfl) ?_
    have h1 := H.pick [1, 0, 2] 3 (by decide)
    simp only [pk, nth, pkA, pkB, pkC, pkD, pkE, pkF] at h1
    refine Cl.sl (by kernel_rfl) (r_aloneC (x := { x with p := x.p + 1 }) hn (hk.pp _) (by omega) hgw true ⟨hop0, hop1⟩ ox.op.b h1) fun w H => ?_
    replace H := H.pick [1, 0, 2] 3 (by decide)
    simp only [pk, nth, pkA, pkB, pkC, pkD, pkE, pkF] at H
    refine ⟨?_⟩
    refine ret1 (fn := Tryd.f20) (.bool true) rfl (by rfl) ?_
    have hc : stepL s x = (aloneL { x with p := x.p + 1 } ↑gk ⟨true, ox.op.a, ox.op.b⟩) := by rw [step_does hv h0, hgk, show opL s x (gk : Int) = ox.op from hox.symm]; exact does_alone3 (by assumption)
    rw [hc, decide_eq_true hv]
    exact ⟨rfl, H.pick [1, 2] 3 (by decide)⟩
 ·skip
  refine calls_den (args := [_]) Tryd.func20 rfl (Nat.le_of_ble_eq_true (by kernel_rfl)) (by kernel_rfl) ?_
  refine ⟨?_⟩
  refine ⟨?_⟩
  have h1 := H
  refine Cl.sl (by kernel_rfl) (r_verdict hpl h1) fun w H => ?_
  refine BB.yes (bne_iff_ne.2 hv) ?_
  refine Cn.yes ?_
  refine ⟨?_⟩
  refine ret1 (fn := Tryd.f20) (.bool false) rfl (by rfl) ?_
  have hc : stepL s x = x := by exact step_stop hv
  rw [hc, decide_eq_false hv]
  exact ⟨rfl, H⟩
end Go.Proofs.YtchkaaeoffmjnaaDoor
namespace Go.Proofs.YtchkaaeoffmjnaaDoor
set_option linter.unusedVariables false
set_option linter.unusedSimpArgs false
open Go.RowKit
def withinF (n c np : Int) : Bool :=
 if c = 112 then decide (0 ≤ n ∧ n < np) else if c = 99 ∨ c = 120 then decide (0 ≤ n ∧ n < 8) else if c = 109 then decide (0 ≤ n ∧ n ≤ 4) else if c = 118 then decide (0 ≤ n ∧ n ≤ 99) else n == 0
def rowF (k : Int) : Int × Int :=
 if k = 1 then (112, 46) else if k = 2 then (99, 109) else if k = 3 then (99, 118) else if k = 4 then (99, 46) else if k = 5 then (99, 46) else if k = 6 then (46, 46) else if k = 7 then (120, 46) else if k = 8 then (120, 46) else (46, 46)
def caseR (c : CaseM) : Bool := withinF c.chan 99 0 && (!c.send || withinF c.value 118 0) && (c.send || c.value == 0)
def opE (np : Int) (o : OpM) : Int :=
 if np < 1 ∨ 8 < np ∨ o.kind < 1 ∨ 9 < o.kind then 1
 else if 4 < o.cases.length then 2
 else if ¬ (withinF o.a (rowF o.kind).1 np = true ∧ withinF o.b (rowF o.kind).2 np = true) then 4
 else if o.kind ≠ 6 ∧ (o.cases.length ≠ 0 ∨ o.dflt = true) then 4
 else if o.cases.all caseR = true then 0 else 4
def planOk (n : Int) : Bool := decide (-1 ≤ n ∧ n ≤ 1000)
def drawOk (n : Int) : Bool := decide (0 ≤ n ∧ n ≤ 1000)
def progOk (np : Int) (p : List OpM) : Bool := p.all (fun o => opE np o == 0)
def shortP (p : List OpM) : Bool := decide (p.length ≤ 32)
def checkE (s : ScrM) : Int :=
 if s.t < 1 ∨ 256 < s.t ∨ s.m < 1 ∨ 1048576 < s.m then 1
 else if 8 < s.progs.length ∨ 200 < s.plan.length ∨ 64 < s.draws.length then 2
 else if s.progs.all shortP = false then 2
 else if s.progs.length = 0 then 4
 else if s.progs.all (progOk s.progs.length) = false then 4
 else if s.plan.all planOk = false then 4
 else if s.draws.all drawOk = false then 4
 else 0
section
variable {α : Type} {L : List α} {p : α → Bool} {j : Nat} {z : α}
theorem all_step (h : (L.take j).all p = true) (hz : L[j]? = some z) (hp : p z = true) : (L.take (j + 1)).all p = true := by
 rw [List.take_add_one, hz, List.all_append, h]
 simp [hp]
theorem all_no (hz : L[j]? = some z) (hp : p z = false) : L.all p = false := by
 rw [List.all_eq_false]
 exact ⟨z, List.mem_of_getElem? hz, by simp [hp]⟩
theorem all_for (h : L.all p = true) (hz : L[j]? = some z) : p z = true := List.all_eq_true.1 h z (List.mem_of_getElem? hz)
end
/-- What a right script is. -/
structure Right (s : ScrM) : Prop where
 n1 : 1 ≤ s.progs.length
 pl : s.plan.length ≤ 200
 dl : s.draws.length ≤ 64
 ok : ProgsOk s.progs
 p0 : ∀ z ∈ s.plan, -1 ≤ z
 p1 : ∀ z ∈ s.plan, z ≤ 1000
 d0 : ∀ z ∈ s.draws, 0 ≤ z
 ol : ∀ p ∈ s.progs, p.length ≤ 32
theorem within_c {n np : Int} (h : withinF n 99 np = true) : 0 ≤ n ∧ n < 8 := by
 unfold withinF at h
 simpa using h
theorem opE_ok {np : Nat} {o : OpM} (h : opE np o = 0) : OpOk np o := by
 unfold opE at h
 split at h
 ·cases h
 ·rename_i h1
  split at h
  ·cases h
  ·rename_i h2
   split at h
   ·cases h
   ·rename_i h3
    split at h
    ·cases h
    ·split at h
     ·rename_i h5
      have h3 := Classical.not_not.1 h3
      obtain ⟨ha, hb⟩ := h3
      have hkind : o.kind = 1 ∨ o.kind = 2 ∨ o.kind = 3 ∨ o.kind = 4 ∨ o.kind = 5 ∨ o.kind = 6 ∨ o.kind = 7 ∨ o.kind = 8 ∨ o.kind = 9 := by omega
      have key : 0 ≤ o.a ∧ o.a < 8 ∧ (o.kind = 1 → o.a < (np : Int)) ∧ 0 ≤ o.b ∧ o.b ≤ 99 ∧ (o.kind = 2 → o.b ≤ 4) ∧ (o.kind = 4 → o.b = 0) := by
       rcases hkind with hk | hk | hk | hk | hk | hk | hk | hk | hk <;> rw [hk] at ha hb <;> simp [rowF, withinF] at ha hb <;> omega
      exact ⟨by omega, by omega, key.1, key.2.1, key.2.2.1, key.2.2.2.1, key.2.2.2.2.1, key.2.2.2.2.2.1, key.2.2.2.2.2.2, by omega, fun c hc => by
       have := List.all_eq_true.1 h5 c hc
       unfold caseR at this
       simp only [Bool.and_eq_true] at this
       exact within_c this.1.1⟩
     ·cases h
theorem checkE_right {s : ScrM} (h : checkE s = 0) : Right s := by
 unfold checkE at h
 split at h
 ·cases h
 ·split at h
  ·cases h
  ·rename_i h2
   split at h
   ·cases h
   ·rename_i h3
    split at h
    ·cases h
    ·rename_i h4
     split at h
     ·cases h
     ·rename_i h5
      split at h
      ·cases h
      ·rename_i h6
       split at h
       ·cases h
       ·rename_i h7
        simp only [Bool.not_eq_false] at h3 h5 h6 h7
        refine ⟨by omega, by omega, by omega, fun p hp o ho => ?_, fun z hz => ?_, fun z hz => ?_, fun z hz => ?_, fun p hp => ?_⟩
        ·have := List.all_eq_true.1 h5 p hp
         have := List.all_eq_true.1 this o ho
         exact opE_ok (eq_of_beq this)
        ·have := List.all_eq_true.1 h6 z hz
         simp [planOk] at this
         exact this.1
        ·have := List.all_eq_true.1 h6 z hz
         simp [planOk] at this
         exact this.2
        ·have := List.all_eq_true.1 h7 z hz
         simp [drawOk] at this
         exact this.1
        ·have := List.all_eq_true.1 h3 p hp
         simpa [shortP] using this
end Go.Proofs.YtchkaaeoffmjnaaDoor
