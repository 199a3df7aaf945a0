/- Texts of the proof. -/
import Derived.Test.YtoamjodmidbmbaaGreatDoorX06
set_option linter.unusedVariables false
set_option linter.unusedSimpArgs false
namespace Go.Proofs.YtoamjodmidbmbaaGreatDoor
open Go.RowKit
set_option maxRecDepth 100000
theorem r_noteO {w : World} {F : List Piece} {lb : Nat} {t m : Int} {v0 v1 v2 v3 v4 v5 : Value} {pan : Bool} {n0 n1 n2 n3 n4 n5 n6 n7 : Int} {ta : Option Addr} {tc : Nat} {tr : List Ev} (ht : tr.length ≤ 1000000) (e : Ev)
  (H : SL w (row lb #[.int .i64 t, .int .i64 m, v0, v1, v2, v3, v4, v5, .int .i64 n0, .int .i64 n1, .int .i64 n2, .int .i64 n3, .int .i64 n4, .int .i64 n5, .int .i64 n6, .int .i64 n7, .slice ta tr.length tc, .bool pan] 122 :: Slc 53 8 (.slice ta tr.length tc) tr.length (tr.flatMap Ev.cells) :: F)) : Calls Tryz.prog 103 #[.pointer (some ⟨lb, 0, none⟩), e.agg] w fun o w' => ∃ ta' tc', o = .returned (.tuple #[]) ∧ SL w' (row lb #[.int .i64 t, .int .i64 m, v0, v1, v2, v3, v4, v5, .int .i64 n0, .int .i64 n1, .int .i64 n2, .int .i64 n3, .int .i64 n4, .int .i64 n5, .int .i64 n6, .int .i64 n7, .slice ta' ((tr ++ [e]).length) tc', .bool pan] 122 :: Slc 53 8 (.slice ta' (tr ++ [e]).length tc') (tr ++ [e]).length ((tr ++ [e]).flatMap Ev.cells) :: F) := by
 obtain ⟨kind, g, chan, case_, value, mate, send, ok⟩ := e
 refine calls_d (args := [_, _]) Tryz.func103 rfl ?_
 refine ⟨Nw.as #[.int .i64 kind, .int .i64 g, .int .i64 chan, .int .i64 case_, .int .i64 value, .int .i64 mate, .bool send, .bool ok] 53 rfl H fun b3 w H => ?_⟩
 refine ⟨Drw.of [(0, true), (1, true), (2, true), (3, true), (4, true), (5, true), (6, false), (7, false), (8, true), (9, true), (10, false)] (by kernel_rfl) mixed (fun w => SL w _) (H.drew.pi [0, 1] 3) ?_⟩
 replace H := H.drew
 refine LdC.i 1 rfl (v := .slice ta tr.length tc) rfl (LdC.i 0 rfl (v := .int .i64 kind) rfl (LdC.i 0 rfl (v := .int .i64 g) rfl (LdC.i 0 rfl (v := .int .i64 chan) rfl (LdC.i 0 rfl (v := .int .i64 case_) rfl (LdC.i 0 rfl (v := .int .i64 value) rfl (LdC.i 0 rfl (v := .int .i64 mate) rfl (LdC.i 0 rfl (v := .bool send) rfl (LdC.i 0 rfl (v := .bool ok) rfl (Mn.new (fun b => .slice (some ⟨b, 0, none⟩) 1 1) #[.int .i64 kind, .int .i64 g, .int .i64 chan, .int .i64 case_, .int .i64 value, .int .i64 mate, .bool send, .bool ok] 53 (by kernel_rfl) H fun b10 w H => ?_)))))))))
 refine ⟨.inr (H.pi [1, 2] 4), ?_⟩
 refine SL.appS H.up3 (.tmp 8) (.tmp 10) 22 (.agg #[.int .i64 0, .int .i64 0, .int .i64 0, .int .i64 0, .int .i64 0, .int .i64 0, .bool false, .bool false]) 56 (by rfl) (by kernel_rfl) (by kernel_rfl) (by rfl) (by decide) (by rfl) (some ⟨b10, 0, none⟩) 1 1 [.int .i64 kind, .int .i64 g, .int .i64 chan, .int .i64 case_, .int .i64 value, .int .i64 mate, .bool send, .bool ok] (by rfl) (H.rdRow 0 rfl (by rfl) (by decide)) (by rfl) (by omega) (by decide) (by decide) fun g1 c1 w H => ?_
 refine ⟨.inr (H.pi [2, 3] 4), ?_⟩
 refine H.st3 (cs' := #[.int .i64 t, .int .i64 m, v0, v1, v2, v3, v4, v5, .int .i64 n0, .int .i64 n1, .int .i64 n2, .int .i64 n3, .int .i64 n4, .int .i64 n5, .int .i64 n6, .int .i64 n7, .slice (some ⟨g1, 0, none⟩) (tr.length + 1) c1, .bool pan]) rfl rfl rfl fun w H => ?_
 refine ⟨.inl rfl, ?_⟩
 refine ret0 rfl ?_
 rw [show tr.flatMap Ev.cells ++ [.int .i64 kind, .int .i64 g, .int .i64 chan, .int .i64 case_, .int .i64 value, .int .i64 mate, .bool send, .bool ok] = (tr ++ [(⟨kind, g, chan, case_, value, mate, send, ok⟩ : Ev)]).flatMap Ev.cells from by simp [Ev.cells], show tr.length + 1 = (tr ++ [(⟨kind, g, chan, case_, value, mate, send, ok⟩ : Ev)]).length from by simp] at H
 exact ⟨_, _, rfl, H.pi [3, 0] 4⟩
theorem gsN_snoc {np k j : Nat} {x : LmM} {ps : List Nat} (hk : Lk np k x) (hj : j < 8) {v : Value} (hv : adr (if 0 ≤ numL x (j : Int) then ps[(numL x (j : Int)).toNat]? else none) = v) : pcs (gsN (x.name.take j) ps) ++ [v] = pcs (gsN (x.name.take (j + 1)) ps) := by
 subst hv
 have hj' : j < x.name.length := by rw [hk.n8]; exact hj
 rw [List.take_add_one, List.getElem?_eq_getElem hj', numL_get hj']
 unfold pcs gsN
 rw [List.map_map, List.map_map, List.map_append]
 rfl
theorem r_pipes {w : World} {F : List Piece} {np k lb : Nat} {x : LmM} {t m : Int} {vp vl vd vh vc tv : Value} {pan : Bool} {n0 n1 n2 n3 n4 n5 n6 n7 : Int} {ps : List Nat} {cha : Option Addr} {chc : Nat} (hn : x.name = [n0, n1, n2, n3, n4, n5, n6, n7]) (hk : Lk np k x) (hl : ps.length = x.M.length)
  (H : SL w (row lb #[.int .i64 t, .int .i64 m, vp, vl, vd, vh, vc, .slice cha x.M.length chc, .int .i64 n0, .int .i64 n1, .int .i64 n2, .int .i64 n3, .int .i64 n4, .int .i64 n5, .int .i64 n6, .int .i64 n7, tv, .bool pan] 122 :: Slc 193 1 (.slice cha x.M.length chc) x.M.length (pcs (ps.map some)) :: F)) : Calls Tryz.prog 134 #[.pointer (some ⟨lb, 0, none⟩)] w fun o w' => ∃ oa oc, o = .returned (.slice oa 8 oc) ∧ SL w' (Slc 193 1 (.slice oa 8 oc) 8 (pcs (gsN x.name ps)) :: row lb #[.int .i64 t, .int .i64 m, vp, vl, vd, vh, vc, .slice cha x.M.length chc, .int .i64 n0, .int .i64 n1, .int .i64 n2, .int .i64 n3, .int .i64 n4, .int .i64 n5, .int .i64 n6, .int .i64 n7, tv, .bool pan] 122 :: Slc 193 1 (.slice cha x.M.length chc) x.M.length (pcs (ps.map some)) :: F) := by
 refine calls_d (args := [_]) Tryz.func134 rfl ?_
 refine ⟨⟨⟨⟨den.loop (ι := Nat × Option Addr × Nat) [(3, 33)] (by kernel_rfl) (fun (j, oa, oc) => [(3, .slice oa j oc), (4, .int .i64 ↑j)]) (fun (j, oa, oc) w => (j ≤ 8) ∧ SL w (Slc 193 1 (.slice oa j oc) j (pcs (gsN (x.name.take j) ps)) :: row lb #[.int .i64 t, .int .i64 m, vp, vl, vd, vh, vc, .slice cha x.M.length chc, .int .i64 n0, .int .i64 n1, .int .i64 n2, .int .i64 n3, .int .i64 n4, .int .i64 n5, .int .i64 n6, .int .i64 n7, tv, .bool pan] 122 :: Slc 193 1 (.slice cha x.M.length chc) x.M.length (pcs (ps.map some)) :: F)) (fun (j, oa, oc) => 8 - j) (0, none, 0) ⟨rfl, rfl, trivial⟩ ⟨Nat.zero_le _, (SL.slcNil 193 1 H)⟩ ?_⟩⟩⟩⟩
 rintro ⟨j, oa, oc⟩ s w ⟨hc, H⟩
 have hob := Nat.lt_or_ge j 8
 rcases hob with hj | hj
 ·have hob := num_or hk hl hj
  rcases hob with ⟨hz, hnm⟩ | ⟨i, g, hni, hi, hg, hnm⟩
  ·refine ⟨BB.yd ?_⟩
   refine Cn.yes (⟨⟨Ix.at j 1 (by kernel_rfl) rfl hj ?_⟩⟩)
   refine H.ldi 1 rfl (v := .int .i64 (numL x ↑j)) (name_cell (x := x) hn j hj) (BB.yd (Cn.yes (⟨Mn.new (fun b => .slice (some ⟨b, 0, none⟩) 1 1) #[.pointer none] 193 (by kernel_rfl) H fun b17 w H => ?_⟩)))
   refine SL.appS H.up1 (.tmp 16) (.tmp 17) 119 (.pointer none) 8 (by rfl) (by kernel_rfl) (by kernel_rfl) (by rfl) (by decide) (by rfl) (some ⟨b17, 0, none⟩) 1 1 [.pointer none] (by rfl) (H.rdRow 0 rfl (by rfl) (by decide)) (by rfl) (by omega) (by decide) (by decide) fun g1 c1 w H => ?_
   refine ⟨IW.i j ?_⟩
   replace H := H.pi [0, 2, 3] 4
   simp only [pl, nth, drL] at H
   rw [show pcs (gsN (x.name.take j) ps) ++ [.pointer none] = pcs (gsN (x.name.take (j + 1)) ps) from gsN_snoc hk hj (by rw [if_neg (by omega)]; rfl)] at H
   exact ⟨(j + 1, (some ⟨g1, 0, none⟩), c1), ⟨rfl, rfl, trivial⟩, ⟨(by omega : j + 1 ≤ 8), H⟩, (show 8 - (j + 1) < 8 - j by omega)⟩
  have hob := SL.slcAddr H.up2 (by omega)
  obtain ⟨cb, rfl⟩ := hob
  refine ⟨BB.yd ?_⟩
  refine Cn.yes (⟨⟨Ix.at j 1 (by kernel_rfl) rfl hj ?_⟩⟩)
  refine H.ldi 1 rfl (v := .int .i64 (numL x ↑j)) (name_cell (x := x) hn j hj) (BB.nd (Cn.no (⟨Drw.of [(0, true), (1, true), (2, true), (3, true), (4, true), (5, true), (6, true), (7, true), (8, true), (9, true), (10, true), (11, true), (12, true), (13, false), (14, false), (15, true)] (by kernel_rfl) mixed (fun w => SL w _) (H.drew.pi [1, 2] 3) ?_⟩)))
  replace H := H.drew
  refine LdC.i 0 rfl (v := .slice (some ⟨cb, 0, none⟩) x.M.length chc) rfl (Ix.at j 1 (by kernel_rfl) rfl hj ?_)
  refine LdC.i 0 rfl (v := .int .i64 (numL x ↑j)) (name_cell (x := x) hn j hj) (Ix.at0 i 1 (by kernel_rfl) (hni) (hi) ?_)
  refine LdC.S 1 rfl (v := .pointer (some ⟨g, 0, none⟩)) ((by rw [Nat.mul_one]; unfold pcs; rw [List.getElem?_map, hg]; rfl)) ?_
  refine Mn.new (fun b => .slice (some ⟨b, 0, none⟩) 1 1) #[.pointer (some ⟨g, 0, none⟩)] 193 (by kernel_rfl) H fun b32 w H => ?_
  refine ⟨.inr (H.pi [2, 3] 4), ?_⟩
  refine SL.appS H.up1 (.tmp 19) (.tmp 32) 119 (.pointer none) 8 (by rfl) (by kernel_rfl) (by kernel_rfl) (by rfl) (by decide) (by rfl) (some ⟨b32, 0, none⟩) 1 1 [.pointer (some ⟨g, 0, none⟩)] (by rfl) (H.rdRow 0 rfl (by rfl) (by decide)) (by rfl) (by omega) (by decide) (by decide) fun g2 c2 w H => ?_
  refine ⟨.inr (H.pi [2, 3] 4), ?_⟩
  refine ⟨IW.i j ?_⟩
  replace H := H.pi [0, 2, 3] 4
  simp only [pl, nth, drL] at H
  rw [show pcs (gsN (x.name.take j) ps) ++ [.pointer (some ⟨g, 0, none⟩)] = pcs (gsN (x.name.take (j + 1)) ps) from gsN_snoc hk hj (by rw [if_pos (by omega), hni, Int.toNat_natCast]; rw [List.getElem?_map] at hg; cases hp : ps[i]? with | none => (rw [hp] at hg; cases hg) | some q => (rw [hp] at hg; cases hg; rfl))] at H
  exact ⟨(j + 1, (some ⟨g2, 0, none⟩), c2), ⟨rfl, rfl, trivial⟩, ⟨(by omega : j + 1 ≤ 8), H⟩, (show 8 - (j + 1) < 8 - j by omega)⟩
 refine ⟨BB.nd ?_⟩
 refine Cn.no (⟨ret1 (.slice oa j oc) rfl (by rfl) ?_⟩)
 have hob : j = 8 := by omega
 obtain rfl := hob
 rw [List.take_of_length_le (by rw [hk.n8]; exact Nat.le_refl _)] at H
 exact ⟨_, _, rfl, H.pi [0, 1, 2] 3⟩
theorem r_wake {w : World} {F : List Piece} {np k lb : Nat} {x : LmM} {t m : Int} {vp vl vd : Value} {n0 n1 n2 n3 n4 n5 n6 n7 : Int} (hn : x.name = [n0, n1, n2, n3, n4, n5, n6, n7]) (hk : Lk np k x) (hkb : k ≤ 999000) (e : Ev) (H : SL w (RlP lb ⟨t, m, vp, vl, vd⟩ x :: F)) : Calls Tryz.prog 141 #[.pointer (some ⟨lb, 0, none⟩), e.agg] w fun o w' => o = .returned (.tuple #[]) ∧ SL w' (RlP lb ⟨t, m, vp, vl, vd⟩ (wakeL x e) :: F) := by
 obtain ⟨kind, g, chan, case_, value, mate, send, ok⟩ := e
 have hob := rl_open (x := x) hn H
 obtain ⟨hb1, crb1, cha1, chc1, ta1, tc1, ps1, hl1, H⟩ := hob
 refine calls_d (args := [_, _]) Tryz.func141 rfl ?_
 refine ⟨Nw.as #[.int .i64 kind, .int .i64 g, .int .i64 chan, .int .i64 case_, .int .i64 value, .int .i64 mate, .bool send, .bool ok] 53 rfl H fun b3 w H => ?_⟩
 refine ⟨H.ldi 0 rfl (v := .int .i64 kind) rfl ?_⟩
 refine H.ldi 0 rfl (v := .int .i64 g) rfl (H.ldi 0 rfl (v := .int .i64 chan) rfl (H.ldi 0 rfl (v := .int .i64 case_) rfl (H.ldi 0 rfl (v := .int .i64 value) rfl (H.ldi 0 rfl (v := .int .i64 mate) rfl (H.ldi 0 rfl (v := .bool send) rfl (H.ldi 0 rfl (v := .bool ok) rfl ?_))))))
 have h1 := H.pi [1, 6, 0, 2, 3, 4, 5] 7
 simp only [pl, nth, drL] at h1
 refine Cl.b (r_noteO (Nat.le_trans (hk).tr (by omega)) ⟨kind, g, chan, case_, value, mate, send, ok⟩ h1) ?_
 rintro _ w ⟨tn1, tk1, rfl, H⟩
 refine ⟨_, rfl, ?_⟩
 replace H := H.pi [2, 0, 3, 4, 5, 6, 1] 7
 simp only [pl, nth, drL] at H
 refine ⟨Drw.of [(0, true), (1, true), (2, true), (3, true), (4, true), (5, true), (6, false)] (by kernel_rfl) mixed (fun w => SL w _) H.drew ?_⟩
 replace H := H.drew
 refine LdC.i 0 rfl (v := .int .i64 g) rfl (LdC.i 1 rfl (v := .slice cha1 x.M.length chc1) rfl ?_)
 have h1 := H.pi [5, 4, 0, 1, 2, 3, 6] 7
 simp only [pl, nth, drL] at h1
 refine Cl.b (q_leave (x := (noteL x ⟨kind, g, chan, case_, value, mate, send, ok⟩)) g ((hk.note ⟨kind, g, chan, case_, value, mate, send, ok⟩)) (by omega) hl1 Reader.slc h1) ?_
 rintro _ w ⟨⟨r, rfl⟩, H⟩
 refine ⟨_, rfl, ?_⟩
 replace H := H.pi [2, 3, 4, 5, 1, 0, 6] 7
 simp only [pl, nth, drL] at H
 refine ⟨.inl rfl, ?_⟩
 refine ⟨Drw.of [(0, true), (1, true), (2, true), (3, true), (4, true), (5, true), (6, false)] (by kernel_rfl) mixed (fun w => SL w _) H.drew ?_⟩
 replace H := H.drew
 refine LdC.i 1 rfl (v := .pointer (some ⟨crb1, 0, none⟩)) rfl (LdC.i 0 rfl (v := .int .i64 g) rfl ?_)
 have h1 := H.pi [3, 0, 1, 2, 4, 5, 6] 7
 simp only [pl, nth, drL] at h1
 refine Cl.s (q_turn (L := ({ (noteL x ⟨kind, g, chan, case_, value, mate, send, ok⟩) with M := (noteL x ⟨kind, g, chan, case_, value, mate, send, ok⟩).M.map (fun y => dropM y g) }).crew) (Small.more (((hk.note ⟨kind, g, chan, case_, value, mate, send, ok⟩).drop g)).sm (by omega)) g 1 0 (by decide) h1) fun w H => ?_
 replace H := H.pi [1, 2, 3, 0, 4, 5, 6] 7
 simp only [pl, nth, drL] at H
 refine ⟨.inl rfl, ?_⟩
 refine ret0 rfl ?_
 have H0 := H.pi [1, 2, 3, 4, 5, 6, 0] 7
 simp only [pl, nth, drL] at H0
 replace H := rl_shut (x := (turnL ({ (noteL x ⟨kind, g, chan, case_, value, mate, send, ok⟩) with M := (noteL x ⟨kind, g, chan, case_, value, mate, send, ok⟩).M.map (fun y => dropM y g) }) g 1 0)) hl1 (by first | rfl | simp [turnL, noteL, backN_len]) hn H0
 have hc : wakeL x ⟨kind, g, chan, case_, value, mate, send, ok⟩ = (turnL ({ (noteL x ⟨kind, g, chan, case_, value, mate, send, ok⟩) with M := (noteL x ⟨kind, g, chan, case_, value, mate, send, ok⟩).M.map (fun y => dropM y g) }) g 1 0) := by rfl
 rw [hc]
 exact ⟨rfl, H.pi [0] 2⟩
theorem Lk.tried {np k : Nat} {x : LmM} (hk : Lk np k x) (c : CaseM) : Lk np (k + 1) { x with M := backN x.name (tryF (okN x) (pipesN x) c).2 x.M } :=
 hk.back (AllInv.try (M := pipesN x) hk.inv.named (by rw [hk.pipes_len, hk.ok_len]) c) (WtIn.try (M := pipesN x) hk.wt.named _ c) (Nat.le_succ k)
set_option maxHeartbeats 4000000 in
theorem r_talk {w : World} {F : List Piece} {np k lb : Nat} {x : LmM} {t m : Int} {vp vl vd : Value} {n0 n1 n2 n3 n4 n5 n6 n7 : Int} (hn : x.name = [n0, n1, n2, n3, n4, n5, n6, n7]) (hk : Lk np k x) (hkb : k ≤ 998000) (g : Int) {cj : Nat} (hcj : cj < 8) (sd : Bool) (cv ca : Int) (H : SL w (RlP lb ⟨t, m, vp, vl, vd⟩ x :: F)) :
  Calls Tryz.prog 136 #[.pointer (some ⟨lb, 0, none⟩), .int .i64 g, .agg #[.bool sd, .int .i64 (cj : Int), .int .i64 cv], .int .i64 ca] w fun o w' => o = .returned (.tuple #[]) ∧ SL w' (RlP lb ⟨t, m, vp, vl, vd⟩ (talkL x g ⟨sd, (cj : Int), cv⟩ ca) :: F) := by
 obtain ⟨⟨⟨⟨rd, ok_, wk, gv, ⟨mg, mc, mv⟩⟩, er⟩, ys⟩, hR⟩ : ∃ R, tryF (okN x) (pipesN x) ⟨sd, (cj : Int), cv⟩ = R := ⟨_, rfl⟩
 have hT1 := hk.tried ⟨sd, (cj : Int), cv⟩
 rw [hR] at hT1
 dsimp only at hT1
 have hob := rl_open (x := x) hn H
 obtain ⟨hb1, crb1, cha1, chc1, ta1, tc1, ps1, hl1, H⟩ := hob
 refine calls_d (args := [_, _, _, _]) Tryz.func136 rfl ?_
 refine ⟨Nw.as #[.bool sd, .int .i64 ↑cj, .int .i64 cv] 162 rfl H fun b6 w H => ?_⟩
 refine RgX.cut (id := 1) (ι := Nat) [(8, 9), (12, 18)] (by kernel_rfl) (fun bz => [(8, .pointer (some ⟨bz, 0, none⟩)), (9, .int .i64 er)]) (fun bz w => True ∧ SL w (row bz #[.bool rd, .bool ok_, .bool wk, .int .i64 gv, .int .i64 mg, .int .i64 mc, .int .i64 mv] 222 :: row b6 #[.bool sd, .int .i64 ↑cj, .int .i64 cv] 162 :: row lb #[.int .i64 t, .int .i64 m, vp, vl, vd, .pointer (some ⟨hb1, 0, none⟩), .pointer (some ⟨crb1, 0, none⟩), .slice cha1 x.M.length chc1, .int .i64 n0, .int .i64 n1, .int .i64 n2, .int .i64 n3, .int .i64 n4, .int .i64 n5, .int .i64 n6, .int .i64 n7, .slice ta1 x.tr.length tc1, .bool x.pan] 122 :: row hb1 #[vl, vd, .int .i64 ↑x.p, .int .i64 ↑x.d] 166 :: RCrewP crb1 x.crew :: Slc 193 1 (.slice cha1 x.M.length chc1) x.M.length (pcs (ps1.map some)) :: RsP (ps1.map some) ({ x with M := backN x.name ys x.M } : LmM).M :: Slc 53 8 (.slice ta1 x.tr.length tc1) x.tr.length (x.tr.flatMap Ev.cells) :: F)) ?_ ?_
 ·refine ⟨Drw.oft (.calm 0 (.calm 1 (.two 2 false (.two 3 true (.pure 4 (.pure 5 (.pure 6 (.act 7 true (.act 8 true (.pure 9 .nil)))))) 7 false (.act 3 true (.pure 4 (.pure 5 (.pure 6 (.act 8 true (.pure 9 .nil))))))) 7 false (.act 2 false (.act 3 true (.pure 4 (.pure 5 (.pure 6 (.act 8 true (.pure 9 .nil)))))))))) (by kernel_rfl) mixed (fun w => SL w _) H.drew ?_⟩
  replace H := H.drew
  refine LdC.i 0 rfl (v := .bool sd) rfl (LdC.i 0 rfl (v := .int .i64 ↑cj) rfl (LdC.i 0 rfl (v := .int .i64 cv) rfl ?_))
  refine ⟨?_, ?_⟩
  ·have h1 := H.pi [1, 4, 0, 2, 3, 5, 6] 7
   simp only [pl, nth, drL] at h1
   refine Cl.b (r_pipes (x := x) hn (hk) hl1 h1) ?_
   rintro _ w ⟨oa1, oc1, rfl, H⟩
   refine ⟨_, rfl, ?_⟩
   replace H := H.pi [0, 3, 1, 4, 5, 2, 6, 7] 8
   simp only [pl, nth, drL] at H
   refine ⟨.inr (H.pi [1, 2, 3, 4, 5, 6, 7] 8), ?_⟩
   refine ⟨?_, ?_⟩
   ·have h1 := H.pi [6, 0, 1, 2, 3, 4, 5, 7] 8
    simp only [pl, nth, drL] at h1
    have hT := q_try (x := x) (cb := oc1) hk (by omega) hl1 ⟨sd, (↑cj : Int), cv⟩ Reader.slc h1
    rw [hR] at hT
    dsimp only at hT
    refine Cl.s hT fun w H => ?_
    replace H := H.pi [1, 2, 3, 4, 5, 6, 0, 7] 8
    simp only [pl, nth, drL] at H
    refine ⟨.inl rfl, ?_⟩
    refine Nw.as #[.bool false, .bool false, .bool false, .int .i64 0, .int .i64 0, .int .i64 0, .int .i64 0] 222 rfl H fun b8 w H => ?_
    refine ⟨.inl rfl, ?_⟩
    refine H.st0 (cs' := #[.bool rd, .bool false, .bool false, .int .i64 0, .int .i64 0, .int .i64 0, .int .i64 0]) rfl rfl rfl fun w H => ?_
    refine H.st0 (cs' := #[.bool rd, .bool ok_, .bool false, .int .i64 0, .int .i64 0, .int .i64 0, .int .i64 0]) rfl rfl rfl fun w H => ?_
    refine H.st0 (cs' := #[.bool rd, .bool ok_, .bool wk, .int .i64 0, .int .i64 0, .int .i64 0, .int .i64 0]) rfl rfl rfl fun w H => ?_
    refine H.st0 (cs' := #[.bool rd, .bool ok_, .bool wk, .int .i64 gv, .int .i64 0, .int .i64 0, .int .i64 0]) rfl rfl rfl fun w H => ?_
    refine H.st0 (cs' := #[.bool rd, .bool ok_, .bool wk, .int .i64 gv, .int .i64 mg, .int .i64 0, .int .i64 0]) rfl rfl rfl fun w H => ?_
    refine H.st0 (cs' := #[.bool rd, .bool ok_, .bool wk, .int .i64 gv, .int .i64 mg, .int .i64 mc, .int .i64 0]) rfl rfl rfl fun w H => ?_
    refine H.st0 (cs' := #[.bool rd, .bool ok_, .bool wk, .int .i64 gv, .int .i64 mg, .int .i64 mc, .int .i64 mv]) rfl rfl rfl fun w H => ?_
    refine ⟨.inl rfl, ?_⟩
    exact ⟨b8, ⟨rfl, rfl, trivial⟩, trivial, H.pi [0, 2, 3, 4, 5, 6, 7, 8] 9⟩
   refine Nw.as #[.bool false, .bool false, .bool false, .int .i64 0, .int .i64 0, .int .i64 0, .int .i64 0] 222 rfl H fun b8 w H => ?_
   refine ⟨.inr (H.pi [2, 3, 4, 5, 6, 7, 8] 9), ?_⟩
   have h1 := H.pi [7, 1, 0, 2, 3, 4, 5, 6, 8] 9
   simp only [pl, nth, drL] at h1
   have hT := q_try (x := x) (cb := oc1) hk (by omega) hl1 ⟨sd, (↑cj : Int), cv⟩ Reader.slc h1
   rw [hR] at hT
   dsimp only at hT
   refine Cl.s hT fun w H => ?_
   replace H := H.pi [2, 1, 3, 4, 5, 6, 7, 0, 8] 9
   simp only [pl, nth, drL] at H
   refine ⟨.inl rfl, ?_⟩
   refine H.st0 (cs' := #[.bool rd, .bool false, .bool false, .int .i64 0, .int .i64 0, .int .i64 0, .int .i64 0]) rfl rfl rfl fun w H => ?_
   refine H.st0 (cs' := #[.bool rd, .bool ok_, .bool false, .int .i64 0, .int .i64 0, .int .i64 0, .int .i64 0]) rfl rfl rfl fun w H => ?_
   refine H.st0 (cs' := #[.bool rd, .bool ok_, .bool wk, .int .i64 0, .int .i64 0, .int .i64 0, .int .i64 0]) rfl rfl rfl fun w H => ?_
   refine H.st0 (cs' := #[.bool rd, .bool ok_, .bool wk, .int .i64 gv, .int .i64 0, .int .i64 0, .int .i64 0]) rfl rfl rfl fun w H => ?_
   refine H.st0 (cs' := #[.bool rd, .bool ok_, .bool wk, .int .i64 gv, .int .i64 mg, .int .i64 0, .int .i64 0]) rfl rfl rfl fun w H => ?_
   refine H.st0 (cs' := #[.bool rd, .bool ok_, .bool wk, .int .i64 gv, .int .i64 mg, .int .i64 mc, .int .i64 0]) rfl rfl rfl fun w H => ?_
   refine H.st0 (cs' := #[.bool rd, .bool ok_, .bool wk, .int .i64 gv, .int .i64 mg, .int .i64 mc, .int .i64 mv]) rfl rfl rfl fun w H => ?_
   refine ⟨.inl rfl, ?_⟩
   exact ⟨b8, ⟨rfl, rfl, trivial⟩, trivial, H.pi [0, 2, 3, 4, 5, 6, 7, 8] 9⟩
  refine Nw.as #[.bool false, .bool false, .bool false, .int .i64 0, .int .i64 0, .int .i64 0, .int .i64 0] 222 rfl H fun b8 w H => ?_
  refine ⟨.inr (H.pi [1, 2, 3, 4, 5, 6, 7] 8), ?_⟩
  have h1 := H.pi [2, 5, 0, 1, 3, 4, 6, 7] 8
  simp only [pl, nth, drL] at h1
  refine Cl.b (r_pipes (x := x) hn (hk) hl1 h1) ?_
  rintro _ w ⟨oa2, oc2, rfl, H⟩
  refine ⟨_, rfl, ?_⟩
  replace H := H.pi [0, 3, 4, 1, 5, 6, 2, 7, 8] 9
  simp only [pl, nth, drL] at H
  refine ⟨.inr (H.pi [2, 3, 4, 5, 6, 7, 8] 9), ?_⟩
  have h1 := H.pi [7, 0, 1, 2, 3, 4, 5, 6, 8] 9
  simp only [pl, nth, drL] at h1
  have hT := q_try (x := x) (cb := oc2) hk (by omega) hl1 ⟨sd, (↑cj : Int), cv⟩ Reader.slc h1
  rw [hR] at hT
  dsimp only at hT
  refine Cl.s hT fun w H => ?_
  replace H := H.pi [1, 2, 3, 4, 5, 6, 7, 0, 8] 9
  simp only [pl, nth, drL] at H
  refine ⟨.inl rfl, ?_⟩
  refine H.st1 (cs' := #[.bool rd, .bool false, .bool false, .int .i64 0, .int .i64 0, .int .i64 0, .int .i64 0]) rfl rfl rfl fun w H => ?_
  refine H.st1 (cs' := #[.bool rd, .bool ok_, .bool false, .int .i64 0, .int .i64 0, .int .i64 0, .int .i64 0]) rfl rfl rfl fun w H => ?_
  refine H.st1 (cs' := #[.bool rd, .bool ok_, .bool wk, .int .i64 0, .int .i64 0, .int .i64 0, .int .i64 0]) rfl rfl rfl fun w H => ?_
  refine H.st1 (cs' := #[.bool rd, .bool ok_, .bool wk, .int .i64 gv, .int .i64 0, .int .i64 0, .int .i64 0]) rfl rfl rfl fun w H => ?_
  refine H.st1 (cs' := #[.bool rd, .bool ok_, .bool wk, .int .i64 gv, .int .i64 mg, .int .i64 0, .int .i64 0]) rfl rfl rfl fun w H => ?_
  refine H.st1 (cs' := #[.bool rd, .bool ok_, .bool wk, .int .i64 gv, .int .i64 mg, .int .i64 mc, .int .i64 0]) rfl rfl rfl fun w H => ?_
  refine H.st1 (cs' := #[.bool rd, .bool ok_, .bool wk, .int .i64 gv, .int .i64 mg, .int .i64 mc, .int .i64 mv]) rfl rfl rfl fun w H => ?_
  refine ⟨.inl rfl, ?_⟩
  exact ⟨b8, ⟨rfl, rfl, trivial⟩, trivial, H.pi [1, 2, 3, 4, 5, 6, 7, 8] 9⟩
 rintro bz s w ⟨hc, H⟩
 refine ⟨BB.vr fun q1 e1 => ?_⟩
 cases q1
 ·have h1 := bne_eq_false_iff_eq.1 e1
  subst h1
  refine Cn.no (⟨Drw.of [(0, true), (1, true), (2, true), (3, true), (4, true), (5, true), (6, true), (7, true), (8, true), (9, true), (10, true), (11, true), (12, true), (13, true), (14, false), (15, false)] (by kernel_rfl) mixed (fun w => SL w _) H.drew ?_⟩)
  replace H := H.drew
  refine LdC.i 1 rfl (v := .int .i64 ↑cj) rfl (Ix.at cj 1 (by kernel_rfl) rfl hcj ?_)
  refine LdC.i 2 rfl (v := .int .i64 (numL x ↑cj)) (name_cell (x := x) hn cj hcj) (LdC.i 0 rfl (v := .int .i64 gv) rfl (LdC.i 0 rfl (v := .bool ok_) rfl (BB.k (MnC.pure (.agg #[.int .i64 4, .int .i64 g, .int .i64 (numL x ↑cj), .int .i64 ca, .int .i64 gv, .int .i64 (-1), .bool false, .bool ok_]) (fun _ => by kernel_rfl) ?_))))
  refine Nw.as ev0C 53 rfl H fun b10 w H => ?_
  refine ⟨.inr H.tl, ?_⟩
  refine SL.stEv H rfl rfl fun w H => ?_
  refine ⟨.inl rfl, ?_⟩
  refine ⟨H.ldi 2 rfl (v := .bool sd) rfl ?_⟩
  refine BB.k ?_
  cases sd
  ·refine Cn.no (⟨H.ldi 1 rfl (v := .bool wk) rfl ?_⟩)
   refine BB.k ?_
   cases wk
   ·refine Cn.no (⟨H.ldi 0 rfl (v := .int .i64 4) rfl ?_⟩)
    refine H.ldi 0 rfl (v := .int .i64 g) rfl (H.ldi 0 rfl (v := .int .i64 (numL x ↑cj)) rfl (H.ldi 0 rfl (v := .int .i64 ca) rfl (H.ldi 0 rfl (v := .int .i64 gv) rfl (H.ldi 0 rfl (v := .int .i64 (-1)) rfl (H.ldi 0 rfl (v := .bool false) rfl (H.ldi 0 rfl (v := .bool ok_) rfl ?_))))))
    have h1 := H.pi [3, 8, 0, 1, 2, 4, 5, 6, 7] 9
    simp only [pl, nth, drL] at h1
    refine Cl.b (r_noteO (Nat.le_trans (hT1).tr (by omega)) ⟨4, g, (numL x ↑cj), ca, gv, -1, false, ok_⟩ h1) ?_
    rintro _ w ⟨tn1, tk1, rfl, H⟩
    refine ⟨_, rfl, ?_⟩
    replace H := H.pi [2, 3, 4, 0, 5, 6, 7, 8, 1] 9
    simp only [pl, nth, drL] at H
    refine ⟨H.ldi 3 rfl (v := .pointer (some ⟨crb1, 0, none⟩)) rfl ?_⟩
    have h1 := H.pi [5, 0, 1, 2, 3, 4, 6, 7, 8] 9
    simp only [pl, nth, drL] at h1
    refine Cl.s (q_turn (L := (noteL ({ x with M := backN x.name ys x.M }) ⟨4, g, (numL x ↑cj), ca, gv, -1, false, ok_⟩).crew) (Small.more ((hT1.note ⟨4, g, (numL x ↑cj), ca, gv, -1, false, ok_⟩)).sm (by omega)) g 0 0 (by decide) h1) fun w H => ?_
    replace H := H.pi [1, 2, 3, 4, 5, 0, 6, 7, 8] 9
    simp only [pl, nth, drL] at H
    refine ⟨H.ldi 1 rfl (v := .bool false) rfl ?_⟩
    refine BB.no rfl (BB.yes rfl (Cn.yes (ret0 rfl ?_)))
    skip
    have H0 := H.pi [3, 4, 5, 6, 7, 8, 0, 1, 2] 9
    simp only [pl, nth, drL] at H0
    replace H := rl_shut (x := (turnL (noteL ({ x with M := backN x.name ys x.M }) ⟨4, g, (numL x ↑cj), ca, gv, -1, false, ok_⟩) g 0 0)) hl1 (by first | rfl | simp [turnL, noteL, backN_len]) hn H0
    have hc : talkL x g ⟨false, (cj : Int), cv⟩ ca = (turnL (noteL ({ x with M := backN x.name ys x.M }) ⟨4, g, (numL x ↑cj), ca, gv, -1, false, ok_⟩) g 0 0) := by unfold talkL; rw [hR]; dsimp only; rw [if_neg (by decide)]; rfl
    rw [hc]
    exact ⟨rfl, H.pi [0] 4⟩
   refine Cn.yes (⟨H.ldi 1 rfl (v := .int .i64 mg) rfl ?_⟩)
   refine H.st0 (cs' := #[.int .i64 4, .int .i64 g, .int .i64 (numL x ↑cj), .int .i64 ca, .int .i64 gv, .int .i64 mg, .bool false, .bool ok_]) rfl rfl rfl fun w H => ?_
   refine ⟨H.ldi 0 rfl (v := .int .i64 4) rfl ?_⟩
   refine H.ldi 0 rfl (v := .int .i64 g) rfl (H.ldi 0 rfl (v := .int .i64 (numL x ↑cj)) rfl (H.ldi 0 rfl (v := .int .i64 ca) rfl (H.ldi 0 rfl (v := .int .i64 gv) rfl (H.ldi 0 rfl (v := .int .i64 mg) rfl (H.ldi 0 rfl (v := .bool false) rfl (H.ldi 0 rfl (v := .bool ok_) rfl ?_))))))
   have h1 := H.pi [3, 8, 0, 1, 2, 4, 5, 6, 7] 9
   simp only [pl, nth, drL] at h1
   refine Cl.b (r_noteO (Nat.le_trans (hT1).tr (by omega)) ⟨4, g, (numL x ↑cj), ca, gv, mg, false, ok_⟩ h1) ?_
   rintro _ w ⟨tn2, tk2, rfl, H⟩
   refine ⟨_, rfl, ?_⟩
   replace H := H.pi [2, 3, 4, 0, 5, 6, 7, 8, 1] 9
   simp only [pl, nth, drL] at H
   refine ⟨H.ldi 3 rfl (v := .pointer (some ⟨crb1, 0, none⟩)) rfl ?_⟩
   have h1 := H.pi [5, 0, 1, 2, 3, 4, 6, 7, 8] 9
   simp only [pl, nth, drL] at h1
   refine Cl.s (q_turn (L := (noteL ({ x with M := backN x.name ys x.M }) ⟨4, g, (numL x ↑cj), ca, gv, mg, false, ok_⟩).crew) (Small.more ((hT1.note ⟨4, g, (numL x ↑cj), ca, gv, mg, false, ok_⟩)).sm (by omega)) g 0 0 (by decide) h1) fun w H => ?_
   replace H := H.pi [1, 2, 3, 4, 5, 0, 6, 7, 8] 9
   simp only [pl, nth, drL] at H
   refine ⟨H.ldi 1 rfl (v := .bool true) rfl ?_⟩
   refine BB.yes rfl (BB.no rfl (Cn.no (⟨H.ldi 1 rfl (v := .int .i64 mv) rfl ?_⟩)))
   refine ⟨H.ldi 2 rfl (v := .bool false) rfl ?_⟩
   refine BB.no rfl (Cn.no (⟨H.ldi 1 rfl (v := .int .i64 mg) rfl ?_⟩))
   refine H.ldi 0 rfl (v := .int .i64 (numL x ↑cj)) rfl (H.ldi 1 rfl (v := .int .i64 mc) rfl (H.ldi 2 rfl (v := .bool false) rfl (BB.no rfl (BB.yes rfl (Mn.pure (.agg #[.int .i64 7, .int .i64 mg, .int .i64 (numL x ↑cj), .int .i64 mc, .int .i64 mv, .int .i64 g, .bool true, .bool true]) (by kernel_rfl) ?_)))))
   have H0 := H.pi [3, 4, 5, 6, 7, 8, 0, 1, 2] 9
   simp only [pl, nth, drL] at H0
   replace H := rl_shut (x := (turnL (noteL ({ x with M := backN x.name ys x.M }) ⟨4, g, (numL x ↑cj), ca, gv, mg, false, ok_⟩) g 0 0)) hl1 (by first | rfl | simp [turnL, noteL, backN_len]) hn H0
   have h1 := H
   refine Cl.s (r_wake (x := (turnL (noteL ({ x with M := backN x.name ys x.M }) ⟨4, g, (numL x ↑cj), ca, gv, mg, false, ok_⟩) g 0 0)) hn (((hT1.note ⟨4, g, (numL x ↑cj), ca, gv, mg, false, ok_⟩).turn g 0 0)) (by omega) ⟨7, mg, (numL x ↑cj), mc, mv, g, true, true⟩ h1) fun w H => ?_
   have hob := rl_open (x := (wakeL (turnL (noteL ({ x with M := backN x.name ys x.M }) ⟨4, g, (numL x ↑cj), ca, gv, mg, false, ok_⟩) g 0 0) ⟨7, mg, (numL x ↑cj), mc, mv, g, true, true⟩)) hn H
   obtain ⟨hb2, crb2, cha2, chc2, ta2, tc2, ps2, hl2, H⟩ := hob
   refine ret0 rfl ?_
   skip
   have H0 := H
   replace H := rl_shut (x := (wakeL (turnL (noteL ({ x with M := backN x.name ys x.M }) ⟨4, g, (numL x ↑cj), ca, gv, mg, false, ok_⟩) g 0 0) ⟨7, mg, (numL x ↑cj), mc, mv, g, true, true⟩)) hl2 (by first | rfl | simp [turnL, noteL, backN_len]) hn H0
   have hc : talkL x g ⟨false, (cj : Int), cv⟩ ca = (wakeL (turnL (noteL ({ x with M := backN x.name ys x.M }) ⟨4, g, (numL x ↑cj), ca, gv, mg, false, ok_⟩) g 0 0) ⟨7, mg, (numL x ↑cj), mc, mv, g, true, true⟩) := by unfold talkL; rw [hR]; dsimp only; rw [if_neg (by decide)]; rfl
   rw [hc]
   exact ⟨rfl, H.pi [0] 4⟩
  refine Cn.yes (⟨Drw.of [(0, true), (1, true), (2, true), (3, true), (4, true), (5, true), (6, true), (7, true), (8, true), (9, true), (10, true), (11, true), (12, false)] (by kernel_rfl) mixed (fun w => SL w _) H.drew ?_⟩)
  replace H := H.drew
  refine LdC.i 2 rfl (v := .int .i64 ↑cj) rfl (Ix.at cj 1 (by kernel_rfl) rfl hcj ?_)
  refine LdC.i 3 rfl (v := .int .i64 (numL x ↑cj)) (name_cell (x := x) hn cj hcj) (LdC.i 2 rfl (v := .int .i64 cv) rfl (MnC.pure (.agg #[.int .i64 3, .int .i64 g, .int .i64 (numL x ↑cj), .int .i64 ca, .int .i64 cv, .int .i64 (-1), .bool true, .bool false]) (fun _ => by kernel_rfl) ?_))
  refine SL.stEv H rfl rfl fun w H => ?_
  refine ⟨.inl rfl, ?_⟩
  refine ⟨H.ldi 1 rfl (v := .bool wk) rfl ?_⟩
  refine BB.k ?_
  cases wk
  ·refine Cn.no (⟨H.ldi 0 rfl (v := .int .i64 3) rfl ?_⟩)
   refine H.ldi 0 rfl (v := .int .i64 g) rfl (H.ldi 0 rfl (v := .int .i64 (numL x ↑cj)) rfl (H.ldi 0 rfl (v := .int .i64 ca) rfl (H.ldi 0 rfl (v := .int .i64 cv) rfl (H.ldi 0 rfl (v := .int .i64 (-1)) rfl (H.ldi 0 rfl (v := .bool true) rfl (H.ldi 0 rfl (v := .bool false) rfl ?_))))))
   have h1 := H.pi [3, 8, 0, 1, 2, 4, 5, 6, 7] 9
   simp only [pl, nth, drL] at h1
   refine Cl.b (r_noteO (Nat.le_trans (hT1).tr (by omega)) ⟨3, g, (numL x ↑cj), ca, cv, -1, true, false⟩ h1) ?_
   rintro _ w ⟨tn3, tk3, rfl, H⟩
   refine ⟨_, rfl, ?_⟩
   replace H := H.pi [2, 3, 4, 0, 5, 6, 7, 8, 1] 9
   simp only [pl, nth, drL] at H
   refine ⟨H.ldi 3 rfl (v := .pointer (some ⟨crb1, 0, none⟩)) rfl ?_⟩
   have h1 := H.pi [5, 0, 1, 2, 3, 4, 6, 7, 8] 9
   simp only [pl, nth, drL] at h1
   refine Cl.s (q_turn (L := (noteL ({ x with M := backN x.name ys x.M }) ⟨3, g, (numL x ↑cj), ca, cv, -1, true, false⟩).crew) (Small.more ((hT1.note ⟨3, g, (numL x ↑cj), ca, cv, -1, true, false⟩)).sm (by omega)) g 0 0 (by decide) h1) fun w H => ?_
   replace H := H.pi [1, 2, 3, 4, 5, 0, 6, 7, 8] 9
   simp only [pl, nth, drL] at H
   refine ⟨H.ldi 1 rfl (v := .bool false) rfl ?_⟩
   refine BB.no rfl (BB.yes rfl (Cn.yes (ret0 rfl ?_)))
   skip
   have H0 := H.pi [3, 4, 5, 6, 7, 8, 0, 1, 2] 9
   simp only [pl, nth, drL] at H0
   replace H := rl_shut (x := (turnL (noteL ({ x with M := backN x.name ys x.M }) ⟨3, g, (numL x ↑cj), ca, cv, -1, true, false⟩) g 0 0)) hl1 (by first | rfl | simp [turnL, noteL, backN_len]) hn H0
   have hc : talkL x g ⟨true, (cj : Int), cv⟩ ca = (turnL (noteL ({ x with M := backN x.name ys x.M }) ⟨3, g, (numL x ↑cj), ca, cv, -1, true, false⟩) g 0 0) := by unfold talkL; rw [hR]; dsimp only; rw [if_neg (by decide)]; rfl
   rw [hc]
   exact ⟨rfl, H.pi [0] 4⟩
  refine Cn.yes (⟨H.ldi 1 rfl (v := .int .i64 mg) rfl ?_⟩)
  refine H.st0 (cs' := #[.int .i64 3, .int .i64 g, .int .i64 (numL x ↑cj), .int .i64 ca, .int .i64 cv, .int .i64 mg, .bool true, .bool false]) rfl rfl rfl fun w H => ?_
  refine ⟨H.ldi 0 rfl (v := .int .i64 3) rfl ?_⟩
  refine H.ldi 0 rfl (v := .int .i64 g) rfl (H.ldi 0 rfl (v := .int .i64 (numL x ↑cj)) rfl (H.ldi 0 rfl (v := .int .i64 ca) rfl (H.ldi 0 rfl (v := .int .i64 cv) rfl (H.ldi 0 rfl (v := .int .i64 mg) rfl (H.ldi 0 rfl (v := .bool true) rfl (H.ldi 0 rfl (v := .bool false) rfl ?_))))))
  have h1 := H.pi [3, 8, 0, 1, 2, 4, 5, 6, 7] 9
  simp only [pl, nth, drL] at h1
  refine Cl.b (r_noteO (Nat.le_trans (hT1).tr (by omega)) ⟨3, g, (numL x ↑cj), ca, cv, mg, true, false⟩ h1) ?_
  rintro _ w ⟨tn4, tk4, rfl, H⟩
  refine ⟨_, rfl, ?_⟩
  replace H := H.pi [2, 3, 4, 0, 5, 6, 7, 8, 1] 9
  simp only [pl, nth, drL] at H
  refine ⟨H.ldi 3 rfl (v := .pointer (some ⟨crb1, 0, none⟩)) rfl ?_⟩
  have h1 := H.pi [5, 0, 1, 2, 3, 4, 6, 7, 8] 9
  simp only [pl, nth, drL] at h1
  refine Cl.s (q_turn (L := (noteL ({ x with M := backN x.name ys x.M }) ⟨3, g, (numL x ↑cj), ca, cv, mg, true, false⟩).crew) (Small.more ((hT1.note ⟨3, g, (numL x ↑cj), ca, cv, mg, true, false⟩)).sm (by omega)) g 0 0 (by decide) h1) fun w H => ?_
  replace H := H.pi [1, 2, 3, 4, 5, 0, 6, 7, 8] 9
  simp only [pl, nth, drL] at H
  refine ⟨H.ldi 1 rfl (v := .bool true) rfl ?_⟩
  refine BB.yes rfl (BB.no rfl (Cn.no (⟨H.ldi 1 rfl (v := .int .i64 mv) rfl ?_⟩)))
  refine ⟨H.ldi 2 rfl (v := .bool true) rfl ?_⟩
  refine BB.yes rfl (Cn.yes (⟨H.ldi 2 rfl (v := .int .i64 cv) rfl ?_⟩))
  refine ⟨H.ldi 1 rfl (v := .int .i64 mg) rfl ?_⟩
  refine H.ldi 0 rfl (v := .int .i64 (numL x ↑cj)) rfl (H.ldi 1 rfl (v := .int .i64 mc) rfl (H.ldi 2 rfl (v := .bool true) rfl (BB.yes rfl (BB.no rfl (Mn.pure (.agg #[.int .i64 7, .int .i64 mg, .int .i64 (numL x ↑cj), .int .i64 mc, .int .i64 cv, .int .i64 g, .bool false, .bool true]) (by kernel_rfl) ?_)))))
  have H0 := H.pi [3, 4, 5, 6, 7, 8, 0, 1, 2] 9
  simp only [pl, nth, drL] at H0
  replace H := rl_shut (x := (turnL (noteL ({ x with M := backN x.name ys x.M }) ⟨3, g, (numL x ↑cj), ca, cv, mg, true, false⟩) g 0 0)) hl1 (by first | rfl | simp [turnL, noteL, backN_len]) hn H0
  have h1 := H
  refine Cl.s (r_wake (x := (turnL (noteL ({ x with M := backN x.name ys x.M }) ⟨3, g, (numL x ↑cj), ca, cv, mg, true, false⟩) g 0 0)) hn (((hT1.note ⟨3, g, (numL x ↑cj), ca, cv, mg, true, false⟩).turn g 0 0)) (by omega) ⟨7, mg, (numL x ↑cj), mc, cv, g, false, true⟩ h1) fun w H => ?_
  have hob := rl_open (x := (wakeL (turnL (noteL ({ x with M := backN x.name ys x.M }) ⟨3, g, (numL x ↑cj), ca, cv, mg, true, false⟩) g 0 0) ⟨7, mg, (numL x ↑cj), mc, cv, g, false, true⟩)) hn H
  obtain ⟨hb3, crb3, cha3, chc3, ta3, tc3, ps3, hl3, H⟩ := hob
  refine ret0 rfl ?_
  skip
  have H0 := H
  replace H := rl_shut (x := (wakeL (turnL (noteL ({ x with M := backN x.name ys x.M }) ⟨3, g, (numL x ↑cj), ca, cv, mg, true, false⟩) g 0 0) ⟨7, mg, (numL x ↑cj), mc, cv, g, false, true⟩)) hl3 (by first | rfl | simp [turnL, noteL, backN_len]) hn H0
  have hc : talkL x g ⟨true, (cj : Int), cv⟩ ca = (wakeL (turnL (noteL ({ x with M := backN x.name ys x.M }) ⟨3, g, (numL x ↑cj), ca, cv, mg, true, false⟩) g 0 0) ⟨7, mg, (numL x ↑cj), mc, cv, g, false, true⟩) := by unfold talkL; rw [hR]; dsimp only; rw [if_neg (by decide)]; rfl
  rw [hc]
  exact ⟨rfl, H.pi [0] 4⟩
 have h1 := bne_iff_ne.1 e1
 refine Cn.yes (⟨?_⟩)
 have H0 := H.pi [2, 3, 4, 5, 6, 7, 0, 1] 8
 simp only [pl, nth, drL] at H0
 replace H := rl_shut (x := { x with M := backN x.name ys x.M }) hl1 (by first | rfl | simp [turnL, noteL, backN_len]) hn H0
 have h1 := H
 refine Cl.s (r_panics (x := { x with M := backN x.name ys x.M }) (Nat.le_trans (hT1).tr (by omega)) g h1) fun w H => ?_
 have hob := rl_open (x := (panicL ({ x with M := backN x.name ys x.M }) g)) hn H
 obtain ⟨hb4, crb4, cha4, chc4, ta4, tc4, ps4, hl4, H⟩ := hob
 refine ret0 rfl ?_
 skip
 have H0 := H
 replace H := rl_shut (x := (panicL ({ x with M := backN x.name ys x.M }) g)) hl4 (by first | rfl | simp [turnL, noteL, backN_len]) hn H0
 have hc : talkL x g ⟨sd, (cj : Int), cv⟩ ca = (panicL ({ x with M := backN x.name ys x.M }) g) := by unfold talkL; rw [hR]; dsimp only; rw [if_pos (by assumption)]
 rw [hc]
 exact ⟨rfl, H.pi [0] 3⟩
theorem Lk.waited {np k i : Nat} {x : LmM} (hk : Lk np k x) (hi : i < x.M.length) (s : Bool) {m : Wtr} (hm : 0 ≤ m.g ∧ m.g < (x.crew.length : Int)) : Lk np k { x with M := x.M.set i (waitF (x.M.getD i (emptyM 0)) s m).2 } := by
 have := hk.setM (M := x.M.set i (waitF (x.M.getD i (emptyM 0)) s m).2) (j := k) (List.length_set ..) (hk.inv.set ((hk.inv.get hi).wait s m) i) (hk.wt.set (fun a ha => (wait_wt _ _ _ _ ha).imp id (fun e => by rw [e]; exact hm)))
 rwa [Nat.max_self] at this
theorem alone_nil {np k : Nat} {x : LmM} {g : Int} {cj : Nat} {sd : Bool} {cv : Int} (hk : Lk np k x) (hcj : cj < 8) (hz : numL x (cj : Int) < 0) : aloneL x g ⟨sd, (cj : Int), cv⟩ = turnL (noteL x ⟨6, g, numL x (cj : Int), -1, cv, -1, sd, false⟩) g 0 1 := by
 unfold aloneL
 rw [readyC_num hk hcj, if_neg (show ¬ (0 ≤ numL x (cj : Int)) by omega), if_neg (by simp)]
 dsimp only
 rw [if_neg (show ¬ (0 ≤ numL x (cj : Int)) by omega)]
theorem alone_ready {np k i : Nat} {x : LmM} {g : Int} {cj : Nat} {sd : Bool} {cv : Int} (hk : Lk np k x) (hcj : cj < 8) (hni : numL x (cj : Int) = (i : Int)) (hr : readyF (x.M.getD i (emptyM 0)) sd = true) : aloneL x g ⟨sd, (cj : Int), cv⟩ = talkL x g ⟨sd, (cj : Int), cv⟩ (-1) := by
 unfold aloneL
 rw [readyC_num hk hcj, if_pos (show 0 ≤ numL x (cj : Int) by omega), hni, Int.toNat_natCast, if_pos hr]
theorem alone_wait {np k i : Nat} {x : LmM} {g : Int} {cj : Nat} {sd : Bool} {cv : Int} (hk : Lk np k x) (hcj : cj < 8) (hni : numL x (cj : Int) = (i : Int)) (hr : readyF (x.M.getD i (emptyM 0)) sd = false) :
  aloneL x g ⟨sd, (cj : Int), cv⟩ = turnL { noteL x ⟨6, g, numL x (cj : Int), -1, cv, -1, sd, false⟩ with M := (noteL x ⟨6, g, numL x (cj : Int), -1, cv, -1, sd, false⟩).M.set i (waitF ((noteL x ⟨6, g, numL x (cj : Int), -1, cv, -1, sd, false⟩).M.getD i (emptyM 0)) sd ⟨g, -1, cv⟩).2 } g 0 1 := by
 unfold aloneL
 rw [readyC_num hk hcj, if_pos (show 0 ≤ numL x (cj : Int) by omega), hni, Int.toNat_natCast, if_neg (by rw [hr]; exact Bool.false_ne_true)]
 dsimp only
 rw [if_pos (Int.natCast_nonneg i)]
 rfl
set_option maxHeartbeats 4000000 in
theorem r_alone {w : World} {F : List Piece} {np k lb : Nat} {x : LmM} {t m : Int} {vp vl vd : Value} {n0 n1 n2 n3 n4 n5 n6 n7 : Int} (hn : x.name = [n0, n1, n2, n3, n4, n5, n6, n7]) (hk : Lk np k x) (hkb : k ≤ 997000) {g : Int} (hgw : 0 ≤ g ∧ g < (x.crew.length : Int)) {cj : Nat} (hcj : cj < 8) (sd : Bool) (cv : Int) (H : SL w (RlP lb ⟨t, m, vp, vl, vd⟩ x :: F)) :
  Calls Tryz.prog 106 #[.pointer (some ⟨lb, 0, none⟩), .int .i64 g, .agg #[.bool sd, .int .i64 (cj : Int), .int .i64 cv]] w fun o w' => o = .returned (.tuple #[]) ∧ SL w' (RlP lb ⟨t, m, vp, vl, vd⟩ (aloneL x g ⟨sd, (cj : Int), cv⟩) :: F) := by
 have hob := rl_open (x := x) hn H
 obtain ⟨hb1, crb1, cha1, chc1, ta1, tc1, ps1, hl1, H⟩ := hob
 rcases num_or hk hl1 hcj with ⟨hz, hnm⟩ | ⟨i, pg, hni, hi, hg, hnm⟩
 ·refine calls_d (args := [_, _, _]) Tryz.func106 rfl ?_
  refine ⟨Nw.as #[.bool sd, .int .i64 ↑cj, .int .i64 cv] 162 rfl H fun b5 w H => ?_⟩
  refine ⟨Drw.of [(0, true), (2, true), (3, true), (1, false), (4, false), (5, true)] (by kernel_rfl) mixed (fun w => SL w _) H.drew ?_⟩
  replace H := H.drew
  refine LdC.i 0 rfl (v := .int .i64 ↑cj) rfl ?_
  have h1 := H.pi [1, 4, 0, 2, 3, 5, 6] 7
  simp only [pl, nth, drL] at h1
  refine Cl.b (r_pipes (x := x) hn (hk) hl1 h1) ?_
  rintro _ w ⟨oa1, oc1, rfl, H⟩
  refine ⟨_, rfl, ?_⟩
  replace H := H.pi [0, 3, 1, 4, 5, 2, 6, 7] 8
  simp only [pl, nth, drL] at H
  refine ⟨.inr H.tl, ?_⟩
  have h1 := H
  refine Cl.s (q_named (x := x) (ps := ps1) (cb := oc1) hk Reader.slc (none) hnm h1) fun w H => ?_
  refine ⟨.inr H.tl, ?_⟩
  refine ⟨BB.no rfl ?_⟩
  refine Cn.no (⟨Cl.s (r_bare H 6 g) fun w H => ?_⟩)
  refine Nw.as ev0C 53 rfl H fun b7 w H => ?_
  refine SL.stEv H rfl rfl fun w H => ?_
  refine ⟨Drw.of [(0, true), (1, true), (2, true), (3, true), (4, true), (5, true), (6, true), (7, true), (8, false)] (by kernel_rfl) mixed (fun w => SL w _) H.drew ?_⟩
  replace H := H.drew
  refine LdC.i 2 rfl (v := .int .i64 ↑cj) rfl (Ix.at cj 1 (by kernel_rfl) rfl hcj ?_)
  refine LdC.i 3 rfl (v := .int .i64 (numL x ↑cj)) (name_cell (x := x) hn cj hcj) (H.st0 (cs' := #[.int .i64 6, .int .i64 g, .int .i64 (numL x ↑cj), .int .i64 (-1), .int .i64 (-1), .int .i64 (-1), .bool false, .bool false]) rfl rfl rfl fun w H => ?_)
  refine ⟨.inl rfl, ?_⟩
  refine ⟨H.ldi 2 rfl (v := .int .i64 cv) rfl ?_⟩
  refine H.st0 (cs' := #[.int .i64 6, .int .i64 g, .int .i64 (numL x ↑cj), .int .i64 (-1), .int .i64 cv, .int .i64 (-1), .bool false, .bool false]) rfl rfl rfl fun w H => ?_
  refine ⟨H.ldi 2 rfl (v := .bool sd) rfl ?_⟩
  refine BB.k (H.st0 (cs' := #[.int .i64 6, .int .i64 g, .int .i64 (numL x ↑cj), .int .i64 (-1), .int .i64 cv, .int .i64 (-1), .bool sd, .bool false]) rfl rfl rfl fun w H => ?_)
  refine ⟨H.ldi 0 rfl (v := .int .i64 6) rfl ?_⟩
  refine H.ldi 0 rfl (v := .int .i64 g) rfl (H.ldi 0 rfl (v := .int .i64 (numL x ↑cj)) rfl (H.ldi 0 rfl (v := .int .i64 (-1)) rfl (H.ldi 0 rfl (v := .int .i64 cv) rfl (H.ldi 0 rfl (v := .int .i64 (-1)) rfl (H.ldi 0 rfl (v := .bool sd) rfl (H.ldi 0 rfl (v := .bool false) rfl ?_))))))
  have h1 := H.pi [3, 8, 0, 1, 2, 4, 5, 6, 7] 9
  simp only [pl, nth, drL] at h1
  refine Cl.b (r_noteO (Nat.le_trans (hk).tr (by omega)) ⟨6, g, (numL x ↑cj), -1, cv, -1, sd, false⟩ h1) ?_
  rintro _ w ⟨tn1, tk1, rfl, H⟩
  refine ⟨_, rfl, ?_⟩
  replace H := H.pi [2, 3, 4, 0, 5, 6, 7, 8, 1] 9
  simp only [pl, nth, drL] at H
  refine ⟨BB.no rfl ?_⟩
  refine Cn.no (⟨H.ldi 3 rfl (v := .pointer (some ⟨crb1, 0, none⟩)) rfl ?_⟩)
  have h1 := H.pi [5, 0, 1, 2, 3, 4, 6, 7, 8] 9
  simp only [pl, nth, drL] at h1
  refine Cl.s (q_turn (L := (noteL x ⟨6, g, (numL x ↑cj), -1, cv, -1, sd, false⟩).crew) (Small.more ((hk.note ⟨6, g, (numL x ↑cj), -1, cv, -1, sd, false⟩)).sm (by omega)) g 0 1 (by decide) h1) fun w H => ?_
  replace H := H.pi [1, 2, 3, 4, 5, 0, 6, 7, 8] 9
  simp only [pl, nth, drL] at H
  refine ret0 rfl ?_
  have H0 := H.pi [3, 4, 5, 6, 7, 8, 0, 1, 2] 9
  simp only [pl, nth, drL] at H0
  replace H := rl_shut (x := (turnL (noteL x ⟨6, g, (numL x ↑cj), -1, cv, -1, sd, false⟩) g 0 1)) hl1 (by first | rfl | simp [turnL, noteL, backN_len]) hn H0
  have hc : aloneL x g ⟨sd, (cj : Int), cv⟩ = (turnL (noteL x ⟨6, g, (numL x ↑cj), -1, cv, -1, sd, false⟩) g 0 1) := by exact alone_nil hk hcj hz
  rw [hc]
  exact ⟨rfl, H.pi [0] 4⟩
 refine calls_d (args := [_, _, _]) Tryz.func106 rfl ?_
 refine ⟨Nw.as #[.bool sd, .int .i64 ↑cj, .int .i64 cv] 162 rfl H fun b5 w H => ?_⟩
 refine ⟨Drw.of [(0, true), (2, true), (3, true), (1, false), (4, false), (5, true)] (by kernel_rfl) mixed (fun w => SL w _) H.drew ?_⟩
 replace H := H.drew
 refine LdC.i 0 rfl (v := .int .i64 ↑cj) rfl ?_
 have h1 := H.pi [1, 4, 0, 2, 3, 5, 6] 7
 simp only [pl, nth, drL] at h1
 refine Cl.b (r_pipes (x := x) hn (hk) hl1 h1) ?_
 rintro _ w ⟨oa1, oc1, rfl, H⟩
 refine ⟨_, rfl, ?_⟩
 replace H := H.pi [0, 3, 1, 4, 5, 2, 6, 7] 8
 simp only [pl, nth, drL] at H
 refine ⟨.inr H.tl, ?_⟩
 have h1 := H
 refine Cl.s (q_named (x := x) (ps := ps1) (cb := oc1) hk Reader.slc (some pg) hnm h1) fun w H => ?_
 refine ⟨.inr H.tl, ?_⟩
 refine ⟨BB.yes rfl ?_⟩
 refine H.ldi 1 rfl (v := .bool sd) rfl (BB.k ?_)
 have h1 := H.pi [6, 0, 1, 2, 3, 4, 5, 7] 8
 simp only [pl, nth, drL] at h1
 refine Cl.s (q_readyP (x := x) hl1 hg sd h1) fun w H => ?_
 replace H := H.pi [1, 2, 3, 4, 5, 6, 0, 7] 8
 simp only [pl, nth, drL] at H
 refine BB.vr fun q1 e1 => ?_
 cases q1
 ·refine Cn.no (⟨Cl.s (r_bare H 6 g) fun w H => ?_⟩)
  refine Nw.as ev0C 53 rfl H fun b7 w H => ?_
  refine SL.stEv H rfl rfl fun w H => ?_
  refine ⟨Drw.of [(0, true), (1, true), (2, true), (3, true), (4, true), (5, true), (6, true), (7, true), (8, false)] (by kernel_rfl) mixed (fun w => SL w _) H.drew ?_⟩
  replace H := H.drew
  refine LdC.i 2 rfl (v := .int .i64 ↑cj) rfl (Ix.at cj 1 (by kernel_rfl) rfl hcj ?_)
  refine LdC.i 3 rfl (v := .int .i64 (numL x ↑cj)) (name_cell (x := x) hn cj hcj) (H.st0 (cs' := #[.int .i64 6, .int .i64 g, .int .i64 (numL x ↑cj), .int .i64 (-1), .int .i64 (-1), .int .i64 (-1), .bool false, .bool false]) rfl rfl rfl fun w H => ?_)
  refine ⟨.inl rfl, ?_⟩
  refine ⟨H.ldi 2 rfl (v := .int .i64 cv) rfl ?_⟩
  refine H.st0 (cs' := #[.int .i64 6, .int .i64 g, .int .i64 (numL x ↑cj), .int .i64 (-1), .int .i64 cv, .int .i64 (-1), .bool false, .bool false]) rfl rfl rfl fun w H => ?_
  refine ⟨H.ldi 2 rfl (v := .bool sd) rfl ?_⟩
  refine BB.k (H.st0 (cs' := #[.int .i64 6, .int .i64 g, .int .i64 (numL x ↑cj), .int .i64 (-1), .int .i64 cv, .int .i64 (-1), .bool sd, .bool false]) rfl rfl rfl fun w H => ?_)
  refine ⟨H.ldi 0 rfl (v := .int .i64 6) rfl ?_⟩
  refine H.ldi 0 rfl (v := .int .i64 g) rfl (H.ldi 0 rfl (v := .int .i64 (numL x ↑cj)) rfl (H.ldi 0 rfl (v := .int .i64 (-1)) rfl (H.ldi 0 rfl (v := .int .i64 cv) rfl (H.ldi 0 rfl (v := .int .i64 (-1)) rfl (H.ldi 0 rfl (v := .bool sd) rfl (H.ldi 0 rfl (v := .bool false) rfl ?_))))))
  have h1 := H.pi [3, 8, 0, 1, 2, 4, 5, 6, 7] 9
  simp only [pl, nth, drL] at h1
  refine Cl.b (r_noteO (Nat.le_trans (hk).tr (by omega)) ⟨6, g, (numL x ↑cj), -1, cv, -1, sd, false⟩ h1) ?_
  rintro _ w ⟨tn1, tk1, rfl, H⟩
  refine ⟨_, rfl, ?_⟩
  replace H := H.pi [2, 3, 4, 0, 5, 6, 7, 8, 1] 9
  simp only [pl, nth, drL] at H
  refine ⟨BB.yes rfl ?_⟩
  refine Cn.yes (⟨H.ldi 2 rfl (v := .bool sd) rfl ?_⟩)
  refine BB.k (H.ldi 2 rfl (v := .int .i64 cv) rfl (Mn.pure (.agg #[.int .i64 g, .int .i64 (-1), .int .i64 cv]) (by kernel_rfl) ?_))
  have h1 := H.pi [7, 0, 1, 2, 3, 4, 5, 6, 8] 9
  simp only [pl, nth, drL] at h1
  refine Cl.s (q_wait (x := (noteL x ⟨6, g, (numL x ↑cj), -1, cv, -1, sd, false⟩)) ((hk.note ⟨6, g, (numL x ↑cj), -1, cv, -1, sd, false⟩)) hl1 hg sd ⟨g, -1, cv⟩ h1) fun w H => ?_
  replace H := H.pi [1, 2, 3, 4, 5, 6, 7, 0, 8] 9
  simp only [pl, nth, drL] at H
  have hk2 := Lk.waited (i := i) ((hk.note ⟨6, g, (numL x ↑cj), -1, cv, -1, sd, false⟩)) hi sd (m := ⟨g, -1, cv⟩) hgw
  refine ⟨H.ldi 3 rfl (v := .pointer (some ⟨crb1, 0, none⟩)) rfl ?_⟩
  have h1 := H.pi [5, 0, 1, 2, 3, 4, 6, 7, 8] 9
  simp only [pl, nth, drL] at h1
  refine Cl.s (q_turn (L := ({ (noteL x ⟨6, g, (numL x ↑cj), -1, cv, -1, sd, false⟩) with M := (noteL x ⟨6, g, (numL x ↑cj), -1, cv, -1, sd, false⟩).M.set i (waitF ((noteL x ⟨6, g, (numL x ↑cj), -1, cv, -1, sd, false⟩).M.getD i (emptyM 0)) sd ⟨g, -1, cv⟩).2 }).crew) (Small.more (hk2).sm (by omega)) g 0 1 (by decide) h1) fun w H => ?_
  replace H := H.pi [1, 2, 3, 4, 5, 0, 6, 7, 8] 9
  simp only [pl, nth, drL] at H
  refine ret0 rfl ?_
  have H0 := H.pi [3, 4, 5, 6, 7, 8, 0, 1, 2] 9
  simp only [pl, nth, drL] at H0
  replace H := rl_shut (x := (turnL ({ (noteL x ⟨6, g, (numL x ↑cj), -1, cv, -1, sd, false⟩) with M := (noteL x ⟨6, g, (numL x ↑cj), -1, cv, -1, sd, false⟩).M.set i (waitF ((noteL x ⟨6, g, (numL x ↑cj), -1, cv, -1, sd, false⟩).M.getD i (emptyM 0)) sd ⟨g, -1, cv⟩).2 }) g 0 1)) hl1 (by first | rfl | simp [turnL, noteL, backN_len]) hn H0
  have hc : aloneL x g ⟨sd, (cj : Int), cv⟩ = (turnL ({ (noteL x ⟨6, g, (numL x ↑cj), -1, cv, -1, sd, false⟩) with M := (noteL x ⟨6, g, (numL x ↑cj), -1, cv, -1, sd, false⟩).M.set i (waitF ((noteL x ⟨6, g, (numL x ↑cj), -1, cv, -1, sd, false⟩).M.getD i (emptyM 0)) sd ⟨g, -1, cv⟩).2 }) g 0 1) := by first | exact alone_ready hk hcj hni (by assumption) | exact alone_wait hk hcj hni (by assumption)
  rw [hc]
  exact ⟨rfl, H.pi [0] 4⟩
 refine Cn.yes (⟨H.ldi 1 rfl (v := .bool sd) rfl ?_⟩)
 refine H.ldi 1 rfl (v := .int .i64 ↑cj) rfl (H.ldi 1 rfl (v := .int .i64 cv) rfl ?_)
 have H0 := H.pi [2, 3, 4, 5, 6, 7, 0, 1] 8
 simp only [pl, nth, drL] at H0
 replace H := rl_shut (x := x) hl1 (by first | rfl | simp [turnL, noteL, backN_len]) hn H0
 have h1 := H
 refine Cl.s (r_talk (x := x) hn (hk) (by omega) g (cj := cj) hcj sd cv (-1) h1) fun w H => ?_
 refine ret0 rfl ?_
 have hc : aloneL x g ⟨sd, (cj : Int), cv⟩ = (talkL x g ⟨sd, (↑cj : Int), cv⟩ (-1)) := by first | exact alone_ready hk hcj hni (by assumption) | exact alone_wait hk hcj hni (by assumption)
 rw [hc]
 exact ⟨rfl, H.pi [0] 3⟩
end Go.Proofs.YtoamjodmidbmbaaGreatDoor
namespace Go.Proofs.YtoamjodmidbmbaaGreatDoor
open Go.RowKit
section
variable {w : World} {L : List Piece} {A : Piece} {a : Option Addr} {n sz b off o q : Nat} {xs : List Value} {v : Value} {K : Value → Prop}
theorem SL.addrR (H : SL w L) (i : Nat) (hi : L[i]? = some A) (hA : Reader A sz a n xs) (hn : 0 < n) : ∃ b off, a = some ⟨b, off, none⟩ := by
 obtain ⟨T, _, hT⟩ := SLs.at i H hi
 obtain ⟨b, off, h, _⟩ := (hA T w hT).2.2 hn
 exact ⟨b, off, h⟩
theorem SL.cellR (H : SL w L) (i : Nat) (hi : L[i]? = some A) (hA : Reader A sz (some ⟨b, off, none⟩) n xs) (hn : 0 < n) (ho : o = off + q) (hv : xs[q]? = some v) : w.cell? ⟨b, o, none⟩ = some v := by
 obtain ⟨T, _, hT⟩ := SLs.at i H hi
 obtain ⟨b', off', h, hc⟩ := (hA T w hT).2.2 hn
 injection h with h
 injection h with h1 h2
 subst h1 h2 ho
 exact hc q v hv
theorem SL.ldR (H : SL w L) (i : Nat) (hi : L[i]? = some A) (hA : Reader A sz (some ⟨b, off, none⟩) n xs) (hn : 0 < n) (ho : o = off + q) (hv : xs[q]? = some v) (k : K v) : Ld w ⟨b, o, none⟩ K := Ld.by (H.cellR i hi hA hn ho hv) k
theorem LdC.R (i : Nat) (hi : L[i]? = some A) (hA : Reader A sz (some ⟨b, off, none⟩) n xs) (hn : 0 < n) (ho : o = off + q) (hv : xs[q]? = some v) (k : K v) : LdC (fun w => SL w L) ⟨b, o, none⟩ K := LdC.by (fun w H => H.cellR i hi hA hn ho hv) k
end
theorem wtr_cell {R : List Wtr} {j : Nat} {m : Wtr} (h : R[j]? = some m) (i : Nat) (hi : i < 3) : (R.flatMap Wtr.cells)[j * 3 + i]? = m.cells[i]? := by
 obtain ⟨hk, rfl⟩ := List.getElem?_eq_some_iff.1 h
 exact flat_get Wtr.cells 3 (fun _ => rfl) R j i hi hk
theorem wakes_snoc (x : LmM) (g ch : Int) : ∀ (a : List Wtr) (m : Wtr), wakesL x g ch (a ++ [m]) = if (stateF (wakesL x g ch a).crew m.g).1 = 1 then wakeL (wakesL x g ch a) ⟨7, m.g, ch, m.case_, 0, g, false, false⟩ else wakesL x g ch a := by
 intro a m
 induction a generalizing x with
 | nil => rfl
 | cons z a ih =>
  rw [List.cons_append]
  unfold wakesL
  exact ih _
theorem wakes_step {x : LmM} {g ch : Int} {R : List Wtr} {j : Nat} {m : Wtr} (h : R[j]? = some m) : wakesL x g ch (R.take (j + 1)) = if (stateF (wakesL x g ch (R.take j)).crew m.g).1 = 1 then wakeL (wakesL x g ch (R.take j)) ⟨7, m.g, ch, m.case_, 0, g, false, false⟩ else wakesL x g ch (R.take j) := by
 rw [List.take_add_one, h]
 exact wakes_snoc x g ch _ m
theorem wakes_name (x : LmM) (g ch : Int) (ws : List Wtr) : (wakesL x g ch ws).name = x.name := by
 induction ws generalizing x with
 | nil => rfl
 | cons z a ih =>
  unfold wakesL
  rw [ih]
  split <;> rfl
theorem wakes_crew (x : LmM) (g ch : Int) (ws : List Wtr) : (wakesL x g ch ws).crew.length = x.crew.length := by
 induction ws generalizing x with
 | nil => rfl
 | cons z a ih =>
  unfold wakesL
  rw [ih]
  split
  ·exact turn_len _ _ _ _ _
  ·rfl
theorem stateF_at {L : List One} {n : Nat} {o : One} (h : L[n]? = some o) : (stateF L (n : Int)).1 = o.state := by
 unfold stateF
 rw [if_pos (Int.natCast_nonneg n), Int.toNat_natCast, h]
theorem senders_step {x : LmM} {R : List Wtr} {j : Nat} {m : Wtr} (h : R[j]? = some m) : sendersL x (R.drop j) = if (stateF x.crew m.g).1 = 1 then panicL x m.g else sendersL x (R.drop (j + 1)) := by
 obtain ⟨hk, rfl⟩ := List.getElem?_eq_some_iff.1 h
 rw [List.drop_eq_getElem_cons hk]
 rfl
theorem close_in {np k i : Nat} {x : LmM} (hk : Lk np k x) (hi : i < x.M.length) : (∀ m ∈ (closeF (x.M.getD i (emptyM 0))).1.1, 0 ≤ m.g ∧ m.g < (x.crew.length : Int)) ∧ (∀ m ∈ (closeF (x.M.getD i (emptyM 0))).1.2.1, 0 ≤ m.g ∧ m.g < (x.crew.length : Int)) ∧
  (closeF (x.M.getD i (emptyM 0))).1.1.length ≤ 1024 ∧ (closeF (x.M.getD i (emptyM 0))).1.2.1.length ≤ 1024 := by
 have hmem : x.M.getD i (emptyM 0) ∈ x.M := by
  rw [List.getD_eq_getElem?_getD, List.getElem?_eq_getElem hi]
  exact List.getElem_mem hi
 have hI := hk.inv _ hmem
 have hW := hk.wt _ hmem
 unfold closeF
 split
 ·refine ⟨fun m hm => ?_, fun m hm => ?_, Nat.zero_le _, Nat.zero_le _⟩ <;> cases hm
 ·exact ⟨fun m hm => hW m (.inr hm), fun m hm => hW m (.inl hm), hI.rcv.1, hI.snd.1⟩
theorem Lk.closed {np k i : Nat} {x : LmM} (hk : Lk np k x) (hi : i < x.M.length) : Lk np k { x with M := x.M.set i (closeF (x.M.getD i (emptyM 0))).2 } := by
 have := hk.setM (M := x.M.set i (closeF (x.M.getD i (emptyM 0))).2) (j := k) (List.length_set ..) (hk.inv.set (hk.inv.get hi).close i) (hk.wt.set (fun a ha => by
  unfold closeF at ha
  split at ha
  ·exact .inl ha
  ·rcases ha with ha | ha <;> cases ha))
 rwa [Nat.max_self] at this
theorem shut_nil {x : LmM} {g : Int} {cj : Nat} (hz : numL x (cj : Int) < 0) : shutL x g (cj : Int) = panicL x g := by
 unfold shutL
 dsimp only
 rw [if_pos hz]
theorem shut_shut {x : LmM} {g : Int} {cj i : Nat} (hni : numL x (cj : Int) = (i : Int)) (hc : (x.M.getD i (emptyM 0)).closed = true) : shutL x g (cj : Int) = panicL x g := by
 unfold shutL
 dsimp only
 rw [hni, if_neg (by omega), Int.toNat_natCast, if_pos hc]
theorem shut_main {x : LmM} {g : Int} {cj i : Nat} {R Sd : List Wtr} {ec : Int} {y : PipeM} (hni : numL x (cj : Int) = (i : Int)) (hc : (x.M.getD i (emptyM 0)).closed = false) (hC : closeF (x.M.getD i (emptyM 0)) = ((R, Sd, ec), y)) :
  shutL x g (cj : Int) = sendersL (wakesL (turnL (noteL { x with M := x.M.set i y } ⟨5, g, numL x (cj : Int), -1, -1, -1, false, false⟩) g 0 0) g (numL x (cj : Int)) R) Sd := by
 unfold shutL
 dsimp only
 rw [hni, if_neg (by omega), Int.toNat_natCast, if_neg (by rw [hc]; exact Bool.false_ne_true), hC]
theorem rs_closed {w : World} {L : List Piece} {ps : List Nat} {M : List PipeM} {i g : Nat} {K : Value → Prop} (hl : ps.length = M.length) (hg : (ps.map some)[i]? = some (some g)) (H : SL w L) (q : Nat) (hq : L[q]? = some (RsP (ps.map some) M)) (k : K (.bool (M.getD i (emptyM 0)).closed)) : Ld w ⟨g, 4, none⟩ K := by
 have h1 := take_rs (by simp [hl]) hg (H.one q hq)
 obtain ⟨a1, c1, a2, c2, a3, c3, h2⟩ := ref_open h1
 exact h2.ldi 0 rfl rfl k
end Go.Proofs.YtoamjodmidbmbaaGreatDoor
namespace Go.Proofs.YtoamjodmidbmbaaGreatDoor
open Go.RowKit
set_option maxRecDepth 100000
set_option maxHeartbeats 40000000 in
theorem r_shut {w : World} {F : List Piece} {np k lb : Nat} {x : LmM} {t m : Int} {vp vl vd : Value} {n0 n1 n2 n3 n4 n5 n6 n7 : Int} (hn : x.name = [n0, n1, n2, n3, n4, n5, n6, n7]) (hk : Lk np k x) (hkb : k ≤ 997000) (g : Int) {cj : Nat} (hcj : cj < 8) (H : SL w (RlP lb ⟨t, m, vp, vl, vd⟩ x :: F)) :
  Calls Tryz.prog 107 #[.pointer (some ⟨lb, 0, none⟩), .int .i64 g, .int .i64 (cj : Int)] w fun o w' => o = .returned (.tuple #[]) ∧ SL w' (RlP lb ⟨t, m, vp, vl, vd⟩ (shutL x g (cj : Int)) :: F) := by
 have hob := rl_open (x := x) hn H
 obtain ⟨hb1, crb1, cha1, chc1, ta1, tc1, ps1, hl1, H⟩ := hob
 rcases num_or hk hl1 hcj with ⟨hz, hnm⟩ | ⟨i, pg, hni, hi, hg, hnm⟩
 ·refine calls_d (args := [_, _, _]) Tryz.func107 rfl ?_
  refine ⟨?_⟩
  have h1 := H.pi [0, 3, 1, 2, 4, 5] 6
  simp only [pl, nth, drL] at h1
  refine Cl.b (r_pipes (x := x) hn (hk) hl1 h1) ?_
  rintro _ w ⟨oa1, oc1, rfl, H⟩
  refine ⟨_, rfl, ?_⟩
  replace H := H.pi [0, 1, 3, 4, 2, 5, 6] 7
  simp only [pl, nth, drL] at H
  have h1 := H
  refine Cl.s (q_named (x := x) (ps := ps1) (cb := oc1) hk Reader.slc (none) hnm h1) fun w H => ?_
  refine ⟨BB.yes rfl ?_⟩
  refine Cn.yes (⟨?_⟩)
  have H0 := H.pi [1, 2, 3, 4, 5, 6, 0] 7
  simp only [pl, nth, drL] at H0
  replace H := rl_shut (x := x) hl1 (by first | rfl | simp [turnL, noteL, backN_len]) hn H0
  have h1 := H
  refine Cl.s (r_panics (x := x) (Nat.le_trans (hk).tr (by omega)) g h1) fun w H => ?_
  have hob := rl_open (x := (panicL x g)) hn H
  obtain ⟨hb2, crb2, cha2, chc2, ta2, tc2, ps2, hl2, H⟩ := hob
  refine ret0 rfl ?_
  have H0 := H
  replace H := rl_shut (x := (panicL x g)) hl2 (by first | rfl | simp [turnL, noteL, backN_len]) hn H0
  have hc : shutL x g (cj : Int) = (panicL x g) := by exact shut_nil hz
  rw [hc]
  exact ⟨rfl, H.pi [0] 2⟩
 ·obtain ⟨hinR, hinS, hlR, hlS⟩ := close_in hk hi
  have hkC := hk.closed hi
  obtain ⟨⟨⟨R, Sd, ec⟩, y⟩, hC⟩ : ∃ r, closeF (x.M.getD i (emptyM 0)) = r := ⟨_, rfl⟩
  rw [hC] at hinR hinS hlR hlS hkC
  dsimp only at hinR hinS hlR hlS hkC
  refine calls_d (args := [_, _, _]) Tryz.func107 rfl ?_
  refine ⟨?_⟩
  have h1 := H.pi [0, 3, 1, 2, 4, 5] 6
  simp only [pl, nth, drL] at h1
  refine Cl.b (r_pipes (x := x) hn (hk) hl1 h1) ?_
  rintro _ w ⟨oa1, oc1, rfl, H⟩
  refine ⟨_, rfl, ?_⟩
  replace H := H.pi [0, 1, 3, 4, 2, 5, 6] 7
  simp only [pl, nth, drL] at H
  have h1 := H
  refine Cl.s (q_named (x := x) (ps := ps1) (cb := oc1) hk Reader.slc (some pg) hnm h1) fun w H => ?_
  refine ⟨BB.no rfl ?_⟩
  refine rs_closed hl1 hg H 5 rfl (BB.vr fun q1 e1 => ?_)
  cases q1
  ·refine Cn.no (⟨?_⟩)
   have h1 := H.pi [5, 0, 1, 2, 3, 4, 6] 7
   simp only [pl, nth, drL] at h1
   have hq := q_close (x := x) hl1 hg h1
   rw [hC] at hq
   dsimp only at hq
   refine Cl.b hq ?_
   rintro _ w ⟨ra, rac, rb, rbc, rfl, H⟩
   refine ⟨_, rfl, ?_⟩
   refine ⟨Cl.s (r_bare H 5 g) fun w H => ?_⟩
   refine Nw.as ev0C 53 rfl H fun b10 w H => ?_
   refine SL.stEv H rfl rfl fun w H => ?_
   refine ⟨Ix.at cj 1 (by kernel_rfl) rfl hcj ?_⟩
   refine H.ldi 5 rfl (v := .int .i64 (numL x ↑cj)) (name_cell (x := x) hn cj hcj) (H.st0 (cs' := #[.int .i64 5, .int .i64 g, .int .i64 (numL x ↑cj), .int .i64 (-1), .int .i64 (-1), .int .i64 (-1), .bool false, .bool false]) rfl rfl rfl fun w H => ?_)
   refine ⟨H.ldi 0 rfl (v := .int .i64 5) rfl ?_⟩
   refine H.ldi 0 rfl (v := .int .i64 g) rfl (H.ldi 0 rfl (v := .int .i64 (numL x ↑cj)) rfl (H.ldi 0 rfl (v := .int .i64 (-1)) rfl (H.ldi 0 rfl (v := .int .i64 (-1)) rfl (H.ldi 0 rfl (v := .int .i64 (-1)) rfl (H.ldi 0 rfl (v := .bool false) rfl (H.ldi 0 rfl (v := .bool false) rfl ?_))))))
   have h1 := H.pi [5, 9, 0, 1, 2, 3, 4, 6, 7, 8] 10
   simp only [pl, nth, drL] at h1
   refine Cl.b (r_noteO (Nat.le_trans (hkC).tr (by omega)) ⟨5, g, (numL x ↑cj), -1, -1, -1, false, false⟩ h1) ?_
   rintro _ w ⟨tn1, tk1, rfl, H⟩
   refine ⟨_, rfl, ?_⟩
   replace H := H.pi [2, 3, 4, 5, 6, 0, 7, 8, 9, 1] 10
   simp only [pl, nth, drL] at H
   refine ⟨H.ldi 5 rfl (v := .pointer (some ⟨crb1, 0, none⟩)) rfl ?_⟩
   have h1 := H.pi [7, 0, 1, 2, 3, 4, 5, 6, 8, 9] 10
   simp only [pl, nth, drL] at h1
   refine Cl.s (q_turn (L := (noteL ({ x with M := x.M.set i y }) ⟨5, g, (numL x ↑cj), -1, -1, -1, false, false⟩).crew) (Small.more ((hkC.note ⟨5, g, (numL x ↑cj), -1, -1, -1, false, false⟩)).sm (by omega)) g 0 0 (by decide) h1) fun w H => ?_
   replace H := H.pi [1, 2, 3, 4, 5, 6, 7, 0, 8, 9] 10
   simp only [pl, nth, drL] at H
   refine ⟨⟨?_⟩⟩
   have H0 := H.pi [5, 6, 7, 8, 3, 9, 0, 1, 2, 4] 10
   simp only [pl, nth, drL] at H0
   replace H := rl_shut (x := (turnL (noteL ({ x with M := x.M.set i y }) ⟨5, g, (numL x ↑cj), -1, -1, -1, false, false⟩) g 0 0)) hl1 (by first | rfl | simp [turnL, noteL, backN_len]) hn H0
   have hob : ∃ z, z = (turnL (noteL ({ x with M := x.M.set i y }) ⟨5, g, (numL x ↑cj), -1, -1, -1, false, false⟩) g 0 0) := ⟨_, rfl⟩
   obtain ⟨x2, hx2⟩ := hob
   rw [← hx2] at H
   have hn2 : x2.name = [n0, n1, n2, n3, n4, n5, n6, n7] := by rw [hx2]; exact hn
   have hk2 : Lk np (k + 2) x2 := by rw [hx2]; exact ((hkC.note ⟨5, g, (numL x ↑cj), -1, -1, -1, false, false⟩).turn g 0 0)
   have hc2 : x2.crew.length = x.crew.length := by rw [hx2]; exact turn_len _ _ _ _ _
   refine den.loop (ι := Nat) [(12, 12), (56, 83)] (by kernel_rfl) (fun j => [(56, .int .i64 ↑j)]) (fun j w => (j ≤ R.length) ∧ SL w (RlP lb ⟨t, m, vp, vl, vd⟩ (wakesL x2 g (numL x ↑cj) (R.take j)) :: RdP ra R.length 3 (R.flatMap Wtr.cells) :: RdP rb Sd.length 3 (Sd.flatMap Wtr.cells) :: row b10 #[.int .i64 5, .int .i64 g, .int .i64 (numL x ↑cj), .int .i64 (-1), .int .i64 (-1), .int .i64 (-1), .bool false, .bool false] 53 :: F)) (fun j => R.length - j) 0 ⟨rfl, trivial⟩ ⟨Nat.zero_le _, (H.pi [0, 2, 3, 1] 5)⟩ ?_
   rintro j s w ⟨hc, H⟩
   have hob := Nat.lt_or_ge j R.length
   rcases hob with hj | hj
   ·have hkj : Lk np (k + 1100) (wakesL x2 g (numL x ↑cj) (R.take j)) := (hk2.wakes _ _ _).more (by rw [List.length_take]; omega)
    have hob : ∃ z, R[j]? = some z := ⟨_, get_of hj⟩
    obtain ⟨wz, hw⟩ := hob
    have hwr := hinR _ (List.mem_of_getElem? hw)
    have hob := Int.eq_ofNat_of_zero_le hwr.1
    obtain ⟨wn, hwg⟩ := hob
    have hwn : wn < (wakesL x2 g (numL x ↑cj) (R.take j)).crew.length := by rw [wakes_crew, hc2]; omega
    have hob : ∃ z, (wakesL x2 g (numL x ↑cj) (R.take j)).crew[wn]? = some z := ⟨_, get_of hwn⟩
    obtain ⟨oz, hone⟩ := hob
    have hstep := wakes_step (x := x2) (g := g) (ch := numL x ↑cj) hw
    rw [hwg, stateF_at hone, ← hwg] at hstep
    have hob := H.addrR 1 rfl Reader.rdp (by omega)
    obtain ⟨rab, rao, rfl⟩ := hob
    have hob := rl_open (x := (wakesL x2 g (numL x ↑cj) (R.take j))) ((wakes_name x2 g (numL x ↑cj) (R.take j)).trans hn2) H
    obtain ⟨hb2, crb2, cha2, chc2, ta2, tc2, ps2, hl2, H⟩ := hob
    have H0 := H.pi [2, 0, 1, 3, 4, 5, 6, 7, 8] 9
    simp only [pl, nth, drL] at H0
    have hob := ones_open H0
    obtain ⟨ov, H⟩ := hob
    have hob := SL.slcForm H.up1
    obtain ⟨oa, oc, rfl⟩ := hob
    have hob := SL.slcAddr H.up1 (by omega)
    obtain ⟨ob, rfl⟩ := hob
    refine ⟨BB.yd ?_⟩
    refine Cn.yes (⟨⟨Ix.at j 3 (by kernel_rfl) (rfl) (hj) ?_⟩⟩)
    refine H.ldR 7 rfl Reader.rdp (by omega) (q := j * 3 + 0) rfl (v := .int .i64 wz.g) ((wtr_cell hw 0 (by decide)).trans rfl) (H.ldR 7 rfl Reader.rdp (by omega) (q := j * 3 + 1) rfl (v := .int .i64 wz.case_) ((wtr_cell hw 1 (by decide)).trans rfl) (H.ldR 7 rfl Reader.rdp (by omega) (q := j * 3 + 2) rfl (v := .int .i64 wz.value) ((wtr_cell hw 2 (by decide)).trans rfl) (Nw.as #[.int .i64 0, .int .i64 0, .int .i64 0] 200 rfl H fun b12 w H => ?_)))
    refine H.st0 (cs' := #[.int .i64 wz.g, .int .i64 0, .int .i64 0]) rfl rfl rfl fun w H => ?_
    refine H.st0 (cs' := #[.int .i64 wz.g, .int .i64 wz.case_, .int .i64 0]) rfl rfl rfl fun w H => ?_
    refine H.st0 (cs' := #[.int .i64 wz.g, .int .i64 wz.case_, .int .i64 wz.value]) rfl rfl rfl fun w H => ?_
    refine ⟨Drw.of [(0, true), (1, true), (2, true), (3, true), (4, true), (5, true), (6, true), (7, true), (8, true), (9, true), (10, true), (11, true), (12, true)] (by kernel_rfl) mixed (fun w => SL w _) H.drew ?_⟩
    replace H := H.drew
    refine LdC.i 3 rfl (v := .pointer (some ⟨crb2, 0, none⟩)) rfl (LdC.i 1 rfl (v := .slice (some ⟨ob, 0, none⟩) ((wakesL x2 g (numL x ↑cj) (R.take j)).crew.length) oc) rfl (LdC.i 0 rfl (v := .int .i64 wz.g) rfl (Ix.at0 wn 3 (by kernel_rfl) (hwg) (hwn) ?_)))
    refine LdC.S 2 rfl (v := .int .i64 oz.state) ((ones_at hone 2 (by decide)).trans rfl) (BB.vr fun q2 e2 => ?_)
    cases q2
    ·have h2 := neq_of e2
     refine Cn.no (⟨IW.i j ?_⟩)
     have H0 := H.pi [1, 2, 0, 3, 4, 5, 6, 7, 8, 9, 10] 11
     simp only [pl, nth, drL] at H0
     replace H := ones_shut H0
     have H0 := H.pi [2, 3, 0, 4, 5, 6, 1, 7, 8, 9] 10
     simp only [pl, nth, drL] at H0
     replace H := rl_shut (x := (wakesL x2 g (numL x ↑cj) (R.take j))) hl2 (by first | rfl | simp [turnL, noteL, backN_len]) ((wakes_name x2 g (numL x ↑cj) (R.take j)).trans hn2) H0
     rw [if_neg (by first | exact rfl | assumption)] at hstep
     rw [← hstep] at H
     exact ⟨j + 1, ⟨rfl, trivial⟩, ⟨(by omega : j + 1 ≤ R.length), H.pi [0, 2, 3, 4] 5⟩, (show R.length - (j + 1) < R.length - j by omega)⟩
    have h2 := eq_of_beq e2
    refine Cn.yes (⟨H.ldi 0 rfl (v := .int .i64 wz.g) rfl ?_⟩)
    refine H.ldi 10 rfl (v := .int .i64 (numL x ↑cj)) rfl (H.ldi 0 rfl (v := .int .i64 wz.case_) rfl (Mn.pure (.agg #[.int .i64 7, .int .i64 wz.g, .int .i64 (numL x ↑cj), .int .i64 wz.case_, .int .i64 0, .int .i64 g, .bool false, .bool false]) (by kernel_rfl) ?_))
    have H0 := H.pi [1, 2, 0, 3, 4, 5, 6, 7, 8, 9, 10] 11
    simp only [pl, nth, drL] at H0
    replace H := ones_shut H0
    have H0 := H.pi [2, 3, 0, 4, 5, 6, 1, 7, 8, 9] 10
    simp only [pl, nth, drL] at H0
    replace H := rl_shut (x := (wakesL x2 g (numL x ↑cj) (R.take j))) hl2 (by first | rfl | simp [turnL, noteL, backN_len]) ((wakes_name x2 g (numL x ↑cj) (R.take j)).trans hn2) H0
    have h1 := H
    refine Cl.s (r_wake (x := (wakesL x2 g (numL x ↑cj) (R.take j))) ((wakes_name x2 g (numL x ↑cj) (R.take j)).trans hn2) (hkj) (by omega) ⟨7, wz.g, (numL x ↑cj), wz.case_, 0, g, false, false⟩ h1) fun w H => ?_
    have hob := rl_open (x := (wakeL (wakesL x2 g (numL x ↑cj) (R.take j)) ⟨7, wz.g, (numL x ↑cj), wz.case_, 0, g, false, false⟩)) ((wakes_name x2 g (numL x ↑cj) (R.take j)).trans hn2) H
    obtain ⟨hb3, crb3, cha3, chc3, ta3, tc3, ps3, hl3, H⟩ := hob
    refine ⟨IW.i j ?_⟩
    have H0 := H
    replace H := rl_shut (x := (wakeL (wakesL x2 g (numL x ↑cj) (R.take j)) ⟨7, wz.g, (numL x ↑cj), wz.case_, 0, g, false, false⟩)) hl3 (by first | rfl | simp [turnL, noteL, backN_len]) ((wakes_name x2 g (numL x ↑cj) (R.take j)).trans hn2) H0
    rw [if_pos (by first | exact rfl | assumption)] at hstep
    rw [← hstep] at H
    exact ⟨j + 1, ⟨rfl, trivial⟩, ⟨(by omega : j + 1 ≤ R.length), H.pi [0, 2, 3, 4] 5⟩, (show R.length - (j + 1) < R.length - j by omega)⟩
   have hob : j = R.length := by omega
   obtain rfl := hob
   rw [List.take_length] at H
   have hkw : Lk np (k + 1100) (wakesL x2 g (numL x ↑cj) R) := (hk2.wakes _ _ _).more (by omega)
   refine ⟨BB.nd ?_⟩
   refine Cn.no (⟨⟨?_⟩⟩)
   have hcw : (wakesL x2 g (numL x ↑cj) R).crew.length = x.crew.length := by rw [wakes_crew, hc2]
   refine den.loop (ι := Nat) [(14, 14), (86, 107)] (by kernel_rfl) (fun j => [(86, .int .i64 ↑j)]) (fun j w => (j ≤ Sd.length ∧ sendersL (wakesL x2 g (numL x ↑cj) R) Sd = sendersL (wakesL x2 g (numL x ↑cj) R) (Sd.drop j)) ∧ SL w (RlP lb ⟨t, m, vp, vl, vd⟩ (wakesL x2 g (numL x ↑cj) R) :: RdP rb Sd.length 3 (Sd.flatMap Wtr.cells) :: F)) (fun j => Sd.length - j) 0 ⟨rfl, trivial⟩ ⟨⟨Nat.zero_le _, rfl⟩, (H.pi [0, 2] 4)⟩ ?_
   rintro j s w ⟨hc, H⟩
   have hob := Nat.lt_or_ge j Sd.length
   rcases hob with hj | hj
   ·have hob : ∃ z, Sd[j]? = some z := ⟨_, get_of hj⟩
    obtain ⟨wz, hw⟩ := hob
    have hwr := hinS _ (List.mem_of_getElem? hw)
    have hob := Int.eq_ofNat_of_zero_le hwr.1
    obtain ⟨wn, hwg⟩ := hob
    have hwn : wn < (wakesL x2 g (numL x ↑cj) R).crew.length := by omega
    have hob : ∃ z, (wakesL x2 g (numL x ↑cj) R).crew[wn]? = some z := ⟨_, get_of hwn⟩
    obtain ⟨oz, hone⟩ := hob
    have hstep := senders_step (x := (wakesL x2 g (numL x ↑cj) R)) hw
    rw [hwg, stateF_at hone, ← hwg] at hstep
    have hob := H.addrR 1 rfl Reader.rdp (by omega)
    obtain ⟨rbb, rbo, rfl⟩ := hob
    have hob := rl_open (x := (wakesL x2 g (numL x ↑cj) R)) ((wakes_name x2 g (numL x ↑cj) R).trans hn2) H
    obtain ⟨hb4, crb4, cha4, chc4, ta4, tc4, ps4, hl4, H⟩ := hob
    have H0 := H.pi [2, 0, 1, 3, 4, 5, 6] 7
    simp only [pl, nth, drL] at H0
    have hob := ones_open H0
    obtain ⟨ov, H⟩ := hob
    have hob := SL.slcForm H.up1
    obtain ⟨oa, oc, rfl⟩ := hob
    have hob := SL.slcAddr H.up1 (by omega)
    obtain ⟨ob, rfl⟩ := hob
    refine ⟨BB.yd ?_⟩
    refine Cn.yes (⟨⟨Ix.at j 3 (by kernel_rfl) (rfl) (hj) ?_⟩⟩)
    refine H.ldR 7 rfl Reader.rdp (by omega) (q := j * 3 + 0) rfl (v := .int .i64 wz.g) ((wtr_cell hw 0 (by decide)).trans rfl) (H.ldR 7 rfl Reader.rdp (by omega) (q := j * 3 + 1) rfl (v := .int .i64 wz.case_) ((wtr_cell hw 1 (by decide)).trans rfl) (H.ldR 7 rfl Reader.rdp (by omega) (q := j * 3 + 2) rfl (v := .int .i64 wz.value) ((wtr_cell hw 2 (by decide)).trans rfl) (Nw.as #[.int .i64 0, .int .i64 0, .int .i64 0] 200 rfl H fun b14 w H => ?_)))
    refine H.st0 (cs' := #[.int .i64 wz.g, .int .i64 0, .int .i64 0]) rfl rfl rfl fun w H => ?_
    refine H.st0 (cs' := #[.int .i64 wz.g, .int .i64 wz.case_, .int .i64 0]) rfl rfl rfl fun w H => ?_
    refine H.st0 (cs' := #[.int .i64 wz.g, .int .i64 wz.case_, .int .i64 wz.value]) rfl rfl rfl fun w H => ?_
    refine ⟨Drw.of [(0, true), (1, true), (2, true), (3, true), (4, true), (5, true), (6, true), (7, true), (8, true), (9, true), (10, true), (11, true), (12, true)] (by kernel_rfl) mixed (fun w => SL w _) H.drew ?_⟩
    replace H := H.drew
    refine LdC.i 3 rfl (v := .pointer (some ⟨crb4, 0, none⟩)) rfl (LdC.i 1 rfl (v := .slice (some ⟨ob, 0, none⟩) ((wakesL x2 g (numL x ↑cj) R).crew.length) oc) rfl (LdC.i 0 rfl (v := .int .i64 wz.g) rfl (Ix.at0 wn 3 (by kernel_rfl) (hwg) (hwn) ?_)))
    refine LdC.S 2 rfl (v := .int .i64 oz.state) ((ones_at hone 2 (by decide)).trans rfl) (BB.vr fun q3 e3 => ?_)
    cases q3
    ·have h3 := neq_of e3
     refine Cn.no (⟨IW.i j ?_⟩)
     have H0 := H.pi [1, 2, 0, 3, 4, 5, 6, 7, 8] 9
     simp only [pl, nth, drL] at H0
     replace H := ones_shut H0
     have H0 := H.pi [2, 3, 0, 4, 5, 6, 1, 7] 8
     simp only [pl, nth, drL] at H0
     replace H := rl_shut (x := (wakesL x2 g (numL x ↑cj) R)) hl4 (by first | rfl | simp [turnL, noteL, backN_len]) ((wakes_name x2 g (numL x ↑cj) R).trans hn2) H0
     rw [if_neg (by assumption)] at hstep
     exact ⟨j + 1, ⟨rfl, trivial⟩, ⟨⟨by omega, hc.2.trans hstep⟩, H.pi [0, 2] 3⟩, (show Sd.length - (j + 1) < Sd.length - j by omega)⟩
    have h3 := eq_of_beq e3
    refine Cn.yes (⟨H.ldi 0 rfl (v := .int .i64 wz.g) rfl ?_⟩)
    have H0 := H.pi [1, 2, 0, 3, 4, 5, 6, 7, 8] 9
    simp only [pl, nth, drL] at H0
    replace H := ones_shut H0
    have H0 := H.pi [2, 3, 0, 4, 5, 6, 1, 7] 8
    simp only [pl, nth, drL] at H0
    replace H := rl_shut (x := (wakesL x2 g (numL x ↑cj) R)) hl4 (by first | rfl | simp [turnL, noteL, backN_len]) ((wakes_name x2 g (numL x ↑cj) R).trans hn2) H0
    have h1 := H
    refine Cl.s (r_panics (x := (wakesL x2 g (numL x ↑cj) R)) (Nat.le_trans (hkw).tr (by omega)) wz.g h1) fun w H => ?_
    have hob := rl_open (x := (panicL (wakesL x2 g (numL x ↑cj) R) wz.g)) ((wakes_name x2 g (numL x ↑cj) R).trans hn2) H
    obtain ⟨hb5, crb5, cha5, chc5, ta5, tc5, ps5, hl5, H⟩ := hob
    refine ret0 rfl ?_
    rw [if_pos (by first | exact rfl | assumption)] at hstep
    have H0 := H
    replace H := rl_shut (x := (panicL (wakesL x2 g (numL x ↑cj) R) wz.g)) hl5 (by first | rfl | simp [turnL, noteL, backN_len]) ((wakes_name x2 g (numL x ↑cj) R).trans hn2) H0
    have hc : shutL x g (cj : Int) = (panicL (wakesL x2 g (numL x ↑cj) R) wz.g) := by rw [shut_main hni (by assumption) hC, ← hx2, hc.2, hstep]
    rw [hc]
    exact ⟨rfl, H.pi [0] 3⟩
   have hob : j = Sd.length := by omega
   obtain rfl := hob
   rw [List.drop_length] at hc
   refine ⟨BB.nd ?_⟩
   refine Cn.no (ret0 rfl ?_)
   have hc : shutL x g (cj : Int) = (wakesL x2 g (numL x ↑cj) R) := by rw [shut_main hni (by assumption) hC, ← hx2, hc.2]; rfl
   rw [hc]
   exact ⟨rfl, H.pi [0] 2⟩
  refine Cn.yes (⟨?_⟩)
  have H0 := H.pi [1, 2, 3, 4, 5, 6, 0] 7
  simp only [pl, nth, drL] at H0
  replace H := rl_shut (x := x) hl1 (by first | rfl | simp [turnL, noteL, backN_len]) hn H0
  have h1 := H
  refine Cl.s (r_panics (x := x) (Nat.le_trans (hk).tr (by omega)) g h1) fun w H => ?_
  have hob := rl_open (x := (panicL x g)) hn H
  obtain ⟨hb6, crb6, cha6, chc6, ta6, tc6, ps6, hl6, H⟩ := hob
  refine ret0 rfl ?_
  have H0 := H
  replace H := rl_shut (x := (panicL x g)) hl6 (by first | rfl | simp [turnL, noteL, backN_len]) hn H0
  have hc : shutL x g (cj : Int) = (panicL x g) := by exact shut_shut hni (by assumption)
  rw [hc]
  exact ⟨rfl, H.pi [0] 2⟩
end Go.Proofs.YtoamjodmidbmbaaGreatDoor
