/- Texts of the proof, several in one file: EdgeZ, SxD, SxE, EdgeO, EdgeF. -/
import Derived.Test.YtchkaaeoffmjnaaDoorE18
import Derived.Test.YtchkaaeoffmjnaaDoorE11
import Derived.Lib.SliceRun
namespace Go.Proofs.YtchkaaeoffmjnaaDoor
set_option linter.unusedVariables false
set_option linter.unusedSimpArgs false
open Go.RowKit
set_option maxRecDepth 100000
set_option maxHeartbeats 1000000 in
theorem e_crosses {w : World} {F : List Piece} {rb ml mr mp p : Nat} {lv ev cv u v : Value} {es : List Edg} {c : ChE} (hes : es.length + 2 * c.outs.length + 2 ≤ 100000000) (hio : c.ins.length ≤ 100000 ∧ c.outs.length ≤ 100000 ∧ c.size ≤ 100000)
  (H : SL w (row rb #[lv, ev, .map (some ml), .map (some mr), .map (some mp), cv] 51 :: Slc 29 3 ev es.length (es.flatMap Edg.cells) :: row p #[.int .i64 (c.size : Int), u, v, .int .i64 (c.closed : Int)] 76 :: Slc 78 2 u c.ins.length (c.ins.flatMap prc) :: Slc 78 2 v c.outs.length (c.outs.flatMap prc) :: F)) :
  Calls Tryd.prog 14 #[.pointer (some ⟨rb, 0, none⟩), .pointer (some ⟨p, 0, none⟩)] w fun o w' => o = .returned (.tuple #[]) ∧ ∃ ev', SL w' (row rb #[lv, ev', .map (some ml), .map (some mr), .map (some mp), cv] 51 :: Slc 29 3 ev' (crossU c es c.outs.length).length ((crossU c es c.outs.length).flatMap Edg.cells) :: row p #[.int .i64 (c.size : Int), u, v, .int .i64 (c.closed : Int)] 76 :: Slc 78 2 u c.ins.length (c.ins.flatMap prc) :: Slc 78 2 v c.outs.length (c.outs.flatMap prc) :: F) := by
 obtain ⟨ia, ic, rfl⟩ := SL.slcForm H.up3
 obtain ⟨oa, oc, rfl⟩ := SL.slcForm H.up4
 refine calls_den (args := [_, _]) Tryd.func14 rfl (Nat.le_of_ble_eq_true (by kernel_rfl)) (by kernel_rfl) ?_
 refine ⟨?_⟩
 refine H.ldi 2 rfl (v := .slice oa c.outs.length oc) rfl ?_
 refine ⟨?_⟩
 refine den.loop (ι := Nat × Value × List Edg) [(4, 7), (13, 68)] (by kernel_rfl) (fun (k, ev1, es1) => [(13, .int .i64 ↑k)]) (fun (k, ev1, es1) w => (k ≤ c.outs.length ∧ es1 = crossU c es k ∧ es1.length ≤ es.length + 2 * k) ∧ SL w (row rb #[lv, ev1, .map (some ml), .map (some mr), .map (some mp), cv] 51 :: Slc 29 3 ev1 es1.length (es1.flatMap Edg.cells) :: row p #[.int .i64 ↑c.size, .slice ia c.ins.length ic, .slice oa c.outs.length oc, .int .i64 ↑c.closed] 76 :: Slc 78 2 (.slice ia c.ins.length ic) c.ins.length (c.ins.flatMap prc) :: Slc 78 2 (.slice oa c.outs.length oc) c.outs.length (c.outs.flatMap prc) :: F)) (fun (k, ev1, es1) => c.outs.length - k) (0, ev, es) ⟨rfl, trivial⟩ ⟨⟨Nat.zero_le _, rfl, by omega⟩, H⟩ ?_
 rintro ⟨k, ev1, es1⟩ s w ⟨hd, H⟩
 obtain ⟨hk, he1, hl1⟩ := hd
 have hob := Nat.lt_or_ge k c.outs.length
 rcases hob with hko | hko
 ·skip
  have hob : ∃ o, c.outs[k]? = some o := ⟨_, List.getElem?_eq_getElem hko⟩
  obtain ⟨o, ho⟩ := hob
  have hob := SL.slcAddr H.up4 (by omega)
  obtain ⟨ob, rfl⟩ := hob
  have hob := Nat.lt_or_ge k c.ins.length
  rcases hob with hk1 | hk1
  ·skip
   have hob := Nat.lt_or_ge (k + c.size) c.ins.length
   rcases hob with hk2 | hk2
   ·skip
    have hob := SL.slcAddr H.up3 (by omega)
    obtain ⟨ib, rfl⟩ := hob
    have hob : ∃ q, c.ins[k]? = some q := ⟨_, List.getElem?_eq_getElem hk1⟩
    obtain ⟨q, hq⟩ := hob
    have hob : ∃ z, c.ins[k + c.size]? = some z := ⟨_, List.getElem?_eq_getElem hk2⟩
    obtain ⟨z, hz⟩ := hob
    refine ⟨?_⟩
    refine BB.yes (decide_eq_true (by omega)) ?_
    refine Cn.yes ?_
    refine ⟨?_⟩
    refine ⟨?_⟩
    refine Ix.at0 k 2 (by kernel_rfl) (rfl) (hko) ?_
    refine H.ldS 4 rfl (v := .int .i64 ↑o.1) ((pair_at ho).1) ?_
    refine H.ldS 4 rfl (v := .int .i64 ↑o.2) ((pair_at ho).2) ?_
    refine Nw.as #[.int .i64 0, .int .i64 0] 78 rfl H fun b5 w H => ?_
    refine H.st0 (cs' := #[.int .i64 ↑o.1, .int .i64 0]) rfl rfl rfl fun w H => ?_
    refine H.st0 (cs' := #[.int .i64 ↑o.1, .int .i64 ↑o.2]) rfl rfl rfl fun w H => ?_
    refine ⟨?_⟩
    refine H.ldi 3 rfl (v := .slice (some ⟨ib, 0, none⟩) c.ins.length ic) rfl ?_
    refine BB.yes (decide_eq_true (by omega)) ?_
    refine Cn.yes ?_
    refine ⟨?_⟩
    refine Drw.of [(0, true), (1, true), (2, true), (3, true), (4, true), (5, true), (6, true), (7, true), (8, true), (9, true), (10, true), (11, false)] (by kernel_rfl) mixed (fun w => SL w _) H.drew ?_
    replace H := H.drew
    refine LdC.i 3 rfl (v := .slice (some ⟨ib, 0, none⟩) c.ins.length ic) rfl ?_
    refine Ix.at0 k 2 (by kernel_rfl) (rfl) (hk1) ?_
    refine LdC.S 4 rfl (v := .int .i64 ↑q.1) ((pair_at hq).1) ?_
    refine LdC.i 0 rfl (v := .int .i64 ↑o.2) rfl ?_
    have h1 := H.pick [1, 2, 0, 3, 4, 5] 6 (by decide)
    simp only [pk, nth, pkA, pkB, pkC, pkD, pkE, pkF] at h1
    have hln : es1.length ≤ 100000000 := by omega
    refine Cl.by (by kernel_rfl) (e_edge q.1 o.2 3 hln h1) ?_
    rintro _ w ⟨rfl, ew1, H⟩
    refine ⟨_, rfl, ?_⟩
    replace H := H.pick [2, 0, 1, 3, 4, 5] 6 (by decide)
    simp only [pk, nth, pkA, pkB, pkC, pkD, pkE, pkF] at H
    refine ⟨.inl rfl, ?_⟩
    refine ⟨?_⟩
    refine H.ldi 3 rfl (v := .int .i64 ↑c.size) rfl ?_
    refine IW.by (wrap_id (n := ↑k + ↑c.size) (by omega) (by omega)) ?_
    refine ⟨?_⟩
    refine ⟨?_⟩
    refine H.ldi 3 rfl (v := .int .i64 ↑c.size) rfl ?_
    refine BB.vr fun q1 e1 => ?_
    cases q1
    ·skip
     have h1 := beq_eq_false_iff_ne.1 e1
     refine Cn.no ?_
     refine ⟨?_⟩
     refine H.ldi 3 rfl (v := .slice (some ⟨ib, 0, none⟩) c.ins.length ic) rfl ?_
     refine BB.yes (decide_eq_true (by omega)) ?_
     refine Cn.yes ?_
     refine ⟨?_⟩
     refine Drw.of [(0, true), (1, true), (2, true), (3, true), (4, true), (5, true), (6, true), (7, true), (8, true), (9, true), (10, true), (11, true), (12, false)] (by kernel_rfl) mixed (fun w => SL w _) H.drew ?_
     replace H := H.drew
     refine LdC.i 0 rfl (v := .int .i64 ↑o.1) rfl ?_
     refine LdC.i 3 rfl (v := .slice (some ⟨ib, 0, none⟩) c.ins.length ic) rfl ?_
     refine Ix.at0 (k + c.size) 2 (by kernel_rfl) (by omega) (hk2) ?_
     refine LdC.S 4 rfl (v := .int .i64 ↑z.2) ((pair_at hz).2) ?_
     have h1 := H.pick [1, 2, 0, 3, 4, 5] 6 (by decide)
     simp only [pk, nth, pkA, pkB, pkC, pkD, pkE, pkF] at h1
     have hln : (putL es1 q.1 o.2 3).length ≤ 100000000 := by have := putL_len es1 q.1 o.2 3; omega
     refine Cl.by (by kernel_rfl) (e_edge o.1 z.2 6 hln h1) ?_
     rintro _ w ⟨rfl, ew2, H⟩
     refine ⟨_, rfl, ?_⟩
     replace H := H.pick [2, 0, 1, 3, 4, 5] 6 (by decide)
     simp only [pk, nth, pkA, pkB, pkC, pkD, pkE, pkF] at H
     refine ⟨.inl rfl, ?_⟩
     refine ⟨?_⟩
     refine IW.by (wrap_id (n := ↑k + 1) (by omega) (by omega)) ?_
     have hnew : (putL (putL es1 q.1 o.2 3) o.1 z.2 6) = crossU c es (k + 1) := by rw [crossU, ← he1]; unfold crossK; rw [ho, hq, hz]; dsimp only; rw [if_neg (show ¬ c.size = 0 by omega)]
     have hnl : (putL (putL es1 q.1 o.2 3) o.1 z.2 6).length ≤ es.length + 2 * (k + 1) := by rw [hnew]; exact crossU_len _
     exact ⟨(k + 1, ew2, (putL (putL es1 q.1 o.2 3) o.1 z.2 6)), ⟨rfl, trivial⟩, ⟨⟨by omega, hnew, hnl⟩, H.pick [1, 2, 3, 4, 5] 6 (by decide)⟩, (show c.outs.length - (k + 1) < c.outs.length - k by omega)⟩
    ·skip
     have h1 := eq_of_beq e1
     refine Cn.yes ?_
     refine ⟨?_⟩
     refine ⟨?_⟩
     refine H.ldi 3 rfl (v := .slice (some ⟨ib, 0, none⟩) c.ins.length ic) rfl ?_
     refine BB.yes (decide_eq_true (by omega)) ?_
     refine Cn.yes ?_
     refine ⟨?_⟩
     refine Drw.of [(0, true), (1, true), (2, true), (3, true), (4, true), (5, true), (6, true), (7, true), (8, true), (9, true), (10, true), (11, true), (12, false)] (by kernel_rfl) mixed (fun w => SL w _) H.drew ?_
     replace H := H.drew
     refine LdC.i 0 rfl (v := .int .i64 ↑o.1) rfl ?_
     refine LdC.i 3 rfl (v := .slice (some ⟨ib, 0, none⟩) c.ins.length ic) rfl ?_
     refine Ix.at0 (k + c.size) 2 (by kernel_rfl) (by omega) (hk2) ?_
     refine LdC.S 4 rfl (v := .int .i64 ↑z.2) ((pair_at hz).2) ?_
     have h1 := H.pick [1, 2, 0, 3, 4, 5] 6 (by decide)
     simp only [pk, nth, pkA, pkB, pkC, pkD, pkE, pkF] at h1
     have hln : (putL es1 q.1 o.2 3).length ≤ 100000000 := by have := putL_len es1 q.1 o.2 3; omega
     refine Cl.by (by kernel_rfl) (e_edge o.1 z.2 5 hln h1) ?_
     rintro _ w ⟨rfl, ew3, H⟩
     refine ⟨_, rfl, ?_⟩
     replace H := H.pick [2, 0, 1, 3, 4, 5] 6 (by decide)
     simp only [pk, nth, pkA, pkB, pkC, pkD, pkE, pkF] at H
     refine ⟨.inl rfl, ?_⟩
     refine ⟨?_⟩
     refine IW.by (wrap_id (n := ↑k + 1) (by omega) (by omega)) ?_
     have hnew : (putL (putL es1 q.1 o.2 3) o.1 z.2 5) = crossU c es (k + 1) := by rw [crossU, ← he1]; unfold crossK; rw [ho, hq, hz]; dsimp only; rw [if_pos (show c.size = 0 by omega)]
     have hnl : (putL (putL es1 q.1 o.2 3) o.1 z.2 5).length ≤ es.length + 2 * (k + 1) := by rw [hnew]; exact crossU_len _
     exact ⟨(k + 1, ew3, (putL (putL es1 q.1 o.2 3) o.1 z.2 5)), ⟨rfl, trivial⟩, ⟨⟨by omega, hnew, hnl⟩, H.pick [1, 2, 3, 4, 5] 6 (by decide)⟩, (show c.outs.length - (k + 1) < c.outs.length - k by omega)⟩
   ·skip
    have hob := SL.slcAddr H.up3 (by omega)
    obtain ⟨ib, rfl⟩ := hob
    have hob : ∃ q, c.ins[k]? = some q := ⟨_, List.getElem?_eq_getElem hk1⟩
    obtain ⟨q, hq⟩ := hob
    have hz : c.ins[k + c.size]? = none := List.getElem?_eq_none hk2
    refine ⟨?_⟩
    refine BB.yes (decide_eq_true (by omega)) ?_
    refine Cn.yes ?_
    refine ⟨?_⟩
    refine ⟨?_⟩
    refine Ix.at0 k 2 (by kernel_rfl) (rfl) (hko) ?_
    refine H.ldS 4 rfl (v := .int .i64 ↑o.1) ((pair_at ho).1) ?_
    refine H.ldS 4 rfl (v := .int .i64 ↑o.2) ((pair_at ho).2) ?_
    refine Nw.as #[.int .i64 0, .int .i64 0] 78 rfl H fun b5 w H => ?_
    refine H.st0 (cs' := #[.int .i64 ↑o.1, .int .i64 0]) rfl rfl rfl fun w H => ?_
    refine H.st0 (cs' := #[.int .i64 ↑o.1, .int .i64 ↑o.2]) rfl rfl rfl fun w H => ?_
    refine ⟨?_⟩
    refine H.ldi 3 rfl (v := .slice (some ⟨ib, 0, none⟩) c.ins.length ic) rfl ?_
    refine BB.yes (decide_eq_true (by omega)) ?_
    refine Cn.yes ?_
    refine ⟨?_⟩
    refine Drw.of [(0, true), (1, true), (2, true), (3, true), (4, true), (5, true), (6, true), (7, true), (8, true), (9, true), (10, true), (11, false)] (by kernel_rfl) mixed (fun w => SL w _) H.drew ?_
    replace H := H.drew
    refine LdC.i 3 rfl (v := .slice (some ⟨ib, 0, none⟩) c.ins.length ic) rfl ?_
    refine Ix.at0 k 2 (by kernel_rfl) (rfl) (hk1) ?_
    refine LdC.S 4 rfl (v := .int .i64 ↑q.1) ((pair_at hq).1) ?_
    refine LdC.i 0 rfl (v := .int .i64 ↑o.2) rfl ?_
    have h1 := H.pick [1, 2, 0, 3, 4, 5] 6 (by decide)
    simp only [pk, nth, pkA, pkB, pkC, pkD, pkE, pkF] at h1
    have hln : es1.length ≤ 100000000 := by omega
    refine Cl.by (by kernel_rfl) (e_edge q.1 o.2 3 hln h1) ?_
    rintro _ w ⟨rfl, ew4, H⟩
    refine ⟨_, rfl, ?_⟩
    replace H := H.pick [2, 0, 1, 3, 4, 5] 6 (by decide)
    simp only [pk, nth, pkA, pkB, pkC, pkD, pkE, pkF] at H
    refine ⟨.inl rfl, ?_⟩
    refine ⟨?_⟩
    refine H.ldi 3 rfl (v := .int .i64 ↑c.size) rfl ?_
    refine IW.by (wrap_id (n := ↑k + ↑c.size) (by omega) (by omega)) ?_
    refine ⟨?_⟩
    refine ⟨?_⟩
    refine H.ldi 3 rfl (v := .int .i64 ↑c.size) rfl ?_
    refine BB.vr fun q2 e2 => ?_
    cases q2
    ·skip
     have h2 := beq_eq_false_iff_ne.1 e2
     refine Cn.no ?_
     refine ⟨?_⟩
     refine H.ldi 3 rfl (v := .slice (some ⟨ib, 0, none⟩) c.ins.length ic) rfl ?_
     refine BB.no (decide_eq_false (by omega)) ?_
     refine Cn.no ?_
     refine ⟨?_⟩
     refine IW.by (wrap_id (n := ↑k + 1) (by omega) (by omega)) ?_
     have hnew : (putL es1 q.1 o.2 3) = crossU c es (k + 1) := by rw [crossU, ← he1]; unfold crossK; rw [ho, hq, hz]
     have hnl : (putL es1 q.1 o.2 3).length ≤ es.length + 2 * (k + 1) := by rw [hnew]; exact crossU_len _
     exact ⟨(k + 1, ew4, (putL es1 q.1 o.2 3)), ⟨rfl, trivial⟩, ⟨⟨by omega, hnew, hnl⟩, H.pick [1, 2, 3, 4, 5] 6 (by decide)⟩, (show c.outs.length - (k + 1) < c.outs.length - k by omega)⟩
    ·skip
     have h2 := eq_of_beq e2
     refine Cn.yes ?_
     refine ⟨?_⟩
     refine ⟨?_⟩
     refine H.ldi 3 rfl (v := .slice (some ⟨ib, 0, none⟩) c.ins.length ic) rfl ?_
     refine BB.no (decide_eq_false (by omega)) ?_
     refine Cn.no ?_
     refine ⟨?_⟩
     refine IW.by (wrap_id (n := ↑k + 1) (by omega) (by omega)) ?_
     have hnew : (putL es1 q.1 o.2 3) = crossU c es (k + 1) := by rw [crossU, ← he1]; unfold crossK; rw [ho, hq, hz]
     have hnl : (putL es1 q.1 o.2 3).length ≤ es.length + 2 * (k + 1) := by rw [hnew]; exact crossU_len _
     exact ⟨(k + 1, ew4, (putL es1 q.1 o.2 3)), ⟨rfl, trivial⟩, ⟨⟨by omega, hnew, hnl⟩, H.pick [1, 2, 3, 4, 5] 6 (by decide)⟩, (show c.outs.length - (k + 1) < c.outs.length - k by omega)⟩
  ·skip
   have hk2 : c.ins.length ≤ k + c.size := by omega
   have hq : c.ins[k]? = none := List.getElem?_eq_none hk1
   have hz : c.ins[k + c.size]? = none := List.getElem?_eq_none hk2
   refine ⟨?_⟩
   refine BB.yes (decide_eq_true (by omega)) ?_
   refine Cn.yes ?_
   refine ⟨?_⟩
   refine ⟨?_⟩
   refine Ix.at0 k 2 (by kernel_rfl) (rfl) (hko) ?_
   refine H.ldS 4 rfl (v := .int .i64 ↑o.1) ((pair_at ho).1) ?_
   refine H.ldS 4 rfl (v := .int .i64 ↑o.2) ((pair_at ho).2) ?_
   refine Nw.as #[.int .i64 0, .int .i64 0] 78 rfl H fun b5 w H => ?_
   refine H.st0 (cs' := #[.int .i64 ↑o.1, .int .i64 0]) rfl rfl rfl fun w H => ?_
   refine H.st0 (cs' := #[.int .i64 ↑o.1, .int .i64 ↑o.2]) rfl rfl rfl fun w H => ?_
   refine ⟨?_⟩
   refine H.ldi 3 rfl (v := .slice ia c.ins.length ic) rfl ?_
   refine BB.no (decide_eq_false (by omega)) ?_
   refine Cn.no ?_
   refine ⟨?_⟩
   refine H.ldi 3 rfl (v := .int .i64 ↑c.size) rfl ?_
   refine IW.by (wrap_id (n := ↑k + ↑c.size) (by omega) (by omega)) ?_
   refine ⟨?_⟩
   refine ⟨?_⟩
   refine H.ldi 3 rfl (v := .int .i64 ↑c.size) rfl ?_
   refine BB.vr fun q3 e3 => ?_
   cases q3
   ·skip
    have h3 := beq_eq_false_iff_ne.1 e3
    refine Cn.no ?_
    refine ⟨?_⟩
    refine H.ldi 3 rfl (v := .slice ia c.ins.length ic) rfl ?_
    refine BB.no (decide_eq_false (by omega)) ?_
    refine Cn.no ?_
    refine ⟨?_⟩
    refine IW.by (wrap_id (n := ↑k + 1) (by omega) (by omega)) ?_
    have hnew : es1 = crossU c es (k + 1) := by rw [crossU, ← he1]; unfold crossK; rw [ho, hq, hz]
    have hnl : es1.length ≤ es.length + 2 * (k + 1) := by rw [hnew]; exact crossU_len _
    exact ⟨(k + 1, ev1, es1), ⟨rfl, trivial⟩, ⟨⟨by omega, hnew, hnl⟩, H.pick [1, 2, 3, 4, 5] 6 (by decide)⟩, (show c.outs.length - (k + 1) < c.outs.length - k by omega)⟩
   ·skip
    have h3 := eq_of_beq e3
    refine Cn.yes ?_
    refine ⟨?_⟩
    refine ⟨?_⟩
    refine H.ldi 3 rfl (v := .slice ia c.ins.length ic) rfl ?_
    refine BB.no (decide_eq_false (by omega)) ?_
    refine Cn.no ?_
    refine ⟨?_⟩
    refine IW.by (wrap_id (n := ↑k + 1) (by omega) (by omega)) ?_
    have hnew : es1 = crossU c es (k + 1) := by rw [crossU, ← he1]; unfold crossK; rw [ho, hq, hz]
    have hnl : es1.length ≤ es.length + 2 * (k + 1) := by rw [hnew]; exact crossU_len _
    exact ⟨(k + 1, ev1, es1), ⟨rfl, trivial⟩, ⟨⟨by omega, hnew, hnl⟩, H.pick [1, 2, 3, 4, 5] 6 (by decide)⟩, (show c.outs.length - (k + 1) < c.outs.length - k by omega)⟩
 ·skip
  have hob : k = c.outs.length := by omega
  obtain rfl := hob
  refine ⟨?_⟩
  refine BB.no (decide_eq_false (by omega)) ?_
  refine Cn.no ?_
  refine ret0 (fn := Tryd.f14) rfl ?_
  subst he1
  exact ⟨rfl, ev1, H⟩
theorem e_chk_nil {w : World} {F : List Piece} {la : Option Addr} {lc : Nat} (H : SL w F) : Calls Tryd.prog 22 #[.slice la 0 lc] w fun o w' => o = .returned (.tuple #[.int .i64 0, .int .i64 0]) ∧ SL w' F := by
 refine calls_den (args := [_]) Tryd.func22 rfl (Nat.le_of_ble_eq_true (by kernel_rfl)) (by kernel_rfl) ?_
 refine ⟨?_⟩
 refine ⟨?_⟩
 refine Mn.new (fun b => .slice (some ⟨b, 0, none⟩) 1 1) #[.bool false, .bool false] 171 (by kernel_rfl) H fun cb w H => ?_
 refine Mn.newMap 3 (by kernel_rfl) H fun mb w H => ?_
 refine Mn.pure (.agg #[.slice la 0 lc, .int .i64 0, .slice (some ⟨cb, 0, none⟩) 1 1, .map (some mb), .int .i64 0, .int .i64 0, .int .i64 0, .int .i64 0, .int .i64 0, .int .i64 0, .bool false, .bool false, .bool false]) (by kernel_rfl) ?_
 refine Nw.as #[.slice la 0 lc, .int .i64 0, .slice (some ⟨cb, 0, none⟩) 1 1, .map (some mb), .int .i64 0, .int .i64 0, .int .i64 0, .int .i64 0, .int .i64 0, .int .i64 0, .bool false, .bool false, .bool false] 107 rfl H fun b13 w H => ?_
 refine ⟨?_⟩
 refine ⟨?_⟩
 refine den.loop (ι := Nat) [(2, 3), (5, 7), (16, 34)] (by kernel_rfl) (fun i => [(16, .int .i64 0)]) (fun i w => i = 0 ∧ SL w (row b13 #[.slice la 0 lc, .int .i64 0, .slice (some ⟨cb, 0, none⟩) 1 1, .map (some mb), .int .i64 0, .int .i64 0, .int .i64 0, .int .i64 0, .int .i64 0, .int .i64 0, .bool false, .bool false, .bool false] 107 :: MapP 3 mb 0 (fun _ => none) :: row cb #[.bool false, .bool false] 171 :: F)) (fun i => 0) 0 ⟨rfl, trivial⟩ ⟨rfl, H⟩ ?_
 rintro i s w ⟨rfl, H⟩
 refine ⟨?_⟩
 refine BB.no rfl ?_
 refine Cn.no ?_
 refine ⟨?_⟩
 refine ⟨?_⟩
 refine BB.no rfl ?_
 refine Cn.no ?_
 refine ⟨?_⟩
 refine ret2 (fn := Tryd.f22) (.int .i64 0) (.int .i64 0) rfl (by rfl) (by rfl) ?_
 exact ⟨rfl, H.tl.tl.tl⟩
theorem e_right {w : World} {F : List Piece} {A : Piece} {lb lo lc : Nat} {l : List Ev} (hA : EvA A lb lo l) (hG : SpansA A) (h0 : 0 < l.length) (hll : l.length ≤ 2000) (H : SL w (A :: F)) :
  Calls Tryd.prog 12 #[.slice (some ⟨lb, lo, none⟩) l.length lc] w fun o w' => o = .returned (.bool (rightF l)) ∧ SL w' (A :: F) := by
 refine calls_den (args := [_]) Tryd.func12 rfl (Nat.le_of_ble_eq_true (by kernel_rfl)) (by kernel_rfl) ?_
 refine ⟨?_⟩
 refine ⟨?_⟩
 refine Cl.sl (by kernel_rfl) (g_check hA hG h0 hll H) fun w H => ?_
 refine ⟨?_⟩
 refine BB.vr fun q1 e1 => ?_
 cases q1
 ·skip
  have h1 := beq_eq_false_iff_ne.1 e1
  refine BB.vr fun q2 e2 => ?_
  cases q2
  ·skip
   have h2 := beq_eq_false_iff_ne.1 e2
   refine ret1 (fn := Tryd.f12) (.bool false) rfl (by rfl) ?_
   rw [show rightF l = false by
    unfold rightF
    rw [beq_eq_false_iff_ne.2 h1, beq_eq_false_iff_ne.2 h2]
    rfl]
   exact ⟨rfl, H⟩
  ·skip
   have h2 := eq_of_beq e2
   refine BB.vr fun q3 e3 => ?_
   refine ret1 (fn := Tryd.f12) (.bool q3) rfl (by rfl) ?_
   rw [show rightF l = q3 by
    unfold rightF
    rw [beq_eq_false_iff_ne.2 h1, beq_iff_eq.2 h2]
    rw [← e3]
    show ((checkG l).2 == l.length) = _
    exact Bool.eq_iff_iff.2 (by rw [beq_iff_eq, beq_iff_eq]; omega)]
   exact ⟨rfl, H⟩
 ·skip
  have h1 := eq_of_beq e1
  refine ret1 (fn := Tryd.f12) (.bool true) rfl (by rfl) ?_
  rw [show rightF l = true by
   unfold rightF
   rw [beq_iff_eq.2 h1]
   rfl]
  exact ⟨rfl, H⟩
theorem e_right_nil {w : World} {F : List Piece} {la : Option Addr} {lc : Nat} (H : SL w F) : Calls Tryd.prog 12 #[.slice la 0 lc] w fun o w' => o = .returned (.bool true) ∧ SL w' F := by
 refine calls_den (args := [_]) Tryd.func12 rfl (Nat.le_of_ble_eq_true (by kernel_rfl)) (by kernel_rfl) ?_
 refine ⟨?_⟩
 refine ⟨?_⟩
 refine Cl.sl (by kernel_rfl) (e_chk_nil H) fun w H => ?_
 refine ⟨?_⟩
 refine BB.yes rfl ?_
 refine ret1 (fn := Tryd.f12) (.bool true) rfl (by rfl) ?_
 exact ⟨rfl, H⟩
theorem e_all_no {w : World} {F : List Piece} {A : Piece} {lb lo lc : Nat} {l : List Ev} (hA : EvA A lb lo l) (hG : SpansA A) (h0 : 0 < l.length) (hll : l.length ≤ 2000) (hr : rightF l = false) (H : SL w (A :: F)) : Calls Tryd.prog 8 #[.slice (some ⟨lb, lo, none⟩) l.length lc] w fun o w' => o = .returned (.tuple #[.slice none 0 0, .int .i64 4]) ∧ SL w' (A :: F) := by
 refine calls_den (args := [_]) Tryd.func8 rfl (Nat.le_of_ble_eq_true (by kernel_rfl)) (by kernel_rfl) ?_
 refine ⟨?_⟩
 refine ⟨?_⟩
 have K := e_right (lc := lc) hA hG h0 hll H
 rw [hr] at K
 refine Cl.sl (by kernel_rfl) K fun w H => ?_
 refine BB.no rfl ?_
 refine BB.yes rfl ?_
 refine Cn.yes ?_
 refine ⟨?_⟩
 refine ret2 (fn := Tryd.f8) (.slice none 0 0) (.int .i64 4) rfl (by rfl) (by rfl) ?_
 exact ⟨rfl, H⟩
set_option maxHeartbeats 1000000 in
theorem e_all {w : World} {F : List Piece} {A : Piece} {lb lo lc : Nat} {l : List Ev} (hA : EvA A lb lo l) (hG : SpansA A) (h0 : 0 < l.length) (hll : l.length ≤ 2000) (hr : rightF l = true) (H : SL w (A :: F)) : Calls Tryd.prog 8 #[.slice (some ⟨lb, lo, none⟩) l.length lc] w fun o w' => ∃ xa xc, o = .returned (.tuple #[.slice xa (allE l).length xc, .int .i64 0]) ∧ SL w' (Slc 29 3 (.slice xa (allE l).length xc) (allE l).length ((allE l).flatMap Edg.cells) :: A :: F) := by
 have hR := right_iff.1 hr
 refine calls_den (args := [_]) Tryd.func8 rfl (Nat.le_of_ble_eq_true (by kernel_rfl)) (by kernel_rfl) ?_
 refine ⟨?_⟩
 refine ⟨?_⟩
 have K := e_right (lc := lc) hA hG h0 hll H
 rw [hr] at K
 refine Cl.sl (by kernel_rfl) K fun w H => ?_
 refine BB.yes rfl ?_
 refine BB.no rfl ?_
 refine Cn.no ?_
 refine ⟨?_⟩
 refine Mn.newMap 3 (by kernel_rfl) H fun ml w H => ?_
 refine Mn.newMap 3 (by kernel_rfl) H fun mr w H => ?_
 refine Mn.newMap 3 (by kernel_rfl) H fun mp w H => ?_
 refine Mn.pure (.agg #[.slice (some ⟨lb, lo, none⟩) l.length lc, .slice none 0 0, .map (some ml), .map (some mr), .map (some mp), .slice none 0 0]) (by kernel_rfl) ?_
 refine Nw.as #[.slice (some ⟨lb, lo, none⟩) l.length lc, .slice none 0 0, .map (some ml), .map (some mr), .map (some mp), .slice none 0 0] 51 rfl H fun b16 w H => ?_
 refine ⟨?_⟩
 refine ⟨?_⟩
 have q := H.pick [0, 3, 2, 1, 4] 5 (by decide)
 simp only [pk, nth, pkA, pkB, pkC, pkD, pkE, pkF] at q
 have q2 := (SL.all (L := [])).2 (show SL w ([] ++ _) from SL.slcNil 53 1 (SL.slcNil 29 3 q))
 have q3 := q2.pick [3, 2, 4, 5, 6, 1, 0, 7] 8 (by decide)
 simp only [pk, nth, pkA, pkB, pkC, pkD, pkE, pkF] at q3
 have q4 : SL w (EdP b16 (.slice (some ⟨lb, lo, none⟩) l.length lc) 0 (readE l 0) :: A :: F) := EdP.iff.2 ⟨.slice none 0 0, .slice none 0 0, ml, mr, mp, 0, 0, 0, [], ⟨rfl, by omega, by omega, by omega⟩, q3⟩
 refine den.loop (ι := Nat) [(5, 5), (19, 25)] (by kernel_rfl) (fun i => [(19, .int .i64 ↑i)]) (fun i w => i ≤ l.length ∧ SL w (EdP b16 (.slice (some ⟨lb, lo, none⟩) l.length lc) i (readE l i) :: A :: F)) (fun i => l.length - i) 0 ⟨rfl, trivial⟩ ⟨Nat.zero_le _, q4⟩ ?_
 rintro i s w ⟨hil, H⟩
 have hob := Nat.lt_or_ge i l.length
 rcases hob with hi | hi
 ·skip
  have hob : ∃ x, l[i]? = some x := ⟨_, List.getElem?_eq_getElem hi⟩
  obtain ⟨⟨kind, g, chan, case_, value, mate, send, ok⟩, he⟩ := hob
  have hd : l.getD i evz = ⟨kind, g, chan, case_, value, mate, send, ok⟩ := by rw [List.getD_eq_getElem?_getD, he]; rfl
  refine ⟨?_⟩
  refine BB.yes (decide_eq_true (by omega)) ?_
  refine Cn.yes ?_
  refine ⟨?_⟩
  refine ⟨?_⟩
  refine ⟨?_⟩
  have h1 := H
  have hbv : EvB ⟨kind, g, chan, case_, value, mate, send, ok⟩ := by have hb := evB_of (hR.ent hi); rw [hd] at hb; exact hb
  have hm1 := hbv.mate
  have hg1 := hbv.g
  have hob := read_size hR (Nat.le_of_lt hi)
  obtain ⟨z1, z2, z3, z4⟩ := hob
  have hrt := (hR.parts hi).1
  have hmd := (hR.made hi).2
  rw [hd] at hrt hmd
  have K := e_next (s := readE l i) hA hll he hm1 hg1 hrt.v2 (fun hk => ⟨hrt.cc (by dsimp only; omega), by have := hmd (by dsimp only; omega); dsimp only at this; omega⟩) (by omega) (by omega) (fun c hc => ⟨by have := (z4 c hc).1; omega, by have := (z4 c hc).2.1; omega⟩) h1
  refine Cl.sl (by kernel_rfl) K fun w H => ?_
  refine ⟨?_⟩
  refine IW.by (wrap_id (n := ↑i + 1) (by omega) (by omega)) ?_
  exact ⟨i + 1, ⟨rfl, trivial⟩, ⟨(by omega : i + 1 ≤ l.length), H⟩, (show l.length - (i + 1) < l.length - i by omega)⟩
 ·skip
  have hob : i = l.length := by omega
  obtain rfl := hob
  have hob := EdP.iff.1 H
  obtain ⟨ev, cv, ml, mr, mp, n1, n2, n3, ps, hb, H⟩ := hob
  have hob := read_size hR (Nat.le_refl l.length)
  obtain ⟨z1, z2, z3, z4⟩ := hob
  have hob : ∃ sr, readE l l.length = sr := ⟨_, rfl⟩
  obtain ⟨sr, hs⟩ := hob
  rw [hs] at H hb z1 z2 z4
  obtain ⟨hb1, _⟩ := hb
  have hob := SL.slcForm H.up5
  obtain ⟨ca, cc, rfl⟩ := hob
  refine ⟨?_⟩
  refine BB.no (decide_eq_false (by omega)) ?_
  refine Cn.no ?_
  refine ⟨?_⟩
  refine H.ldi 0 rfl (v := .slice ca sr.chans.length cc) rfl ?_
  refine ⟨?_⟩
  refine den.loop (ι := Nat × Value × List Edg) [(7, 7), (31, 38)] (by kernel_rfl) (fun (j, ev1, es1) => [(31, .int .i64 ↑j)]) (fun (j, ev1, es1) w => (j ≤ sr.chans.length ∧ es1 = crossA sr.chans sr.edges j) ∧ SL w (row b16 #[.slice (some ⟨lb, lo, none⟩) l.length lc, ev1, .map (some ml), .map (some mr), .map (some mp), .slice ca sr.chans.length cc] 51 :: Slc 29 3 ev1 es1.length (es1.flatMap Edg.cells) :: Slc 53 1 (.slice ca sr.chans.length cc) sr.chans.length (ptrs ps) :: chsE ps sr.chans :: A :: F)) (fun (j, ev1, es1) => sr.chans.length - j) (0, ev, sr.edges) ⟨rfl, trivial⟩ ⟨⟨Nat.zero_le _, rfl⟩, (H.pick [0, 1, 5, 6, 7] 8 (by decide))⟩ ?_
  rintro ⟨j, ev1, es1⟩ s w ⟨hd2, H⟩
  obtain ⟨hj, he1⟩ := hd2
  have hob := Nat.lt_or_ge j sr.chans.length
  rcases hob with hjl | hjl
  ·skip
   have hob : ∃ p, ps[j]? = some p := ⟨_, List.getElem?_eq_getElem (by omega)⟩
   obtain ⟨p, hp⟩ := hob
   have hob : ∃ c, sr.chans[j]? = some c := ⟨_, List.getElem?_eq_getElem hjl⟩
   obtain ⟨c, hc⟩ := hob
   have hcg : sr.chans.getD j chz = c := by rw [List.getD_eq_getElem?_getD, hc]; rfl
   have hob := SL.slcAddr H.up2 (by omega)
   obtain ⟨cb, rfl⟩ := hob
   refine ⟨?_⟩
   refine BB.yes (decide_eq_true (by omega)) ?_
   refine Cn.yes ?_
   refine ⟨?_⟩
   refine ⟨?_⟩
   refine Ix.at0 j 1 (by kernel_rfl) (rfl) (hjl) ?_
   refine H.ldS 2 rfl (v := .pointer (some ⟨p, 0, none⟩)) (ptrs_at hp) ?_
   refine ⟨?_⟩
   have H0 := H.pick [3, 0, 1, 2, 4] 5 (by decide)
   simp only [pk, nth, pkA, pkB, pkC, pkD, pkE, pkF] at H0
   have hob := chs_takeE hp hc H0
   obtain ⟨u, v, H⟩ := hob
   have h1 := H.pick [4, 5, 0, 1, 2, 3, 6, 7] 8 (by decide)
   simp only [pk, nth, pkA, pkB, pkC, pkD, pkE, pkF] at h1
   have hl1 : es1.length ≤ 10000000 := by have := crossA_len (es := sr.edges) (B := 2000) (fun c hc => by have := (z4 c hc).2.1; omega) j hj; rw [← he1] at this; have hq : 2 * 2000 * j ≤ 2 * 2000 * 2000 := Nat.mul_le_mul_left _ (by omega); omega
   have zc := z4 c (List.mem_of_getElem? hc)
   refine Cl.by (by kernel_rfl) (e_crosses (by omega) ⟨by omega, by omega, by omega⟩ h1) ?_
   rintro _ w ⟨rfl, ev2, H⟩
   refine ⟨_, rfl, ?_⟩
   have h2 := chs_putE hp hc (y := c) (H.pick [2, 3, 4, 5, 0, 1, 6, 7] 8 (by decide))
   rw [set_back hc] at h2
   replace H := h2
   refine ⟨?_⟩
   refine IW.by (wrap_id (n := ↑j + 1) (by omega) (by omega)) ?_
   have hnew : crossU c es1 c.outs.length = crossA sr.chans sr.edges (j + 1) := by rw [crossA, hcg, ← he1]
   exact ⟨(j + 1, ev2, crossU c es1 c.outs.length), ⟨rfl, trivial⟩, ⟨⟨by omega, hnew⟩, H.pick [1, 2, 3, 0, 4] 5 (by decide)⟩, (show sr.chans.length - (j + 1) < sr.chans.length - j by omega)⟩
  ·skip
   have hob : j = sr.chans.length := by omega
   obtain rfl := hob
   have hob := SL.slcForm H.up1
   obtain ⟨xa, xc, rfl⟩ := hob
   refine ⟨?_⟩
   refine BB.no (decide_eq_false (by omega)) ?_
   refine Cn.no ?_
   refine ⟨?_⟩
   refine H.ldi 0 rfl (v := .slice xa es1.length xc) rfl ?_
   have h1 := H.pick [1, 0, 2, 3, 4] 5 (by decide)
   simp only [pk, nth, pkA, pkB, pkC, pkD, pkE, pkF] at h1
   have hl2 : es1.length < 4611686018427387904 := by have := crossA_len (es := sr.edges) (B := 2000) (fun c hc => by have := (z4 c hc).2.1; omega) sr.chans.length (Nat.le_refl _); rw [← he1] at this; have hq : 2 * 2000 * sr.chans.length ≤ 2 * 2000 * 2000 := Nat.mul_le_mul_left _ (by omega); omega
   refine Cl.sl (by kernel_rfl) (e_sort hl2 h1) fun w H => ?_
   replace H := H.pick [1, 0, 2, 3, 4] 5 (by decide)
   simp only [pk, nth, pkA, pkB, pkC, pkD, pkE, pkF] at H
   refine ⟨?_⟩
   refine H.ldi 0 rfl (v := .slice xa es1.length xc) rfl ?_
   refine ret2 (fn := Tryd.f8) (.slice xa es1.length xc) (.int .i64 0) rfl (by rfl) (by rfl) ?_
   have q := H.pick [1, 4] 5 (by decide)
   simp only [pk, nth, pkA, pkB, pkC, pkD, pkE, pkF] at q
   have hall : es1 = rawE l := by rw [he1]; unfold rawE; rw [hs]
   have hlen : es1.length = (allE l).length := by rw [hall]; exact (all_perm (l := l)).length_eq.symm
   rw [hlen, hall] at q
   rw [hlen]
   exact ⟨xa, xc, rfl, q⟩
set_option maxHeartbeats 1000000 in
theorem e_all_nil {w : World} {F : List Piece} {la : Option Addr} {lc : Nat} (H : SL w F) : Calls Tryd.prog 8 #[.slice la 0 lc] w fun o w' => ∃ xa xc, o = .returned (.tuple #[.slice xa 0 xc, .int .i64 0]) ∧ SL w' (Slc 29 3 (.slice xa 0 xc) 0 [] :: F) := by
 obtain ⟨l, hl0⟩ : ∃ l : List Ev, l = [] := ⟨_, rfl⟩
 refine calls_den (args := [_]) Tryd.func8 rfl (Nat.le_of_ble_eq_true (by kernel_rfl)) (by kernel_rfl) ?_
 refine ⟨?_⟩
 refine ⟨?_⟩
 refine Cl.sl (by kernel_rfl) (e_right_nil H) fun w H => ?_
 refine BB.yes rfl ?_
 refine BB.no rfl ?_
 refine Cn.no ?_
 refine ⟨?_⟩
 refine Mn.newMap 3 (by kernel_rfl) H fun ml w H => ?_
 refine Mn.newMap 3 (by kernel_rfl) H fun mr w H => ?_
 refine Mn.newMap 3 (by kernel_rfl) H fun mp w H => ?_
 refine Mn.pure (.agg #[.slice la 0 lc, .slice none 0 0, .map (some ml), .map (some mr), .map (some mp), .slice none 0 0]) (by kernel_rfl) ?_
 refine Nw.as #[.slice la 0 lc, .slice none 0 0, .map (some ml), .map (some mr), .map (some mp), .slice none 0 0] 51 rfl H fun b16 w H => ?_
 refine ⟨?_⟩
 refine ⟨?_⟩
 have q := H.pick [0, 3, 2, 1] 4 (by decide)
 simp only [pk, nth, pkA, pkB, pkC, pkD, pkE, pkF] at q
 have q2 := (SL.all (L := [])).2 (show SL w ([] ++ _) from SL.slcNil 53 1 (SL.slcNil 29 3 q))
 have q3 := q2.pick [3, 2, 4, 5, 6, 1, 0] 7 (by decide)
 simp only [pk, nth, pkA, pkB, pkC, pkD, pkE, pkF] at q3
 have q4 : SL w (EdP b16 (.slice la 0 lc) 0 (readE l 0) :: F) := EdP.iff.2 ⟨.slice none 0 0, .slice none 0 0, ml, mr, mp, 0, 0, 0, [], ⟨rfl, by omega, by omega, by omega⟩, q3⟩
 refine den.loop (ι := Nat) [(5, 5), (19, 25)] (by kernel_rfl) (fun i => [(19, .int .i64 ↑i)]) (fun i w => i ≤ 0 ∧ SL w (EdP b16 (.slice la 0 lc) i (readE l i) :: F)) (fun i => 0 - i) 0 ⟨rfl, trivial⟩ ⟨Nat.zero_le _, q4⟩ ?_
 rintro i s w ⟨hil, H⟩
 have hob := Nat.lt_or_ge i l.length
 have hob : i = 0 := by omega
 obtain rfl := hob
 have hob := EdP.iff.1 H
 obtain ⟨ev, cv, ml, mr, mp, n1, n2, n3, ps, hb, H⟩ := hob
 obtain ⟨hb1, _⟩ := hb
 have hob : ps = [] := List.eq_nil_of_length_eq_zero hb1
 obtain rfl := hob
 have hob := SL.slcForm H.up5
 obtain ⟨ca, cc, rfl⟩ := hob
 refine ⟨?_⟩
 refine BB.no rfl ?_
 refine Cn.no ?_
 refine ⟨?_⟩
 refine H.ldi 0 rfl (v := .slice ca 0 cc) rfl ?_
 refine ⟨?_⟩
 refine den.loop (ι := Nat × Value × List Edg) [(7, 7), (31, 38)] (by kernel_rfl) (fun (j, ev1, es1) => [(31, .int .i64 ↑j)]) (fun (j, ev1, es1) w => (j ≤ 0 ∧ es1 = crossA ([] : List ChE) ([] : List Edg) j) ∧ SL w (row b16 #[.slice la 0 lc, ev1, .map (some ml), .map (some mr), .map (some mp), .slice ca 0 cc] 51 :: Slc 29 3 ev1 es1.length (es1.flatMap Edg.cells) :: Slc 53 1 (.slice ca 0 cc) 0 (ptrs []) :: chsE [] [] :: F)) (fun (j, ev1, es1) => 0 - j) (0, ev, ([] : List Edg)) ⟨rfl, trivial⟩ ⟨⟨Nat.zero_le _, rfl⟩, (H.pick [0, 1, 5, 6] 7 (by decide))⟩ ?_
 rintro ⟨j, ev1, es1⟩ s w ⟨hd2, H⟩
 obtain ⟨hj, he1⟩ := hd2
 have hob : j = 0 := by omega
 obtain rfl := hob
 obtain rfl : es1 = [] := he1
 have hob := SL.slcForm H.up1
 obtain ⟨xa, xc, rfl⟩ := hob
 refine ⟨?_⟩
 refine BB.no rfl ?_
 refine Cn.no ?_
 refine ⟨?_⟩
 refine H.ldi 0 rfl (v := .slice xa (([] : List Edg).length) xc) rfl ?_
 have h1 := H.pick [1, 0, 2, 3] 4 (by decide)
 simp only [pk, nth, pkA, pkB, pkC, pkD, pkE, pkF] at h1
 have hl2 : ([] : List Edg).length < 4611686018427387904 := by exact (by decide : (0 : Nat) < 4611686018427387904)
 refine Cl.sl (by kernel_rfl) (e_sort hl2 h1) fun w H => ?_
 replace H := H.pick [1, 0, 2, 3] 4 (by decide)
 simp only [pk, nth, pkA, pkB, pkC, pkD, pkE, pkF] at H
 refine ⟨?_⟩
 refine H.ldi 0 rfl (v := .slice xa (([] : List Edg).length) xc) rfl ?_
 refine ret2 (fn := Tryd.f8) (.slice xa (([] : List Edg).length) xc) (.int .i64 0) rfl (by rfl) (by rfl) ?_
 have q := H.pick [1] 4 (by decide)
 simp only [pk, nth, pkA, pkB, pkC, pkD, pkE, pkF] at q
 exact ⟨xa, xc, rfl, q⟩
end Go.Proofs.YtchkaaeoffmjnaaDoor
namespace Go.Proofs.YtchkaaeoffmjnaaDoor
set_option linter.unusedVariables false
set_option linter.unusedSimpArgs false
open Go.RowKit
section
variable {P : Program} {w : World} {F : List Piece} {σ : Fr} {te sz g n c : Nat} {xs : List Value}
theorem SL.setS (H : SL w (Slc te sz (.slice (some ⟨g, 0, none⟩) n c) n xs :: F)) {o : Nat} (ho : o < xs.length) (u : Value) : SL (w.setCell ⟨g, o, none⟩ u) (Slc te sz (.slice (some ⟨g, 0, none⟩) n c) n (xs.set o u) :: F) := by
 obtain ⟨S, ⟨h2, h3⟩, h4, h5⟩ := H.call
 have hg := h3 g rfl
 exact h5 _ [Slc te sz (.slice (some ⟨g, 0, none⟩) n c) n (xs.set o u)] ((Frm.refl S w).setCell (p := ⟨g, o, none⟩) (fun _ => hg) u) ⟨_, fun _ h => h, ⟨own_set h2 ho, fun k hk => .inl (h3 k hk)⟩, trivial⟩
theorem SL.setsS : ∀ (vs : List Value) (o : Nat) {w : World} {xs : List Value}, SL w (Slc te sz (.slice (some ⟨g, 0, none⟩) n c) n xs :: F) → o + vs.length ≤ xs.length → ∃ ys, ys.take o = xs.take o ∧ ys.length = xs.length ∧ SL (w.setCells g o vs) (Slc te sz (.slice (some ⟨g, 0, none⟩) n c) n ys :: F)
 | [], o, w, xs, H, _ => ⟨xs, rfl, rfl, by rw [World.setCells]; exact H⟩
 | v :: vs, o, w, xs, H, h => by
  simp only [List.length_cons] at h
  obtain ⟨ys, h1, h2, h3⟩ := SL.setsS vs (o + 1) (H.setS (show o < xs.length by omega) v) (by rw [List.length_set]; omega)
  refine ⟨ys, ?_, by rw [h2, List.length_set], by rw [World.setCells]; exact h3⟩
  have := congrArg (List.take o) h1
  rw [List.take_take, List.take_take, Nat.min_eq_left (Nat.le_succ o), List.take_set_of_le (Nat.le_refl o)] at this
  exact this
end
end Go.Proofs.YtchkaaeoffmjnaaDoor
namespace Go.Proofs.YtchkaaeoffmjnaaDoor
set_option linter.unusedVariables false
set_option linter.unusedSimpArgs false
open Go.RowKit
section
variable {P : Program} {w : World} {F : List Piece} {σ : Fr} {te sz g n c : Nat} {xs : List Value}
theorem run_clearK (w : World) (t e ty : TypeId) (z : Value) (ht : P.underlying t = some (.slice e)) (hv : ∀ w, (zeroValue e).run P w = .ok z w) (h0 : 0 < z.cells.size) (h1 : ∀ j, j < z.cells.size → (z.cells[j]!).oneCell' = true) (b o m c : Nat) (hm : 0 < m)
  (hc : ∀ j, j < m * z.cells.size → (w.cell? ⟨b, o + j, none⟩).isSome = true) (hf : ∀ j, j < m * z.cells.size → w.frozen? ⟨b, o + j, none⟩ = false) :
  (Builtin.clear_ #[t] ty #[.slice (some ⟨b, o, none⟩) m c]).run P w = .ok (.tuple #[]) (w.setCells b o (Builtin.zeroCells z.cells m).toList) := by
 have hlen : (Builtin.zeroCells z.cells m).toList.length = m * z.cells.size := by simp [Builtin.zeroCells]
 have hst := run_storeCells_cells (P := P) b o (Builtin.zeroCells z.cells m).toList 0 w (fun j hj => hc j (by omega)) (fun j hj => hf j (by omega)) (by
  intro v hv'
  obtain ⟨j, hj, rfl⟩ := List.getElem_of_mem hv'
  have : (Builtin.zeroCells z.cells m).toList[j] = z.cells[j % z.cells.size]! := by simp [Builtin.zeroCells]
  rw [this]
  exact h1 _ (Nat.mod_lt _ h0))
 simp only [Nat.add_zero] at hst
 obtain ⟨k, rfl⟩ : ∃ k, m = k + 1 := ⟨m - 1, by omega⟩
 simp [Builtin.clear_, run_underlying ht, hv, hst]
theorem Mn.clearK {op : Oper} {K : Value → World → Prop} (H : SL w (Slc te sz (.slice (some ⟨g, 0, none⟩) n c) n xs :: F)) (x : Operand) (t : Nat) (hop : op.op = .call { callee := .builtin .clear, args := #[x], argTypes := #[t] }) (ht : P.underlying t = some (.slice te)) {z : Value} (hv : ∀ w, (zeroValue te).run P w = .ok z w) (hz : z.cells.size = sz) (h0 : 0 < sz) (h1 : ∀ j, j < z.cells.size → (z.cells[j]!).oneCell' = true)
  (lo c' : Nat) (hlo : lo < n) (hx : ev σ x = .slice (some ⟨g, lo * sz, none⟩) (n - lo) c') (k : ∀ ys w', ys.take (lo * sz) = xs.take (lo * sz) → ys.length = n * sz → SL w' (Slc te sz (.slice (some ⟨g, 0, none⟩) n c) n ys :: F) → K (.tuple #[]) w') : Mn P σ op w K := by
 obtain ⟨S, _, h2, _⟩ := H.on
 have hl : xs.length = n * sz := h2.1
 have hle : lo * sz + (n - lo) * sz = n * sz := by rw [← Nat.add_mul]; congr 1; omega
 have hrun := run_clearK (P := P) w t te op.type z ht hv (by omega) h1 g (lo * sz) (n - lo) c' (by omega) (fun j hj => by rw [hz] at hj; rw [own_cell h2 (List.getElem?_eq_getElem (show lo * sz + j < xs.length by omega))]; rfl) (fun j hj => own_free h2 _)
 obtain ⟨ys, e1, e2, H'⟩ := SL.setsS (Builtin.zeroCells z.cells (n - lo)).toList (lo * sz) H (by simp [Builtin.zeroCells, hz]; omega)
 refine Mn.by (v := .tuple #[]) ?_ (k ys _ e1 (by omega) H')
 simp only [execOp, hop, resolve, invoke, builtin, Sem.run_bind, Sem.run_pure, Result.andThen_ok, List.map_toArray, List.map_cons, List.map_nil, hx, hrun]
/-- v[lo:] of a slice of one's own, lo below the length: where it lies. -/
theorem Mn.cutK {op : Oper} {K : Value → World → Prop} (H : SL w (Slc te sz (.slice (some ⟨g, 0, none⟩) n c) n xs :: F)) (x l : Operand) (t : Nat) (hop : op.op = .slice t x (some l) none none) (ht : P.underlying t = some (.slice te)) (hsz : (P.info? te).map (·.size) = some sz)
  (lo : Nat) (hx : ev σ x = .slice (some ⟨g, 0, none⟩) n c) (hl : ev σ l = .int .i64 (lo : Int)) (hlo : lo < n) (k : K (.slice (some ⟨g, lo * sz, none⟩) (n - lo) (c - lo)) w) : Mn P σ op w K := by
 obtain ⟨S, _, h2, _⟩ := H.on
 rcases h2.2 with ⟨h, h0⟩ | ⟨g', cap, cur, h, _, hg, hnc, _⟩
 ·omega
 ·injection h with _ _ e
  subst e
  refine Mn.by (run_cut x l hop ht hsz (Nat.le_of_lt hlo) hnc hx hl w) ?_
  rw [if_neg (show c ≠ lo by omega)]
  simpa only [Option.map_some, Addr_add, Nat.zero_add] using k
end
end Go.Proofs.YtchkaaeoffmjnaaDoor
namespace Go.Proofs.YtchkaaeoffmjnaaDoor
set_option linter.unusedVariables false
set_option linter.unusedSimpArgs false
open Go.RowKit
set_option maxRecDepth 100000
theorem of_one {w : World} {F : List Piece} {br : Nat} {z : Edg} {r : Int} {b : Bool} (hb : ((z.rule : Int) != r) = b) (H : SL w (row br #[.int .i64 r] 3 :: F)) : Calls Tryd.prog 18 #[.agg #[.int .i64 ↑z.src, .int .i64 ↑z.dst, .int .i64 ↑z.rule], .pointer (some ⟨br, 0, none⟩)] w fun o w' => o = .returned (.bool b) ∧ SL w' (row br #[.int .i64 r] 3 :: F) := by
 refine calls_den (args := [_, _]) Tryd.func18 rfl (Nat.le_of_ble_eq_true (by kernel_rfl)) (by kernel_rfl) ?_
 refine ⟨?_⟩
 refine Nw.as #[.int .i64 ↑z.src, .int .i64 ↑z.dst, .int .i64 ↑z.rule] 29 rfl H fun b2 w H => ?_
 refine ⟨?_⟩
 refine H.ldi 0 rfl (v := .int .i64 ↑z.rule) rfl ?_
 refine H.ldi 1 rfl (v := .int .i64 r) rfl ?_
 refine BB.k ?_
 refine ret1 (fn := Tryd.f18) (.bool ((↑z.rule : Int) != r)) rfl (by rfl) ?_
 exact ⟨by rw [← hb], H.pick [1] 2 (by decide)⟩
section
variable {L M : List Edg} {i j k : Nat} {z : Edg} {p : Edg → Bool}
theorem edg_len (L : List Edg) : (L.flatMap Edg.cells).length = L.length * 3 := by
 induction L with
 | nil => rfl
 | cons x L ih => rw [List.flatMap_cons, List.length_append, ih]; show 3 + _ = _; rw [List.length_cons]; omega
theorem edg_at (h : L[j]? = some z) (c : Nat) (hc : c < 3) : (L.flatMap Edg.cells)[j * 3 + c]? = z.cells[c]? := by
 induction L generalizing j with
 | nil => cases h
 | cons x L ih =>
  rw [List.flatMap_cons]
  cases j with
  | zero =>
   injection h with h
   subst h
   rw [List.getElem?_append_left (by show 0 * 3 + c < 3; omega), Nat.zero_mul, Nat.zero_add]
  | succ j =>
   rw [List.getElem?_append_right (by show 3 ≤ _; omega), show (j + 1) * 3 + c - (Edg.cells x).length = j * 3 + c by show (j + 1) * 3 + c - 3 = _; omega]
   exact ih h
theorem edg_set {u : Edg} (h : M[i]? = some u) : (((M.flatMap Edg.cells).set (i * 3) (.int .i64 (z.src : Int))).set (i * 3 + 1) (.int .i64 (z.dst : Int))).set (i * 3 + 2) (.int .i64 (z.rule : Int)) = (M.set i z).flatMap Edg.cells := by
 obtain ⟨hl, hu⟩ := List.getElem?_eq_some_iff.1 h
 have e1 := flat_set Edg.cells 3 (fun _ => rfl) M i 0 (.int .i64 (z.src : Int)) ⟨z.src, u.dst, u.rule⟩ hl (by decide) (by rw [hu]; rfl)
 have e2 := flat_set Edg.cells 3 (fun _ => rfl) (M.set i ⟨z.src, u.dst, u.rule⟩) i 1 (.int .i64 (z.dst : Int)) ⟨z.src, z.dst, u.rule⟩ (by rw [List.length_set]; exact hl) (by decide) (by rw [List.getElem_set_self]; rfl)
 have e3 := flat_set Edg.cells 3 (fun _ => rfl) ((M.set i ⟨z.src, u.dst, u.rule⟩).set i ⟨z.src, z.dst, u.rule⟩) i 2 (.int .i64 (z.rule : Int)) z (by rw [List.length_set, List.length_set]; exact hl) (by decide) (by rw [List.getElem_set_self]; rfl)
 rw [Nat.add_zero] at e1
 rw [e1, e2, e3, List.set_set, List.set_set]
theorem keep_stepE (h : (L.take j).all p = true) (hz : L[j]? = some z) (hp : p z = true) : (L.take (j + 1)).all p = true := by
 rw [List.take_add_one, hz, List.all_append, h]
 simp [hp]
theorem filt_snocE (hz : L[j]? = some z) : (L.take (j + 1)).filter p = (L.take j).filter p ++ (if p z = true then [z] else []) := by
 rw [List.take_add_one, hz, Option.toList_some, List.filter_append]
 congr 1
 by_cases h : p z = true <;> simp [h]
theorem filt_allE (h : L.all p = true) : L.filter p = L := List.filter_eq_self.2 (fun z hz => List.all_eq_true.1 h z hz)
end
theorem e_index {w : World} {F : List Piece} {br : Nat} {r : Int} {sa : Option Addr} {c : Nat} {L : List Edg} (hn : L.length ≤ 100000000) (H : SL w (Slc 29 3 (.slice sa L.length c) L.length (L.flatMap Edg.cells) :: row br #[.int .i64 r] 3 :: F)) : Calls Tryd.prog 29 #[.slice sa L.length c, .func (.func 18) #[] #[.pointer (some ⟨br, 0, none⟩)]] w fun o w' => ∃ t : Int, o = .returned (.int .i64 t) ∧ ((t = -1 ∧ L.all (fun x : Edg => (x.rule : Int) == r) = true) ∨ ∃ (k : Nat) (z : Edg), t = (k : Int) ∧ L[k]? = some z ∧ (L.take k).all (fun x : Edg => (x.rule : Int) == r) = true ∧ ¬ (z.rule : Int) = r) ∧ SL w' (Slc 29 3 (.slice sa L.length c) L.length (L.flatMap Edg.cells) :: row br #[.int .i64 r] 3 :: F) := by
 refine calls_den (args := [_, _]) Tryd.func29 rfl (Nat.le_of_ble_eq_true (by kernel_rfl)) (by kernel_rfl) ?_
 refine ⟨?_⟩
 refine ⟨?_⟩
 refine ⟨?_⟩
 refine den.loop (ι := Nat) [(4, 5), (8, 18)] (by kernel_rfl) (fun j => [(8, .int .i64 ↑j)]) (fun j w => (j ≤ L.length ∧ (L.take j).all (fun x : Edg => (x.rule : Int) == r) = true) ∧ SL w (Slc 29 3 (.slice sa L.length c) L.length (L.flatMap Edg.cells) :: row br #[.int .i64 r] 3 :: F)) (fun j => L.length - j) 0 ⟨rfl, trivial⟩ ⟨⟨Nat.zero_le _, rfl⟩, H⟩ ?_
 rintro j s w ⟨hc, H⟩
 have hob := Nat.lt_or_ge j L.length
 rcases hob with hj | hj
 ·skip
  have hob : ∃ z, L[j]? = some z := ⟨_, List.getElem?_eq_getElem hj⟩
  obtain ⟨z, hz⟩ := hob
  have hob := SL.slcAddr H (by omega)
  obtain ⟨gg, rfl⟩ := hob
  refine ⟨?_⟩
  refine BB.yes (decide_eq_true (by omega)) ?_
  refine Cn.yes ?_
  refine ⟨?_⟩
  refine ⟨?_⟩
  refine ⟨?_⟩
  refine Ix.at0 j 3 (by kernel_rfl) (rfl) (hj) ?_
  refine H.ldS 0 rfl (v := .int .i64 ↑z.src) ((edg_at hz 0 (by decide)).trans rfl) ?_
  refine H.ldS 0 rfl (v := .int .i64 ↑z.dst) ((edg_at hz 1 (by decide)).trans rfl) ?_
  refine H.ldS 0 rfl (v := .int .i64 ↑z.rule) ((edg_at hz 2 (by decide)).trans rfl) ?_
  have hob := Classical.em ((z.rule : Int) = r)
  rcases hob with hm | hm
  ·skip
   have h1 := H.pick [1, 0] 2 (by decide)
   simp only [pk, nth, pkA, pkB, pkC, pkD, pkE, pkF] at h1
   refine Cl.sl (by kernel_rfl) (of_one (z := z) (bne_eq_false_iff_eq.2 hm) h1) fun w H => ?_
   replace H := H.pick [1, 0] 2 (by decide)
   simp only [pk, nth, pkA, pkB, pkC, pkD, pkE, pkF] at H
   refine BB.no rfl ?_
   refine Cn.no ?_
   refine ⟨?_⟩
   refine IW.by (wrap_id (n := ↑j + 1) (by omega) (by omega)) ?_
   exact ⟨j + 1, ⟨rfl, trivial⟩, ⟨⟨by omega, keep_stepE hc.2 hz (by simp [hm])⟩, H⟩, (show L.length - (j + 1) < L.length - j by omega)⟩
  ·skip
   have h1 := H.pick [1, 0] 2 (by decide)
   simp only [pk, nth, pkA, pkB, pkC, pkD, pkE, pkF] at h1
   refine Cl.sl (by kernel_rfl) (of_one (z := z) (bne_iff_ne.2 hm) h1) fun w H => ?_
   replace H := H.pick [1, 0] 2 (by decide)
   simp only [pk, nth, pkA, pkB, pkC, pkD, pkE, pkF] at H
   refine BB.yes rfl ?_
   refine Cn.yes ?_
   refine ⟨?_⟩
   refine ret1 (fn := Tryd.f29) (.int .i64 ↑j) rfl (by rfl) ?_
   exact ⟨(j : Int), rfl, .inr ⟨j, z, rfl, hz, hc.2, hm⟩, H⟩
 ·skip
  have hob : j = L.length := by omega
  obtain rfl := hob
  rw [List.take_length] at hc
  refine ⟨?_⟩
  refine BB.no (decide_eq_false (by omega)) ?_
  refine Cn.no ?_
  refine ⟨?_⟩
  refine ret1 (fn := Tryd.f29) (.int .i64 (-1)) rfl (by rfl) ?_
  exact ⟨-1, rfl, .inl ⟨rfl, hc.2⟩, H⟩
theorem SL.slcCapE {w : World} {F : List Piece} {te sz n c : Nat} {a : Option Addr} {xs : List Value} (H : SL w (Slc te sz (.slice a n c) n xs :: F)) : n ≤ c := by
 obtain ⟨S, _, ⟨_, h⟩, _⟩ := H.on
 rcases h with ⟨h, rfl⟩ | ⟨g, cap, cur, h, _, _, h2, _⟩
 ·exact Nat.zero_le _
 ·injection h with _ _ e
  subst e
  exact h2
theorem edg_take (M : List Edg) (i : Nat) : (M.flatMap Edg.cells).take (i * 3) = (M.take i).flatMap Edg.cells := by
 induction M generalizing i with
 | nil => simp
 | cons x M ih =>
  cases i with
  | zero => simp
  | succ i =>
   rw [List.take_succ_cons, List.flatMap_cons, List.flatMap_cons, ← ih i, show (i + 1) * 3 = 3 + i * 3 by omega, List.take_append, List.take_of_length_le (by show 3 ≤ 3 + i * 3; omega)]
   show Edg.cells x ++ List.take (3 + i * 3 - 3) _ = _
   rw [Nat.add_sub_cancel_left]
theorem e_delete {w : World} {F : List Piece} {br : Nat} {r : Int} {sa : Option Addr} {c : Nat} {L : List Edg} (hn : L.length ≤ 100000000) (H : SL w (Slc 29 3 (.slice sa L.length c) L.length (L.flatMap Edg.cells) :: row br #[.int .i64 r] 3 :: F)) : Calls Tryd.prog 17 #[.slice sa L.length c, .func (.func 18) #[] #[.pointer (some ⟨br, 0, none⟩)]] w fun o w' => ∃ zs : List Value, o = .returned (.slice sa (L.filter (fun x : Edg => (x.rule : Int) == r)).length c) ∧ (L.filter (fun x : Edg => (x.rule : Int) == r)).length ≤ L.length ∧ zs.take ((L.filter (fun x : Edg => (x.rule : Int) == r)).length * 3) = (L.filter (fun x : Edg => (x.rule : Int) == r)).flatMap Edg.cells ∧ SL w' (Slc 29 3 (.slice sa L.length c) L.length zs :: row br #[.int .i64 r] 3 :: F) := by
 refine calls_den (args := [_, _]) Tryd.func17 rfl (Nat.le_of_ble_eq_true (by kernel_rfl)) (by kernel_rfl) ?_
 refine ⟨?_⟩
 refine ⟨?_⟩
 have h1 := H
 refine Cl.by (by kernel_rfl) (e_index hn h1) ?_
 rintro _ w ⟨t, rfl, hr, H⟩
 refine ⟨_, rfl, ?_⟩
 rcases hr with ⟨rfl, hall⟩ | ⟨k, u, rfl, hku, hall, hkr⟩
 ·skip
  refine ⟨?_⟩
  refine BB.yes rfl ?_
  refine Cn.yes ?_
  refine ⟨?_⟩
  refine ret1 (fn := Tryd.f17) (.slice sa L.length c) rfl (by rfl) ?_
  have hfl := filt_allE hall
  exact ⟨L.flatMap Edg.cells, by rw [hfl], by rw [hfl]; exact Nat.le_refl _, by rw [hfl, List.take_of_length_le (by rw [edg_len]; exact Nat.le_refl _)], H⟩
 ·skip
  have hk : k < L.length := (List.getElem?_eq_some_iff.1 hku).1
  have hob := SL.slcAddr H (by omega)
  obtain ⟨gg, rfl⟩ := hob
  have hcap : L.length ≤ c := SL.slcCapE H
  refine ⟨?_⟩
  refine BB.no (beq_eq_false_iff_ne.2 (by omega)) ?_
  refine Cn.no ?_
  refine ⟨?_⟩
  refine IW.by (wrap_id (n := ↑k + 1) (by omega) (by omega)) ?_
  refine ⟨?_⟩
  refine den.loop (ι := Nat × Nat × List Edg) [(5, 7), (16, 35)] (by kernel_rfl) (fun (i, j, M) => [(5, .int .i64 ↑i), (6, .int .i64 ↑j)]) (fun (i, j, M) w => (i < j ∧ j ≤ L.length ∧ M.length = L.length ∧ M.take i = (L.take j).filter (fun x : Edg => (x.rule : Int) == r) ∧ M.drop j = L.drop j) ∧ SL w (Slc 29 3 (.slice (some ⟨gg, 0, none⟩) L.length c) L.length (M.flatMap Edg.cells) :: row br #[.int .i64 r] 3 :: F)) (fun (i, j, M) => L.length - j) (k, k + 1, L) ⟨rfl, rfl, trivial⟩ ⟨⟨by omega, by omega, rfl, by rw [filt_snocE hku, if_neg (by simpa using hkr), List.append_nil, filt_allE hall], rfl⟩, (H)⟩ ?_
  rintro ⟨i, j, M⟩ s w ⟨hc, H⟩
  obtain ⟨hij, hjn, hyl, hM, hD⟩ := hc
  have hob := Nat.lt_or_ge j L.length
  rcases hob with hj | hj
  ·skip
   have hob : ∃ z, L[j]? = some z := ⟨_, List.getElem?_eq_getElem hj⟩
   obtain ⟨z, hz⟩ := hob
   have hyz : M[j]? = some z := by have := congrArg (fun l => l[0]?) hD; simp only [List.getElem?_drop, Nat.add_zero] at this; exact this.trans hz
   have hob : ∃ y, M[i]? = some y := ⟨_, List.getElem?_eq_getElem (by omega)⟩
   obtain ⟨y, hy⟩ := hob
   refine ⟨?_⟩
   refine BB.yes (decide_eq_true (by omega)) ?_
   refine Cn.yes ?_
   refine ⟨?_⟩
   refine ⟨?_⟩
   refine Ix.at0 j 3 (by kernel_rfl) (rfl) (hj) ?_
   refine H.ldS 0 rfl (v := .int .i64 ↑z.src) ((edg_at hyz 0 (by decide)).trans rfl) ?_
   refine H.ldS 0 rfl (v := .int .i64 ↑z.dst) ((edg_at hyz 1 (by decide)).trans rfl) ?_
   refine H.ldS 0 rfl (v := .int .i64 ↑z.rule) ((edg_at hyz 2 (by decide)).trans rfl) ?_
   refine Nw.as #[.int .i64 0, .int .i64 0, .int .i64 0] 29 rfl H fun b7 w H => ?_
   refine H.st0 (cs' := #[.int .i64 ↑z.src, .int .i64 0, .int .i64 0]) rfl rfl rfl fun w H => ?_
   refine H.st0 (cs' := #[.int .i64 ↑z.src, .int .i64 ↑z.dst, .int .i64 0]) rfl rfl rfl fun w H => ?_
   refine H.st0 (cs' := #[.int .i64 ↑z.src, .int .i64 ↑z.dst, .int .i64 ↑z.rule]) rfl rfl rfl fun w H => ?_
   refine ⟨?_⟩
   refine H.ldi 0 rfl (v := .int .i64 ↑z.src) rfl ?_
   refine H.ldi 0 rfl (v := .int .i64 ↑z.dst) rfl ?_
   refine H.ldi 0 rfl (v := .int .i64 ↑z.rule) rfl ?_
   have hob := Classical.em ((z.rule : Int) = r)
   rcases hob with hm | hm
   ·skip
    have h1 := H.pick [2, 0, 1] 3 (by decide)
    simp only [pk, nth, pkA, pkB, pkC, pkD, pkE, pkF] at h1
    refine Cl.sl (by kernel_rfl) (of_one (z := z) (bne_eq_false_iff_eq.2 hm) h1) fun w H => ?_
    replace H := H.pick [1, 2, 0] 3 (by decide)
    simp only [pk, nth, pkA, pkB, pkC, pkD, pkE, pkF] at H
    refine BB.no rfl ?_
    refine BB.yes rfl ?_
    refine Cn.yes ?_
    refine ⟨?_⟩
    refine H.ldi 0 rfl (v := .int .i64 ↑z.src) rfl ?_
    refine H.ldi 0 rfl (v := .int .i64 ↑z.dst) rfl ?_
    refine H.ldi 0 rfl (v := .int .i64 ↑z.rule) rfl ?_
    refine Ix.at0 i 3 (by kernel_rfl) (rfl) (by omega) ?_
    refine SL.stS (o := i * 3) (u := .int .i64 ↑z.src) H.up1 (by rw [edg_len]; omega) rfl fun w H => ?_
    replace H := H.dn1
    refine SL.stS (o := i * 3 + 1) (u := .int .i64 ↑z.dst) H.up1 (by rw [List.length_set, edg_len]; omega) rfl fun w H => ?_
    replace H := H.dn1
    refine SL.stS (o := i * 3 + 2) (u := .int .i64 ↑z.rule) H.up1 (by rw [List.length_set, List.length_set, edg_len]; omega) rfl fun w H => ?_
    rw [edg_set hy] at H
    replace H := H.dn1
    refine ⟨?_⟩
    refine IW.by (wrap_id (n := ↑i + 1) (by omega) (by omega)) ?_
    refine ⟨?_⟩
    refine IW.by (wrap_id (n := ↑j + 1) (by omega) (by omega)) ?_
    exact ⟨(i + 1, j + 1, M.set i z), ⟨rfl, rfl, trivial⟩, ⟨⟨by omega, by omega, by rw [List.length_set]; exact hyl, by rw [filt_snocE hz, if_pos (by simpa using hm), List.take_add_one, List.getElem?_set_self (by omega), Option.toList_some, List.take_set_of_le (Nat.le_refl i), hM], by rw [List.drop_set, if_pos (by omega), ← List.drop_drop, hD, List.drop_drop]⟩, H.pick [1, 2] 3 (by decide)⟩, (show L.length - (j + 1) < L.length - j by omega)⟩
   ·skip
    have h1 := H.pick [2, 0, 1] 3 (by decide)
    simp only [pk, nth, pkA, pkB, pkC, pkD, pkE, pkF] at h1
    refine Cl.sl (by kernel_rfl) (of_one (z := z) (bne_iff_ne.2 hm) h1) fun w H => ?_
    replace H := H.pick [1, 2, 0] 3 (by decide)
    simp only [pk, nth, pkA, pkB, pkC, pkD, pkE, pkF] at H
    refine BB.yes rfl ?_
    refine BB.no rfl ?_
    refine Cn.no ?_
    refine ⟨?_⟩
    refine IW.by (wrap_id (n := ↑j + 1) (by omega) (by omega)) ?_
    exact ⟨(i, j + 1, M), ⟨rfl, rfl, trivial⟩, ⟨⟨by omega, by omega, hyl, by rw [filt_snocE hz, if_neg (by simpa using hm), List.append_nil]; exact hM, by rw [← List.drop_drop, hD, List.drop_drop]⟩, H.pick [1, 2] 3 (by decide)⟩, (show L.length - (j + 1) < L.length - j by omega)⟩
  ·skip
   have hob : j = L.length := by omega
   obtain rfl := hob
   rw [List.take_length] at hM
   refine ⟨?_⟩
   refine BB.no (decide_eq_false (by omega)) ?_
   refine Cn.no ?_
   refine ⟨?_⟩
   refine Mn.cutK (te := 29) (sz := 3) H (.tmp 36) (.tmp 37) 24 (by rfl) (by kernel_rfl) (by kernel_rfl) i rfl rfl (by omega) ?_
   refine Mn.clearK (te := 29) (sz := 3) H (.tmp 38) 24 (by rfl) (by kernel_rfl) (z := .agg #[.int .i64 0, .int .i64 0, .int .i64 0]) (fun _ => by kernel_rfl) rfl (by decide) (by decide) i (c - i) (by omega) rfl fun zs w hz1 hz2 H => ?_
   refine ⟨?_⟩
   refine Mn.head (te := 29) (sz := 3) (c := c) (.tmp 39) (.tmp 40) 24 (by rfl) (by kernel_rfl) (by kernel_rfl) i (by omega) (by rfl) (by rfl) ?_
   refine ret1 (fn := Tryd.f17) (.slice (some ⟨gg, 0, none⟩) i c) rfl (by rfl) ?_
   have hbl : (L.filter (fun x : Edg => (x.rule : Int) == r)).length = i := by rw [← hM, List.length_take]; omega
   exact ⟨zs, by rw [hbl], by omega, by rw [hbl, hz1, ← hM]; exact edg_take M i, H⟩
end Go.Proofs.YtchkaaeoffmjnaaDoor
namespace Go.Proofs.YtchkaaeoffmjnaaDoor
set_option linter.unusedVariables false
set_option linter.unusedSimpArgs false
open Go.RowKit
set_option maxRecDepth 100000
theorem all_le {l : List Ev} (hr : rightF l = true) (hll : l.length ≤ 2000) : (allE l).length ≤ 100000000 := by
 obtain ⟨z1, z2, z3, z4⟩ := read_size (right_iff.1 hr) (Nat.le_refl l.length)
 have h := crossA_len (es := (readE l l.length).edges) (B := 2000) (fun c hc => by have := (z4 c hc).2.1; omega) (readE l l.length).chans.length (Nat.le_refl _)
 have e : (allE l).length = (rawE l).length := all_perm.length_eq
 rw [e]
 unfold rawE
 have hq : 2 * 2000 * (readE l l.length).chans.length ≤ 2 * 2000 * 2000 := Nat.mul_le_mul_left _ (by omega)
 omega
theorem e_ofl_no {w : World} {F : List Piece} {A : Piece} {lb lo lc : Nat} {l : List Ev} {r : Int} (hA : EvA A lb lo l) (hG : SpansA A) (h0 : 0 < l.length) (hll : l.length ≤ 2000) (hr : rightF l = false) (H : SL w (A :: F)) : Calls Tryd.prog 9 #[.slice (some ⟨lb, lo, none⟩) l.length lc, .int .i64 r] w fun o w' => o = .returned (.tuple #[.slice none 0 0, .int .i64 4]) ∧ SL w' (A :: F) := by
 refine calls_den (args := [_, _]) Tryd.func9 rfl (Nat.le_of_ble_eq_true (by kernel_rfl)) (by kernel_rfl) ?_
 refine ⟨?_⟩
 refine Nw.as #[.int .i64 r] 3 rfl H fun b3 w H => ?_
 refine ⟨?_⟩
 have h1 := H.pick [1, 0] 2 (by decide)
 simp only [pk, nth, pkA, pkB, pkC, pkD, pkE, pkF] at h1
 refine Cl.sl (by kernel_rfl) (e_all_no hA hG h0 hll hr h1) fun w H => ?_
 replace H := H.pick [1, 0] 2 (by decide)
 simp only [pk, nth, pkA, pkB, pkC, pkD, pkE, pkF] at H
 refine ⟨?_⟩
 refine Mn.pure (.func (.func 18) #[] #[.pointer (some ⟨b3, 0, none⟩)]) (by kernel_rfl) ?_
 have h1 := H
 refine Cl.by (by kernel_rfl) (e_delete (L := []) (sa := none) (c := 0) (Nat.zero_le _) (SL.slcNil 29 3 h1)) ?_
 rintro _ w ⟨zs, rfl, _, _, H⟩
 refine ⟨_, rfl, ?_⟩
 replace H := H.tl
 refine ret2 (fn := Tryd.f9) (.slice none 0 0) (.int .i64 4) rfl (by rfl) (by rfl) ?_
 exact ⟨rfl, H.pick [1] 2 (by decide)⟩
theorem e_ofl {w : World} {F : List Piece} {A : Piece} {lb lo lc : Nat} {l : List Ev} {r : Int} (hA : EvA A lb lo l) (hG : SpansA A) (h0 : 0 < l.length) (hll : l.length ≤ 2000) (hr : rightF l = true) (H : SL w (A :: F)) : Calls Tryd.prog 9 #[.slice (some ⟨lb, lo, none⟩) l.length lc, .int .i64 r] w fun o w' => ∃ xa xc zs, o = .returned (.tuple #[.slice xa ((allE l).filter (fun x : Edg => (x.rule : Int) == r)).length xc, .int .i64 0]) ∧ ((allE l).filter (fun x : Edg => (x.rule : Int) == r)).length ≤ (allE l).length ∧ zs.take (((allE l).filter (fun x : Edg => (x.rule : Int) == r)).length * 3) = ((allE l).filter (fun x : Edg => (x.rule : Int) == r)).flatMap Edg.cells ∧ SL w' (Slc 29 3 (.slice xa (allE l).length xc) (allE l).length zs :: A :: F) := by
 refine calls_den (args := [_, _]) Tryd.func9 rfl (Nat.le_of_ble_eq_true (by kernel_rfl)) (by kernel_rfl) ?_
 refine ⟨?_⟩
 refine Nw.as #[.int .i64 r] 3 rfl H fun b3 w H => ?_
 refine ⟨?_⟩
 have h1 := H.pick [1, 0] 2 (by decide)
 simp only [pk, nth, pkA, pkB, pkC, pkD, pkE, pkF] at h1
 refine Cl.by (by kernel_rfl) (e_all hA hG h0 hll hr h1) ?_
 rintro _ w ⟨xa, xc, rfl, H⟩
 refine ⟨_, rfl, ?_⟩
 replace H := H.pick [0, 2, 1] 3 (by decide)
 simp only [pk, nth, pkA, pkB, pkC, pkD, pkE, pkF] at H
 refine ⟨?_⟩
 refine Mn.pure (.func (.func 18) #[] #[.pointer (some ⟨b3, 0, none⟩)]) (by kernel_rfl) ?_
 have h1 := H
 refine Cl.by (by kernel_rfl) (e_delete (L := allE l) (by exact all_le hr hll) h1) ?_
 rintro _ w ⟨zs, rfl, hzl, hz, H⟩
 refine ⟨_, rfl, ?_⟩
 refine ret2 (fn := Tryd.f9) (.slice xa (((allE l).filter (fun x : Edg => (x.rule : Int) == r)).length) xc) (.int .i64 0) rfl (by rfl) (by rfl) ?_
 exact ⟨xa, xc, zs, rfl, hzl, hz, H.pick [0, 2] 3 (by decide)⟩
theorem e_ofl_nil {w : World} {F : List Piece} {la : Option Addr} {lc : Nat} {r : Int} (H : SL w F) : Calls Tryd.prog 9 #[.slice la 0 lc, .int .i64 r] w fun o w' => ∃ xa xc zs, o = .returned (.tuple #[.slice xa 0 xc, .int .i64 0]) ∧ SL w' (Slc 29 3 (.slice xa 0 xc) 0 zs :: F) := by
 refine calls_den (args := [_, _]) Tryd.func9 rfl (Nat.le_of_ble_eq_true (by kernel_rfl)) (by kernel_rfl) ?_
 refine ⟨?_⟩
 refine Nw.as #[.int .i64 r] 3 rfl H fun b3 w H => ?_
 refine ⟨?_⟩
 refine Cl.by (by kernel_rfl) (e_all_nil H) ?_
 rintro _ w ⟨xa, xc, rfl, H⟩
 refine ⟨_, rfl, ?_⟩
 refine ⟨?_⟩
 refine Mn.pure (.func (.func 18) #[] #[.pointer (some ⟨b3, 0, none⟩)]) (by kernel_rfl) ?_
 have h1 := H
 refine Cl.by (by kernel_rfl) (e_delete (L := []) (by exact Nat.zero_le _) h1) ?_
 rintro _ w ⟨zs, rfl, hzl, hz, H⟩
 refine ⟨_, rfl, ?_⟩
 refine ret2 (fn := Tryd.f9) (.slice xa 0 xc) (.int .i64 0) rfl (by rfl) (by rfl) ?_
 exact ⟨xa, xc, zs, rfl, H.pick [0] 2 (by decide)⟩
def hop (k a b : Int) : OpX := ⟨⟨k, a, b, [], false⟩, none, 0⟩
def handX (b7 b9 : Nat) : List ProgX := [⟨[hop 2 0 0, hop 1 1 0, hop 4 0 0], some ⟨b7, 0, none⟩, 3⟩, ⟨[hop 3 0 5], some ⟨b9, 0, none⟩, 1⟩]
def handS : ScrM := ⟨9, 9, [[⟨2, 0, 0, [], false⟩, ⟨1, 1, 0, [], false⟩, ⟨4, 0, 0, [], false⟩], [⟨3, 0, 5, [], false⟩]], [0, 0, 0, 0], []⟩
def handE : List Ev := [⟨2, 0, 0, -1, 0, -1, false, false⟩, ⟨1, 0, -1, -1, 1, 1, false, false⟩, ⟨6, 0, 0, -1, 0, -1, false, false⟩, ⟨3, 1, 0, -1, 5, 0, true, false⟩, ⟨7, 0, 0, -1, 5, 1, false, true⟩]
theorem hands_ver : verL handS (runL handS 5) = 4 := by kernel_rfl
theorem hands_tr : (runL handS 5).tr = handE := by kernel_rfl
section
variable {b7 b9 b10 b11 : Nat}
theorem row_on {S : Nat → Prop} {w : World} {b t : Nat} {cs : Array Value} (h : (row b cs t).on S w) {o : Nat} {v : Value} (hv : cs[o]? = some v) : w.cell? ⟨b, o, none⟩ = some v := row_cell h.2 o hv
theorem rd_none {w : World} {sz : Nat} : Rd w sz none 0 [] := ⟨by simp, Nat.zero_le _, fun h => absurd h (Nat.lt_irrefl 0)⟩
theorem hands_draws : Reader (all [row b10 #[.slice (some ⟨b7, 0, none⟩) 3 3, .slice (some ⟨b9, 0, none⟩) 1 1] 42, row b7 #[.int .i64 2, .int .i64 0, .int .i64 0, .slice none 0 0, .bool false, .int .i64 1, .int .i64 1, .int .i64 0, .slice none 0 0, .bool false, .int .i64 4, .int .i64 0, .int .i64 0, .slice none 0 0, .bool false] 41, row b9 #[.int .i64 3, .int .i64 0, .int .i64 5, .slice none 0 0, .bool false] 41, row b11 #[.int .i64 0, .int .i64 0, .int .i64 0, .int .i64 0] 3]) 1 none ([] : List Int).length (ints []) := fun _ _ _ => rd_none
theorem hands_plan : Reader (all [row b10 #[.slice (some ⟨b7, 0, none⟩) 3 3, .slice (some ⟨b9, 0, none⟩) 1 1] 42, row b7 #[.int .i64 2, .int .i64 0, .int .i64 0, .slice none 0 0, .bool false, .int .i64 1, .int .i64 1, .int .i64 0, .slice none 0 0, .bool false, .int .i64 4, .int .i64 0, .int .i64 0, .slice none 0 0, .bool false] 41, row b9 #[.int .i64 3, .int .i64 0, .int .i64 5, .slice none 0 0, .bool false] 41, row b11 #[.int .i64 0, .int .i64 0, .int .i64 0, .int .i64 0] 3]) 1 (some ⟨b11, 0, none⟩) ([0, 0, 0, 0] : List Int).length (ints [0, 0, 0, 0]) := by
 intro S w h
 obtain ⟨T, _, hT⟩ := SLs.at 3 h rfl
 refine ⟨rfl, by decide, fun _ => ⟨b11, 0, rfl, fun i u hu => row_on hT (by rw [Nat.zero_add]; simpa [ints] using hu)⟩⟩
theorem hands_scr : ScrA (all [row b10 #[.slice (some ⟨b7, 0, none⟩) 3 3, .slice (some ⟨b9, 0, none⟩) 1 1] 42, row b7 #[.int .i64 2, .int .i64 0, .int .i64 0, .slice none 0 0, .bool false, .int .i64 1, .int .i64 1, .int .i64 0, .slice none 0 0, .bool false, .int .i64 4, .int .i64 0, .int .i64 0, .slice none 0 0, .bool false] 41, row b9 #[.int .i64 3, .int .i64 0, .int .i64 5, .slice none 0 0, .bool false] 41, row b11 #[.int .i64 0, .int .i64 0, .int .i64 0, .int .i64 0] 3]) b10 0 (handX b7 b9) where
 prog := by
  intro S w h k p hk
  obtain ⟨T, _, hT⟩ := SLs.at 0 h rfl
  match k, hk with
  | 0, hk => injection hk with hk; subst hk; exact row_on hT rfl
  | 1, hk => injection hk with hk; subst hk; exact row_on hT rfl
 some_ := by
  intro k p hk _
  match k, hk with
  | 0, hk => injection hk with hk; subst hk; exact ⟨_, _, rfl⟩
  | 1, hk => injection hk with hk; subst hk; exact ⟨_, _, rfl⟩
 op := by
  intro S w h k p hk b2 o2 hpa j o hj i v hv
  match k, hk with
  | 0, hk =>
   obtain ⟨T, _, hT⟩ := SLs.at 1 h rfl
   injection hk with hk; subst hk
   injection hpa with hpa
   injection hpa with e1 e2
   subst e1 e2
   match j, hj with
   | 0, hj => injection hj with hj; subst hj; match i, hv with | 0, hv | 1, hv | 2, hv | 3, hv | 4, hv => exact row_on hT hv
   | 1, hj => injection hj with hj; subst hj; match i, hv with | 0, hv | 1, hv | 2, hv | 3, hv | 4, hv => exact row_on hT hv
   | 2, hj => injection hj with hj; subst hj; match i, hv with | 0, hv | 1, hv | 2, hv | 3, hv | 4, hv => exact row_on hT hv
  | 1, hk =>
   obtain ⟨T, _, hT⟩ := SLs.at 2 h rfl
   injection hk with hk; subst hk
   injection hpa with hpa
   injection hpa with e1 e2
   subst e1 e2
   match j, hj with
   | 0, hj => injection hj with hj; subst hj; match i, hv with | 0, hv | 1, hv | 2, hv | 3, hv | 4, hv => exact row_on hT hv
 cap := by
  intro k p hk
  match k, hk with
  | 0, hk => injection hk with hk; subst hk; exact Nat.le_refl 3
  | 1, hk => injection hk with hk; subst hk; exact Nat.le_refl 1
 case := by
  intro k p hk j o hj
  match k, hk with
  | 0, hk =>
   injection hk with hk; subst hk
   match j, hj with
   | 0, hj => injection hj with hj; subst hj; exact ⟨fun _ _ _ => rd_none, Nat.le_refl 0⟩
   | 1, hj => injection hj with hj; subst hj; exact ⟨fun _ _ _ => rd_none, Nat.le_refl 0⟩
   | 2, hj => injection hj with hj; subst hj; exact ⟨fun _ _ _ => rd_none, Nat.le_refl 0⟩
  | 1, hk =>
   injection hk with hk; subst hk
   match j, hj with
   | 0, hj => injection hj with hj; subst hj; exact ⟨fun _ _ _ => rd_none, Nat.le_refl 0⟩
end
theorem l_refrun {b7 b9 b10 b11 : Nat} {w : World} {F : List Piece} (H : SL w (row b10 #[.slice (some ⟨b7, 0, none⟩) 3 3, .slice (some ⟨b9, 0, none⟩) 1 1] 42 :: row b7 #[.int .i64 2, .int .i64 0, .int .i64 0, .slice none 0 0, .bool false, .int .i64 1, .int .i64 1, .int .i64 0, .slice none 0 0, .bool false, .int .i64 4, .int .i64 0, .int .i64 0, .slice none 0 0, .bool false] 41 :: row b9 #[.int .i64 3, .int .i64 0, .int .i64 5, .slice none 0 0, .bool false] 41 :: row b11 #[.int .i64 0, .int .i64 0, .int .i64 0, .int .i64 0] 3 :: F)) : Calls Tryd.prog 11 #[.agg #[.int .i64 9, .int .i64 9, .slice (some ⟨b10, 0, none⟩) 2 2, .slice (some ⟨b11, 0, none⟩) 4 4, .slice none 0 0]] w fun o w' => ∃ tb kc, o = .returned (.agg #[.slice (some ⟨tb, 0, none⟩) 5 kc, .int .i64 4]) ∧ SL w' (Slc 33 8 (.slice (some ⟨tb, 0, none⟩) 5 kc) 5 (handE.flatMap Ev.cells) :: F) := by
 have h2 : SL w ((all [row b10 #[.slice (some ⟨b7, 0, none⟩) 3 3, .slice (some ⟨b9, 0, none⟩) 1 1] 42, row b7 #[.int .i64 2, .int .i64 0, .int .i64 0, .slice none 0 0, .bool false, .int .i64 1, .int .i64 1, .int .i64 0, .slice none 0 0, .bool false, .int .i64 4, .int .i64 0, .int .i64 0, .slice none 0 0, .bool false] 41, row b9 #[.int .i64 3, .int .i64 0, .int .i64 5, .slice none 0 0, .bool false] 41, row b11 #[.int .i64 0, .int .i64 0, .int .i64 0, .int .i64 0] 3]) :: F) := SL.all.2 H
 have hrun := r_run13 (t := 9) (m := 9) (X := handX b7 b9) (pl := [0, 0, 0, 0]) (dr := []) (pc := 2) (lc := 4) (dc := 0) (fun _ => ⟨b10, 0, rfl, hands_scr⟩) hands_plan hands_draws (show checkE handS = 0 by decide) h2
 refine Calls.mono hrun ?_
 rintro o w' ⟨ka, kc, rfl, H'⟩
 have ev : verL ⟨9, 9, progsM (handX b7 b9), [0, 0, 0, 0], []⟩ (runL ⟨9, 9, progsM (handX b7 b9), [0, 0, 0, 0], []⟩ (([0, 0, 0, 0] : List Int).length + 1)) = 4 := hands_ver
 have et : (runL ⟨9, 9, progsM (handX b7 b9), [0, 0, 0, 0], []⟩ (([0, 0, 0, 0] : List Int).length + 1)).tr = handE := hands_tr
 rw [et] at H'
 rw [et, ev]
 obtain ⟨tb, rfl⟩ := SL.slcAddr H' (by decide)
 exact ⟨tb, kc, rfl, H'.pick [0] 2 (by decide)⟩
theorem EvA.fst5 {R O : Piece} {b off : Nat} {l : List Ev} (h : EvA R b off l) : EvA (all [R, O]) b off l :=
 ⟨fun S w hS => by
  obtain ⟨T, _, h2, _⟩ := (hS : SLs w S [R, O])
  exact h.at_ T w h2⟩
theorem SpansA.snd5 {R O : Piece} (h : SpansA O) : SpansA (all [R, O]) := fun w H => h w ((SL.all (L := [R, O])).1 H).tl
theorem hands_right : rightF handE = true := by kernel_rfl
theorem hands_n : (allE handE).length = 6 := by kernel_rfl
theorem hands_three : (allE handE).filter (fun x : Edg => (x.rule : Int) == 3) = [⟨3, 4, 3⟩] := by kernel_rfl
theorem hands_five : (allE handE).filter (fun x : Edg => (x.rule : Int) == 5) = [⟨2, 3, 5⟩] := by kernel_rfl
theorem take_atE {zs ys : List Value} {m : Nat} (h : zs.take m = ys) (i : Nat) (hi : i < m) : zs[i]? = ys[i]? := by rw [← h, List.getElem?_take, if_pos hi]
set_option maxHeartbeats 2000000 in
theorem l_five {w : World} {F : List Piece} {O : Piece} (hG : SpansA O) (H : SL w (O :: F)) : Calls Tryd.prog 7 #[] w fun o w' => o = .returned (.bool true) ∧ SL w' (O :: F) := by
 refine calls_den (args := []) Tryd.func7 rfl (Nat.le_of_ble_eq_true (by kernel_rfl)) (by kernel_rfl) ?_
 refine ⟨?_⟩
 refine ⟨?_⟩
 refine Mn.pure (.agg #[.int .i64 2, .int .i64 0, .int .i64 0, .slice none 0 0, .bool false]) (by kernel_rfl) ?_
 refine Mn.pure (.agg #[.int .i64 1, .int .i64 1, .int .i64 0, .slice none 0 0, .bool false]) (by kernel_rfl) ?_
 refine Mn.pure (.agg #[.int .i64 4, .int .i64 0, .int .i64 0, .slice none 0 0, .bool false]) (by kernel_rfl) ?_
 refine Mn.new (fun b => .slice (some ⟨b, 0, none⟩) 3 3) #[.int .i64 2, .int .i64 0, .int .i64 0, .slice none 0 0, .bool false, .int .i64 1, .int .i64 1, .int .i64 0, .slice none 0 0, .bool false, .int .i64 4, .int .i64 0, .int .i64 0, .slice none 0 0, .bool false] 41 (by kernel_rfl) H fun b9 w H => ?_
 refine Mn.pure (.agg #[.int .i64 3, .int .i64 0, .int .i64 5, .slice none 0 0, .bool false]) (by kernel_rfl) ?_
 refine Mn.new (fun b => .slice (some ⟨b, 0, none⟩) 1 1) #[.int .i64 3, .int .i64 0, .int .i64 5, .slice none 0 0, .bool false] 41 (by kernel_rfl) H fun b11 w H => ?_
 refine Mn.new (fun b => .slice (some ⟨b, 0, none⟩) 2 2) #[.slice (some ⟨b9, 0, none⟩) 3 3, .slice (some ⟨b11, 0, none⟩) 1 1] 42 (by kernel_rfl) H fun b12 w H => ?_
 refine Mn.new (fun b => .slice (some ⟨b, 0, none⟩) 4 4) #[.int .i64 0, .int .i64 0, .int .i64 0, .int .i64 0] 3 (by kernel_rfl) H fun b13 w H => ?_
 refine Mn.pure (.agg #[.int .i64 9, .int .i64 9, .slice (some ⟨b12, 0, none⟩) 2 2, .slice (some ⟨b13, 0, none⟩) 4 4, .slice none 0 0]) (by kernel_rfl) ?_
 have h1 := H.pick [1, 3, 2, 0, 4] 5 (by decide)
 simp only [pk, nth, pkA, pkB, pkC, pkD, pkE, pkF] at h1
 refine Cl.by (by kernel_rfl) (l_refrun h1) ?_
 rintro _ w ⟨tb, kc, rfl, H⟩
 refine ⟨_, rfl, ?_⟩
 refine ⟨?_⟩
 have h1 := H
 have K := e_ofl (r := 3) (lc := kc) (l := handE) (EvA.fst5 (O := O) (EvA.slc (te := 33) (b := tb) (c := kc) (l := handE))) (SpansA.snd5 hG) (by decide) (by decide) hands_right ((SL.all (L := [Slc 33 8 (.slice (some ⟨tb, 0, none⟩) 5 kc) 5 (handE.flatMap Ev.cells), O])).2 h1)
 rw [hands_three, hands_n] at K
 refine Cl.by (by kernel_rfl) K ?_
 rintro _ w ⟨xa3, xc3, zs3, rfl, _, hz3, H⟩
 refine ⟨_, rfl, ?_⟩
 have hob := SL.slcAddr H (by decide)
 obtain ⟨xb3, rfl⟩ := hob
 replace H := (SL.all (L := [Slc 33 8 (.slice (some ⟨tb, 0, none⟩) 5 kc) 5 (handE.flatMap Ev.cells), O])).1 H.up1
 simp only [List.cons_append, List.nil_append] at H
 refine ⟨?_⟩
 have h1 := H
 have K := e_ofl (r := 5) (lc := kc) (l := handE) (EvA.fst5 (O := O) (EvA.slc (te := 33) (b := tb) (c := kc) (l := handE))) (SpansA.snd5 hG) (by decide) (by decide) hands_right ((SL.all (L := [Slc 33 8 (.slice (some ⟨tb, 0, none⟩) 5 kc) 5 (handE.flatMap Ev.cells), O])).2 h1)
 rw [hands_five, hands_n] at K
 refine Cl.by (by kernel_rfl) K ?_
 rintro _ w ⟨xa5, xc5, zs5, rfl, _, hz5, H⟩
 refine ⟨_, rfl, ?_⟩
 have hob := SL.slcAddr H (by decide)
 obtain ⟨xb5, rfl⟩ := hob
 replace H := (SL.all (L := [Slc 33 8 (.slice (some ⟨tb, 0, none⟩) 5 kc) 5 (handE.flatMap Ev.cells), O])).1 H.up1
 simp only [List.cons_append, List.nil_append] at H
 refine ⟨?_⟩
 refine BB.yes rfl ?_
 refine BB.yes rfl ?_
 refine BB.yes rfl ?_
 refine BB.yes rfl ?_
 refine Ix.at0 0 3 (by kernel_rfl) rfl (by decide) ?_
 refine H.ldS 3 rfl (v := .int .i64 3) ((take_atE hz3 0 (by decide)).trans rfl) ?_
 refine H.ldS 3 rfl (v := .int .i64 4) ((take_atE hz3 1 (by decide)).trans rfl) ?_
 refine H.ldS 3 rfl (v := .int .i64 3) ((take_atE hz3 2 (by decide)).trans rfl) ?_
 refine Mn.pure (.agg #[.int .i64 3, .int .i64 4, .int .i64 3]) (by kernel_rfl) ?_
 refine Mn.pure (.bool true) (by kernel_rfl) ?_
 refine Ix.at0 0 3 (by kernel_rfl) rfl (by decide) ?_
 refine H.ldS 2 rfl (v := .int .i64 2) ((take_atE hz5 0 (by decide)).trans rfl) ?_
 refine H.ldS 2 rfl (v := .int .i64 3) ((take_atE hz5 1 (by decide)).trans rfl) ?_
 refine H.ldS 2 rfl (v := .int .i64 5) ((take_atE hz5 2 (by decide)).trans rfl) ?_
 refine Mn.pure (.agg #[.int .i64 2, .int .i64 3, .int .i64 5]) (by kernel_rfl) ?_
 refine Mn.pure (.bool true) (by kernel_rfl) ?_
 refine ret1 (fn := Tryd.f7) (.bool true) rfl (by rfl) ?_
 exact ⟨rfl, H.pick [1] 4 (by decide)⟩
end Go.Proofs.YtchkaaeoffmjnaaDoor
