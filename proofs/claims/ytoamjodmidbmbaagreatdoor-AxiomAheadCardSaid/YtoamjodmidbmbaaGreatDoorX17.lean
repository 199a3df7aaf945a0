/- Texts of the proof. -/
import Derived.Test.YtoamjodmidbmbaaGreatDoorX16
import Derived.Test.YtoamjodmidbmbaaGreatDoorX05
import Derived.Test.YtoamjodmidbmbaaGreatDoorX10
set_option linter.unusedVariables false
set_option linter.unusedSimpArgs false
namespace Go.Proofs.YtoamjodmidbmbaaGreatDoor
open Go.RowKit
set_option maxRecDepth 100000
set_option maxHeartbeats 1000000 in
theorem e_crosses {w : World} {F : List Piece} {rb ml mr mp p : Nat} {lv ev cv u v : Value} {es : List Edg} {c : ChE} (hes : es.length + 2 * c.outs.length + 2 ≤ 100000000) (hio : c.ins.length ≤ 100000 ∧ c.outs.length ≤ 100000 ∧ c.size ≤ 100000)
  (H : SL w (row rb #[lv, ev, .map (some ml), .map (some mr), .map (some mp), cv] 75 :: Slc 70 3 ev es.length (es.flatMap Edg.cells) :: row p #[.int .i64 (c.size : Int), u, v, .int .i64 (c.closed : Int)] 129 :: Slc 131 2 u c.ins.length (c.ins.flatMap prc) :: Slc 131 2 v c.outs.length (c.outs.flatMap prc) :: F)) :
  Calls Tryz.prog 38 #[.pointer (some ⟨rb, 0, none⟩), .pointer (some ⟨p, 0, none⟩)] w fun o w' => o = .returned (.tuple #[]) ∧ ∃ ev', SL w' (row rb #[lv, ev', .map (some ml), .map (some mr), .map (some mp), cv] 75 :: Slc 70 3 ev' (crossU c es c.outs.length).length ((crossU c es c.outs.length).flatMap Edg.cells) :: row p #[.int .i64 (c.size : Int), u, v, .int .i64 (c.closed : Int)] 129 :: Slc 131 2 u c.ins.length (c.ins.flatMap prc) :: Slc 131 2 v c.outs.length (c.outs.flatMap prc) :: F) := by
 obtain ⟨ia, ic, rfl⟩ := SL.slcForm H.up3
 obtain ⟨oa, oc, rfl⟩ := SL.slcForm H.up4
 refine calls_d (args := [_, _]) Tryz.func38 rfl ?_
 refine ⟨H.ldi 2 rfl (v := .slice oa c.outs.length oc) rfl ?_⟩
 refine ⟨den.loop (ι := Nat × Value × List Edg) [(4, 7), (13, 68)] (by kernel_rfl) (fun (k, ev1, es1) => [(13, .int .i64 ↑k)]) (fun (k, ev1, es1) w => (k ≤ c.outs.length ∧ es1 = crossU c es k ∧ es1.length ≤ es.length + 2 * k) ∧ SL w (row rb #[lv, ev1, .map (some ml), .map (some mr), .map (some mp), cv] 75 :: Slc 70 3 ev1 es1.length (es1.flatMap Edg.cells) :: row p #[.int .i64 ↑c.size, .slice ia c.ins.length ic, .slice oa c.outs.length oc, .int .i64 ↑c.closed] 129 :: Slc 131 2 (.slice ia c.ins.length ic) c.ins.length (c.ins.flatMap prc) :: Slc 131 2 (.slice oa c.outs.length oc) c.outs.length (c.outs.flatMap prc) :: F)) (fun (k, ev1, es1) => c.outs.length - k) (0, ev, es) ⟨rfl, trivial⟩ ⟨⟨Nat.zero_le _, rfl, by omega⟩, H⟩ ?_⟩
 rintro ⟨k, ev1, es1⟩ s w ⟨hd, H⟩
 obtain ⟨hk, he1, hl1⟩ := hd
 have hob := Nat.lt_or_ge k c.outs.length
 rcases hob with hko | hko
 ·have hob : ∃ o, c.outs[k]? = some o := ⟨_, get_of hko⟩
  obtain ⟨o, ho⟩ := hob
  have hob := SL.slcAddr H.up4 (by omega)
  obtain ⟨ob, rfl⟩ := hob
  have hob := Nat.lt_or_ge k c.ins.length
  rcases hob with hk1 | hk1
  ·have hob := Nat.lt_or_ge (k + c.size) c.ins.length
   rcases hob with hk2 | hk2
   ·have hob := SL.slcAddr H.up3 (by omega)
    obtain ⟨ib, rfl⟩ := hob
    have hob : ∃ q, c.ins[k]? = some q := ⟨_, get_of hk1⟩
    obtain ⟨q, hq⟩ := hob
    have hob : ∃ z, c.ins[k + c.size]? = some z := ⟨_, get_of hk2⟩
    obtain ⟨z, hz⟩ := hob
    refine ⟨BB.yd ?_⟩
    refine Cn.yes (⟨⟨Ix.at0 k 2 (by kernel_rfl) (rfl) (hko) ?_⟩⟩)
    refine H.ldS 4 rfl (v := .int .i64 ↑o.1) ((pair_at ho).1) (H.ldS 4 rfl (v := .int .i64 ↑o.2) ((pair_at ho).2) (Nw.as #[.int .i64 0, .int .i64 0] 131 rfl H fun b5 w H => ?_))
    refine H.st0 (cs' := #[.int .i64 ↑o.1, .int .i64 0]) rfl rfl rfl fun w H => ?_
    refine H.st0 (cs' := #[.int .i64 ↑o.1, .int .i64 ↑o.2]) rfl rfl rfl fun w H => ?_
    refine ⟨H.ldi 3 rfl (v := .slice (some ⟨ib, 0, none⟩) c.ins.length ic) rfl ?_⟩
    refine BB.yd (Cn.yes (⟨Drw.of [(0, true), (1, true), (2, true), (3, true), (4, true), (5, true), (6, true), (7, true), (8, true), (9, true), (10, true), (11, false)] (by kernel_rfl) mixed (fun w => SL w _) H.drew ?_⟩))
    replace H := H.drew
    refine LdC.i 3 rfl (v := .slice (some ⟨ib, 0, none⟩) c.ins.length ic) rfl (Ix.at0 k 2 (by kernel_rfl) (rfl) (hk1) ?_)
    refine LdC.S 4 rfl (v := .int .i64 ↑q.1) ((pair_at hq).1) (LdC.i 0 rfl (v := .int .i64 ↑o.2) rfl ?_)
    have h1 := H.pi [1, 2, 0, 3, 4, 5] 6
    simp only [pl, nth, drL] at h1
    have hln : es1.length ≤ 100000000 := by omega
    refine Cl.b (e_edge q.1 o.2 3 hln h1) ?_
    rintro _ w ⟨rfl, ew1, H⟩
    refine ⟨_, rfl, ?_⟩
    replace H := H.pi [2, 0, 1, 3, 4, 5] 6
    simp only [pl, nth, drL] at H
    refine ⟨.inl rfl, ?_⟩
    refine ⟨H.ldi 3 rfl (v := .int .i64 ↑c.size) rfl ?_⟩
    refine IW.z ((k : Int) + (c.size : Int)) (⟨⟨H.ldi 3 rfl (v := .int .i64 ↑c.size) rfl ?_⟩⟩)
    refine BB.vr fun q1 e1 => ?_
    cases q1
    ·have h1 := neq_of e1
     refine Cn.no (⟨H.ldi 3 rfl (v := .slice (some ⟨ib, 0, none⟩) c.ins.length ic) rfl ?_⟩)
     refine BB.yd (Cn.yes (⟨Drw.of [(0, true), (1, true), (2, true), (3, true), (4, true), (5, true), (6, true), (7, true), (8, true), (9, true), (10, true), (11, true), (12, false)] (by kernel_rfl) mixed (fun w => SL w _) H.drew ?_⟩))
     replace H := H.drew
     refine LdC.i 0 rfl (v := .int .i64 ↑o.1) rfl (LdC.i 3 rfl (v := .slice (some ⟨ib, 0, none⟩) c.ins.length ic) rfl (Ix.at0 (k + c.size) 2 (by kernel_rfl) (by omega) (hk2) ?_))
     refine LdC.S 4 rfl (v := .int .i64 ↑z.2) ((pair_at hz).2) ?_
     have h1 := H.pi [1, 2, 0, 3, 4, 5] 6
     simp only [pl, nth, drL] at h1
     have hln : (putL es1 q.1 o.2 3).length ≤ 100000000 := by have := putL_len es1 q.1 o.2 3; omega
     refine Cl.b (e_edge o.1 z.2 6 hln h1) ?_
     rintro _ w ⟨rfl, ew2, H⟩
     refine ⟨_, rfl, ?_⟩
     replace H := H.pi [2, 0, 1, 3, 4, 5] 6
     simp only [pl, nth, drL] at H
     refine ⟨.inl rfl, ?_⟩
     refine ⟨IW.i k ?_⟩
     have hnew : (putL (putL es1 q.1 o.2 3) o.1 z.2 6) = crossU c es (k + 1) := by rw [crossU, ← he1]; unfold crossK; rw [ho, hq, hz]; dsimp only; rw [if_neg (show ¬ c.size = 0 by omega)]
     have hnl : (putL (putL es1 q.1 o.2 3) o.1 z.2 6).length ≤ es.length + 2 * (k + 1) := by rw [hnew]; exact crossU_len _
     exact ⟨(k + 1, ew2, (putL (putL es1 q.1 o.2 3) o.1 z.2 6)), ⟨rfl, trivial⟩, ⟨⟨by omega, hnew, hnl⟩, H.pi [1, 2, 3, 4, 5] 6⟩, (show c.outs.length - (k + 1) < c.outs.length - k by omega)⟩
    have h1 := eq_of_beq e1
    refine Cn.yes (⟨⟨H.ldi 3 rfl (v := .slice (some ⟨ib, 0, none⟩) c.ins.length ic) rfl ?_⟩⟩)
    refine BB.yd (Cn.yes (⟨Drw.of [(0, true), (1, true), (2, true), (3, true), (4, true), (5, true), (6, true), (7, true), (8, true), (9, true), (10, true), (11, true), (12, false)] (by kernel_rfl) mixed (fun w => SL w _) H.drew ?_⟩))
    replace H := H.drew
    refine LdC.i 0 rfl (v := .int .i64 ↑o.1) rfl (LdC.i 3 rfl (v := .slice (some ⟨ib, 0, none⟩) c.ins.length ic) rfl (Ix.at0 (k + c.size) 2 (by kernel_rfl) (by omega) (hk2) ?_))
    refine LdC.S 4 rfl (v := .int .i64 ↑z.2) ((pair_at hz).2) ?_
    have h1 := H.pi [1, 2, 0, 3, 4, 5] 6
    simp only [pl, nth, drL] at h1
    have hln : (putL es1 q.1 o.2 3).length ≤ 100000000 := by have := putL_len es1 q.1 o.2 3; omega
    refine Cl.b (e_edge o.1 z.2 5 hln h1) ?_
    rintro _ w ⟨rfl, ew3, H⟩
    refine ⟨_, rfl, ?_⟩
    replace H := H.pi [2, 0, 1, 3, 4, 5] 6
    simp only [pl, nth, drL] at H
    refine ⟨.inl rfl, ?_⟩
    refine ⟨IW.i k ?_⟩
    have hnew : (putL (putL es1 q.1 o.2 3) o.1 z.2 5) = crossU c es (k + 1) := by rw [crossU, ← he1]; unfold crossK; rw [ho, hq, hz]; dsimp only; rw [if_pos (show c.size = 0 by omega)]
    have hnl : (putL (putL es1 q.1 o.2 3) o.1 z.2 5).length ≤ es.length + 2 * (k + 1) := by rw [hnew]; exact crossU_len _
    exact ⟨(k + 1, ew3, (putL (putL es1 q.1 o.2 3) o.1 z.2 5)), ⟨rfl, trivial⟩, ⟨⟨by omega, hnew, hnl⟩, H.pi [1, 2, 3, 4, 5] 6⟩, (show c.outs.length - (k + 1) < c.outs.length - k by omega)⟩
   have hob := SL.slcAddr H.up3 (by omega)
   obtain ⟨ib, rfl⟩ := hob
   have hob : ∃ q, c.ins[k]? = some q := ⟨_, get_of hk1⟩
   obtain ⟨q, hq⟩ := hob
   have hz : c.ins[k + c.size]? = none := List.getElem?_eq_none hk2
   refine ⟨BB.yd ?_⟩
   refine Cn.yes (⟨⟨Ix.at0 k 2 (by kernel_rfl) (rfl) (hko) ?_⟩⟩)
   refine H.ldS 4 rfl (v := .int .i64 ↑o.1) ((pair_at ho).1) (H.ldS 4 rfl (v := .int .i64 ↑o.2) ((pair_at ho).2) (Nw.as #[.int .i64 0, .int .i64 0] 131 rfl H fun b5 w H => ?_))
   refine H.st0 (cs' := #[.int .i64 ↑o.1, .int .i64 0]) rfl rfl rfl fun w H => ?_
   refine H.st0 (cs' := #[.int .i64 ↑o.1, .int .i64 ↑o.2]) rfl rfl rfl fun w H => ?_
   refine ⟨H.ldi 3 rfl (v := .slice (some ⟨ib, 0, none⟩) c.ins.length ic) rfl ?_⟩
   refine BB.yd (Cn.yes (⟨Drw.of [(0, true), (1, true), (2, true), (3, true), (4, true), (5, true), (6, true), (7, true), (8, true), (9, true), (10, true), (11, false)] (by kernel_rfl) mixed (fun w => SL w _) H.drew ?_⟩))
   replace H := H.drew
   refine LdC.i 3 rfl (v := .slice (some ⟨ib, 0, none⟩) c.ins.length ic) rfl (Ix.at0 k 2 (by kernel_rfl) (rfl) (hk1) ?_)
   refine LdC.S 4 rfl (v := .int .i64 ↑q.1) ((pair_at hq).1) (LdC.i 0 rfl (v := .int .i64 ↑o.2) rfl ?_)
   have h1 := H.pi [1, 2, 0, 3, 4, 5] 6
   simp only [pl, nth, drL] at h1
   have hln : es1.length ≤ 100000000 := by omega
   refine Cl.b (e_edge q.1 o.2 3 hln h1) ?_
   rintro _ w ⟨rfl, ew4, H⟩
   refine ⟨_, rfl, ?_⟩
   replace H := H.pi [2, 0, 1, 3, 4, 5] 6
   simp only [pl, nth, drL] at H
   refine ⟨.inl rfl, ?_⟩
   refine ⟨H.ldi 3 rfl (v := .int .i64 ↑c.size) rfl ?_⟩
   refine IW.z ((k : Int) + (c.size : Int)) (⟨⟨H.ldi 3 rfl (v := .int .i64 ↑c.size) rfl ?_⟩⟩)
   refine BB.vr fun q2 e2 => ?_
   cases q2
   ·have h2 := neq_of e2
    refine Cn.no (⟨H.ldi 3 rfl (v := .slice (some ⟨ib, 0, none⟩) c.ins.length ic) rfl ?_⟩)
    refine BB.nd (Cn.no (⟨IW.i k ?_⟩))
    have hnew : (putL es1 q.1 o.2 3) = crossU c es (k + 1) := by rw [crossU, ← he1]; unfold crossK; rw [ho, hq, hz]
    have hnl : (putL es1 q.1 o.2 3).length ≤ es.length + 2 * (k + 1) := by rw [hnew]; exact crossU_len _
    exact ⟨(k + 1, ew4, (putL es1 q.1 o.2 3)), ⟨rfl, trivial⟩, ⟨⟨by omega, hnew, hnl⟩, H.pi [1, 2, 3, 4, 5] 6⟩, (show c.outs.length - (k + 1) < c.outs.length - k by omega)⟩
   have h2 := eq_of_beq e2
   refine Cn.yes (⟨⟨H.ldi 3 rfl (v := .slice (some ⟨ib, 0, none⟩) c.ins.length ic) rfl ?_⟩⟩)
   refine BB.nd (Cn.no (⟨IW.i k ?_⟩))
   have hnew : (putL es1 q.1 o.2 3) = crossU c es (k + 1) := by rw [crossU, ← he1]; unfold crossK; rw [ho, hq, hz]
   have hnl : (putL es1 q.1 o.2 3).length ≤ es.length + 2 * (k + 1) := by rw [hnew]; exact crossU_len _
   exact ⟨(k + 1, ew4, (putL es1 q.1 o.2 3)), ⟨rfl, trivial⟩, ⟨⟨by omega, hnew, hnl⟩, H.pi [1, 2, 3, 4, 5] 6⟩, (show c.outs.length - (k + 1) < c.outs.length - k by omega)⟩
  have hk2 : c.ins.length ≤ k + c.size := by omega
  have hq : c.ins[k]? = none := List.getElem?_eq_none hk1
  have hz : c.ins[k + c.size]? = none := List.getElem?_eq_none hk2
  refine ⟨BB.yd ?_⟩
  refine Cn.yes (⟨⟨Ix.at0 k 2 (by kernel_rfl) (rfl) (hko) ?_⟩⟩)
  refine H.ldS 4 rfl (v := .int .i64 ↑o.1) ((pair_at ho).1) (H.ldS 4 rfl (v := .int .i64 ↑o.2) ((pair_at ho).2) (Nw.as #[.int .i64 0, .int .i64 0] 131 rfl H fun b5 w H => ?_))
  refine H.st0 (cs' := #[.int .i64 ↑o.1, .int .i64 0]) rfl rfl rfl fun w H => ?_
  refine H.st0 (cs' := #[.int .i64 ↑o.1, .int .i64 ↑o.2]) rfl rfl rfl fun w H => ?_
  refine ⟨H.ldi 3 rfl (v := .slice ia c.ins.length ic) rfl ?_⟩
  refine BB.nd (Cn.no (⟨H.ldi 3 rfl (v := .int .i64 ↑c.size) rfl ?_⟩))
  refine IW.z ((k : Int) + (c.size : Int)) (⟨⟨H.ldi 3 rfl (v := .int .i64 ↑c.size) rfl ?_⟩⟩)
  refine BB.vr fun q3 e3 => ?_
  cases q3
  ·have h3 := neq_of e3
   refine Cn.no (⟨H.ldi 3 rfl (v := .slice ia c.ins.length ic) rfl ?_⟩)
   refine BB.nd (Cn.no (⟨IW.i k ?_⟩))
   have hnew : es1 = crossU c es (k + 1) := by rw [crossU, ← he1]; unfold crossK; rw [ho, hq, hz]
   have hnl : es1.length ≤ es.length + 2 * (k + 1) := by rw [hnew]; exact crossU_len _
   exact ⟨(k + 1, ev1, es1), ⟨rfl, trivial⟩, ⟨⟨by omega, hnew, hnl⟩, H.pi [1, 2, 3, 4, 5] 6⟩, (show c.outs.length - (k + 1) < c.outs.length - k by omega)⟩
  have h3 := eq_of_beq e3
  refine Cn.yes (⟨⟨H.ldi 3 rfl (v := .slice ia c.ins.length ic) rfl ?_⟩⟩)
  refine BB.nd (Cn.no (⟨IW.i k ?_⟩))
  have hnew : es1 = crossU c es (k + 1) := by rw [crossU, ← he1]; unfold crossK; rw [ho, hq, hz]
  have hnl : es1.length ≤ es.length + 2 * (k + 1) := by rw [hnew]; exact crossU_len _
  exact ⟨(k + 1, ev1, es1), ⟨rfl, trivial⟩, ⟨⟨by omega, hnew, hnl⟩, H.pi [1, 2, 3, 4, 5] 6⟩, (show c.outs.length - (k + 1) < c.outs.length - k by omega)⟩
 have hob : k = c.outs.length := by omega
 obtain rfl := hob
 refine ⟨BB.nd ?_⟩
 refine Cn.no (ret0 rfl ?_)
 subst he1
 exact ⟨rfl, ev1, H⟩
theorem e_chk_nil {w : World} {F : List Piece} {la : Option Addr} {lc : Nat} (H : SL w F) : Calls Tryz.prog 66 #[.slice la 0 lc] w fun o w' => o = .returned (.tuple #[.int .i64 0, .int .i64 0]) ∧ SL w' F := by
 refine calls_d (args := [_]) Tryz.func66 rfl ?_
 refine ⟨⟨Mn.new (fun b => .slice (some ⟨b, 0, none⟩) 1 1) #[.bool false, .bool false] 237 (by kernel_rfl) H fun cb w H => ?_⟩⟩
 refine Mn.newMap 3 (by kernel_rfl) H fun mb w H => ?_
 refine Mn.pure (.agg #[.slice la 0 lc, .int .i64 0, .slice (some ⟨cb, 0, none⟩) 1 1, .map (some mb), .int .i64 0, .int .i64 0, .int .i64 0, .int .i64 0, .int .i64 0, .int .i64 0, .bool false, .bool false, .bool false]) (by kernel_rfl) ?_
 refine Nw.as #[.slice la 0 lc, .int .i64 0, .slice (some ⟨cb, 0, none⟩) 1 1, .map (some mb), .int .i64 0, .int .i64 0, .int .i64 0, .int .i64 0, .int .i64 0, .int .i64 0, .bool false, .bool false, .bool false] 171 rfl H fun b13 w H => ?_
 refine ⟨⟨den.loop (ι := Nat) [(2, 3), (5, 7), (16, 34)] (by kernel_rfl) (fun i => [(16, .int .i64 0)]) (fun i w => i = 0 ∧ SL w (row b13 #[.slice la 0 lc, .int .i64 0, .slice (some ⟨cb, 0, none⟩) 1 1, .map (some mb), .int .i64 0, .int .i64 0, .int .i64 0, .int .i64 0, .int .i64 0, .int .i64 0, .bool false, .bool false, .bool false] 171 :: MapP 3 mb 0 (fun _ => none) :: row cb #[.bool false, .bool false] 237 :: F)) (fun i => 0) 0 ⟨rfl, trivial⟩ ⟨rfl, H⟩ ?_⟩⟩
 rintro i s w ⟨rfl, H⟩
 refine ⟨BB.no rfl ?_⟩
 refine Cn.no (⟨⟨BB.no rfl ?_⟩⟩)
 refine Cn.no (⟨ret2 (.int .i64 0) (.int .i64 0) rfl (by rfl) (by rfl) ?_⟩)
 exact ⟨rfl, H.tl.tl.tl⟩
theorem e_right {w : World} {F : List Piece} {A : Piece} {lb lo lc : Nat} {l : List Ev} (hA : EvA A lb lo l) (hG : SpansA A) (h0 : 0 < l.length) (hll : l.length ≤ 2000) (H : SL w (A :: F)) :
  Calls Tryz.prog 36 #[.slice (some ⟨lb, lo, none⟩) l.length lc] w fun o w' => o = .returned (.bool (rightF l)) ∧ SL w' (A :: F) := by
 refine calls_d (args := [_]) Tryz.func36 rfl ?_
 refine ⟨⟨Cl.s (g_check hA hG h0 hll H) fun w H => ?_⟩⟩
 refine ⟨BB.vr fun q1 e1 => ?_⟩
 cases q1
 ·have h1 := neq_of e1
  refine BB.vr fun q2 e2 => ?_
  cases q2
  ·have h2 := neq_of e2
   refine ret1 (.bool false) rfl (by rfl) ?_
   rw [show rightF l = false by
    unfold rightF
    rw [beq_eq_false_iff_ne.2 h1, beq_eq_false_iff_ne.2 h2]
    rfl]
   exact ⟨rfl, H⟩
  have h2 := eq_of_beq e2
  refine BB.vr fun q3 e3 => ?_
  refine ret1 (.bool q3) rfl (by rfl) ?_
  rw [show rightF l = q3 by
   unfold rightF
   rw [beq_eq_false_iff_ne.2 h1, beq_iff_eq.2 h2]
   rw [← e3]
   show ((checkG l).2 == l.length) = _
   exact Bool.eq_iff_iff.2 (by rw [beq_iff_eq, beq_iff_eq]; omega)]
  exact ⟨rfl, H⟩
 have h1 := eq_of_beq e1
 refine ret1 (.bool true) rfl (by rfl) ?_
 rw [show rightF l = true by
  unfold rightF
  rw [beq_iff_eq.2 h1]
  rfl]
 exact ⟨rfl, H⟩
theorem e_right_nil {w : World} {F : List Piece} {la : Option Addr} {lc : Nat} (H : SL w F) : Calls Tryz.prog 36 #[.slice la 0 lc] w fun o w' => o = .returned (.bool true) ∧ SL w' F := by
 refine calls_d (args := [_]) Tryz.func36 rfl ?_
 refine ⟨⟨Cl.s (e_chk_nil H) fun w H => ?_⟩⟩
 refine ⟨BB.yes rfl ?_⟩
 refine ret1 (.bool true) rfl (by rfl) ?_
 exact ⟨rfl, H⟩
set_option maxHeartbeats 1000000 in
theorem e_all {w : World} {F : List Piece} {A : Piece} {lb lo lc : Nat} {l : List Ev} (hA : EvA A lb lo l) (hG : SpansA A) (h0 : 0 < l.length) (hll : l.length ≤ 2000) (hr : rightF l = true) (H : SL w (A :: F)) : Calls Tryz.prog 13 #[.slice (some ⟨lb, lo, none⟩) l.length lc] w fun o w' => ∃ xa xc, o = .returned (.tuple #[.slice xa (allE l).length xc, .int .i64 0]) ∧ SL w' (Slc 70 3 (.slice xa (allE l).length xc) (allE l).length ((allE l).flatMap Edg.cells) :: A :: F) := by
 have hR := right_iff.1 hr
 refine calls_d (args := [_]) Tryz.func13 rfl ?_
 refine ⟨⟨?_⟩⟩
 have K := e_right (lc := lc) hA hG h0 hll H
 rw [hr] at K
 refine Cl.s K fun w H => ?_
 refine BB.yes rfl (BB.no rfl (Cn.no (⟨Mn.newMap 3 (by kernel_rfl) H fun ml w H => ?_⟩)))
 refine Mn.newMap 3 (by kernel_rfl) H fun mr w H => ?_
 refine Mn.newMap 3 (by kernel_rfl) H fun mp w H => ?_
 refine Mn.pure (.agg #[.slice (some ⟨lb, lo, none⟩) l.length lc, .slice none 0 0, .map (some ml), .map (some mr), .map (some mp), .slice none 0 0]) (by kernel_rfl) ?_
 refine Nw.as #[.slice (some ⟨lb, lo, none⟩) l.length lc, .slice none 0 0, .map (some ml), .map (some mr), .map (some mp), .slice none 0 0] 75 rfl H fun b16 w H => ?_
 refine ⟨⟨?_⟩⟩
 have q := H.pi [0, 3, 2, 1, 4] 5
 simp only [pl, nth, drL] at q
 have q2 := (SL.all (L := [])).2 (show SL w ([] ++ _) from SL.slcNil 77 1 (SL.slcNil 70 3 q))
 have q3 := q2.pi [3, 2, 4, 5, 6, 1, 0, 7] 8
 simp only [pl, nth, drL] at q3
 have q4 : SL w (EdP b16 (.slice (some ⟨lb, lo, none⟩) l.length lc) 0 (readE l 0) :: A :: F) := EdP.iff.2 ⟨.slice none 0 0, .slice none 0 0, ml, mr, mp, 0, 0, 0, [], ⟨rfl, by omega, by omega, by omega⟩, q3⟩
 refine den.loop (ι := Nat) [(5, 5), (19, 25)] (by kernel_rfl) (fun i => [(19, .int .i64 ↑i)]) (fun i w => i ≤ l.length ∧ SL w (EdP b16 (.slice (some ⟨lb, lo, none⟩) l.length lc) i (readE l i) :: A :: F)) (fun i => l.length - i) 0 ⟨rfl, trivial⟩ ⟨Nat.zero_le _, q4⟩ ?_
 rintro i s w ⟨hil, H⟩
 have hob := Nat.lt_or_ge i l.length
 rcases hob with hi | hi
 ·have hob : ∃ x, l[i]? = some x := ⟨_, get_of hi⟩
  obtain ⟨⟨kind, g, chan, case_, value, mate, send, ok⟩, he⟩ := hob
  have hd : l.getD i evz = ⟨kind, g, chan, case_, value, mate, send, ok⟩ := by rw [List.getD_eq_getElem?_getD, he]; rfl
  refine ⟨BB.yd ?_⟩
  refine Cn.yes (⟨⟨⟨?_⟩⟩⟩)
  have h1 := H
  have hbv : EvB ⟨kind, g, chan, case_, value, mate, send, ok⟩ := by have hb := evB_of (hR.ent hi); rw [hd] at hb; exact hb
  have hm1 := hbv.mate
  have hg1 := hbv.g
  have hob := read_size hR (Nat.le_of_lt hi)
  obtain ⟨z1, z2, z3, z4⟩ := hob
  have hrt := (hR.parts hi).1
  have hmd := (hR.made hi).2
  rw [hd] at hrt hmd
  have K := e_next (s := readE l i) hA hll he hm1 hg1 hrt.v2 (fun hk => ⟨hrt.cc (by dsimp only; omega), by have := hmd (by dsimp only; omega); dsimp only at this; omega⟩) (by omega) (by omega) (fun c hc => ⟨by have := (z4 c hc).1; omega, by have := (z4 c hc).2.1; omega⟩) h1
  refine Cl.s K fun w H => ?_
  refine ⟨IW.i i ?_⟩
  exact ⟨i + 1, ⟨rfl, trivial⟩, ⟨(by omega : i + 1 ≤ l.length), H⟩, (show l.length - (i + 1) < l.length - i by omega)⟩
 have hob : i = l.length := by omega
 obtain rfl := hob
 have hob := EdP.iff.1 H
 obtain ⟨ev, cv, ml, mr, mp, n1, n2, n3, ps, hb, H⟩ := hob
 have hob := read_size hR (Nat.le_refl l.length)
 obtain ⟨z1, z2, z3, z4⟩ := hob
 have hob : ∃ sr, readE l l.length = sr := ⟨_, rfl⟩
 obtain ⟨sr, hs⟩ := hob
 rw [hs] at H hb z1 z2 z4
 obtain ⟨hb1, _⟩ := hb
 have hob := SL.slcForm H.up5
 obtain ⟨ca, cc, rfl⟩ := hob
 refine ⟨BB.nd ?_⟩
 refine Cn.no (⟨H.ldi 0 rfl (v := .slice ca sr.chans.length cc) rfl ?_⟩)
 refine ⟨den.loop (ι := Nat × Value × List Edg) [(7, 7), (31, 38)] (by kernel_rfl) (fun (j, ev1, es1) => [(31, .int .i64 ↑j)]) (fun (j, ev1, es1) w => (j ≤ sr.chans.length ∧ es1 = crossA sr.chans sr.edges j) ∧ SL w (row b16 #[.slice (some ⟨lb, lo, none⟩) l.length lc, ev1, .map (some ml), .map (some mr), .map (some mp), .slice ca sr.chans.length cc] 75 :: Slc 70 3 ev1 es1.length (es1.flatMap Edg.cells) :: Slc 77 1 (.slice ca sr.chans.length cc) sr.chans.length (ptrs ps) :: chsE ps sr.chans :: A :: F)) (fun (j, ev1, es1) => sr.chans.length - j) (0, ev, sr.edges) ⟨rfl, trivial⟩ ⟨⟨Nat.zero_le _, rfl⟩, (H.pi [0, 1, 5, 6, 7] 8)⟩ ?_⟩
 rintro ⟨j, ev1, es1⟩ s w ⟨hd2, H⟩
 obtain ⟨hj, he1⟩ := hd2
 have hob := Nat.lt_or_ge j sr.chans.length
 rcases hob with hjl | hjl
 ·have hob : ∃ p, ps[j]? = some p := ⟨_, get_of (by omega)⟩
  obtain ⟨p, hp⟩ := hob
  have hob : ∃ c, sr.chans[j]? = some c := ⟨_, get_of hjl⟩
  obtain ⟨c, hc⟩ := hob
  have hcg : sr.chans.getD j chz = c := by rw [List.getD_eq_getElem?_getD, hc]; rfl
  have hob := SL.slcAddr H.up2 (by omega)
  obtain ⟨cb, rfl⟩ := hob
  refine ⟨BB.yd ?_⟩
  refine Cn.yes (⟨⟨Ix.at0 j 1 (by kernel_rfl) (rfl) (hjl) ?_⟩⟩)
  refine H.ldS 2 rfl (v := .pointer (some ⟨p, 0, none⟩)) (ptrs_at hp) (⟨?_⟩)
  have H0 := H.pi [3, 0, 1, 2, 4] 5
  simp only [pl, nth, drL] at H0
  have hob := chs_takeE hp hc H0
  obtain ⟨u, v, H⟩ := hob
  have h1 := H.pi [4, 5, 0, 1, 2, 3, 6, 7] 8
  simp only [pl, nth, drL] at h1
  have hl1 : es1.length ≤ 10000000 := by have := crossA_len (es := sr.edges) (B := 2000) (fun c hc => by have := (z4 c hc).2.1; omega) j hj; rw [← he1] at this; have hq : 2 * 2000 * j ≤ 2 * 2000 * 2000 := Nat.mul_le_mul_left _ (by omega); omega
  have zc := z4 c (List.mem_of_getElem? hc)
  refine Cl.b (e_crosses (by omega) ⟨by omega, by omega, by omega⟩ h1) ?_
  rintro _ w ⟨rfl, ev2, H⟩
  refine ⟨_, rfl, ?_⟩
  have h2 := chs_putE hp hc (y := c) (H.pi [2, 3, 4, 5, 0, 1, 6, 7] 8)
  rw [set_back hc] at h2
  replace H := h2
  refine ⟨IW.i j ?_⟩
  have hnew : crossU c es1 c.outs.length = crossA sr.chans sr.edges (j + 1) := by rw [crossA, hcg, ← he1]
  exact ⟨(j + 1, ev2, crossU c es1 c.outs.length), ⟨rfl, trivial⟩, ⟨⟨by omega, hnew⟩, H.pi [1, 2, 3, 0, 4] 5⟩, (show sr.chans.length - (j + 1) < sr.chans.length - j by omega)⟩
 have hob : j = sr.chans.length := by omega
 obtain rfl := hob
 have hob := SL.slcForm H.up1
 obtain ⟨xa, xc, rfl⟩ := hob
 refine ⟨BB.nd ?_⟩
 refine Cn.no (⟨H.ldi 0 rfl (v := .slice xa es1.length xc) rfl ?_⟩)
 have h1 := H.pi [1, 0, 2, 3, 4] 5
 simp only [pl, nth, drL] at h1
 have hl2 : es1.length < 4611686018427387904 := by have := crossA_len (es := sr.edges) (B := 2000) (fun c hc => by have := (z4 c hc).2.1; omega) sr.chans.length (Nat.le_refl _); rw [← he1] at this; have hq : 2 * 2000 * sr.chans.length ≤ 2 * 2000 * 2000 := Nat.mul_le_mul_left _ (by omega); omega
 refine Cl.s (e_sort hl2 h1) fun w H => ?_
 replace H := H.pi [1, 0, 2, 3, 4] 5
 simp only [pl, nth, drL] at H
 refine ⟨H.ldi 0 rfl (v := .slice xa es1.length xc) rfl ?_⟩
 refine ret2 (.slice xa es1.length xc) (.int .i64 0) rfl (by rfl) (by rfl) ?_
 have q := H.pi [1, 4] 5
 simp only [pl, nth, drL] at q
 have hall : es1 = rawE l := by rw [he1]; unfold rawE; rw [hs]
 have hlen : es1.length = (allE l).length := by rw [hall]; exact (all_perm (l := l)).length_eq.symm
 rw [hlen, hall] at q
 rw [hlen]
 exact ⟨xa, xc, rfl, q⟩
set_option maxHeartbeats 1000000 in
theorem e_all_nil {w : World} {F : List Piece} {la : Option Addr} {lc : Nat} (H : SL w F) : Calls Tryz.prog 13 #[.slice la 0 lc] w fun o w' => ∃ xa xc, o = .returned (.tuple #[.slice xa 0 xc, .int .i64 0]) ∧ SL w' (Slc 70 3 (.slice xa 0 xc) 0 [] :: F) := by
 obtain ⟨l, hl0⟩ : ∃ l : List Ev, l = [] := ⟨_, rfl⟩
 refine calls_d (args := [_]) Tryz.func13 rfl ?_
 refine ⟨⟨Cl.s (e_right_nil H) fun w H => ?_⟩⟩
 refine BB.yes rfl (BB.no rfl (Cn.no (⟨Mn.newMap 3 (by kernel_rfl) H fun ml w H => ?_⟩)))
 refine Mn.newMap 3 (by kernel_rfl) H fun mr w H => ?_
 refine Mn.newMap 3 (by kernel_rfl) H fun mp w H => ?_
 refine Mn.pure (.agg #[.slice la 0 lc, .slice none 0 0, .map (some ml), .map (some mr), .map (some mp), .slice none 0 0]) (by kernel_rfl) ?_
 refine Nw.as #[.slice la 0 lc, .slice none 0 0, .map (some ml), .map (some mr), .map (some mp), .slice none 0 0] 75 rfl H fun b16 w H => ?_
 refine ⟨⟨?_⟩⟩
 have q := H.pi [0, 3, 2, 1] 4
 simp only [pl, nth, drL] at q
 have q2 := (SL.all (L := [])).2 (show SL w ([] ++ _) from SL.slcNil 77 1 (SL.slcNil 70 3 q))
 have q3 := q2.pi [3, 2, 4, 5, 6, 1, 0] 7
 simp only [pl, nth, drL] at q3
 have q4 : SL w (EdP b16 (.slice la 0 lc) 0 (readE l 0) :: F) := EdP.iff.2 ⟨.slice none 0 0, .slice none 0 0, ml, mr, mp, 0, 0, 0, [], ⟨rfl, by omega, by omega, by omega⟩, q3⟩
 refine den.loop (ι := Nat) [(5, 5), (19, 25)] (by kernel_rfl) (fun i => [(19, .int .i64 ↑i)]) (fun i w => i ≤ 0 ∧ SL w (EdP b16 (.slice la 0 lc) i (readE l i) :: F)) (fun i => 0 - i) 0 ⟨rfl, trivial⟩ ⟨Nat.zero_le _, q4⟩ ?_
 rintro i s w ⟨hil, H⟩
 have hob := Nat.lt_or_ge i l.length
 have hob : i = 0 := by omega
 obtain rfl := hob
 have hob := EdP.iff.1 H
 obtain ⟨ev, cv, ml, mr, mp, n1, n2, n3, ps, hb, H⟩ := hob
 obtain ⟨hb1, _⟩ := hb
 have hob : ps = [] := List.eq_nil_of_length_eq_zero hb1
 obtain rfl := hob
 have hob := SL.slcForm H.up5
 obtain ⟨ca, cc, rfl⟩ := hob
 refine ⟨BB.no rfl ?_⟩
 refine Cn.no (⟨H.ldi 0 rfl (v := .slice ca 0 cc) rfl ?_⟩)
 refine ⟨den.loop (ι := Nat × Value × List Edg) [(7, 7), (31, 38)] (by kernel_rfl) (fun (j, ev1, es1) => [(31, .int .i64 ↑j)]) (fun (j, ev1, es1) w => (j ≤ 0 ∧ es1 = crossA ([] : List ChE) ([] : List Edg) j) ∧ SL w (row b16 #[.slice la 0 lc, ev1, .map (some ml), .map (some mr), .map (some mp), .slice ca 0 cc] 75 :: Slc 70 3 ev1 es1.length (es1.flatMap Edg.cells) :: Slc 77 1 (.slice ca 0 cc) 0 (ptrs []) :: chsE [] [] :: F)) (fun (j, ev1, es1) => 0 - j) (0, ev, ([] : List Edg)) ⟨rfl, trivial⟩ ⟨⟨Nat.zero_le _, rfl⟩, (H.pi [0, 1, 5, 6] 7)⟩ ?_⟩
 rintro ⟨j, ev1, es1⟩ s w ⟨hd2, H⟩
 obtain ⟨hj, he1⟩ := hd2
 have hob : j = 0 := by omega
 obtain rfl := hob
 obtain rfl : es1 = [] := he1
 have hob := SL.slcForm H.up1
 obtain ⟨xa, xc, rfl⟩ := hob
 refine ⟨BB.no rfl ?_⟩
 refine Cn.no (⟨H.ldi 0 rfl (v := .slice xa (([] : List Edg).length) xc) rfl ?_⟩)
 have h1 := H.pi [1, 0, 2, 3] 4
 simp only [pl, nth, drL] at h1
 have hl2 : ([] : List Edg).length < 4611686018427387904 := by exact (by decide : (0 : Nat) < 4611686018427387904)
 refine Cl.s (e_sort hl2 h1) fun w H => ?_
 replace H := H.pi [1, 0, 2, 3] 4
 simp only [pl, nth, drL] at H
 refine ⟨H.ldi 0 rfl (v := .slice xa (([] : List Edg).length) xc) rfl ?_⟩
 refine ret2 (.slice xa (([] : List Edg).length) xc) (.int .i64 0) rfl (by rfl) (by rfl) ?_
 have q := H.pi [1] 4
 simp only [pl, nth, drL] at q
 exact ⟨xa, xc, rfl, q⟩
theorem r_serves {w : World} {F : List Piece} (H : SL w F) (e : Ev) : Calls Tryz.prog 79 #[e.agg] w fun o w' => o = .returned (.bool (servesF e)) ∧ SL w' F := by
 obtain ⟨kind, g, chan, case_, value, mate, send, ok⟩ := e
 refine calls_d (args := [_]) Tryz.func79 rfl ?_
 refine ⟨Nw.as #[.int .i64 kind, .int .i64 g, .int .i64 chan, .int .i64 case_, .int .i64 value, .int .i64 mate, .bool send, .bool ok] 53 rfl H fun b1 w H => ?_⟩
 refine ⟨H.ldi 0 rfl (v := .int .i64 kind) rfl ?_⟩
 refine BB.vr fun q1 e1 => ?_
 cases q1
 ·have h1 := neq_of e1
  refine H.ldi 0 rfl (v := .int .i64 kind) rfl (BB.vr fun q2 e2 => ?_)
  cases q2
  ·have h2 := neq_of e2
   refine ret1 (.bool false) rfl (by rfl) ?_
   exact ⟨by simp [servesF, *], H.tl⟩
  have h2 := eq_of_beq e2
  subst h2
  refine H.ldi 0 rfl (v := .int .i64 mate) rfl (BB.k (ret1 (.bool (decide (mate ≥ 0))) rfl (by rfl) ?_))
  exact ⟨by simp [servesF, *], H.tl⟩
 have h1 := eq_of_beq e1
 subst h1
 refine H.ldi 0 rfl (v := .int .i64 mate) rfl (BB.k (ret1 (.bool (decide (mate ≥ 0))) rfl (by rfl) ?_))
 exact ⟨by simp [servesF, *], H.tl⟩
theorem crewR_of {l : List Ev} {i : Nat} {e : Ev} {s : GoM} (hd : l.getD i evz = e) (hs : goR l e.g i = s) : crewR l i = (if s.over = true then false else if e.kind = 13 then true else decide (e.g < s.there) && !s.exited && (e.kind == 12 || s.waits == (e.kind == 7)) && (e.kind != 1 || e.mate == s.there)) := by
 subst hd hs
 rfl
theorem madeR_of {l : List Ev} {i n : Nat} {e : Ev} (hd : l.getD i evz = e) (hs : makesR l i = n) : madeR l i = (if e.kind = 2 then e.chan == n else decide (e.chan < n)) := by
 subst hd hs
 rfl
theorem goR_step {l : List Ev} {g : Int} {k T : Nat} {Wt X O : Bool} {x : Ev} (hx : l.getD k evz = x) (h : goR l g k = ⟨T, Wt, X, O⟩) : goR l g (k + 1) = ⟨if x.kind = 1 then T + 1 else T, if x.g ≠ g ∨ x.kind = 13 then Wt else if x.kind = 7 then false else if x.kind = 6 then true else Wt, if x.g ≠ g ∨ x.kind = 13 then X else (X || x.kind == 11), O || x.kind == 12⟩ := by
 rw [goR, h, hx]
theorem goR_over {l : List Ev} {g : Int} {k : Nat} (h : (goR l g k).over = true) : ∀ i, k ≤ i → (goR l g i).over = true := by
 intro i
 induction i with
 | zero =>
  intro hi
  obtain rfl : k = 0 := by omega
  exact h
 | succ i ih =>
  intro hi
  by_cases hk : k = i + 1
  ·rw [← hk]; exact h
  ·rw [goR]
   simp [ih (by omega)]
theorem goR_there {l : List Ev} {g : Int} : ∀ k, (goR l g k).there ≤ k + 1
 | 0 => Nat.le_refl _
 | k + 1 => by
  have := goR_there (l := l) (g := g) k
  rw [goR]
  dsimp only
  split <;> omega
set_option maxHeartbeats 2000000 in
theorem r_crew {w : World} {F : List Piece} {A : Piece} {lb lo lc i : Nat} {l : List Ev} (hA : EvA A lb lo l) (hlc : l.length ≤ lc) (hi : i < l.length) (hll : l.length ≤ 2000) (H : SL w (A :: F)) :
  Calls Tryz.prog 74 #[(.slice (some ⟨lb, lo, none⟩) l.length lc), .int .i64 (i : Int)] w fun o w' => o = .returned (.bool (crewR l i)) ∧ SL w' (A :: F) := by
 obtain ⟨e0, e1⟩ : ∃ e, l[i]'hi = e := ⟨_, rfl⟩
 have he : l[i]? = some e0 := by rw [← e1]; exact List.getElem?_eq_getElem _
 clear e1
 obtain ⟨kind, g, chan, case_, value, mate, send, ok⟩ := e0
 have hd : l.getD i evz = ⟨kind, g, chan, case_, value, mate, send, ok⟩ := by rw [List.getD_eq_getElem?_getD, he]; rfl
 refine calls_d (args := [_, _]) Tryz.func74 rfl ?_
 refine ⟨⟨Ix.at i 8 (by kernel_rfl) (rfl) (hi) ?_⟩⟩
 refine H.ldEv 0 rfl hA i he (Nw.as ev0C 53 rfl H fun b5 w H => ?_)
 refine SL.stEv H rfl rfl fun w H => ?_
 refine ⟨⟨⟨⟨Mn.head (te := 53) (sz := 8) (c := lc) (.tmp 15) (.tmp 16) 22 (by rfl) (by kernel_rfl) (by kernel_rfl) i (by omega) (by rfl) (by rfl) ?_⟩⟩⟩⟩
 refine ⟨den.loop (ι := Nat × Nat × Bool × Bool) [(4, 4), (6, 8), (10, 10), (19, 50)] (by kernel_rfl) (fun (k, T, Wt, X) => [(6, .int .i64 ↑T), (7, .bool Wt), (8, .bool X), (19, .int .i64 ↑k)]) (fun (k, T, Wt, X) w => (k ≤ i ∧ goR l g k = ⟨T, Wt, X, false⟩) ∧ SL w (row b5 #[.int .i64 kind, .int .i64 g, .int .i64 chan, .int .i64 case_, .int .i64 value, .int .i64 mate, .bool send, .bool ok] 53 :: A :: F)) (fun (k, T, Wt, X) => i - k) (0, 1, false, false) ⟨rfl, rfl, rfl, rfl, trivial⟩ ⟨⟨Nat.zero_le _, rfl⟩, H⟩ ?_⟩
 rintro ⟨k, T, Wt, X⟩ s w ⟨hc, H⟩
 obtain ⟨hk', hgo⟩ := hc
 have hTb := goR_there (l := l) (g := g) k
 rw [hgo] at hTb
 dsimp only at hTb
 by_cases hk : k < i
 ·have hob : ∃ e, l[k]'(by omega) = e := ⟨_, rfl⟩
  obtain ⟨ex0, ex1⟩ := hob
  have hx : l[k]? = some ex0 := by rw [← ex1]; exact List.getElem?_eq_getElem _
  clear ex1
  obtain ⟨xkind, xg, xchan, xcase_, xvalue, xmate, xsend, xok⟩ := ex0
  have hdx : l.getD k evz = ⟨xkind, xg, xchan, xcase_, xvalue, xmate, xsend, xok⟩ := by rw [List.getD_eq_getElem?_getD, hx]; rfl
  have hst := goR_step hdx hgo
  refine ⟨BB.yd ?_⟩
  refine Cn.yes (⟨⟨Ix.at k 8 (by kernel_rfl) (rfl) (hk) ?_⟩⟩)
  refine H.ldEv 1 rfl hA k hx (Nw.as ev0C 53 rfl H fun b10 w H => ?_)
  refine SL.stEv H rfl rfl fun w H => ?_
  refine ⟨H.ldi 0 rfl (v := .int .i64 xkind) rfl ?_⟩
  refine BB.vr fun q1 e1 => ?_
  cases q1
  ·have h1 := neq_of e1
   refine Cn.no (⟨H.ldi 0 rfl (v := .int .i64 xkind) rfl ?_⟩)
   refine BB.vr fun q2 e2 => ?_
   cases q2
   ·have h2 := neq_of e2
    refine Cn.no (⟨H.ldi 0 rfl (v := .int .i64 xg) rfl ?_⟩)
    refine H.ldi 1 rfl (v := .int .i64 g) rfl (BB.vr fun q3 e3 => ?_)
    cases q3
    ·have h3 := bne_eq_false_iff_eq.1 e3
     subst xg
     refine H.ldi 0 rfl (v := .int .i64 xkind) rfl (BB.vr fun q4 e4 => ?_)
     cases q4
     ·have h4 := neq_of e4
      refine Cn.no (⟨H.ldi 0 rfl (v := .int .i64 xkind) rfl ?_⟩)
      refine BB.vr fun q5 e5 => ?_
      cases q5
      ·have h5 := neq_of e5
       refine Cn.no (⟨H.ldi 0 rfl (v := .int .i64 xkind) rfl ?_⟩)
       refine BB.vr fun q6 e6 => ?_
       cases q6
       ·have h6 := neq_of e6
        refine Cn.no (⟨H.ldi 0 rfl (v := .int .i64 xkind) rfl ?_⟩)
        refine BB.vr fun q7 e7 => ?_
        cases q7
        ·have h7 := neq_of e7
         refine Cn.no (⟨IW.i k ?_⟩)
         exact ⟨(k + 1, T, Wt, X), ⟨rfl, rfl, rfl, rfl, trivial⟩, ⟨⟨by omega, by rw [hst]; simp [*]⟩, H.tl⟩, (show i - (k + 1) < i - k by omega)⟩
        have h7 := eq_of_beq e7
        subst h7
        refine Cn.yes (⟨⟨IW.i k ?_⟩⟩)
        exact ⟨(k + 1, T, Wt, true), ⟨rfl, rfl, rfl, rfl, trivial⟩, ⟨⟨by omega, by rw [hst]; simp [*]⟩, H.tl⟩, (show i - (k + 1) < i - k by omega)⟩
       have h6 := eq_of_beq e6
       subst h6
       refine Cn.yes (⟨⟨H.ldi 0 rfl (v := .int .i64 7) rfl ?_⟩⟩)
       refine BB.no rfl (Cn.no (⟨IW.i k ?_⟩))
       exact ⟨(k + 1, T, false, X), ⟨rfl, rfl, rfl, rfl, trivial⟩, ⟨⟨by omega, by rw [hst]; simp [*]⟩, H.tl⟩, (show i - (k + 1) < i - k by omega)⟩
      have h5 := eq_of_beq e5
      subst h5
      refine Cn.yes (⟨⟨H.ldi 0 rfl (v := .int .i64 6) rfl ?_⟩⟩)
      refine BB.no rfl (Cn.no (⟨H.ldi 0 rfl (v := .int .i64 6) rfl ?_⟩))
      refine BB.no rfl (Cn.no (⟨IW.i k ?_⟩))
      exact ⟨(k + 1, T, true, X), ⟨rfl, rfl, rfl, rfl, trivial⟩, ⟨⟨by omega, by rw [hst]; simp [*]⟩, H.tl⟩, (show i - (k + 1) < i - k by omega)⟩
     have h4 := eq_of_beq e4
     subst h4
     refine Cn.yes (⟨IW.i k ?_⟩)
     exact ⟨(k + 1, T, Wt, X), ⟨rfl, rfl, rfl, rfl, trivial⟩, ⟨⟨by omega, by rw [hst]; simp [*]⟩, H.tl⟩, (show i - (k + 1) < i - k by omega)⟩
    have h3 := bne_iff_ne.1 e3
    refine Cn.yes (⟨IW.i k ?_⟩)
    exact ⟨(k + 1, T, Wt, X), ⟨rfl, rfl, rfl, rfl, trivial⟩, ⟨⟨by omega, by rw [hst]; simp [*]⟩, H.tl⟩, (show i - (k + 1) < i - k by omega)⟩
   have h2 := eq_of_beq e2
   subst h2
   refine Cn.yes (⟨IW.i T ?_⟩)
   refine ⟨H.ldi 0 rfl (v := .int .i64 xg) rfl ?_⟩
   refine H.ldi 1 rfl (v := .int .i64 g) rfl (BB.vr fun q8 e8 => ?_)
   cases q8
   ·have h8 := bne_eq_false_iff_eq.1 e8
    subst xg
    refine H.ldi 0 rfl (v := .int .i64 1) rfl (BB.no rfl (Cn.no (⟨H.ldi 0 rfl (v := .int .i64 1) rfl ?_⟩)))
    refine BB.no rfl (Cn.no (⟨H.ldi 0 rfl (v := .int .i64 1) rfl ?_⟩))
    refine BB.no rfl (Cn.no (⟨H.ldi 0 rfl (v := .int .i64 1) rfl ?_⟩))
    refine BB.no rfl (Cn.no (⟨IW.i k ?_⟩))
    exact ⟨(k + 1, T + 1, Wt, X), ⟨rfl, rfl, rfl, rfl, trivial⟩, ⟨⟨by omega, by rw [hst]; simp [*]⟩, H.tl⟩, (show i - (k + 1) < i - k by omega)⟩
   have h8 := bne_iff_ne.1 e8
   refine Cn.yes (⟨IW.i k ?_⟩)
   exact ⟨(k + 1, T + 1, Wt, X), ⟨rfl, rfl, rfl, rfl, trivial⟩, ⟨⟨by omega, by rw [hst]; simp [*]⟩, H.tl⟩, (show i - (k + 1) < i - k by omega)⟩
  have h1 := eq_of_beq e1
  subst h1
  refine Cn.yes (⟨ret1 (.bool false) rfl (by rfl) ?_⟩)
  have hov : (goR l g i).over = true := goR_over (k := k + 1) (by rw [hst]; simp [*]) i (by omega)
  have hc : crewR l i = (false) := by rw [crewR_of hd rfl, if_pos hov]
  rw [hc]
  exact ⟨rfl, H.tl.tl⟩
 have hki : k = i := by omega
 subst k
 refine ⟨BB.nd ?_⟩
 refine Cn.no (⟨H.ldi 0 rfl (v := .int .i64 kind) rfl ?_⟩)
 refine BB.vr fun q9 e9 => ?_
 cases q9
 ·have h9 := neq_of e9
  refine Cn.no (⟨H.ldi 0 rfl (v := .int .i64 g) rfl ?_⟩)
  refine BB.vr fun q10 e10 => ?_
  cases q10
  ·have h10 := of_decide_eq_false e10
   refine ret1 (.bool false) rfl (by rfl) ?_
   have hc : crewR l i = (false) := by rw [crewR_of hd hgo]; first | (simp [*]; done) | (cases Wt <;> simp_all; done)
   rw [hc]
   exact ⟨rfl, H.tl⟩
  have h10 := of_decide_eq_true e10
  refine BB.vr fun q11 e11 => ?_
  cases q11
  ·have h11 : X = true := by simpa using e11
   subst h11
   refine ret1 (.bool false) rfl (by rfl) ?_
   have hc : crewR l i = (false) := by rw [crewR_of hd hgo]; first | (simp [*]; done) | (cases Wt <;> simp_all; done)
   rw [hc]
   exact ⟨rfl, H.tl⟩
  have h11 : X = false := by simpa using e11
  subst h11
  refine H.ldi 0 rfl (v := .int .i64 kind) rfl (BB.vr fun q12 e12 => ?_)
  cases q12
  ·have h12 := neq_of e12
   refine H.ldi 0 rfl (v := .int .i64 kind) rfl (BB.k (BB.vr fun q13 e13 => ?_))
   cases q13
   ·refine ret1 (.bool false) rfl (by rfl) ?_
    have hc : crewR l i = (false) := by rw [crewR_of hd hgo]; first | (simp [*]; done) | (cases Wt <;> simp_all; done)
    rw [hc]
    exact ⟨rfl, H.tl⟩
   refine H.ldi 0 rfl (v := .int .i64 kind) rfl (BB.vr fun q14 e14 => ?_)
   cases q14
   ·have h14 := bne_eq_false_iff_eq.1 e14
    subst h14
    refine H.ldi 0 rfl (v := .int .i64 mate) rfl (BB.k (ret1 (.bool (mate == (↑T : Int))) rfl (by rfl) ?_))
    have hc : crewR l i = (mate == (↑T : Int)) := by rw [crewR_of hd hgo]; first | (simp [*]; done) | (cases Wt <;> simp_all; done)
    rw [hc]
    exact ⟨rfl, H.tl⟩
   have h14 := bne_iff_ne.1 e14
   refine ret1 (.bool true) rfl (by rfl) ?_
   have hc : crewR l i = (true) := by rw [crewR_of hd hgo]; first | (simp [*]; done) | (cases Wt <;> simp_all; done)
   rw [hc]
   exact ⟨rfl, H.tl⟩
  have h12 := eq_of_beq e12
  subst h12
  refine H.ldi 0 rfl (v := .int .i64 12) rfl (BB.yes rfl (ret1 (.bool true) rfl (by rfl) ?_))
  have hc : crewR l i = (true) := by rw [crewR_of hd hgo]; first | (simp [*]; done) | (cases Wt <;> simp_all; done)
  rw [hc]
  exact ⟨rfl, H.tl⟩
 have h9 := eq_of_beq e9
 subst h9
 refine Cn.yes (⟨ret1 (.bool true) rfl (by rfl) ?_⟩)
 have hc : crewR l i = (true) := by rw [crewR_of hd hgo]; first | (simp [*]; done) | (cases Wt <;> simp_all; done)
 rw [hc]
 exact ⟨rfl, H.tl⟩
theorem makesR_le (l : List Ev) : ∀ k, makesR l k ≤ k
 | 0 => Nat.le_refl _
 | k + 1 => by
  have := makesR_le l k
  rw [makesR]
  split <;> omega
set_option maxHeartbeats 2000000 in
theorem r_made {w : World} {F : List Piece} {A : Piece} {lb lo lc i : Nat} {l : List Ev} (hA : EvA A lb lo l) (hlc : l.length ≤ lc) (hi : i < l.length) (hll : l.length ≤ 2000) (H : SL w (A :: F)) :
  Calls Tryz.prog 75 #[(.slice (some ⟨lb, lo, none⟩) l.length lc), .int .i64 (i : Int)] w fun o w' => o = .returned (.bool (madeR l i)) ∧ SL w' (A :: F) := by
 obtain ⟨e0, e1⟩ : ∃ e, l[i]'hi = e := ⟨_, rfl⟩
 have he : l[i]? = some e0 := by rw [← e1]; exact List.getElem?_eq_getElem _
 clear e1
 obtain ⟨kind, g, chan, case_, value, mate, send, ok⟩ := e0
 have hd : l.getD i evz = ⟨kind, g, chan, case_, value, mate, send, ok⟩ := by rw [List.getD_eq_getElem?_getD, he]; rfl
 refine calls_d (args := [_, _]) Tryz.func75 rfl ?_
 refine ⟨⟨⟨Mn.head (te := 53) (sz := 8) (c := lc) (.tmp 8) (.tmp 9) 22 (by rfl) (by kernel_rfl) (by kernel_rfl) i (by omega) (by rfl) (by rfl) ?_⟩⟩⟩
 refine ⟨den.loop (ι := Nat × Nat) [(5, 5), (7, 7), (12, 21)] (by kernel_rfl) (fun (k, T) => [(5, .int .i64 ↑T), (12, .int .i64 ↑k)]) (fun (k, T) w => (k ≤ i ∧ makesR l k = T) ∧ SL w (A :: F)) (fun (k, T) => i - k) (0, 0) ⟨rfl, rfl, trivial⟩ ⟨⟨Nat.zero_le _, rfl⟩, H⟩ ?_⟩
 rintro ⟨k, T⟩ s w ⟨hc, H⟩
 obtain ⟨hk', hgo⟩ := hc
 have hT := makesR_le l k
 rw [hgo] at hT
 by_cases hk : k < i
 ·have hob : ∃ e, l[k]'(by omega) = e := ⟨_, rfl⟩
  obtain ⟨ex0, ex1⟩ := hob
  have hx : l[k]? = some ex0 := by rw [← ex1]; exact List.getElem?_eq_getElem _
  clear ex1
  obtain ⟨xkind, xg, xchan, xcase_, xvalue, xmate, xsend, xok⟩ := ex0
  have hdx : l.getD k evz = ⟨xkind, xg, xchan, xcase_, xvalue, xmate, xsend, xok⟩ := by rw [List.getD_eq_getElem?_getD, hx]; rfl
  refine ⟨BB.yd ?_⟩
  refine Cn.yes (⟨⟨Ix.at k 8 (by kernel_rfl) (rfl) (hk) ?_⟩⟩)
  refine H.ldEv 0 rfl hA k hx (Nw.as ev0C 53 rfl H fun b7 w H => ?_)
  refine SL.stEv H rfl rfl fun w H => ?_
  refine ⟨H.ldi 0 rfl (v := .int .i64 xkind) rfl ?_⟩
  refine BB.vr fun q1 e1 => ?_
  cases q1
  ·have h1 := neq_of e1
   refine Cn.no (⟨IW.i k ?_⟩)
   exact ⟨(k + 1, T), ⟨rfl, rfl, trivial⟩, ⟨⟨by omega, by rw [makesR, hdx, hgo]; simp [*]⟩, H.tl⟩, (show i - (k + 1) < i - k by omega)⟩
  have h1 := eq_of_beq e1
  subst h1
  refine Cn.yes (⟨IW.i T ?_⟩)
  refine ⟨IW.i k ?_⟩
  exact ⟨(k + 1, T + 1), ⟨rfl, rfl, trivial⟩, ⟨⟨by omega, by rw [makesR, hdx, hgo]; simp [*]⟩, H.tl⟩, (show i - (k + 1) < i - k by omega)⟩
 have hki : k = i := by omega
 subst k
 refine ⟨BB.nd ?_⟩
 refine Cn.no (⟨Ix.at i 8 (by kernel_rfl) (rfl) (hi) ?_⟩)
 refine H.ldE 0 rfl hA i 0 he (v := .int .i64 kind) rfl (BB.vr fun q2 e2 => ?_)
 cases q2
 ·have h2 := neq_of e2
  refine Cn.no (⟨Ix.at i 8 (by kernel_rfl) (rfl) (hi) ?_⟩)
  refine H.ldE 0 rfl hA i 2 he (v := .int .i64 chan) rfl (BB.k (ret1 (.bool (decide (chan < (↑T : Int)))) rfl (by rfl) ?_))
  have hc : madeR l i = (decide (chan < (↑T : Int))) := by rw [madeR_of hd hgo]; simp [*]
  rw [hc]
  exact ⟨rfl, H⟩
 have h2 := eq_of_beq e2
 subst h2
 refine Cn.yes (⟨Ix.at i 8 (by kernel_rfl) (rfl) (hi) ?_⟩)
 refine H.ldE 0 rfl hA i 2 he (v := .int .i64 chan) rfl (BB.k (ret1 (.bool (chan == (↑T : Int))) rfl (by rfl) ?_))
 have hc : madeR l i = (chan == (↑T : Int)) := by rw [madeR_of hd hgo]; simp [*]
 rw [hc]
 exact ⟨rfl, H⟩
theorem backR_step {l : List Ev} {e x : Ev} {k : Nat} (hx : l.getD k evz = x) : backR l e (k + 1) = (if x.kind = 5 then x.g == e.mate && x.chan == e.chan else if x.kind ≠ 7 ∨ (0 < k ∧ servesF (l.getD (k - 1) evz) = true) then false else backR l e k) := by
 subst hx
 rfl
theorem servedR_first {l : List Ev} {i : Nat} {e s : Ev} (hd : l.getD i evz = e) (h0 : 0 < i) (hs : l.getD (i - 1) evz = s) (hv : servesF s = true) : servedR l i = (e.kind == 7 && e.g == s.mate && e.mate == s.g && e.chan == s.chan && e.send != s.send && e.ok && (!s.send || e.value == s.value)) := by
 subst hd hs
 unfold servedR
 dsimp only
 rw [if_pos ⟨h0, hv⟩]
theorem servedR_else {l : List Ev} {i : Nat} {e : Ev} (hd : l.getD i evz = e) (h : ¬ (0 < i ∧ servesF (l.getD (i - 1) evz) = true)) : servedR l i = (if e.kind ≠ 7 then true else if e.ok = true ∨ e.send = true then false else backR l e i) := by
 subst hd
 unfold servedR
 dsimp only
 rw [if_neg h]
set_option maxHeartbeats 2000000 in
theorem r_served {w : World} {F : List Piece} {A : Piece} {lb lo lc i : Nat} {l : List Ev} (hA : EvA A lb lo l) (hlc : l.length ≤ lc) (hi : i < l.length) (hll : l.length ≤ 2000) (H : SL w (A :: F)) :
  Calls Tryz.prog 76 #[(.slice (some ⟨lb, lo, none⟩) l.length lc), .int .i64 (i : Int)] w fun o w' => o = .returned (.bool (servedR l i)) ∧ SL w' (A :: F) := by
 obtain ⟨e0, e1⟩ : ∃ e, l[i]'hi = e := ⟨_, rfl⟩
 have he : l[i]? = some e0 := by rw [← e1]; exact List.getElem?_eq_getElem _
 clear e1
 obtain ⟨kind, g, chan, case_, value, mate, send, ok⟩ := e0
 have hd : l.getD i evz = ⟨kind, g, chan, case_, value, mate, send, ok⟩ := by rw [List.getD_eq_getElem?_getD, he]; rfl
 rcases Nat.eq_zero_or_pos i with h0 | h0
 ·refine calls_d (args := [_, _]) Tryz.func76 rfl ?_
  refine ⟨⟨Ix.at i 8 (by kernel_rfl) (rfl) (hi) ?_⟩⟩
  refine H.ldEv 0 rfl hA i he (Nw.as ev0C 53 rfl H fun b5 w H => ?_)
  refine SL.stEv H rfl rfl fun w H => ?_
  refine ⟨BB.nd ?_⟩
  refine Cn.no (⟨H.ldi 0 rfl (v := .int .i64 kind) rfl ?_⟩)
  refine BB.vr fun q1 e1 => ?_
  cases q1
  ·have h1 := bne_eq_false_iff_eq.1 e1
   subst h1
   refine Cn.no (⟨H.ldi 0 rfl (v := .bool ok) rfl ?_⟩)
   refine BB.k ?_
   cases ok
   ·refine H.ldi 0 rfl (v := .bool send) rfl (BB.k ?_)
    cases send
    ·refine Cn.no (⟨IW.by (m := (↑i - 1)) (wrap_id (by omega) (by omega)) ?_⟩)
     refine ⟨den.loop (ι := Int × Nat) [(4, 4), (7, 8), (86, 123)] (by kernel_rfl) (fun (kk, j) => [(7, .int .i64 kk)]) (fun (kk, j) w => (kk = (j : Int) - 1 ∧ j ≤ i ∧ backR l ⟨7, g, chan, case_, value, mate, false, false⟩ i = backR l ⟨7, g, chan, case_, value, mate, false, false⟩ j) ∧ SL w (row b5 #[.int .i64 7, .int .i64 g, .int .i64 chan, .int .i64 case_, .int .i64 value, .int .i64 mate, .bool false, .bool false] 53 :: A :: F)) (fun (kk, j) => j) ((i : Int) - 1, i) ⟨rfl, trivial⟩ ⟨⟨rfl, Nat.le_refl _, rfl⟩, H⟩ ?_⟩
     rintro ⟨kk, j⟩ s w ⟨hc, H⟩
     obtain ⟨hkk, hj, hb⟩ := hc
     cases j with
     | zero =>
      have hob : kk = -1 := by omega
      obtain rfl := hob
      refine ⟨BB.no rfl ?_⟩
      refine Cn.no (⟨ret1 (.bool false) rfl (by rfl) ?_⟩)
      have hno : ¬ (0 < i ∧ servesF (l.getD (i - 1) evz) = true) := by omega
      have hc : servedR l i = (false) := by rw [servedR_else hd hno, if_neg (by simp), if_neg (by simp), hb]; rfl
      rw [hc]
      exact ⟨rfl, H.tl⟩
     | succ m =>
      have hob : kk = (m : Int) := by omega
      obtain rfl := hob
      have hob : ∃ e, l[m]'(by omega) = e := ⟨_, rfl⟩
      obtain ⟨ex0, ex1⟩ := hob
      have hx : l[m]? = some ex0 := by rw [← ex1]; exact List.getElem?_eq_getElem _
      clear ex1
      obtain ⟨xkind, xg, xchan, xcase_, xvalue, xmate, xsend, xok⟩ := ex0
      have hdx : l.getD m evz = ⟨xkind, xg, xchan, xcase_, xvalue, xmate, xsend, xok⟩ := by rw [List.getD_eq_getElem?_getD, hx]; rfl
      have hob := Nat.eq_zero_or_pos m
      rcases hob with hm0 | hm0
      ·refine ⟨BB.yd ?_⟩
       refine Cn.yes (⟨⟨Ix.at m 8 (by kernel_rfl) (rfl) (by omega) ?_⟩⟩)
       refine H.ldEv 1 rfl hA m hx (Nw.as ev0C 53 rfl H fun b8 w H => ?_)
       refine SL.stEv H rfl rfl fun w H => ?_
       refine ⟨H.ldi 0 rfl (v := .int .i64 xkind) rfl ?_⟩
       refine BB.vr fun q2 e2 => ?_
       cases q2
       ·have h2 := neq_of e2
        refine Cn.no (⟨H.ldi 0 rfl (v := .int .i64 xkind) rfl ?_⟩)
        refine BB.vr fun q3 e3 => ?_
        cases q3
        ·have h3 := bne_eq_false_iff_eq.1 e3
         subst h3
         refine BB.nd (Cn.no (⟨IW.by (m := (↑m - 1)) (wrap_id (by omega) (by omega)) ?_⟩))
         exact ⟨(((m : Int) - 1), m), ⟨rfl, trivial⟩, ⟨⟨rfl, by omega, by rw [hb, backR_step hdx]; simp [*]⟩, H.tl⟩, (Nat.lt_succ_self m)⟩
        have h3 := bne_iff_ne.1 e3
        refine Cn.yes (⟨ret1 (.bool false) rfl (by rfl) ?_⟩)
        have hno : ¬ (0 < i ∧ servesF (l.getD (i - 1) evz) = true) := by omega
        have hc : servedR l i = (false) := by rw [servedR_else hd hno, if_neg (by simp), if_neg (by simp), hb]; rw [backR_step hdx]; simp [*]
        rw [hc]
        exact ⟨rfl, H.tl.tl⟩
       have h2 := eq_of_beq e2
       subst h2
       refine Cn.yes (⟨H.ldi 0 rfl (v := .int .i64 xg) rfl ?_⟩)
       refine H.ldi 1 rfl (v := .int .i64 mate) rfl (BB.vr fun q4 e4 => ?_)
       cases q4
       ·have h4 := neq_of e4
        refine ret1 (.bool false) rfl (by rfl) ?_
        have hno : ¬ (0 < i ∧ servesF (l.getD (i - 1) evz) = true) := by omega
        have hc : servedR l i = (false) := by rw [servedR_else hd hno, if_neg (by simp), if_neg (by simp), hb]; rw [backR_step hdx]; simp [*]
        rw [hc]
        exact ⟨rfl, H.tl.tl⟩
       have h4 := eq_of_beq e4
       subst xg
       refine H.ldi 0 rfl (v := .int .i64 xchan) rfl (H.ldi 1 rfl (v := .int .i64 chan) rfl (BB.k (ret1 (.bool (xchan == chan)) rfl (by rfl) ?_)))
       have hno : ¬ (0 < i ∧ servesF (l.getD (i - 1) evz) = true) := by omega
       have hc : servedR l i = (xchan == chan) := by rw [servedR_else hd hno, if_neg (by simp), if_neg (by simp), hb]; rw [backR_step hdx]; simp [*]
       rw [hc]
       exact ⟨rfl, H.tl.tl⟩
      have hob : ∃ e, l[(m - 1)]'(by omega) = e := ⟨_, rfl⟩
      obtain ⟨ey0, ey1⟩ := hob
      have hy : l[(m - 1)]? = some ey0 := by rw [← ey1]; exact List.getElem?_eq_getElem _
      clear ey1
      obtain ⟨ykind, yg, ychan, ycase_, yvalue, ymate, ysend, yok⟩ := ey0
      have hdy : l.getD (m - 1) evz = ⟨ykind, yg, ychan, ycase_, yvalue, ymate, ysend, yok⟩ := by rw [List.getD_eq_getElem?_getD, hy]; rfl
      refine ⟨BB.yd ?_⟩
      refine Cn.yes (⟨⟨Ix.at m 8 (by kernel_rfl) (rfl) (by omega) ?_⟩⟩)
      refine H.ldEv 1 rfl hA m hx (Nw.as ev0C 53 rfl H fun b8 w H => ?_)
      refine SL.stEv H rfl rfl fun w H => ?_
      refine ⟨H.ldi 0 rfl (v := .int .i64 xkind) rfl ?_⟩
      refine BB.vr fun q5 e5 => ?_
      cases q5
      ·have h5 := neq_of e5
       refine Cn.no (⟨H.ldi 0 rfl (v := .int .i64 xkind) rfl ?_⟩)
       refine BB.vr fun q6 e6 => ?_
       cases q6
       ·have h6 := bne_eq_false_iff_eq.1 e6
        subst h6
        refine BB.yd (IW.by (m := (↑m - 1)) (wrap_id (by omega) (by omega)) (Ix.at (m - 1) 8 (by kernel_rfl) (by omega) (by omega) ?_))
        refine H.ldEv 2 rfl hA (m - 1) hy (Cl.s (r_serves H ⟨ykind, yg, ychan, ycase_, yvalue, ymate, ysend, yok⟩) fun w H => ?_)
        refine BB.vr fun q7 e7 => ?_
        cases q7
        ·refine Cn.no (⟨IW.by (m := (↑m - 1)) (wrap_id (by omega) (by omega)) ?_⟩)
         exact ⟨(((m : Int) - 1), m), ⟨rfl, trivial⟩, ⟨⟨rfl, by omega, by rw [hb, backR_step hdx]; simp [*]⟩, H.tl⟩, (Nat.lt_succ_self m)⟩
        refine Cn.yes (⟨ret1 (.bool false) rfl (by rfl) ?_⟩)
        have hno : ¬ (0 < i ∧ servesF (l.getD (i - 1) evz) = true) := by omega
        have hc : servedR l i = (false) := by rw [servedR_else hd hno, if_neg (by simp), if_neg (by simp), hb]; rw [backR_step hdx]; simp [*]
        rw [hc]
        exact ⟨rfl, H.tl.tl⟩
       have h6 := bne_iff_ne.1 e6
       refine Cn.yes (⟨ret1 (.bool false) rfl (by rfl) ?_⟩)
       have hno : ¬ (0 < i ∧ servesF (l.getD (i - 1) evz) = true) := by omega
       have hc : servedR l i = (false) := by rw [servedR_else hd hno, if_neg (by simp), if_neg (by simp), hb]; rw [backR_step hdx]; simp [*]
       rw [hc]
       exact ⟨rfl, H.tl.tl⟩
      have h5 := eq_of_beq e5
      subst h5
      refine Cn.yes (⟨H.ldi 0 rfl (v := .int .i64 xg) rfl ?_⟩)
      refine H.ldi 1 rfl (v := .int .i64 mate) rfl (BB.vr fun q8 e8 => ?_)
      cases q8
      ·have h8 := neq_of e8
       refine ret1 (.bool false) rfl (by rfl) ?_
       have hno : ¬ (0 < i ∧ servesF (l.getD (i - 1) evz) = true) := by omega
       have hc : servedR l i = (false) := by rw [servedR_else hd hno, if_neg (by simp), if_neg (by simp), hb]; rw [backR_step hdx]; simp [*]
       rw [hc]
       exact ⟨rfl, H.tl.tl⟩
      have h8 := eq_of_beq e8
      subst xg
      refine H.ldi 0 rfl (v := .int .i64 xchan) rfl (H.ldi 1 rfl (v := .int .i64 chan) rfl (BB.k (ret1 (.bool (xchan == chan)) rfl (by rfl) ?_)))
      have hno : ¬ (0 < i ∧ servesF (l.getD (i - 1) evz) = true) := by omega
      have hc : servedR l i = (xchan == chan) := by rw [servedR_else hd hno, if_neg (by simp), if_neg (by simp), hb]; rw [backR_step hdx]; simp [*]
      rw [hc]
      exact ⟨rfl, H.tl.tl⟩
    refine Cn.yes (⟨ret1 (.bool false) rfl (by rfl) ?_⟩)
    have hno : ¬ (0 < i ∧ servesF (l.getD (i - 1) evz) = true) := by omega
    have hc : servedR l i = (false) := by rw [servedR_else hd hno]; simp [*]
    rw [hc]
    exact ⟨rfl, H.tl⟩
   refine Cn.yes (⟨ret1 (.bool false) rfl (by rfl) ?_⟩)
   have hno : ¬ (0 < i ∧ servesF (l.getD (i - 1) evz) = true) := by omega
   have hc : servedR l i = (false) := by rw [servedR_else hd hno]; simp [*]
   rw [hc]
   exact ⟨rfl, H.tl⟩
  have h1 := bne_iff_ne.1 e1
  refine Cn.yes (⟨ret1 (.bool true) rfl (by rfl) ?_⟩)
  have hno : ¬ (0 < i ∧ servesF (l.getD (i - 1) evz) = true) := by omega
  have hc : servedR l i = (true) := by rw [servedR_else hd hno]; simp [*]
  rw [hc]
  exact ⟨rfl, H.tl⟩
 obtain ⟨es0, es1⟩ : ∃ e, l[(i - 1)]'(by omega) = e := ⟨_, rfl⟩
 have hs : l[(i - 1)]? = some es0 := by rw [← es1]; exact List.getElem?_eq_getElem _
 clear es1
 obtain ⟨skind, sg, schan, scase_, svalue, smate, ssend, sok⟩ := es0
 have hds : l.getD (i - 1) evz = ⟨skind, sg, schan, scase_, svalue, smate, ssend, sok⟩ := by rw [List.getD_eq_getElem?_getD, hs]; rfl
 refine calls_d (args := [_, _]) Tryz.func76 rfl ?_
 refine ⟨⟨Ix.at i 8 (by kernel_rfl) (rfl) (hi) ?_⟩⟩
 refine H.ldEv 0 rfl hA i he (Nw.as ev0C 53 rfl H fun b5 w H => ?_)
 refine SL.stEv H rfl rfl fun w H => ?_
 refine ⟨BB.yd ?_⟩
 refine IW.by (m := (↑i - 1)) (wrap_id (by omega) (by omega)) (Ix.at (i - 1) 8 (by kernel_rfl) (by omega) (by omega) ?_)
 refine H.ldEv 1 rfl hA (i - 1) hs (Cl.s (r_serves H ⟨skind, sg, schan, scase_, svalue, smate, ssend, sok⟩) fun w H => ?_)
 refine BB.vr fun q1 e1 => ?_
 cases q1
 ·refine Cn.no (⟨H.ldi 0 rfl (v := .int .i64 kind) rfl ?_⟩)
  refine BB.vr fun q2 e2 => ?_
  cases q2
  ·have h2 := bne_eq_false_iff_eq.1 e2
   subst h2
   refine Cn.no (⟨H.ldi 0 rfl (v := .bool ok) rfl ?_⟩)
   refine BB.k ?_
   cases ok
   ·refine H.ldi 0 rfl (v := .bool send) rfl (BB.k ?_)
    cases send
    ·refine Cn.no (⟨IW.by (m := (↑i - 1)) (wrap_id (by omega) (by omega)) ?_⟩)
     refine ⟨den.loop (ι := Int × Nat) [(4, 4), (7, 8), (86, 123)] (by kernel_rfl) (fun (kk, j) => [(7, .int .i64 kk)]) (fun (kk, j) w => (kk = (j : Int) - 1 ∧ j ≤ i ∧ backR l ⟨7, g, chan, case_, value, mate, false, false⟩ i = backR l ⟨7, g, chan, case_, value, mate, false, false⟩ j) ∧ SL w (row b5 #[.int .i64 7, .int .i64 g, .int .i64 chan, .int .i64 case_, .int .i64 value, .int .i64 mate, .bool false, .bool false] 53 :: A :: F)) (fun (kk, j) => j) ((i : Int) - 1, i) ⟨rfl, trivial⟩ ⟨⟨rfl, Nat.le_refl _, rfl⟩, H⟩ ?_⟩
     rintro ⟨kk, j⟩ s w ⟨hc, H⟩
     obtain ⟨hkk, hj, hb⟩ := hc
     cases j with
     | zero =>
      have hob : kk = -1 := by omega
      obtain rfl := hob
      refine ⟨BB.no rfl ?_⟩
      refine Cn.no (⟨ret1 (.bool false) rfl (by rfl) ?_⟩)
      have hno : ¬ (0 < i ∧ servesF (l.getD (i - 1) evz) = true) := by rw [hds]; rintro ⟨_, h⟩; simp_all
      have hc : servedR l i = (false) := by rw [servedR_else hd hno, if_neg (by simp), if_neg (by simp), hb]; rfl
      rw [hc]
      exact ⟨rfl, H.tl⟩
     | succ m =>
      have hob : kk = (m : Int) := by omega
      obtain rfl := hob
      have hob : ∃ e, l[m]'(by omega) = e := ⟨_, rfl⟩
      obtain ⟨ex0, ex1⟩ := hob
      have hx : l[m]? = some ex0 := by rw [← ex1]; exact List.getElem?_eq_getElem _
      clear ex1
      obtain ⟨xkind, xg, xchan, xcase_, xvalue, xmate, xsend, xok⟩ := ex0
      have hdx : l.getD m evz = ⟨xkind, xg, xchan, xcase_, xvalue, xmate, xsend, xok⟩ := by rw [List.getD_eq_getElem?_getD, hx]; rfl
      have hob := Nat.eq_zero_or_pos m
      rcases hob with hm0 | hm0
      ·refine ⟨BB.yd ?_⟩
       refine Cn.yes (⟨⟨Ix.at m 8 (by kernel_rfl) (rfl) (by omega) ?_⟩⟩)
       refine H.ldEv 1 rfl hA m hx (Nw.as ev0C 53 rfl H fun b8 w H => ?_)
       refine SL.stEv H rfl rfl fun w H => ?_
       refine ⟨H.ldi 0 rfl (v := .int .i64 xkind) rfl ?_⟩
       refine BB.vr fun q3 e3 => ?_
       cases q3
       ·have h3 := neq_of e3
        refine Cn.no (⟨H.ldi 0 rfl (v := .int .i64 xkind) rfl ?_⟩)
        refine BB.vr fun q4 e4 => ?_
        cases q4
        ·have h4 := bne_eq_false_iff_eq.1 e4
         subst h4
         refine BB.nd (Cn.no (⟨IW.by (m := (↑m - 1)) (wrap_id (by omega) (by omega)) ?_⟩))
         exact ⟨(((m : Int) - 1), m), ⟨rfl, trivial⟩, ⟨⟨rfl, by omega, by rw [hb, backR_step hdx]; simp [*]⟩, H.tl⟩, (Nat.lt_succ_self m)⟩
        have h4 := bne_iff_ne.1 e4
        refine Cn.yes (⟨ret1 (.bool false) rfl (by rfl) ?_⟩)
        have hno : ¬ (0 < i ∧ servesF (l.getD (i - 1) evz) = true) := by rw [hds]; rintro ⟨_, h⟩; simp_all
        have hc : servedR l i = (false) := by rw [servedR_else hd hno, if_neg (by simp), if_neg (by simp), hb]; rw [backR_step hdx]; simp [*]
        rw [hc]
        exact ⟨rfl, H.tl.tl⟩
       have h3 := eq_of_beq e3
       subst h3
       refine Cn.yes (⟨H.ldi 0 rfl (v := .int .i64 xg) rfl ?_⟩)
       refine H.ldi 1 rfl (v := .int .i64 mate) rfl (BB.vr fun q5 e5 => ?_)
       cases q5
       ·have h5 := neq_of e5
        refine ret1 (.bool false) rfl (by rfl) ?_
        have hno : ¬ (0 < i ∧ servesF (l.getD (i - 1) evz) = true) := by rw [hds]; rintro ⟨_, h⟩; simp_all
        have hc : servedR l i = (false) := by rw [servedR_else hd hno, if_neg (by simp), if_neg (by simp), hb]; rw [backR_step hdx]; simp [*]
        rw [hc]
        exact ⟨rfl, H.tl.tl⟩
       have h5 := eq_of_beq e5
       subst xg
       refine H.ldi 0 rfl (v := .int .i64 xchan) rfl (H.ldi 1 rfl (v := .int .i64 chan) rfl (BB.k (ret1 (.bool (xchan == chan)) rfl (by rfl) ?_)))
       have hno : ¬ (0 < i ∧ servesF (l.getD (i - 1) evz) = true) := by rw [hds]; rintro ⟨_, h⟩; simp_all
       have hc : servedR l i = (xchan == chan) := by rw [servedR_else hd hno, if_neg (by simp), if_neg (by simp), hb]; rw [backR_step hdx]; simp [*]
       rw [hc]
       exact ⟨rfl, H.tl.tl⟩
      have hob : ∃ e, l[(m - 1)]'(by omega) = e := ⟨_, rfl⟩
      obtain ⟨ey0, ey1⟩ := hob
      have hy : l[(m - 1)]? = some ey0 := by rw [← ey1]; exact List.getElem?_eq_getElem _
      clear ey1
      obtain ⟨ykind, yg, ychan, ycase_, yvalue, ymate, ysend, yok⟩ := ey0
      have hdy : l.getD (m - 1) evz = ⟨ykind, yg, ychan, ycase_, yvalue, ymate, ysend, yok⟩ := by rw [List.getD_eq_getElem?_getD, hy]; rfl
      refine ⟨BB.yd ?_⟩
      refine Cn.yes (⟨⟨Ix.at m 8 (by kernel_rfl) (rfl) (by omega) ?_⟩⟩)
      refine H.ldEv 1 rfl hA m hx (Nw.as ev0C 53 rfl H fun b8 w H => ?_)
      refine SL.stEv H rfl rfl fun w H => ?_
      refine ⟨H.ldi 0 rfl (v := .int .i64 xkind) rfl ?_⟩
      refine BB.vr fun q6 e6 => ?_
      cases q6
      ·have h6 := neq_of e6
       refine Cn.no (⟨H.ldi 0 rfl (v := .int .i64 xkind) rfl ?_⟩)
       refine BB.vr fun q7 e7 => ?_
       cases q7
       ·have h7 := bne_eq_false_iff_eq.1 e7
        subst h7
        refine BB.yd (IW.by (m := (↑m - 1)) (wrap_id (by omega) (by omega)) (Ix.at (m - 1) 8 (by kernel_rfl) (by omega) (by omega) ?_))
        refine H.ldEv 2 rfl hA (m - 1) hy (Cl.s (r_serves H ⟨ykind, yg, ychan, ycase_, yvalue, ymate, ysend, yok⟩) fun w H => ?_)
        refine BB.vr fun q8 e8 => ?_
        cases q8
        ·refine Cn.no (⟨IW.by (m := (↑m - 1)) (wrap_id (by omega) (by omega)) ?_⟩)
         exact ⟨(((m : Int) - 1), m), ⟨rfl, trivial⟩, ⟨⟨rfl, by omega, by rw [hb, backR_step hdx]; simp [*]⟩, H.tl⟩, (Nat.lt_succ_self m)⟩
        refine Cn.yes (⟨ret1 (.bool false) rfl (by rfl) ?_⟩)
        have hno : ¬ (0 < i ∧ servesF (l.getD (i - 1) evz) = true) := by rw [hds]; rintro ⟨_, h⟩; simp_all
        have hc : servedR l i = (false) := by rw [servedR_else hd hno, if_neg (by simp), if_neg (by simp), hb]; rw [backR_step hdx]; simp [*]
        rw [hc]
        exact ⟨rfl, H.tl.tl⟩
       have h7 := bne_iff_ne.1 e7
       refine Cn.yes (⟨ret1 (.bool false) rfl (by rfl) ?_⟩)
       have hno : ¬ (0 < i ∧ servesF (l.getD (i - 1) evz) = true) := by rw [hds]; rintro ⟨_, h⟩; simp_all
       have hc : servedR l i = (false) := by rw [servedR_else hd hno, if_neg (by simp), if_neg (by simp), hb]; rw [backR_step hdx]; simp [*]
       rw [hc]
       exact ⟨rfl, H.tl.tl⟩
      have h6 := eq_of_beq e6
      subst h6
      refine Cn.yes (⟨H.ldi 0 rfl (v := .int .i64 xg) rfl ?_⟩)
      refine H.ldi 1 rfl (v := .int .i64 mate) rfl (BB.vr fun q9 e9 => ?_)
      cases q9
      ·have h9 := neq_of e9
       refine ret1 (.bool false) rfl (by rfl) ?_
       have hno : ¬ (0 < i ∧ servesF (l.getD (i - 1) evz) = true) := by rw [hds]; rintro ⟨_, h⟩; simp_all
       have hc : servedR l i = (false) := by rw [servedR_else hd hno, if_neg (by simp), if_neg (by simp), hb]; rw [backR_step hdx]; simp [*]
       rw [hc]
       exact ⟨rfl, H.tl.tl⟩
      have h9 := eq_of_beq e9
      subst xg
      refine H.ldi 0 rfl (v := .int .i64 xchan) rfl (H.ldi 1 rfl (v := .int .i64 chan) rfl (BB.k (ret1 (.bool (xchan == chan)) rfl (by rfl) ?_)))
      have hno : ¬ (0 < i ∧ servesF (l.getD (i - 1) evz) = true) := by rw [hds]; rintro ⟨_, h⟩; simp_all
      have hc : servedR l i = (xchan == chan) := by rw [servedR_else hd hno, if_neg (by simp), if_neg (by simp), hb]; rw [backR_step hdx]; simp [*]
      rw [hc]
      exact ⟨rfl, H.tl.tl⟩
    refine Cn.yes (⟨ret1 (.bool false) rfl (by rfl) ?_⟩)
    have hno : ¬ (0 < i ∧ servesF (l.getD (i - 1) evz) = true) := by rw [hds]; rintro ⟨_, h⟩; simp_all
    have hc : servedR l i = (false) := by rw [servedR_else hd hno]; simp [*]
    rw [hc]
    exact ⟨rfl, H.tl⟩
   refine Cn.yes (⟨ret1 (.bool false) rfl (by rfl) ?_⟩)
   have hno : ¬ (0 < i ∧ servesF (l.getD (i - 1) evz) = true) := by rw [hds]; rintro ⟨_, h⟩; simp_all
   have hc : servedR l i = (false) := by rw [servedR_else hd hno]; simp [*]
   rw [hc]
   exact ⟨rfl, H.tl⟩
  have h2 := bne_iff_ne.1 e2
  refine Cn.yes (⟨ret1 (.bool true) rfl (by rfl) ?_⟩)
  have hno : ¬ (0 < i ∧ servesF (l.getD (i - 1) evz) = true) := by rw [hds]; rintro ⟨_, h⟩; simp_all
  have hc : servedR l i = (true) := by rw [servedR_else hd hno]; simp [*]
  rw [hc]
  exact ⟨rfl, H.tl⟩
 refine Cn.yes (⟨IW.by (m := (↑i - 1)) (wrap_id (by omega) (by omega)) ?_⟩)
 refine Ix.at (i - 1) 8 (by kernel_rfl) (by omega) (by omega) ?_
 refine H.ldEv 1 rfl hA (i - 1) hs (Nw.as ev0C 53 rfl H fun b6 w H => ?_)
 refine SL.stEv H rfl rfl fun w H => ?_
 refine ⟨H.ldi 1 rfl (v := .int .i64 kind) rfl ?_⟩
 refine BB.vr fun q10 e10 => ?_
 cases q10
 ·have h10 := neq_of e10
  refine ret1 (.bool false) rfl (by rfl) ?_
  have hc : servedR l i = (false) := by rw [servedR_first hd h0 hds (by assumption)]; first | (simp [*]; done) | (cases send <;> simp_all; done) | (cases send <;> cases ss <;> simp_all; done)
  rw [hc]
  exact ⟨rfl, H.tl.tl⟩
 have h10 := eq_of_beq e10
 subst h10
 refine H.ldi 1 rfl (v := .int .i64 g) rfl (H.ldi 0 rfl (v := .int .i64 smate) rfl (BB.vr fun q11 e11 => ?_))
 cases q11
 ·have h11 := neq_of e11
  refine ret1 (.bool false) rfl (by rfl) ?_
  have hc : servedR l i = (false) := by rw [servedR_first hd h0 hds (by assumption)]; first | (simp [*]; done) | (cases send <;> simp_all; done) | (cases send <;> cases ss <;> simp_all; done)
  rw [hc]
  exact ⟨rfl, H.tl.tl⟩
 have h11 := eq_of_beq e11
 subst g
 refine H.ldi 1 rfl (v := .int .i64 mate) rfl (H.ldi 0 rfl (v := .int .i64 sg) rfl (BB.vr fun q12 e12 => ?_))
 cases q12
 ·have h12 := neq_of e12
  refine ret1 (.bool false) rfl (by rfl) ?_
  have hc : servedR l i = (false) := by rw [servedR_first hd h0 hds (by assumption)]; first | (simp [*]; done) | (cases send <;> simp_all; done) | (cases send <;> cases ss <;> simp_all; done)
  rw [hc]
  exact ⟨rfl, H.tl.tl⟩
 have h12 := eq_of_beq e12
 subst mate
 refine H.ldi 1 rfl (v := .int .i64 chan) rfl (H.ldi 0 rfl (v := .int .i64 schan) rfl (BB.vr fun q13 e13 => ?_))
 cases q13
 ·have h13 := neq_of e13
  refine ret1 (.bool false) rfl (by rfl) ?_
  have hc : servedR l i = (false) := by rw [servedR_first hd h0 hds (by assumption)]; first | (simp [*]; done) | (cases send <;> simp_all; done) | (cases send <;> cases ss <;> simp_all; done)
  rw [hc]
  exact ⟨rfl, H.tl.tl⟩
 have h13 := eq_of_beq e13
 subst chan
 refine H.ldi 1 rfl (v := .bool send) rfl (BB.k (H.ldi 0 rfl (v := .bool ssend) rfl (BB.k (BB.vr fun q14 e14 => ?_))))
 cases q14
 ·refine ret1 (.bool false) rfl (by rfl) ?_
  have hc : servedR l i = (false) := by rw [servedR_first hd h0 hds (by assumption)]; first | (simp [*]; done) | (cases send <;> simp_all; done) | (cases send <;> cases ss <;> simp_all; done)
  rw [hc]
  exact ⟨rfl, H.tl.tl⟩
 refine H.ldi 1 rfl (v := .bool ok) rfl (BB.k ?_)
 cases ok
 ·refine ret1 (.bool false) rfl (by rfl) ?_
  have hc : servedR l i = (false) := by rw [servedR_first hd h0 hds (by assumption)]; first | (simp [*]; done) | (cases send <;> simp_all; done) | (cases send <;> cases ss <;> simp_all; done)
  rw [hc]
  exact ⟨rfl, H.tl.tl⟩
 refine H.ldi 0 rfl (v := .bool ssend) rfl (BB.k (BB.vr fun q15 e15 => ?_))
 cases q15
 ·have h15 : ssend = true := by simpa using e15
  subst h15
  refine H.ldi 1 rfl (v := .int .i64 value) rfl (H.ldi 0 rfl (v := .int .i64 svalue) rfl (BB.k (ret1 (.bool (value == svalue)) rfl (by rfl) ?_)))
  have hc : servedR l i = (value == svalue) := by rw [servedR_first hd h0 hds (by assumption)]; first | (simp [*]; done) | (cases send <;> simp_all; done) | (cases send <;> cases ss <;> simp_all; done)
  rw [hc]
  exact ⟨rfl, H.tl.tl⟩
 have h15 : ssend = false := by simpa using e15
 subst h15
 refine ret1 (.bool true) rfl (by rfl) ?_
 have hc : servedR l i = (true) := by rw [servedR_first hd h0 hds (by assumption)]; first | (simp [*]; done) | (cases send <;> simp_all; done) | (cases send <;> cases ss <;> simp_all; done)
 rw [hc]
 exact ⟨rfl, H.tl.tl⟩
end Go.Proofs.YtoamjodmidbmbaaGreatDoor
