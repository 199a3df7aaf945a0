/- Texts of the proof, several in one file: EdgeW. -/
import Derived.Test.YtoamjodmidbmbaaGreatDoorE12
set_option linter.unusedVariables false
set_option linter.unusedSimpArgs false
namespace Go.Proofs.YtoamjodmidbmbaaGreatDoor
open Go.RowKit
set_option maxRecDepth 100000
theorem e_edge {w : World} {F : List Piece} {rb ml mr mp : Nat} {lv ev cv : Value} {es : List Edg} (f t r : Nat) (hes : es.length ≤ 100000000) (H : SL w (row rb #[lv, ev, .map (some ml), .map (some mr), .map (some mp), cv] 75 :: Slc 70 3 ev es.length (es.flatMap Edg.cells) :: F)) :
  Calls Tryz.prog 67 #[.pointer (some ⟨rb, 0, none⟩), .int .i64 f, .int .i64 t, .int .i64 r] w fun o w' => o = .returned (.tuple #[]) ∧ ∃ ev', SL w' (row rb #[lv, ev', .map (some ml), .map (some mr), .map (some mp), cv] 75 :: Slc 70 3 ev' (putL es f t r).length ((putL es f t r).flatMap Edg.cells) :: F) := by
 obtain ⟨ea, ec, rfl⟩ := SL.slcForm H.up1
 refine calls_den (args := [_, _, _, _]) Tryz.func67 rfl (Nat.le_of_ble_eq_true (by kernel_rfl)) (by kernel_rfl) ?_
 refine ⟨BB.vr fun q1 e1 => ?_⟩
 cases q1
 ·have h1 := of_decide_eq_false e1
  refine Cn.no (ret0 rfl ?_)
  have q := H
  rw [show es = putL es f t r by unfold putL; rw [if_neg (by omega)]] at q
  exact ⟨rfl, _, q⟩
 have h1 := of_decide_eq_true e1
 refine Cn.yes (⟨H.ldi 0 rfl (v := .slice ea es.length ec) rfl ?_⟩)
 refine Mn.pure (.agg #[.int .i64 ↑f, .int .i64 ↑t, .int .i64 ↑r]) (by kernel_rfl) ?_
 refine Mn.new (fun b => .slice (some ⟨b, 0, none⟩) 1 1) #[.int .i64 ↑f, .int .i64 ↑t, .int .i64 ↑r] 70 (by kernel_rfl) H fun b20 w H => ?_
 refine SL.appS H.up2 (.tmp 15) (.tmp 20) 24 (.agg #[.int .i64 0, .int .i64 0, .int .i64 0]) 24 (by rfl) (by kernel_rfl) (by kernel_rfl) (by rfl) (by decide) (by rfl) (some ⟨b20, 0, none⟩) 1 1 [.int .i64 ↑f, .int .i64 ↑t, .int .i64 ↑r] (by rfl) (H.rdRow 0 rfl (by rfl) (by decide)) (by rfl) (by omega) (by decide) (by decide) fun g2 c2 w H => ?_
 refine H.st2 (cs' := #[lv, .slice (some ⟨g2, 0, none⟩) (es.length + 1) c2, .map (some ml), .map (some mr), .map (some mp), cv]) rfl rfl rfl fun w H => ?_
 refine ret0 rfl ?_
 have q := H.pick [2, 0] 3 (by decide)
 simp only [pk, nth, pkA, pkB, pkC, pkD, pkE, pkF] at q
 rw [show es.flatMap Edg.cells ++ [.int .i64 ↑f, .int .i64 ↑t, .int .i64 ↑r] = (putL es f t r).flatMap Edg.cells by unfold putL; rw [if_pos (by omega), List.flatMap_append]; rfl, show es.length + 1 = (putL es f t r).length by unfold putL; rw [if_pos (by omega), List.length_append]; rfl] at q
 exact ⟨rfl, _, q⟩
theorem e_served_no {w : World} {F : List Piece} {A : Piece} {rb ml mr mp n3 i lb lo lc : Nat} {ev cv : Value} {l : List Ev} {pa : Int → Option Nat} {kind g chan case_ value mate : Int} {send ok : Bool} (hA : EvA A lb lo l) (hll : l.length ≤ 2000) (he : l[i]? = some ⟨kind, g, chan, case_, value, mate, send, ok⟩) (hm0 : -1 ≤ mate ∧ mate ≤ 511) (hm : mate < 0 ∨ l.length ≤ i + 1) (H : SL w (row rb #[.slice (some ⟨lb, lo, none⟩) l.length lc, ev, .map (some ml), .map (some mr), .map (some mp), cv] 75 :: MapP 3 mp n3 (mapI pa) :: A :: F)) :
  Calls Tryz.prog 113 #[.pointer (some ⟨rb, 0, none⟩), .int .i64 i] w fun o w' => o = .returned (.tuple #[.agg #[.int .i64 0, .int .i64 0], .bool false]) ∧ SL w' (row rb #[.slice (some ⟨lb, lo, none⟩) l.length lc, ev, .map (some ml), .map (some mr), .map (some mp), cv] 75 :: MapP 3 mp n3 (mapI pa) :: A :: F) := by
 have hi : i < l.length := (List.getElem?_eq_some_iff.1 he).1
 refine calls_den (args := [_, _]) Tryz.func113 rfl (Nat.le_of_ble_eq_true (by kernel_rfl)) (by kernel_rfl) ?_
 refine ⟨Nw.as #[.int .i64 0, .int .i64 0] 131 rfl H fun b4 w H => ?_⟩
 refine ⟨H.ldi 1 rfl (v := .slice (some ⟨lb, lo, none⟩) l.length lc) rfl ?_⟩
 refine Ix.at i 8 (by kernel_rfl) (rfl) (hi) ?_
 refine H.ldE 3 rfl hA i 5 he (v := .int .i64 mate) rfl (BB.vr fun q1 e1 => ?_)
 cases q1
 ·have h1 := of_decide_eq_false e1
  refine IW.by (wrap_id (n := ↑i + 1) (by omega) (by omega)) (H.ldi 1 rfl (v := .slice (some ⟨lb, lo, none⟩) l.length lc) rfl (BB.yes (decide_eq_true (by omega)) (Cn.yes (⟨Mn.pure (.agg #[.int .i64 0, .int .i64 0]) (by kernel_rfl) ?_⟩))))
  refine H.st0 (cs' := #[.int .i64 0, .int .i64 0]) rfl rfl rfl fun w H => ?_
  refine H.st0 (cs' := #[.int .i64 0, .int .i64 0]) rfl rfl rfl fun w H => ?_
  refine retCT H 0 rfl rfl (by rfl) (by rfl) (by kernel_rfl) (by kernel_rfl) ?_
  exact ⟨rfl, H.pick [1, 2, 3] 4 (by decide)⟩
 have h1 := of_decide_eq_true e1
 refine Cn.yes (⟨Mn.pure (.agg #[.int .i64 0, .int .i64 0]) (by kernel_rfl) ?_⟩)
 refine H.st0 (cs' := #[.int .i64 0, .int .i64 0]) rfl rfl rfl fun w H => ?_
 refine H.st0 (cs' := #[.int .i64 0, .int .i64 0]) rfl rfl rfl fun w H => ?_
 refine retCT H 0 rfl rfl (by rfl) (by rfl) (by kernel_rfl) (by kernel_rfl) ?_
 exact ⟨rfl, H.pick [1, 2, 3] 4 (by decide)⟩
theorem e_served_yes {w : World} {F : List Piece} {A : Piece} {rb ml mr mp n3 i lb lo lc : Nat} {ev cv : Value} {l : List Ev} {pa : Int → Option Nat} {kind g chan case_ value mate : Int} {send ok : Bool} (hA : EvA A lb lo l) (hll : l.length ≤ 2000) (he : l[i]? = some ⟨kind, g, chan, case_, value, mate, send, ok⟩) (hm0 : -1 ≤ mate ∧ mate ≤ 511) (hm : 0 ≤ mate ∧ i + 1 < l.length) (H : SL w (row rb #[.slice (some ⟨lb, lo, none⟩) l.length lc, ev, .map (some ml), .map (some mr), .map (some mp), cv] 75 :: MapP 3 mp n3 (mapI pa) :: A :: F)) :
  Calls Tryz.prog 113 #[.pointer (some ⟨rb, 0, none⟩), .int .i64 i] w fun o w' => o = .returned (.tuple #[.agg #[.int .i64 (((pa mate).getD 0 : Nat) : Int), .int .i64 ((i : Int) + 1)], .bool true]) ∧ SL w' (row rb #[.slice (some ⟨lb, lo, none⟩) l.length lc, ev, .map (some ml), .map (some mr), .map (some mp), cv] 75 :: MapP 3 mp n3 (mapI pa) :: A :: F) := by
 have hi : i < l.length := (List.getElem?_eq_some_iff.1 he).1
 refine calls_den (args := [_, _]) Tryz.func113 rfl (Nat.le_of_ble_eq_true (by kernel_rfl)) (by kernel_rfl) ?_
 refine ⟨Nw.as #[.int .i64 0, .int .i64 0] 131 rfl H fun b4 w H => ?_⟩
 refine ⟨H.ldi 1 rfl (v := .slice (some ⟨lb, lo, none⟩) l.length lc) rfl ?_⟩
 refine Ix.at i 8 (by kernel_rfl) (rfl) (hi) ?_
 refine H.ldE 3 rfl hA i 5 he (v := .int .i64 mate) rfl (BB.no (decide_eq_false (by omega)) (IW.by (wrap_id (n := ↑i + 1) (by omega) (by omega)) (H.ldi 1 rfl (v := .slice (some ⟨lb, lo, none⟩) l.length lc) rfl (BB.no (decide_eq_false (by omega)) (Cn.no ?_)))))
 refine ⟨Drw.oft (.calm 0 (.calm 1 (.calm 2 (.calm 3 (.calm 4 (.calm 5 (.calm 6 (.calm 7 (.calm 8 (.calm 9 (.calm 10 (.calm 11 (.calm 12 (.calm 13 (.calm 14 (.calm 15 (.act 16 true (.pure 17 .nil)))))))))))))))))) (by kernel_rfl) mixed (fun w => SL w _) H.drew ?_⟩
 replace H := H.drew
 refine LdC.i 1 rfl (v := .map (some mp)) rfl (LdC.i 1 rfl (v := .slice (some ⟨lb, lo, none⟩) l.length lc) rfl (Ix.at i 8 (by kernel_rfl) (rfl) (hi) ?_))
 refine LdC.E 3 rfl hA i 5 he (v := .int .i64 mate) rfl (MnC.lookV 2 rfl (.tmp 29) (.tmp 37) 72 3 (by rfl) (by kernel_rfl) (by kernel_rfl) (z := .int .i64 0) (fun _ => by kernel_rfl) mate (key_wf (by omega) (by omega)) (by rfl) (by rfl) (.int .i64 (↑((pa mate).getD 0))) (mapI_get _ _) ?_)
 refine IW.by (wrap_id (n := ↑i + 1) (by omega) (by omega)) (MnC.pure (.agg #[.int .i64 (↑((pa mate).getD 0)), .int .i64 (↑i + 1)]) (fun _ => by kernel_rfl) ?_)
 refine H.st0 (cs' := #[.int .i64 (↑((pa mate).getD 0)), .int .i64 0]) rfl rfl rfl fun w H => ?_
 refine H.st0 (cs' := #[.int .i64 (↑((pa mate).getD 0)), .int .i64 (↑i + 1)]) rfl rfl rfl fun w H => ?_
 refine ⟨.inl rfl, ?_⟩
 refine retCT H 0 rfl rfl (by rfl) (by rfl) (by kernel_rfl) (by kernel_rfl) ?_
 exact ⟨rfl, H.pick [1, 2, 3] 4 (by decide)⟩
theorem e_moves {w : World} {F : List Piece} {A : Piece} {rb ml mr mp n3 i k p lb lo lc : Nat} {ev cv : Value} {l : List Ev} {pa : Int → Option Nat} {cs : List ChE} {ps : List Nat} {c : ChE} {kind g chan case_ value mate : Int} {send ok : Bool} (hA : EvA A lb lo l) (hll : l.length ≤ 2000) (he : l[i]? = some ⟨kind, g, chan, case_, value, mate, send, ok⟩) (hm0 : -1 ≤ mate ∧ mate ≤ 511) (hk : chan = (k : Int)) (hp : ps[k]? = some p) (hc : cs[k]? = some c) (hio : c.ins.length ≤ 100000 ∧ c.outs.length ≤ 100000) (hko : kind = 3 ∨ (kind ≠ 3 ∧ ok = true))
  (H : SL w (row rb #[.slice (some ⟨lb, lo, none⟩) l.length lc, ev, .map (some ml), .map (some mr), .map (some mp), cv] 75 :: Slc 77 1 cv cs.length (ptrs ps) :: chsE ps cs :: MapP 3 mp n3 (mapI pa) :: A :: F)) :
  Calls Tryz.prog 68 #[.pointer (some ⟨rb, 0, none⟩), .int .i64 i] w fun o w' => o = .returned (.tuple #[]) ∧ SL w' (row rb #[.slice (some ⟨lb, lo, none⟩) l.length lc, ev, .map (some ml), .map (some mr), .map (some mp), cv] 75 :: Slc 77 1 cv cs.length (ptrs ps) :: chsE ps (cs.set k (movC c ⟨kind, g, chan, case_, value, mate, send, ok⟩ i (servE l pa i ⟨kind, g, chan, case_, value, mate, send, ok⟩))) :: MapP 3 mp n3 (mapI pa) :: A :: F) := by
 have hi : i < l.length := (List.getElem?_eq_some_iff.1 he).1
 have hkm : k < cs.length := (List.getElem?_eq_some_iff.1 hc).1
 obtain ⟨ca, cc, rfl⟩ := SL.slcForm H.up1
 obtain ⟨cb, rfl⟩ := SL.slcAddr H.up1 (by omega)
 replace H := H.pick [2, 0, 1, 3, 4] 5 (by decide)
 simp only [pk, nth, pkA, pkB, pkC, pkD, pkE, pkF] at H
 obtain ⟨u, v, H⟩ := chs_takeE hp hc H
 obtain ⟨ia, ic, rfl⟩ := SL.slcForm H.up1
 obtain ⟨oa, oc, rfl⟩ := SL.slcForm H.up2
 replace H := H.pick [4, 5, 0, 1, 2, 3, 6, 7] 8 (by decide)
 simp only [pk, nth, pkA, pkB, pkC, pkD, pkE, pkF] at H
 by_cases hm : 0 ≤ mate ∧ i + 1 < l.length
 ·rcases hko with h3 | ⟨h3, hok⟩
  ·refine calls_den (args := [_, _]) Tryz.func68 rfl (Nat.le_of_ble_eq_true (by kernel_rfl)) (by kernel_rfl) ?_
   refine ⟨H.ldi 0 rfl (v := .slice (some ⟨lb, lo, none⟩) l.length lc) rfl ?_⟩
   refine Ix.at i 8 (by kernel_rfl) (rfl) (hi) ?_
   refine H.ldEv 7 rfl hA i he (Nw.as #[.int .i64 0, .int .i64 0, .int .i64 0, .int .i64 0, .int .i64 0, .int .i64 0, .bool false, .bool false] 53 rfl H fun b4 w H => ?_)
   refine SL.stEv H rfl rfl fun w H => ?_
   refine ⟨Drw.of [(0, true), (1, true), (2, true), (3, true), (4, true), (5, true), (6, true), (7, true), (8, true)] (by kernel_rfl) mixed (fun w => SL w _) H.drew ?_⟩
   replace H := H.drew
   refine LdC.i 1 rfl (v := .slice (some ⟨cb, 0, none⟩) cs.length cc) rfl (LdC.i 0 rfl (v := .int .i64 chan) rfl (Ix.at0 k 1 (by kernel_rfl) (hk) (hkm) ?_))
   refine LdC.S 2 rfl (v := .pointer (some ⟨p, 0, none⟩)) (ptrs_at hp) (⟨Mn.pure (.agg #[.int .i64 ↑i, .int .i64 ↑i]) (by kernel_rfl) ?_⟩)
   refine Nw.as #[.int .i64 0, .int .i64 0] 131 rfl H fun b6 w H => ?_
   refine H.st0 (cs' := #[.int .i64 ↑i, .int .i64 0]) rfl rfl rfl fun w H => ?_
   refine H.st0 (cs' := #[.int .i64 ↑i, .int .i64 ↑i]) rfl rfl rfl fun w H => ?_
   refine ⟨?_⟩
   have h1 := H.pick [2, 8, 9, 0, 1, 3, 4, 5, 6, 7] 10 (by decide)
   simp only [pk, nth, pkA, pkB, pkC, pkD, pkE, pkF] at h1
   refine Cl.sl (by kernel_rfl) (e_served_yes hA hll he hm0 hm h1) fun w H => ?_
   replace H := H.pick [3, 4, 0, 5, 6, 7, 8, 9, 1, 2] 10 (by decide)
   simp only [pk, nth, pkA, pkB, pkC, pkD, pkE, pkF] at H
   refine Nw.as #[.int .i64 0, .int .i64 0] 131 rfl H fun b7 w H => ?_
   refine H.st0 (cs' := #[.int .i64 (↑((pa mate).getD 0)), .int .i64 0]) rfl rfl rfl fun w H => ?_
   refine H.st0 (cs' := #[.int .i64 (↑((pa mate).getD 0)), .int .i64 (↑i + 1)]) rfl rfl rfl fun w H => ?_
   refine ⟨⟨H.ldi 2 rfl (v := .int .i64 kind) rfl ?_⟩⟩
   refine BB.yes (beq_iff_eq.2 h3) (Cn.yes (⟨Drw.oft (.calm 0 (.calm 1 (.calm 2 (.calm 3 (.calm 4 (.calm 5 (.act 6 false (.act 7 false (.pure 8 (.pure 9 (.act 10 true .nil))))))))))) (by kernel_rfl) mixed (fun w => SL w _) (H.drew.pick [0, 1, 2, 3, 4, 5, 8, 9, 10] 11 (by decide)) ?_⟩))
   replace H := H.drew
   refine LdC.i 5 rfl (v := .slice ia c.ins.length ic) rfl (LdC.i 1 rfl (v := .int .i64 ↑i) rfl (LdC.i 1 rfl (v := .int .i64 ↑i) rfl (Mn.new (fun b => .slice (some ⟨b, 0, none⟩) 1 1) #[.int .i64 ↑i, .int .i64 ↑i] 131 (by kernel_rfl) H fun b43 w H => ?_)))
   refine ⟨.inr (H.pick [1, 2, 3, 4, 5, 6, 9, 10, 11] 12 (by decide)), ?_⟩
   refine SL.appS H.up7 (.tmp 41) (.tmp 43) 127 (.agg #[.int .i64 0, .int .i64 0]) 16 (by rfl) (by kernel_rfl) (by kernel_rfl) (by rfl) (by decide) (by rfl) (some ⟨b43, 0, none⟩) 1 1 [.int .i64 ↑i, .int .i64 ↑i] (by rfl) (H.rdRow 0 rfl (by rfl) (by decide)) (by rfl) (by omega) (by decide) (by decide) fun g1 c1 w H => ?_
   refine ⟨.inr (H.pick [2, 3, 4, 5, 6, 7, 9, 10, 11] 12 (by decide)), ?_⟩
   refine H.st7 (cs' := #[.int .i64 ↑c.size, .slice (some ⟨g1, 0, none⟩) (c.ins.length + 1) c1, .slice oa c.outs.length oc, .int .i64 ↑c.closed]) rfl rfl rfl fun w H => ?_
   refine ⟨.inl rfl, ?_⟩
   refine ⟨Cn.yes ?_⟩
   refine ⟨Drw.oft (.calm 0 (.calm 1 (.calm 2 (.calm 3 (.calm 4 (.calm 5 (.act 6 false (.act 7 false (.pure 8 (.pure 9 (.act 10 true .nil))))))))))) (by kernel_rfl) mixed (fun w => SL w _) (H.drew.pick [1, 2, 3, 4, 5, 6, 7, 9, 10, 11] 12 (by decide)) ?_⟩
   replace H := H.drew
   refine LdC.i 6 rfl (v := .slice oa c.outs.length oc) rfl (LdC.i 1 rfl (v := .int .i64 (↑((pa mate).getD 0))) rfl (LdC.i 1 rfl (v := .int .i64 (↑i + 1)) rfl (Mn.new (fun b => .slice (some ⟨b, 0, none⟩) 1 1) #[.int .i64 (↑((pa mate).getD 0)), .int .i64 (↑i + 1)] 131 (by kernel_rfl) H fun b54 w H => ?_)))
   refine ⟨.inr (H.pick [2, 3, 4, 5, 6, 7, 8, 10, 11, 12] 13 (by decide)), ?_⟩
   refine SL.appS H.up9 (.tmp 52) (.tmp 54) 127 (.agg #[.int .i64 0, .int .i64 0]) 16 (by rfl) (by kernel_rfl) (by kernel_rfl) (by rfl) (by decide) (by rfl) (some ⟨b54, 0, none⟩) 1 1 [.int .i64 (↑((pa mate).getD 0)), .int .i64 (↑i + 1)] (by rfl) (H.rdRow 0 rfl (by rfl) (by decide)) (by rfl) (by omega) (by decide) (by decide) fun g2 c2 w H => ?_
   refine ⟨.inr (H.pick [3, 4, 5, 6, 7, 8, 9, 10, 11, 12] 13 (by decide)), ?_⟩
   refine H.st9 (cs' := #[.int .i64 ↑c.size, .slice (some ⟨g1, 0, none⟩) (c.ins.length + 1) c1, .slice (some ⟨g2, 0, none⟩) (c.outs.length + 1) c2, .int .i64 ↑c.closed]) rfl rfl rfl fun w H => ?_
   refine ⟨.inl rfl, ?_⟩
   refine ret0 rfl ?_
   have q := H.pick [2, 0, 9, 10, 7, 8, 11, 12] 13 (by decide)
   simp only [pk, nth, pkA, pkB, pkC, pkD, pkE, pkF] at q
   replace q := slc_pair (L := c.ins) (a := i) (b := i) rfl q
   replace q := (slc_pair (L := c.outs) (a := (pa mate).getD 0) (b := i + 1) rfl q.up1).dn1
   have q2 := chs_putE hp hc (y := ⟨c.size, (c.ins ++ [(i, i)]), (c.outs ++ [((pa mate).getD 0, i + 1)]), c.closed⟩) (q.pick [2, 0, 1, 3, 4, 5, 6, 7] 8 (by decide))
   have hmv : movC c ⟨kind, g, chan, case_, value, mate, send, ok⟩ i (servE l pa i ⟨kind, g, chan, case_, value, mate, send, ok⟩) = ⟨c.size, (c.ins ++ [(i, i)]), (c.outs ++ [((pa mate).getD 0, i + 1)]), c.closed⟩ := by
    unfold movC servE
    dsimp only
    rw [if_pos h3]
    rw [if_neg (by omega)]; rfl
   rw [hmv]
   have q3 := q2.pick [1, 2, 0, 3, 4] 5 (by decide)
   simp only [pk, nth, pkA, pkB, pkC, pkD, pkE, pkF] at q3
   exact ⟨rfl, q3⟩
  ·subst hok
   refine calls_den (args := [_, _]) Tryz.func68 rfl (Nat.le_of_ble_eq_true (by kernel_rfl)) (by kernel_rfl) ?_
   refine ⟨H.ldi 0 rfl (v := .slice (some ⟨lb, lo, none⟩) l.length lc) rfl ?_⟩
   refine Ix.at i 8 (by kernel_rfl) (rfl) (hi) ?_
   refine H.ldEv 7 rfl hA i he (Nw.as #[.int .i64 0, .int .i64 0, .int .i64 0, .int .i64 0, .int .i64 0, .int .i64 0, .bool false, .bool false] 53 rfl H fun b4 w H => ?_)
   refine SL.stEv H rfl rfl fun w H => ?_
   refine ⟨Drw.of [(0, true), (1, true), (2, true), (3, true), (4, true), (5, true), (6, true), (7, true), (8, true)] (by kernel_rfl) mixed (fun w => SL w _) H.drew ?_⟩
   replace H := H.drew
   refine LdC.i 1 rfl (v := .slice (some ⟨cb, 0, none⟩) cs.length cc) rfl (LdC.i 0 rfl (v := .int .i64 chan) rfl (Ix.at0 k 1 (by kernel_rfl) (hk) (hkm) ?_))
   refine LdC.S 2 rfl (v := .pointer (some ⟨p, 0, none⟩)) (ptrs_at hp) (⟨Mn.pure (.agg #[.int .i64 ↑i, .int .i64 ↑i]) (by kernel_rfl) ?_⟩)
   refine Nw.as #[.int .i64 0, .int .i64 0] 131 rfl H fun b6 w H => ?_
   refine H.st0 (cs' := #[.int .i64 ↑i, .int .i64 0]) rfl rfl rfl fun w H => ?_
   refine H.st0 (cs' := #[.int .i64 ↑i, .int .i64 ↑i]) rfl rfl rfl fun w H => ?_
   refine ⟨?_⟩
   have h1 := H.pick [2, 8, 9, 0, 1, 3, 4, 5, 6, 7] 10 (by decide)
   simp only [pk, nth, pkA, pkB, pkC, pkD, pkE, pkF] at h1
   refine Cl.sl (by kernel_rfl) (e_served_yes hA hll he hm0 hm h1) fun w H => ?_
   replace H := H.pick [3, 4, 0, 5, 6, 7, 8, 9, 1, 2] 10 (by decide)
   simp only [pk, nth, pkA, pkB, pkC, pkD, pkE, pkF] at H
   refine Nw.as #[.int .i64 0, .int .i64 0] 131 rfl H fun b7 w H => ?_
   refine H.st0 (cs' := #[.int .i64 (↑((pa mate).getD 0)), .int .i64 0]) rfl rfl rfl fun w H => ?_
   refine H.st0 (cs' := #[.int .i64 (↑((pa mate).getD 0)), .int .i64 (↑i + 1)]) rfl rfl rfl fun w H => ?_
   refine ⟨⟨H.ldi 2 rfl (v := .int .i64 kind) rfl ?_⟩⟩
   refine BB.no (beq_eq_false_iff_ne.2 h3) (Cn.no (⟨H.ldi 2 rfl (v := .bool true) rfl ?_⟩))
   refine BB.yes rfl (Cn.yes (⟨Drw.oft (.calm 0 (.calm 1 (.calm 2 (.calm 3 (.calm 4 (.calm 5 (.act 6 false (.act 7 false (.pure 8 (.pure 9 (.act 10 true .nil))))))))))) (by kernel_rfl) mixed (fun w => SL w _) (H.drew.pick [0, 1, 2, 3, 4, 5, 8, 9, 10] 11 (by decide)) ?_⟩))
   replace H := H.drew
   refine LdC.i 5 rfl (v := .slice oa c.outs.length oc) rfl (LdC.i 1 rfl (v := .int .i64 ↑i) rfl (LdC.i 1 rfl (v := .int .i64 ↑i) rfl (Mn.new (fun b => .slice (some ⟨b, 0, none⟩) 1 1) #[.int .i64 ↑i, .int .i64 ↑i] 131 (by kernel_rfl) H fun b67 w H => ?_)))
   refine ⟨.inr (H.pick [1, 2, 3, 4, 5, 6, 9, 10, 11] 12 (by decide)), ?_⟩
   refine SL.appS H.up8 (.tmp 65) (.tmp 67) 127 (.agg #[.int .i64 0, .int .i64 0]) 16 (by rfl) (by kernel_rfl) (by kernel_rfl) (by rfl) (by decide) (by rfl) (some ⟨b67, 0, none⟩) 1 1 [.int .i64 ↑i, .int .i64 ↑i] (by rfl) (H.rdRow 0 rfl (by rfl) (by decide)) (by rfl) (by omega) (by decide) (by decide) fun g1 c1 w H => ?_
   refine ⟨.inr (H.pick [2, 3, 4, 5, 6, 7, 9, 10, 11] 12 (by decide)), ?_⟩
   refine H.st7 (cs' := #[.int .i64 ↑c.size, .slice ia c.ins.length ic, .slice (some ⟨g1, 0, none⟩) (c.outs.length + 1) c1, .int .i64 ↑c.closed]) rfl rfl rfl fun w H => ?_
   refine ⟨.inl rfl, ?_⟩
   refine ⟨Cn.yes ?_⟩
   refine ⟨Drw.oft (.calm 0 (.calm 1 (.calm 2 (.calm 3 (.calm 4 (.calm 5 (.act 6 false (.act 7 false (.pure 8 (.pure 9 (.act 10 true .nil))))))))))) (by kernel_rfl) mixed (fun w => SL w _) (H.drew.pick [1, 2, 3, 4, 5, 6, 7, 9, 10, 11] 12 (by decide)) ?_⟩
   replace H := H.drew
   refine LdC.i 6 rfl (v := .slice ia c.ins.length ic) rfl (LdC.i 1 rfl (v := .int .i64 (↑((pa mate).getD 0))) rfl (LdC.i 1 rfl (v := .int .i64 (↑i + 1)) rfl (Mn.new (fun b => .slice (some ⟨b, 0, none⟩) 1 1) #[.int .i64 (↑((pa mate).getD 0)), .int .i64 (↑i + 1)] 131 (by kernel_rfl) H fun b78 w H => ?_)))
   refine ⟨.inr (H.pick [2, 3, 4, 5, 6, 7, 8, 10, 11, 12] 13 (by decide)), ?_⟩
   refine SL.appS H.up9 (.tmp 76) (.tmp 78) 127 (.agg #[.int .i64 0, .int .i64 0]) 16 (by rfl) (by kernel_rfl) (by kernel_rfl) (by rfl) (by decide) (by rfl) (some ⟨b78, 0, none⟩) 1 1 [.int .i64 (↑((pa mate).getD 0)), .int .i64 (↑i + 1)] (by rfl) (H.rdRow 0 rfl (by rfl) (by decide)) (by rfl) (by omega) (by decide) (by decide) fun g2 c2 w H => ?_
   refine ⟨.inr (H.pick [3, 4, 5, 6, 7, 8, 9, 10, 11, 12] 13 (by decide)), ?_⟩
   refine H.st9 (cs' := #[.int .i64 ↑c.size, .slice (some ⟨g2, 0, none⟩) (c.ins.length + 1) c2, .slice (some ⟨g1, 0, none⟩) (c.outs.length + 1) c1, .int .i64 ↑c.closed]) rfl rfl rfl fun w H => ?_
   refine ⟨.inl rfl, ?_⟩
   refine ret0 rfl ?_
   have q := H.pick [0, 2, 9, 10, 7, 8, 11, 12] 13 (by decide)
   simp only [pk, nth, pkA, pkB, pkC, pkD, pkE, pkF] at q
   replace q := slc_pair (L := c.ins) (a := (pa mate).getD 0) (b := i + 1) rfl q
   replace q := (slc_pair (L := c.outs) (a := i) (b := i) rfl q.up1).dn1
   have q2 := chs_putE hp hc (y := ⟨c.size, (c.ins ++ [((pa mate).getD 0, i + 1)]), (c.outs ++ [(i, i)]), c.closed⟩) (q.pick [2, 0, 1, 3, 4, 5, 6, 7] 8 (by decide))
   have hmv : movC c ⟨kind, g, chan, case_, value, mate, send, true⟩ i (servE l pa i ⟨kind, g, chan, case_, value, mate, send, true⟩) = ⟨c.size, (c.ins ++ [((pa mate).getD 0, i + 1)]), (c.outs ++ [(i, i)]), c.closed⟩ := by
    unfold movC servE
    dsimp only
    rw [if_neg h3, if_pos rfl]
    rw [if_neg (by omega)]; rfl
   rw [hmv]
   have q3 := q2.pick [1, 2, 0, 3, 4] 5 (by decide)
   simp only [pk, nth, pkA, pkB, pkC, pkD, pkE, pkF] at q3
   exact ⟨rfl, q3⟩
 ·replace hm : mate < 0 ∨ l.length ≤ i + 1 := by omega
  rcases hko with h3 | ⟨h3, hok⟩
  ·refine calls_den (args := [_, _]) Tryz.func68 rfl (Nat.le_of_ble_eq_true (by kernel_rfl)) (by kernel_rfl) ?_
   refine ⟨H.ldi 0 rfl (v := .slice (some ⟨lb, lo, none⟩) l.length lc) rfl ?_⟩
   refine Ix.at i 8 (by kernel_rfl) (rfl) (hi) ?_
   refine H.ldEv 7 rfl hA i he (Nw.as #[.int .i64 0, .int .i64 0, .int .i64 0, .int .i64 0, .int .i64 0, .int .i64 0, .bool false, .bool false] 53 rfl H fun b4 w H => ?_)
   refine SL.stEv H rfl rfl fun w H => ?_
   refine ⟨Drw.of [(0, true), (1, true), (2, true), (3, true), (4, true), (5, true), (6, true), (7, true), (8, true)] (by kernel_rfl) mixed (fun w => SL w _) H.drew ?_⟩
   replace H := H.drew
   refine LdC.i 1 rfl (v := .slice (some ⟨cb, 0, none⟩) cs.length cc) rfl (LdC.i 0 rfl (v := .int .i64 chan) rfl (Ix.at0 k 1 (by kernel_rfl) (hk) (hkm) ?_))
   refine LdC.S 2 rfl (v := .pointer (some ⟨p, 0, none⟩)) (ptrs_at hp) (⟨Mn.pure (.agg #[.int .i64 ↑i, .int .i64 ↑i]) (by kernel_rfl) ?_⟩)
   refine Nw.as #[.int .i64 0, .int .i64 0] 131 rfl H fun b6 w H => ?_
   refine H.st0 (cs' := #[.int .i64 ↑i, .int .i64 0]) rfl rfl rfl fun w H => ?_
   refine H.st0 (cs' := #[.int .i64 ↑i, .int .i64 ↑i]) rfl rfl rfl fun w H => ?_
   refine ⟨?_⟩
   have h1 := H.pick [2, 8, 9, 0, 1, 3, 4, 5, 6, 7] 10 (by decide)
   simp only [pk, nth, pkA, pkB, pkC, pkD, pkE, pkF] at h1
   refine Cl.sl (by kernel_rfl) (e_served_no hA hll he hm0 hm h1) fun w H => ?_
   replace H := H.pick [3, 4, 0, 5, 6, 7, 8, 9, 1, 2] 10 (by decide)
   simp only [pk, nth, pkA, pkB, pkC, pkD, pkE, pkF] at H
   refine Nw.as #[.int .i64 0, .int .i64 0] 131 rfl H fun b7 w H => ?_
   refine H.st0 (cs' := #[.int .i64 0, .int .i64 0]) rfl rfl rfl fun w H => ?_
   refine H.st0 (cs' := #[.int .i64 0, .int .i64 0]) rfl rfl rfl fun w H => ?_
   refine ⟨⟨H.ldi 2 rfl (v := .int .i64 kind) rfl ?_⟩⟩
   refine BB.yes (beq_iff_eq.2 h3) (Cn.yes (⟨Drw.oft (.calm 0 (.calm 1 (.calm 2 (.calm 3 (.calm 4 (.calm 5 (.act 6 false (.act 7 false (.pure 8 (.pure 9 (.act 10 true .nil))))))))))) (by kernel_rfl) mixed (fun w => SL w _) (H.drew.pick [0, 1, 2, 3, 4, 5, 8, 9, 10] 11 (by decide)) ?_⟩))
   replace H := H.drew
   refine LdC.i 5 rfl (v := .slice ia c.ins.length ic) rfl (LdC.i 1 rfl (v := .int .i64 ↑i) rfl (LdC.i 1 rfl (v := .int .i64 ↑i) rfl (Mn.new (fun b => .slice (some ⟨b, 0, none⟩) 1 1) #[.int .i64 ↑i, .int .i64 ↑i] 131 (by kernel_rfl) H fun b43 w H => ?_)))
   refine ⟨.inr (H.pick [1, 2, 3, 4, 5, 6, 9, 10, 11] 12 (by decide)), ?_⟩
   refine SL.appS H.up7 (.tmp 41) (.tmp 43) 127 (.agg #[.int .i64 0, .int .i64 0]) 16 (by rfl) (by kernel_rfl) (by kernel_rfl) (by rfl) (by decide) (by rfl) (some ⟨b43, 0, none⟩) 1 1 [.int .i64 ↑i, .int .i64 ↑i] (by rfl) (H.rdRow 0 rfl (by rfl) (by decide)) (by rfl) (by omega) (by decide) (by decide) fun g1 c1 w H => ?_
   refine ⟨.inr (H.pick [2, 3, 4, 5, 6, 7, 9, 10, 11] 12 (by decide)), ?_⟩
   refine H.st7 (cs' := #[.int .i64 ↑c.size, .slice (some ⟨g1, 0, none⟩) (c.ins.length + 1) c1, .slice oa c.outs.length oc, .int .i64 ↑c.closed]) rfl rfl rfl fun w H => ?_
   refine ⟨.inl rfl, ?_⟩
   refine ⟨Cn.no ?_⟩
   refine ret0 rfl ?_
   have q := H.pick [0, 8, 7, 9, 5, 6, 10, 11] 12 (by decide)
   simp only [pk, nth, pkA, pkB, pkC, pkD, pkE, pkF] at q
   replace q := slc_pair (L := c.ins) (a := i) (b := i) rfl q
   have q2 := chs_putE hp hc (y := ⟨c.size, (c.ins ++ [(i, i)]), c.outs, c.closed⟩) (q.pick [2, 0, 1, 3, 4, 5, 6, 7] 8 (by decide))
   have hmv : movC c ⟨kind, g, chan, case_, value, mate, send, ok⟩ i (servE l pa i ⟨kind, g, chan, case_, value, mate, send, ok⟩) = ⟨c.size, (c.ins ++ [(i, i)]), c.outs, c.closed⟩ := by
    unfold movC servE
    dsimp only
    rw [if_pos h3]
    rw [if_pos (by omega)]; simp
   rw [hmv]
   have q3 := q2.pick [1, 2, 0, 3, 4] 5 (by decide)
   simp only [pk, nth, pkA, pkB, pkC, pkD, pkE, pkF] at q3
   exact ⟨rfl, q3⟩
  ·subst hok
   refine calls_den (args := [_, _]) Tryz.func68 rfl (Nat.le_of_ble_eq_true (by kernel_rfl)) (by kernel_rfl) ?_
   refine ⟨H.ldi 0 rfl (v := .slice (some ⟨lb, lo, none⟩) l.length lc) rfl ?_⟩
   refine Ix.at i 8 (by kernel_rfl) (rfl) (hi) ?_
   refine H.ldEv 7 rfl hA i he (Nw.as #[.int .i64 0, .int .i64 0, .int .i64 0, .int .i64 0, .int .i64 0, .int .i64 0, .bool false, .bool false] 53 rfl H fun b4 w H => ?_)
   refine SL.stEv H rfl rfl fun w H => ?_
   refine ⟨Drw.of [(0, true), (1, true), (2, true), (3, true), (4, true), (5, true), (6, true), (7, true), (8, true)] (by kernel_rfl) mixed (fun w => SL w _) H.drew ?_⟩
   replace H := H.drew
   refine LdC.i 1 rfl (v := .slice (some ⟨cb, 0, none⟩) cs.length cc) rfl (LdC.i 0 rfl (v := .int .i64 chan) rfl (Ix.at0 k 1 (by kernel_rfl) (hk) (hkm) ?_))
   refine LdC.S 2 rfl (v := .pointer (some ⟨p, 0, none⟩)) (ptrs_at hp) (⟨Mn.pure (.agg #[.int .i64 ↑i, .int .i64 ↑i]) (by kernel_rfl) ?_⟩)
   refine Nw.as #[.int .i64 0, .int .i64 0] 131 rfl H fun b6 w H => ?_
   refine H.st0 (cs' := #[.int .i64 ↑i, .int .i64 0]) rfl rfl rfl fun w H => ?_
   refine H.st0 (cs' := #[.int .i64 ↑i, .int .i64 ↑i]) rfl rfl rfl fun w H => ?_
   refine ⟨?_⟩
   have h1 := H.pick [2, 8, 9, 0, 1, 3, 4, 5, 6, 7] 10 (by decide)
   simp only [pk, nth, pkA, pkB, pkC, pkD, pkE, pkF] at h1
   refine Cl.sl (by kernel_rfl) (e_served_no hA hll he hm0 hm h1) fun w H => ?_
   replace H := H.pick [3, 4, 0, 5, 6, 7, 8, 9, 1, 2] 10 (by decide)
   simp only [pk, nth, pkA, pkB, pkC, pkD, pkE, pkF] at H
   refine Nw.as #[.int .i64 0, .int .i64 0] 131 rfl H fun b7 w H => ?_
   refine H.st0 (cs' := #[.int .i64 0, .int .i64 0]) rfl rfl rfl fun w H => ?_
   refine H.st0 (cs' := #[.int .i64 0, .int .i64 0]) rfl rfl rfl fun w H => ?_
   refine ⟨⟨H.ldi 2 rfl (v := .int .i64 kind) rfl ?_⟩⟩
   refine BB.no (beq_eq_false_iff_ne.2 h3) (Cn.no (⟨H.ldi 2 rfl (v := .bool true) rfl ?_⟩))
   refine BB.yes rfl (Cn.yes (⟨Drw.oft (.calm 0 (.calm 1 (.calm 2 (.calm 3 (.calm 4 (.calm 5 (.act 6 false (.act 7 false (.pure 8 (.pure 9 (.act 10 true .nil))))))))))) (by kernel_rfl) mixed (fun w => SL w _) (H.drew.pick [0, 1, 2, 3, 4, 5, 8, 9, 10] 11 (by decide)) ?_⟩))
   replace H := H.drew
   refine LdC.i 5 rfl (v := .slice oa c.outs.length oc) rfl (LdC.i 1 rfl (v := .int .i64 ↑i) rfl (LdC.i 1 rfl (v := .int .i64 ↑i) rfl (Mn.new (fun b => .slice (some ⟨b, 0, none⟩) 1 1) #[.int .i64 ↑i, .int .i64 ↑i] 131 (by kernel_rfl) H fun b67 w H => ?_)))
   refine ⟨.inr (H.pick [1, 2, 3, 4, 5, 6, 9, 10, 11] 12 (by decide)), ?_⟩
   refine SL.appS H.up8 (.tmp 65) (.tmp 67) 127 (.agg #[.int .i64 0, .int .i64 0]) 16 (by rfl) (by kernel_rfl) (by kernel_rfl) (by rfl) (by decide) (by rfl) (some ⟨b67, 0, none⟩) 1 1 [.int .i64 ↑i, .int .i64 ↑i] (by rfl) (H.rdRow 0 rfl (by rfl) (by decide)) (by rfl) (by omega) (by decide) (by decide) fun g1 c1 w H => ?_
   refine ⟨.inr (H.pick [2, 3, 4, 5, 6, 7, 9, 10, 11] 12 (by decide)), ?_⟩
   refine H.st7 (cs' := #[.int .i64 ↑c.size, .slice ia c.ins.length ic, .slice (some ⟨g1, 0, none⟩) (c.outs.length + 1) c1, .int .i64 ↑c.closed]) rfl rfl rfl fun w H => ?_
   refine ⟨.inl rfl, ?_⟩
   refine ⟨Cn.no ?_⟩
   refine ret0 rfl ?_
   have q := H.pick [8, 0, 7, 9, 5, 6, 10, 11] 12 (by decide)
   simp only [pk, nth, pkA, pkB, pkC, pkD, pkE, pkF] at q
   replace q := (slc_pair (L := c.outs) (a := i) (b := i) rfl q.up1).dn1
   have q2 := chs_putE hp hc (y := ⟨c.size, c.ins, (c.outs ++ [(i, i)]), c.closed⟩) (q.pick [2, 0, 1, 3, 4, 5, 6, 7] 8 (by decide))
   have hmv : movC c ⟨kind, g, chan, case_, value, mate, send, true⟩ i (servE l pa i ⟨kind, g, chan, case_, value, mate, send, true⟩) = ⟨c.size, c.ins, (c.outs ++ [(i, i)]), c.closed⟩ := by
    unfold movC servE
    dsimp only
    rw [if_neg h3, if_pos rfl]
    rw [if_pos (by omega)]; simp
   rw [hmv]
   have q3 := q2.pick [1, 2, 0, 3, 4] 5 (by decide)
   simp only [pk, nth, pkA, pkB, pkC, pkD, pkE, pkF] at q3
   exact ⟨rfl, q3⟩
end Go.Proofs.YtoamjodmidbmbaaGreatDoor
