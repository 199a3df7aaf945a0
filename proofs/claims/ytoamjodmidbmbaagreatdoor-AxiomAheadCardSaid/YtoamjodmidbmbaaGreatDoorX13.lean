/- Texts of the proof. -/
import Derived.Test.YtoamjodmidbmbaaGreatDoorX12
set_option linter.unusedVariables false
set_option linter.unusedSimpArgs false
namespace Go.Proofs.YtoamjodmidbmbaaGreatDoor
open Go.RowKit
set_option maxRecDepth 100000
theorem e_edge {w : World} {F : List Piece} {rb ml mr mp : Nat} {lv ev cv : Value} {es : List Edg} (f t r : Nat) (hes : es.length ≤ 100000000) (H : SL w (row rb #[lv, ev, .map (some ml), .map (some mr), .map (some mp), cv] 75 :: Slc 70 3 ev es.length (es.flatMap Edg.cells) :: F)) :
  Calls Tryz.prog 67 #[.pointer (some ⟨rb, 0, none⟩), .int .i64 f, .int .i64 t, .int .i64 r] w fun o w' => o = .returned (.tuple #[]) ∧ ∃ ev', SL w' (row rb #[lv, ev', .map (some ml), .map (some mr), .map (some mp), cv] 75 :: Slc 70 3 ev' (putL es f t r).length ((putL es f t r).flatMap Edg.cells) :: F) := by
 obtain ⟨ea, ec, rfl⟩ := SL.slcForm H.up1
 refine calls_d (args := [_, _, _, _]) Tryz.func67 rfl ?_
 refine ⟨BB.vr fun q1 e1 => ?_⟩
 cases q1
 ·have h1 := of_decide_eq_false e1
  refine Cn.no (ret0 rfl ?_)
  have q := H
  rw [show es = putL es f t r by unfold putL; rw [if_neg (by omega)]] at q
  exact ⟨rfl, _, q⟩
 have h1 := of_decide_eq_true e1
 refine Cn.yes (⟨H.ldi 0 rfl (v := .slice ea es.length ec) rfl ?_⟩)
 refine Mn.pure (.agg #[.int .i64 ↑f, .int .i64 ↑t, .int .i64 ↑r]) (by kernel_rfl) ?_
 refine Mn.new (fun b => .slice (some ⟨b, 0, none⟩) 1 1) #[.int .i64 ↑f, .int .i64 ↑t, .int .i64 ↑r] 70 (by kernel_rfl) H fun b20 w H => ?_
 refine SL.appS H.up2 (.tmp 15) (.tmp 20) 24 (.agg #[.int .i64 0, .int .i64 0, .int .i64 0]) 24 (by rfl) (by kernel_rfl) (by kernel_rfl) (by rfl) (by decide) (by rfl) (some ⟨b20, 0, none⟩) 1 1 [.int .i64 ↑f, .int .i64 ↑t, .int .i64 ↑r] (by rfl) (H.rdRow 0 rfl (by rfl) (by decide)) (by rfl) (by omega) (by decide) (by decide) fun g2 c2 w H => ?_
 refine H.st2 (cs' := #[lv, .slice (some ⟨g2, 0, none⟩) (es.length + 1) c2, .map (some ml), .map (some mr), .map (some mp), cv]) rfl rfl rfl fun w H => ?_
 refine ret0 rfl ?_
 have q := H.pi [2, 0] 3
 simp only [pl, nth, drL] at q
 rw [show es.flatMap Edg.cells ++ [.int .i64 ↑f, .int .i64 ↑t, .int .i64 ↑r] = (putL es f t r).flatMap Edg.cells by unfold putL; rw [if_pos (by omega), List.flatMap_append]; rfl, show es.length + 1 = (putL es f t r).length by unfold putL; rw [if_pos (by omega), List.length_append]; rfl] at q
 exact ⟨rfl, _, q⟩
theorem e_served_no {w : World} {F : List Piece} {A : Piece} {rb ml mr mp n3 i lb lo lc : Nat} {ev cv : Value} {l : List Ev} {pa : Int → Option Nat} {kind g chan case_ value mate : Int} {send ok : Bool} (hA : EvA A lb lo l) (hll : l.length ≤ 2000) (he : l[i]? = some ⟨kind, g, chan, case_, value, mate, send, ok⟩) (hm0 : -1 ≤ mate ∧ mate ≤ 511) (hm : mate < 0 ∨ l.length ≤ i + 1) (H : SL w (row rb #[.slice (some ⟨lb, lo, none⟩) l.length lc, ev, .map (some ml), .map (some mr), .map (some mp), cv] 75 :: MapP 3 mp n3 (mapI pa) :: A :: F)) :
  Calls Tryz.prog 113 #[.pointer (some ⟨rb, 0, none⟩), .int .i64 i] w fun o w' => o = .returned (.tuple #[.agg #[.int .i64 0, .int .i64 0], .bool false]) ∧ SL w' (row rb #[.slice (some ⟨lb, lo, none⟩) l.length lc, ev, .map (some ml), .map (some mr), .map (some mp), cv] 75 :: MapP 3 mp n3 (mapI pa) :: A :: F) := by
 have hi : i < l.length := (List.getElem?_eq_some_iff.1 he).1
 refine calls_d (args := [_, _]) Tryz.func113 rfl ?_
 refine ⟨Nw.as #[.int .i64 0, .int .i64 0] 131 rfl H fun b4 w H => ?_⟩
 refine ⟨H.ldi 1 rfl (v := .slice (some ⟨lb, lo, none⟩) l.length lc) rfl ?_⟩
 refine Ix.at i 8 (by kernel_rfl) (rfl) (hi) ?_
 refine H.ldE 3 rfl hA i 5 he (v := .int .i64 mate) rfl (BB.vr fun q1 e1 => ?_)
 cases q1
 ·have h1 := of_decide_eq_false e1
  refine IW.i i (H.ldi 1 rfl (v := .slice (some ⟨lb, lo, none⟩) l.length lc) rfl (BB.yd (Cn.yes (⟨Mn.pure (.agg #[.int .i64 0, .int .i64 0]) (by kernel_rfl) ?_⟩))))
  refine H.st0 (cs' := #[.int .i64 0, .int .i64 0]) rfl rfl rfl fun w H => ?_
  refine H.st0 (cs' := #[.int .i64 0, .int .i64 0]) rfl rfl rfl fun w H => ?_
  refine retCT H 0 rfl rfl (by rfl) (by rfl) (by kernel_rfl) (by kernel_rfl) ?_
  exact ⟨rfl, H.pi [1, 2, 3] 4⟩
 have h1 := of_decide_eq_true e1
 refine Cn.yes (⟨Mn.pure (.agg #[.int .i64 0, .int .i64 0]) (by kernel_rfl) ?_⟩)
 refine H.st0 (cs' := #[.int .i64 0, .int .i64 0]) rfl rfl rfl fun w H => ?_
 refine H.st0 (cs' := #[.int .i64 0, .int .i64 0]) rfl rfl rfl fun w H => ?_
 refine retCT H 0 rfl rfl (by rfl) (by rfl) (by kernel_rfl) (by kernel_rfl) ?_
 exact ⟨rfl, H.pi [1, 2, 3] 4⟩
theorem e_served_yes {w : World} {F : List Piece} {A : Piece} {rb ml mr mp n3 i lb lo lc : Nat} {ev cv : Value} {l : List Ev} {pa : Int → Option Nat} {kind g chan case_ value mate : Int} {send ok : Bool} (hA : EvA A lb lo l) (hll : l.length ≤ 2000) (he : l[i]? = some ⟨kind, g, chan, case_, value, mate, send, ok⟩) (hm0 : -1 ≤ mate ∧ mate ≤ 511) (hm : 0 ≤ mate ∧ i + 1 < l.length) (H : SL w (row rb #[.slice (some ⟨lb, lo, none⟩) l.length lc, ev, .map (some ml), .map (some mr), .map (some mp), cv] 75 :: MapP 3 mp n3 (mapI pa) :: A :: F)) :
  Calls Tryz.prog 113 #[.pointer (some ⟨rb, 0, none⟩), .int .i64 i] w fun o w' => o = .returned (.tuple #[.agg #[.int .i64 (((pa mate).getD 0 : Nat) : Int), .int .i64 ((i : Int) + 1)], .bool true]) ∧ SL w' (row rb #[.slice (some ⟨lb, lo, none⟩) l.length lc, ev, .map (some ml), .map (some mr), .map (some mp), cv] 75 :: MapP 3 mp n3 (mapI pa) :: A :: F) := by
 have hi : i < l.length := (List.getElem?_eq_some_iff.1 he).1
 refine calls_d (args := [_, _]) Tryz.func113 rfl ?_
 refine ⟨Nw.as #[.int .i64 0, .int .i64 0] 131 rfl H fun b4 w H => ?_⟩
 refine ⟨H.ldi 1 rfl (v := .slice (some ⟨lb, lo, none⟩) l.length lc) rfl ?_⟩
 refine Ix.at i 8 (by kernel_rfl) (rfl) (hi) ?_
 refine H.ldE 3 rfl hA i 5 he (v := .int .i64 mate) rfl (BB.nd (IW.i i (H.ldi 1 rfl (v := .slice (some ⟨lb, lo, none⟩) l.length lc) rfl (BB.nd (Cn.no (⟨Drw.oft (.calm 0 (.calm 1 (.calm 2 (.calm 3 (.calm 4 (.calm 5 (.calm 6 (.calm 7 (.calm 8 (.calm 9 (.calm 10 (.calm 11 (.calm 12 (.calm 13 (.calm 14 (.calm 15 (.act 16 true (.pure 17 .nil)))))))))))))))))) (by kernel_rfl) mixed (fun w => SL w _) H.drew ?_⟩))))))
 replace H := H.drew
 refine LdC.i 1 rfl (v := .map (some mp)) rfl (LdC.i 1 rfl (v := .slice (some ⟨lb, lo, none⟩) l.length lc) rfl (Ix.at i 8 (by kernel_rfl) (rfl) (hi) ?_))
 refine LdC.E 3 rfl hA i 5 he (v := .int .i64 mate) rfl (MnC.lookV 2 rfl (.tmp 29) (.tmp 37) 72 3 (by rfl) (by kernel_rfl) (by kernel_rfl) (z := .int .i64 0) (fun _ => by kernel_rfl) mate (key_wf (by omega) (by omega)) (by rfl) (by rfl) (.int .i64 (↑((pa mate).getD 0))) (mapI_get _ _) ?_)
 refine IW.i i (MnC.pure (.agg #[.int .i64 (↑((pa mate).getD 0)), .int .i64 (↑i + 1)]) (fun _ => by kernel_rfl) ?_)
 refine H.st0 (cs' := #[.int .i64 (↑((pa mate).getD 0)), .int .i64 0]) rfl rfl rfl fun w H => ?_
 refine H.st0 (cs' := #[.int .i64 (↑((pa mate).getD 0)), .int .i64 (↑i + 1)]) rfl rfl rfl fun w H => ?_
 refine ⟨.inl rfl, ?_⟩
 refine retCT H 0 rfl rfl (by rfl) (by rfl) (by kernel_rfl) (by kernel_rfl) ?_
 exact ⟨rfl, H.pi [1, 2, 3] 4⟩
theorem e_moves {w : World} {F : List Piece} {A : Piece} {rb ml mr mp n3 i k p lb lo lc : Nat} {ev cv : Value} {l : List Ev} {pa : Int → Option Nat} {cs : List ChE} {ps : List Nat} {c : ChE} {kind g chan case_ value mate : Int} {send ok : Bool} (hA : EvA A lb lo l) (hll : l.length ≤ 2000) (he : l[i]? = some ⟨kind, g, chan, case_, value, mate, send, ok⟩) (hm0 : -1 ≤ mate ∧ mate ≤ 511) (hk : chan = (k : Int)) (hp : ps[k]? = some p) (hc : cs[k]? = some c) (hio : c.ins.length ≤ 100000 ∧ c.outs.length ≤ 100000) (hko : kind = 3 ∨ (kind ≠ 3 ∧ ok = true))
  (H : SL w (row rb #[.slice (some ⟨lb, lo, none⟩) l.length lc, ev, .map (some ml), .map (some mr), .map (some mp), cv] 75 :: Slc 77 1 cv cs.length (ptrs ps) :: chsE ps cs :: MapP 3 mp n3 (mapI pa) :: A :: F)) :
  Calls Tryz.prog 68 #[.pointer (some ⟨rb, 0, none⟩), .int .i64 i] w fun o w' => o = .returned (.tuple #[]) ∧ SL w' (row rb #[.slice (some ⟨lb, lo, none⟩) l.length lc, ev, .map (some ml), .map (some mr), .map (some mp), cv] 75 :: Slc 77 1 cv cs.length (ptrs ps) :: chsE ps (cs.set k (movC c ⟨kind, g, chan, case_, value, mate, send, ok⟩ i (servE l pa i ⟨kind, g, chan, case_, value, mate, send, ok⟩))) :: MapP 3 mp n3 (mapI pa) :: A :: F) := by
 have hi : i < l.length := (List.getElem?_eq_some_iff.1 he).1
 have hkm : k < cs.length := (List.getElem?_eq_some_iff.1 hc).1
 obtain ⟨ca, cc, rfl⟩ := SL.slcForm H.up1
 obtain ⟨cb, rfl⟩ := SL.slcAddr H.up1 (by omega)
 replace H := H.pi [2, 0, 1, 3, 4] 5
 simp only [pl, nth, drL] at H
 obtain ⟨u, v, H⟩ := chs_takeE hp hc H
 obtain ⟨ia, ic, rfl⟩ := SL.slcForm H.up1
 obtain ⟨oa, oc, rfl⟩ := SL.slcForm H.up2
 replace H := H.pi [4, 5, 0, 1, 2, 3, 6, 7] 8
 simp only [pl, nth, drL] at H
 by_cases hm : 0 ≤ mate ∧ i + 1 < l.length
 ·rcases hko with h3 | ⟨h3, hok⟩
  ·refine calls_d (args := [_, _]) Tryz.func68 rfl ?_
   refine ⟨H.ldi 0 rfl (v := .slice (some ⟨lb, lo, none⟩) l.length lc) rfl ?_⟩
   refine Ix.at i 8 (by kernel_rfl) (rfl) (hi) ?_
   refine H.ldEv 7 rfl hA i he (Nw.as ev0C 53 rfl H fun b4 w H => ?_)
   refine SL.stEv H rfl rfl fun w H => ?_
   refine ⟨Drw.of [(0, true), (1, true), (2, true), (3, true), (4, true), (5, true), (6, true), (7, true), (8, true)] (by kernel_rfl) mixed (fun w => SL w _) H.drew ?_⟩
   replace H := H.drew
   refine LdC.i 1 rfl (v := .slice (some ⟨cb, 0, none⟩) cs.length cc) rfl (LdC.i 0 rfl (v := .int .i64 chan) rfl (Ix.at0 k 1 (by kernel_rfl) (hk) (hkm) ?_))
   refine LdC.S 2 rfl (v := .pointer (some ⟨p, 0, none⟩)) (ptrs_at hp) (⟨Mn.pure (.agg #[.int .i64 ↑i, .int .i64 ↑i]) (by kernel_rfl) ?_⟩)
   refine Nw.as #[.int .i64 0, .int .i64 0] 131 rfl H fun b6 w H => ?_
   refine H.st0 (cs' := #[.int .i64 ↑i, .int .i64 0]) rfl rfl rfl fun w H => ?_
   refine H.st0 (cs' := #[.int .i64 ↑i, .int .i64 ↑i]) rfl rfl rfl fun w H => ?_
   refine ⟨?_⟩
   have h1 := H.pi [2, 8, 9, 0, 1, 3, 4, 5, 6, 7] 10
   simp only [pl, nth, drL] at h1
   refine Cl.s (e_served_yes hA hll he hm0 hm h1) fun w H => ?_
   replace H := H.pi [3, 4, 0, 5, 6, 7, 8, 9, 1, 2] 10
   simp only [pl, nth, drL] at H
   refine Nw.as #[.int .i64 0, .int .i64 0] 131 rfl H fun b7 w H => ?_
   refine H.st0 (cs' := #[.int .i64 (↑((pa mate).getD 0)), .int .i64 0]) rfl rfl rfl fun w H => ?_
   refine H.st0 (cs' := #[.int .i64 (↑((pa mate).getD 0)), .int .i64 (↑i + 1)]) rfl rfl rfl fun w H => ?_
   refine ⟨⟨H.ldi 2 rfl (v := .int .i64 kind) rfl ?_⟩⟩
   refine BB.yes (beq_iff_eq.2 h3) (Cn.yes (⟨Drw.oft (.calm 0 (.calm 1 (.calm 2 (.calm 3 (.calm 4 (.calm 5 (.act 6 false (.act 7 false (.pure 8 (.pure 9 (.act 10 true .nil))))))))))) (by kernel_rfl) mixed (fun w => SL w _) (H.drew.pi [0, 1, 2, 3, 4, 5, 8, 9, 10] 11) ?_⟩))
   replace H := H.drew
   refine LdC.i 5 rfl (v := .slice ia c.ins.length ic) rfl (LdC.i 1 rfl (v := .int .i64 ↑i) rfl (LdC.i 1 rfl (v := .int .i64 ↑i) rfl (Mn.new (fun b => .slice (some ⟨b, 0, none⟩) 1 1) #[.int .i64 ↑i, .int .i64 ↑i] 131 (by kernel_rfl) H fun b43 w H => ?_)))
   refine ⟨.inr (H.pi [1, 2, 3, 4, 5, 6, 9, 10, 11] 12), ?_⟩
   refine SL.appS H.up7 (.tmp 41) (.tmp 43) 127 (.agg #[.int .i64 0, .int .i64 0]) 16 (by rfl) (by kernel_rfl) (by kernel_rfl) (by rfl) (by decide) (by rfl) (some ⟨b43, 0, none⟩) 1 1 [.int .i64 ↑i, .int .i64 ↑i] (by rfl) (H.rdRow 0 rfl (by rfl) (by decide)) (by rfl) (by omega) (by decide) (by decide) fun g1 c1 w H => ?_
   refine ⟨.inr (H.pi [2, 3, 4, 5, 6, 7, 9, 10, 11] 12), ?_⟩
   refine H.st7 (cs' := #[.int .i64 ↑c.size, .slice (some ⟨g1, 0, none⟩) (c.ins.length + 1) c1, .slice oa c.outs.length oc, .int .i64 ↑c.closed]) rfl rfl rfl fun w H => ?_
   refine ⟨.inl rfl, ?_⟩
   refine ⟨Cn.yes ?_⟩
   refine ⟨Drw.oft (.calm 0 (.calm 1 (.calm 2 (.calm 3 (.calm 4 (.calm 5 (.act 6 false (.act 7 false (.pure 8 (.pure 9 (.act 10 true .nil))))))))))) (by kernel_rfl) mixed (fun w => SL w _) (H.drew.pi [1, 2, 3, 4, 5, 6, 7, 9, 10, 11] 12) ?_⟩
   replace H := H.drew
   refine LdC.i 6 rfl (v := .slice oa c.outs.length oc) rfl (LdC.i 1 rfl (v := .int .i64 (↑((pa mate).getD 0))) rfl (LdC.i 1 rfl (v := .int .i64 (↑i + 1)) rfl (Mn.new (fun b => .slice (some ⟨b, 0, none⟩) 1 1) #[.int .i64 (↑((pa mate).getD 0)), .int .i64 (↑i + 1)] 131 (by kernel_rfl) H fun b54 w H => ?_)))
   refine ⟨.inr (H.pi [2, 3, 4, 5, 6, 7, 8, 10, 11, 12] 13), ?_⟩
   refine SL.appS H.up9 (.tmp 52) (.tmp 54) 127 (.agg #[.int .i64 0, .int .i64 0]) 16 (by rfl) (by kernel_rfl) (by kernel_rfl) (by rfl) (by decide) (by rfl) (some ⟨b54, 0, none⟩) 1 1 [.int .i64 (↑((pa mate).getD 0)), .int .i64 (↑i + 1)] (by rfl) (H.rdRow 0 rfl (by rfl) (by decide)) (by rfl) (by omega) (by decide) (by decide) fun g2 c2 w H => ?_
   refine ⟨.inr (H.pi [3, 4, 5, 6, 7, 8, 9, 10, 11, 12] 13), ?_⟩
   refine H.st9 (cs' := #[.int .i64 ↑c.size, .slice (some ⟨g1, 0, none⟩) (c.ins.length + 1) c1, .slice (some ⟨g2, 0, none⟩) (c.outs.length + 1) c2, .int .i64 ↑c.closed]) rfl rfl rfl fun w H => ?_
   refine ⟨.inl rfl, ?_⟩
   refine ret0 rfl ?_
   have q := H.pi [2, 0, 9, 10, 7, 8, 11, 12] 13
   simp only [pl, nth, drL] at q
   replace q := slc_pair (L := c.ins) (a := i) (b := i) rfl q
   replace q := (slc_pair (L := c.outs) (a := (pa mate).getD 0) (b := i + 1) rfl q.up1).dn1
   have q2 := chs_putE hp hc (y := ⟨c.size, (c.ins ++ [(i, i)]), (c.outs ++ [((pa mate).getD 0, i + 1)]), c.closed⟩) (q.pi [2, 0, 1, 3, 4, 5, 6, 7] 8)
   have hmv : movC c ⟨kind, g, chan, case_, value, mate, send, ok⟩ i (servE l pa i ⟨kind, g, chan, case_, value, mate, send, ok⟩) = ⟨c.size, (c.ins ++ [(i, i)]), (c.outs ++ [((pa mate).getD 0, i + 1)]), c.closed⟩ := by
    unfold movC servE
    dsimp only
    rw [if_pos h3]
    rw [if_neg (by omega)]; rfl
   rw [hmv]
   have q3 := q2.pi [1, 2, 0, 3, 4] 5
   simp only [pl, nth, drL] at q3
   exact ⟨rfl, q3⟩
  ·subst hok
   refine calls_d (args := [_, _]) Tryz.func68 rfl ?_
   refine ⟨H.ldi 0 rfl (v := .slice (some ⟨lb, lo, none⟩) l.length lc) rfl ?_⟩
   refine Ix.at i 8 (by kernel_rfl) (rfl) (hi) ?_
   refine H.ldEv 7 rfl hA i he (Nw.as ev0C 53 rfl H fun b4 w H => ?_)
   refine SL.stEv H rfl rfl fun w H => ?_
   refine ⟨Drw.of [(0, true), (1, true), (2, true), (3, true), (4, true), (5, true), (6, true), (7, true), (8, true)] (by kernel_rfl) mixed (fun w => SL w _) H.drew ?_⟩
   replace H := H.drew
   refine LdC.i 1 rfl (v := .slice (some ⟨cb, 0, none⟩) cs.length cc) rfl (LdC.i 0 rfl (v := .int .i64 chan) rfl (Ix.at0 k 1 (by kernel_rfl) (hk) (hkm) ?_))
   refine LdC.S 2 rfl (v := .pointer (some ⟨p, 0, none⟩)) (ptrs_at hp) (⟨Mn.pure (.agg #[.int .i64 ↑i, .int .i64 ↑i]) (by kernel_rfl) ?_⟩)
   refine Nw.as #[.int .i64 0, .int .i64 0] 131 rfl H fun b6 w H => ?_
   refine H.st0 (cs' := #[.int .i64 ↑i, .int .i64 0]) rfl rfl rfl fun w H => ?_
   refine H.st0 (cs' := #[.int .i64 ↑i, .int .i64 ↑i]) rfl rfl rfl fun w H => ?_
   refine ⟨?_⟩
   have h1 := H.pi [2, 8, 9, 0, 1, 3, 4, 5, 6, 7] 10
   simp only [pl, nth, drL] at h1
   refine Cl.s (e_served_yes hA hll he hm0 hm h1) fun w H => ?_
   replace H := H.pi [3, 4, 0, 5, 6, 7, 8, 9, 1, 2] 10
   simp only [pl, nth, drL] at H
   refine Nw.as #[.int .i64 0, .int .i64 0] 131 rfl H fun b7 w H => ?_
   refine H.st0 (cs' := #[.int .i64 (↑((pa mate).getD 0)), .int .i64 0]) rfl rfl rfl fun w H => ?_
   refine H.st0 (cs' := #[.int .i64 (↑((pa mate).getD 0)), .int .i64 (↑i + 1)]) rfl rfl rfl fun w H => ?_
   refine ⟨⟨H.ldi 2 rfl (v := .int .i64 kind) rfl ?_⟩⟩
   refine BB.no (beq_eq_false_iff_ne.2 h3) (Cn.no (⟨H.ldi 2 rfl (v := .bool true) rfl ?_⟩))
   refine BB.yes rfl (Cn.yes (⟨Drw.oft (.calm 0 (.calm 1 (.calm 2 (.calm 3 (.calm 4 (.calm 5 (.act 6 false (.act 7 false (.pure 8 (.pure 9 (.act 10 true .nil))))))))))) (by kernel_rfl) mixed (fun w => SL w _) (H.drew.pi [0, 1, 2, 3, 4, 5, 8, 9, 10] 11) ?_⟩))
   replace H := H.drew
   refine LdC.i 5 rfl (v := .slice oa c.outs.length oc) rfl (LdC.i 1 rfl (v := .int .i64 ↑i) rfl (LdC.i 1 rfl (v := .int .i64 ↑i) rfl (Mn.new (fun b => .slice (some ⟨b, 0, none⟩) 1 1) #[.int .i64 ↑i, .int .i64 ↑i] 131 (by kernel_rfl) H fun b67 w H => ?_)))
   refine ⟨.inr (H.pi [1, 2, 3, 4, 5, 6, 9, 10, 11] 12), ?_⟩
   refine SL.appS H.up8 (.tmp 65) (.tmp 67) 127 (.agg #[.int .i64 0, .int .i64 0]) 16 (by rfl) (by kernel_rfl) (by kernel_rfl) (by rfl) (by decide) (by rfl) (some ⟨b67, 0, none⟩) 1 1 [.int .i64 ↑i, .int .i64 ↑i] (by rfl) (H.rdRow 0 rfl (by rfl) (by decide)) (by rfl) (by omega) (by decide) (by decide) fun g1 c1 w H => ?_
   refine ⟨.inr (H.pi [2, 3, 4, 5, 6, 7, 9, 10, 11] 12), ?_⟩
   refine H.st7 (cs' := #[.int .i64 ↑c.size, .slice ia c.ins.length ic, .slice (some ⟨g1, 0, none⟩) (c.outs.length + 1) c1, .int .i64 ↑c.closed]) rfl rfl rfl fun w H => ?_
   refine ⟨.inl rfl, ?_⟩
   refine ⟨Cn.yes ?_⟩
   refine ⟨Drw.oft (.calm 0 (.calm 1 (.calm 2 (.calm 3 (.calm 4 (.calm 5 (.act 6 false (.act 7 false (.pure 8 (.pure 9 (.act 10 true .nil))))))))))) (by kernel_rfl) mixed (fun w => SL w _) (H.drew.pi [1, 2, 3, 4, 5, 6, 7, 9, 10, 11] 12) ?_⟩
   replace H := H.drew
   refine LdC.i 6 rfl (v := .slice ia c.ins.length ic) rfl (LdC.i 1 rfl (v := .int .i64 (↑((pa mate).getD 0))) rfl (LdC.i 1 rfl (v := .int .i64 (↑i + 1)) rfl (Mn.new (fun b => .slice (some ⟨b, 0, none⟩) 1 1) #[.int .i64 (↑((pa mate).getD 0)), .int .i64 (↑i + 1)] 131 (by kernel_rfl) H fun b78 w H => ?_)))
   refine ⟨.inr (H.pi [2, 3, 4, 5, 6, 7, 8, 10, 11, 12] 13), ?_⟩
   refine SL.appS H.up9 (.tmp 76) (.tmp 78) 127 (.agg #[.int .i64 0, .int .i64 0]) 16 (by rfl) (by kernel_rfl) (by kernel_rfl) (by rfl) (by decide) (by rfl) (some ⟨b78, 0, none⟩) 1 1 [.int .i64 (↑((pa mate).getD 0)), .int .i64 (↑i + 1)] (by rfl) (H.rdRow 0 rfl (by rfl) (by decide)) (by rfl) (by omega) (by decide) (by decide) fun g2 c2 w H => ?_
   refine ⟨.inr (H.pi [3, 4, 5, 6, 7, 8, 9, 10, 11, 12] 13), ?_⟩
   refine H.st9 (cs' := #[.int .i64 ↑c.size, .slice (some ⟨g2, 0, none⟩) (c.ins.length + 1) c2, .slice (some ⟨g1, 0, none⟩) (c.outs.length + 1) c1, .int .i64 ↑c.closed]) rfl rfl rfl fun w H => ?_
   refine ⟨.inl rfl, ?_⟩
   refine ret0 rfl ?_
   have q := H.pi [0, 2, 9, 10, 7, 8, 11, 12] 13
   simp only [pl, nth, drL] at q
   replace q := slc_pair (L := c.ins) (a := (pa mate).getD 0) (b := i + 1) rfl q
   replace q := (slc_pair (L := c.outs) (a := i) (b := i) rfl q.up1).dn1
   have q2 := chs_putE hp hc (y := ⟨c.size, (c.ins ++ [((pa mate).getD 0, i + 1)]), (c.outs ++ [(i, i)]), c.closed⟩) (q.pi [2, 0, 1, 3, 4, 5, 6, 7] 8)
   have hmv : movC c ⟨kind, g, chan, case_, value, mate, send, true⟩ i (servE l pa i ⟨kind, g, chan, case_, value, mate, send, true⟩) = ⟨c.size, (c.ins ++ [((pa mate).getD 0, i + 1)]), (c.outs ++ [(i, i)]), c.closed⟩ := by
    unfold movC servE
    dsimp only
    rw [if_neg h3, if_pos rfl]
    rw [if_neg (by omega)]; rfl
   rw [hmv]
   have q3 := q2.pi [1, 2, 0, 3, 4] 5
   simp only [pl, nth, drL] at q3
   exact ⟨rfl, q3⟩
 ·replace hm : mate < 0 ∨ l.length ≤ i + 1 := by omega
  rcases hko with h3 | ⟨h3, hok⟩
  ·refine calls_d (args := [_, _]) Tryz.func68 rfl ?_
   refine ⟨H.ldi 0 rfl (v := .slice (some ⟨lb, lo, none⟩) l.length lc) rfl ?_⟩
   refine Ix.at i 8 (by kernel_rfl) (rfl) (hi) ?_
   refine H.ldEv 7 rfl hA i he (Nw.as ev0C 53 rfl H fun b4 w H => ?_)
   refine SL.stEv H rfl rfl fun w H => ?_
   refine ⟨Drw.of [(0, true), (1, true), (2, true), (3, true), (4, true), (5, true), (6, true), (7, true), (8, true)] (by kernel_rfl) mixed (fun w => SL w _) H.drew ?_⟩
   replace H := H.drew
   refine LdC.i 1 rfl (v := .slice (some ⟨cb, 0, none⟩) cs.length cc) rfl (LdC.i 0 rfl (v := .int .i64 chan) rfl (Ix.at0 k 1 (by kernel_rfl) (hk) (hkm) ?_))
   refine LdC.S 2 rfl (v := .pointer (some ⟨p, 0, none⟩)) (ptrs_at hp) (⟨Mn.pure (.agg #[.int .i64 ↑i, .int .i64 ↑i]) (by kernel_rfl) ?_⟩)
   refine Nw.as #[.int .i64 0, .int .i64 0] 131 rfl H fun b6 w H => ?_
   refine H.st0 (cs' := #[.int .i64 ↑i, .int .i64 0]) rfl rfl rfl fun w H => ?_
   refine H.st0 (cs' := #[.int .i64 ↑i, .int .i64 ↑i]) rfl rfl rfl fun w H => ?_
   refine ⟨?_⟩
   have h1 := H.pi [2, 8, 9, 0, 1, 3, 4, 5, 6, 7] 10
   simp only [pl, nth, drL] at h1
   refine Cl.s (e_served_no hA hll he hm0 hm h1) fun w H => ?_
   replace H := H.pi [3, 4, 0, 5, 6, 7, 8, 9, 1, 2] 10
   simp only [pl, nth, drL] at H
   refine Nw.as #[.int .i64 0, .int .i64 0] 131 rfl H fun b7 w H => ?_
   refine H.st0 (cs' := #[.int .i64 0, .int .i64 0]) rfl rfl rfl fun w H => ?_
   refine H.st0 (cs' := #[.int .i64 0, .int .i64 0]) rfl rfl rfl fun w H => ?_
   refine ⟨⟨H.ldi 2 rfl (v := .int .i64 kind) rfl ?_⟩⟩
   refine BB.yes (beq_iff_eq.2 h3) (Cn.yes (⟨Drw.oft (.calm 0 (.calm 1 (.calm 2 (.calm 3 (.calm 4 (.calm 5 (.act 6 false (.act 7 false (.pure 8 (.pure 9 (.act 10 true .nil))))))))))) (by kernel_rfl) mixed (fun w => SL w _) (H.drew.pi [0, 1, 2, 3, 4, 5, 8, 9, 10] 11) ?_⟩))
   replace H := H.drew
   refine LdC.i 5 rfl (v := .slice ia c.ins.length ic) rfl (LdC.i 1 rfl (v := .int .i64 ↑i) rfl (LdC.i 1 rfl (v := .int .i64 ↑i) rfl (Mn.new (fun b => .slice (some ⟨b, 0, none⟩) 1 1) #[.int .i64 ↑i, .int .i64 ↑i] 131 (by kernel_rfl) H fun b43 w H => ?_)))
   refine ⟨.inr (H.pi [1, 2, 3, 4, 5, 6, 9, 10, 11] 12), ?_⟩
   refine SL.appS H.up7 (.tmp 41) (.tmp 43) 127 (.agg #[.int .i64 0, .int .i64 0]) 16 (by rfl) (by kernel_rfl) (by kernel_rfl) (by rfl) (by decide) (by rfl) (some ⟨b43, 0, none⟩) 1 1 [.int .i64 ↑i, .int .i64 ↑i] (by rfl) (H.rdRow 0 rfl (by rfl) (by decide)) (by rfl) (by omega) (by decide) (by decide) fun g1 c1 w H => ?_
   refine ⟨.inr (H.pi [2, 3, 4, 5, 6, 7, 9, 10, 11] 12), ?_⟩
   refine H.st7 (cs' := #[.int .i64 ↑c.size, .slice (some ⟨g1, 0, none⟩) (c.ins.length + 1) c1, .slice oa c.outs.length oc, .int .i64 ↑c.closed]) rfl rfl rfl fun w H => ?_
   refine ⟨.inl rfl, ?_⟩
   refine ⟨Cn.no ?_⟩
   refine ret0 rfl ?_
   have q := H.pi [0, 8, 7, 9, 5, 6, 10, 11] 12
   simp only [pl, nth, drL] at q
   replace q := slc_pair (L := c.ins) (a := i) (b := i) rfl q
   have q2 := chs_putE hp hc (y := ⟨c.size, (c.ins ++ [(i, i)]), c.outs, c.closed⟩) (q.pi [2, 0, 1, 3, 4, 5, 6, 7] 8)
   have hmv : movC c ⟨kind, g, chan, case_, value, mate, send, ok⟩ i (servE l pa i ⟨kind, g, chan, case_, value, mate, send, ok⟩) = ⟨c.size, (c.ins ++ [(i, i)]), c.outs, c.closed⟩ := by
    unfold movC servE
    dsimp only
    rw [if_pos h3]
    rw [if_pos (by omega)]; simp
   rw [hmv]
   have q3 := q2.pi [1, 2, 0, 3, 4] 5
   simp only [pl, nth, drL] at q3
   exact ⟨rfl, q3⟩
  ·subst hok
   refine calls_d (args := [_, _]) Tryz.func68 rfl ?_
   refine ⟨H.ldi 0 rfl (v := .slice (some ⟨lb, lo, none⟩) l.length lc) rfl ?_⟩
   refine Ix.at i 8 (by kernel_rfl) (rfl) (hi) ?_
   refine H.ldEv 7 rfl hA i he (Nw.as ev0C 53 rfl H fun b4 w H => ?_)
   refine SL.stEv H rfl rfl fun w H => ?_
   refine ⟨Drw.of [(0, true), (1, true), (2, true), (3, true), (4, true), (5, true), (6, true), (7, true), (8, true)] (by kernel_rfl) mixed (fun w => SL w _) H.drew ?_⟩
   replace H := H.drew
   refine LdC.i 1 rfl (v := .slice (some ⟨cb, 0, none⟩) cs.length cc) rfl (LdC.i 0 rfl (v := .int .i64 chan) rfl (Ix.at0 k 1 (by kernel_rfl) (hk) (hkm) ?_))
   refine LdC.S 2 rfl (v := .pointer (some ⟨p, 0, none⟩)) (ptrs_at hp) (⟨Mn.pure (.agg #[.int .i64 ↑i, .int .i64 ↑i]) (by kernel_rfl) ?_⟩)
   refine Nw.as #[.int .i64 0, .int .i64 0] 131 rfl H fun b6 w H => ?_
   refine H.st0 (cs' := #[.int .i64 ↑i, .int .i64 0]) rfl rfl rfl fun w H => ?_
   refine H.st0 (cs' := #[.int .i64 ↑i, .int .i64 ↑i]) rfl rfl rfl fun w H => ?_
   refine ⟨?_⟩
   have h1 := H.pi [2, 8, 9, 0, 1, 3, 4, 5, 6, 7] 10
   simp only [pl, nth, drL] at h1
   refine Cl.s (e_served_no hA hll he hm0 hm h1) fun w H => ?_
   replace H := H.pi [3, 4, 0, 5, 6, 7, 8, 9, 1, 2] 10
   simp only [pl, nth, drL] at H
   refine Nw.as #[.int .i64 0, .int .i64 0] 131 rfl H fun b7 w H => ?_
   refine H.st0 (cs' := #[.int .i64 0, .int .i64 0]) rfl rfl rfl fun w H => ?_
   refine H.st0 (cs' := #[.int .i64 0, .int .i64 0]) rfl rfl rfl fun w H => ?_
   refine ⟨⟨H.ldi 2 rfl (v := .int .i64 kind) rfl ?_⟩⟩
   refine BB.no (beq_eq_false_iff_ne.2 h3) (Cn.no (⟨H.ldi 2 rfl (v := .bool true) rfl ?_⟩))
   refine BB.yes rfl (Cn.yes (⟨Drw.oft (.calm 0 (.calm 1 (.calm 2 (.calm 3 (.calm 4 (.calm 5 (.act 6 false (.act 7 false (.pure 8 (.pure 9 (.act 10 true .nil))))))))))) (by kernel_rfl) mixed (fun w => SL w _) (H.drew.pi [0, 1, 2, 3, 4, 5, 8, 9, 10] 11) ?_⟩))
   replace H := H.drew
   refine LdC.i 5 rfl (v := .slice oa c.outs.length oc) rfl (LdC.i 1 rfl (v := .int .i64 ↑i) rfl (LdC.i 1 rfl (v := .int .i64 ↑i) rfl (Mn.new (fun b => .slice (some ⟨b, 0, none⟩) 1 1) #[.int .i64 ↑i, .int .i64 ↑i] 131 (by kernel_rfl) H fun b67 w H => ?_)))
   refine ⟨.inr (H.pi [1, 2, 3, 4, 5, 6, 9, 10, 11] 12), ?_⟩
   refine SL.appS H.up8 (.tmp 65) (.tmp 67) 127 (.agg #[.int .i64 0, .int .i64 0]) 16 (by rfl) (by kernel_rfl) (by kernel_rfl) (by rfl) (by decide) (by rfl) (some ⟨b67, 0, none⟩) 1 1 [.int .i64 ↑i, .int .i64 ↑i] (by rfl) (H.rdRow 0 rfl (by rfl) (by decide)) (by rfl) (by omega) (by decide) (by decide) fun g1 c1 w H => ?_
   refine ⟨.inr (H.pi [2, 3, 4, 5, 6, 7, 9, 10, 11] 12), ?_⟩
   refine H.st7 (cs' := #[.int .i64 ↑c.size, .slice ia c.ins.length ic, .slice (some ⟨g1, 0, none⟩) (c.outs.length + 1) c1, .int .i64 ↑c.closed]) rfl rfl rfl fun w H => ?_
   refine ⟨.inl rfl, ?_⟩
   refine ⟨Cn.no ?_⟩
   refine ret0 rfl ?_
   have q := H.pi [8, 0, 7, 9, 5, 6, 10, 11] 12
   simp only [pl, nth, drL] at q
   replace q := (slc_pair (L := c.outs) (a := i) (b := i) rfl q.up1).dn1
   have q2 := chs_putE hp hc (y := ⟨c.size, c.ins, (c.outs ++ [(i, i)]), c.closed⟩) (q.pi [2, 0, 1, 3, 4, 5, 6, 7] 8)
   have hmv : movC c ⟨kind, g, chan, case_, value, mate, send, true⟩ i (servE l pa i ⟨kind, g, chan, case_, value, mate, send, true⟩) = ⟨c.size, c.ins, (c.outs ++ [(i, i)]), c.closed⟩ := by
    unfold movC servE
    dsimp only
    rw [if_neg h3, if_pos rfl]
    rw [if_pos (by omega)]; simp
   rw [hmv]
   have q3 := q2.pi [1, 2, 0, 3, 4] 5
   simp only [pl, nth, drL] at q3
   exact ⟨rfl, q3⟩
theorem mapI_is {f : Int → Option Nat} {k : Int} : (mapI f k).isSome = (f k).isSome := by
 unfold mapI
 cases f k <;> rfl
set_option maxHeartbeats 2000000 in
theorem e_next {w : World} {F : List Piece} {A : Piece} {rb i lb lo lc : Nat} {l : List Ev} {s : EdS} {kind g chan case_ value mate : Int} {send ok : Bool} (hA : EvA A lb lo l) (hll : l.length ≤ 2000) (he : l[i]? = some ⟨kind, g, chan, case_, value, mate, send, ok⟩) (hm0 : -1 ≤ mate ∧ mate ≤ 511) (hg0 : -1 ≤ g ∧ g ≤ 511) (hv : kind = 2 → 0 ≤ value) (hch : kind = 3 ∨ kind = 4 ∨ kind = 5 ∨ kind = 7 → 0 ≤ chan ∧ chan < s.chans.length) (hes : s.edges.length ≤ 100000) (hcl : s.chans.length ≤ 100000) (hios : ∀ c ∈ s.chans, c.ins.length ≤ 100000 ∧ c.outs.length ≤ 100000) (H : SL w (EdP rb (.slice (some ⟨lb, lo, none⟩) l.length lc) i s :: A :: F)) :
  Calls Tryz.prog 37 #[.pointer (some ⟨rb, 0, none⟩), .int .i64 i] w fun o w' => o = .returned (.tuple #[]) ∧ SL w' (EdP rb (.slice (some ⟨lb, lo, none⟩) l.length lc) (i + 1) (nextE l i s) :: A :: F) := by
 have hi : i < l.length := (List.getElem?_eq_some_iff.1 he).1
 have hd : l.getD i evz = ⟨kind, g, chan, case_, value, mate, send, ok⟩ := by rw [List.getD_eq_getElem?_getD, he]; rfl
 obtain ⟨ev, cv, ml, mr, mp, n1, n2, n3, ps, hb, H⟩ := EdP.iff.1 H
 obtain ⟨hb1, hb2, hb3, hb4⟩ := hb
 obtain ⟨es, la, ru, pa, cs⟩ := s
 dsimp only at hb1 H hch hes hios hcl
 obtain ⟨ca, cc, rfl⟩ := SL.slcForm H.up5
 obtain ⟨bs, hbs⟩ : ∃ b, (la g).isSome = b := ⟨_, rfl⟩
 by_cases hk : kind = 3 ∨ kind = 4 ∨ kind = 5 ∨ kind = 7
 ·obtain ⟨hc0, hc1⟩ := hch hk
  obtain ⟨k, hck⟩ := Int.eq_ofNat_of_zero_le hc0
  have hkm : k < cs.length := by omega
  obtain ⟨c, hc⟩ : ∃ c, cs[k]? = some c := ⟨_, get_of hkm⟩
  obtain ⟨p, hp⟩ : ∃ p, ps[k]? = some p := ⟨_, get_of (by omega)⟩
  have hio := hios c (List.mem_of_getElem? hc)
  obtain ⟨cb, rfl⟩ := SL.slcAddr H.up5 (by omega)
  refine calls_d (args := [_, _]) Tryz.func37 rfl ?_
  refine ⟨H.ldi 0 rfl (v := .slice (some ⟨lb, lo, none⟩) l.length lc) rfl ?_⟩
  refine Ix.at i 8 (by kernel_rfl) (rfl) (hi) ?_
  refine H.ldE 7 rfl hA i 0 he (v := .int .i64 kind) rfl (H.ldE 7 rfl hA i 1 he (v := .int .i64 g) rfl (H.ldE 7 rfl hA i 2 he (v := .int .i64 chan) rfl (H.ldE 7 rfl hA i 3 he (v := .int .i64 case_) rfl (H.ldE 7 rfl hA i 4 he (v := .int .i64 value) rfl (H.ldE 7 rfl hA i 5 he (v := .int .i64 mate) rfl (H.ldE 7 rfl hA i 6 he (v := .bool send) rfl (H.ldE 7 rfl hA i 7 he (v := .bool ok) rfl (Nw.as ev0C 53 rfl H fun b4 w H => ?_))))))))
  refine SL.stEv H rfl rfl fun w H => ?_
  refine ⟨H.ldi 0 rfl (v := .int .i64 kind) rfl ?_⟩
  refine BB.no (beq_eq_false_iff_ne.2 (by omega)) (Cn.no (⟨Drw.of [(0, true), (1, true), (2, true), (3, true), (4, true), (5, true), (6, true), (7, true), (8, true), (9, true), (10, true), (11, true)] (by kernel_rfl) mixed (fun w => SL w _) H.drew ?_⟩))
  replace H := H.drew
  refine LdC.i 1 rfl (v := .map (some ml)) rfl (LdC.i 0 rfl (v := .int .i64 g) rfl (MnC.lookOk 3 rfl (.tmp 21) (.tmp 23) 72 3 (by rfl) (by kernel_rfl) (by kernel_rfl) (z := .int .i64 0) (fun _ => by kernel_rfl) g (key_wf (by omega) (by omega)) (by rfl) (by rfl) (.int .i64 (↑((la g).getD 0))) (mapI_get _ _) bs (mapI_is.trans hbs) ?_))
  refine ⟨CdX.cut (ι := List Edg × Value) [(28, 38)] (by kernel_rfl) (fun (es1, ev1) => []) (fun (es1, ev1) w => (es1 = (match la g with | none => es | some f => putL es f i ((ru g).getD 0)) ∧ es1.length ≤ es.length + 1) ∧ SL w (row rb #[.slice (some ⟨lb, lo, none⟩) l.length lc, ev1, .map (some ml), .map (some mr), .map (some mp), .slice (some ⟨cb, 0, none⟩) cs.length cc] 75 :: Slc 70 3 ev1 es1.length (es1.flatMap Edg.cells) :: row b4 #[.int .i64 kind, .int .i64 g, .int .i64 chan, .int .i64 case_, .int .i64 value, .int .i64 mate, .bool send, .bool ok] 53 :: MapP 3 ml n1 (mapI la) :: MapP 3 mr n2 (mapI ru) :: MapP 3 mp n3 (mapI pa) :: Slc 77 1 (.slice (some ⟨cb, 0, none⟩) cs.length cc) cs.length (ptrs ps) :: chsE ps cs :: A :: F)) ?_ ?_⟩
  ·cases bs
   ·refine Cn.no ?_
    exact ⟨(es, ev), trivial, ⟨by rw [show la g = none from Option.not_isSome_iff_eq_none.1 (by rw [hbs]; decide)], by omega⟩, (H.pi [1, 2, 0, 3, 4, 5, 6, 7, 8] 9)⟩
   refine Cn.yes (⟨Drw.of [(0, true), (1, true), (2, true), (3, true), (4, true), (5, true), (6, true), (7, true), (8, true), (9, true), (10, false)] (by kernel_rfl) mixed (fun w => SL w _) H.drew ?_⟩)
   replace H := H.drew
   refine LdC.i 1 rfl (v := .map (some mr)) rfl (LdC.i 0 rfl (v := .int .i64 g) rfl (MnC.lookV 4 rfl (.tmp 34) (.tmp 36) 72 3 (by rfl) (by kernel_rfl) (by kernel_rfl) (z := .int .i64 0) (fun _ => by kernel_rfl) g (key_wf (by omega) (by omega)) (by rfl) (by rfl) (.int .i64 (↑((ru g).getD 0))) (mapI_get _ _) ?_))
   have h1 := H.pi [1, 2, 0, 3, 4, 5, 6, 7, 8] 9
   simp only [pl, nth, drL] at h1
   refine Cl.b (e_edge ((la g).getD 0) i ((ru g).getD 0) (by omega) h1) ?_
   rintro _ w ⟨rfl, ev1, H⟩
   refine ⟨_, rfl, ?_⟩
   replace H := H.pi [2, 0, 1, 3, 4, 5, 6, 7, 8] 9
   simp only [pl, nth, drL] at H
   refine ⟨.inl rfl, ?_⟩
   have hob := Option.isSome_iff_exists.1 hbs
   obtain ⟨f, hla⟩ := hob
   exact ⟨((putL es ((la g).getD 0) i ((ru g).getD 0)), ev1), trivial, ⟨by rw [hla]; rfl, putL_len _ _ _ _⟩, (H.pi [1, 2, 0, 3, 4, 5, 6, 7, 8] 9)⟩
  rintro ⟨es1, ev1⟩ s w ⟨hc, H⟩
  obtain ⟨hes1, hel⟩ := hc
  have hs2 : ownE i ⟨kind, g, chan, case_, value, mate, send, ok⟩ (fromE i ⟨kind, g, chan, case_, value, mate, send, ok⟩ ⟨es, la, ru, pa, cs⟩) = ⟨es1, updN la g i, updN ru g 1, pa, cs⟩ := by unfold ownE fromE; dsimp only; rw [hes1]; cases la g <;> rfl
  refine ⟨Drw.oft (.calm 0 (.calm 1 (.calm 2 (.calm 3 (.calm 4 (.calm 5 (.calm 6 (.calm 7 (.calm 8 (.calm 9 (.calm 10 (.calm 11 (.calm 12 (.act 13 false (.pure 14 (.act 15 false (.act 16 true (.pure 17 (.act 18 true .nil))))))))))))))))))) (by kernel_rfl) mixed (fun w => SL w _) (H.drew.pi [0, 1, 2, 6, 7, 8] 9) ?_⟩
  replace H := H.drew
  refine LdC.i 0 rfl (v := .map (some ml)) rfl (LdC.i 2 rfl (v := .int .i64 g) rfl (LdC.i 0 rfl (v := .map (some mr)) rfl (LdC.i 2 rfl (v := .int .i64 g) rfl (Mn.entry H.up3 (by omega) (.tmp 42) (.tmp 44) 72 3 (by rfl) (by kernel_rfl) (by kernel_rfl) (z := .int .i64 0) (fun _ => by kernel_rfl) g (key_wf (by omega) (by omega)) (by rfl) (by rfl) fun v1 s1 w H => ?_))))
  refine ⟨.inr (H.pi [1, 2, 3, 6, 7, 8] 9), ?_⟩
  refine Mn.estore H (.tmp 42) (.tmp 53) (.tmp 51) 72 (by rfl) (.int .i64 ↑i) (by rfl) (by rfl) (by rfl) fun w H => ?_
  have hob := map_fix (m := la) (k := g) (v := i) H
  obtain ⟨nq1, hq1, H⟩ := hob
  refine ⟨.inr (H.pi [1, 2, 3, 6, 7, 8] 9), ?_⟩
  refine Mn.entry H.up4 (by omega) (.tmp 48) (.tmp 50) 72 3 (by rfl) (by kernel_rfl) (by kernel_rfl) (z := .int .i64 0) (fun _ => by kernel_rfl) g (key_wf (by omega) (by omega)) (by rfl) (by rfl) fun v2 s2 w H => ?_
  refine ⟨.inl rfl, ?_⟩
  refine Mn.estore H (.tmp 48) (.tmp 55) (.const (.int .i64 (1))) 72 (by rfl) (.int .i64 1) (by rfl) (by rfl) (by rfl) fun w H => ?_
  have hob := map_fix (m := ru) (k := g) (v := 1) H
  obtain ⟨nq2, hq2, H⟩ := hob
  refine ⟨.inl rfl, ?_⟩
  refine ⟨H.ldi 4 rfl (v := .int .i64 kind) rfl ?_⟩
  refine ⟨⟨BB.no (beq_eq_false_iff_ne.2 (by omega)) ?_⟩⟩
  refine Cn.no (⟨BB.no (beq_eq_false_iff_ne.2 (by omega)) ?_⟩)
  refine Cn.no (⟨BB.no (beq_eq_false_iff_ne.2 (by omega)) ?_⟩)
  refine Cn.no (⟨BB.vr fun q3 e3 => ?_⟩)
  cases q3
  ·have h3 := neq_of e3
   refine Cn.no (⟨BB.vr fun q4 e4 => ?_⟩)
   cases q4
   ·have h4 := neq_of e4
    refine Cn.no (⟨BB.vr fun q5 e5 => ?_⟩)
    cases q5
    ·have h5 := neq_of e5
     refine Cn.no (⟨BB.yes (beq_iff_eq.2 (by omega)) ?_⟩)
     refine Cn.yes (⟨H.ldi 4 rfl (v := .bool ok) rfl ?_⟩)
     refine BB.k (BB.vr fun q6 e6 => ?_)
     cases q6
     ·have h6 : ok = true := by simpa using e6
      subst h6
      refine Cn.no (⟨H.ldi 4 rfl (v := .int .i64 kind) rfl ?_⟩)
      refine BB.no (beq_eq_false_iff_ne.2 h5) (Cn.no (ret0 rfl ?_))
      have hc2 : nextE l i ⟨es, la, ru, pa, cs⟩ = ⟨es1, (updN la g i), (updN ru g 1), pa, cs⟩ := by rw [nextE_no hd (show kind ≠ 13 by omega), hs2, kindE_7 (show kind = 7 by omega) rfl]
      rw [hc2]
      exact ⟨rfl, EdP.iff.2 ⟨ev1, _, ml, mr, mp, nq1, nq2, n3, ps, ⟨hb1, by omega, by omega, by omega⟩, H.pi [2, 3, 1, 0, 5, 6, 7, 8] 9⟩⟩
     have h6 : ok = false := by simpa using e6
     subst h6
     refine Cn.yes ?_
     have H0 := H.pi [7, 0, 1, 2, 3, 4, 5, 6, 8] 9
     simp only [pl, nth, drL] at H0
     have hob := chs_takeE hp hc H0
     obtain ⟨u, v, H⟩ := hob
     refine ⟨Drw.of [(0, true), (1, true), (2, true), (3, true), (4, true), (5, true), (6, true), (7, true), (8, true), (9, true), (10, true), (11, true), (12, true), (13, false)] (by kernel_rfl) mixed (fun w => SL w _) H.drew ?_⟩
     replace H := H.drew
     refine LdC.i 6 rfl (v := .slice (some ⟨cb, 0, none⟩) cs.length cc) rfl (LdC.i 8 rfl (v := .int .i64 chan) rfl (Ix.at0 k 1 (by kernel_rfl) (hck) (hkm) ?_))
     refine LdC.S 10 rfl (v := .pointer (some ⟨p, 0, none⟩)) (ptrs_at hp) (LdC.i 0 rfl (v := .int .i64 ↑c.closed) rfl ?_)
     have h1 := H.pi [6, 7, 0, 1, 2, 3, 4, 5, 8, 9, 10, 11] 12
     simp only [pl, nth, drL] at h1
     refine Cl.b (e_edge c.closed i 4 (by omega) h1) ?_
     rintro _ w ⟨rfl, ev2, H⟩
     refine ⟨_, rfl, ?_⟩
     replace H := H.pi [2, 3, 4, 5, 6, 7, 0, 1, 8, 9, 10, 11] 12
     simp only [pl, nth, drL] at H
     refine ⟨.inl rfl, ?_⟩
     refine ret0 rfl ?_
     have q := H.pi [0, 1, 2, 3, 6, 7, 5, 4, 9, 10, 11] 12
     simp only [pl, nth, drL] at q
     have q2 := chs_putE hp hc (y := c) q
     rw [set_back hc] at q2
     have hc2 : nextE l i ⟨es, la, ru, pa, cs⟩ = ⟨(putL es1 c.closed i 4), (updN la g i), (updN ru g 1), pa, cs⟩ := by
      rw [nextE_no hd (show kind ≠ 13 by omega), hs2, kindE_no (show kind = 4 ∨ kind = 7 by omega) rfl]
      show (⟨putL es1 (chAt cs chan).closed i 4, _, _, _, cs⟩ : EdS) = _
      rw [chAt_is hck hc]
     have q3 := q2.pi [1, 2, 3, 4, 5, 6, 0, 7] 8
     simp only [pl, nth, drL] at q3
     rw [hc2]
     exact ⟨rfl, EdP.iff.2 ⟨ev2, _, ml, mr, mp, nq1, nq2, n3, ps, ⟨hb1, by omega, by omega, by omega⟩, q3⟩⟩
    have h5 := eq_of_beq e5
    refine Cn.yes (Cn.yes (⟨H.ldi 4 rfl (v := .bool ok) rfl ?_⟩))
    refine BB.k (BB.vr fun q7 e7 => ?_)
    cases q7
    ·have h7 : ok = true := by simpa using e7
     subst h7
     refine Cn.no (⟨H.ldi 4 rfl (v := .int .i64 kind) rfl ?_⟩)
     refine BB.yes (beq_iff_eq.2 h5) (Cn.yes (⟨?_⟩))
     have h1 := H.pi [2, 6, 7, 5, 8, 0, 1, 3, 4] 9
     simp only [pl, nth, drL] at h1
     refine Cl.s (e_moves hA hll he hm0 hck hp hc hio (by first | exact .inl (by assumption) | exact .inr ⟨by assumption, by assumption⟩ | exact .inr ⟨by omega, rfl⟩) h1) fun w H => ?_
     replace H := H.pi [5, 6, 0, 7, 8, 3, 1, 2, 4] 9
     simp only [pl, nth, drL] at H
     refine ret0 rfl ?_
     have hc2 : nextE l i ⟨es, la, ru, pa, cs⟩ = ⟨es1, (updN la g i), (updN ru g 1), pa, (cs.set k (movC c ⟨kind, g, chan, case_, value, mate, send, true⟩ i (servE l pa i ⟨kind, g, chan, case_, value, mate, send, true⟩)))⟩ := by
      rw [nextE_no hd (show kind ≠ 13 by omega), hs2, kindE_4 h5 rfl]
      unfold movE
      show (⟨_, _, _, _, cs.set chan.toNat (movC (chAt cs chan) ⟨kind, g, chan, case_, value, mate, send, true⟩ i _)⟩ : EdS) = _
      rw [chAt_is hck hc, hck]
      rfl
     have q3 := H.pi [2, 3, 1, 0, 5, 6, 7, 8] 9
     simp only [pl, nth, drL] at q3
     rw [show cs.length = (cs.set k (movC c ⟨kind, g, chan, case_, value, mate, send, true⟩ i (servE l pa i ⟨kind, g, chan, case_, value, mate, send, true⟩))).length from List.length_set.symm] at q3
     rw [hc2]
     exact ⟨rfl, EdP.iff.2 ⟨ev1, _, ml, mr, mp, nq1, nq2, n3, ps, ⟨by simp [hb1], by omega, by omega, by omega⟩, q3⟩⟩
    have h7 : ok = false := by simpa using e7
    subst h7
    refine Cn.yes ?_
    have H0 := H.pi [7, 0, 1, 2, 3, 4, 5, 6, 8] 9
    simp only [pl, nth, drL] at H0
    have hob := chs_takeE hp hc H0
    obtain ⟨u, v, H⟩ := hob
    refine ⟨Drw.of [(0, true), (1, true), (2, true), (3, true), (4, true), (5, true), (6, true), (7, true), (8, true), (9, true), (10, true), (11, true), (12, true), (13, false)] (by kernel_rfl) mixed (fun w => SL w _) H.drew ?_⟩
    replace H := H.drew
    refine LdC.i 6 rfl (v := .slice (some ⟨cb, 0, none⟩) cs.length cc) rfl (LdC.i 8 rfl (v := .int .i64 chan) rfl (Ix.at0 k 1 (by kernel_rfl) (hck) (hkm) ?_))
    refine LdC.S 10 rfl (v := .pointer (some ⟨p, 0, none⟩)) (ptrs_at hp) (LdC.i 0 rfl (v := .int .i64 ↑c.closed) rfl ?_)
    have h1 := H.pi [6, 7, 0, 1, 2, 3, 4, 5, 8, 9, 10, 11] 12
    simp only [pl, nth, drL] at h1
    refine Cl.b (e_edge c.closed i 4 (by omega) h1) ?_
    rintro _ w ⟨rfl, ev3, H⟩
    refine ⟨_, rfl, ?_⟩
    replace H := H.pi [2, 3, 4, 5, 6, 7, 0, 1, 8, 9, 10, 11] 12
    simp only [pl, nth, drL] at H
    refine ⟨.inl rfl, ?_⟩
    refine ret0 rfl ?_
    have q := H.pi [0, 1, 2, 3, 6, 7, 5, 4, 9, 10, 11] 12
    simp only [pl, nth, drL] at q
    have q2 := chs_putE hp hc (y := c) q
    rw [set_back hc] at q2
    have hc2 : nextE l i ⟨es, la, ru, pa, cs⟩ = ⟨(putL es1 c.closed i 4), (updN la g i), (updN ru g 1), pa, cs⟩ := by
     rw [nextE_no hd (show kind ≠ 13 by omega), hs2, kindE_no (show kind = 4 ∨ kind = 7 by omega) rfl]
     show (⟨putL es1 (chAt cs chan).closed i 4, _, _, _, cs⟩ : EdS) = _
     rw [chAt_is hck hc]
    have q3 := q2.pi [1, 2, 3, 4, 5, 6, 0, 7] 8
    simp only [pl, nth, drL] at q3
    rw [hc2]
    exact ⟨rfl, EdP.iff.2 ⟨ev3, _, ml, mr, mp, nq1, nq2, n3, ps, ⟨hb1, by omega, by omega, by omega⟩, q3⟩⟩
   have h4 := eq_of_beq e4
   refine Cn.yes (⟨?_⟩)
   have h1 := H.pi [2, 6, 7, 5, 8, 0, 1, 3, 4] 9
   simp only [pl, nth, drL] at h1
   refine Cl.s (e_moves hA hll he hm0 hck hp hc hio (by first | exact .inl (by assumption) | exact .inr ⟨by assumption, by assumption⟩ | exact .inr ⟨by omega, rfl⟩) h1) fun w H => ?_
   replace H := H.pi [5, 6, 0, 7, 8, 3, 1, 2, 4] 9
   simp only [pl, nth, drL] at H
   refine ret0 rfl ?_
   have hc2 : nextE l i ⟨es, la, ru, pa, cs⟩ = ⟨es1, (updN la g i), (updN ru g 1), pa, (cs.set k (movC c ⟨kind, g, chan, case_, value, mate, send, ok⟩ i (servE l pa i ⟨kind, g, chan, case_, value, mate, send, ok⟩)))⟩ := by
    rw [nextE_no hd (show kind ≠ 13 by omega), hs2, kindE_3 h4]
    unfold movE
    show (⟨_, _, _, _, cs.set chan.toNat (movC (chAt cs chan) ⟨kind, g, chan, case_, value, mate, send, ok⟩ i _)⟩ : EdS) = _
    rw [chAt_is hck hc, hck]
    rfl
   have q3 := H.pi [2, 3, 1, 0, 5, 6, 7, 8] 9
   simp only [pl, nth, drL] at q3
   rw [show cs.length = (cs.set k (movC c ⟨kind, g, chan, case_, value, mate, send, ok⟩ i (servE l pa i ⟨kind, g, chan, case_, value, mate, send, ok⟩))).length from List.length_set.symm] at q3
   rw [hc2]
   exact ⟨rfl, EdP.iff.2 ⟨ev1, _, ml, mr, mp, nq1, nq2, n3, ps, ⟨by simp [hb1], by omega, by omega, by omega⟩, q3⟩⟩
  have h3 := eq_of_beq e3
  refine Cn.yes ?_
  have H0 := H.pi [7, 0, 1, 2, 3, 4, 5, 6, 8] 9
  simp only [pl, nth, drL] at H0
  have hob := chs_takeE hp hc H0
  obtain ⟨u, v, H⟩ := hob
  refine ⟨Drw.of [(0, true), (1, true), (2, true), (3, true), (4, true), (5, true), (6, true), (7, true), (8, true), (9, true), (10, true), (11, false)] (by kernel_rfl) mixed (fun w => SL w _) H.drew ?_⟩
  replace H := H.drew
  refine LdC.i 6 rfl (v := .slice (some ⟨cb, 0, none⟩) cs.length cc) rfl (LdC.i 8 rfl (v := .int .i64 chan) rfl (Ix.at0 k 1 (by kernel_rfl) (hck) (hkm) ?_))
  refine LdC.S 10 rfl (v := .pointer (some ⟨p, 0, none⟩)) (ptrs_at hp) (H.st0 (cs' := #[.int .i64 ↑c.size, u, v, .int .i64 ↑i]) rfl rfl rfl fun w H => ?_)
  refine ⟨.inl rfl, ?_⟩
  refine ret0 rfl ?_
  have q := H.pi [0, 1, 2, 3, 6, 7, 5, 4, 9, 10, 11] 12
  simp only [pl, nth, drL] at q
  have q2 := chs_putE hp hc (y := { c with closed := i }) q
  have hc2 : nextE l i ⟨es, la, ru, pa, cs⟩ = ⟨es1, (updN la g i), (updN ru g 1), pa, (cs.set k { c with closed := i })⟩ := by
   rw [nextE_no hd (show kind ≠ 13 by omega), hs2, kindE_5 h3]
   show (⟨_, _, _, _, cs.set chan.toNat { chAt cs chan with closed := i }⟩ : EdS) = _
   rw [chAt_is hck hc, hck]
   rfl
  have q3 := q2.pi [1, 2, 3, 4, 5, 6, 0, 7] 8
  simp only [pl, nth, drL] at q3
  rw [show cs.length = (cs.set k { c with closed := i }).length from List.length_set.symm] at q3
  rw [hc2]
  exact ⟨rfl, EdP.iff.2 ⟨ev1, _, ml, mr, mp, nq1, nq2, n3, ps, ⟨by simp [hb1], by omega, by omega, by omega⟩, q3⟩⟩
 refine calls_d (args := [_, _]) Tryz.func37 rfl ?_
 refine ⟨H.ldi 0 rfl (v := .slice (some ⟨lb, lo, none⟩) l.length lc) rfl ?_⟩
 refine Ix.at i 8 (by kernel_rfl) (rfl) (hi) ?_
 refine H.ldE 7 rfl hA i 0 he (v := .int .i64 kind) rfl (H.ldE 7 rfl hA i 1 he (v := .int .i64 g) rfl (H.ldE 7 rfl hA i 2 he (v := .int .i64 chan) rfl (H.ldE 7 rfl hA i 3 he (v := .int .i64 case_) rfl (H.ldE 7 rfl hA i 4 he (v := .int .i64 value) rfl (H.ldE 7 rfl hA i 5 he (v := .int .i64 mate) rfl (H.ldE 7 rfl hA i 6 he (v := .bool send) rfl (H.ldE 7 rfl hA i 7 he (v := .bool ok) rfl (Nw.as ev0C 53 rfl H fun b4 w H => ?_))))))))
 refine SL.stEv H rfl rfl fun w H => ?_
 refine ⟨H.ldi 0 rfl (v := .int .i64 kind) rfl ?_⟩
 refine BB.vr fun q1 e1 => ?_
 cases q1
 ·have h1 := neq_of e1
  refine Cn.no (⟨Drw.of [(0, true), (1, true), (2, true), (3, true), (4, true), (5, true), (6, true), (7, true), (8, true), (9, true), (10, true), (11, true)] (by kernel_rfl) mixed (fun w => SL w _) H.drew ?_⟩)
  replace H := H.drew
  refine LdC.i 1 rfl (v := .map (some ml)) rfl (LdC.i 0 rfl (v := .int .i64 g) rfl (MnC.lookOk 3 rfl (.tmp 21) (.tmp 23) 72 3 (by rfl) (by kernel_rfl) (by kernel_rfl) (z := .int .i64 0) (fun _ => by kernel_rfl) g (key_wf (by omega) (by omega)) (by rfl) (by rfl) (.int .i64 (↑((la g).getD 0))) (mapI_get _ _) bs (mapI_is.trans hbs) ?_))
  refine ⟨CdX.cut (ι := List Edg × Value) [(28, 38)] (by kernel_rfl) (fun (es1, ev1) => []) (fun (es1, ev1) w => (es1 = (match la g with | none => es | some f => putL es f i ((ru g).getD 0)) ∧ es1.length ≤ es.length + 1) ∧ SL w (row rb #[.slice (some ⟨lb, lo, none⟩) l.length lc, ev1, .map (some ml), .map (some mr), .map (some mp), .slice ca cs.length cc] 75 :: Slc 70 3 ev1 es1.length (es1.flatMap Edg.cells) :: row b4 #[.int .i64 kind, .int .i64 g, .int .i64 chan, .int .i64 case_, .int .i64 value, .int .i64 mate, .bool send, .bool ok] 53 :: MapP 3 ml n1 (mapI la) :: MapP 3 mr n2 (mapI ru) :: MapP 3 mp n3 (mapI pa) :: Slc 77 1 (.slice ca cs.length cc) cs.length (ptrs ps) :: chsE ps cs :: A :: F)) ?_ ?_⟩
  ·cases bs
   ·refine Cn.no ?_
    exact ⟨(es, ev), trivial, ⟨by rw [show la g = none from Option.not_isSome_iff_eq_none.1 (by rw [hbs]; decide)], by omega⟩, (H.pi [1, 2, 0, 3, 4, 5, 6, 7, 8] 9)⟩
   refine Cn.yes (⟨Drw.of [(0, true), (1, true), (2, true), (3, true), (4, true), (5, true), (6, true), (7, true), (8, true), (9, true), (10, false)] (by kernel_rfl) mixed (fun w => SL w _) H.drew ?_⟩)
   replace H := H.drew
   refine LdC.i 1 rfl (v := .map (some mr)) rfl (LdC.i 0 rfl (v := .int .i64 g) rfl (MnC.lookV 4 rfl (.tmp 34) (.tmp 36) 72 3 (by rfl) (by kernel_rfl) (by kernel_rfl) (z := .int .i64 0) (fun _ => by kernel_rfl) g (key_wf (by omega) (by omega)) (by rfl) (by rfl) (.int .i64 (↑((ru g).getD 0))) (mapI_get _ _) ?_))
   have h1 := H.pi [1, 2, 0, 3, 4, 5, 6, 7, 8] 9
   simp only [pl, nth, drL] at h1
   refine Cl.b (e_edge ((la g).getD 0) i ((ru g).getD 0) (by omega) h1) ?_
   rintro _ w ⟨rfl, ev1, H⟩
   refine ⟨_, rfl, ?_⟩
   replace H := H.pi [2, 0, 1, 3, 4, 5, 6, 7, 8] 9
   simp only [pl, nth, drL] at H
   refine ⟨.inl rfl, ?_⟩
   have hob := Option.isSome_iff_exists.1 hbs
   obtain ⟨f, hla⟩ := hob
   exact ⟨((putL es ((la g).getD 0) i ((ru g).getD 0)), ev1), trivial, ⟨by rw [hla]; rfl, putL_len _ _ _ _⟩, (H.pi [1, 2, 0, 3, 4, 5, 6, 7, 8] 9)⟩
  rintro ⟨es1, ev1⟩ s w ⟨hc, H⟩
  obtain ⟨hes1, hel⟩ := hc
  have hs2 : ownE i ⟨kind, g, chan, case_, value, mate, send, ok⟩ (fromE i ⟨kind, g, chan, case_, value, mate, send, ok⟩ ⟨es, la, ru, pa, cs⟩) = ⟨es1, updN la g i, updN ru g 1, pa, cs⟩ := by unfold ownE fromE; dsimp only; rw [hes1]; cases la g <;> rfl
  refine ⟨Drw.oft (.calm 0 (.calm 1 (.calm 2 (.calm 3 (.calm 4 (.calm 5 (.calm 6 (.calm 7 (.calm 8 (.calm 9 (.calm 10 (.calm 11 (.calm 12 (.act 13 false (.pure 14 (.act 15 false (.act 16 true (.pure 17 (.act 18 true .nil))))))))))))))))))) (by kernel_rfl) mixed (fun w => SL w _) (H.drew.pi [0, 1, 2, 6, 7, 8] 9) ?_⟩
  replace H := H.drew
  refine LdC.i 0 rfl (v := .map (some ml)) rfl (LdC.i 2 rfl (v := .int .i64 g) rfl (LdC.i 0 rfl (v := .map (some mr)) rfl (LdC.i 2 rfl (v := .int .i64 g) rfl (Mn.entry H.up3 (by omega) (.tmp 42) (.tmp 44) 72 3 (by rfl) (by kernel_rfl) (by kernel_rfl) (z := .int .i64 0) (fun _ => by kernel_rfl) g (key_wf (by omega) (by omega)) (by rfl) (by rfl) fun v2 s2 w H => ?_))))
  refine ⟨.inr (H.pi [1, 2, 3, 6, 7, 8] 9), ?_⟩
  refine Mn.estore H (.tmp 42) (.tmp 53) (.tmp 51) 72 (by rfl) (.int .i64 ↑i) (by rfl) (by rfl) (by rfl) fun w H => ?_
  have hob := map_fix (m := la) (k := g) (v := i) H
  obtain ⟨nq1, hq1, H⟩ := hob
  refine ⟨.inr (H.pi [1, 2, 3, 6, 7, 8] 9), ?_⟩
  refine Mn.entry H.up4 (by omega) (.tmp 48) (.tmp 50) 72 3 (by rfl) (by kernel_rfl) (by kernel_rfl) (z := .int .i64 0) (fun _ => by kernel_rfl) g (key_wf (by omega) (by omega)) (by rfl) (by rfl) fun v3 s3 w H => ?_
  refine ⟨.inl rfl, ?_⟩
  refine Mn.estore H (.tmp 48) (.tmp 55) (.const (.int .i64 (1))) 72 (by rfl) (.int .i64 1) (by rfl) (by rfl) (by rfl) fun w H => ?_
  have hob := map_fix (m := ru) (k := g) (v := 1) H
  obtain ⟨nq2, hq2, H⟩ := hob
  refine ⟨.inl rfl, ?_⟩
  refine ⟨H.ldi 4 rfl (v := .int .i64 kind) rfl ?_⟩
  refine ⟨⟨BB.vr fun q4 e4 => ?_⟩⟩
  cases q4
  ·have h4 := neq_of e4
   refine Cn.no (⟨BB.vr fun q5 e5 => ?_⟩)
   cases q5
   ·have h5 := neq_of e5
    refine Cn.no (⟨BB.vr fun q6 e6 => ?_⟩)
    cases q6
    ·have h6 := neq_of e6
     refine Cn.no (⟨BB.no (beq_eq_false_iff_ne.2 (by omega)) ?_⟩)
     refine Cn.no (⟨BB.no (beq_eq_false_iff_ne.2 (by omega)) ?_⟩)
     refine Cn.no (⟨BB.no (beq_eq_false_iff_ne.2 (by omega)) ?_⟩)
     refine Cn.no (⟨BB.no (beq_eq_false_iff_ne.2 (by omega)) ?_⟩)
     refine Cn.no (ret0 rfl ?_)
     have hc2 : nextE l i ⟨es, la, ru, pa, cs⟩ = ⟨es1, (updN la g i), (updN ru g 1), pa, cs⟩ := by rw [nextE_no hd (show kind ≠ 13 by omega), hs2, kindE_no1 (show kind ≠ 1 ∧ kind ≠ 2 ∧ kind ≠ 6 ∧ kind ≠ 5 ∧ kind ≠ 3 ∧ kind ≠ 4 ∧ kind ≠ 7 by omega)]
     rw [hc2]
     exact ⟨rfl, EdP.iff.2 ⟨ev1, _, ml, mr, mp, nq1, nq2, n3, ps, ⟨hb1, by omega, by omega, by omega⟩, H.pi [2, 3, 1, 0, 5, 6, 7, 8] 9⟩⟩
    have h6 := eq_of_beq e6
    refine Cn.yes (⟨Drw.of [(0, true), (1, true), (2, true), (3, true), (4, true), (5, true), (6, true), (7, false)] (by kernel_rfl) mixed (fun w => SL w _) H.drew ?_⟩)
    replace H := H.drew
    refine LdC.i 2 rfl (v := .map (some mp)) rfl (LdC.i 4 rfl (v := .int .i64 g) rfl (Mn.mapSet H.up5 (by omega) (.tmp 97) (.tmp 99) (.tmp 100) 72 3 (by rfl) (by kernel_rfl) (by kernel_rfl) g (key_wf (by omega) (by omega)) (.int .i64 ↑i) (by rfl) (by rfl) (by rfl) fun w H => ?_))
    have hob := map_fix (m := pa) (k := g) (v := i) H
    obtain ⟨nq3, hq3, H⟩ := hob
    refine ⟨.inl rfl, ?_⟩
    refine ret0 rfl ?_
    have hc2 : nextE l i ⟨es, la, ru, pa, cs⟩ = ⟨es1, (updN la g i), (updN ru g 1), (updN pa g i), cs⟩ := by rw [nextE_no hd (show kind ≠ 13 by omega), hs2, kindE_6 h6]
    rw [hc2]
    exact ⟨rfl, EdP.iff.2 ⟨ev1, _, ml, mr, mp, nq1, nq2, nq3, ps, ⟨hb1, by omega, by omega, by omega⟩, H.pi [3, 4, 2, 1, 0, 6, 7, 8] 9⟩⟩
   have h5 := eq_of_beq e5
   refine Cn.yes (⟨Drw.oft (.calm 0 (.calm 1 (.calm 2 (.calm 3 (.calm 4 (.calm 5 (.calm 6 (.calm 7 (.act 8 false (.act 9 false (.act 10 false (.pure 11 (.pure 12 (.act 13 true .nil)))))))))))))) (by kernel_rfl) mixed (fun w => SL w _) (H.drew.pi [0, 1, 2, 3, 4, 5, 7, 8] 9) ?_⟩)
   replace H := H.drew
   refine LdC.i 2 rfl (v := .slice ca cs.length cc) rfl (LdC.i 4 rfl (v := .int .i64 value) rfl (MnC.pure (.agg #[.int .i64 value, .slice none 0 0, .slice none 0 0, .int .i64 0]) (fun _ => by kernel_rfl) ?_))
   refine Nw.as #[.int .i64 value, .slice none 0 0, .slice none 0 0, .int .i64 0] 129 rfl H fun b87 w H => ?_
   refine ⟨.inr (H.pi [1, 2, 3, 4, 5, 6, 8, 9] 10), ?_⟩
   refine Mn.new (fun b => .slice (some ⟨b, 0, none⟩) 1 1) #[.pointer (some ⟨b87, 0, none⟩)] 77 (by kernel_rfl) H fun b88 w H => ?_
   refine ⟨.inr (H.pi [2, 3, 4, 5, 6, 7, 9, 10] 11), ?_⟩
   refine SL.appS H.up8 (.tmp 83) (.tmp 88) 73 (.pointer none) 8 (by rfl) (by kernel_rfl) (by kernel_rfl) (by rfl) (by decide) (by rfl) (some ⟨b88, 0, none⟩) 1 1 [.pointer (some ⟨b87, 0, none⟩)] (by rfl) (H.rdRow 0 rfl (by rfl) (by decide)) (by rfl) (by omega) (by decide) (by decide) fun g7 c7 w H => ?_
   refine ⟨.inr (H.pi [3, 4, 5, 6, 7, 8, 9, 10] 11), ?_⟩
   refine H.st5 (cs' := #[.slice (some ⟨lb, lo, none⟩) l.length lc, ev1, .map (some ml), .map (some mr), .map (some mp), .slice (some ⟨g7, 0, none⟩) (cs.length + 1) c7]) rfl rfl rfl fun w H => ?_
   refine ⟨.inl rfl, ?_⟩
   refine ret0 rfl ?_
   have hc2 : nextE l i ⟨es, la, ru, pa, cs⟩ = ⟨es1, (updN la g i), (updN ru g 1), pa, (cs ++ [⟨value.toNat, [], [], 0⟩])⟩ := by rw [nextE_no hd (show kind ≠ 13 by omega), hs2, kindE_2 h5]
   have q := H.pi [2, 9, 5, 6, 4, 3, 8, 0, 10] 11
   simp only [pl, nth, drL] at q
   have hval := hv h5
   have q2 := chs_snocE hb1 (y := ⟨value.toNat, [], [], 0⟩) (u := .slice none 0 0) (v := .slice none 0 0) (by rw [show ((value.toNat : Nat) : Int) = value by omega]; exact (SL.slcNil 131 2 (SL.slcNil 131 2 q)).pi [2, 0, 1, 3, 4, 5, 6, 7, 8, 9, 10] 11)
   have q3 := q2.pi [1, 2, 3, 4, 5, 6, 0, 7] 8
   simp only [pl, nth, drL] at q3
   rw [ptrs_snoc, show cs.length + 1 = (cs ++ [(⟨value.toNat, [], [], 0⟩ : ChE)]).length by simp] at q3
   rw [hc2]
   exact ⟨rfl, EdP.iff.2 ⟨ev1, _, ml, mr, mp, nq1, nq2, n3, (ps ++ [b87]), ⟨by simp [hb1], by omega, by omega, by omega⟩, q3⟩⟩
  have h4 := eq_of_beq e4
  refine Cn.yes (⟨Drw.oft (.calm 0 (.calm 1 (.calm 2 (.calm 3 (.calm 4 (.calm 5 (.calm 6 (.calm 7 (.calm 8 (.calm 9 (.calm 10 (.calm 11 (.calm 12 (.act 13 false (.pure 14 (.act 15 false (.act 16 true (.pure 17 (.act 18 true .nil))))))))))))))))))) (by kernel_rfl) mixed (fun w => SL w _) (H.drew.pi [2, 3, 4, 6, 7, 8] 9) ?_⟩)
  replace H := H.drew
  refine LdC.i 0 rfl (v := .map (some ml)) rfl (LdC.i 2 rfl (v := .int .i64 mate) rfl (LdC.i 0 rfl (v := .map (some mr)) rfl (LdC.i 2 rfl (v := .int .i64 mate) rfl (Mn.entry H.up1 (by omega) (.tmp 63) (.tmp 65) 72 3 (by rfl) (by kernel_rfl) (by kernel_rfl) (z := .int .i64 0) (fun _ => by kernel_rfl) mate (key_wf (by omega) (by omega)) (by rfl) (by rfl) fun v8 s8 w H => ?_))))
  refine ⟨.inr (H.pi [2, 3, 4, 6, 7, 8] 9), ?_⟩
  refine Mn.estore H (.tmp 63) (.tmp 74) (.tmp 72) 72 (by rfl) (.int .i64 ↑i) (by rfl) (by rfl) (by rfl) fun w H => ?_
  have hob := map_fix (m := (updN la g i)) (k := mate) (v := i) H
  obtain ⟨nq4, hq4, H⟩ := hob
  refine ⟨.inr (H.pi [2, 3, 4, 6, 7, 8] 9), ?_⟩
  refine Mn.entry H.up1 (by omega) (.tmp 69) (.tmp 71) 72 3 (by rfl) (by kernel_rfl) (by kernel_rfl) (z := .int .i64 0) (fun _ => by kernel_rfl) mate (key_wf (by omega) (by omega)) (by rfl) (by rfl) fun v9 s9 w H => ?_
  refine ⟨.inl rfl, ?_⟩
  refine Mn.estore H (.tmp 69) (.tmp 76) (.const (.int .i64 (2))) 72 (by rfl) (.int .i64 2) (by rfl) (by rfl) (by rfl) fun w H => ?_
  have hob := map_fix (m := (updN ru g 1)) (k := mate) (v := 2) H
  obtain ⟨nq5, hq5, H⟩ := hob
  refine ⟨.inl rfl, ?_⟩
  refine ret0 rfl ?_
  have hc2 : nextE l i ⟨es, la, ru, pa, cs⟩ = ⟨es1, (updN (updN la g i) mate i), (updN (updN ru g 1) mate 2), pa, cs⟩ := by rw [nextE_no hd (show kind ≠ 13 by omega), hs2, kindE_1 h4]
  rw [hc2]
  exact ⟨rfl, EdP.iff.2 ⟨ev1, _, ml, mr, mp, nq4, nq5, n3, ps, ⟨hb1, by omega, by omega, by omega⟩, H.pi [2, 3, 1, 0, 5, 6, 7, 8] 9⟩⟩
 have h1 := eq_of_beq e1
 refine Cn.yes (ret0 rfl ?_)
 have hc2 : nextE l i ⟨es, la, ru, pa, cs⟩ = ⟨es, la, ru, pa, cs⟩ := nextE_13 hd h1
 rw [hc2]
 exact ⟨rfl, EdP.iff.2 ⟨ev, _, ml, mr, mp, n1, n2, n3, ps, ⟨hb1, by omega, by omega, by omega⟩, H.pi [1, 2, 3, 4, 5, 6, 7, 8] 9⟩⟩
end Go.Proofs.YtoamjodmidbmbaaGreatDoor
