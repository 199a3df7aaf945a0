/- Texts of the proof. -/
import Derived.Test.YtoamjodmidbmbaaGreatDoorX14
import Derived.Test.YtoamjodmidbmbaaGreatDoorX05
import Derived.Test.YtoamjodmidbmbaaGreatDoorX12
import Derived.Test.YtoamjodmidbmbaaGreatDoorX02
set_option linter.unusedVariables false
set_option linter.unusedSimpArgs false
namespace Go.Proofs.YtoamjodmidbmbaaGreatDoor
open Go.RowKit
set_option maxRecDepth 100000
set_option maxHeartbeats 1000000 in
theorem g_served {w : World} {F : List Piece} {A : Piece} {rb lb lo lc n i : Nat} {l : List Ev} {at_ : Int} {r : RdrM} {e : Ev} (hA : EvA A lb lo l) (hat : at_ = (i : Int)) (hi : i < l.length) (hll : l.length ≤ 100000) (H : SL w (RdrP rb (.slice (some ⟨lb, lo, none⟩) l.length lc) at_ r :: A :: F)) :
  Calls Tryz.prog 150 #[.pointer (some ⟨rb, 0, none⟩), e.agg] w fun o w' => o = .returned (.bool (servedF r (prevF l i) e).1) ∧ SL w' (RdrP rb (.slice (some ⟨lb, lo, none⟩) l.length lc) at_ (servedF r (prevF l i) e).2 :: A :: F) := by
 obtain ⟨crv, mb, ps, hl, H⟩ := RdrP.iff.1 H
 obtain ⟨cr, chans, c, over⟩ := r
 obtain ⟨kind, g, chan, case_, value, mate, send, ok⟩ := e
 dsimp only at hl H 
 cases i with
 | zero =>
  obtain rfl : at_ = 0 := by simpa using hat
  rw [show prevF l 0 = none from rfl]
  refine calls_d (args := [_, _]) Tryz.func150 rfl ?_
  refine ⟨Nw.as #[.int .i64 kind, .int .i64 g, .int .i64 chan, .int .i64 case_, .int .i64 value, .int .i64 mate, .bool send, .bool ok] 53 rfl H fun b3 w H => ?_⟩
  refine ⟨Drw.of [(0, true), (1, true), (2, true), (3, true), (4, true), (5, true), (6, true), (7, true), (8, true), (9, true), (10, true), (11, true), (12, true), (13, true), (14, true), (15, true), (16, true), (17, false), (18, true)] (by kernel_rfl) mixed (fun w => SL w _) H.drew ?_⟩
  replace H := H.drew
  refine LdC.i 1 rfl (v := .int .i64 0) rfl (BB.no rfl (Cn.no (⟨H.ldi 0 rfl (v := .int .i64 kind) rfl ?_⟩)))
  refine BB.vr fun q1 e1 => ?_
  cases q1
  ·have h1 := neq_of e1
   refine Cn.no (⟨H.ldi 0 rfl (v := .int .i64 kind) rfl ?_⟩)
   refine H.ldi 0 rfl (v := .int .i64 g) rfl (H.ldi 0 rfl (v := .int .i64 chan) rfl (H.ldi 0 rfl (v := .int .i64 case_) rfl (H.ldi 0 rfl (v := .int .i64 value) rfl (H.ldi 0 rfl (v := .int .i64 mate) rfl (H.ldi 0 rfl (v := .bool send) rfl (H.ldi 0 rfl (v := .bool ok) rfl (H.st1 (cs' := #[.slice (some ⟨lb, lo, none⟩) l.length lc, .int .i64 0, crv, .map (some mb), .int .i64 kind, .int .i64 c.g, .int .i64 c.chan, .int .i64 c.case_, .int .i64 c.value, .int .i64 c.mate, .bool c.send, .bool c.ok, .bool over]) rfl rfl rfl fun w H => ?_)))))))
   refine H.st1 (cs' := #[.slice (some ⟨lb, lo, none⟩) l.length lc, .int .i64 0, crv, .map (some mb), .int .i64 kind, .int .i64 g, .int .i64 c.chan, .int .i64 c.case_, .int .i64 c.value, .int .i64 c.mate, .bool c.send, .bool c.ok, .bool over]) rfl rfl rfl fun w H => ?_
   refine H.st1 (cs' := #[.slice (some ⟨lb, lo, none⟩) l.length lc, .int .i64 0, crv, .map (some mb), .int .i64 kind, .int .i64 g, .int .i64 chan, .int .i64 c.case_, .int .i64 c.value, .int .i64 c.mate, .bool c.send, .bool c.ok, .bool over]) rfl rfl rfl fun w H => ?_
   refine H.st1 (cs' := #[.slice (some ⟨lb, lo, none⟩) l.length lc, .int .i64 0, crv, .map (some mb), .int .i64 kind, .int .i64 g, .int .i64 chan, .int .i64 case_, .int .i64 c.value, .int .i64 c.mate, .bool c.send, .bool c.ok, .bool over]) rfl rfl rfl fun w H => ?_
   refine H.st1 (cs' := #[.slice (some ⟨lb, lo, none⟩) l.length lc, .int .i64 0, crv, .map (some mb), .int .i64 kind, .int .i64 g, .int .i64 chan, .int .i64 case_, .int .i64 value, .int .i64 c.mate, .bool c.send, .bool c.ok, .bool over]) rfl rfl rfl fun w H => ?_
   refine H.st1 (cs' := #[.slice (some ⟨lb, lo, none⟩) l.length lc, .int .i64 0, crv, .map (some mb), .int .i64 kind, .int .i64 g, .int .i64 chan, .int .i64 case_, .int .i64 value, .int .i64 mate, .bool c.send, .bool c.ok, .bool over]) rfl rfl rfl fun w H => ?_
   refine H.st1 (cs' := #[.slice (some ⟨lb, lo, none⟩) l.length lc, .int .i64 0, crv, .map (some mb), .int .i64 kind, .int .i64 g, .int .i64 chan, .int .i64 case_, .int .i64 value, .int .i64 mate, .bool send, .bool c.ok, .bool over]) rfl rfl rfl fun w H => ?_
   refine H.st1 (cs' := #[.slice (some ⟨lb, lo, none⟩) l.length lc, .int .i64 0, crv, .map (some mb), .int .i64 kind, .int .i64 g, .int .i64 chan, .int .i64 case_, .int .i64 value, .int .i64 mate, .bool send, .bool ok, .bool over]) rfl rfl rfl fun w H => ?_
   refine ⟨ret1 (.bool true) rfl (by rfl) ?_⟩
   have hc : servedF ⟨cr, chans, c, over⟩ none ⟨kind, g, chan, case_, value, mate, send, ok⟩ = (true, ⟨cr, chans, ⟨kind, g, chan, case_, value, mate, send, ok⟩, over⟩) := by first | (simp [servedF, Option.filter, *]; done) | (simp [servedF, Option.filter, wantF, *]; done)
   rw [hc]
   have q := H.pi [1, 2, 3, 4, 5] 6
   simp only [pl, nth, drL] at q
   exact ⟨rfl, RdrP.iff.2 ⟨crv, mb, ps, hl, q⟩⟩
  have h1 := eq_of_beq e1
  subst h1
  refine Cn.yes (⟨Drw.of [(0, true), (1, true), (2, true), (3, true), (4, true), (5, true), (6, true), (7, true), (8, true), (9, true), (10, true), (11, true), (12, true), (13, true), (14, true), (15, true), (16, true), (17, true), (18, true), (19, true), (20, true), (21, true), (22, true), (23, true), (24, true), (25, true), (26, true), (27, true), (28, true), (29, true), (30, true), (31, true), (32, true), (33, true), (34, true), (35, true), (36, true)] (by kernel_rfl) mixed (fun w => SL w _) H.drew ?_⟩)
  replace H := H.drew
  refine LdC.i 1 rfl (v := .int .i64 c.kind) rfl (BB.vr fun q2 e2 => ?_)
  cases q2
  ·have h2 := neq_of e2
   refine ret1 (.bool false) rfl (by rfl) ?_
   have hc : servedF ⟨cr, chans, c, over⟩ none ⟨7, g, chan, case_, value, mate, send, ok⟩ = (false, ⟨cr, chans, c, over⟩) := by first | (simp [servedF, Option.filter, *]; done) | (simp [servedF, Option.filter, wantF, *]; done)
   rw [hc]
   have q := H.pi [1, 2, 3, 4, 5] 6
   simp only [pl, nth, drL] at q
   exact ⟨rfl, RdrP.iff.2 ⟨crv, mb, ps, hl, q⟩⟩
  have h2 := eq_of_beq e2
  refine LdC.i 0 rfl (v := .int .i64 mate) rfl (LdC.i 1 rfl (v := .int .i64 c.g) rfl (BB.vr fun q3 e3 => ?_))
  cases q3
  ·have h3 := neq_of e3
   refine ret1 (.bool false) rfl (by rfl) ?_
   have hc : servedF ⟨cr, chans, c, over⟩ none ⟨7, g, chan, case_, value, mate, send, ok⟩ = (false, ⟨cr, chans, c, over⟩) := by first | (simp [servedF, Option.filter, *]; done) | (simp [servedF, Option.filter, wantF, *]; done)
   rw [hc]
   have q := H.pi [1, 2, 3, 4, 5] 6
   simp only [pl, nth, drL] at q
   exact ⟨rfl, RdrP.iff.2 ⟨crv, mb, ps, hl, q⟩⟩
  have h3 := eq_of_beq e3
  subst h3
  refine LdC.i 0 rfl (v := .int .i64 chan) rfl (LdC.i 1 rfl (v := .int .i64 c.chan) rfl (BB.vr fun q4 e4 => ?_))
  cases q4
  ·have h4 := neq_of e4
   refine ret1 (.bool false) rfl (by rfl) ?_
   have hc : servedF ⟨cr, chans, c, over⟩ none ⟨7, g, chan, case_, value, c.g, send, ok⟩ = (false, ⟨cr, chans, c, over⟩) := by first | (simp [servedF, Option.filter, *]; done) | (simp [servedF, Option.filter, wantF, *]; done)
   rw [hc]
   have q := H.pi [1, 2, 3, 4, 5] 6
   simp only [pl, nth, drL] at q
   exact ⟨rfl, RdrP.iff.2 ⟨crv, mb, ps, hl, q⟩⟩
  have h4 := eq_of_beq e4
  subst h4
  refine LdC.i 0 rfl (v := .bool send) rfl (BB.k (BB.vr fun q5 e5 => ?_))
  cases q5
  ·have h5 : send = true := by simpa using e5
   subst h5
   refine ret1 (.bool false) rfl (by rfl) ?_
   have hc : servedF ⟨cr, chans, c, over⟩ none ⟨7, g, c.chan, case_, value, c.g, true, ok⟩ = (false, ⟨cr, chans, c, over⟩) := by first | (simp [servedF, Option.filter, *]; done) | (simp [servedF, Option.filter, wantF, *]; done)
   rw [hc]
   have q := H.pi [1, 2, 3, 4, 5] 6
   simp only [pl, nth, drL] at q
   exact ⟨rfl, RdrP.iff.2 ⟨crv, mb, ps, hl, q⟩⟩
  have h5 : send = false := by simpa using e5
  subst h5
  refine LdC.i 0 rfl (v := .bool ok) rfl (BB.k (BB.k (ret1 (.bool (!ok)) rfl (by rfl) ?_)))
  have hc : servedF ⟨cr, chans, c, over⟩ none ⟨7, g, c.chan, case_, value, c.g, false, ok⟩ = (!ok, ⟨cr, chans, c, over⟩) := by first | (simp [servedF, Option.filter, *]; done) | (simp [servedF, Option.filter, wantF, *]; done)
  rw [hc]
  have q := H.pi [1, 2, 3, 4, 5] 6
  simp only [pl, nth, drL] at q
  exact ⟨rfl, RdrP.iff.2 ⟨crv, mb, ps, hl, q⟩⟩
 | succ m =>
  obtain rfl : at_ = (m : Int) + 1 := by simpa using hat
  have hs : l[m]? = some l[m] := List.getElem?_eq_getElem _
  obtain ⟨s, hs2⟩ : ∃ s, l[m] = s := ⟨_, rfl⟩
  rw [hs2] at hs
  rw [show prevF l (m + 1) = some s by simp [prevF, hs]]
  clear hs2
  obtain ⟨sk, sg, sc, sca, sv, sm, ss, so⟩ := s
  refine calls_d (args := [_, _]) Tryz.func150 rfl ?_
  refine ⟨Nw.as #[.int .i64 kind, .int .i64 g, .int .i64 chan, .int .i64 case_, .int .i64 value, .int .i64 mate, .bool send, .bool ok] 53 rfl H fun b3 w H => ?_⟩
  refine ⟨Drw.of [(0, true), (1, true), (2, true), (3, true), (4, true), (5, true), (6, true), (7, true), (8, true), (9, true), (10, true), (11, true), (12, true), (13, true), (14, true), (15, true), (16, true), (17, false), (18, true)] (by kernel_rfl) mixed (fun w => SL w _) H.drew ?_⟩
  replace H := H.drew
  refine LdC.i 1 rfl (v := .int .i64 (↑m + 1)) rfl (BB.yes (decide_eq_true (show ((m : Int) + 1 > 0) by omega)) (LdC.i 1 rfl (v := .slice (some ⟨lb, lo, none⟩) l.length lc) rfl (LdC.i 1 rfl (v := .int .i64 (↑m + 1)) rfl (IW.by (m := ↑m) (by rw [show ((m : Int) + 1 - 1) = (m : Int) by omega]; exact wrap_id (by omega) (by omega)) (Ix.at m 8 (by kernel_rfl) (rfl) ((by omega)) ?_)))))
  refine LdC.ev 5 rfl hA m hs (Cl.s (g_serves H ⟨sk, sg, sc, sca, sv, sm, ss, so⟩) fun w H => ?_)
  refine BB.vr fun q1 e1 => ?_
  refine ⟨.inr H, ?_⟩
  cases q1
  ·refine Cn.no (⟨H.ldi 0 rfl (v := .int .i64 kind) rfl ?_⟩)
   refine BB.vr fun q2 e2 => ?_
   cases q2
   ·have h2 := neq_of e2
    refine Cn.no (⟨H.ldi 0 rfl (v := .int .i64 kind) rfl ?_⟩)
    refine H.ldi 0 rfl (v := .int .i64 g) rfl (H.ldi 0 rfl (v := .int .i64 chan) rfl (H.ldi 0 rfl (v := .int .i64 case_) rfl (H.ldi 0 rfl (v := .int .i64 value) rfl (H.ldi 0 rfl (v := .int .i64 mate) rfl (H.ldi 0 rfl (v := .bool send) rfl (H.ldi 0 rfl (v := .bool ok) rfl (H.st1 (cs' := #[.slice (some ⟨lb, lo, none⟩) l.length lc, .int .i64 (↑m + 1), crv, .map (some mb), .int .i64 kind, .int .i64 c.g, .int .i64 c.chan, .int .i64 c.case_, .int .i64 c.value, .int .i64 c.mate, .bool c.send, .bool c.ok, .bool over]) rfl rfl rfl fun w H => ?_)))))))
    refine H.st1 (cs' := #[.slice (some ⟨lb, lo, none⟩) l.length lc, .int .i64 (↑m + 1), crv, .map (some mb), .int .i64 kind, .int .i64 g, .int .i64 c.chan, .int .i64 c.case_, .int .i64 c.value, .int .i64 c.mate, .bool c.send, .bool c.ok, .bool over]) rfl rfl rfl fun w H => ?_
    refine H.st1 (cs' := #[.slice (some ⟨lb, lo, none⟩) l.length lc, .int .i64 (↑m + 1), crv, .map (some mb), .int .i64 kind, .int .i64 g, .int .i64 chan, .int .i64 c.case_, .int .i64 c.value, .int .i64 c.mate, .bool c.send, .bool c.ok, .bool over]) rfl rfl rfl fun w H => ?_
    refine H.st1 (cs' := #[.slice (some ⟨lb, lo, none⟩) l.length lc, .int .i64 (↑m + 1), crv, .map (some mb), .int .i64 kind, .int .i64 g, .int .i64 chan, .int .i64 case_, .int .i64 c.value, .int .i64 c.mate, .bool c.send, .bool c.ok, .bool over]) rfl rfl rfl fun w H => ?_
    refine H.st1 (cs' := #[.slice (some ⟨lb, lo, none⟩) l.length lc, .int .i64 (↑m + 1), crv, .map (some mb), .int .i64 kind, .int .i64 g, .int .i64 chan, .int .i64 case_, .int .i64 value, .int .i64 c.mate, .bool c.send, .bool c.ok, .bool over]) rfl rfl rfl fun w H => ?_
    refine H.st1 (cs' := #[.slice (some ⟨lb, lo, none⟩) l.length lc, .int .i64 (↑m + 1), crv, .map (some mb), .int .i64 kind, .int .i64 g, .int .i64 chan, .int .i64 case_, .int .i64 value, .int .i64 mate, .bool c.send, .bool c.ok, .bool over]) rfl rfl rfl fun w H => ?_
    refine H.st1 (cs' := #[.slice (some ⟨lb, lo, none⟩) l.length lc, .int .i64 (↑m + 1), crv, .map (some mb), .int .i64 kind, .int .i64 g, .int .i64 chan, .int .i64 case_, .int .i64 value, .int .i64 mate, .bool send, .bool c.ok, .bool over]) rfl rfl rfl fun w H => ?_
    refine H.st1 (cs' := #[.slice (some ⟨lb, lo, none⟩) l.length lc, .int .i64 (↑m + 1), crv, .map (some mb), .int .i64 kind, .int .i64 g, .int .i64 chan, .int .i64 case_, .int .i64 value, .int .i64 mate, .bool send, .bool ok, .bool over]) rfl rfl rfl fun w H => ?_
    refine ⟨ret1 (.bool true) rfl (by rfl) ?_⟩
    have hc : servedF ⟨cr, chans, c, over⟩ (some ⟨sk, sg, sc, sca, sv, sm, ss, so⟩) ⟨kind, g, chan, case_, value, mate, send, ok⟩ = (true, ⟨cr, chans, ⟨kind, g, chan, case_, value, mate, send, ok⟩, over⟩) := by first | (simp [servedF, Option.filter, *]; done) | (simp [servedF, Option.filter, wantF, *]; done)
    rw [hc]
    have q := H.pi [1, 2, 3, 4, 5] 6
    simp only [pl, nth, drL] at q
    exact ⟨rfl, RdrP.iff.2 ⟨crv, mb, ps, hl, q⟩⟩
   have h2 := eq_of_beq e2
   subst h2
   refine Cn.yes (⟨Drw.of [(0, true), (1, true), (2, true), (3, true), (4, true), (5, true), (6, true), (7, true), (8, true), (9, true), (10, true), (11, true), (12, true), (13, true), (14, true), (15, true), (16, true), (17, true), (18, true), (19, true), (20, true), (21, true), (22, true), (23, true), (24, true), (25, true), (26, true), (27, true), (28, true), (29, true), (30, true), (31, true), (32, true), (33, true), (34, true), (35, true), (36, true)] (by kernel_rfl) mixed (fun w => SL w _) H.drew ?_⟩)
   replace H := H.drew
   refine LdC.i 1 rfl (v := .int .i64 c.kind) rfl (BB.vr fun q3 e3 => ?_)
   cases q3
   ·have h3 := neq_of e3
    refine ret1 (.bool false) rfl (by rfl) ?_
    have hc : servedF ⟨cr, chans, c, over⟩ (some ⟨sk, sg, sc, sca, sv, sm, ss, so⟩) ⟨7, g, chan, case_, value, mate, send, ok⟩ = (false, ⟨cr, chans, c, over⟩) := by first | (simp [servedF, Option.filter, *]; done) | (simp [servedF, Option.filter, wantF, *]; done)
    rw [hc]
    have q := H.pi [1, 2, 3, 4, 5] 6
    simp only [pl, nth, drL] at q
    exact ⟨rfl, RdrP.iff.2 ⟨crv, mb, ps, hl, q⟩⟩
   have h3 := eq_of_beq e3
   refine LdC.i 0 rfl (v := .int .i64 mate) rfl (LdC.i 1 rfl (v := .int .i64 c.g) rfl (BB.vr fun q4 e4 => ?_))
   cases q4
   ·have h4 := neq_of e4
    refine ret1 (.bool false) rfl (by rfl) ?_
    have hc : servedF ⟨cr, chans, c, over⟩ (some ⟨sk, sg, sc, sca, sv, sm, ss, so⟩) ⟨7, g, chan, case_, value, mate, send, ok⟩ = (false, ⟨cr, chans, c, over⟩) := by first | (simp [servedF, Option.filter, *]; done) | (simp [servedF, Option.filter, wantF, *]; done)
    rw [hc]
    have q := H.pi [1, 2, 3, 4, 5] 6
    simp only [pl, nth, drL] at q
    exact ⟨rfl, RdrP.iff.2 ⟨crv, mb, ps, hl, q⟩⟩
   have h4 := eq_of_beq e4
   subst h4
   refine LdC.i 0 rfl (v := .int .i64 chan) rfl (LdC.i 1 rfl (v := .int .i64 c.chan) rfl (BB.vr fun q5 e5 => ?_))
   cases q5
   ·have h5 := neq_of e5
    refine ret1 (.bool false) rfl (by rfl) ?_
    have hc : servedF ⟨cr, chans, c, over⟩ (some ⟨sk, sg, sc, sca, sv, sm, ss, so⟩) ⟨7, g, chan, case_, value, c.g, send, ok⟩ = (false, ⟨cr, chans, c, over⟩) := by first | (simp [servedF, Option.filter, *]; done) | (simp [servedF, Option.filter, wantF, *]; done)
    rw [hc]
    have q := H.pi [1, 2, 3, 4, 5] 6
    simp only [pl, nth, drL] at q
    exact ⟨rfl, RdrP.iff.2 ⟨crv, mb, ps, hl, q⟩⟩
   have h5 := eq_of_beq e5
   subst h5
   refine LdC.i 0 rfl (v := .bool send) rfl (BB.k (BB.vr fun q6 e6 => ?_))
   cases q6
   ·have h6 : send = true := by simpa using e6
    subst h6
    refine ret1 (.bool false) rfl (by rfl) ?_
    have hc : servedF ⟨cr, chans, c, over⟩ (some ⟨sk, sg, sc, sca, sv, sm, ss, so⟩) ⟨7, g, c.chan, case_, value, c.g, true, ok⟩ = (false, ⟨cr, chans, c, over⟩) := by first | (simp [servedF, Option.filter, *]; done) | (simp [servedF, Option.filter, wantF, *]; done)
    rw [hc]
    have q := H.pi [1, 2, 3, 4, 5] 6
    simp only [pl, nth, drL] at q
    exact ⟨rfl, RdrP.iff.2 ⟨crv, mb, ps, hl, q⟩⟩
   have h6 : send = false := by simpa using e6
   subst h6
   refine LdC.i 0 rfl (v := .bool ok) rfl (BB.k (BB.k (ret1 (.bool (!ok)) rfl (by rfl) ?_)))
   have hc : servedF ⟨cr, chans, c, over⟩ (some ⟨sk, sg, sc, sca, sv, sm, ss, so⟩) ⟨7, g, c.chan, case_, value, c.g, false, ok⟩ = (!ok, ⟨cr, chans, c, over⟩) := by first | (simp [servedF, Option.filter, *]; done) | (simp [servedF, Option.filter, wantF, *]; done)
   rw [hc]
   have q := H.pi [1, 2, 3, 4, 5] 6
   simp only [pl, nth, drL] at q
   exact ⟨rfl, RdrP.iff.2 ⟨crv, mb, ps, hl, q⟩⟩
  refine Cn.yes (⟨Drw.of [(0, true), (1, true), (2, true), (3, true), (4, true), (5, true), (6, true), (7, true), (8, true), (9, true), (10, true), (11, false), (12, false)] (by kernel_rfl) mixed (fun w => SL w _) H.drew ?_⟩)
  replace H := H.drew
  refine LdC.i 1 rfl (v := .slice (some ⟨lb, lo, none⟩) l.length lc) rfl (LdC.i 1 rfl (v := .int .i64 (↑m + 1)) rfl (IW.by (m := ↑m) (by rw [show ((m : Int) + 1 - 1) = (m : Int) by omega]; exact wrap_id (by omega) (by omega)) (Ix.at m 8 (by kernel_rfl) (rfl) ((by omega)) ?_)))
  refine LdC.ev 5 rfl hA m hs (Nw.as ev0C 53 rfl H fun b5 w H => ?_)
  refine ⟨.inr H.tl, ?_⟩
  refine SL.stEv H rfl rfl fun w H => ?_
  refine ⟨.inl rfl, ?_⟩
  refine ⟨H.ldi 0 rfl (v := .int .i64 sm) rfl ?_⟩
  refine H.ldi 0 rfl (v := .int .i64 sc) rfl (H.ldi 1 rfl (v := .int .i64 case_) rfl (H.ldi 1 rfl (v := .int .i64 value) rfl (H.ldi 0 rfl (v := .int .i64 sg) rfl (H.ldi 0 rfl (v := .bool ss) rfl (BB.k (BB.k (Mn.pure (.agg #[.int .i64 7, .int .i64 sm, .int .i64 sc, .int .i64 case_, .int .i64 value, .int .i64 sg, .bool (!ss), .bool true]) (by kernel_rfl) ?_)))))))
  refine Nw.as ev0C 53 rfl H fun b6 w H => ?_
  refine SL.stEv H rfl rfl fun w H => ?_
  refine ⟨H.ldi 1 rfl (v := .bool ss) rfl ?_⟩
  refine BB.k ?_
  cases ss
  ·refine Cn.no (⟨H.ldi 2 rfl (v := .int .i64 kind) rfl ?_⟩)
   refine H.ldi 2 rfl (v := .int .i64 g) rfl (H.ldi 2 rfl (v := .int .i64 chan) rfl (H.ldi 2 rfl (v := .int .i64 case_) rfl (H.ldi 2 rfl (v := .int .i64 value) rfl (H.ldi 2 rfl (v := .int .i64 mate) rfl (H.ldi 2 rfl (v := .bool send) rfl (H.ldi 2 rfl (v := .bool ok) rfl (H.ldi 0 rfl (v := .int .i64 7) rfl (H.ldi 0 rfl (v := .int .i64 sm) rfl (H.ldi 0 rfl (v := .int .i64 sc) rfl (H.ldi 0 rfl (v := .int .i64 case_) rfl (H.ldi 0 rfl (v := .int .i64 value) rfl ?_)))))))))))
   refine H.ldi 0 rfl (v := .int .i64 sg) rfl (H.ldi 0 rfl (v := .bool (!false)) rfl (H.ldi 0 rfl (v := .bool true) rfl (Mn.eqEv ⟨kind, g, chan, case_, value, mate, send, ok⟩ ⟨7, sm, sc, case_, value, sg, !false, true⟩ _ _ _ (by rfl) (by rfl) (by rfl) _ rfl ?_)))
   refine ret1 (.bool (decide ((⟨kind, g, chan, case_, value, mate, send, ok⟩ : Ev) = ⟨7, sm, sc, case_, value, sg, !false, true⟩))) rfl (by rfl) ?_
   have hc : servedF ⟨cr, chans, c, over⟩ (some ⟨sk, sg, sc, sca, sv, sm, false, so⟩) ⟨kind, g, chan, case_, value, mate, send, ok⟩ = (decide ((⟨kind, g, chan, case_, value, mate, send, ok⟩ : Ev) = ⟨7, sm, sc, case_, value, sg, !false, true⟩), ⟨cr, chans, c, over⟩) := by first | (simp [servedF, Option.filter, *]; done) | (simp [servedF, Option.filter, wantF, *]; done)
   rw [hc]
   have q := H.pi [3, 4, 5, 6, 7] 8
   simp only [pl, nth, drL] at q
   exact ⟨rfl, RdrP.iff.2 ⟨crv, mb, ps, hl, q⟩⟩
  refine Cn.yes (⟨H.ldi 1 rfl (v := .int .i64 sv) rfl ?_⟩)
  refine H.st0 (cs' := #[.int .i64 7, .int .i64 sm, .int .i64 sc, .int .i64 case_, .int .i64 sv, .int .i64 sg, .bool (!true), .bool true]) rfl rfl rfl fun w H => ?_
  refine ⟨H.ldi 2 rfl (v := .int .i64 kind) rfl ?_⟩
  refine H.ldi 2 rfl (v := .int .i64 g) rfl (H.ldi 2 rfl (v := .int .i64 chan) rfl (H.ldi 2 rfl (v := .int .i64 case_) rfl (H.ldi 2 rfl (v := .int .i64 value) rfl (H.ldi 2 rfl (v := .int .i64 mate) rfl (H.ldi 2 rfl (v := .bool send) rfl (H.ldi 2 rfl (v := .bool ok) rfl (H.ldi 0 rfl (v := .int .i64 7) rfl (H.ldi 0 rfl (v := .int .i64 sm) rfl (H.ldi 0 rfl (v := .int .i64 sc) rfl (H.ldi 0 rfl (v := .int .i64 case_) rfl (H.ldi 0 rfl (v := .int .i64 sv) rfl ?_)))))))))))
  refine H.ldi 0 rfl (v := .int .i64 sg) rfl (H.ldi 0 rfl (v := .bool (!true)) rfl (H.ldi 0 rfl (v := .bool true) rfl (Mn.eqEv ⟨kind, g, chan, case_, value, mate, send, ok⟩ ⟨7, sm, sc, case_, sv, sg, !true, true⟩ _ _ _ (by rfl) (by rfl) (by rfl) _ rfl ?_)))
  refine ret1 (.bool (decide ((⟨kind, g, chan, case_, value, mate, send, ok⟩ : Ev) = ⟨7, sm, sc, case_, sv, sg, !true, true⟩))) rfl (by rfl) ?_
  have hc : servedF ⟨cr, chans, c, over⟩ (some ⟨sk, sg, sc, sca, sv, sm, true, so⟩) ⟨kind, g, chan, case_, value, mate, send, ok⟩ = (decide ((⟨kind, g, chan, case_, value, mate, send, ok⟩ : Ev) = ⟨7, sm, sc, case_, sv, sg, !true, true⟩), ⟨cr, chans, c, over⟩) := by first | (simp [servedF, Option.filter, *]; done) | (simp [servedF, Option.filter, wantF, *]; done)
  rw [hc]
  have q := H.pi [3, 4, 5, 6, 7] 8
  simp only [pl, nth, drL] at q
  exact ⟨rfl, RdrP.iff.2 ⟨crv, mb, ps, hl, q⟩⟩
theorem g_next {w : World} {L : List Piece} {A : Piece} {rb lb lo lc i mb : Nat} {l : List Ev} {crv : Value} {c : Ev} {over : Bool} (hA : EvA A lb lo l) (hi : i < l.length) (hll : l.length ≤ 100000) (H : SL w L)
  (i1 i2 : Nat) (h1 : L[i1]? = some (rdrRow rb (.slice (some ⟨lb, lo, none⟩) l.length lc) (i : Int) crv mb c over)) (h2 : L[i2]? = some A) (h12 : i1 ≠ i2) {nv : Int} {nt : Bool} (hnv : (nextF l i).getD 0 = nv) (hnt : (nextF l i).isSome = nt) :
  Calls Tryz.prog 168 #[.pointer (some ⟨rb, 0, none⟩)] w fun o w' => o = .returned (.tuple #[.int .i64 nv, .bool nt]) ∧ SL w' L := by
 obtain ⟨R, hR⟩ := perm_two i1 i2 h1 h2 h12
 have key : Calls Tryz.prog 168 #[.pointer (some ⟨rb, 0, none⟩)] w fun o w' => o = .returned (.tuple #[.int .i64 nv, .bool nt]) ∧ SL w' (rdrRow rb (.slice (some ⟨lb, lo, none⟩) l.length lc) (i : Int) crv mb c over :: A :: R) := by
  replace H := H.perm hR
  clear h1 h2 h12 hR
  by_cases hn : i + 1 < l.length
  ·have hs : l[i + 1]? = some l[i + 1] := List.getElem?_eq_getElem _
   obtain ⟨s, hs2⟩ : ∃ s, l[i + 1] = s := ⟨_, rfl⟩
   rw [hs2] at hs
   have hv : nextF l i = some s.value := by simp [nextF, hs]
   clear hs2
   refine calls_d (args := [_]) Tryz.func168 rfl ?_
   refine ⟨⟨Drw.of [(0, true), (1, true), (2, true), (3, true), (4, true), (5, true), (6, true), (7, true), (8, true), (9, true), (10, true)] (by kernel_rfl) mixed (fun w => SL w _) H.drew ?_⟩⟩
   replace H := H.drew
   refine LdC.i 0 rfl (v := .int .i64 ↑i) rfl (IW.by (m := ↑i + 1) (wrap_id (by omega) (by omega)) (LdC.i 0 rfl (v := .slice (some ⟨lb, lo, none⟩) l.length lc) rfl (BB.nd (Cn.no (⟨Drw.of [(0, true), (1, true), (2, true), (3, true), (4, true), (5, true), (6, true), (7, true), (8, true), (9, true), (10, true), (11, true), (12, true), (13, true)] (by kernel_rfl) mixed (fun w => SL w _) H.drew ?_⟩)))))
   replace H := H.drew
   refine LdC.i 0 rfl (v := .slice (some ⟨lb, lo, none⟩) l.length lc) rfl (LdC.i 0 rfl (v := .int .i64 ↑i) rfl (IW.by (m := ↑i + 1) (wrap_id (by omega) (by omega)) (Ix.at (i + 1) 8 (by kernel_rfl) (by omega) (by omega) ?_)))
   refine LdC.E 1 rfl hA (i + 1) 4 hs (v := .int .i64 s.value) rfl (ret2 (.int .i64 s.value) (.bool true) rfl (by rfl) (by rfl) ?_)
   exact ⟨by rw [← hnv, ← hnt, hv]; rfl, H⟩
  ·have hv : nextF l i = none := by simp [nextF]; omega
   refine calls_d (args := [_]) Tryz.func168 rfl ?_
   refine ⟨⟨Drw.of [(0, true), (1, true), (2, true), (3, true), (4, true), (5, true), (6, true), (7, true), (8, true), (9, true), (10, true)] (by kernel_rfl) mixed (fun w => SL w _) H.drew ?_⟩⟩
   replace H := H.drew
   refine LdC.i 0 rfl (v := .int .i64 ↑i) rfl (IW.by (m := ↑i + 1) (wrap_id (by omega) (by omega)) (LdC.i 0 rfl (v := .slice (some ⟨lb, lo, none⟩) l.length lc) rfl (BB.yd (Cn.yes (⟨ret2 (.int .i64 0) (.bool false) rfl (by rfl) (by rfl) ?_⟩)))))
   exact ⟨by rw [← hnv, ← hnt, hv]; rfl, H⟩
 exact key.mono (fun o w' h => ⟨h.1, h.2.perm hR.symm⟩)
def feedF (c : ChnM) (next : Option Int) (e : Ev) : List Int × Bool × Bool :=
  (if e.send = true then c.buf ++ [e.value] else if 0 ≤ e.mate then (match next with | some v => c.buf ++ [v] | none => c.buf) else c.buf,
   if e.send = true then decide (0 ≤ e.mate) else true, !e.send && decide (0 ≤ e.mate) && next.isNone)
theorem takeF_feed (c : ChnM) (next : Option Int) (e : Ev) : takeF c next e = match (feedF c next e).2.1, (feedF c next e).1 with
 | true, v :: L => (v == e.value && decide ((L.length : Int) ≤ c.size), { c with buf := L })
 | _, L => ((!(feedF c next e).2.1 || (feedF c next e).2.2) && decide ((L.length : Int) ≤ c.size), { c with buf := L }) := rfl
theorem feedF_len {c : ChnM} {next : Option Int} {e : Ev} {Y : List Int} {b : Bool × Bool} (h : feedF c next e = (Y, b)) (hc : c.buf.length ≤ 1000000) : Y.length < 100000000 := by
 unfold feedF at h
 injection h with h _
 subst h
 split
 ·simp; omega
 ·split
  ·split
   ·simp; omega
   ·omega
  ·omega
theorem ints_oneG (a : List Int) (v : Int) : ints a ++ [.int .i64 v] = ints (a ++ [v]) := by simp [ints]
theorem reader_set {w : World} {F : List Piece} {A B C : Piece} {ps : List Nat} {chans : List ChnM} {k p : Nat} {x y : ChnM} {v : Value} {mb : Nat} (hl : ps.length = chans.length) (hp : ps[k]? = some p) (hx : chans[k]? = some x)
  (H : SL w (A :: B :: MapP 3 mb chans.length (chMap ps) :: row p #[.int .i64 y.size, v, .bool y.closed] 241 :: Qu 3 1 v y.buf.length (ints y.buf) :: all ((List.zipWith chP ps chans).eraseIdx k) :: C :: F)) :
  SL w (A :: B :: MapP 3 mb (chans.set k y).length (chMap ps) :: chsP ps (chans.set k y) :: C :: F) := by
 have h := H.pi [3, 4, 5, 0, 1, 2, 6] 7
 simp only [pl, nth, drL] at h
 have h2 := (chs_put hl hp hx h).pi [1, 2, 3, 0, 4] 5
 simp only [pl, nth, drL] at h2
 rw [List.length_set]
 exact h2
theorem set_sameG {α : Type} : ∀ {l : List α} {k : Nat} {x : α}, l[k]? = some x → l.set k x = l
 | [], _, _, h => by simp at h
 | a :: l, 0, x, h => by simp at h; simp [h]
 | a :: l, k + 1, x, h => by rw [List.set_cons_succ, set_sameG (by simpa using h)]
theorem reader_back {w : World} {F : List Piece} {A B C : Piece} {ps : List Nat} {chans : List ChnM} {k p : Nat} {x : ChnM} {v : Value} {mb : Nat} (hl : ps.length = chans.length) (hp : ps[k]? = some p) (hx : chans[k]? = some x)
  (H : SL w (A :: B :: MapP 3 mb chans.length (chMap ps) :: row p #[.int .i64 x.size, v, .bool x.closed] 241 :: Qu 3 1 v x.buf.length (ints x.buf) :: all ((List.zipWith chP ps chans).eraseIdx k) :: C :: F)) :
  SL w (A :: B :: MapP 3 mb chans.length (chMap ps) :: chsP ps chans :: C :: F) := by
 have h := reader_set hl hp hx H
 rw [set_sameG hx] at h
 exact h
set_option maxHeartbeats 2000000 in
theorem g_ordered {w : World} {F : List Piece} {A : Piece} {rb lb lo lc n i : Nat} {l : List Ev} {at_ : Int} {r : RdrM} {e : Ev} (hA : EvA A lb lo l) (hat : at_ = (i : Int)) (hi : i < l.length) (hll : l.length ≤ 100000) (B : EvB e) (hs : Sized n r) (hn : n < 1000000) (H : SL w (RdrP rb (.slice (some ⟨lb, lo, none⟩) l.length lc) at_ r :: A :: F)) :
  Calls Tryz.prog 151 #[.pointer (some ⟨rb, 0, none⟩), e.agg] w fun o w' => o = .returned (.bool (orderedF r (nextF l i) e).1) ∧ SL w' (RdrP rb (.slice (some ⟨lb, lo, none⟩) l.length lc) at_ (orderedF r (nextF l i) e).2 :: A :: F) := by
 subst hat
 obtain ⟨crv, mb, ps, hl, H⟩ := RdrP.iff.1 H
 obtain ⟨cr, chans, c, over⟩ := r
 obtain ⟨kind, g, chan, case_, value, mate, send, ok⟩ := e
 dsimp only at hl H 
 cases hf : chanF ⟨cr, chans, c, over⟩ chan with
 | none =>
  have hm := chMap_none hl (r := ⟨cr, chans, c, over⟩) rfl hf
  refine calls_d (args := [_, _]) Tryz.func151 rfl ?_
  refine ⟨Nw.as #[.int .i64 kind, .int .i64 g, .int .i64 chan, .int .i64 case_, .int .i64 value, .int .i64 mate, .bool send, .bool ok] 53 rfl H fun b3 w H => ?_⟩
  refine ⟨Drw.of [(0, true), (1, true), (2, true), (3, true), (4, true), (5, true), (6, true), (7, true)] (by kernel_rfl) mixed (fun w => SL w _) H.drew ?_⟩
  replace H := H.drew
  refine LdC.i 1 rfl (v := .map (some mb)) rfl (LdC.i 0 rfl (v := .int .i64 chan) rfl (MnC.lookV 3 rfl (.tmp 14) (.tmp 16) 169 239 (by rfl) (by kernel_rfl) (by kernel_rfl) (z := .pointer none) (fun _ => by kernel_rfl) chan (key_wf (by have := B.chan; dsimp only at this; omega) (by have := B.chan; dsimp only at this; omega)) (by rfl) (by rfl) (.pointer none) (by rw [hm]; rfl) ?_))
  refine ⟨BB.yes rfl ?_⟩
  refine Cn.yes (⟨ret1 (.bool true) rfl (by rfl) ?_⟩)
  exact ⟨by rw [orderedF, hf], by rw [show (orderedF ⟨cr, chans, c, over⟩ (nextF l i) ⟨kind, g, chan, case_, value, mate, send, ok⟩).2 = ⟨cr, chans, c, over⟩ by rw [orderedF, hf]]; exact RdrP.iff.2 ⟨crv, mb, ps, hl, H.tl⟩⟩
 | some x =>
  obtain ⟨k, p, hk, hx, hp, hm⟩ := chMap_some hl (r := ⟨cr, chans, c, over⟩) rfl hf
  obtain ⟨nv, hnv⟩ : ∃ v, (nextF l i).getD 0 = v := ⟨_, rfl⟩
  obtain ⟨nt, hnt⟩ : ∃ v, (nextF l i).isSome = v := ⟨_, rfl⟩
  have hxb : x.buf.length ≤ 1000000 := Nat.le_trans (hs.buf x (List.mem_of_getElem? hx)) (by omega)
  have hkt : chan.toNat = k := by rw [hk]; rfl
  clear hk
  have H0 := H.up3
  obtain ⟨v, H1⟩ := chs_take hl hp hx H0
  obtain ⟨qa, qc, rfl⟩ := SL.quForm H1.up1
  replace H := H1.pi [3, 4, 5, 0, 1, 2] 6
  simp only [pl, nth, drL] at H
  clear H0 H1
  refine calls_d (args := [_, _]) Tryz.func151 rfl ?_
  refine ⟨Nw.as #[.int .i64 kind, .int .i64 g, .int .i64 chan, .int .i64 case_, .int .i64 value, .int .i64 mate, .bool send, .bool ok] 53 rfl H fun b3 w H => ?_⟩
  refine ⟨Drw.of [(0, true), (1, true), (2, true), (3, true), (4, true), (5, true), (6, true), (7, true)] (by kernel_rfl) mixed (fun w => SL w _) H.drew ?_⟩
  replace H := H.drew
  refine LdC.i 1 rfl (v := .map (some mb)) rfl (LdC.i 0 rfl (v := .int .i64 chan) rfl (MnC.lookV 3 rfl (.tmp 14) (.tmp 16) 169 239 (by rfl) (by kernel_rfl) (by kernel_rfl) (z := .pointer none) (fun _ => by kernel_rfl) chan (key_wf (by have := B.chan; dsimp only at this; omega) (by have := B.chan; dsimp only at this; omega)) (by rfl) (by rfl) (.pointer (some ⟨p, 0, none⟩)) (by rw [hm]; rfl) ?_))
  refine ⟨BB.no rfl ?_⟩
  refine H.ldi 0 rfl (v := .int .i64 kind) rfl (BB.vr fun q1 e1 => ?_)
  cases q1
  ·have h1 := bne_eq_false_iff_eq.1 e1
   subst h1
   refine Cn.no (⟨⟨H.ldi 0 rfl (v := .bool send) rfl ?_⟩⟩)
   refine BB.k ?_
   refine CdX.cut (ι := List Int × Option Addr × Nat × Bool × Bool) [(6, 9), (37, 71)] (by kernel_rfl) (fun (Y, ya, yc, TK, MS) => [(6, .bool TK), (7, .bool MS)]) (fun (Y, ya, yc, TK, MS) w => feedF x (nextF l i) ⟨3, g, chan, case_, value, mate, send, ok⟩ = (Y, TK, MS) ∧ SL w (row b3 #[.int .i64 3, .int .i64 g, .int .i64 chan, .int .i64 case_, .int .i64 value, .int .i64 mate, .bool send, .bool ok] 53 :: row rb #[.slice (some ⟨lb, lo, none⟩) l.length lc, .int .i64 ↑i, crv, .map (some mb), .int .i64 c.kind, .int .i64 c.g, .int .i64 c.chan, .int .i64 c.case_, .int .i64 c.value, .int .i64 c.mate, .bool c.send, .bool c.ok, .bool over] 171 :: Slc 237 2 crv cr.length (crewC cr) :: MapP 3 mb chans.length (chMap ps) :: row p #[.int .i64 x.size, .slice ya Y.length yc, .bool x.closed] 241 :: Qu 3 1 (.slice ya Y.length yc) Y.length (ints Y) :: all ((List.zipWith chP ps chans).eraseIdx k) :: A :: F)) ?_ ?_
   ·cases send
    ·refine Cn.no (⟨H.ldi 0 rfl (v := .int .i64 mate) rfl ?_⟩)
     refine BB.vr fun q2 e2 => ?_
     cases q2
     ·have h2 := of_decide_eq_false e2
      refine Cn.no ?_
      have q := H.pi [0, 1, 2, 3, 4, 5, 6, 7] 8
      simp only [pl, nth, drL] at q
      have hy : feedF x (nextF l i) ⟨3, g, chan, case_, value, mate, false, ok⟩ = (x.buf, true, false) := by first | (simp [feedF, *]; done) | (cases hnx : nextF l i <;> simp_all [feedF])
      exact ⟨(x.buf, qa, qc, true, false), ⟨rfl, rfl, trivial⟩, hy, q⟩
     have h2 := of_decide_eq_true e2
     refine Cn.yes (⟨Cl.s (g_next hA hi hll H 1 7 rfl rfl (by decide) hnv hnt) fun w H => ?_⟩)
     refine ⟨?_⟩
     cases nt
     ·refine Cn.no (⟨BB.yes rfl ?_⟩)
      have q := H.pi [0, 1, 2, 3, 4, 5, 6, 7] 8
      simp only [pl, nth, drL] at q
      have hy : feedF x (nextF l i) ⟨3, g, chan, case_, value, mate, false, ok⟩ = (x.buf, true, true) := by first | (simp [feedF, *]; done) | (cases hnx : nextF l i <;> simp_all [feedF])
      exact ⟨(x.buf, qa, qc, true, true), ⟨rfl, rfl, trivial⟩, hy, q⟩
     refine Cn.yes (⟨H.ldi 4 rfl (v := .slice qa x.buf.length qc) rfl ?_⟩)
     refine Mn.new (fun b => .slice (some ⟨b, 0, none⟩) 1 1) #[.int .i64 nv] 3 (by kernel_rfl) H fun b66 w H => ?_
     refine SL.appQs H.up6 (.tmp 64) (.tmp 66) 67 (.int .i64 0) 8 (by rfl) (by kernel_rfl) (by kernel_rfl) (by rfl) (by decide) (by rfl) ⟨b66, 0, none⟩ 1 1 [.int .i64 nv] (by rfl) (H.rdRow 0 rfl (by rfl) (by decide)) (by decide) (by rfl) (by omega) (by decide) fun g3 o3 c3 w H => ?_
     refine H.st6 (cs' := #[.int .i64 x.size, .slice (some ⟨g3, o3, none⟩) (x.buf.length + 1) c3, .bool x.closed]) rfl rfl rfl fun w H => ?_
     refine ⟨BB.no rfl ?_⟩
     have q := H.pi [2, 3, 4, 5, 6, 0, 7, 8] 9
     simp only [pl, nth, drL] at q
     have hy : feedF x (nextF l i) ⟨3, g, chan, case_, value, mate, false, ok⟩ = ((x.buf ++ [nv]), true, false) := by first | (simp [feedF, *]; done) | (cases hnx : nextF l i <;> simp_all [feedF])
     rw [ints_oneG] at q
     rw [show x.buf.length + 1 = (x.buf ++ [nv]).length by simp] at q
     exact ⟨((x.buf ++ [nv]), (some ⟨g3, o3, none⟩), c3, true, false), ⟨rfl, rfl, trivial⟩, hy, q⟩
    refine Cn.yes (⟨Drw.of [(0, true), (1, true), (2, true), (3, true), (4, true), (5, true), (6, true), (7, false), (8, false), (9, true), (10, true), (11, false)] (by kernel_rfl) mixed (fun w => SL w _) (H.drew.pi [0, 1, 2, 3, 4, 6, 7] 8) ?_⟩)
    replace H := H.drew
    refine LdC.i 4 rfl (v := .slice qa x.buf.length qc) rfl (LdC.i 0 rfl (v := .int .i64 value) rfl (Mn.new (fun b => .slice (some ⟨b, 0, none⟩) 1 1) #[.int .i64 value] 3 (by kernel_rfl) H fun b44 w H => ?_))
    refine ⟨.inr (H.pi [1, 2, 3, 4, 5, 7, 8] 9), ?_⟩
    refine SL.appQs H.up6 (.tmp 41) (.tmp 44) 67 (.int .i64 0) 8 (by rfl) (by kernel_rfl) (by kernel_rfl) (by rfl) (by decide) (by rfl) ⟨b44, 0, none⟩ 1 1 [.int .i64 value] (by rfl) (H.rdRow 0 rfl (by rfl) (by decide)) (by decide) (by rfl) (by omega) (by decide) fun g4 o4 c4 w H => ?_
    refine ⟨.inr (H.pi [2, 3, 4, 5, 6, 7, 8] 9), ?_⟩
    refine H.st6 (cs' := #[.int .i64 x.size, .slice (some ⟨g4, o4, none⟩) (x.buf.length + 1) c4, .bool x.closed]) rfl rfl rfl fun w H => ?_
    refine ⟨.inl rfl, ?_⟩
    refine ⟨H.ldi 2 rfl (v := .int .i64 mate) rfl ?_⟩
    refine BB.vr fun q5 e5 => ?_
    have q := H.pi [2, 3, 4, 5, 6, 0, 7, 8] 9
    simp only [pl, nth, drL] at q
    have hy : feedF x (nextF l i) ⟨3, g, chan, case_, value, mate, true, ok⟩ = ((x.buf ++ [value]), q5, false) := by first | (simp [feedF, *]; done) | (cases hnx : nextF l i <;> simp_all [feedF])
    rw [ints_oneG] at q
    rw [show x.buf.length + 1 = (x.buf ++ [value]).length by simp] at q
    exact ⟨((x.buf ++ [value]), (some ⟨g4, o4, none⟩), c4, q5, false), ⟨rfl, rfl, trivial⟩, hy, q⟩
   rintro ⟨Y, ya, yc, TK, MS⟩ s w ⟨hy, H⟩
   have hYl : Y.length < 100000000 := feedF_len hy hxb
   cases Y with
   | nil =>
    refine ⟨?_⟩
    cases TK
    ·refine Cn.no (⟨Drw.of [(0, true), (1, true), (2, true), (3, true), (4, true), (5, true), (6, true), (7, true), (8, true), (9, true), (10, true), (11, true), (12, true), (13, true), (14, true), (15, true), (16, true), (17, true)] (by kernel_rfl) mixed (fun w => SL w _) H.drew ?_⟩)
     replace H := H.drew
     refine BB.yes rfl (LdC.i 4 rfl (v := .slice ya 0 yc) rfl (LdC.i 4 rfl (v := .int .i64 x.size) rfl (BB.k (ret1 (.bool (decide (0 ≤ x.size))) rfl (by rfl) ?_))))
     have q := H.pi [1, 2, 3, 4, 5, 6, 7] 8
     simp only [pl, nth, drL] at q
     have hT : takeF x (nextF l i) ⟨3, g, chan, case_, value, mate, send, ok⟩ = (decide (0 ≤ x.size), { x with buf := [] }) := by rw [takeF_feed, hy]; simp [*]
     have hO : orderedF ⟨cr, chans, c, over⟩ (nextF l i) ⟨3, g, chan, case_, value, mate, send, ok⟩ = (decide (0 ≤ x.size), ⟨cr, chans.set k { x with buf := [] }, c, over⟩) := by rw [orderedF, hf]; simp [*]
     rw [hO]
     exact ⟨rfl, RdrP.iff.2 ⟨crv, mb, ps, by simpa using hl, reader_set (y := { x with buf := [] }) hl hp hx q⟩⟩
    refine H.ldi 4 rfl (v := .slice ya 0 yc) rfl (BB.no rfl (Cn.no (⟨Drw.of [(0, true), (1, true), (2, true), (3, true), (4, true), (5, true), (6, true), (7, true), (8, true), (9, true), (10, true), (11, true), (12, true), (13, true), (14, true), (15, true), (16, true), (17, true)] (by kernel_rfl) mixed (fun w => SL w _) H.drew ?_⟩)))
    replace H := H.drew
    refine BB.no rfl ?_
    cases MS
    ·refine ret1 (.bool false) rfl (by rfl) ?_
     have q := H.pi [1, 2, 3, 4, 5, 6, 7] 8
     simp only [pl, nth, drL] at q
     have hT : takeF x (nextF l i) ⟨3, g, chan, case_, value, mate, send, ok⟩ = (false, { x with buf := [] }) := by rw [takeF_feed, hy]; simp [*]
     have hO : orderedF ⟨cr, chans, c, over⟩ (nextF l i) ⟨3, g, chan, case_, value, mate, send, ok⟩ = (false, ⟨cr, chans.set k { x with buf := [] }, c, over⟩) := by rw [orderedF, hf]; simp [*]
     rw [hO]
     exact ⟨rfl, RdrP.iff.2 ⟨crv, mb, ps, by simpa using hl, reader_set (y := { x with buf := [] }) hl hp hx q⟩⟩
    refine LdC.i 4 rfl (v := .slice ya 0 yc) rfl (LdC.i 4 rfl (v := .int .i64 x.size) rfl (BB.k (ret1 (.bool (decide (0 ≤ x.size))) rfl (by rfl) ?_)))
    have q := H.pi [1, 2, 3, 4, 5, 6, 7] 8
    simp only [pl, nth, drL] at q
    have hT : takeF x (nextF l i) ⟨3, g, chan, case_, value, mate, send, ok⟩ = (decide (0 ≤ x.size), { x with buf := [] }) := by rw [takeF_feed, hy]; simp [*]
    have hO : orderedF ⟨cr, chans, c, over⟩ (nextF l i) ⟨3, g, chan, case_, value, mate, send, ok⟩ = (decide (0 ≤ x.size), ⟨cr, chans.set k { x with buf := [] }, c, over⟩) := by rw [orderedF, hf]; simp [*]
    rw [hO]
    exact ⟨rfl, RdrP.iff.2 ⟨crv, mb, ps, by simpa using hl, reader_set (y := { x with buf := [] }) hl hp hx q⟩⟩
   | cons y0 Y =>
    have hob := SL.quAddr H.up5 (Nat.succ_pos _)
    obtain ⟨yg, yo, rfl⟩ := hob
    refine ⟨?_⟩
    cases TK
    ·refine Cn.no (⟨Drw.of [(0, true), (1, true), (2, true), (3, true), (4, true), (5, true), (6, true), (7, true), (8, true), (9, true), (10, true), (11, true), (12, true), (13, true), (14, true), (15, true), (16, true), (17, true)] (by kernel_rfl) mixed (fun w => SL w _) H.drew ?_⟩)
     replace H := H.drew
     refine BB.yes rfl (LdC.i 4 rfl (v := .slice (some ⟨yg, yo, none⟩) (Y.length + 1) yc) rfl (LdC.i 4 rfl (v := .int .i64 x.size) rfl (BB.k (ret1 (.bool (decide ((↑(Y.length + 1) : Int) ≤ x.size))) rfl (by rfl) ?_))))
     have q := H.pi [1, 2, 3, 4, 5, 6, 7] 8
     simp only [pl, nth, drL] at q
     have hT : takeF x (nextF l i) ⟨3, g, chan, case_, value, mate, send, ok⟩ = (decide ((↑(Y.length + 1) : Int) ≤ x.size), { x with buf := (y0 :: Y) }) := by rw [takeF_feed, hy]; simp [*]
     have hO : orderedF ⟨cr, chans, c, over⟩ (nextF l i) ⟨3, g, chan, case_, value, mate, send, ok⟩ = (decide ((↑(Y.length + 1) : Int) ≤ x.size), ⟨cr, chans.set k { x with buf := (y0 :: Y) }, c, over⟩) := by rw [orderedF, hf]; simp [*]
     rw [hO]
     exact ⟨rfl, RdrP.iff.2 ⟨crv, mb, ps, by simpa using hl, reader_set (y := { x with buf := (y0 :: Y) }) hl hp hx q⟩⟩
    refine H.ldi 4 rfl (v := .slice (some ⟨yg, yo, none⟩) (Y.length + 1) yc) rfl (BB.yes (decide_eq_true (show ((Y.length + 1 : Nat) : Int) > 0 by omega)) (Cn.yes (⟨H.ldi 4 rfl (v := .slice (some ⟨yg, yo, none⟩) (Y.length + 1) yc) rfl ?_⟩)))
    refine Ix.at 0 1 (by kernel_rfl) (rfl) (Nat.succ_pos _) ?_
    refine H.ldQ 5 rfl (o := 0 * 1) (v := .int .i64 y0) (rfl) (⟨H.ldi 4 rfl (v := .slice (some ⟨yg, yo, none⟩) (Y.length + 1) yc) rfl ?_⟩)
    refine Mn.tails H.up5 (.tmp 91) (.const (.int .i64 1)) 67 (by rfl) (by kernel_rfl) (by kernel_rfl) (by rfl) (by rfl) fun a6 c6 w H => ?_
    refine H.st5 (cs' := #[.int .i64 x.size, .slice a6 Y.length c6, .bool x.closed]) rfl rfl rfl fun w H => ?_
    refine ⟨Drw.of [(0, true), (1, true), (2, true), (3, true), (4, true), (5, true), (6, true), (7, true), (8, true), (9, true), (10, true), (11, true), (12, true), (13, true), (14, true), (15, true), (16, true)] (by kernel_rfl) mixed (fun w => SL w _) H.drew ?_⟩
    replace H := H.drew
    refine LdC.i 1 rfl (v := .int .i64 value) rfl (BB.vr fun q7 e7 => ?_)
    cases q7
    ·have h7 := neq_of e7
     refine ret1 (.bool false) rfl (by rfl) ?_
     have q := H.pi [2, 3, 4, 5, 0, 6, 7] 8
     simp only [pl, nth, drL] at q
     have hT : takeF x (nextF l i) ⟨3, g, chan, case_, value, mate, send, ok⟩ = (false, { x with buf := Y }) := by rw [takeF_feed, hy]; simp [*]
     have hO : orderedF ⟨cr, chans, c, over⟩ (nextF l i) ⟨3, g, chan, case_, value, mate, send, ok⟩ = (false, ⟨cr, chans.set k { x with buf := Y }, c, over⟩) := by rw [orderedF, hf]; simp [*]
     rw [hO]
     exact ⟨rfl, RdrP.iff.2 ⟨crv, mb, ps, by simpa using hl, reader_set (y := { x with buf := Y }) hl hp hx q⟩⟩
    have h7 := eq_of_beq e7
    refine LdC.i 5 rfl (v := .slice a6 Y.length c6) rfl (LdC.i 5 rfl (v := .int .i64 x.size) rfl (BB.k (ret1 (.bool (decide ((↑Y.length : Int) ≤ x.size))) rfl (by rfl) ?_)))
    have q := H.pi [2, 3, 4, 5, 0, 6, 7] 8
    simp only [pl, nth, drL] at q
    have hT : takeF x (nextF l i) ⟨3, g, chan, case_, value, mate, send, ok⟩ = (decide ((↑Y.length : Int) ≤ x.size), { x with buf := Y }) := by rw [takeF_feed, hy]; simp [*]
    have hO : orderedF ⟨cr, chans, c, over⟩ (nextF l i) ⟨3, g, chan, case_, value, mate, send, ok⟩ = (decide ((↑Y.length : Int) ≤ x.size), ⟨cr, chans.set k { x with buf := Y }, c, over⟩) := by rw [orderedF, hf]; simp [*]
    rw [hO]
    exact ⟨rfl, RdrP.iff.2 ⟨crv, mb, ps, by simpa using hl, reader_set (y := { x with buf := Y }) hl hp hx q⟩⟩
  have h1 := bne_iff_ne.1 e1
  refine H.ldi 0 rfl (v := .int .i64 kind) rfl (BB.vr fun q8 e8 => ?_)
  cases q8
  ·have h8 := bne_eq_false_iff_eq.1 e8
   subst h8
   refine H.ldi 0 rfl (v := .bool ok) rfl (BB.k (BB.vr fun q9 e9 => ?_))
   cases q9
   ·have h9 : ok = true := by simpa using e9
    subst h9
    refine Cn.no (⟨⟨H.ldi 0 rfl (v := .bool send) rfl ?_⟩⟩)
    refine BB.k ?_
    refine CdX.cut (ι := List Int × Option Addr × Nat × Bool × Bool) [(6, 9), (37, 71)] (by kernel_rfl) (fun (Y, ya, yc, TK, MS) => [(6, .bool TK), (7, .bool MS)]) (fun (Y, ya, yc, TK, MS) w => feedF x (nextF l i) ⟨4, g, chan, case_, value, mate, send, true⟩ = (Y, TK, MS) ∧ SL w (row b3 #[.int .i64 4, .int .i64 g, .int .i64 chan, .int .i64 case_, .int .i64 value, .int .i64 mate, .bool send, .bool true] 53 :: row rb #[.slice (some ⟨lb, lo, none⟩) l.length lc, .int .i64 ↑i, crv, .map (some mb), .int .i64 c.kind, .int .i64 c.g, .int .i64 c.chan, .int .i64 c.case_, .int .i64 c.value, .int .i64 c.mate, .bool c.send, .bool c.ok, .bool over] 171 :: Slc 237 2 crv cr.length (crewC cr) :: MapP 3 mb chans.length (chMap ps) :: row p #[.int .i64 x.size, .slice ya Y.length yc, .bool x.closed] 241 :: Qu 3 1 (.slice ya Y.length yc) Y.length (ints Y) :: all ((List.zipWith chP ps chans).eraseIdx k) :: A :: F)) ?_ ?_
    ·cases send
     ·refine Cn.no (⟨H.ldi 0 rfl (v := .int .i64 mate) rfl ?_⟩)
      refine BB.vr fun q10 e10 => ?_
      cases q10
      ·have h10 := of_decide_eq_false e10
       refine Cn.no ?_
       have q := H.pi [0, 1, 2, 3, 4, 5, 6, 7] 8
       simp only [pl, nth, drL] at q
       have hy : feedF x (nextF l i) ⟨4, g, chan, case_, value, mate, false, true⟩ = (x.buf, true, false) := by first | (simp [feedF, *]; done) | (cases hnx : nextF l i <;> simp_all [feedF])
       exact ⟨(x.buf, qa, qc, true, false), ⟨rfl, rfl, trivial⟩, hy, q⟩
      have h10 := of_decide_eq_true e10
      refine Cn.yes (⟨Cl.s (g_next hA hi hll H 1 7 rfl rfl (by decide) hnv hnt) fun w H => ?_⟩)
      refine ⟨?_⟩
      cases nt
      ·refine Cn.no (⟨BB.yes rfl ?_⟩)
       have q := H.pi [0, 1, 2, 3, 4, 5, 6, 7] 8
       simp only [pl, nth, drL] at q
       have hy : feedF x (nextF l i) ⟨4, g, chan, case_, value, mate, false, true⟩ = (x.buf, true, true) := by first | (simp [feedF, *]; done) | (cases hnx : nextF l i <;> simp_all [feedF])
       exact ⟨(x.buf, qa, qc, true, true), ⟨rfl, rfl, trivial⟩, hy, q⟩
      refine Cn.yes (⟨H.ldi 4 rfl (v := .slice qa x.buf.length qc) rfl ?_⟩)
      refine Mn.new (fun b => .slice (some ⟨b, 0, none⟩) 1 1) #[.int .i64 nv] 3 (by kernel_rfl) H fun b66 w H => ?_
      refine SL.appQs H.up6 (.tmp 64) (.tmp 66) 67 (.int .i64 0) 8 (by rfl) (by kernel_rfl) (by kernel_rfl) (by rfl) (by decide) (by rfl) ⟨b66, 0, none⟩ 1 1 [.int .i64 nv] (by rfl) (H.rdRow 0 rfl (by rfl) (by decide)) (by decide) (by rfl) (by omega) (by decide) fun g11 o11 c11 w H => ?_
      refine H.st6 (cs' := #[.int .i64 x.size, .slice (some ⟨g11, o11, none⟩) (x.buf.length + 1) c11, .bool x.closed]) rfl rfl rfl fun w H => ?_
      refine ⟨BB.no rfl ?_⟩
      have q := H.pi [2, 3, 4, 5, 6, 0, 7, 8] 9
      simp only [pl, nth, drL] at q
      have hy : feedF x (nextF l i) ⟨4, g, chan, case_, value, mate, false, true⟩ = ((x.buf ++ [nv]), true, false) := by first | (simp [feedF, *]; done) | (cases hnx : nextF l i <;> simp_all [feedF])
      rw [ints_oneG] at q
      rw [show x.buf.length + 1 = (x.buf ++ [nv]).length by simp] at q
      exact ⟨((x.buf ++ [nv]), (some ⟨g11, o11, none⟩), c11, true, false), ⟨rfl, rfl, trivial⟩, hy, q⟩
     refine Cn.yes (⟨Drw.of [(0, true), (1, true), (2, true), (3, true), (4, true), (5, true), (6, true), (7, false), (8, false), (9, true), (10, true), (11, false)] (by kernel_rfl) mixed (fun w => SL w _) (H.drew.pi [0, 1, 2, 3, 4, 6, 7] 8) ?_⟩)
     replace H := H.drew
     refine LdC.i 4 rfl (v := .slice qa x.buf.length qc) rfl (LdC.i 0 rfl (v := .int .i64 value) rfl (Mn.new (fun b => .slice (some ⟨b, 0, none⟩) 1 1) #[.int .i64 value] 3 (by kernel_rfl) H fun b44 w H => ?_))
     refine ⟨.inr (H.pi [1, 2, 3, 4, 5, 7, 8] 9), ?_⟩
     refine SL.appQs H.up6 (.tmp 41) (.tmp 44) 67 (.int .i64 0) 8 (by rfl) (by kernel_rfl) (by kernel_rfl) (by rfl) (by decide) (by rfl) ⟨b44, 0, none⟩ 1 1 [.int .i64 value] (by rfl) (H.rdRow 0 rfl (by rfl) (by decide)) (by decide) (by rfl) (by omega) (by decide) fun g12 o12 c12 w H => ?_
     refine ⟨.inr (H.pi [2, 3, 4, 5, 6, 7, 8] 9), ?_⟩
     refine H.st6 (cs' := #[.int .i64 x.size, .slice (some ⟨g12, o12, none⟩) (x.buf.length + 1) c12, .bool x.closed]) rfl rfl rfl fun w H => ?_
     refine ⟨.inl rfl, ?_⟩
     refine ⟨H.ldi 2 rfl (v := .int .i64 mate) rfl ?_⟩
     refine BB.vr fun q13 e13 => ?_
     have q := H.pi [2, 3, 4, 5, 6, 0, 7, 8] 9
     simp only [pl, nth, drL] at q
     have hy : feedF x (nextF l i) ⟨4, g, chan, case_, value, mate, true, true⟩ = ((x.buf ++ [value]), q13, false) := by first | (simp [feedF, *]; done) | (cases hnx : nextF l i <;> simp_all [feedF])
     rw [ints_oneG] at q
     rw [show x.buf.length + 1 = (x.buf ++ [value]).length by simp] at q
     exact ⟨((x.buf ++ [value]), (some ⟨g12, o12, none⟩), c12, q13, false), ⟨rfl, rfl, trivial⟩, hy, q⟩
    rintro ⟨Y, ya, yc, TK, MS⟩ s w ⟨hy, H⟩
    have hYl : Y.length < 100000000 := feedF_len hy hxb
    cases Y with
    | nil =>
     refine ⟨?_⟩
     cases TK
     ·refine Cn.no (⟨Drw.of [(0, true), (1, true), (2, true), (3, true), (4, true), (5, true), (6, true), (7, true), (8, true), (9, true), (10, true), (11, true), (12, true), (13, true), (14, true), (15, true), (16, true), (17, true)] (by kernel_rfl) mixed (fun w => SL w _) H.drew ?_⟩)
      replace H := H.drew
      refine BB.yes rfl (LdC.i 4 rfl (v := .slice ya 0 yc) rfl (LdC.i 4 rfl (v := .int .i64 x.size) rfl (BB.k (ret1 (.bool (decide (0 ≤ x.size))) rfl (by rfl) ?_))))
      have q := H.pi [1, 2, 3, 4, 5, 6, 7] 8
      simp only [pl, nth, drL] at q
      have hT : takeF x (nextF l i) ⟨4, g, chan, case_, value, mate, send, true⟩ = (decide (0 ≤ x.size), { x with buf := [] }) := by rw [takeF_feed, hy]; simp [*]
      have hO : orderedF ⟨cr, chans, c, over⟩ (nextF l i) ⟨4, g, chan, case_, value, mate, send, true⟩ = (decide (0 ≤ x.size), ⟨cr, chans.set k { x with buf := [] }, c, over⟩) := by rw [orderedF, hf]; simp [*]
      rw [hO]
      exact ⟨rfl, RdrP.iff.2 ⟨crv, mb, ps, by simpa using hl, reader_set (y := { x with buf := [] }) hl hp hx q⟩⟩
     refine H.ldi 4 rfl (v := .slice ya 0 yc) rfl (BB.no rfl (Cn.no (⟨Drw.of [(0, true), (1, true), (2, true), (3, true), (4, true), (5, true), (6, true), (7, true), (8, true), (9, true), (10, true), (11, true), (12, true), (13, true), (14, true), (15, true), (16, true), (17, true)] (by kernel_rfl) mixed (fun w => SL w _) H.drew ?_⟩)))
     replace H := H.drew
     refine BB.no rfl ?_
     cases MS
     ·refine ret1 (.bool false) rfl (by rfl) ?_
      have q := H.pi [1, 2, 3, 4, 5, 6, 7] 8
      simp only [pl, nth, drL] at q
      have hT : takeF x (nextF l i) ⟨4, g, chan, case_, value, mate, send, true⟩ = (false, { x with buf := [] }) := by rw [takeF_feed, hy]; simp [*]
      have hO : orderedF ⟨cr, chans, c, over⟩ (nextF l i) ⟨4, g, chan, case_, value, mate, send, true⟩ = (false, ⟨cr, chans.set k { x with buf := [] }, c, over⟩) := by rw [orderedF, hf]; simp [*]
      rw [hO]
      exact ⟨rfl, RdrP.iff.2 ⟨crv, mb, ps, by simpa using hl, reader_set (y := { x with buf := [] }) hl hp hx q⟩⟩
     refine LdC.i 4 rfl (v := .slice ya 0 yc) rfl (LdC.i 4 rfl (v := .int .i64 x.size) rfl (BB.k (ret1 (.bool (decide (0 ≤ x.size))) rfl (by rfl) ?_)))
     have q := H.pi [1, 2, 3, 4, 5, 6, 7] 8
     simp only [pl, nth, drL] at q
     have hT : takeF x (nextF l i) ⟨4, g, chan, case_, value, mate, send, true⟩ = (decide (0 ≤ x.size), { x with buf := [] }) := by rw [takeF_feed, hy]; simp [*]
     have hO : orderedF ⟨cr, chans, c, over⟩ (nextF l i) ⟨4, g, chan, case_, value, mate, send, true⟩ = (decide (0 ≤ x.size), ⟨cr, chans.set k { x with buf := [] }, c, over⟩) := by rw [orderedF, hf]; simp [*]
     rw [hO]
     exact ⟨rfl, RdrP.iff.2 ⟨crv, mb, ps, by simpa using hl, reader_set (y := { x with buf := [] }) hl hp hx q⟩⟩
    | cons y0 Y =>
     have hob := SL.quAddr H.up5 (Nat.succ_pos _)
     obtain ⟨yg, yo, rfl⟩ := hob
     refine ⟨?_⟩
     cases TK
     ·refine Cn.no (⟨Drw.of [(0, true), (1, true), (2, true), (3, true), (4, true), (5, true), (6, true), (7, true), (8, true), (9, true), (10, true), (11, true), (12, true), (13, true), (14, true), (15, true), (16, true), (17, true)] (by kernel_rfl) mixed (fun w => SL w _) H.drew ?_⟩)
      replace H := H.drew
      refine BB.yes rfl (LdC.i 4 rfl (v := .slice (some ⟨yg, yo, none⟩) (Y.length + 1) yc) rfl (LdC.i 4 rfl (v := .int .i64 x.size) rfl (BB.k (ret1 (.bool (decide ((↑(Y.length + 1) : Int) ≤ x.size))) rfl (by rfl) ?_))))
      have q := H.pi [1, 2, 3, 4, 5, 6, 7] 8
      simp only [pl, nth, drL] at q
      have hT : takeF x (nextF l i) ⟨4, g, chan, case_, value, mate, send, true⟩ = (decide ((↑(Y.length + 1) : Int) ≤ x.size), { x with buf := (y0 :: Y) }) := by rw [takeF_feed, hy]; simp [*]
      have hO : orderedF ⟨cr, chans, c, over⟩ (nextF l i) ⟨4, g, chan, case_, value, mate, send, true⟩ = (decide ((↑(Y.length + 1) : Int) ≤ x.size), ⟨cr, chans.set k { x with buf := (y0 :: Y) }, c, over⟩) := by rw [orderedF, hf]; simp [*]
      rw [hO]
      exact ⟨rfl, RdrP.iff.2 ⟨crv, mb, ps, by simpa using hl, reader_set (y := { x with buf := (y0 :: Y) }) hl hp hx q⟩⟩
     refine H.ldi 4 rfl (v := .slice (some ⟨yg, yo, none⟩) (Y.length + 1) yc) rfl (BB.yes (decide_eq_true (show ((Y.length + 1 : Nat) : Int) > 0 by omega)) (Cn.yes (⟨H.ldi 4 rfl (v := .slice (some ⟨yg, yo, none⟩) (Y.length + 1) yc) rfl ?_⟩)))
     refine Ix.at 0 1 (by kernel_rfl) (rfl) (Nat.succ_pos _) ?_
     refine H.ldQ 5 rfl (o := 0 * 1) (v := .int .i64 y0) (rfl) (⟨H.ldi 4 rfl (v := .slice (some ⟨yg, yo, none⟩) (Y.length + 1) yc) rfl ?_⟩)
     refine Mn.tails H.up5 (.tmp 91) (.const (.int .i64 1)) 67 (by rfl) (by kernel_rfl) (by kernel_rfl) (by rfl) (by rfl) fun a14 c14 w H => ?_
     refine H.st5 (cs' := #[.int .i64 x.size, .slice a14 Y.length c14, .bool x.closed]) rfl rfl rfl fun w H => ?_
     refine ⟨Drw.of [(0, true), (1, true), (2, true), (3, true), (4, true), (5, true), (6, true), (7, true), (8, true), (9, true), (10, true), (11, true), (12, true), (13, true), (14, true), (15, true), (16, true)] (by kernel_rfl) mixed (fun w => SL w _) H.drew ?_⟩
     replace H := H.drew
     refine LdC.i 1 rfl (v := .int .i64 value) rfl (BB.vr fun q15 e15 => ?_)
     cases q15
     ·have h15 := neq_of e15
      refine ret1 (.bool false) rfl (by rfl) ?_
      have q := H.pi [2, 3, 4, 5, 0, 6, 7] 8
      simp only [pl, nth, drL] at q
      have hT : takeF x (nextF l i) ⟨4, g, chan, case_, value, mate, send, true⟩ = (false, { x with buf := Y }) := by rw [takeF_feed, hy]; simp [*]
      have hO : orderedF ⟨cr, chans, c, over⟩ (nextF l i) ⟨4, g, chan, case_, value, mate, send, true⟩ = (false, ⟨cr, chans.set k { x with buf := Y }, c, over⟩) := by rw [orderedF, hf]; simp [*]
      rw [hO]
      exact ⟨rfl, RdrP.iff.2 ⟨crv, mb, ps, by simpa using hl, reader_set (y := { x with buf := Y }) hl hp hx q⟩⟩
     have h15 := eq_of_beq e15
     refine LdC.i 5 rfl (v := .slice a14 Y.length c14) rfl (LdC.i 5 rfl (v := .int .i64 x.size) rfl (BB.k (ret1 (.bool (decide ((↑Y.length : Int) ≤ x.size))) rfl (by rfl) ?_)))
     have q := H.pi [2, 3, 4, 5, 0, 6, 7] 8
     simp only [pl, nth, drL] at q
     have hT : takeF x (nextF l i) ⟨4, g, chan, case_, value, mate, send, true⟩ = (decide ((↑Y.length : Int) ≤ x.size), { x with buf := Y }) := by rw [takeF_feed, hy]; simp [*]
     have hO : orderedF ⟨cr, chans, c, over⟩ (nextF l i) ⟨4, g, chan, case_, value, mate, send, true⟩ = (decide ((↑Y.length : Int) ≤ x.size), ⟨cr, chans.set k { x with buf := Y }, c, over⟩) := by rw [orderedF, hf]; simp [*]
     rw [hO]
     exact ⟨rfl, RdrP.iff.2 ⟨crv, mb, ps, by simpa using hl, reader_set (y := { x with buf := Y }) hl hp hx q⟩⟩
   have h9 : ok = false := by simpa using e9
   subst h9
   refine Cn.yes (⟨ret1 (.bool true) rfl (by rfl) ?_⟩)
   exact ⟨by rw [orderedF, hf]; simp [*], by rw [show (orderedF ⟨cr, chans, c, over⟩ (nextF l i) ⟨4, g, chan, case_, value, mate, send, false⟩).2 = ⟨cr, chans, c, over⟩ by rw [orderedF, hf]; simp [*]]; exact RdrP.iff.2 ⟨crv, mb, ps, hl, reader_back hl hp hx H.tl⟩⟩
  have h8 := bne_iff_ne.1 e8
  refine Cn.yes (⟨ret1 (.bool true) rfl (by rfl) ?_⟩)
  exact ⟨by rw [orderedF, hf]; simp [*], by rw [show (orderedF ⟨cr, chans, c, over⟩ (nextF l i) ⟨kind, g, chan, case_, value, mate, send, ok⟩).2 = ⟨cr, chans, c, over⟩ by rw [orderedF, hf]; simp [*]]; exact RdrP.iff.2 ⟨crv, mb, ps, hl, reader_back hl hp hx H.tl⟩⟩
theorem isEmpty_int (l : List Int) : l.isEmpty = ((l.length : Int) == 0) := by
 cases l with
 | nil => rfl
 | cons a l =>
  have : ((((a :: l).length : Int)) == 0) = false := beq_eq_false_iff_ne.2 (by simp only [List.length_cons]; omega)
  rw [this]
  rfl
theorem reader_set0 {w : World} {F : List Piece} {A B : Piece} {ps : List Nat} {chans : List ChnM} {k p : Nat} {x y : ChnM} {v : Value} {mb : Nat} (hl : ps.length = chans.length) (hp : ps[k]? = some p) (hx : chans[k]? = some x)
  (H : SL w (A :: B :: MapP 3 mb chans.length (chMap ps) :: row p #[.int .i64 y.size, v, .bool y.closed] 241 :: Qu 3 1 v y.buf.length (ints y.buf) :: all ((List.zipWith chP ps chans).eraseIdx k) :: F)) :
  SL w (A :: B :: MapP 3 mb (chans.set k y).length (chMap ps) :: chsP ps (chans.set k y) :: F) := by
 have h := H.pi [3, 4, 5, 0, 1, 2] 6
 simp only [pl, nth, drL] at h
 have h2 := (chs_put hl hp hx h).pi [1, 2, 3, 0] 4
 simp only [pl, nth, drL] at h2
 rw [List.length_set]
 exact h2
theorem reader_back0 {w : World} {F : List Piece} {A B : Piece} {ps : List Nat} {chans : List ChnM} {k p : Nat} {x : ChnM} {v : Value} {mb : Nat} (hl : ps.length = chans.length) (hp : ps[k]? = some p) (hx : chans[k]? = some x)
  (H : SL w (A :: B :: MapP 3 mb chans.length (chMap ps) :: row p #[.int .i64 x.size, v, .bool x.closed] 241 :: Qu 3 1 v x.buf.length (ints x.buf) :: all ((List.zipWith chP ps chans).eraseIdx k) :: F)) :
  SL w (A :: B :: MapP 3 mb chans.length (chMap ps) :: chsP ps chans :: F) := by
 have h := reader_set0 hl hp hx H
 rw [set_sameG hx] at h
 exact h
set_option maxHeartbeats 2000000 in
theorem g_closed {w : World} {F : List Piece} {rb n : Nat} {lv : Value} {at_ : Int} {r : RdrM} {e : Ev} (B : EvB e) (H : SL w (RdrP rb lv at_ r :: F)) :
  Calls Tryz.prog 152 #[.pointer (some ⟨rb, 0, none⟩), e.agg] w fun o w' => o = .returned (.bool (closedF r e).1) ∧ SL w' (RdrP rb lv at_ (closedF r e).2 :: F) := by
 obtain ⟨crv, mb, ps, hl, H⟩ := RdrP.iff.1 H
 obtain ⟨cr, chans, c, over⟩ := r
 obtain ⟨kind, g, chan, case_, value, mate, send, ok⟩ := e
 dsimp only at hl H 
 cases hf : chanF ⟨cr, chans, c, over⟩ chan with
 | none =>
  have hm := chMap_none hl (r := ⟨cr, chans, c, over⟩) rfl hf
  refine calls_d (args := [_, _]) Tryz.func152 rfl ?_
  refine ⟨Nw.as #[.int .i64 kind, .int .i64 g, .int .i64 chan, .int .i64 case_, .int .i64 value, .int .i64 mate, .bool send, .bool ok] 53 rfl H fun b3 w H => ?_⟩
  refine ⟨Drw.of [(0, true), (1, true), (2, true), (3, true), (4, true), (5, true), (6, true), (7, true)] (by kernel_rfl) mixed (fun w => SL w _) H.drew ?_⟩
  replace H := H.drew
  refine LdC.i 1 rfl (v := .map (some mb)) rfl (LdC.i 0 rfl (v := .int .i64 chan) rfl (MnC.lookV 3 rfl (.tmp 10) (.tmp 12) 169 239 (by rfl) (by kernel_rfl) (by kernel_rfl) (z := .pointer none) (fun _ => by kernel_rfl) chan (key_wf (by have := B.chan; dsimp only at this; omega) (by have := B.chan; dsimp only at this; omega)) (by rfl) (by rfl) (.pointer none) (by rw [hm]; rfl) ?_))
  refine ⟨⟨BB.yes rfl ?_⟩⟩
  refine Cn.yes (⟨ret1 (.bool true) rfl (by rfl) ?_⟩)
  exact ⟨by rw [closedF, hf], by rw [show (closedF ⟨cr, chans, c, over⟩ ⟨kind, g, chan, case_, value, mate, send, ok⟩).2 = ⟨cr, chans, c, over⟩ by rw [closedF, hf]]; exact RdrP.iff.2 ⟨crv, mb, ps, hl, H.tl⟩⟩
 | some x =>
  obtain ⟨k, p, hk, hx, hp, hm⟩ := chMap_some hl (r := ⟨cr, chans, c, over⟩) rfl hf
  have hkt : chan.toNat = k := by rw [hk]; rfl
  clear hk
  have H0 := H.up3
  obtain ⟨v, H1⟩ := chs_take hl hp hx H0
  obtain ⟨qa, qc, rfl⟩ := SL.quForm H1.up1
  replace H := H1.pi [3, 4, 5, 0, 1, 2] 6
  simp only [pl, nth, drL] at H
  clear H0 H1
  obtain ⟨xs, xb, xc⟩ := x
  dsimp only at H
  refine calls_d (args := [_, _]) Tryz.func152 rfl ?_
  refine ⟨Nw.as #[.int .i64 kind, .int .i64 g, .int .i64 chan, .int .i64 case_, .int .i64 value, .int .i64 mate, .bool send, .bool ok] 53 rfl H fun b3 w H => ?_⟩
  refine ⟨Drw.of [(0, true), (1, true), (2, true), (3, true), (4, true), (5, true), (6, true), (7, true)] (by kernel_rfl) mixed (fun w => SL w _) H.drew ?_⟩
  replace H := H.drew
  refine LdC.i 1 rfl (v := .map (some mb)) rfl (LdC.i 0 rfl (v := .int .i64 chan) rfl (MnC.lookV 3 rfl (.tmp 10) (.tmp 12) 169 239 (by rfl) (by kernel_rfl) (by kernel_rfl) (z := .pointer none) (fun _ => by kernel_rfl) chan (key_wf (by have := B.chan; dsimp only at this; omega) (by have := B.chan; dsimp only at this; omega)) (by rfl) (by rfl) (.pointer (some ⟨p, 0, none⟩)) (by rw [hm]; rfl) ?_))
  refine ⟨⟨BB.no rfl ?_⟩⟩
  refine Cn.no (⟨H.ldi 0 rfl (v := .int .i64 kind) rfl ?_⟩)
  refine BB.vr fun q1 e1 => ?_
  cases q1
  ·have h1 := neq_of e1
   refine Cn.no (⟨H.ldi 0 rfl (v := .int .i64 kind) rfl ?_⟩)
   refine BB.vr fun q2 e2 => ?_
   cases q2
   ·have h2 := neq_of e2
    refine H.ldi 0 rfl (v := .int .i64 kind) rfl (BB.vr fun q3 e3 => ?_)
    cases q3
    ·have h3 := neq_of e3
     refine Cn.no (⟨H.ldi 0 rfl (v := .int .i64 kind) rfl ?_⟩)
     refine BB.no (beq_eq_false_iff_ne.2 h3) (Cn.no (⟨ret1 (.bool true) rfl (by rfl) ?_⟩))
     have q := H.pi [1, 2, 3, 4, 5, 6] 7
     simp only [pl, nth, drL] at q
     have hO : closedF ⟨cr, chans, c, over⟩ ⟨kind, g, chan, case_, value, mate, send, ok⟩ = (true, ⟨cr, chans, c, over⟩) := by rw [closedF, hf]; simp [isEmpty_int, *]
     rw [hO]
     exact ⟨rfl, RdrP.iff.2 ⟨crv, mb, ps, hl, reader_back0 hl hp hx q⟩⟩
    have h3 := eq_of_beq e3
    subst h3
    refine H.ldi 0 rfl (v := .int .i64 mate) rfl (BB.vr fun q4 e4 => ?_)
    cases q4
    ·have h4 := of_decide_eq_false e4
     refine Cn.no (⟨H.ldi 0 rfl (v := .int .i64 4) rfl ?_⟩)
     refine BB.yes rfl (H.ldi 0 rfl (v := .bool ok) rfl (BB.k (BB.vr fun q5 e5 => ?_)))
     cases q5
     ·have h5 : ok = true := by simpa using e5
      subst h5
      refine Cn.no (⟨ret1 (.bool true) rfl (by rfl) ?_⟩)
      have q := H.pi [1, 2, 3, 4, 5, 6] 7
      simp only [pl, nth, drL] at q
      have hO : closedF ⟨cr, chans, c, over⟩ ⟨4, g, chan, case_, value, mate, send, true⟩ = (true, ⟨cr, chans, c, over⟩) := by rw [closedF, hf]; simp [isEmpty_int, *]
      rw [hO]
      exact ⟨rfl, RdrP.iff.2 ⟨crv, mb, ps, hl, reader_back0 hl hp hx q⟩⟩
     have h5 : ok = false := by simpa using e5
     subst h5
     refine Cn.yes (⟨H.ldi 4 rfl (v := .bool xc) rfl ?_⟩)
     refine BB.k ?_
     cases xc
     ·refine ret1 (.bool false) rfl (by rfl) ?_
      have q := H.pi [1, 2, 3, 4, 5, 6] 7
      simp only [pl, nth, drL] at q
      have hO : closedF ⟨cr, chans, c, over⟩ ⟨4, g, chan, case_, value, mate, send, false⟩ = (false, ⟨cr, chans, c, over⟩) := by rw [closedF, hf]; simp [isEmpty_int, *]
      rw [hO]
      exact ⟨rfl, RdrP.iff.2 ⟨crv, mb, ps, hl, reader_back0 hl hp hx q⟩⟩
     refine H.ldi 4 rfl (v := .slice qa xb.length qc) rfl (BB.k (ret1 (.bool ((↑xb.length : Int) == 0)) rfl (by rfl) ?_))
     have q := H.pi [1, 2, 3, 4, 5, 6] 7
     simp only [pl, nth, drL] at q
     have hO : closedF ⟨cr, chans, c, over⟩ ⟨4, g, chan, case_, value, mate, send, false⟩ = ((↑xb.length : Int) == 0, ⟨cr, chans, c, over⟩) := by rw [closedF, hf]; simp [isEmpty_int, *]
     rw [hO]
     exact ⟨rfl, RdrP.iff.2 ⟨crv, mb, ps, hl, reader_back0 hl hp hx q⟩⟩
    have h4 := of_decide_eq_true e4
    refine Cn.yes (⟨H.ldi 4 rfl (v := .bool xc) rfl ?_⟩)
    refine BB.k (BB.k (ret1 (.bool (!xc)) rfl (by rfl) ?_))
    have q := H.pi [1, 2, 3, 4, 5, 6] 7
    simp only [pl, nth, drL] at q
    have hO : closedF ⟨cr, chans, c, over⟩ ⟨4, g, chan, case_, value, mate, send, ok⟩ = (!xc, ⟨cr, chans, c, over⟩) := by rw [closedF, hf]; simp [isEmpty_int, *]
    rw [hO]
    exact ⟨rfl, RdrP.iff.2 ⟨crv, mb, ps, hl, reader_back0 hl hp hx q⟩⟩
   have h2 := eq_of_beq e2
   subst h2
   refine Cn.yes (⟨H.ldi 4 rfl (v := .bool xc) rfl ?_⟩)
   refine BB.k (BB.k (ret1 (.bool (!xc)) rfl (by rfl) ?_))
   have q := H.pi [1, 2, 3, 4, 5, 6] 7
   simp only [pl, nth, drL] at q
   have hO : closedF ⟨cr, chans, c, over⟩ ⟨3, g, chan, case_, value, mate, send, ok⟩ = (!xc, ⟨cr, chans, c, over⟩) := by rw [closedF, hf]; simp [isEmpty_int, *]
   rw [hO]
   exact ⟨rfl, RdrP.iff.2 ⟨crv, mb, ps, hl, reader_back0 hl hp hx q⟩⟩
  have h1 := eq_of_beq e1
  subst h1
  refine Cn.yes (⟨H.ldi 4 rfl (v := .bool xc) rfl ?_⟩)
  refine BB.k (⟨H.st4 (cs' := #[.int .i64 xs, .slice qa xb.length qc, .bool true]) rfl rfl rfl fun w H => ?_⟩)
  refine ⟨BB.k ?_⟩
  refine ret1 (.bool (!xc)) rfl (by rfl) ?_
  have q := H.pi [1, 2, 3, 4, 5, 6] 7
  simp only [pl, nth, drL] at q
  have hO : closedF ⟨cr, chans, c, over⟩ ⟨5, g, chan, case_, value, mate, send, ok⟩ = (!xc, ⟨cr, chans.set k ⟨xs, xb, true⟩, c, over⟩) := by rw [closedF, hf]; simp [isEmpty_int, *]
  rw [hO]
  exact ⟨rfl, RdrP.iff.2 ⟨crv, mb, ps, by simpa using hl, reader_set0 (y := ⟨xs, xb, true⟩) hl hp hx q⟩⟩
end Go.Proofs.YtoamjodmidbmbaaGreatDoor
namespace Go.Proofs.YtoamjodmidbmbaaGreatDoor
def ruleF (prev : Option Ev) (next : Option Int) (e : Ev) : Nat → RdrM → Bool × RdrM
 | 0, r => (entF e == 0, r)
 | 1, r => crewedF r e
 | 2, r => madeF r e
 | 3, r => servedF r prev e
 | 4, r => orderedF r next e
 | _, r => closedF r e
def runF (prev : Option Ev) (next : Option Int) (e : Ev) : Nat → Nat → RdrM → Int × RdrM
 | 0, i, r => (0, r)
 | k + 1, i, r => if (ruleF prev next e i r).1 = false then ((i : Int) + 1, (ruleF prev next e i r).2) else runF prev next e k (i + 1) (ruleF prev next e i r).2
theorem stepG_run (r : RdrM) (prev : Option Ev) (next : Option Int) (e : Ev) : stepG r prev next e = runF prev next e 6 0 r := by
 unfold stepG
 by_cases h : entF e = 0
 ·have h0 : (entF e == 0) = true := beq_iff_eq.2 h
  simp only [runF, ruleF, h, h0, ne_eq, not_true_eq_false, if_false, Bool.true_eq_false]
  rfl
 ·have h0 : (entF e == 0) = false := beq_eq_false_iff_ne.2 h
  rw [if_pos h]
  simp only [runF, ruleF, h0, if_true]
  rfl
theorem inn_iff {a b n : Int} : inn a b n = true ↔ a ≤ n ∧ n ≤ b := by simp [inn]
theorem shape_in (k : Int) : -1 ≤ (shapeF k).c0 ∧ (shapeF k).c1 ≤ 511 ∧ -1 ≤ (shapeF k).v0 ∧ (shapeF k).v1 ≤ 99 ∧ -1 ≤ (shapeF k).m0 ∧ (shapeF k).m1 ≤ 511 := by
 unfold shapeF
 repeat' split
 all_goals decide
theorem ite04 {c : Prop} [Decidable c] (h : (if c then (0 : Int) else 4) = 0) : c := by
 by_cases hc : c
 ·exact hc
 ·rw [if_neg hc] at h
  exact absurd h (by decide)
theorem evB_of {e : Ev} (h : entF e = 0) : EvB e := by
 unfold entF at h
 by_cases hk : e.kind < 1 ∨ 13 < e.kind
 ·rw [if_pos hk] at h
  exact absurd h (by decide)
 ·rw [if_neg hk] at h
  have h2 := ite04 h
  simp only [Bool.and_eq_true] at h2
  obtain ⟨⟨⟨⟨⟨⟨⟨hg, _⟩, _⟩, _⟩, hc⟩, _⟩, hv⟩, hm⟩ := h2
  obtain ⟨c0, c1, v0, v1, m0, m1⟩ := shape_in e.kind
  rw [inn_iff] at hc hv hm
  by_cases h13 : e.kind = 13
  ·rw [if_pos h13, inn_iff] at hg
   exact ⟨by omega, by omega, fun h => absurd h13 h, by omega, by omega, by omega⟩
  ·rw [if_neg h13, inn_iff] at hg
   exact ⟨by omega, by omega, fun _ => hg.1, by omega, by omega, by omega⟩
theorem sized_mono {n m : Nat} {r : RdrM} (h : Sized n r) (hm : n ≤ m) : Sized m r := ⟨h.pos, Nat.le_trans h.crew (by omega), Nat.le_trans h.chans hm, fun c hc => Nat.le_trans (h.buf c hc) hm⟩
theorem sized_crewed {n : Nat} {r : RdrM} (h : Sized n r) (e : Ev) : Sized (n + 1) (crewedF r e).2 := by
 have h1 := sized_mono h (Nat.le_succ n)
 unfold crewedF
 repeat' split
 all_goals first
  | exact h1
  | exact ⟨by simp [h.pos], by simp; have := h.crew; omega, h1.chans, h1.buf⟩
  | exact ⟨by simp, by simp; have := h.crew; omega, h1.chans, h1.buf⟩
theorem sized_made {n : Nat} {r : RdrM} (h : Sized n r) (e : Ev) : Sized (n + 1) (madeF r e).2 := by
  have h1 := sized_mono h (Nat.le_succ n)
  unfold madeF
  repeat' split
  all_goals first
    | exact h1
    | (refine ⟨h1.pos, h1.crew, by simp; have := h.chans; omega, fun c hc => ?_⟩
       simp only [List.mem_append, List.mem_singleton] at hc
       rcases hc with hc | rfl
       · exact h1.buf c hc
       · exact Nat.zero_le _)
theorem sized_served {n : Nat} {r : RdrM} (h : Sized n r) (prev : Option Ev) (e : Ev) : Sized (n + 1) (servedF r prev e).2 := by
 have h1 := sized_mono h (Nat.le_succ n)
 unfold servedF
 repeat' split
 all_goals exact ⟨h1.pos, h1.crew, h1.chans, h1.buf⟩
theorem takeF_len (c : ChnM) (next : Option Int) (e : Ev) : (takeF c next e).2.buf.length ≤ c.buf.length + 1 := by
 have hl : ∀ L : List Int, L.length ≤ c.buf.length + 1 → ∀ b1 b2 : Bool, ∀ f : Bool × ChnM, (match b1, L with | true, v :: L => (v == e.value && decide ((L.length : Int) ≤ c.size), { c with buf := L }) | _, L => (b2 && decide ((L.length : Int) ≤ c.size), { c with buf := L })) = f → f.2.buf.length ≤ c.buf.length + 1 := by
  intro L hL b1 b2 f hf
  subst hf
  split
  ·rename_i v L'
   simp only [List.length_cons] at hL
   show L'.length ≤ _
   omega
  ·exact hL
 unfold takeF
 refine hl _ ?_ _ _ _ rfl
 repeat' split
 all_goals simp
theorem sized_set {n k : Nat} {r : RdrM} {y : ChnM} (h : Sized n r) (hy : y.buf.length ≤ n + 1) : Sized (n + 1) { r with chans := r.chans.set k y } := by
 refine ⟨h.pos, Nat.le_trans h.crew (by omega), by simp; have := h.chans; omega, fun c hc => ?_⟩
 rcases List.mem_or_eq_of_mem_set hc with hc | rfl
 ·exact Nat.le_trans (h.buf c hc) (by omega)
 ·exact hy
theorem chanF_mem {r : RdrM} {c : Int} {x : ChnM} (h : chanF r c = some x) : x ∈ r.chans := by
 unfold chanF at h
 split at h
 ·cases h
 ·exact List.mem_of_getElem? h
theorem sized_ordered {n : Nat} {r : RdrM} (h : Sized n r) (next : Option Int) (e : Ev) : Sized (n + 1) (orderedF r next e).2 := by
 have h1 := sized_mono h (Nat.le_succ n)
 unfold orderedF
 split
 ·exact h1
 ·rename_i c hc
  split
  ·exact h1
  ·exact sized_set h (Nat.le_trans (takeF_len _ _ _) (by have := h.buf c (chanF_mem hc); omega))
theorem sized_closed {n : Nat} {r : RdrM} (h : Sized n r) (e : Ev) : Sized (n + 1) (closedF r e).2 := by
 have h1 := sized_mono h (Nat.le_succ n)
 unfold closedF
 split
 ·exact h1
 ·rename_i c hc
  repeat' split
  all_goals first | exact h1 | exact sized_set h (by have := h.buf c (chanF_mem hc); show c.buf.length ≤ n + 1; omega)
theorem sized_rule {n : Nat} {r : RdrM} (h : Sized n r) (prev : Option Ev) (next : Option Int) (e : Ev) (i : Nat) : Sized (n + 1) (ruleF prev next e i r).2 := by
 have h1 := sized_mono h (Nat.le_succ n)
 unfold ruleF
 split
 ·exact h1
 ·exact sized_crewed h e
 ·exact sized_made h e
 ·exact sized_served h prev e
 ·exact sized_ordered h next e
 ·exact sized_closed h e
theorem sized_run {prev : Option Ev} {next : Option Int} {e : Ev} : ∀ (k i n : Nat) (r : RdrM), Sized n r → Sized (n + k) (runF prev next e k i r).2
 | 0, i, n, r, h => h
 | k + 1, i, n, r, h => by
  have h1 := sized_rule h prev next e i
  unfold runF
  split
  ·exact sized_mono h1 (by omega)
  ·have := sized_run (prev := prev) (next := next) (e := e) k (i + 1) (n + 1) _ h1
   rwa [show n + 1 + k = n + (k + 1) by omega] at this
theorem sized_st (l : List Ev) : ∀ i, Sized (6 * i) (stG l i)
 | 0 => ⟨Nat.zero_lt_one, Nat.le_refl _, Nat.le_refl _, fun c hc => by cases hc⟩
 | i + 1 => by
  unfold stG
  rw [stepG_run]
  exact sized_run 6 0 (6 * i) _ (sized_st l i)
end Go.Proofs.YtoamjodmidbmbaaGreatDoor
namespace Go.Proofs.YtoamjodmidbmbaaGreatDoor
open Go.RowKit
theorem r_within (n a b : Int) (w : World) : Calls Tryz.prog 125 #[.int .i64 n, .int .i64 a, .int .i64 b] w fun e w' => e = .returned (.bool (inn a b n)) ∧ w' = w := by
 unfold inn
 by_cases h1 : a ≤ n <;> by_cases h2 : n ≤ b <;> simp only [h1, h2, decide_true, decide_false, Bool.and_true, Bool.and_false]
 all_goals
  go_enter Tryz.func125, Tryz.ntmps125
  go_wp2_with fail
  go_ret
  exact ⟨rfl, rfl⟩
theorem e_in (n a b : Int) (w : World) : Calls Tryz.prog 165 #[.agg #[.int .i64 a, .int .i64 b], .int .i64 n] w fun e w' => e = .returned (.bool (inn a b n)) ∧ Frm Nil w w' := by
 unfold inn
 by_cases h1 : a ≤ n <;> by_cases h2 : n ≤ b <;> simp only [h1, h2, decide_true, decide_false, Bool.and_true, Bool.and_false]
 all_goals
  go_enter Tryz.func165, Tryz.ntmps165
  go_wp2_with fail
  go_ret
  exact ⟨rfl, (Frm.refl _ _).alloc _⟩
set_option maxHeartbeats 2000000 in
theorem e_odd (e : Ev) (w : World) : Calls Tryz.prog 166 #[e.agg] w fun o w' => o = .returned (.bool (oddF e)) ∧ Frm Nil w w' := by
 obtain ⟨kind, g, chan, case_, value, mate, send, ok⟩ := e
 have hb : ∀ x y : Int, (x == y) = decide (x = y) := fun _ _ => rfl
 unfold oddF Ev.agg
 dsimp only
 by_cases h3 : kind = 3
 ·subst h3
  rw [if_pos rfl]
  go_enter Tryz.func166, Tryz.ntmps166
  go_wp2_with fail
  go_ret
  exact ⟨rfl, (Frm.refl _ _).alloc _⟩
 ·rw [if_neg h3]
  have e3 : (kind == 3) = false := beq_eq_false_iff_ne.2 h3
  by_cases h4 : kind = 4
  ·subst h4
   rw [if_pos rfl]
   cases ok
   ·by_cases hv : value = 0
    ·subst hv
     by_cases hm : mate = -1
     ·subst hm
      go_enter Tryz.func166, Tryz.ntmps166
      go_wp2_with fail
      go_ret
      exact ⟨rfl, (Frm.refl _ _).alloc _⟩
     ·have em : (mate == -1) = false := beq_eq_false_iff_ne.2 hm
      have em2 : (mate != -1) = true := by simp [hm]
      go_enter Tryz.func166, Tryz.ntmps166
      go_wp2_with fail
      go_ret
      exact ⟨by rw [em2]; rfl, (Frm.refl _ _).alloc _⟩
    ·have em : (value == 0) = false := beq_eq_false_iff_ne.2 hv
     have em2 : (value != 0) = true := by simp [hv]
     go_enter Tryz.func166, Tryz.ntmps166
     go_wp2_with fail
     go_ret
     exact ⟨by rw [em2]; rfl, (Frm.refl _ _).alloc _⟩
   ·go_enter Tryz.func166, Tryz.ntmps166
    go_wp2_with fail
    go_ret
    exact ⟨rfl, (Frm.refl _ _).alloc _⟩
  ·rw [if_neg h4]
   have e4 : (kind == 4) = false := beq_eq_false_iff_ne.2 h4
   by_cases h6 : kind = 6
   ·subst h6
    rw [if_pos rfl]
    rcases Decidable.em (value = 0) with hv | hv <;> rcases Decidable.em (0 ≤ case_) with hc | hc <;> rcases Decidable.em (0 ≤ chan) with hh | hh
    all_goals
     have ev : (value == 0) = decide (value = 0) := rfl
     have ev2 : (value != 0) = !decide (value = 0) := rfl
     simp only [hv, hc, hh, decide_true, decide_false, Bool.not_true, Bool.not_false] at ev ev2 ⊢
     cases send
     all_goals
      go_enter Tryz.func166, Tryz.ntmps166
      go_wp2_with fail
      go_ret
      exact ⟨by first | rfl | simp [ev2, hc, hh, hv], (Frm.refl _ _).alloc _⟩
   ·rw [if_neg h6]
    have e6 : (kind == 6) = false := beq_eq_false_iff_ne.2 h6
    by_cases h7 : kind = 7
    ·subst h7
     rw [if_pos rfl]
     rcases Decidable.em (value = 0) with hv | hv
     all_goals
      have ev : (value == 0) = decide (value = 0) := rfl
      have ev2 : (value != 0) = !decide (value = 0) := rfl
      simp only [hv, decide_true, decide_false, Bool.not_true, Bool.not_false] at ev ev2 ⊢
      cases send <;> cases ok
      all_goals
       go_enter Tryz.func166, Tryz.ntmps166
       go_wp2_with fail
       go_ret
       exact ⟨by first | rfl | simp [ev2, hv], (Frm.refl _ _).alloc _⟩
    ·rw [if_neg h7]
     have e7 : (kind == 7) = false := beq_eq_false_iff_ne.2 h7
     go_enter Tryz.func166, Tryz.ntmps166
     go_wp2_with fail
     go_ret
     exact ⟨by first | rfl | simp [hb], (Frm.refl _ _).alloc _⟩
end Go.Proofs.YtoamjodmidbmbaaGreatDoor
