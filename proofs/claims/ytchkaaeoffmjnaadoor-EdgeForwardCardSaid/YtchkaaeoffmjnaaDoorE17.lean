/- Texts of the proof, several in one file: GaugeY. -/
import Derived.Test.YtchkaaeoffmjnaaDoorE16
import Derived.Test.YtchkaaeoffmjnaaDoorE05
namespace Go.Proofs.YtchkaaeoffmjnaaDoor
set_option linter.unusedVariables false
set_option linter.unusedSimpArgs false
open Go.RowKit
set_option maxRecDepth 100000
set_option maxHeartbeats 1000000 in
theorem g_served {w : World} {F : List Piece} {A : Piece} {rb lb lo lc n i : Nat} {l : List Ev} {at_ : Int} {r : RdrM} {e : Ev} (hA : EvA A lb lo l) (hat : at_ = (i : Int)) (hi : i < l.length) (hll : l.length ≤ 100000) (H : SL w (RdrP rb (.slice (some ⟨lb, lo, none⟩) l.length lc) at_ r :: A :: F)) :
  Calls Tryd.prog 76 #[.pointer (some ⟨rb, 0, none⟩), e.agg] w fun o w' => o = .returned (.bool (servedF r (prevF l i) e).1) ∧ SL w' (RdrP rb (.slice (some ⟨lb, lo, none⟩) l.length lc) at_ (servedF r (prevF l i) e).2 :: A :: F) := by
 obtain ⟨crv, mb, ps, hl, H⟩ := RdrP.iff.1 H
 obtain ⟨cr, chans, c, over⟩ := r
 obtain ⟨kind, g, chan, case_, value, mate, send, ok⟩ := e
 dsimp only at hl H 
 cases i with
 | zero =>
  obtain rfl : at_ = 0 := by simpa using hat
  rw [show prevF l 0 = none from rfl]
  refine calls_den (args := [_, _]) Tryd.func76 rfl (Nat.le_of_ble_eq_true (by kernel_rfl)) (by kernel_rfl) ?_
  refine ⟨?_⟩
  refine Nw.as #[.int .i64 kind, .int .i64 g, .int .i64 chan, .int .i64 case_, .int .i64 value, .int .i64 mate, .bool send, .bool ok] 33 rfl H fun b3 w H => ?_
  refine ⟨?_⟩
  refine Drw.of [(0, true), (1, true), (2, true), (3, true), (4, true), (5, true), (6, true), (7, true), (8, true), (9, true), (10, true), (11, true), (12, true), (13, true), (14, true), (15, true), (16, true), (17, false), (18, true)] (by kernel_rfl) mixed (fun w => SL w _) H.drew ?_
  replace H := H.drew
  refine LdC.i 1 rfl (v := .int .i64 0) rfl ?_
  refine BB.no rfl ?_
  refine Cn.no ?_
  refine ⟨?_⟩
  refine H.ldi 0 rfl (v := .int .i64 kind) rfl ?_
  refine BB.vr fun q1 e1 => ?_
  cases q1
  ·skip
   have h1 := beq_eq_false_iff_ne.1 e1
   refine Cn.no ?_
   refine ⟨?_⟩
   refine H.ldi 0 rfl (v := .int .i64 kind) rfl ?_
   refine H.ldi 0 rfl (v := .int .i64 g) rfl ?_
   refine H.ldi 0 rfl (v := .int .i64 chan) rfl ?_
   refine H.ldi 0 rfl (v := .int .i64 case_) rfl ?_
   refine H.ldi 0 rfl (v := .int .i64 value) rfl ?_
   refine H.ldi 0 rfl (v := .int .i64 mate) rfl ?_
   refine H.ldi 0 rfl (v := .bool send) rfl ?_
   refine H.ldi 0 rfl (v := .bool ok) rfl ?_
   refine H.st1 (cs' := #[.slice (some ⟨lb, lo, none⟩) l.length lc, .int .i64 0, crv, .map (some mb), .int .i64 kind, .int .i64 c.g, .int .i64 c.chan, .int .i64 c.case_, .int .i64 c.value, .int .i64 c.mate, .bool c.send, .bool c.ok, .bool over]) rfl rfl rfl fun w H => ?_
   refine H.st1 (cs' := #[.slice (some ⟨lb, lo, none⟩) l.length lc, .int .i64 0, crv, .map (some mb), .int .i64 kind, .int .i64 g, .int .i64 c.chan, .int .i64 c.case_, .int .i64 c.value, .int .i64 c.mate, .bool c.send, .bool c.ok, .bool over]) rfl rfl rfl fun w H => ?_
   refine H.st1 (cs' := #[.slice (some ⟨lb, lo, none⟩) l.length lc, .int .i64 0, crv, .map (some mb), .int .i64 kind, .int .i64 g, .int .i64 chan, .int .i64 c.case_, .int .i64 c.value, .int .i64 c.mate, .bool c.send, .bool c.ok, .bool over]) rfl rfl rfl fun w H => ?_
   refine H.st1 (cs' := #[.slice (some ⟨lb, lo, none⟩) l.length lc, .int .i64 0, crv, .map (some mb), .int .i64 kind, .int .i64 g, .int .i64 chan, .int .i64 case_, .int .i64 c.value, .int .i64 c.mate, .bool c.send, .bool c.ok, .bool over]) rfl rfl rfl fun w H => ?_
   refine H.st1 (cs' := #[.slice (some ⟨lb, lo, none⟩) l.length lc, .int .i64 0, crv, .map (some mb), .int .i64 kind, .int .i64 g, .int .i64 chan, .int .i64 case_, .int .i64 value, .int .i64 c.mate, .bool c.send, .bool c.ok, .bool over]) rfl rfl rfl fun w H => ?_
   refine H.st1 (cs' := #[.slice (some ⟨lb, lo, none⟩) l.length lc, .int .i64 0, crv, .map (some mb), .int .i64 kind, .int .i64 g, .int .i64 chan, .int .i64 case_, .int .i64 value, .int .i64 mate, .bool c.send, .bool c.ok, .bool over]) rfl rfl rfl fun w H => ?_
   refine H.st1 (cs' := #[.slice (some ⟨lb, lo, none⟩) l.length lc, .int .i64 0, crv, .map (some mb), .int .i64 kind, .int .i64 g, .int .i64 chan, .int .i64 case_, .int .i64 value, .int .i64 mate, .bool send, .bool c.ok, .bool over]) rfl rfl rfl fun w H => ?_
   refine H.st1 (cs' := #[.slice (some ⟨lb, lo, none⟩) l.length lc, .int .i64 0, crv, .map (some mb), .int .i64 kind, .int .i64 g, .int .i64 chan, .int .i64 case_, .int .i64 value, .int .i64 mate, .bool send, .bool ok, .bool over]) rfl rfl rfl fun w H => ?_
   refine ⟨?_⟩
   refine ret1 (fn := Tryd.f76) (.bool true) rfl (by rfl) ?_
   have hc : servedF ⟨cr, chans, c, over⟩ none ⟨kind, g, chan, case_, value, mate, send, ok⟩ = (true, ⟨cr, chans, ⟨kind, g, chan, case_, value, mate, send, ok⟩, over⟩) := by first | (simp [servedF, Option.filter, *]; done) | (simp [servedF, Option.filter, wantF, *]; done)
   rw [hc]
   have q := H.pick [1, 2, 3, 4, 5] 6 (by decide)
   simp only [pk, nth, pkA, pkB, pkC, pkD, pkE, pkF] at q
   exact ⟨rfl, RdrP.iff.2 ⟨crv, mb, ps, hl, q⟩⟩
  ·skip
   have h1 := eq_of_beq e1
   subst h1
   refine Cn.yes ?_
   refine ⟨?_⟩
   refine Drw.of [(0, true), (1, true), (2, true), (3, true), (4, true), (5, true), (6, true), (7, true), (8, true), (9, true), (10, true), (11, true), (12, true), (13, true), (14, true), (15, true), (16, true), (17, true), (18, true), (19, true), (20, true), (21, true), (22, true), (23, true), (24, true), (25, true), (26, true), (27, true), (28, true), (29, true), (30, true), (31, true), (32, true), (33, true), (34, true), (35, true), (36, true)] (by kernel_rfl) mixed (fun w => SL w _) H.drew ?_
   replace H := H.drew
   refine LdC.i 1 rfl (v := .int .i64 c.kind) rfl ?_
   refine BB.vr fun q2 e2 => ?_
   cases q2
   ·skip
    have h2 := beq_eq_false_iff_ne.1 e2
    refine ret1 (fn := Tryd.f76) (.bool false) rfl (by rfl) ?_
    have hc : servedF ⟨cr, chans, c, over⟩ none ⟨7, g, chan, case_, value, mate, send, ok⟩ = (false, ⟨cr, chans, c, over⟩) := by first | (simp [servedF, Option.filter, *]; done) | (simp [servedF, Option.filter, wantF, *]; done)
    rw [hc]
    have q := H.pick [1, 2, 3, 4, 5] 6 (by decide)
    simp only [pk, nth, pkA, pkB, pkC, pkD, pkE, pkF] at q
    exact ⟨rfl, RdrP.iff.2 ⟨crv, mb, ps, hl, q⟩⟩
   ·skip
    have h2 := eq_of_beq e2
    refine LdC.i 0 rfl (v := .int .i64 mate) rfl ?_
    refine LdC.i 1 rfl (v := .int .i64 c.g) rfl ?_
    refine BB.vr fun q3 e3 => ?_
    cases q3
    ·skip
     have h3 := beq_eq_false_iff_ne.1 e3
     refine ret1 (fn := Tryd.f76) (.bool false) rfl (by rfl) ?_
     have hc : servedF ⟨cr, chans, c, over⟩ none ⟨7, g, chan, case_, value, mate, send, ok⟩ = (false, ⟨cr, chans, c, over⟩) := by first | (simp [servedF, Option.filter, *]; done) | (simp [servedF, Option.filter, wantF, *]; done)
     rw [hc]
     have q := H.pick [1, 2, 3, 4, 5] 6 (by decide)
     simp only [pk, nth, pkA, pkB, pkC, pkD, pkE, pkF] at q
     exact ⟨rfl, RdrP.iff.2 ⟨crv, mb, ps, hl, q⟩⟩
    ·skip
     have h3 := eq_of_beq e3
     subst h3
     refine LdC.i 0 rfl (v := .int .i64 chan) rfl ?_
     refine LdC.i 1 rfl (v := .int .i64 c.chan) rfl ?_
     refine BB.vr fun q4 e4 => ?_
     cases q4
     ·skip
      have h4 := beq_eq_false_iff_ne.1 e4
      refine ret1 (fn := Tryd.f76) (.bool false) rfl (by rfl) ?_
      have hc : servedF ⟨cr, chans, c, over⟩ none ⟨7, g, chan, case_, value, c.g, send, ok⟩ = (false, ⟨cr, chans, c, over⟩) := by first | (simp [servedF, Option.filter, *]; done) | (simp [servedF, Option.filter, wantF, *]; done)
      rw [hc]
      have q := H.pick [1, 2, 3, 4, 5] 6 (by decide)
      simp only [pk, nth, pkA, pkB, pkC, pkD, pkE, pkF] at q
      exact ⟨rfl, RdrP.iff.2 ⟨crv, mb, ps, hl, q⟩⟩
     ·skip
      have h4 := eq_of_beq e4
      subst h4
      refine LdC.i 0 rfl (v := .bool send) rfl ?_
      refine BB.k ?_
      refine BB.vr fun q5 e5 => ?_
      cases q5
      ·skip
       have h5 : send = true := by simpa using e5
       subst h5
       refine ret1 (fn := Tryd.f76) (.bool false) rfl (by rfl) ?_
       have hc : servedF ⟨cr, chans, c, over⟩ none ⟨7, g, c.chan, case_, value, c.g, true, ok⟩ = (false, ⟨cr, chans, c, over⟩) := by first | (simp [servedF, Option.filter, *]; done) | (simp [servedF, Option.filter, wantF, *]; done)
       rw [hc]
       have q := H.pick [1, 2, 3, 4, 5] 6 (by decide)
       simp only [pk, nth, pkA, pkB, pkC, pkD, pkE, pkF] at q
       exact ⟨rfl, RdrP.iff.2 ⟨crv, mb, ps, hl, q⟩⟩
      ·skip
       have h5 : send = false := by simpa using e5
       subst h5
       refine LdC.i 0 rfl (v := .bool ok) rfl ?_
       refine BB.k ?_
       refine BB.k ?_
       refine ret1 (fn := Tryd.f76) (.bool (!ok)) rfl (by rfl) ?_
       have hc : servedF ⟨cr, chans, c, over⟩ none ⟨7, g, c.chan, case_, value, c.g, false, ok⟩ = (!ok, ⟨cr, chans, c, over⟩) := by first | (simp [servedF, Option.filter, *]; done) | (simp [servedF, Option.filter, wantF, *]; done)
       rw [hc]
       have q := H.pick [1, 2, 3, 4, 5] 6 (by decide)
       simp only [pk, nth, pkA, pkB, pkC, pkD, pkE, pkF] at q
       exact ⟨rfl, RdrP.iff.2 ⟨crv, mb, ps, hl, q⟩⟩
 | succ m =>
  obtain rfl : at_ = (m : Int) + 1 := by simpa using hat
  have hs : l[m]? = some l[m] := List.getElem?_eq_getElem _
  obtain ⟨s, hs2⟩ : ∃ s, l[m] = s := ⟨_, rfl⟩
  rw [hs2] at hs
  rw [show prevF l (m + 1) = some s by simp [prevF, hs]]
  clear hs2
  obtain ⟨sk, sg, sc, sca, sv, sm, ss, so⟩ := s
  refine calls_den (args := [_, _]) Tryd.func76 rfl (Nat.le_of_ble_eq_true (by kernel_rfl)) (by kernel_rfl) ?_
  refine ⟨?_⟩
  refine Nw.as #[.int .i64 kind, .int .i64 g, .int .i64 chan, .int .i64 case_, .int .i64 value, .int .i64 mate, .bool send, .bool ok] 33 rfl H fun b3 w H => ?_
  refine ⟨?_⟩
  refine Drw.of [(0, true), (1, true), (2, true), (3, true), (4, true), (5, true), (6, true), (7, true), (8, true), (9, true), (10, true), (11, true), (12, true), (13, true), (14, true), (15, true), (16, true), (17, false), (18, true)] (by kernel_rfl) mixed (fun w => SL w _) H.drew ?_
  replace H := H.drew
  refine LdC.i 1 rfl (v := .int .i64 (↑m + 1)) rfl ?_
  refine BB.yes (decide_eq_true (show ((m : Int) + 1 > 0) by omega)) ?_
  refine LdC.i 1 rfl (v := .slice (some ⟨lb, lo, none⟩) l.length lc) rfl ?_
  refine LdC.i 1 rfl (v := .int .i64 (↑m + 1)) rfl ?_
  refine IW.by (m := ↑m) (by rw [show ((m : Int) + 1 - 1) = (m : Int) by omega]; exact wrap_id (by omega) (by omega)) ?_
  refine Ix.at m 8 (by kernel_rfl) (rfl) ((by omega)) ?_
  refine LdC.E 5 rfl hA m 0 hs (v := .int .i64 sk) rfl ?_
  refine LdC.E 5 rfl hA m 1 hs (v := .int .i64 sg) rfl ?_
  refine LdC.E 5 rfl hA m 2 hs (v := .int .i64 sc) rfl ?_
  refine LdC.E 5 rfl hA m 3 hs (v := .int .i64 sca) rfl ?_
  refine LdC.E 5 rfl hA m 4 hs (v := .int .i64 sv) rfl ?_
  refine LdC.E 5 rfl hA m 5 hs (v := .int .i64 sm) rfl ?_
  refine LdC.E 5 rfl hA m 6 hs (v := .bool ss) rfl ?_
  refine LdC.E 5 rfl hA m 7 hs (v := .bool so) rfl ?_
  refine Cl.sl (by kernel_rfl) (g_serves H ⟨sk, sg, sc, sca, sv, sm, ss, so⟩) fun w H => ?_
  refine BB.vr fun q1 e1 => ?_
  refine ⟨.inr H, ?_⟩
  cases q1
  ·skip
   refine Cn.no ?_
   refine ⟨?_⟩
   refine H.ldi 0 rfl (v := .int .i64 kind) rfl ?_
   refine BB.vr fun q2 e2 => ?_
   cases q2
   ·skip
    have h2 := beq_eq_false_iff_ne.1 e2
    refine Cn.no ?_
    refine ⟨?_⟩
    refine H.ldi 0 rfl (v := .int .i64 kind) rfl ?_
    refine H.ldi 0 rfl (v := .int .i64 g) rfl ?_
    refine H.ldi 0 rfl (v := .int .i64 chan) rfl ?_
    refine H.ldi 0 rfl (v := .int .i64 case_) rfl ?_
    refine H.ldi 0 rfl (v := .int .i64 value) rfl ?_
    refine H.ldi 0 rfl (v := .int .i64 mate) rfl ?_
    refine H.ldi 0 rfl (v := .bool send) rfl ?_
    refine H.ldi 0 rfl (v := .bool ok) rfl ?_
    refine H.st1 (cs' := #[.slice (some ⟨lb, lo, none⟩) l.length lc, .int .i64 (↑m + 1), crv, .map (some mb), .int .i64 kind, .int .i64 c.g, .int .i64 c.chan, .int .i64 c.case_, .int .i64 c.value, .int .i64 c.mate, .bool c.send, .bool c.ok, .bool over]) rfl rfl rfl fun w H => ?_
    refine H.st1 (cs' := #[.slice (some ⟨lb, lo, none⟩) l.length lc, .int .i64 (↑m + 1), crv, .map (some mb), .int .i64 kind, .int .i64 g, .int .i64 c.chan, .int .i64 c.case_, .int .i64 c.value, .int .i64 c.mate, .bool c.send, .bool c.ok, .bool over]) rfl rfl rfl fun w H => ?_
    refine H.st1 (cs' := #[.slice (some ⟨lb, lo, none⟩) l.length lc, .int .i64 (↑m + 1), crv, .map (some mb), .int .i64 kind, .int .i64 g, .int .i64 chan, .int .i64 c.case_, .int .i64 c.value, .int .i64 c.mate, .bool c.send, .bool c.ok, .bool over]) rfl rfl rfl fun w H => ?_
    refine H.st1 (cs' := #[.slice (some ⟨lb, lo, none⟩) l.length lc, .int .i64 (↑m + 1), crv, .map (some mb), .int .i64 kind, .int .i64 g, .int .i64 chan, .int .i64 case_, .int .i64 c.value, .int .i64 c.mate, .bool c.send, .bool c.ok, .bool over]) rfl rfl rfl fun w H => ?_
    refine H.st1 (cs' := #[.slice (some ⟨lb, lo, none⟩) l.length lc, .int .i64 (↑m + 1), crv, .map (some mb), .int .i64 kind, .int .i64 g, .int .i64 chan, .int .i64 case_, .int .i64 value, .int .i64 c.mate, .bool c.send, .bool c.ok, .bool over]) rfl rfl rfl fun w H => ?_
    refine H.st1 (cs' := #[.slice (some ⟨lb, lo, none⟩) l.length lc, .int .i64 (↑m + 1), crv, .map (some mb), .int .i64 kind, .int .i64 g, .int .i64 chan, .int .i64 case_, .int .i64 value, .int .i64 mate, .bool c.send, .bool c.ok, .bool over]) rfl rfl rfl fun w H => ?_
    refine H.st1 (cs' := #[.slice (some ⟨lb, lo, none⟩) l.length lc, .int .i64 (↑m + 1), crv, .map (some mb), .int .i64 kind, .int .i64 g, .int .i64 chan, .int .i64 case_, .int .i64 value, .int .i64 mate, .bool send, .bool c.ok, .bool over]) rfl rfl rfl fun w H => ?_
    refine H.st1 (cs' := #[.slice (some ⟨lb, lo, none⟩) l.length lc, .int .i64 (↑m + 1), crv, .map (some mb), .int .i64 kind, .int .i64 g, .int .i64 chan, .int .i64 case_, .int .i64 value, .int .i64 mate, .bool send, .bool ok, .bool over]) rfl rfl rfl fun w H => ?_
    refine ⟨?_⟩
    refine ret1 (fn := Tryd.f76) (.bool true) rfl (by rfl) ?_
    have hc : servedF ⟨cr, chans, c, over⟩ (some ⟨sk, sg, sc, sca, sv, sm, ss, so⟩) ⟨kind, g, chan, case_, value, mate, send, ok⟩ = (true, ⟨cr, chans, ⟨kind, g, chan, case_, value, mate, send, ok⟩, over⟩) := by first | (simp [servedF, Option.filter, *]; done) | (simp [servedF, Option.filter, wantF, *]; done)
    rw [hc]
    have q := H.pick [1, 2, 3, 4, 5] 6 (by decide)
    simp only [pk, nth, pkA, pkB, pkC, pkD, pkE, pkF] at q
    exact ⟨rfl, RdrP.iff.2 ⟨crv, mb, ps, hl, q⟩⟩
   ·skip
    have h2 := eq_of_beq e2
    subst h2
    refine Cn.yes ?_
    refine ⟨?_⟩
    refine Drw.of [(0, true), (1, true), (2, true), (3, true), (4, true), (5, true), (6, true), (7, true), (8, true), (9, true), (10, true), (11, true), (12, true), (13, true), (14, true), (15, true), (16, true), (17, true), (18, true), (19, true), (20, true), (21, true), (22, true), (23, true), (24, true), (25, true), (26, true), (27, true), (28, true), (29, true), (30, true), (31, true), (32, true), (33, true), (34, true), (35, true), (36, true)] (by kernel_rfl) mixed (fun w => SL w _) H.drew ?_
    replace H := H.drew
    refine LdC.i 1 rfl (v := .int .i64 c.kind) rfl ?_
    refine BB.vr fun q3 e3 => ?_
    cases q3
    ·skip
     have h3 := beq_eq_false_iff_ne.1 e3
     refine ret1 (fn := Tryd.f76) (.bool false) rfl (by rfl) ?_
     have hc : servedF ⟨cr, chans, c, over⟩ (some ⟨sk, sg, sc, sca, sv, sm, ss, so⟩) ⟨7, g, chan, case_, value, mate, send, ok⟩ = (false, ⟨cr, chans, c, over⟩) := by first | (simp [servedF, Option.filter, *]; done) | (simp [servedF, Option.filter, wantF, *]; done)
     rw [hc]
     have q := H.pick [1, 2, 3, 4, 5] 6 (by decide)
     simp only [pk, nth, pkA, pkB, pkC, pkD, pkE, pkF] at q
     exact ⟨rfl, RdrP.iff.2 ⟨crv, mb, ps, hl, q⟩⟩
    ·skip
     have h3 := eq_of_beq e3
     refine LdC.i 0 rfl (v := .int .i64 mate) rfl ?_
     refine LdC.i 1 rfl (v := .int .i64 c.g) rfl ?_
     refine BB.vr fun q4 e4 => ?_
     cases q4
     ·skip
      have h4 := beq_eq_false_iff_ne.1 e4
      refine ret1 (fn := Tryd.f76) (.bool false) rfl (by rfl) ?_
      have hc : servedF ⟨cr, chans, c, over⟩ (some ⟨sk, sg, sc, sca, sv, sm, ss, so⟩) ⟨7, g, chan, case_, value, mate, send, ok⟩ = (false, ⟨cr, chans, c, over⟩) := by first | (simp [servedF, Option.filter, *]; done) | (simp [servedF, Option.filter, wantF, *]; done)
      rw [hc]
      have q := H.pick [1, 2, 3, 4, 5] 6 (by decide)
      simp only [pk, nth, pkA, pkB, pkC, pkD, pkE, pkF] at q
      exact ⟨rfl, RdrP.iff.2 ⟨crv, mb, ps, hl, q⟩⟩
     ·skip
      have h4 := eq_of_beq e4
      subst h4
      refine LdC.i 0 rfl (v := .int .i64 chan) rfl ?_
      refine LdC.i 1 rfl (v := .int .i64 c.chan) rfl ?_
      refine BB.vr fun q5 e5 => ?_
      cases q5
      ·skip
       have h5 := beq_eq_false_iff_ne.1 e5
       refine ret1 (fn := Tryd.f76) (.bool false) rfl (by rfl) ?_
       have hc : servedF ⟨cr, chans, c, over⟩ (some ⟨sk, sg, sc, sca, sv, sm, ss, so⟩) ⟨7, g, chan, case_, value, c.g, send, ok⟩ = (false, ⟨cr, chans, c, over⟩) := by first | (simp [servedF, Option.filter, *]; done) | (simp [servedF, Option.filter, wantF, *]; done)
       rw [hc]
       have q := H.pick [1, 2, 3, 4, 5] 6 (by decide)
       simp only [pk, nth, pkA, pkB, pkC, pkD, pkE, pkF] at q
       exact ⟨rfl, RdrP.iff.2 ⟨crv, mb, ps, hl, q⟩⟩
      ·skip
       have h5 := eq_of_beq e5
       subst h5
       refine LdC.i 0 rfl (v := .bool send) rfl ?_
       refine BB.k ?_
       refine BB.vr fun q6 e6 => ?_
       cases q6
       ·skip
        have h6 : send = true := by simpa using e6
        subst h6
        refine ret1 (fn := Tryd.f76) (.bool false) rfl (by rfl) ?_
        have hc : servedF ⟨cr, chans, c, over⟩ (some ⟨sk, sg, sc, sca, sv, sm, ss, so⟩) ⟨7, g, c.chan, case_, value, c.g, true, ok⟩ = (false, ⟨cr, chans, c, over⟩) := by first | (simp [servedF, Option.filter, *]; done) | (simp [servedF, Option.filter, wantF, *]; done)
        rw [hc]
        have q := H.pick [1, 2, 3, 4, 5] 6 (by decide)
        simp only [pk, nth, pkA, pkB, pkC, pkD, pkE, pkF] at q
        exact ⟨rfl, RdrP.iff.2 ⟨crv, mb, ps, hl, q⟩⟩
       ·skip
        have h6 : send = false := by simpa using e6
        subst h6
        refine LdC.i 0 rfl (v := .bool ok) rfl ?_
        refine BB.k ?_
        refine BB.k ?_
        refine ret1 (fn := Tryd.f76) (.bool (!ok)) rfl (by rfl) ?_
        have hc : servedF ⟨cr, chans, c, over⟩ (some ⟨sk, sg, sc, sca, sv, sm, ss, so⟩) ⟨7, g, c.chan, case_, value, c.g, false, ok⟩ = (!ok, ⟨cr, chans, c, over⟩) := by first | (simp [servedF, Option.filter, *]; done) | (simp [servedF, Option.filter, wantF, *]; done)
        rw [hc]
        have q := H.pick [1, 2, 3, 4, 5] 6 (by decide)
        simp only [pk, nth, pkA, pkB, pkC, pkD, pkE, pkF] at q
        exact ⟨rfl, RdrP.iff.2 ⟨crv, mb, ps, hl, q⟩⟩
  ·skip
   refine Cn.yes ?_
   refine ⟨?_⟩
   refine Drw.of [(0, true), (1, true), (2, true), (3, true), (4, true), (5, true), (6, true), (7, true), (8, true), (9, true), (10, true), (11, false), (12, false)] (by kernel_rfl) mixed (fun w => SL w _) H.drew ?_
   replace H := H.drew
   refine LdC.i 1 rfl (v := .slice (some ⟨lb, lo, none⟩) l.length lc) rfl ?_
   refine LdC.i 1 rfl (v := .int .i64 (↑m + 1)) rfl ?_
   refine IW.by (m := ↑m) (by rw [show ((m : Int) + 1 - 1) = (m : Int) by omega]; exact wrap_id (by omega) (by omega)) ?_
   refine Ix.at m 8 (by kernel_rfl) (rfl) ((by omega)) ?_
   refine LdC.E 5 rfl hA m 0 hs (v := .int .i64 sk) rfl ?_
   refine LdC.E 5 rfl hA m 1 hs (v := .int .i64 sg) rfl ?_
   refine LdC.E 5 rfl hA m 2 hs (v := .int .i64 sc) rfl ?_
   refine LdC.E 5 rfl hA m 3 hs (v := .int .i64 sca) rfl ?_
   refine LdC.E 5 rfl hA m 4 hs (v := .int .i64 sv) rfl ?_
   refine LdC.E 5 rfl hA m 5 hs (v := .int .i64 sm) rfl ?_
   refine LdC.E 5 rfl hA m 6 hs (v := .bool ss) rfl ?_
   refine LdC.E 5 rfl hA m 7 hs (v := .bool so) rfl ?_
   refine Nw.as #[.int .i64 0, .int .i64 0, .int .i64 0, .int .i64 0, .int .i64 0, .int .i64 0, .bool false, .bool false] 33 rfl H fun b5 w H => ?_
   refine ⟨.inr H.tl, ?_⟩
   refine H.st0 (cs' := #[.int .i64 sk, .int .i64 0, .int .i64 0, .int .i64 0, .int .i64 0, .int .i64 0, .bool false, .bool false]) rfl rfl rfl fun w H => ?_
   refine H.st0 (cs' := #[.int .i64 sk, .int .i64 sg, .int .i64 0, .int .i64 0, .int .i64 0, .int .i64 0, .bool false, .bool false]) rfl rfl rfl fun w H => ?_
   refine H.st0 (cs' := #[.int .i64 sk, .int .i64 sg, .int .i64 sc, .int .i64 0, .int .i64 0, .int .i64 0, .bool false, .bool false]) rfl rfl rfl fun w H => ?_
   refine H.st0 (cs' := #[.int .i64 sk, .int .i64 sg, .int .i64 sc, .int .i64 sca, .int .i64 0, .int .i64 0, .bool false, .bool false]) rfl rfl rfl fun w H => ?_
   refine H.st0 (cs' := #[.int .i64 sk, .int .i64 sg, .int .i64 sc, .int .i64 sca, .int .i64 sv, .int .i64 0, .bool false, .bool false]) rfl rfl rfl fun w H => ?_
   refine H.st0 (cs' := #[.int .i64 sk, .int .i64 sg, .int .i64 sc, .int .i64 sca, .int .i64 sv, .int .i64 sm, .bool false, .bool false]) rfl rfl rfl fun w H => ?_
   refine H.st0 (cs' := #[.int .i64 sk, .int .i64 sg, .int .i64 sc, .int .i64 sca, .int .i64 sv, .int .i64 sm, .bool ss, .bool false]) rfl rfl rfl fun w H => ?_
   refine H.st0 (cs' := #[.int .i64 sk, .int .i64 sg, .int .i64 sc, .int .i64 sca, .int .i64 sv, .int .i64 sm, .bool ss, .bool so]) rfl rfl rfl fun w H => ?_
   refine ⟨.inl rfl, ?_⟩
   refine ⟨?_⟩
   refine H.ldi 0 rfl (v := .int .i64 sm) rfl ?_
   refine H.ldi 0 rfl (v := .int .i64 sc) rfl ?_
   refine H.ldi 1 rfl (v := .int .i64 case_) rfl ?_
   refine H.ldi 1 rfl (v := .int .i64 value) rfl ?_
   refine H.ldi 0 rfl (v := .int .i64 sg) rfl ?_
   refine H.ldi 0 rfl (v := .bool ss) rfl ?_
   refine BB.k ?_
   refine BB.k ?_
   refine Mn.pure (.agg #[.int .i64 7, .int .i64 sm, .int .i64 sc, .int .i64 case_, .int .i64 value, .int .i64 sg, .bool (!ss), .bool true]) (by kernel_rfl) ?_
   refine Nw.as #[.int .i64 0, .int .i64 0, .int .i64 0, .int .i64 0, .int .i64 0, .int .i64 0, .bool false, .bool false] 33 rfl H fun b6 w H => ?_
   refine H.st0 (cs' := #[.int .i64 7, .int .i64 0, .int .i64 0, .int .i64 0, .int .i64 0, .int .i64 0, .bool false, .bool false]) rfl rfl rfl fun w H => ?_
   refine H.st0 (cs' := #[.int .i64 7, .int .i64 sm, .int .i64 0, .int .i64 0, .int .i64 0, .int .i64 0, .bool false, .bool false]) rfl rfl rfl fun w H => ?_
   refine H.st0 (cs' := #[.int .i64 7, .int .i64 sm, .int .i64 sc, .int .i64 0, .int .i64 0, .int .i64 0, .bool false, .bool false]) rfl rfl rfl fun w H => ?_
   refine H.st0 (cs' := #[.int .i64 7, .int .i64 sm, .int .i64 sc, .int .i64 case_, .int .i64 0, .int .i64 0, .bool false, .bool false]) rfl rfl rfl fun w H => ?_
   refine H.st0 (cs' := #[.int .i64 7, .int .i64 sm, .int .i64 sc, .int .i64 case_, .int .i64 value, .int .i64 0, .bool false, .bool false]) rfl rfl rfl fun w H => ?_
   refine H.st0 (cs' := #[.int .i64 7, .int .i64 sm, .int .i64 sc, .int .i64 case_, .int .i64 value, .int .i64 sg, .bool false, .bool false]) rfl rfl rfl fun w H => ?_
   refine H.st0 (cs' := #[.int .i64 7, .int .i64 sm, .int .i64 sc, .int .i64 case_, .int .i64 value, .int .i64 sg, .bool (!ss), .bool false]) rfl rfl rfl fun w H => ?_
   refine H.st0 (cs' := #[.int .i64 7, .int .i64 sm, .int .i64 sc, .int .i64 case_, .int .i64 value, .int .i64 sg, .bool (!ss), .bool true]) rfl rfl rfl fun w H => ?_
   refine ⟨?_⟩
   refine H.ldi 1 rfl (v := .bool ss) rfl ?_
   refine BB.k ?_
   cases ss
   ·skip
    refine Cn.no ?_
    refine ⟨?_⟩
    refine H.ldi 2 rfl (v := .int .i64 kind) rfl ?_
    refine H.ldi 2 rfl (v := .int .i64 g) rfl ?_
    refine H.ldi 2 rfl (v := .int .i64 chan) rfl ?_
    refine H.ldi 2 rfl (v := .int .i64 case_) rfl ?_
    refine H.ldi 2 rfl (v := .int .i64 value) rfl ?_
    refine H.ldi 2 rfl (v := .int .i64 mate) rfl ?_
    refine H.ldi 2 rfl (v := .bool send) rfl ?_
    refine H.ldi 2 rfl (v := .bool ok) rfl ?_
    refine H.ldi 0 rfl (v := .int .i64 7) rfl ?_
    refine H.ldi 0 rfl (v := .int .i64 sm) rfl ?_
    refine H.ldi 0 rfl (v := .int .i64 sc) rfl ?_
    refine H.ldi 0 rfl (v := .int .i64 case_) rfl ?_
    refine H.ldi 0 rfl (v := .int .i64 value) rfl ?_
    refine H.ldi 0 rfl (v := .int .i64 sg) rfl ?_
    refine H.ldi 0 rfl (v := .bool (!false)) rfl ?_
    refine H.ldi 0 rfl (v := .bool true) rfl ?_
    refine Mn.eqEv ⟨kind, g, chan, case_, value, mate, send, ok⟩ ⟨7, sm, sc, case_, value, sg, !false, true⟩ _ _ _ (by rfl) (by rfl) (by rfl) _ rfl ?_
    refine ret1 (fn := Tryd.f76) (.bool (decide ((⟨kind, g, chan, case_, value, mate, send, ok⟩ : Ev) = ⟨7, sm, sc, case_, value, sg, !false, true⟩))) rfl (by rfl) ?_
    have hc : servedF ⟨cr, chans, c, over⟩ (some ⟨sk, sg, sc, sca, sv, sm, false, so⟩) ⟨kind, g, chan, case_, value, mate, send, ok⟩ = (decide ((⟨kind, g, chan, case_, value, mate, send, ok⟩ : Ev) = ⟨7, sm, sc, case_, value, sg, !false, true⟩), ⟨cr, chans, c, over⟩) := by first | (simp [servedF, Option.filter, *]; done) | (simp [servedF, Option.filter, wantF, *]; done)
    rw [hc]
    have q := H.pick [3, 4, 5, 6, 7] 8 (by decide)
    simp only [pk, nth, pkA, pkB, pkC, pkD, pkE, pkF] at q
    exact ⟨rfl, RdrP.iff.2 ⟨crv, mb, ps, hl, q⟩⟩
   ·skip
    refine Cn.yes ?_
    refine ⟨?_⟩
    refine H.ldi 1 rfl (v := .int .i64 sv) rfl ?_
    refine H.st0 (cs' := #[.int .i64 7, .int .i64 sm, .int .i64 sc, .int .i64 case_, .int .i64 sv, .int .i64 sg, .bool (!true), .bool true]) rfl rfl rfl fun w H => ?_
    refine ⟨?_⟩
    refine H.ldi 2 rfl (v := .int .i64 kind) rfl ?_
    refine H.ldi 2 rfl (v := .int .i64 g) rfl ?_
    refine H.ldi 2 rfl (v := .int .i64 chan) rfl ?_
    refine H.ldi 2 rfl (v := .int .i64 case_) rfl ?_
    refine H.ldi 2 rfl (v := .int .i64 value) rfl ?_
    refine H.ldi 2 rfl (v := .int .i64 mate) rfl ?_
    refine H.ldi 2 rfl (v := .bool send) rfl ?_
    refine H.ldi 2 rfl (v := .bool ok) rfl ?_
    refine H.ldi 0 rfl (v := .int .i64 7) rfl ?_
    refine H.ldi 0 rfl (v := .int .i64 sm) rfl ?_
    refine H.ldi 0 rfl (v := .int .i64 sc) rfl ?_
    refine H.ldi 0 rfl (v := .int .i64 case_) rfl ?_
    refine H.ldi 0 rfl (v := .int .i64 sv) rfl ?_
    refine H.ldi 0 rfl (v := .int .i64 sg) rfl ?_
    refine H.ldi 0 rfl (v := .bool (!true)) rfl ?_
    refine H.ldi 0 rfl (v := .bool true) rfl ?_
    refine Mn.eqEv ⟨kind, g, chan, case_, value, mate, send, ok⟩ ⟨7, sm, sc, case_, sv, sg, !true, true⟩ _ _ _ (by rfl) (by rfl) (by rfl) _ rfl ?_
    refine ret1 (fn := Tryd.f76) (.bool (decide ((⟨kind, g, chan, case_, value, mate, send, ok⟩ : Ev) = ⟨7, sm, sc, case_, sv, sg, !true, true⟩))) rfl (by rfl) ?_
    have hc : servedF ⟨cr, chans, c, over⟩ (some ⟨sk, sg, sc, sca, sv, sm, true, so⟩) ⟨kind, g, chan, case_, value, mate, send, ok⟩ = (decide ((⟨kind, g, chan, case_, value, mate, send, ok⟩ : Ev) = ⟨7, sm, sc, case_, sv, sg, !true, true⟩), ⟨cr, chans, c, over⟩) := by first | (simp [servedF, Option.filter, *]; done) | (simp [servedF, Option.filter, wantF, *]; done)
    rw [hc]
    have q := H.pick [3, 4, 5, 6, 7] 8 (by decide)
    simp only [pk, nth, pkA, pkB, pkC, pkD, pkE, pkF] at q
    exact ⟨rfl, RdrP.iff.2 ⟨crv, mb, ps, hl, q⟩⟩
theorem g_next {w : World} {L : List Piece} {A : Piece} {rb lb lo lc i mb : Nat} {l : List Ev} {crv : Value} {c : Ev} {over : Bool} (hA : EvA A lb lo l) (hi : i < l.length) (hll : l.length ≤ 100000) (H : SL w L)
  (i1 i2 : Nat) (h1 : L[i1]? = some (rdrRow rb (.slice (some ⟨lb, lo, none⟩) l.length lc) (i : Int) crv mb c over)) (h2 : L[i2]? = some A) (h12 : i1 ≠ i2) {nv : Int} {nt : Bool} (hnv : (nextF l i).getD 0 = nv) (hnt : (nextF l i).isSome = nt) :
  Calls Tryd.prog 94 #[.pointer (some ⟨rb, 0, none⟩)] w fun o w' => o = .returned (.tuple #[.int .i64 nv, .bool nt]) ∧ SL w' L := by
 obtain ⟨R, hR⟩ := perm_two i1 i2 h1 h2 h12
 have key : Calls Tryd.prog 94 #[.pointer (some ⟨rb, 0, none⟩)] w fun o w' => o = .returned (.tuple #[.int .i64 nv, .bool nt]) ∧ SL w' (rdrRow rb (.slice (some ⟨lb, lo, none⟩) l.length lc) (i : Int) crv mb c over :: A :: R) := by
  replace H := H.perm hR
  clear h1 h2 h12 hR
  by_cases hn : i + 1 < l.length
  ·have hs : l[i + 1]? = some l[i + 1] := List.getElem?_eq_getElem _
   obtain ⟨s, hs2⟩ : ∃ s, l[i + 1] = s := ⟨_, rfl⟩
   rw [hs2] at hs
   have hv : nextF l i = some s.value := by simp [nextF, hs]
   clear hs2
   refine calls_den (args := [_]) Tryd.func94 rfl (Nat.le_of_ble_eq_true (by kernel_rfl)) (by kernel_rfl) ?_
   refine ⟨?_⟩
   refine ⟨?_⟩
   refine Drw.of [(0, true), (1, true), (2, true), (3, true), (4, true), (5, true), (6, true), (7, true), (8, true), (9, true), (10, true)] (by kernel_rfl) mixed (fun w => SL w _) H.drew ?_
   replace H := H.drew
   refine LdC.i 0 rfl (v := .int .i64 ↑i) rfl ?_
   refine IW.by (m := ↑i + 1) (wrap_id (by omega) (by omega)) ?_
   refine LdC.i 0 rfl (v := .slice (some ⟨lb, lo, none⟩) l.length lc) rfl ?_
   refine BB.no (decide_eq_false (by omega)) ?_
   refine Cn.no ?_
   refine ⟨?_⟩
   refine Drw.of [(0, true), (1, true), (2, true), (3, true), (4, true), (5, true), (6, true), (7, true), (8, true), (9, true), (10, true), (11, true), (12, true), (13, true)] (by kernel_rfl) mixed (fun w => SL w _) H.drew ?_
   replace H := H.drew
   refine LdC.i 0 rfl (v := .slice (some ⟨lb, lo, none⟩) l.length lc) rfl ?_
   refine LdC.i 0 rfl (v := .int .i64 ↑i) rfl ?_
   refine IW.by (m := ↑i + 1) (wrap_id (by omega) (by omega)) ?_
   refine Ix.at (i + 1) 8 (by kernel_rfl) (by omega) (by omega) ?_
   refine LdC.E 1 rfl hA (i + 1) 4 hs (v := .int .i64 s.value) rfl ?_
   refine ret2 (fn := Tryd.f94) (.int .i64 s.value) (.bool true) rfl (by rfl) (by rfl) ?_
   exact ⟨by rw [← hnv, ← hnt, hv]; rfl, H⟩
  ·have hv : nextF l i = none := by simp [nextF]; omega
   refine calls_den (args := [_]) Tryd.func94 rfl (Nat.le_of_ble_eq_true (by kernel_rfl)) (by kernel_rfl) ?_
   refine ⟨?_⟩
   refine ⟨?_⟩
   refine Drw.of [(0, true), (1, true), (2, true), (3, true), (4, true), (5, true), (6, true), (7, true), (8, true), (9, true), (10, true)] (by kernel_rfl) mixed (fun w => SL w _) H.drew ?_
   replace H := H.drew
   refine LdC.i 0 rfl (v := .int .i64 ↑i) rfl ?_
   refine IW.by (m := ↑i + 1) (wrap_id (by omega) (by omega)) ?_
   refine LdC.i 0 rfl (v := .slice (some ⟨lb, lo, none⟩) l.length lc) rfl ?_
   refine BB.yes (decide_eq_true (by omega)) ?_
   refine Cn.yes ?_
   refine ⟨?_⟩
   refine ret2 (fn := Tryd.f94) (.int .i64 0) (.bool false) rfl (by rfl) (by rfl) ?_
   exact ⟨by rw [← hnv, ← hnt, hv]; rfl, H⟩
 exact key.mono (fun o w' h => ⟨h.1, h.2.perm hR.symm⟩)
/-- The buffer behind what comes in, whether something is taken, whether the service is missing. -/
def feedF (c : ChnM) (next : Option Int) (e : Ev) : List Int × Bool × Bool :=
  (if e.send = true then c.buf ++ [e.value] else if 0 ≤ e.mate then (match next with | some v => c.buf ++ [v] | none => c.buf) else c.buf,
   if e.send = true then decide (0 ≤ e.mate) else true, !e.send && decide (0 ≤ e.mate) && next.isNone)
theorem takeF_feed (c : ChnM) (next : Option Int) (e : Ev) : takeF c next e = match (feedF c next e).2.1, (feedF c next e).1 with
 | true, v :: L => (v == e.value && decide ((L.length : Int) ≤ c.size), { c with buf := L })
 | _, L => ((!(feedF c next e).2.1 || (feedF c next e).2.2) && decide ((L.length : Int) ≤ c.size), { c with buf := L }) := rfl
theorem feedF_len {c : ChnM} {next : Option Int} {e : Ev} {Y : List Int} {b : Bool × Bool} (h : feedF c next e = (Y, b)) (hc : c.buf.length ≤ 1000000) : Y.length < 100000000 := by
 unfold feedF at h
 injection h with h _
 subst h
 split
 ·simp; omega
 ·split
  ·split
   ·simp; omega
   ·omega
  ·omega
theorem ints_oneG (a : List Int) (v : Int) : ints a ++ [.int .i64 v] = ints (a ++ [v]) := by simp [ints]
theorem reader_set {w : World} {F : List Piece} {A B C : Piece} {ps : List Nat} {chans : List ChnM} {k p : Nat} {x y : ChnM} {v : Value} {mb : Nat} (hl : ps.length = chans.length) (hp : ps[k]? = some p) (hx : chans[k]? = some x)
  (H : SL w (A :: B :: MapP 3 mb chans.length (chMap ps) :: row p #[.int .i64 y.size, v, .bool y.closed] 175 :: Qu 3 1 v y.buf.length (ints y.buf) :: all ((List.zipWith chP ps chans).eraseIdx k) :: C :: F)) :
  SL w (A :: B :: MapP 3 mb (chans.set k y).length (chMap ps) :: chsP ps (chans.set k y) :: C :: F) := by
 have h := H.pick [3, 4, 5, 0, 1, 2, 6] 7 (by decide)
 simp only [pk, nth, pkA, pkB, pkC, pkD, pkE, pkF] at h
 have h2 := (chs_put hl hp hx h).pick [1, 2, 3, 0, 4] 5 (by decide)
 simp only [pk, nth, pkA, pkB, pkC, pkD, pkE, pkF] at h2
 rw [List.length_set]
 exact h2
theorem set_sameG {α : Type} : ∀ {l : List α} {k : Nat} {x : α}, l[k]? = some x → l.set k x = l
 | [], _, _, h => by simp at h
 | a :: l, 0, x, h => by simp at h; simp [h]
 | a :: l, k + 1, x, h => by rw [List.set_cons_succ, set_sameG (by simpa using h)]
theorem reader_back {w : World} {F : List Piece} {A B C : Piece} {ps : List Nat} {chans : List ChnM} {k p : Nat} {x : ChnM} {v : Value} {mb : Nat} (hl : ps.length = chans.length) (hp : ps[k]? = some p) (hx : chans[k]? = some x)
  (H : SL w (A :: B :: MapP 3 mb chans.length (chMap ps) :: row p #[.int .i64 x.size, v, .bool x.closed] 175 :: Qu 3 1 v x.buf.length (ints x.buf) :: all ((List.zipWith chP ps chans).eraseIdx k) :: C :: F)) :
  SL w (A :: B :: MapP 3 mb chans.length (chMap ps) :: chsP ps chans :: C :: F) := by
 have h := reader_set hl hp hx H
 rw [set_sameG hx] at h
 exact h
set_option maxHeartbeats 2000000 in
theorem g_ordered {w : World} {F : List Piece} {A : Piece} {rb lb lo lc n i : Nat} {l : List Ev} {at_ : Int} {r : RdrM} {e : Ev} (hA : EvA A lb lo l) (hat : at_ = (i : Int)) (hi : i < l.length) (hll : l.length ≤ 100000) (B : EvB e) (hs : Sized n r) (hn : n < 1000000) (H : SL w (RdrP rb (.slice (some ⟨lb, lo, none⟩) l.length lc) at_ r :: A :: F)) :
  Calls Tryd.prog 77 #[.pointer (some ⟨rb, 0, none⟩), e.agg] w fun o w' => o = .returned (.bool (orderedF r (nextF l i) e).1) ∧ SL w' (RdrP rb (.slice (some ⟨lb, lo, none⟩) l.length lc) at_ (orderedF r (nextF l i) e).2 :: A :: F) := by
 subst hat
 obtain ⟨crv, mb, ps, hl, H⟩ := RdrP.iff.1 H
 obtain ⟨cr, chans, c, over⟩ := r
 obtain ⟨kind, g, chan, case_, value, mate, send, ok⟩ := e
 dsimp only at hl H 
 cases hf : chanF ⟨cr, chans, c, over⟩ chan with
 | none =>
  have hm := chMap_none hl (r := ⟨cr, chans, c, over⟩) rfl hf
  refine calls_den (args := [_, _]) Tryd.func77 rfl (Nat.le_of_ble_eq_true (by kernel_rfl)) (by kernel_rfl) ?_
  refine ⟨?_⟩
  refine Nw.as #[.int .i64 kind, .int .i64 g, .int .i64 chan, .int .i64 case_, .int .i64 value, .int .i64 mate, .bool send, .bool ok] 33 rfl H fun b3 w H => ?_
  refine ⟨?_⟩
  refine Drw.of [(0, true), (1, true), (2, true), (3, true), (4, true), (5, true), (6, true), (7, true)] (by kernel_rfl) mixed (fun w => SL w _) H.drew ?_
  replace H := H.drew
  refine LdC.i 1 rfl (v := .map (some mb)) rfl ?_
  refine LdC.i 0 rfl (v := .int .i64 chan) rfl ?_
  refine MnC.lookV 3 rfl (.tmp 14) (.tmp 16) 105 173 (by rfl) (by kernel_rfl) (by kernel_rfl) (z := .pointer none) (fun _ => by kernel_rfl) chan (key_wf (by have := B.chan; dsimp only at this; omega) (by have := B.chan; dsimp only at this; omega)) (by rfl) (by rfl) (.pointer none) (by rw [hm]; rfl) ?_
  refine ⟨?_⟩
  refine BB.yes rfl ?_
  refine Cn.yes ?_
  refine ⟨?_⟩
  refine ret1 (fn := Tryd.f77) (.bool true) rfl (by rfl) ?_
  exact ⟨by rw [orderedF, hf], by rw [show (orderedF ⟨cr, chans, c, over⟩ (nextF l i) ⟨kind, g, chan, case_, value, mate, send, ok⟩).2 = ⟨cr, chans, c, over⟩ by rw [orderedF, hf]]; exact RdrP.iff.2 ⟨crv, mb, ps, hl, H.tl⟩⟩
 | some x =>
  obtain ⟨k, p, hk, hx, hp, hm⟩ := chMap_some hl (r := ⟨cr, chans, c, over⟩) rfl hf
  obtain ⟨nv, hnv⟩ : ∃ v, (nextF l i).getD 0 = v := ⟨_, rfl⟩
  obtain ⟨nt, hnt⟩ : ∃ v, (nextF l i).isSome = v := ⟨_, rfl⟩
  have hxb : x.buf.length ≤ 1000000 := Nat.le_trans (hs.buf x (List.mem_of_getElem? hx)) (by omega)
  have hkt : chan.toNat = k := by rw [hk]; rfl
  clear hk
  have H0 := H.up3
  obtain ⟨v, H1⟩ := chs_take hl hp hx H0
  obtain ⟨qa, qc, rfl⟩ := SL.quForm H1.up1
  replace H := H1.pick [3, 4, 5, 0, 1, 2] 6 (by decide)
  simp only [pk, nth, pkA, pkB, pkC, pkD, pkE, pkF] at H
  clear H0 H1
  refine calls_den (args := [_, _]) Tryd.func77 rfl (Nat.le_of_ble_eq_true (by kernel_rfl)) (by kernel_rfl) ?_
  refine ⟨?_⟩
  refine Nw.as #[.int .i64 kind, .int .i64 g, .int .i64 chan, .int .i64 case_, .int .i64 value, .int .i64 mate, .bool send, .bool ok] 33 rfl H fun b3 w H => ?_
  refine ⟨?_⟩
  refine Drw.of [(0, true), (1, true), (2, true), (3, true), (4, true), (5, true), (6, true), (7, true)] (by kernel_rfl) mixed (fun w => SL w _) H.drew ?_
  replace H := H.drew
  refine LdC.i 1 rfl (v := .map (some mb)) rfl ?_
  refine LdC.i 0 rfl (v := .int .i64 chan) rfl ?_
  refine MnC.lookV 3 rfl (.tmp 14) (.tmp 16) 105 173 (by rfl) (by kernel_rfl) (by kernel_rfl) (z := .pointer none) (fun _ => by kernel_rfl) chan (key_wf (by have := B.chan; dsimp only at this; omega) (by have := B.chan; dsimp only at this; omega)) (by rfl) (by rfl) (.pointer (some ⟨p, 0, none⟩)) (by rw [hm]; rfl) ?_
  refine ⟨?_⟩
  refine BB.no rfl ?_
  refine H.ldi 0 rfl (v := .int .i64 kind) rfl ?_
  refine BB.vr fun q1 e1 => ?_
  cases q1
  ·skip
   have h1 := bne_eq_false_iff_eq.1 e1
   subst h1
   refine Cn.no ?_
   refine ⟨?_⟩
   refine ⟨?_⟩
   refine H.ldi 0 rfl (v := .bool send) rfl ?_
   refine BB.k ?_
   refine CdX.cut (ι := List Int × Option Addr × Nat × Bool × Bool) [(6, 9), (37, 71)] (by kernel_rfl) (fun (Y, ya, yc, TK, MS) => [(6, .bool TK), (7, .bool MS)]) (fun (Y, ya, yc, TK, MS) w => feedF x (nextF l i) ⟨3, g, chan, case_, value, mate, send, ok⟩ = (Y, TK, MS) ∧ SL w (row b3 #[.int .i64 3, .int .i64 g, .int .i64 chan, .int .i64 case_, .int .i64 value, .int .i64 mate, .bool send, .bool ok] 33 :: row rb #[.slice (some ⟨lb, lo, none⟩) l.length lc, .int .i64 ↑i, crv, .map (some mb), .int .i64 c.kind, .int .i64 c.g, .int .i64 c.chan, .int .i64 c.case_, .int .i64 c.value, .int .i64 c.mate, .bool c.send, .bool c.ok, .bool over] 107 :: Slc 171 2 crv cr.length (crewC cr) :: MapP 3 mb chans.length (chMap ps) :: row p #[.int .i64 x.size, .slice ya Y.length yc, .bool x.closed] 175 :: Qu 3 1 (.slice ya Y.length yc) Y.length (ints Y) :: all ((List.zipWith chP ps chans).eraseIdx k) :: A :: F)) ?_ ?_
   ·skip
    cases send
    ·skip
     refine Cn.no ?_
     refine ⟨?_⟩
     refine H.ldi 0 rfl (v := .int .i64 mate) rfl ?_
     refine BB.vr fun q2 e2 => ?_
     cases q2
     ·skip
      have h2 := of_decide_eq_false e2
      refine Cn.no ?_
      have q := H.pick [0, 1, 2, 3, 4, 5, 6, 7] 8 (by decide)
      simp only [pk, nth, pkA, pkB, pkC, pkD, pkE, pkF] at q
      have hy : feedF x (nextF l i) ⟨3, g, chan, case_, value, mate, false, ok⟩ = (x.buf, true, false) := by first | (simp [feedF, *]; done) | (cases hnx : nextF l i <;> simp_all [feedF])
      exact ⟨(x.buf, qa, qc, true, false), ⟨rfl, rfl, trivial⟩, hy, q⟩
     ·skip
      have h2 := of_decide_eq_true e2
      refine Cn.yes ?_
      refine ⟨?_⟩
      refine Cl.sl (by kernel_rfl) (g_next hA hi hll H 1 7 rfl rfl (by decide) hnv hnt) fun w H => ?_
      refine ⟨?_⟩
      cases nt
      ·skip
       refine Cn.no ?_
       refine ⟨?_⟩
       refine BB.yes rfl ?_
       have q := H.pick [0, 1, 2, 3, 4, 5, 6, 7] 8 (by decide)
       simp only [pk, nth, pkA, pkB, pkC, pkD, pkE, pkF] at q
       have hy : feedF x (nextF l i) ⟨3, g, chan, case_, value, mate, false, ok⟩ = (x.buf, true, true) := by first | (simp [feedF, *]; done) | (cases hnx : nextF l i <;> simp_all [feedF])
       exact ⟨(x.buf, qa, qc, true, true), ⟨rfl, rfl, trivial⟩, hy, q⟩
      ·skip
       refine Cn.yes ?_
       refine ⟨?_⟩
       refine H.ldi 4 rfl (v := .slice qa x.buf.length qc) rfl ?_
       refine Mn.new (fun b => .slice (some ⟨b, 0, none⟩) 1 1) #[.int .i64 nv] 3 (by kernel_rfl) H fun b66 w H => ?_
       refine SL.appQs H.up6 (.tmp 64) (.tmp 66) 44 (.int .i64 0) 8 (by rfl) (by kernel_rfl) (by kernel_rfl) (by rfl) (by decide) (by rfl) ⟨b66, 0, none⟩ 1 1 [.int .i64 nv] (by rfl) (H.rdRow 0 rfl (by rfl) (by decide)) (by decide) (by rfl) (by omega) (by decide) fun g3 o3 c3 w H => ?_
       refine H.st6 (cs' := #[.int .i64 x.size, .slice (some ⟨g3, o3, none⟩) (x.buf.length + 1) c3, .bool x.closed]) rfl rfl rfl fun w H => ?_
       refine ⟨?_⟩
       refine BB.no rfl ?_
       have q := H.pick [2, 3, 4, 5, 6, 0, 7, 8] 9 (by decide)
       simp only [pk, nth, pkA, pkB, pkC, pkD, pkE, pkF] at q
       have hy : feedF x (nextF l i) ⟨3, g, chan, case_, value, mate, false, ok⟩ = ((x.buf ++ [nv]), true, false) := by first | (simp [feedF, *]; done) | (cases hnx : nextF l i <;> simp_all [feedF])
       rw [ints_oneG] at q
       rw [show x.buf.length + 1 = (x.buf ++ [nv]).length by simp] at q
       exact ⟨((x.buf ++ [nv]), (some ⟨g3, o3, none⟩), c3, true, false), ⟨rfl, rfl, trivial⟩, hy, q⟩
    ·skip
     refine Cn.yes ?_
     refine ⟨?_⟩
     refine Drw.of [(0, true), (1, true), (2, true), (3, true), (4, true), (5, true), (6, true), (7, false), (8, false), (9, true), (10, true), (11, false)] (by kernel_rfl) mixed (fun w => SL w _) (H.drew.pick [0, 1, 2, 3, 4, 6, 7] 8 (by decide)) ?_
     replace H := H.drew
     refine LdC.i 4 rfl (v := .slice qa x.buf.length qc) rfl ?_
     refine LdC.i 0 rfl (v := .int .i64 value) rfl ?_
     refine Mn.new (fun b => .slice (some ⟨b, 0, none⟩) 1 1) #[.int .i64 value] 3 (by kernel_rfl) H fun b44 w H => ?_
     refine ⟨.inr (H.pick [1, 2, 3, 4, 5, 7, 8] 9 (by decide)), ?_⟩
     refine SL.appQs H.up6 (.tmp 41) (.tmp 44) 44 (.int .i64 0) 8 (by rfl) (by kernel_rfl) (by kernel_rfl) (by rfl) (by decide) (by rfl) ⟨b44, 0, none⟩ 1 1 [.int .i64 value] (by rfl) (H.rdRow 0 rfl (by rfl) (by decide)) (by decide) (by rfl) (by omega) (by decide) fun g4 o4 c4 w H => ?_
     refine ⟨.inr (H.pick [2, 3, 4, 5, 6, 7, 8] 9 (by decide)), ?_⟩
     refine H.st6 (cs' := #[.int .i64 x.size, .slice (some ⟨g4, o4, none⟩) (x.buf.length + 1) c4, .bool x.closed]) rfl rfl rfl fun w H => ?_
     refine ⟨.inl rfl, ?_⟩
     refine ⟨?_⟩
     refine H.ldi 2 rfl (v := .int .i64 mate) rfl ?_
     refine BB.vr fun q5 e5 => ?_
     have q := H.pick [2, 3, 4, 5, 6, 0, 7, 8] 9 (by decide)
     simp only [pk, nth, pkA, pkB, pkC, pkD, pkE, pkF] at q
     have hy : feedF x (nextF l i) ⟨3, g, chan, case_, value, mate, true, ok⟩ = ((x.buf ++ [value]), q5, false) := by first | (simp [feedF, *]; done) | (cases hnx : nextF l i <;> simp_all [feedF])
     rw [ints_oneG] at q
     rw [show x.buf.length + 1 = (x.buf ++ [value]).length by simp] at q
     exact ⟨((x.buf ++ [value]), (some ⟨g4, o4, none⟩), c4, q5, false), ⟨rfl, rfl, trivial⟩, hy, q⟩
   ·skip
    rintro ⟨Y, ya, yc, TK, MS⟩ s w ⟨hy, H⟩
    have hYl : Y.length < 100000000 := feedF_len hy hxb
    cases Y with
    | nil =>
     refine ⟨?_⟩
     cases TK
     ·skip
      refine Cn.no ?_
      refine ⟨?_⟩
      refine Drw.of [(0, true), (1, true), (2, true), (3, true), (4, true), (5, true), (6, true), (7, true), (8, true), (9, true), (10, true), (11, true), (12, true), (13, true), (14, true), (15, true), (16, true), (17, true)] (by kernel_rfl) mixed (fun w => SL w _) H.drew ?_
      replace H := H.drew
      refine BB.yes rfl ?_
      refine LdC.i 4 rfl (v := .slice ya 0 yc) rfl ?_
      refine LdC.i 4 rfl (v := .int .i64 x.size) rfl ?_
      refine BB.k ?_
      refine ret1 (fn := Tryd.f77) (.bool (decide (0 ≤ x.size))) rfl (by rfl) ?_
      have q := H.pick [1, 2, 3, 4, 5, 6, 7] 8 (by decide)
      simp only [pk, nth, pkA, pkB, pkC, pkD, pkE, pkF] at q
      have hT : takeF x (nextF l i) ⟨3, g, chan, case_, value, mate, send, ok⟩ = (decide (0 ≤ x.size), { x with buf := [] }) := by rw [takeF_feed, hy]; simp [*]
      have hO : orderedF ⟨cr, chans, c, over⟩ (nextF l i) ⟨3, g, chan, case_, value, mate, send, ok⟩ = (decide (0 ≤ x.size), ⟨cr, chans.set k { x with buf := [] }, c, over⟩) := by rw [orderedF, hf]; simp [*]
      rw [hO]
      exact ⟨rfl, RdrP.iff.2 ⟨crv, mb, ps, by simpa using hl, reader_set (y := { x with buf := [] }) hl hp hx q⟩⟩
     ·skip
      refine H.ldi 4 rfl (v := .slice ya 0 yc) rfl ?_
      refine BB.no rfl ?_
      refine Cn.no ?_
      refine ⟨?_⟩
      refine Drw.of [(0, true), (1, true), (2, true), (3, true), (4, true), (5, true), (6, true), (7, true), (8, true), (9, true), (10, true), (11, true), (12, true), (13, true), (14, true), (15, true), (16, true), (17, true)] (by kernel_rfl) mixed (fun w => SL w _) H.drew ?_
      replace H := H.drew
      refine BB.no rfl ?_
      cases MS
      ·skip
       refine ret1 (fn := Tryd.f77) (.bool false) rfl (by rfl) ?_
       have q := H.pick [1, 2, 3, 4, 5, 6, 7] 8 (by decide)
       simp only [pk, nth, pkA, pkB, pkC, pkD, pkE, pkF] at q
       have hT : takeF x (nextF l i) ⟨3, g, chan, case_, value, mate, send, ok⟩ = (false, { x with buf := [] }) := by rw [takeF_feed, hy]; simp [*]
       have hO : orderedF ⟨cr, chans, c, over⟩ (nextF l i) ⟨3, g, chan, case_, value, mate, send, ok⟩ = (false, ⟨cr, chans.set k { x with buf := [] }, c, over⟩) := by rw [orderedF, hf]; simp [*]
       rw [hO]
       exact ⟨rfl, RdrP.iff.2 ⟨crv, mb, ps, by simpa using hl, reader_set (y := { x with buf := [] }) hl hp hx q⟩⟩
      ·skip
       refine LdC.i 4 rfl (v := .slice ya 0 yc) rfl ?_
       refine LdC.i 4 rfl (v := .int .i64 x.size) rfl ?_
       refine BB.k ?_
       refine ret1 (fn := Tryd.f77) (.bool (decide (0 ≤ x.size))) rfl (by rfl) ?_
       have q := H.pick [1, 2, 3, 4, 5, 6, 7] 8 (by decide)
       simp only [pk, nth, pkA, pkB, pkC, pkD, pkE, pkF] at q
       have hT : takeF x (nextF l i) ⟨3, g, chan, case_, value, mate, send, ok⟩ = (decide (0 ≤ x.size), { x with buf := [] }) := by rw [takeF_feed, hy]; simp [*]
       have hO : orderedF ⟨cr, chans, c, over⟩ (nextF l i) ⟨3, g, chan, case_, value, mate, send, ok⟩ = (decide (0 ≤ x.size), ⟨cr, chans.set k { x with buf := [] }, c, over⟩) := by rw [orderedF, hf]; simp [*]
       rw [hO]
       exact ⟨rfl, RdrP.iff.2 ⟨crv, mb, ps, by simpa using hl, reader_set (y := { x with buf := [] }) hl hp hx q⟩⟩
    | cons y0 Y =>
     have hob := SL.quAddr H.up5 (Nat.succ_pos _)
     obtain ⟨yg, yo, rfl⟩ := hob
     refine ⟨?_⟩
     cases TK
     ·skip
      refine Cn.no ?_
      refine ⟨?_⟩
      refine Drw.of [(0, true), (1, true), (2, true), (3, true), (4, true), (5, true), (6, true), (7, true), (8, true), (9, true), (10, true), (11, true), (12, true), (13, true), (14, true), (15, true), (16, true), (17, true)] (by kernel_rfl) mixed (fun w => SL w _) H.drew ?_
      replace H := H.drew
      refine BB.yes rfl ?_
      refine LdC.i 4 rfl (v := .slice (some ⟨yg, yo, none⟩) (Y.length + 1) yc) rfl ?_
      refine LdC.i 4 rfl (v := .int .i64 x.size) rfl ?_
      refine BB.k ?_
      refine ret1 (fn := Tryd.f77) (.bool (decide ((↑(Y.length + 1) : Int) ≤ x.size))) rfl (by rfl) ?_
      have q := H.pick [1, 2, 3, 4, 5, 6, 7] 8 (by decide)
      simp only [pk, nth, pkA, pkB, pkC, pkD, pkE, pkF] at q
      have hT : takeF x (nextF l i) ⟨3, g, chan, case_, value, mate, send, ok⟩ = (decide ((↑(Y.length + 1) : Int) ≤ x.size), { x with buf := (y0 :: Y) }) := by rw [takeF_feed, hy]; simp [*]
      have hO : orderedF ⟨cr, chans, c, over⟩ (nextF l i) ⟨3, g, chan, case_, value, mate, send, ok⟩ = (decide ((↑(Y.length + 1) : Int) ≤ x.size), ⟨cr, chans.set k { x with buf := (y0 :: Y) }, c, over⟩) := by rw [orderedF, hf]; simp [*]
      rw [hO]
      exact ⟨rfl, RdrP.iff.2 ⟨crv, mb, ps, by simpa using hl, reader_set (y := { x with buf := (y0 :: Y) }) hl hp hx q⟩⟩
     ·skip
      refine H.ldi 4 rfl (v := .slice (some ⟨yg, yo, none⟩) (Y.length + 1) yc) rfl ?_
      refine BB.yes (decide_eq_true (show ((Y.length + 1 : Nat) : Int) > 0 by omega)) ?_
      refine Cn.yes ?_
      refine ⟨?_⟩
      refine H.ldi 4 rfl (v := .slice (some ⟨yg, yo, none⟩) (Y.length + 1) yc) rfl ?_
      refine Ix.at 0 1 (by kernel_rfl) (rfl) (Nat.succ_pos _) ?_
      refine H.ldQ 5 rfl (o := 0 * 1) (v := .int .i64 y0) (rfl) ?_
      refine ⟨?_⟩
      refine H.ldi 4 rfl (v := .slice (some ⟨yg, yo, none⟩) (Y.length + 1) yc) rfl ?_
      refine Mn.tails H.up5 (.tmp 91) (.const (.int .i64 1)) 44 (by rfl) (by kernel_rfl) (by kernel_rfl) (by rfl) (by rfl) fun a6 c6 w H => ?_
      refine H.st5 (cs' := #[.int .i64 x.size, .slice a6 Y.length c6, .bool x.closed]) rfl rfl rfl fun w H => ?_
      refine ⟨?_⟩
      refine Drw.of [(0, true), (1, true), (2, true), (3, true), (4, true), (5, true), (6, true), (7, true), (8, true), (9, true), (10, true), (11, true), (12, true), (13, true), (14, true), (15, true), (16, true)] (by kernel_rfl) mixed (fun w => SL w _) H.drew ?_
      replace H := H.drew
      refine LdC.i 1 rfl (v := .int .i64 value) rfl ?_
      refine BB.vr fun q7 e7 => ?_
      cases q7
      ·skip
       have h7 := beq_eq_false_iff_ne.1 e7
       refine ret1 (fn := Tryd.f77) (.bool false) rfl (by rfl) ?_
       have q := H.pick [2, 3, 4, 5, 0, 6, 7] 8 (by decide)
       simp only [pk, nth, pkA, pkB, pkC, pkD, pkE, pkF] at q
       have hT : takeF x (nextF l i) ⟨3, g, chan, case_, value, mate, send, ok⟩ = (false, { x with buf := Y }) := by rw [takeF_feed, hy]; simp [*]
       have hO : orderedF ⟨cr, chans, c, over⟩ (nextF l i) ⟨3, g, chan, case_, value, mate, send, ok⟩ = (false, ⟨cr, chans.set k { x with buf := Y }, c, over⟩) := by rw [orderedF, hf]; simp [*]
       rw [hO]
       exact ⟨rfl, RdrP.iff.2 ⟨crv, mb, ps, by simpa using hl, reader_set (y := { x with buf := Y }) hl hp hx q⟩⟩
      ·skip
       have h7 := eq_of_beq e7
       refine LdC.i 5 rfl (v := .slice a6 Y.length c6) rfl ?_
       refine LdC.i 5 rfl (v := .int .i64 x.size) rfl ?_
       refine BB.k ?_
       refine ret1 (fn := Tryd.f77) (.bool (decide ((↑Y.length : Int) ≤ x.size))) rfl (by rfl) ?_
       have q := H.pick [2, 3, 4, 5, 0, 6, 7] 8 (by decide)
       simp only [pk, nth, pkA, pkB, pkC, pkD, pkE, pkF] at q
       have hT : takeF x (nextF l i) ⟨3, g, chan, case_, value, mate, send, ok⟩ = (decide ((↑Y.length : Int) ≤ x.size), { x with buf := Y }) := by rw [takeF_feed, hy]; simp [*]
       have hO : orderedF ⟨cr, chans, c, over⟩ (nextF l i) ⟨3, g, chan, case_, value, mate, send, ok⟩ = (decide ((↑Y.length : Int) ≤ x.size), ⟨cr, chans.set k { x with buf := Y }, c, over⟩) := by rw [orderedF, hf]; simp [*]
       rw [hO]
       exact ⟨rfl, RdrP.iff.2 ⟨crv, mb, ps, by simpa using hl, reader_set (y := { x with buf := Y }) hl hp hx q⟩⟩
  ·skip
   have h1 := bne_iff_ne.1 e1
   refine H.ldi 0 rfl (v := .int .i64 kind) rfl ?_
   refine BB.vr fun q8 e8 => ?_
   cases q8
   ·skip
    have h8 := bne_eq_false_iff_eq.1 e8
    subst h8
    refine H.ldi 0 rfl (v := .bool ok) rfl ?_
    refine BB.k ?_
    refine BB.vr fun q9 e9 => ?_
    cases q9
    ·skip
     have h9 : ok = true := by simpa using e9
     subst h9
     refine Cn.no ?_
     refine ⟨?_⟩
     refine ⟨?_⟩
     refine H.ldi 0 rfl (v := .bool send) rfl ?_
     refine BB.k ?_
     refine CdX.cut (ι := List Int × Option Addr × Nat × Bool × Bool) [(6, 9), (37, 71)] (by kernel_rfl) (fun (Y, ya, yc, TK, MS) => [(6, .bool TK), (7, .bool MS)]) (fun (Y, ya, yc, TK, MS) w => feedF x (nextF l i) ⟨4, g, chan, case_, value, mate, send, true⟩ = (Y, TK, MS) ∧ SL w (row b3 #[.int .i64 4, .int .i64 g, .int .i64 chan, .int .i64 case_, .int .i64 value, .int .i64 mate, .bool send, .bool true] 33 :: row rb #[.slice (some ⟨lb, lo, none⟩) l.length lc, .int .i64 ↑i, crv, .map (some mb), .int .i64 c.kind, .int .i64 c.g, .int .i64 c.chan, .int .i64 c.case_, .int .i64 c.value, .int .i64 c.mate, .bool c.send, .bool c.ok, .bool over] 107 :: Slc 171 2 crv cr.length (crewC cr) :: MapP 3 mb chans.length (chMap ps) :: row p #[.int .i64 x.size, .slice ya Y.length yc, .bool x.closed] 175 :: Qu 3 1 (.slice ya Y.length yc) Y.length (ints Y) :: all ((List.zipWith chP ps chans).eraseIdx k) :: A :: F)) ?_ ?_
     ·skip
      cases send
      ·skip
       refine Cn.no ?_
       refine ⟨?_⟩
       refine H.ldi 0 rfl (v := .int .i64 mate) rfl ?_
       refine BB.vr fun q10 e10 => ?_
       cases q10
       ·skip
        have h10 := of_decide_eq_false e10
        refine Cn.no ?_
        have q := H.pick [0, 1, 2, 3, 4, 5, 6, 7] 8 (by decide)
        simp only [pk, nth, pkA, pkB, pkC, pkD, pkE, pkF] at q
        have hy : feedF x (nextF l i) ⟨4, g, chan, case_, value, mate, false, true⟩ = (x.buf, true, false) := by first | (simp [feedF, *]; done) | (cases hnx : nextF l i <;> simp_all [feedF])
        exact ⟨(x.buf, qa, qc, true, false), ⟨rfl, rfl, trivial⟩, hy, q⟩
       ·skip
        have h10 := of_decide_eq_true e10
        refine Cn.yes ?_
        refine ⟨?_⟩
        refine Cl.sl (by kernel_rfl) (g_next hA hi hll H 1 7 rfl rfl (by decide) hnv hnt) fun w H => ?_
        refine ⟨?_⟩
        cases nt
        ·skip
         refine Cn.no ?_
         refine ⟨?_⟩
         refine BB.yes rfl ?_
         have q := H.pick [0, 1, 2, 3, 4, 5, 6, 7] 8 (by decide)
         simp only [pk, nth, pkA, pkB, pkC, pkD, pkE, pkF] at q
         have hy : feedF x (nextF l i) ⟨4, g, chan, case_, value, mate, false, true⟩ = (x.buf, true, true) := by first | (simp [feedF, *]; done) | (cases hnx : nextF l i <;> simp_all [feedF])
         exact ⟨(x.buf, qa, qc, true, true), ⟨rfl, rfl, trivial⟩, hy, q⟩
        ·skip
         refine Cn.yes ?_
         refine ⟨?_⟩
         refine H.ldi 4 rfl (v := .slice qa x.buf.length qc) rfl ?_
         refine Mn.new (fun b => .slice (some ⟨b, 0, none⟩) 1 1) #[.int .i64 nv] 3 (by kernel_rfl) H fun b66 w H => ?_
         refine SL.appQs H.up6 (.tmp 64) (.tmp 66) 44 (.int .i64 0) 8 (by rfl) (by kernel_rfl) (by kernel_rfl) (by rfl) (by decide) (by rfl) ⟨b66, 0, none⟩ 1 1 [.int .i64 nv] (by rfl) (H.rdRow 0 rfl (by rfl) (by decide)) (by decide) (by rfl) (by omega) (by decide) fun g11 o11 c11 w H => ?_
         refine H.st6 (cs' := #[.int .i64 x.size, .slice (some ⟨g11, o11, none⟩) (x.buf.length + 1) c11, .bool x.closed]) rfl rfl rfl fun w H => ?_
         refine ⟨?_⟩
         refine BB.no rfl ?_
         have q := H.pick [2, 3, 4, 5, 6, 0, 7, 8] 9 (by decide)
         simp only [pk, nth, pkA, pkB, pkC, pkD, pkE, pkF] at q
         have hy : feedF x (nextF l i) ⟨4, g, chan, case_, value, mate, false, true⟩ = ((x.buf ++ [nv]), true, false) := by first | (simp [feedF, *]; done) | (cases hnx : nextF l i <;> simp_all [feedF])
         rw [ints_oneG] at q
         rw [show x.buf.length + 1 = (x.buf ++ [nv]).length by simp] at q
         exact ⟨((x.buf ++ [nv]), (some ⟨g11, o11, none⟩), c11, true, false), ⟨rfl, rfl, trivial⟩, hy, q⟩
      ·skip
       refine Cn.yes ?_
       refine ⟨?_⟩
       refine Drw.of [(0, true), (1, true), (2, true), (3, true), (4, true), (5, true), (6, true), (7, false), (8, false), (9, true), (10, true), (11, false)] (by kernel_rfl) mixed (fun w => SL w _) (H.drew.pick [0, 1, 2, 3, 4, 6, 7] 8 (by decide)) ?_
       replace H := H.drew
       refine LdC.i 4 rfl (v := .slice qa x.buf.length qc) rfl ?_
       refine LdC.i 0 rfl (v := .int .i64 value) rfl ?_
       refine Mn.new (fun b => .slice (some ⟨b, 0, none⟩) 1 1) #[.int .i64 value] 3 (by kernel_rfl) H fun b44 w H => ?_
       refine ⟨.inr (H.pick [1, 2, 3, 4, 5, 7, 8] 9 (by decide)), ?_⟩
       refine SL.appQs H.up6 (.tmp 41) (.tmp 44) 44 (.int .i64 0) 8 (by rfl) (by kernel_rfl) (by kernel_rfl) (by rfl) (by decide) (by rfl) ⟨b44, 0, none⟩ 1 1 [.int .i64 value] (by rfl) (H.rdRow 0 rfl (by rfl) (by decide)) (by decide) (by rfl) (by omega) (by decide) fun g12 o12 c12 w H => ?_
       refine ⟨.inr (H.pick [2, 3, 4, 5, 6, 7, 8] 9 (by decide)), ?_⟩
       refine H.st6 (cs' := #[.int .i64 x.size, .slice (some ⟨g12, o12, none⟩) (x.buf.length + 1) c12, .bool x.closed]) rfl rfl rfl fun w H => ?_
       refine ⟨.inl rfl, ?_⟩
       refine ⟨?_⟩
       refine H.ldi 2 rfl (v := .int .i64 mate) rfl ?_
       refine BB.vr fun q13 e13 => ?_
       have q := H.pick [2, 3, 4, 5, 6, 0, 7, 8] 9 (by decide)
       simp only [pk, nth, pkA, pkB, pkC, pkD, pkE, pkF] at q
       have hy : feedF x (nextF l i) ⟨4, g, chan, case_, value, mate, true, true⟩ = ((x.buf ++ [value]), q13, false) := by first | (simp [feedF, *]; done) | (cases hnx : nextF l i <;> simp_all [feedF])
       rw [ints_oneG] at q
       rw [show x.buf.length + 1 = (x.buf ++ [value]).length by simp] at q
       exact ⟨((x.buf ++ [value]), (some ⟨g12, o12, none⟩), c12, q13, false), ⟨rfl, rfl, trivial⟩, hy, q⟩
     ·skip
      rintro ⟨Y, ya, yc, TK, MS⟩ s w ⟨hy, H⟩
      have hYl : Y.length < 100000000 := feedF_len hy hxb
      cases Y with
      | nil =>
       refine ⟨?_⟩
       cases TK
       ·skip
        refine Cn.no ?_
        refine ⟨?_⟩
        refine Drw.of [(0, true), (1, true), (2, true), (3, true), (4, true), (5, true), (6, true), (7, true), (8, true), (9, true), (10, true), (11, true), (12, true), (13, true), (14, true), (15, true), (16, true), (17, true)] (by kernel_rfl) mixed (fun w => SL w _) H.drew ?_
        replace H := H.drew
        refine BB.yes rfl ?_
        refine LdC.i 4 rfl (v := .slice ya 0 yc) rfl ?_
        refine LdC.i 4 rfl (v := .int .i64 x.size) rfl ?_
        refine BB.k ?_
        refine ret1 (fn := Tryd.f77) (.bool (decide (0 ≤ x.size))) rfl (by rfl) ?_
        have q := H.pick [1, 2, 3, 4, 5, 6, 7] 8 (by decide)
        simp only [pk, nth, pkA, pkB, pkC, pkD, pkE, pkF] at q
        have hT : takeF x (nextF l i) ⟨4, g, chan, case_, value, mate, send, true⟩ = (decide (0 ≤ x.size), { x with buf := [] }) := by rw [takeF_feed, hy]; simp [*]
        have hO : orderedF ⟨cr, chans, c, over⟩ (nextF l i) ⟨4, g, chan, case_, value, mate, send, true⟩ = (decide (0 ≤ x.size), ⟨cr, chans.set k { x with buf := [] }, c, over⟩) := by rw [orderedF, hf]; simp [*]
        rw [hO]
        exact ⟨rfl, RdrP.iff.2 ⟨crv, mb, ps, by simpa using hl, reader_set (y := { x with buf := [] }) hl hp hx q⟩⟩
       ·skip
        refine H.ldi 4 rfl (v := .slice ya 0 yc) rfl ?_
        refine BB.no rfl ?_
        refine Cn.no ?_
        refine ⟨?_⟩
        refine Drw.of [(0, true), (1, true), (2, true), (3, true), (4, true), (5, true), (6, true), (7, true), (8, true), (9, true), (10, true), (11, true), (12, true), (13, true), (14, true), (15, true), (16, true), (17, true)] (by kernel_rfl) mixed (fun w => SL w _) H.drew ?_
        replace H := H.drew
        refine BB.no rfl ?_
        cases MS
        ·skip
         refine ret1 (fn := Tryd.f77) (.bool false) rfl (by rfl) ?_
         have q := H.pick [1, 2, 3, 4, 5, 6, 7] 8 (by decide)
         simp only [pk, nth, pkA, pkB, pkC, pkD, pkE, pkF] at q
         have hT : takeF x (nextF l i) ⟨4, g, chan, case_, value, mate, send, true⟩ = (false, { x with buf := [] }) := by rw [takeF_feed, hy]; simp [*]
         have hO : orderedF ⟨cr, chans, c, over⟩ (nextF l i) ⟨4, g, chan, case_, value, mate, send, true⟩ = (false, ⟨cr, chans.set k { x with buf := [] }, c, over⟩) := by rw [orderedF, hf]; simp [*]
         rw [hO]
         exact ⟨rfl, RdrP.iff.2 ⟨crv, mb, ps, by simpa using hl, reader_set (y := { x with buf := [] }) hl hp hx q⟩⟩
        ·skip
         refine LdC.i 4 rfl (v := .slice ya 0 yc) rfl ?_
         refine LdC.i 4 rfl (v := .int .i64 x.size) rfl ?_
         refine BB.k ?_
         refine ret1 (fn := Tryd.f77) (.bool (decide (0 ≤ x.size))) rfl (by rfl) ?_
         have q := H.pick [1, 2, 3, 4, 5, 6, 7] 8 (by decide)
         simp only [pk, nth, pkA, pkB, pkC, pkD, pkE, pkF] at q
         have hT : takeF x (nextF l i) ⟨4, g, chan, case_, value, mate, send, true⟩ = (decide (0 ≤ x.size), { x with buf := [] }) := by rw [takeF_feed, hy]; simp [*]
         have hO : orderedF ⟨cr, chans, c, over⟩ (nextF l i) ⟨4, g, chan, case_, value, mate, send, true⟩ = (decide (0 ≤ x.size), ⟨cr, chans.set k { x with buf := [] }, c, over⟩) := by rw [orderedF, hf]; simp [*]
         rw [hO]
         exact ⟨rfl, RdrP.iff.2 ⟨crv, mb, ps, by simpa using hl, reader_set (y := { x with buf := [] }) hl hp hx q⟩⟩
      | cons y0 Y =>
       have hob := SL.quAddr H.up5 (Nat.succ_pos _)
       obtain ⟨yg, yo, rfl⟩ := hob
       refine ⟨?_⟩
       cases TK
       ·skip
        refine Cn.no ?_
        refine ⟨?_⟩
        refine Drw.of [(0, true), (1, true), (2, true), (3, true), (4, true), (5, true), (6, true), (7, true), (8, true), (9, true), (10, true), (11, true), (12, true), (13, true), (14, true), (15, true), (16, true), (17, true)] (by kernel_rfl) mixed (fun w => SL w _) H.drew ?_
        replace H := H.drew
        refine BB.yes rfl ?_
        refine LdC.i 4 rfl (v := .slice (some ⟨yg, yo, none⟩) (Y.length + 1) yc) rfl ?_
        refine LdC.i 4 rfl (v := .int .i64 x.size) rfl ?_
        refine BB.k ?_
        refine ret1 (fn := Tryd.f77) (.bool (decide ((↑(Y.length + 1) : Int) ≤ x.size))) rfl (by rfl) ?_
        have q := H.pick [1, 2, 3, 4, 5, 6, 7] 8 (by decide)
        simp only [pk, nth, pkA, pkB, pkC, pkD, pkE, pkF] at q
        have hT : takeF x (nextF l i) ⟨4, g, chan, case_, value, mate, send, true⟩ = (decide ((↑(Y.length + 1) : Int) ≤ x.size), { x with buf := (y0 :: Y) }) := by rw [takeF_feed, hy]; simp [*]
        have hO : orderedF ⟨cr, chans, c, over⟩ (nextF l i) ⟨4, g, chan, case_, value, mate, send, true⟩ = (decide ((↑(Y.length + 1) : Int) ≤ x.size), ⟨cr, chans.set k { x with buf := (y0 :: Y) }, c, over⟩) := by rw [orderedF, hf]; simp [*]
        rw [hO]
        exact ⟨rfl, RdrP.iff.2 ⟨crv, mb, ps, by simpa using hl, reader_set (y := { x with buf := (y0 :: Y) }) hl hp hx q⟩⟩
       ·skip
        refine H.ldi 4 rfl (v := .slice (some ⟨yg, yo, none⟩) (Y.length + 1) yc) rfl ?_
        refine BB.yes (decide_eq_true (show ((Y.length + 1 : Nat) : Int) > 0 by omega)) ?_
        refine Cn.yes ?_
        refine ⟨?_⟩
        refine H.ldi 4 rfl (v := .slice (some ⟨yg, yo, none⟩) (Y.length + 1) yc) rfl ?_
        refine Ix.at 0 1 (by kernel_rfl) (rfl) (Nat.succ_pos _) ?_
        refine H.ldQ 5 rfl (o := 0 * 1) (v := .int .i64 y0) (rfl) ?_
        refine ⟨?_⟩
        refine H.ldi 4 rfl (v := .slice (some ⟨yg, yo, none⟩) (Y.length + 1) yc) rfl ?_
        refine Mn.tails H.up5 (.tmp 91) (.const (.int .i64 1)) 44 (by rfl) (by kernel_rfl) (by kernel_rfl) (by rfl) (by rfl) fun a14 c14 w H => ?_
        refine H.st5 (cs' := #[.int .i64 x.size, .slice a14 Y.length c14, .bool x.closed]) rfl rfl rfl fun w H => ?_
        refine ⟨?_⟩
        refine Drw.of [(0, true), (1, true), (2, true), (3, true), (4, true), (5, true), (6, true), (7, true), (8, true), (9, true), (10, true), (11, true), (12, true), (13, true), (14, true), (15, true), (16, true)] (by kernel_rfl) mixed (fun w => SL w _) H.drew ?_
        replace H := H.drew
        refine LdC.i 1 rfl (v := .int .i64 value) rfl ?_
        refine BB.vr fun q15 e15 => ?_
        cases q15
        ·skip
         have h15 := beq_eq_false_iff_ne.1 e15
         refine ret1 (fn := Tryd.f77) (.bool false) rfl (by rfl) ?_
         have q := H.pick [2, 3, 4, 5, 0, 6, 7] 8 (by decide)
         simp only [pk, nth, pkA, pkB, pkC, pkD, pkE, pkF] at q
         have hT : takeF x (nextF l i) ⟨4, g, chan, case_, value, mate, send, true⟩ = (false, { x with buf := Y }) := by rw [takeF_feed, hy]; simp [*]
         have hO : orderedF ⟨cr, chans, c, over⟩ (nextF l i) ⟨4, g, chan, case_, value, mate, send, true⟩ = (false, ⟨cr, chans.set k { x with buf := Y }, c, over⟩) := by rw [orderedF, hf]; simp [*]
         rw [hO]
         exact ⟨rfl, RdrP.iff.2 ⟨crv, mb, ps, by simpa using hl, reader_set (y := { x with buf := Y }) hl hp hx q⟩⟩
        ·skip
         have h15 := eq_of_beq e15
         refine LdC.i 5 rfl (v := .slice a14 Y.length c14) rfl ?_
         refine LdC.i 5 rfl (v := .int .i64 x.size) rfl ?_
         refine BB.k ?_
         refine ret1 (fn := Tryd.f77) (.bool (decide ((↑Y.length : Int) ≤ x.size))) rfl (by rfl) ?_
         have q := H.pick [2, 3, 4, 5, 0, 6, 7] 8 (by decide)
         simp only [pk, nth, pkA, pkB, pkC, pkD, pkE, pkF] at q
         have hT : takeF x (nextF l i) ⟨4, g, chan, case_, value, mate, send, true⟩ = (decide ((↑Y.length : Int) ≤ x.size), { x with buf := Y }) := by rw [takeF_feed, hy]; simp [*]
         have hO : orderedF ⟨cr, chans, c, over⟩ (nextF l i) ⟨4, g, chan, case_, value, mate, send, true⟩ = (decide ((↑Y.length : Int) ≤ x.size), ⟨cr, chans.set k { x with buf := Y }, c, over⟩) := by rw [orderedF, hf]; simp [*]
         rw [hO]
         exact ⟨rfl, RdrP.iff.2 ⟨crv, mb, ps, by simpa using hl, reader_set (y := { x with buf := Y }) hl hp hx q⟩⟩
    ·skip
     have h9 : ok = false := by simpa using e9
     subst h9
     refine Cn.yes ?_
     refine ⟨?_⟩
     refine ret1 (fn := Tryd.f77) (.bool true) rfl (by rfl) ?_
     exact ⟨by rw [orderedF, hf]; simp [*], by rw [show (orderedF ⟨cr, chans, c, over⟩ (nextF l i) ⟨4, g, chan, case_, value, mate, send, false⟩).2 = ⟨cr, chans, c, over⟩ by rw [orderedF, hf]; simp [*]]; exact RdrP.iff.2 ⟨crv, mb, ps, hl, reader_back hl hp hx H.tl⟩⟩
   ·skip
    have h8 := bne_iff_ne.1 e8
    refine Cn.yes ?_
    refine ⟨?_⟩
    refine ret1 (fn := Tryd.f77) (.bool true) rfl (by rfl) ?_
    exact ⟨by rw [orderedF, hf]; simp [*], by rw [show (orderedF ⟨cr, chans, c, over⟩ (nextF l i) ⟨kind, g, chan, case_, value, mate, send, ok⟩).2 = ⟨cr, chans, c, over⟩ by rw [orderedF, hf]; simp [*]]; exact RdrP.iff.2 ⟨crv, mb, ps, hl, reader_back hl hp hx H.tl⟩⟩
theorem isEmpty_int (l : List Int) : l.isEmpty = ((l.length : Int) == 0) := by
 cases l with
 | nil => rfl
 | cons a l =>
  have : ((((a :: l).length : Int)) == 0) = false := beq_eq_false_iff_ne.2 (by simp only [List.length_cons]; omega)
  rw [this]
  rfl
theorem reader_set0 {w : World} {F : List Piece} {A B : Piece} {ps : List Nat} {chans : List ChnM} {k p : Nat} {x y : ChnM} {v : Value} {mb : Nat} (hl : ps.length = chans.length) (hp : ps[k]? = some p) (hx : chans[k]? = some x)
  (H : SL w (A :: B :: MapP 3 mb chans.length (chMap ps) :: row p #[.int .i64 y.size, v, .bool y.closed] 175 :: Qu 3 1 v y.buf.length (ints y.buf) :: all ((List.zipWith chP ps chans).eraseIdx k) :: F)) :
  SL w (A :: B :: MapP 3 mb (chans.set k y).length (chMap ps) :: chsP ps (chans.set k y) :: F) := by
 have h := H.pick [3, 4, 5, 0, 1, 2] 6 (by decide)
 simp only [pk, nth, pkA, pkB, pkC, pkD, pkE, pkF] at h
 have h2 := (chs_put hl hp hx h).pick [1, 2, 3, 0] 4 (by decide)
 simp only [pk, nth, pkA, pkB, pkC, pkD, pkE, pkF] at h2
 rw [List.length_set]
 exact h2
theorem reader_back0 {w : World} {F : List Piece} {A B : Piece} {ps : List Nat} {chans : List ChnM} {k p : Nat} {x : ChnM} {v : Value} {mb : Nat} (hl : ps.length = chans.length) (hp : ps[k]? = some p) (hx : chans[k]? = some x)
  (H : SL w (A :: B :: MapP 3 mb chans.length (chMap ps) :: row p #[.int .i64 x.size, v, .bool x.closed] 175 :: Qu 3 1 v x.buf.length (ints x.buf) :: all ((List.zipWith chP ps chans).eraseIdx k) :: F)) :
  SL w (A :: B :: MapP 3 mb chans.length (chMap ps) :: chsP ps chans :: F) := by
 have h := reader_set0 hl hp hx H
 rw [set_sameG hx] at h
 exact h
set_option maxHeartbeats 2000000 in
theorem g_closed {w : World} {F : List Piece} {rb n : Nat} {lv : Value} {at_ : Int} {r : RdrM} {e : Ev} (B : EvB e) (H : SL w (RdrP rb lv at_ r :: F)) :
  Calls Tryd.prog 78 #[.pointer (some ⟨rb, 0, none⟩), e.agg] w fun o w' => o = .returned (.bool (closedF r e).1) ∧ SL w' (RdrP rb lv at_ (closedF r e).2 :: F) := by
 obtain ⟨crv, mb, ps, hl, H⟩ := RdrP.iff.1 H
 obtain ⟨cr, chans, c, over⟩ := r
 obtain ⟨kind, g, chan, case_, value, mate, send, ok⟩ := e
 dsimp only at hl H 
 cases hf : chanF ⟨cr, chans, c, over⟩ chan with
 | none =>
  have hm := chMap_none hl (r := ⟨cr, chans, c, over⟩) rfl hf
  refine calls_den (args := [_, _]) Tryd.func78 rfl (Nat.le_of_ble_eq_true (by kernel_rfl)) (by kernel_rfl) ?_
  refine ⟨?_⟩
  refine Nw.as #[.int .i64 kind, .int .i64 g, .int .i64 chan, .int .i64 case_, .int .i64 value, .int .i64 mate, .bool send, .bool ok] 33 rfl H fun b3 w H => ?_
  refine ⟨?_⟩
  refine Drw.of [(0, true), (1, true), (2, true), (3, true), (4, true), (5, true), (6, true), (7, true)] (by kernel_rfl) mixed (fun w => SL w _) H.drew ?_
  replace H := H.drew
  refine LdC.i 1 rfl (v := .map (some mb)) rfl ?_
  refine LdC.i 0 rfl (v := .int .i64 chan) rfl ?_
  refine MnC.lookV 3 rfl (.tmp 10) (.tmp 12) 105 173 (by rfl) (by kernel_rfl) (by kernel_rfl) (z := .pointer none) (fun _ => by kernel_rfl) chan (key_wf (by have := B.chan; dsimp only at this; omega) (by have := B.chan; dsimp only at this; omega)) (by rfl) (by rfl) (.pointer none) (by rw [hm]; rfl) ?_
  refine ⟨?_⟩
  refine ⟨?_⟩
  refine BB.yes rfl ?_
  refine Cn.yes ?_
  refine ⟨?_⟩
  refine ret1 (fn := Tryd.f78) (.bool true) rfl (by rfl) ?_
  exact ⟨by rw [closedF, hf], by rw [show (closedF ⟨cr, chans, c, over⟩ ⟨kind, g, chan, case_, value, mate, send, ok⟩).2 = ⟨cr, chans, c, over⟩ by rw [closedF, hf]]; exact RdrP.iff.2 ⟨crv, mb, ps, hl, H.tl⟩⟩
 | some x =>
  obtain ⟨k, p, hk, hx, hp, hm⟩ := chMap_some hl (r := ⟨cr, chans, c, over⟩) rfl hf
  have hkt : chan.toNat = k := by rw [hk]; rfl
  clear hk
  have H0 := H.up3
  obtain ⟨v, H1⟩ := chs_take hl hp hx H0
  obtain ⟨qa, qc, rfl⟩ := SL.quForm H1.up1
  replace H := H1.pick [3, 4, 5, 0, 1, 2] 6 (by decide)
  simp only [pk, nth, pkA, pkB, pkC, pkD, pkE, pkF] at H
  clear H0 H1
  obtain ⟨xs, xb, xc⟩ := x
  dsimp only at H
  refine calls_den (args := [_, _]) Tryd.func78 rfl (Nat.le_of_ble_eq_true (by kernel_rfl)) (by kernel_rfl) ?_
  refine ⟨?_⟩
  refine Nw.as #[.int .i64 kind, .int .i64 g, .int .i64 chan, .int .i64 case_, .int .i64 value, .int .i64 mate, .bool send, .bool ok] 33 rfl H fun b3 w H => ?_
  refine ⟨?_⟩
  refine Drw.of [(0, true), (1, true), (2, true), (3, true), (4, true), (5, true), (6, true), (7, true)] (by kernel_rfl) mixed (fun w => SL w _) H.drew ?_
  replace H := H.drew
  refine LdC.i 1 rfl (v := .map (some mb)) rfl ?_
  refine LdC.i 0 rfl (v := .int .i64 chan) rfl ?_
  refine MnC.lookV 3 rfl (.tmp 10) (.tmp 12) 105 173 (by rfl) (by kernel_rfl) (by kernel_rfl) (z := .pointer none) (fun _ => by kernel_rfl) chan (key_wf (by have := B.chan; dsimp only at this; omega) (by have := B.chan; dsimp only at this; omega)) (by rfl) (by rfl) (.pointer (some ⟨p, 0, none⟩)) (by rw [hm]; rfl) ?_
  refine ⟨?_⟩
  refine ⟨?_⟩
  refine BB.no rfl ?_
  refine Cn.no ?_
  refine ⟨?_⟩
  refine H.ldi 0 rfl (v := .int .i64 kind) rfl ?_
  refine BB.vr fun q1 e1 => ?_
  cases q1
  ·skip
   have h1 := beq_eq_false_iff_ne.1 e1
   refine Cn.no ?_
   refine ⟨?_⟩
   refine H.ldi 0 rfl (v := .int .i64 kind) rfl ?_
   refine BB.vr fun q2 e2 => ?_
   cases q2
   ·skip
    have h2 := beq_eq_false_iff_ne.1 e2
    refine H.ldi 0 rfl (v := .int .i64 kind) rfl ?_
    refine BB.vr fun q3 e3 => ?_
    cases q3
    ·skip
     have h3 := beq_eq_false_iff_ne.1 e3
     refine Cn.no ?_
     refine ⟨?_⟩
     refine H.ldi 0 rfl (v := .int .i64 kind) rfl ?_
     refine BB.no (beq_eq_false_iff_ne.2 h3) ?_
     refine Cn.no ?_
     refine ⟨?_⟩
     refine ret1 (fn := Tryd.f78) (.bool true) rfl (by rfl) ?_
     have q := H.pick [1, 2, 3, 4, 5, 6] 7 (by decide)
     simp only [pk, nth, pkA, pkB, pkC, pkD, pkE, pkF] at q
     have hO : closedF ⟨cr, chans, c, over⟩ ⟨kind, g, chan, case_, value, mate, send, ok⟩ = (true, ⟨cr, chans, c, over⟩) := by rw [closedF, hf]; simp [isEmpty_int, *]
     rw [hO]
     exact ⟨rfl, RdrP.iff.2 ⟨crv, mb, ps, hl, reader_back0 hl hp hx q⟩⟩
    ·skip
     have h3 := eq_of_beq e3
     subst h3
     refine H.ldi 0 rfl (v := .int .i64 mate) rfl ?_
     refine BB.vr fun q4 e4 => ?_
     cases q4
     ·skip
      have h4 := of_decide_eq_false e4
      refine Cn.no ?_
      refine ⟨?_⟩
      refine H.ldi 0 rfl (v := .int .i64 4) rfl ?_
      refine BB.yes rfl ?_
      refine H.ldi 0 rfl (v := .bool ok) rfl ?_
      refine BB.k ?_
      refine BB.vr fun q5 e5 => ?_
      cases q5
      ·skip
       have h5 : ok = true := by simpa using e5
       subst h5
       refine Cn.no ?_
       refine ⟨?_⟩
       refine ret1 (fn := Tryd.f78) (.bool true) rfl (by rfl) ?_
       have q := H.pick [1, 2, 3, 4, 5, 6] 7 (by decide)
       simp only [pk, nth, pkA, pkB, pkC, pkD, pkE, pkF] at q
       have hO : closedF ⟨cr, chans, c, over⟩ ⟨4, g, chan, case_, value, mate, send, true⟩ = (true, ⟨cr, chans, c, over⟩) := by rw [closedF, hf]; simp [isEmpty_int, *]
       rw [hO]
       exact ⟨rfl, RdrP.iff.2 ⟨crv, mb, ps, hl, reader_back0 hl hp hx q⟩⟩
      ·skip
       have h5 : ok = false := by simpa using e5
       subst h5
       refine Cn.yes ?_
       refine ⟨?_⟩
       refine H.ldi 4 rfl (v := .bool xc) rfl ?_
       refine BB.k ?_
       cases xc
       ·skip
        refine ret1 (fn := Tryd.f78) (.bool false) rfl (by rfl) ?_
        have q := H.pick [1, 2, 3, 4, 5, 6] 7 (by decide)
        simp only [pk, nth, pkA, pkB, pkC, pkD, pkE, pkF] at q
        have hO : closedF ⟨cr, chans, c, over⟩ ⟨4, g, chan, case_, value, mate, send, false⟩ = (false, ⟨cr, chans, c, over⟩) := by rw [closedF, hf]; simp [isEmpty_int, *]
        rw [hO]
        exact ⟨rfl, RdrP.iff.2 ⟨crv, mb, ps, hl, reader_back0 hl hp hx q⟩⟩
       ·skip
        refine H.ldi 4 rfl (v := .slice qa xb.length qc) rfl ?_
        refine BB.k ?_
        refine ret1 (fn := Tryd.f78) (.bool ((↑xb.length : Int) == 0)) rfl (by rfl) ?_
        have q := H.pick [1, 2, 3, 4, 5, 6] 7 (by decide)
        simp only [pk, nth, pkA, pkB, pkC, pkD, pkE, pkF] at q
        have hO : closedF ⟨cr, chans, c, over⟩ ⟨4, g, chan, case_, value, mate, send, false⟩ = ((↑xb.length : Int) == 0, ⟨cr, chans, c, over⟩) := by rw [closedF, hf]; simp [isEmpty_int, *]
        rw [hO]
        exact ⟨rfl, RdrP.iff.2 ⟨crv, mb, ps, hl, reader_back0 hl hp hx q⟩⟩
     ·skip
      have h4 := of_decide_eq_true e4
      refine Cn.yes ?_
      refine ⟨?_⟩
      refine H.ldi 4 rfl (v := .bool xc) rfl ?_
      refine BB.k ?_
      refine BB.k ?_
      refine ret1 (fn := Tryd.f78) (.bool (!xc)) rfl (by rfl) ?_
      have q := H.pick [1, 2, 3, 4, 5, 6] 7 (by decide)
      simp only [pk, nth, pkA, pkB, pkC, pkD, pkE, pkF] at q
      have hO : closedF ⟨cr, chans, c, over⟩ ⟨4, g, chan, case_, value, mate, send, ok⟩ = (!xc, ⟨cr, chans, c, over⟩) := by rw [closedF, hf]; simp [isEmpty_int, *]
      rw [hO]
      exact ⟨rfl, RdrP.iff.2 ⟨crv, mb, ps, hl, reader_back0 hl hp hx q⟩⟩
   ·skip
    have h2 := eq_of_beq e2
    subst h2
    refine Cn.yes ?_
    refine ⟨?_⟩
    refine H.ldi 4 rfl (v := .bool xc) rfl ?_
    refine BB.k ?_
    refine BB.k ?_
    refine ret1 (fn := Tryd.f78) (.bool (!xc)) rfl (by rfl) ?_
    have q := H.pick [1, 2, 3, 4, 5, 6] 7 (by decide)
    simp only [pk, nth, pkA, pkB, pkC, pkD, pkE, pkF] at q
    have hO : closedF ⟨cr, chans, c, over⟩ ⟨3, g, chan, case_, value, mate, send, ok⟩ = (!xc, ⟨cr, chans, c, over⟩) := by rw [closedF, hf]; simp [isEmpty_int, *]
    rw [hO]
    exact ⟨rfl, RdrP.iff.2 ⟨crv, mb, ps, hl, reader_back0 hl hp hx q⟩⟩
  ·skip
   have h1 := eq_of_beq e1
   subst h1
   refine Cn.yes ?_
   refine ⟨?_⟩
   refine H.ldi 4 rfl (v := .bool xc) rfl ?_
   refine BB.k ?_
   refine ⟨?_⟩
   refine H.st4 (cs' := #[.int .i64 xs, .slice qa xb.length qc, .bool true]) rfl rfl rfl fun w H => ?_
   refine ⟨?_⟩
   refine BB.k ?_
   refine ret1 (fn := Tryd.f78) (.bool (!xc)) rfl (by rfl) ?_
   have q := H.pick [1, 2, 3, 4, 5, 6] 7 (by decide)
   simp only [pk, nth, pkA, pkB, pkC, pkD, pkE, pkF] at q
   have hO : closedF ⟨cr, chans, c, over⟩ ⟨5, g, chan, case_, value, mate, send, ok⟩ = (!xc, ⟨cr, chans.set k ⟨xs, xb, true⟩, c, over⟩) := by rw [closedF, hf]; simp [isEmpty_int, *]
   rw [hO]
   exact ⟨rfl, RdrP.iff.2 ⟨crv, mb, ps, by simpa using hl, reader_set0 (y := ⟨xs, xb, true⟩) hl hp hx q⟩⟩
end Go.Proofs.YtchkaaeoffmjnaaDoor
