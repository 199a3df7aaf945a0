/- Texts of the proof, several in one file: LawQ2. -/
import Derived.Test.YtchkaaeoffmjnaaDoorE20
namespace Go.Proofs.YtchkaaeoffmjnaaDoor
set_option linter.unusedVariables false
set_option linter.unusedSimpArgs false
open Go.RowKit
set_option maxRecDepth 100000
theorem fw_big {w : World} {F : List Piece} {A : Piece} {la : Option Addr} {n lc : Nat} (hG : SpansA A) (hn : 300 < n) (H : SL w (A :: F)) : Calls Tryd.prog 5 #[.slice la n lc] w fun o w' => o = .returned (.bool true) ∧ SL w' (A :: F) := by
 refine calls_den (args := [_]) Tryd.func5 rfl (Nat.le_of_ble_eq_true (by kernel_rfl)) (by kernel_rfl) ?_
 refine ⟨?_⟩
 refine ⟨?_⟩
 refine BB.yes (decide_eq_true (by omega)) ?_
 refine Cn.yes ?_
 refine ⟨?_⟩
 have h1 := H
 refine Cl.sl (by kernel_rfl) (l_five hG h1) fun w H => ?_
 refine BB.yes rfl ?_
 refine ret1 (fn := Tryd.f5) (.bool true) rfl (by rfl) ?_
 exact ⟨rfl, H⟩
set_option maxHeartbeats 1000000 in
theorem fw_nil {w : World} {F : List Piece} {A : Piece} {la : Option Addr} {lc : Nat} (hG : SpansA A) (H : SL w (A :: F)) : Calls Tryd.prog 5 #[.slice la 0 lc] w fun o w' => o = .returned (.bool true) ∧ SL w' (A :: F) := by
 refine calls_den (args := [_]) Tryd.func5 rfl (Nat.le_of_ble_eq_true (by kernel_rfl)) (by kernel_rfl) ?_
 refine ⟨?_⟩
 refine ⟨?_⟩
 refine BB.no rfl ?_
 refine Cn.no ?_
 refine ⟨?_⟩
 refine Cl.by (by kernel_rfl) (e_all_nil H) ?_
 rintro _ w ⟨xa, xc, rfl, H⟩
 refine ⟨_, rfl, ?_⟩
 refine ⟨?_⟩
 refine BB.no rfl ?_
 refine Cn.no ?_
 refine ⟨?_⟩
 refine ⟨?_⟩
 refine den.loop (ι := Nat) [(2, 2), (5, 6), (26, 129)] (by kernel_rfl) (fun i => [(26, .int .i64 ↑i)]) (fun i w => i ≤ 0 ∧ SL w (Slc 29 3 (.slice xa 0 xc) 0 ([]) :: A :: F)) (fun i => 0 - i) 0 ⟨rfl, trivial⟩ ⟨Nat.zero_le _, (H)⟩ ?_
 rintro i s w ⟨hc, H⟩
 have hob : i = 0 := by omega
 obtain rfl := hob
 refine ⟨?_⟩
 refine BB.no rfl ?_
 refine Cn.no ?_
 refine ⟨?_⟩
 have h1 := H.pick [1, 0] 2 (by decide)
 simp only [pk, nth, pkA, pkB, pkC, pkD, pkE, pkF] at h1
 refine Cl.sl (by kernel_rfl) (l_five hG h1) fun w H => ?_
 replace H := H.pick [1, 0] 2 (by decide)
 simp only [pk, nth, pkA, pkB, pkC, pkD, pkE, pkF] at H
 refine BB.yes rfl ?_
 refine ret1 (fn := Tryd.f5) (.bool true) rfl (by rfl) ?_
 exact ⟨rfl, H.pick [1] 2 (by decide)⟩
set_option maxHeartbeats 1000000 in
theorem fw_some {w : World} {F : List Piece} {A : Piece} {lb lo lc : Nat} {l : List Ev} (hA : EvA A lb lo l) (hG : SpansA A) (h0 : 0 < l.length) (hll : l.length ≤ 300) (H : SL w (A :: F)) : Calls Tryd.prog 5 #[.slice (some ⟨lb, lo, none⟩) l.length lc] w fun o w' => o = .returned (.bool true) ∧ SL w' (A :: F) := by
 cases hr : rightF l with
 | false =>
  refine calls_den (args := [_]) Tryd.func5 rfl (Nat.le_of_ble_eq_true (by kernel_rfl)) (by kernel_rfl) ?_
  refine ⟨?_⟩
  refine ⟨?_⟩
  refine BB.no (decide_eq_false (by omega)) ?_
  refine Cn.no ?_
  refine ⟨?_⟩
  have h1 := H
  refine Cl.sl (by kernel_rfl) (e_all_no hA hG h0 (by omega) hr h1) fun w H => ?_
  refine ⟨?_⟩
  refine BB.yes rfl ?_
  refine Cn.yes ?_
  refine ⟨?_⟩
  refine BB.yes rfl ?_
  have h1 := H
  refine Cl.sl (by kernel_rfl) (l_five hG h1) fun w H => ?_
  refine BB.yes rfl ?_
  refine ret1 (fn := Tryd.f5) (.bool true) rfl (by rfl) ?_
  exact ⟨rfl, H⟩
 | true =>
  have hR := right_iff.1 hr
  have hal := all_le hr (by omega)
  refine calls_den (args := [_]) Tryd.func5 rfl (Nat.le_of_ble_eq_true (by kernel_rfl)) (by kernel_rfl) ?_
  refine ⟨?_⟩
  refine ⟨?_⟩
  refine BB.no (decide_eq_false (by omega)) ?_
  refine Cn.no ?_
  refine ⟨?_⟩
  have h1 := H
  refine Cl.by (by kernel_rfl) (e_all hA hG h0 (by omega) hr h1) ?_
  rintro _ w ⟨xa, xc, rfl, H⟩
  refine ⟨_, rfl, ?_⟩
  refine ⟨?_⟩
  refine BB.no rfl ?_
  refine Cn.no ?_
  refine ⟨?_⟩
  refine ⟨?_⟩
  refine den.loop (ι := Nat) [(2, 2), (5, 6), (26, 129)] (by kernel_rfl) (fun i => [(26, .int .i64 ↑i)]) (fun i w => i ≤ (allE l).length ∧ SL w (Slc 29 3 (.slice xa ((allE l).length) xc) ((allE l).length) ((allE l).flatMap Edg.cells) :: A :: F)) (fun i => (allE l).length - i) 0 ⟨rfl, trivial⟩ ⟨Nat.zero_le _, (H)⟩ ?_
  rintro i s w ⟨hc, H⟩
  have hob := Nat.lt_or_ge i (allE l).length
  rcases hob with hi | hi
  ·skip
   have hob : ∃ z, (allE l)[i]? = some z := ⟨_, List.getElem?_eq_getElem hi⟩
   obtain ⟨z, hz⟩ := hob
   have hob := SL.slcAddr H (by omega)
   obtain ⟨xb, rfl⟩ := hob
   have hzm := List.mem_of_getElem? hz
   have hob := (mem_all hR).1 hzm
   obtain ⟨z1, z2, z3, z4, _⟩ := hob
   have hzt := all_tells hR hzm
   have hob : ∃ x, l[z.src]? = some x := ⟨_, List.getElem?_eq_getElem (by omega)⟩
   obtain ⟨⟨kind, g, chan, case_, value, mate, send, ok⟩, he⟩ := hob
   have hd : l.getD z.src evz = ⟨kind, g, chan, case_, value, mate, send, ok⟩ := by rw [List.getD_eq_getElem?_getD, he]; rfl
   rw [hd] at hzt
   have hob := Nat.eq_zero_or_pos i
   rcases hob with hi0 | hi0
   ·skip
    subst hi0
    refine ⟨?_⟩
    refine BB.yes (decide_eq_true (by omega)) ?_
    refine Cn.yes ?_
    refine ⟨?_⟩
    refine ⟨?_⟩
    refine Ix.at0 0 3 (by kernel_rfl) (rfl) (by omega) ?_
    refine H.ldS 0 rfl (v := .int .i64 ↑z.src) ((edg_at hz 0 (by decide)).trans rfl) ?_
    refine H.ldS 0 rfl (v := .int .i64 ↑z.dst) ((edg_at hz 1 (by decide)).trans rfl) ?_
    refine H.ldS 0 rfl (v := .int .i64 ↑z.rule) ((edg_at hz 2 (by decide)).trans rfl) ?_
    refine Nw.as #[.int .i64 0, .int .i64 0, .int .i64 0] 29 rfl H fun b6 w H => ?_
    refine H.st0 (cs' := #[.int .i64 ↑z.src, .int .i64 0, .int .i64 0]) rfl rfl rfl fun w H => ?_
    refine H.st0 (cs' := #[.int .i64 ↑z.src, .int .i64 ↑z.dst, .int .i64 0]) rfl rfl rfl fun w H => ?_
    refine H.st0 (cs' := #[.int .i64 ↑z.src, .int .i64 ↑z.dst, .int .i64 ↑z.rule]) rfl rfl rfl fun w H => ?_
    refine ⟨?_⟩
    refine H.ldi 0 rfl (v := .int .i64 ↑z.src) rfl ?_
    refine BB.no (decide_eq_false (by omega)) ?_
    refine H.ldi 0 rfl (v := .int .i64 ↑z.src) rfl ?_
    refine H.ldi 0 rfl (v := .int .i64 ↑z.dst) rfl ?_
    refine BB.no (decide_eq_false (by omega)) ?_
    refine H.ldi 0 rfl (v := .int .i64 ↑z.dst) rfl ?_
    refine BB.no (decide_eq_false (by omega)) ?_
    refine H.ldi 0 rfl (v := .int .i64 ↑z.rule) rfl ?_
    refine BB.no (decide_eq_false (by omega)) ?_
    refine H.ldi 0 rfl (v := .int .i64 ↑z.rule) rfl ?_
    refine BB.no (decide_eq_false (by omega)) ?_
    refine H.ldi 0 rfl (v := .int .i64 ↑z.rule) rfl ?_
    refine BB.vr fun q1 e1 => ?_
    cases q1
    ·skip
     have h1 := of_decide_eq_false e1
     refine Cn.no ?_
     refine ⟨?_⟩
     refine Drw.of [(0, true), (1, true), (2, true), (3, true), (4, true), (5, true), (6, true), (7, true), (8, true), (9, true), (10, true), (11, true), (12, true), (13, true), (14, true), (15, true), (16, true), (17, true), (18, true), (19, true), (20, true), (21, true), (22, true), (23, true), (24, true), (25, true), (26, true), (27, true), (28, true), (29, true), (30, true), (31, true), (32, true), (33, true), (34, true), (35, true), (36, true), (37, true), (38, true), (39, true), (40, true), (41, true), (42, true), (43, true), (44, true), (45, true), (46, true), (47, true), (48, true), (49, true), (50, true), (51, true), (52, true), (53, true), (54, true), (55, true), (56, true)] (by kernel_rfl) mixed (fun w => SL w _) H.drew ?_
     replace H := H.drew
     refine BB.no (decide_eq_false (by omega)) ?_
     refine Cn.no ?_
     refine ⟨?_⟩
     refine IW.by (wrap_id (n := ↑0 + 1) (by omega) (by omega)) ?_
     exact ⟨0 + 1, ⟨rfl, trivial⟩, ⟨(by omega : 0 + 1 ≤ (allE l).length), H.pick [1, 2] 3 (by decide)⟩, (show (allE l).length - (0 + 1) < (allE l).length - 0 by omega)⟩
    ·skip
     have h1 := of_decide_eq_true e1
     refine H.ldi 0 rfl (v := .int .i64 ↑z.src) rfl ?_
     refine Ix.at z.src 8 (by kernel_rfl) (rfl) (by omega) ?_
     refine H.ldE 2 rfl hA z.src 0 he (v := .int .i64 kind) rfl ?_
     refine H.ldE 2 rfl hA z.src 1 he (v := .int .i64 g) rfl ?_
     refine H.ldE 2 rfl hA z.src 2 he (v := .int .i64 chan) rfl ?_
     refine H.ldE 2 rfl hA z.src 3 he (v := .int .i64 case_) rfl ?_
     refine H.ldE 2 rfl hA z.src 4 he (v := .int .i64 value) rfl ?_
     refine H.ldE 2 rfl hA z.src 5 he (v := .int .i64 mate) rfl ?_
     refine H.ldE 2 rfl hA z.src 6 he (v := .bool send) rfl ?_
     refine H.ldE 2 rfl hA z.src 7 he (v := .bool ok) rfl ?_
     have K := e_tells (kind := kind) (g := g) (chan := chan) (case_ := case_) (value := value) (mate := mate) (send := send) (ok := ok) H
     rw [hzt (by omega)] at K
     refine Cl.sl (by kernel_rfl) K fun w H => ?_
     refine BB.yes rfl ?_
     refine BB.no rfl ?_
     refine Cn.no ?_
     refine ⟨?_⟩
     refine Drw.of [(0, true), (1, true), (2, true), (3, true), (4, true), (5, true), (6, true), (7, true), (8, true), (9, true), (10, true), (11, true), (12, true), (13, true), (14, true), (15, true), (16, true), (17, true), (18, true), (19, true), (20, true), (21, true), (22, true), (23, true), (24, true), (25, true), (26, true), (27, true), (28, true), (29, true), (30, true), (31, true), (32, true), (33, true), (34, true), (35, true), (36, true), (37, true), (38, true), (39, true), (40, true), (41, true), (42, true), (43, true), (44, true), (45, true), (46, true), (47, true), (48, true), (49, true), (50, true), (51, true), (52, true), (53, true), (54, true), (55, true), (56, true)] (by kernel_rfl) mixed (fun w => SL w _) H.drew ?_
     replace H := H.drew
     refine BB.no (decide_eq_false (by omega)) ?_
     refine Cn.no ?_
     refine ⟨?_⟩
     refine IW.by (wrap_id (n := ↑0 + 1) (by omega) (by omega)) ?_
     exact ⟨0 + 1, ⟨rfl, trivial⟩, ⟨(by omega : 0 + 1 ≤ (allE l).length), H.pick [1, 2] 3 (by decide)⟩, (show (allE l).length - (0 + 1) < (allE l).length - 0 by omega)⟩
   ·skip
    have hob : ∃ j, i = j + 1 := ⟨i - 1, by omega⟩
    obtain ⟨j, rfl⟩ := hob
    have hob : ∃ y, (allE l)[j]? = some y := ⟨_, List.getElem?_eq_getElem (by omega)⟩
    obtain ⟨y, hy⟩ := hob
    have hyz : ltE y z = true := by obtain ⟨ha, rfl⟩ := List.getElem?_eq_some_iff.1 hy; obtain ⟨hb, rfl⟩ := List.getElem?_eq_some_iff.1 hz; exact List.pairwise_iff_getElem.1 (all_lt hR) j (j + 1) ha hb (by omega)
    unfold ltE at hyz
    simp only [decide_eq_true_eq] at hyz
    refine ⟨?_⟩
    refine BB.yes (decide_eq_true (by omega)) ?_
    refine Cn.yes ?_
    refine ⟨?_⟩
    refine ⟨?_⟩
    refine Ix.at0 (j + 1) 3 (by kernel_rfl) (rfl) (by omega) ?_
    refine H.ldS 0 rfl (v := .int .i64 ↑z.src) ((edg_at hz 0 (by decide)).trans rfl) ?_
    refine H.ldS 0 rfl (v := .int .i64 ↑z.dst) ((edg_at hz 1 (by decide)).trans rfl) ?_
    refine H.ldS 0 rfl (v := .int .i64 ↑z.rule) ((edg_at hz 2 (by decide)).trans rfl) ?_
    refine Nw.as #[.int .i64 0, .int .i64 0, .int .i64 0] 29 rfl H fun b6 w H => ?_
    refine H.st0 (cs' := #[.int .i64 ↑z.src, .int .i64 0, .int .i64 0]) rfl rfl rfl fun w H => ?_
    refine H.st0 (cs' := #[.int .i64 ↑z.src, .int .i64 ↑z.dst, .int .i64 0]) rfl rfl rfl fun w H => ?_
    refine H.st0 (cs' := #[.int .i64 ↑z.src, .int .i64 ↑z.dst, .int .i64 ↑z.rule]) rfl rfl rfl fun w H => ?_
    refine ⟨?_⟩
    refine H.ldi 0 rfl (v := .int .i64 ↑z.src) rfl ?_
    refine BB.no (decide_eq_false (by omega)) ?_
    refine H.ldi 0 rfl (v := .int .i64 ↑z.src) rfl ?_
    refine H.ldi 0 rfl (v := .int .i64 ↑z.dst) rfl ?_
    refine BB.no (decide_eq_false (by omega)) ?_
    refine H.ldi 0 rfl (v := .int .i64 ↑z.dst) rfl ?_
    refine BB.no (decide_eq_false (by omega)) ?_
    refine H.ldi 0 rfl (v := .int .i64 ↑z.rule) rfl ?_
    refine BB.no (decide_eq_false (by omega)) ?_
    refine H.ldi 0 rfl (v := .int .i64 ↑z.rule) rfl ?_
    refine BB.no (decide_eq_false (by omega)) ?_
    refine H.ldi 0 rfl (v := .int .i64 ↑z.rule) rfl ?_
    refine BB.vr fun q2 e2 => ?_
    cases q2
    ·skip
     have h2 := of_decide_eq_false e2
     refine Cn.no ?_
     refine ⟨?_⟩
     refine Drw.of [(0, true), (1, true), (2, true), (3, true), (4, true), (5, true), (6, true), (7, true), (8, true), (9, true), (10, true), (11, true), (12, true), (13, true), (14, true), (15, true), (16, true), (17, true), (18, true), (19, true), (20, true), (21, true), (22, true), (23, true), (24, true), (25, true), (26, true), (27, true), (28, true), (29, true), (30, true), (31, true), (32, true), (33, true), (34, true), (35, true), (36, true), (37, true), (38, true), (39, true), (40, true), (41, true), (42, true), (43, true), (44, true), (45, true), (46, true), (47, true), (48, true), (49, true), (50, true), (51, true), (52, true), (53, true), (54, true), (55, true), (56, true)] (by kernel_rfl) mixed (fun w => SL w _) H.drew ?_
     replace H := H.drew
     refine BB.yes (decide_eq_true (by omega)) ?_
     refine IW.by (m := ↑j) (by rw [show ((j + 1 : Nat) : Int) - 1 = (j : Int) by omega]; exact wrap_id (by omega) (by omega)) ?_
     refine Ix.at0 j 3 (by kernel_rfl) (rfl) (by omega) ?_
     refine LdC.S 1 rfl (v := .int .i64 ↑y.dst) ((edg_at hy 1 (by decide)).trans rfl) ?_
     refine LdC.i 0 rfl (v := .int .i64 ↑z.dst) rfl ?_
     refine BB.no (decide_eq_false (by omega)) ?_
     refine IW.by (m := ↑j) (by rw [show ((j + 1 : Nat) : Int) - 1 = (j : Int) by omega]; exact wrap_id (by omega) (by omega)) ?_
     refine Ix.at0 j 3 (by kernel_rfl) (rfl) (by omega) ?_
     refine LdC.S 1 rfl (v := .int .i64 ↑y.dst) ((edg_at hy 1 (by decide)).trans rfl) ?_
     refine LdC.i 0 rfl (v := .int .i64 ↑z.dst) rfl ?_
     refine BB.vr fun q3 e3 => ?_
     cases q3
     ·skip
      have h3 := beq_eq_false_iff_ne.1 e3
      refine Cn.no ?_
      refine ⟨?_⟩
      refine IW.by (wrap_id (n := (↑(j + 1)) + 1) (by omega) (by omega)) ?_
      exact ⟨(j + 1) + 1, ⟨rfl, trivial⟩, ⟨(by omega : (j + 1) + 1 ≤ (allE l).length), H.pick [1, 2] 3 (by decide)⟩, (show (allE l).length - ((j + 1) + 1) < (allE l).length - (j + 1) by omega)⟩
     ·skip
      have h3 := eq_of_beq e3
      refine IW.by (m := ↑j) (by rw [show ((j + 1 : Nat) : Int) - 1 = (j : Int) by omega]; exact wrap_id (by omega) (by omega)) ?_
      refine Ix.at0 j 3 (by kernel_rfl) (rfl) (by omega) ?_
      refine LdC.S 1 rfl (v := .int .i64 ↑y.src) ((edg_at hy 0 (by decide)).trans rfl) ?_
      refine LdC.i 0 rfl (v := .int .i64 ↑z.src) rfl ?_
      refine BB.vr fun q4 e4 => ?_
      cases q4
      ·skip
       have h4 := of_decide_eq_false e4
       refine IW.by (m := ↑j) (by rw [show ((j + 1 : Nat) : Int) - 1 = (j : Int) by omega]; exact wrap_id (by omega) (by omega)) ?_
       refine Ix.at0 j 3 (by kernel_rfl) (rfl) (by omega) ?_
       refine LdC.S 1 rfl (v := .int .i64 ↑y.src) ((edg_at hy 0 (by decide)).trans rfl) ?_
       refine LdC.i 0 rfl (v := .int .i64 ↑z.src) rfl ?_
       refine BB.vr fun q5 e5 => ?_
       cases q5
       ·skip
        have h5 := beq_eq_false_iff_ne.1 e5
        refine Cn.no ?_
        refine ⟨?_⟩
        refine IW.by (wrap_id (n := (↑(j + 1)) + 1) (by omega) (by omega)) ?_
        exact ⟨(j + 1) + 1, ⟨rfl, trivial⟩, ⟨(by omega : (j + 1) + 1 ≤ (allE l).length), H.pick [1, 2] 3 (by decide)⟩, (show (allE l).length - ((j + 1) + 1) < (allE l).length - (j + 1) by omega)⟩
       ·skip
        have h5 := eq_of_beq e5
        refine IW.by (m := ↑j) (by rw [show ((j + 1 : Nat) : Int) - 1 = (j : Int) by omega]; exact wrap_id (by omega) (by omega)) ?_
        refine Ix.at0 j 3 (by kernel_rfl) (rfl) (by omega) ?_
        refine LdC.S 1 rfl (v := .int .i64 ↑y.rule) ((edg_at hy 2 (by decide)).trans rfl) ?_
        refine LdC.i 0 rfl (v := .int .i64 ↑z.rule) rfl ?_
        refine BB.vr fun q6 e6 => ?_
        cases q6
        ·skip
         have h6 := of_decide_eq_false e6
         refine Cn.no ?_
         refine ⟨?_⟩
         refine IW.by (wrap_id (n := (↑(j + 1)) + 1) (by omega) (by omega)) ?_
         exact ⟨(j + 1) + 1, ⟨rfl, trivial⟩, ⟨(by omega : (j + 1) + 1 ≤ (allE l).length), H.pick [1, 2] 3 (by decide)⟩, (show (allE l).length - ((j + 1) + 1) < (allE l).length - (j + 1) by omega)⟩
        ·skip
         have h6 := of_decide_eq_true e6
         refine Cn.yes ?_
         refine ⟨?_⟩
         refine ret1 (fn := Tryd.f5) (.bool false) rfl (by rfl) ?_
         exact absurd hyz (by omega)
      ·skip
       have h4 := of_decide_eq_true e4
       refine Cn.yes ?_
       refine ⟨?_⟩
       refine ret1 (fn := Tryd.f5) (.bool false) rfl (by rfl) ?_
       exact absurd hyz (by omega)
    ·skip
     have h2 := of_decide_eq_true e2
     refine H.ldi 0 rfl (v := .int .i64 ↑z.src) rfl ?_
     refine Ix.at z.src 8 (by kernel_rfl) (rfl) (by omega) ?_
     refine H.ldE 2 rfl hA z.src 0 he (v := .int .i64 kind) rfl ?_
     refine H.ldE 2 rfl hA z.src 1 he (v := .int .i64 g) rfl ?_
     refine H.ldE 2 rfl hA z.src 2 he (v := .int .i64 chan) rfl ?_
     refine H.ldE 2 rfl hA z.src 3 he (v := .int .i64 case_) rfl ?_
     refine H.ldE 2 rfl hA z.src 4 he (v := .int .i64 value) rfl ?_
     refine H.ldE 2 rfl hA z.src 5 he (v := .int .i64 mate) rfl ?_
     refine H.ldE 2 rfl hA z.src 6 he (v := .bool send) rfl ?_
     refine H.ldE 2 rfl hA z.src 7 he (v := .bool ok) rfl ?_
     have K := e_tells (kind := kind) (g := g) (chan := chan) (case_ := case_) (value := value) (mate := mate) (send := send) (ok := ok) H
     rw [hzt (by omega)] at K
     refine Cl.sl (by kernel_rfl) K fun w H => ?_
     refine BB.yes rfl ?_
     refine BB.no rfl ?_
     refine Cn.no ?_
     refine ⟨?_⟩
     refine Drw.of [(0, true), (1, true), (2, true), (3, true), (4, true), (5, true), (6, true), (7, true), (8, true), (9, true), (10, true), (11, true), (12, true), (13, true), (14, true), (15, true), (16, true), (17, true), (18, true), (19, true), (20, true), (21, true), (22, true), (23, true), (24, true), (25, true), (26, true), (27, true), (28, true), (29, true), (30, true), (31, true), (32, true), (33, true), (34, true), (35, true), (36, true), (37, true), (38, true), (39, true), (40, true), (41, true), (42, true), (43, true), (44, true), (45, true), (46, true), (47, true), (48, true), (49, true), (50, true), (51, true), (52, true), (53, true), (54, true), (55, true), (56, true)] (by kernel_rfl) mixed (fun w => SL w _) H.drew ?_
     replace H := H.drew
     refine BB.yes (decide_eq_true (by omega)) ?_
     refine IW.by (m := ↑j) (by rw [show ((j + 1 : Nat) : Int) - 1 = (j : Int) by omega]; exact wrap_id (by omega) (by omega)) ?_
     refine Ix.at0 j 3 (by kernel_rfl) (rfl) (by omega) ?_
     refine LdC.S 1 rfl (v := .int .i64 ↑y.dst) ((edg_at hy 1 (by decide)).trans rfl) ?_
     refine LdC.i 0 rfl (v := .int .i64 ↑z.dst) rfl ?_
     refine BB.no (decide_eq_false (by omega)) ?_
     refine IW.by (m := ↑j) (by rw [show ((j + 1 : Nat) : Int) - 1 = (j : Int) by omega]; exact wrap_id (by omega) (by omega)) ?_
     refine Ix.at0 j 3 (by kernel_rfl) (rfl) (by omega) ?_
     refine LdC.S 1 rfl (v := .int .i64 ↑y.dst) ((edg_at hy 1 (by decide)).trans rfl) ?_
     refine LdC.i 0 rfl (v := .int .i64 ↑z.dst) rfl ?_
     refine BB.vr fun q7 e7 => ?_
     cases q7
     ·skip
      have h7 := beq_eq_false_iff_ne.1 e7
      refine Cn.no ?_
      refine ⟨?_⟩
      refine IW.by (wrap_id (n := (↑(j + 1)) + 1) (by omega) (by omega)) ?_
      exact ⟨(j + 1) + 1, ⟨rfl, trivial⟩, ⟨(by omega : (j + 1) + 1 ≤ (allE l).length), H.pick [1, 2] 3 (by decide)⟩, (show (allE l).length - ((j + 1) + 1) < (allE l).length - (j + 1) by omega)⟩
     ·skip
      have h7 := eq_of_beq e7
      refine IW.by (m := ↑j) (by rw [show ((j + 1 : Nat) : Int) - 1 = (j : Int) by omega]; exact wrap_id (by omega) (by omega)) ?_
      refine Ix.at0 j 3 (by kernel_rfl) (rfl) (by omega) ?_
      refine LdC.S 1 rfl (v := .int .i64 ↑y.src) ((edg_at hy 0 (by decide)).trans rfl) ?_
      refine LdC.i 0 rfl (v := .int .i64 ↑z.src) rfl ?_
      refine BB.vr fun q8 e8 => ?_
      cases q8
      ·skip
       have h8 := of_decide_eq_false e8
       refine IW.by (m := ↑j) (by rw [show ((j + 1 : Nat) : Int) - 1 = (j : Int) by omega]; exact wrap_id (by omega) (by omega)) ?_
       refine Ix.at0 j 3 (by kernel_rfl) (rfl) (by omega) ?_
       refine LdC.S 1 rfl (v := .int .i64 ↑y.src) ((edg_at hy 0 (by decide)).trans rfl) ?_
       refine LdC.i 0 rfl (v := .int .i64 ↑z.src) rfl ?_
       refine BB.vr fun q9 e9 => ?_
       cases q9
       ·skip
        have h9 := beq_eq_false_iff_ne.1 e9
        refine Cn.no ?_
        refine ⟨?_⟩
        refine IW.by (wrap_id (n := (↑(j + 1)) + 1) (by omega) (by omega)) ?_
        exact ⟨(j + 1) + 1, ⟨rfl, trivial⟩, ⟨(by omega : (j + 1) + 1 ≤ (allE l).length), H.pick [1, 2] 3 (by decide)⟩, (show (allE l).length - ((j + 1) + 1) < (allE l).length - (j + 1) by omega)⟩
       ·skip
        have h9 := eq_of_beq e9
        refine IW.by (m := ↑j) (by rw [show ((j + 1 : Nat) : Int) - 1 = (j : Int) by omega]; exact wrap_id (by omega) (by omega)) ?_
        refine Ix.at0 j 3 (by kernel_rfl) (rfl) (by omega) ?_
        refine LdC.S 1 rfl (v := .int .i64 ↑y.rule) ((edg_at hy 2 (by decide)).trans rfl) ?_
        refine LdC.i 0 rfl (v := .int .i64 ↑z.rule) rfl ?_
        refine BB.vr fun q10 e10 => ?_
        cases q10
        ·skip
         have h10 := of_decide_eq_false e10
         refine Cn.no ?_
         refine ⟨?_⟩
         refine IW.by (wrap_id (n := (↑(j + 1)) + 1) (by omega) (by omega)) ?_
         exact ⟨(j + 1) + 1, ⟨rfl, trivial⟩, ⟨(by omega : (j + 1) + 1 ≤ (allE l).length), H.pick [1, 2] 3 (by decide)⟩, (show (allE l).length - ((j + 1) + 1) < (allE l).length - (j + 1) by omega)⟩
        ·skip
         have h10 := of_decide_eq_true e10
         refine Cn.yes ?_
         refine ⟨?_⟩
         refine ret1 (fn := Tryd.f5) (.bool false) rfl (by rfl) ?_
         exact absurd hyz (by omega)
      ·skip
       have h8 := of_decide_eq_true e8
       refine Cn.yes ?_
       refine ⟨?_⟩
       refine ret1 (fn := Tryd.f5) (.bool false) rfl (by rfl) ?_
       exact absurd hyz (by omega)
  ·skip
   have hob : i = (allE l).length := by omega
   obtain rfl := hob
   refine ⟨?_⟩
   refine BB.no (decide_eq_false (by omega)) ?_
   refine Cn.no ?_
   refine ⟨?_⟩
   have h1 := H.pick [1, 0] 2 (by decide)
   simp only [pk, nth, pkA, pkB, pkC, pkD, pkE, pkF] at h1
   refine Cl.sl (by kernel_rfl) (l_five hG h1) fun w H => ?_
   replace H := H.pick [1, 0] 2 (by decide)
   simp only [pk, nth, pkA, pkB, pkC, pkD, pkE, pkF] at H
   refine BB.yes rfl ?_
   refine ret1 (fn := Tryd.f5) (.bool true) rfl (by rfl) ?_
   exact ⟨rfl, H.pick [1] 2 (by decide)⟩
theorem edgeForward_walk {v : Value} {l : List Ev} {W : World} (h : EvIn W v l) (hs : Spans W) : Calls Tryd.prog 5 #[v] W fun e w' => e = .returned (.bool true) ∧ Frm Nil W w' := by
 obtain ⟨a, cap, rfl, hc, hr⟩ := h
 have H := SL.start W
 have hG : SpansA (Old W) := fun w hw => hs.later (SL.old hw)
 have done : ∀ o w', (o = Ending.returned (.bool true) ∧ SL w' [Old W]) → o = .returned (.bool true) ∧ Frm Nil W w' := fun o w' q => ⟨q.1, SL.old q.2⟩
 by_cases h1 : 300 < l.length
 ·exact (fw_big hG h1 H).mono done
 ·rcases Nat.eq_zero_or_pos l.length with h0 | h0
  ·rw [h0]
   exact (fw_nil hG H).mono done
  ·obtain ⟨b, off, rfl, hcell⟩ := hr.2.2 h0
   have hA : EvA (Old W) b off l := EvA.of_rd (a := some ⟨b, off, none⟩) (fun S w hS => ⟨hr.1, hr.2.1, fun _ => ⟨b, off, rfl, fun i u hu => by
    have hw := hcell i u hu
    rw [World.cell?_of_block (w := W) (w' := w) ((hS.2.2.2 b (World.block_lt_of_cell? W _ hw)).2)]
    exact hw⟩⟩) rfl
   exact (fw_some (lc := cap) hA hG h0 (by omega) H).mono done
end Go.Proofs.YtchkaaeoffmjnaaDoor
