/- Gauge: broken, Check. -/
import Derived.Test.YtoejhelhgfipkaaDoorGaugeY
import Derived.Test.YtoejhelhgfipkaaDoorGaugeZ0
import Derived.Test.YtoejhelhgfipkaaDoorEntryD
namespace Go.Proofs.YtoejhelhgfipkaaDoor
set_option linter.unusedVariables false
set_option linter.unusedSimpArgs false
open Go.RowKit
set_option maxRecDepth 100000
/-- Where A lies the program's three spans stand. -/
def SpansA (A : Piece) : Prop := ∀ w, SL w [A] → Spans w
/-- Rule 1. -/
theorem g_right {w : World} {L : List Piece} {A : Piece} (hG : SpansA A) (H : SL w L) (i : Nat) (hi : L[i]? = some A) (e : Ev) : Calls Tryd.prog 35 #[e.agg] w fun o w' => o = .returned (.bool (entF e == 0)) ∧ SL w' L := by
  obtain ⟨kind, g, chan, case_, value, mate, send, ok⟩ := e
  refine calls_den (args := [_]) Tryd.func35 rfl (Nat.le_of_ble_eq_true (by kernel_rfl)) (by kernel_rfl) ?_
  refine ⟨?_⟩
  refine Nw.as #[.int .i64 kind, .int .i64 g, .int .i64 chan, .int .i64 case_, .int .i64 value, .int .i64 mate, .bool send, .bool ok] 39 rfl H fun b1 w H => ?_
  refine ⟨?_⟩
  refine H.ldi 0 rfl (v := .int .i64 kind) rfl ?_
  refine H.ldi 0 rfl (v := .int .i64 g) rfl ?_
  refine H.ldi 0 rfl (v := .int .i64 chan) rfl ?_
  refine H.ldi 0 rfl (v := .int .i64 case_) rfl ?_
  refine H.ldi 0 rfl (v := .int .i64 value) rfl ?_
  refine H.ldi 0 rfl (v := .int .i64 mate) rfl ?_
  refine H.ldi 0 rfl (v := .bool send) rfl ?_
  refine H.ldi 0 rfl (v := .bool ok) rfl ?_
  refine Cl.sl (by kernel_rfl) ((e_check ⟨kind, g, chan, case_, value, mate, send, ok⟩ _ (hG _ (SL.one H.tl i hi))).mono fun _ _ q => ⟨q.1, H.later q.2⟩) fun w H => ?_
  refine BB.k ?_
  refine ret1 (fn := Tryd.f35) (.bool ((entF ⟨kind, g, chan, case_, value, mate, send, ok⟩) == 0)) rfl (by rfl) ?_
  exact ⟨rfl, H.tl⟩

theorem run_hit {prev : Option Ev} {next : Option Int} {e : Ev} {k i : Nat} {z : RdrM} (h : (ruleF prev next e i z).1 = false) : runF prev next e (k + 1) i z = ((i : Int) + 1, (ruleF prev next e i z).2) := by
  rw [runF, if_pos h]
theorem run_go {prev : Option Ev} {next : Option Int} {e : Ev} {k i : Nat} {z : RdrM} (h : (ruleF prev next e i z).1 = true) : runF prev next e (k + 1) i z = runF prev next e k (i + 1) (ruleF prev next e i z).2 := by
  rw [runF, if_neg (by rw [h]; simp)]

set_option maxHeartbeats 2000000 in
theorem g_broken {w : World} {F : List Piece} {A : Piece} {rb lb lo lc n i : Nat} {l : List Ev} {r : RdrM} (hA : EvA A lb lo l) (hG : SpansA A) (hi : i < l.length) (hll : l.length ≤ 100000) (hs : Sized n r) (hn : n < 900000) (e : Ev) (H : SL w (RdP rb (.slice (some ⟨lb, lo, none⟩) l.length lc) (i : Int) r :: A :: F)) :
    Calls Tryd.prog 16 #[.pointer (some ⟨rb, 0, none⟩), e.agg] w fun o w' => o = .returned (.int .i64 (stepG r (prevF l i) (nextF l i) e).1) ∧ SL w' (RdP rb (.slice (some ⟨lb, lo, none⟩) l.length lc) (i : Int) (stepG r (prevF l i) (nextF l i) e).2 :: A :: F) := by
  obtain ⟨kind, g, chan, case_, value, mate, send, ok⟩ := e
  refine calls_den (args := [_, _]) Tryd.func16 rfl (Nat.le_of_ble_eq_true (by kernel_rfl)) (by kernel_rfl) ?_
  refine ⟨?_⟩
  refine Nw.as #[.int .i64 kind, .int .i64 g, .int .i64 chan, .int .i64 case_, .int .i64 value, .int .i64 mate, .bool send, .bool ok] 39 rfl H fun b3 w H => ?_
  refine ⟨?_⟩
  refine ⟨?_⟩
  refine Mn.pure (.agg #[.func (.func 35) #[] #[], .func (.func 37) #[.pointer (some ⟨rb, 0, none⟩)] #[], .func (.func 38) #[.pointer (some ⟨rb, 0, none⟩)] #[], .func (.func 39) #[.pointer (some ⟨rb, 0, none⟩)] #[], .func (.func 40) #[.pointer (some ⟨rb, 0, none⟩)] #[], .func (.func 41) #[.pointer (some ⟨rb, 0, none⟩)] #[]]) (by kernel_rfl) ?_
  refine ⟨?_⟩
  refine den.loop (ι := Nat × RdrM) [(4, 4), (6, 7), (20, 30)] (by kernel_rfl) (fun (j, z) => [(20, .int .i64 ↑j)]) (fun (j, z) w => (j ≤ 6 ∧ runF (prevF l i) (nextF l i) ⟨kind, g, chan, case_, value, mate, send, ok⟩ (6 - j) j z = stepG r (prevF l i) (nextF l i) ⟨kind, g, chan, case_, value, mate, send, ok⟩ ∧ Sized (n + j) z ∧ (0 < j → EvB ⟨kind, g, chan, case_, value, mate, send, ok⟩)) ∧ SL w (row b3 #[.int .i64 kind, .int .i64 g, .int .i64 chan, .int .i64 case_, .int .i64 value, .int .i64 mate, .bool send, .bool ok] 39 :: RdP rb (.slice (some ⟨lb, lo, none⟩) l.length lc) ↑i z :: A :: F)) (fun (j, z) => 6 - j) (0, r) ⟨rfl, trivial⟩ ⟨⟨Nat.zero_le _, (stepG_run _ _ _ _).symm, hs, fun h => absurd h (Nat.lt_irrefl _)⟩, H⟩ ?_
  rintro ⟨j, z⟩ s w ⟨hc, H⟩
  obtain ⟨hj, hrun, hsz, hB⟩ := hc
  obtain rfl | rfl | rfl | rfl | rfl | rfl | rfl : j = 0 ∨ j = 1 ∨ j = 2 ∨ j = 3 ∨ j = 4 ∨ j = 5 ∨ j = 6 := by omega
  · skip
    refine ⟨?_⟩
    refine BB.yes rfl ?_
    refine Cn.yes ?_
    refine ⟨?_⟩
    refine ⟨?_⟩
    refine Mn.pure (.func (.func 35) #[] #[]) (by kernel_rfl) ?_
    refine ⟨?_⟩
    refine H.ldi 0 rfl (v := .int .i64 kind) rfl ?_
    refine H.ldi 0 rfl (v := .int .i64 g) rfl ?_
    refine H.ldi 0 rfl (v := .int .i64 chan) rfl ?_
    refine H.ldi 0 rfl (v := .int .i64 case_) rfl ?_
    refine H.ldi 0 rfl (v := .int .i64 value) rfl ?_
    refine H.ldi 0 rfl (v := .int .i64 mate) rfl ?_
    refine H.ldi 0 rfl (v := .bool send) rfl ?_
    refine H.ldi 0 rfl (v := .bool ok) rfl ?_
    refine Cl.sl (by kernel_rfl) (g_right hG H 2 rfl ⟨kind, g, chan, case_, value, mate, send, ok⟩) fun w H => ?_
    refine BB.vr fun q1 e1 => ?_
    cases q1
    · skip
      refine BB.yes rfl ?_
      refine Cn.yes ?_
      refine ⟨?_⟩
      refine IW.by (m := 1) rfl ?_
      refine ret1 (fn := Tryd.f16) (.int .i64 1) rfl (by rfl) ?_
      have hc : stepG r (prevF l i) (nextF l i) ⟨kind, g, chan, case_, value, mate, send, ok⟩ = (1, z) := by rw [← hrun]; exact run_hit (prev := prevF l i) (next := nextF l i) (e := ⟨kind, g, chan, case_, value, mate, send, ok⟩) (i := 0) (z := z) (k := 5) e1
      rw [hc]
      exact ⟨rfl, H.tl⟩
    · skip
      refine BB.no rfl ?_
      refine Cn.no ?_
      refine ⟨?_⟩
      refine IW.by (m := 1) rfl ?_
      exact ⟨(1, z), ⟨rfl, trivial⟩, ⟨⟨by omega, by rw [← hrun]; exact (run_go (prev := prevF l i) (next := nextF l i) (e := ⟨kind, g, chan, case_, value, mate, send, ok⟩) (k := 5) (i := 0) (z := z) e1).symm, sized_rule hsz (prevF l i) (nextF l i) ⟨kind, g, chan, case_, value, mate, send, ok⟩ 0, fun _ => evB_of (eq_of_beq e1)⟩, H⟩, (show 6 - 1 < 6 - 0 by decide)⟩
  · skip
    refine ⟨?_⟩
    refine BB.yes rfl ?_
    refine Cn.yes ?_
    refine ⟨?_⟩
    refine ⟨?_⟩
    refine Mn.pure (.func (.func 37) #[.pointer (some ⟨rb, 0, none⟩)] #[]) (by kernel_rfl) ?_
    refine ⟨?_⟩
    refine H.ldi 0 rfl (v := .int .i64 kind) rfl ?_
    refine H.ldi 0 rfl (v := .int .i64 g) rfl ?_
    refine H.ldi 0 rfl (v := .int .i64 chan) rfl ?_
    refine H.ldi 0 rfl (v := .int .i64 case_) rfl ?_
    refine H.ldi 0 rfl (v := .int .i64 value) rfl ?_
    refine H.ldi 0 rfl (v := .int .i64 mate) rfl ?_
    refine H.ldi 0 rfl (v := .bool send) rfl ?_
    refine H.ldi 0 rfl (v := .bool ok) rfl ?_
    refine Cl.sl (by kernel_rfl) (g_crewed (hB Nat.zero_lt_one) hsz (by omega) (e := ⟨kind, g, chan, case_, value, mate, send, ok⟩) H.up1) fun w H => ?_
    replace H := H.up1
    refine BB.vr fun q2 e2 => ?_
    cases q2
    · skip
      refine BB.yes rfl ?_
      refine Cn.yes ?_
      refine ⟨?_⟩
      refine IW.by (m := 2) rfl ?_
      refine ret1 (fn := Tryd.f16) (.int .i64 2) rfl (by rfl) ?_
      have hc : stepG r (prevF l i) (nextF l i) ⟨kind, g, chan, case_, value, mate, send, ok⟩ = (2, (crewedF z ⟨kind, g, chan, case_, value, mate, send, ok⟩).2) := by rw [← hrun]; exact run_hit (prev := prevF l i) (next := nextF l i) (e := ⟨kind, g, chan, case_, value, mate, send, ok⟩) (i := 1) (z := z) (k := 4) e2
      rw [hc]
      exact ⟨rfl, H.tl⟩
    · skip
      refine BB.no rfl ?_
      refine Cn.no ?_
      refine ⟨?_⟩
      refine IW.by (m := 2) rfl ?_
      exact ⟨(2, (crewedF z ⟨kind, g, chan, case_, value, mate, send, ok⟩).2), ⟨rfl, trivial⟩, ⟨⟨by omega, by rw [← hrun]; exact (run_go (prev := prevF l i) (next := nextF l i) (e := ⟨kind, g, chan, case_, value, mate, send, ok⟩) (k := 4) (i := 1) (z := z) e2).symm, sized_rule hsz (prevF l i) (nextF l i) ⟨kind, g, chan, case_, value, mate, send, ok⟩ 1, fun _ => hB (by decide)⟩, H⟩, (show 6 - 2 < 6 - 1 by decide)⟩
  · skip
    refine ⟨?_⟩
    refine BB.yes rfl ?_
    refine Cn.yes ?_
    refine ⟨?_⟩
    refine ⟨?_⟩
    refine Mn.pure (.func (.func 38) #[.pointer (some ⟨rb, 0, none⟩)] #[]) (by kernel_rfl) ?_
    refine ⟨?_⟩
    refine H.ldi 0 rfl (v := .int .i64 kind) rfl ?_
    refine H.ldi 0 rfl (v := .int .i64 g) rfl ?_
    refine H.ldi 0 rfl (v := .int .i64 chan) rfl ?_
    refine H.ldi 0 rfl (v := .int .i64 case_) rfl ?_
    refine H.ldi 0 rfl (v := .int .i64 value) rfl ?_
    refine H.ldi 0 rfl (v := .int .i64 mate) rfl ?_
    refine H.ldi 0 rfl (v := .bool send) rfl ?_
    refine H.ldi 0 rfl (v := .bool ok) rfl ?_
    refine Cl.sl (by kernel_rfl) (g_made (hB (by decide)) hsz (by omega) (e := ⟨kind, g, chan, case_, value, mate, send, ok⟩) H.up1) fun w H => ?_
    replace H := H.up1
    refine BB.vr fun q3 e3 => ?_
    cases q3
    · skip
      refine BB.yes rfl ?_
      refine Cn.yes ?_
      refine ⟨?_⟩
      refine IW.by (m := 3) rfl ?_
      refine ret1 (fn := Tryd.f16) (.int .i64 3) rfl (by rfl) ?_
      have hc : stepG r (prevF l i) (nextF l i) ⟨kind, g, chan, case_, value, mate, send, ok⟩ = (3, (madeF z ⟨kind, g, chan, case_, value, mate, send, ok⟩).2) := by rw [← hrun]; exact run_hit (prev := prevF l i) (next := nextF l i) (e := ⟨kind, g, chan, case_, value, mate, send, ok⟩) (i := 2) (z := z) (k := 3) e3
      rw [hc]
      exact ⟨rfl, H.tl⟩
    · skip
      refine BB.no rfl ?_
      refine Cn.no ?_
      refine ⟨?_⟩
      refine IW.by (m := 3) rfl ?_
      exact ⟨(3, (madeF z ⟨kind, g, chan, case_, value, mate, send, ok⟩).2), ⟨rfl, trivial⟩, ⟨⟨by omega, by rw [← hrun]; exact (run_go (prev := prevF l i) (next := nextF l i) (e := ⟨kind, g, chan, case_, value, mate, send, ok⟩) (k := 3) (i := 2) (z := z) e3).symm, sized_rule hsz (prevF l i) (nextF l i) ⟨kind, g, chan, case_, value, mate, send, ok⟩ 2, fun _ => hB (by decide)⟩, H⟩, (show 6 - 3 < 6 - 2 by decide)⟩
  · skip
    refine ⟨?_⟩
    refine BB.yes rfl ?_
    refine Cn.yes ?_
    refine ⟨?_⟩
    refine ⟨?_⟩
    refine Mn.pure (.func (.func 39) #[.pointer (some ⟨rb, 0, none⟩)] #[]) (by kernel_rfl) ?_
    refine ⟨?_⟩
    refine H.ldi 0 rfl (v := .int .i64 kind) rfl ?_
    refine H.ldi 0 rfl (v := .int .i64 g) rfl ?_
    refine H.ldi 0 rfl (v := .int .i64 chan) rfl ?_
    refine H.ldi 0 rfl (v := .int .i64 case_) rfl ?_
    refine H.ldi 0 rfl (v := .int .i64 value) rfl ?_
    refine H.ldi 0 rfl (v := .int .i64 mate) rfl ?_
    refine H.ldi 0 rfl (v := .bool send) rfl ?_
    refine H.ldi 0 rfl (v := .bool ok) rfl ?_
    have H2 := H.pick [1, 2, 0] 3 (by decide)
    simp only [pk, nth, List.map_cons, List.map_nil, List.cons_append, List.nil_append, List.drop_succ_cons, List.drop_zero] at H2
    refine Cl.sl (by kernel_rfl) (g_served (n := 0) hA rfl hi hll (e := ⟨kind, g, chan, case_, value, mate, send, ok⟩) H2) fun w H => ?_
    replace H := H.pick [2, 0, 1] 3 (by decide)
    simp only [pk, nth, List.map_cons, List.map_nil, List.cons_append, List.nil_append, List.drop_succ_cons, List.drop_zero] at H
    refine BB.vr fun q4 e4 => ?_
    cases q4
    · skip
      refine BB.yes rfl ?_
      refine Cn.yes ?_
      refine ⟨?_⟩
      refine IW.by (m := 4) rfl ?_
      refine ret1 (fn := Tryd.f16) (.int .i64 4) rfl (by rfl) ?_
      have hc : stepG r (prevF l i) (nextF l i) ⟨kind, g, chan, case_, value, mate, send, ok⟩ = (4, (servedF z (prevF l i) ⟨kind, g, chan, case_, value, mate, send, ok⟩).2) := by rw [← hrun]; exact run_hit (prev := prevF l i) (next := nextF l i) (e := ⟨kind, g, chan, case_, value, mate, send, ok⟩) (i := 3) (z := z) (k := 2) e4
      rw [hc]
      exact ⟨rfl, H.tl⟩
    · skip
      refine BB.no rfl ?_
      refine Cn.no ?_
      refine ⟨?_⟩
      refine IW.by (m := 4) rfl ?_
      exact ⟨(4, (servedF z (prevF l i) ⟨kind, g, chan, case_, value, mate, send, ok⟩).2), ⟨rfl, trivial⟩, ⟨⟨by omega, by rw [← hrun]; exact (run_go (prev := prevF l i) (next := nextF l i) (e := ⟨kind, g, chan, case_, value, mate, send, ok⟩) (k := 2) (i := 3) (z := z) e4).symm, sized_rule hsz (prevF l i) (nextF l i) ⟨kind, g, chan, case_, value, mate, send, ok⟩ 3, fun _ => hB (by decide)⟩, H⟩, (show 6 - 4 < 6 - 3 by decide)⟩
  · skip
    refine ⟨?_⟩
    refine BB.yes rfl ?_
    refine Cn.yes ?_
    refine ⟨?_⟩
    refine ⟨?_⟩
    refine Mn.pure (.func (.func 40) #[.pointer (some ⟨rb, 0, none⟩)] #[]) (by kernel_rfl) ?_
    refine ⟨?_⟩
    refine H.ldi 0 rfl (v := .int .i64 kind) rfl ?_
    refine H.ldi 0 rfl (v := .int .i64 g) rfl ?_
    refine H.ldi 0 rfl (v := .int .i64 chan) rfl ?_
    refine H.ldi 0 rfl (v := .int .i64 case_) rfl ?_
    refine H.ldi 0 rfl (v := .int .i64 value) rfl ?_
    refine H.ldi 0 rfl (v := .int .i64 mate) rfl ?_
    refine H.ldi 0 rfl (v := .bool send) rfl ?_
    refine H.ldi 0 rfl (v := .bool ok) rfl ?_
    have H2 := H.pick [1, 2, 0] 3 (by decide)
    simp only [pk, nth, List.map_cons, List.map_nil, List.cons_append, List.nil_append, List.drop_succ_cons, List.drop_zero] at H2
    refine Cl.sl (by kernel_rfl) (g_ordered hA rfl hi hll (hB (by decide)) hsz (by omega) (e := ⟨kind, g, chan, case_, value, mate, send, ok⟩) H2) fun w H => ?_
    replace H := H.pick [2, 0, 1] 3 (by decide)
    simp only [pk, nth, List.map_cons, List.map_nil, List.cons_append, List.nil_append, List.drop_succ_cons, List.drop_zero] at H
    refine BB.vr fun q5 e5 => ?_
    cases q5
    · skip
      refine BB.yes rfl ?_
      refine Cn.yes ?_
      refine ⟨?_⟩
      refine IW.by (m := 5) rfl ?_
      refine ret1 (fn := Tryd.f16) (.int .i64 5) rfl (by rfl) ?_
      have hc : stepG r (prevF l i) (nextF l i) ⟨kind, g, chan, case_, value, mate, send, ok⟩ = (5, (orderedF z (nextF l i) ⟨kind, g, chan, case_, value, mate, send, ok⟩).2) := by rw [← hrun]; exact run_hit (prev := prevF l i) (next := nextF l i) (e := ⟨kind, g, chan, case_, value, mate, send, ok⟩) (i := 4) (z := z) (k := 1) e5
      rw [hc]
      exact ⟨rfl, H.tl⟩
    · skip
      refine BB.no rfl ?_
      refine Cn.no ?_
      refine ⟨?_⟩
      refine IW.by (m := 5) rfl ?_
      exact ⟨(5, (orderedF z (nextF l i) ⟨kind, g, chan, case_, value, mate, send, ok⟩).2), ⟨rfl, trivial⟩, ⟨⟨by omega, by rw [← hrun]; exact (run_go (prev := prevF l i) (next := nextF l i) (e := ⟨kind, g, chan, case_, value, mate, send, ok⟩) (k := 1) (i := 4) (z := z) e5).symm, sized_rule hsz (prevF l i) (nextF l i) ⟨kind, g, chan, case_, value, mate, send, ok⟩ 4, fun _ => hB (by decide)⟩, H⟩, (show 6 - 5 < 6 - 4 by decide)⟩
  · skip
    refine ⟨?_⟩
    refine BB.yes rfl ?_
    refine Cn.yes ?_
    refine ⟨?_⟩
    refine ⟨?_⟩
    refine Mn.pure (.func (.func 41) #[.pointer (some ⟨rb, 0, none⟩)] #[]) (by kernel_rfl) ?_
    refine ⟨?_⟩
    refine H.ldi 0 rfl (v := .int .i64 kind) rfl ?_
    refine H.ldi 0 rfl (v := .int .i64 g) rfl ?_
    refine H.ldi 0 rfl (v := .int .i64 chan) rfl ?_
    refine H.ldi 0 rfl (v := .int .i64 case_) rfl ?_
    refine H.ldi 0 rfl (v := .int .i64 value) rfl ?_
    refine H.ldi 0 rfl (v := .int .i64 mate) rfl ?_
    refine H.ldi 0 rfl (v := .bool send) rfl ?_
    refine H.ldi 0 rfl (v := .bool ok) rfl ?_
    refine Cl.sl (by kernel_rfl) (g_closed (n := 0) (hB (by decide)) (e := ⟨kind, g, chan, case_, value, mate, send, ok⟩) H.up1) fun w H => ?_
    replace H := H.up1
    refine BB.vr fun q6 e6 => ?_
    cases q6
    · skip
      refine BB.yes rfl ?_
      refine Cn.yes ?_
      refine ⟨?_⟩
      refine IW.by (m := 6) rfl ?_
      refine ret1 (fn := Tryd.f16) (.int .i64 6) rfl (by rfl) ?_
      have hc : stepG r (prevF l i) (nextF l i) ⟨kind, g, chan, case_, value, mate, send, ok⟩ = (6, (closedF z ⟨kind, g, chan, case_, value, mate, send, ok⟩).2) := by rw [← hrun]; exact run_hit (prev := prevF l i) (next := nextF l i) (e := ⟨kind, g, chan, case_, value, mate, send, ok⟩) (i := 5) (z := z) (k := 0) e6
      rw [hc]
      exact ⟨rfl, H.tl⟩
    · skip
      refine BB.no rfl ?_
      refine Cn.no ?_
      refine ⟨?_⟩
      refine IW.by (m := 6) rfl ?_
      exact ⟨(6, (closedF z ⟨kind, g, chan, case_, value, mate, send, ok⟩).2), ⟨rfl, trivial⟩, ⟨⟨by omega, by rw [← hrun]; exact (run_go (prev := prevF l i) (next := nextF l i) (e := ⟨kind, g, chan, case_, value, mate, send, ok⟩) (k := 0) (i := 5) (z := z) e6).symm, sized_rule hsz (prevF l i) (nextF l i) ⟨kind, g, chan, case_, value, mate, send, ok⟩ 5, fun _ => hB (by decide)⟩, H⟩, (show 6 - 6 < 6 - 5 by decide)⟩
  · skip
    refine ⟨?_⟩
    refine BB.no rfl ?_
    refine Cn.no ?_
    refine ⟨?_⟩
    refine ret1 (fn := Tryd.f16) (.int .i64 0) rfl (by rfl) ?_
    have hc : stepG r (prevF l i) (nextF l i) ⟨kind, g, chan, case_, value, mate, send, ok⟩ = (0, z) := hrun.symm
    rw [hc]
    exact ⟨rfl, H.tl⟩

theorem below_succ {p : Nat → Prop} {i : Nat} (h : ∀ k, k < i → p k) (h0 : p i) : ∀ k, k < i + 1 → p k := fun k hk => by
  rcases Nat.lt_or_ge k i with h1 | h1
  · exact h k h1
  · obtain rfl : k = i := by omega
    exact h0
theorem rd_at {K : World → Prop} {w : World} {F : List Piece} {rb : Nat} {lv : Value} {a b : Int} {r : RdrM} (H : SL w (RdP rb lv a r :: F)) (k : ∀ w', SL w' (RdP rb lv b r :: F) → K w') : St w ⟨rb, 1, none⟩ (.int .i64 b) K := by
  obtain ⟨crv, mb, ps, hl, H⟩ := RdP.iff.1 H
  exact H.st0 (cs' := #[lv, .int .i64 b, crv, .map (some mb), .int .i64 r.closer.kind, .int .i64 r.closer.g, .int .i64 r.closer.chan, .int .i64 r.closer.case_, .int .i64 r.closer.value, .int .i64 r.closer.mate, .bool r.closer.send, .bool r.closer.ok, .bool r.over]) rfl rfl rfl (fun w' H' => k w' (RdP.iff.2 ⟨crv, mb, ps, hl, H'⟩))
theorem row_slc1 {w : World} {F : List Piece} {b te : Nat} {u v : Value} (H : SL w (row b #[u, v] te :: F)) : SL w (Slc te 2 (.slice (some ⟨b, 0, none⟩) 1 1) 1 [u, v] :: F) :=
  H.conv (fun S hS h => ⟨⟨rfl, .inr ⟨b, 1, #[u, v], rfl, Nat.zero_le _, h.2, Nat.le_refl _, by decide, rfl, rfl⟩⟩, fun k hk => by injection hk with hk; dsimp only at hk; rw [← hk]; exact h.1⟩)
theorem rd_start {w : World} {F : List Piece} {A : Piece} {l : List Ev} {b cb mb : Nat} (lb lo lc : Nat) (H : SL w (row b #[(.slice (some ⟨lb, lo, none⟩) l.length lc), .int .i64 0, .slice (some ⟨cb, 0, none⟩) 1 1, .map (some mb), .int .i64 0, .int .i64 0, .int .i64 0, .int .i64 0, .int .i64 0, .int .i64 0, .bool false, .bool false, .bool false] 46 :: MapP 3 mb 0 (fun _ => none) :: row cb #[.bool false, .bool false] 114 :: A :: F)) :
    SL w (RdP b (.slice (some ⟨lb, lo, none⟩) l.length lc) 0 (stG l 0) :: A :: F) := by
  have h := (row_slc1 H.up2)
  have h2 : SL w (all [] :: _) := SL.all.2 h
  have q := h2.pick [2, 1, 3, 0, 4] 5 (by decide)
  simp only [pk, nth, List.map_cons, List.map_nil, List.cons_append, List.nil_append, List.drop_succ_cons, List.drop_zero] at q
  refine RdP.iff.2 ⟨.slice (some ⟨cb, 0, none⟩) 1 1, mb, [], rfl, ?_⟩
  have e : chMap [] = fun _ => none := by
    funext c
    unfold chMap
    split
    · rfl
    · simp
  rw [e]
  exact q

set_option maxHeartbeats 2000000 in
theorem g_check {w : World} {F : List Piece} {A : Piece} {lb lo lc : Nat} {l : List Ev} (hA : EvA A lb lo l) (hG : SpansA A) (h0 : 0 < l.length) (hll : l.length ≤ 2000) (H : SL w (A :: F)) :
    Calls Tryd.prog 9 #[(.slice (some ⟨lb, lo, none⟩) l.length lc)] w fun o w' => o = .returned (.tuple #[.int .i64 (checkG l).1, .int .i64 (checkG l).2]) ∧ SL w' (A :: F) := by
  have hs : l[l.length - 1]? = some (l[l.length - 1]'(by omega)) := List.getElem?_eq_getElem _
  obtain ⟨s, hs2⟩ : ∃ s, l[l.length - 1]'(by omega) = s := ⟨_, rfl⟩
  rw [hs2] at hs
  clear hs2
  obtain ⟨sk, sg, sc, sca, sv, sm, ss, so⟩ := s
  refine calls_den (args := [_]) Tryd.func9 rfl (Nat.le_of_ble_eq_true (by kernel_rfl)) (by kernel_rfl) ?_
  refine ⟨?_⟩
  refine ⟨?_⟩
  refine Mn.new (fun b => .slice (some ⟨b, 0, none⟩) 1 1) #[.bool false, .bool false] 114 (by kernel_rfl) H fun cb w H => ?_
  refine Mn.newMap 3 (by kernel_rfl) H fun mb w H => ?_
  refine Mn.pure (.agg #[.slice (some ⟨lb, lo, none⟩) l.length lc, .int .i64 0, .slice (some ⟨cb, 0, none⟩) 1 1, .map (some mb), .int .i64 0, .int .i64 0, .int .i64 0, .int .i64 0, .int .i64 0, .int .i64 0, .bool false, .bool false, .bool false]) (by kernel_rfl) ?_
  refine Nw.as #[.slice (some ⟨lb, lo, none⟩) l.length lc, .int .i64 0, .slice (some ⟨cb, 0, none⟩) 1 1, .map (some mb), .int .i64 0, .int .i64 0, .int .i64 0, .int .i64 0, .int .i64 0, .int .i64 0, .bool false, .bool false, .bool false] 46 rfl H fun b13 w H => ?_
  have q := rd_start lb lo lc H
  replace H := q
  refine ⟨?_⟩
  refine ⟨?_⟩
  refine den.loop (ι := Nat × Int) [(2, 3), (5, 7), (16, 34)] (by kernel_rfl) (fun (i, at_) => [(16, .int .i64 ↑i)]) (fun (i, at_) w => (i ≤ l.length ∧ ∀ k, k < i → brG l k = 0) ∧ SL w (RdP b13 (.slice (some ⟨lb, lo, none⟩) l.length lc) at_ (stG l i) :: A :: F)) (fun (i, at_) => l.length - i) (0, 0) ⟨rfl, trivial⟩ ⟨⟨Nat.zero_le _, fun k hk => absurd hk (Nat.not_lt_zero _)⟩, H⟩ ?_
  rintro ⟨i, at_⟩ s w ⟨hc, H⟩
  obtain ⟨hi', hb0⟩ := hc
  by_cases hi : i < l.length
  · skip
    obtain ⟨e, he⟩ : ∃ e, l[i] = e := ⟨_, rfl⟩
    have hsi : l[i]? = some e := by rw [← he]; exact List.getElem?_eq_getElem hi
    have hst : stepG (stG l i) (prevF l i) (nextF l i) e = (brG l i, stG l (i + 1)) := by
      have hd : l.getD i evz = e := by rw [List.getD_eq_getElem?_getD, hsi]; rfl
      unfold brG; rw [stG, hd]
    clear he
    obtain ⟨kind, g, chan, case_, value, mate, send, ok⟩ := e
    refine ⟨?_⟩
    refine BB.yes (decide_eq_true (by omega)) ?_
    refine Cn.yes ?_
    refine ⟨?_⟩
    refine ⟨?_⟩
    refine Ix.at i 8 (by kernel_rfl) (rfl) (hi) ?_
    refine H.ldE 1 rfl hA i 0 hsi (v := .int .i64 kind) rfl ?_
    refine H.ldE 1 rfl hA i 1 hsi (v := .int .i64 g) rfl ?_
    refine H.ldE 1 rfl hA i 2 hsi (v := .int .i64 chan) rfl ?_
    refine H.ldE 1 rfl hA i 3 hsi (v := .int .i64 case_) rfl ?_
    refine H.ldE 1 rfl hA i 4 hsi (v := .int .i64 value) rfl ?_
    refine H.ldE 1 rfl hA i 5 hsi (v := .int .i64 mate) rfl ?_
    refine H.ldE 1 rfl hA i 6 hsi (v := .bool send) rfl ?_
    refine H.ldE 1 rfl hA i 7 hsi (v := .bool ok) rfl ?_
    refine Nw.as #[.int .i64 0, .int .i64 0, .int .i64 0, .int .i64 0, .int .i64 0, .int .i64 0, .bool false, .bool false] 39 rfl H fun b6 w H => ?_
    refine H.st0 (cs' := #[.int .i64 kind, .int .i64 0, .int .i64 0, .int .i64 0, .int .i64 0, .int .i64 0, .bool false, .bool false]) rfl rfl rfl fun w H => ?_
    refine H.st0 (cs' := #[.int .i64 kind, .int .i64 g, .int .i64 0, .int .i64 0, .int .i64 0, .int .i64 0, .bool false, .bool false]) rfl rfl rfl fun w H => ?_
    refine H.st0 (cs' := #[.int .i64 kind, .int .i64 g, .int .i64 chan, .int .i64 0, .int .i64 0, .int .i64 0, .bool false, .bool false]) rfl rfl rfl fun w H => ?_
    refine H.st0 (cs' := #[.int .i64 kind, .int .i64 g, .int .i64 chan, .int .i64 case_, .int .i64 0, .int .i64 0, .bool false, .bool false]) rfl rfl rfl fun w H => ?_
    refine H.st0 (cs' := #[.int .i64 kind, .int .i64 g, .int .i64 chan, .int .i64 case_, .int .i64 value, .int .i64 0, .bool false, .bool false]) rfl rfl rfl fun w H => ?_
    refine H.st0 (cs' := #[.int .i64 kind, .int .i64 g, .int .i64 chan, .int .i64 case_, .int .i64 value, .int .i64 mate, .bool false, .bool false]) rfl rfl rfl fun w H => ?_
    refine H.st0 (cs' := #[.int .i64 kind, .int .i64 g, .int .i64 chan, .int .i64 case_, .int .i64 value, .int .i64 mate, .bool send, .bool false]) rfl rfl rfl fun w H => ?_
    refine H.st0 (cs' := #[.int .i64 kind, .int .i64 g, .int .i64 chan, .int .i64 case_, .int .i64 value, .int .i64 mate, .bool send, .bool ok]) rfl rfl rfl fun w H => ?_
    refine ⟨?_⟩
    refine BB.no (beq_eq_false_iff_ne.2 (by omega)) ?_
    refine Cn.no ?_
    refine ⟨?_⟩
    refine rd_at H.up1 fun w H => ?_
    replace H := H.dn1
    refine ⟨?_⟩
    refine H.ldi 0 rfl (v := .int .i64 kind) rfl ?_
    refine H.ldi 0 rfl (v := .int .i64 g) rfl ?_
    refine H.ldi 0 rfl (v := .int .i64 chan) rfl ?_
    refine H.ldi 0 rfl (v := .int .i64 case_) rfl ?_
    refine H.ldi 0 rfl (v := .int .i64 value) rfl ?_
    refine H.ldi 0 rfl (v := .int .i64 mate) rfl ?_
    refine H.ldi 0 rfl (v := .bool send) rfl ?_
    refine H.ldi 0 rfl (v := .bool ok) rfl ?_
    have hp := H.pick [1, 2, 0] 3 (by decide)
    simp only [pk, nth, List.map_cons, List.map_nil, List.cons_append, List.nil_append, List.drop_succ_cons, List.drop_zero] at hp
    have K := g_broken hA hG hi (by omega) (sized_st l i) (by omega) ⟨kind, g, chan, case_, value, mate, send, ok⟩ hp
    rw [hst] at K
    refine Cl.sl (by kernel_rfl) K fun w H => ?_
    replace H := H.pick [2, 0, 1] 3 (by decide)
    simp only [pk, nth, List.map_cons, List.map_nil, List.cons_append, List.nil_append, List.drop_succ_cons, List.drop_zero] at H
    refine ⟨?_⟩
    refine BB.vr fun q1 e1 => ?_
    cases q1
    · skip
      have h1 := bne_eq_false_iff_eq.1 e1
      refine Cn.no ?_
      refine ⟨?_⟩
      refine IW.by (wrap_id (n := ↑i + 1) (by omega) (by omega)) ?_
      exact ⟨(i + 1, (i : Int)), ⟨rfl, trivial⟩, ⟨⟨by omega, below_succ hb0 h1⟩, H.tl⟩, (show l.length - (i + 1) < l.length - i by omega)⟩
    · skip
      have h1 := bne_iff_ne.1 e1
      refine Cn.yes ?_
      refine ⟨?_⟩
      refine ret2 (fn := Tryd.f9) (.int .i64 (brG l i)) (.int .i64 ↑i) rfl (by rfl) (by rfl) ?_
      have hc : checkG l = (brG l i, i) := by unfold checkG; rw [scan_hit hi hb0 h1]; rfl
      rw [hc]
      exact ⟨rfl, H.tl.tl⟩
  · skip
    obtain rfl : i = l.length := by omega
    refine ⟨?_⟩
    refine BB.no (decide_eq_false (by omega)) ?_
    refine Cn.no ?_
    refine ⟨?_⟩
    refine ⟨?_⟩
    refine BB.yes (decide_eq_true (by omega)) ?_
    refine IW.by (m := ↑(l.length - 1)) (by rw [show ((l.length : Int) - 1) = ((l.length - 1 : Nat) : Int) by omega]; exact wrap_id (by omega) (by omega)) ?_
    refine Ix.at (l.length - 1) 8 (by kernel_rfl) (rfl) (by omega) ?_
    refine H.ldE 1 rfl hA (l.length - 1) 0 hs (v := .int .i64 sk) rfl ?_
    refine H.ldE 1 rfl hA (l.length - 1) 1 hs (v := .int .i64 sg) rfl ?_
    refine H.ldE 1 rfl hA (l.length - 1) 2 hs (v := .int .i64 sc) rfl ?_
    refine H.ldE 1 rfl hA (l.length - 1) 3 hs (v := .int .i64 sca) rfl ?_
    refine H.ldE 1 rfl hA (l.length - 1) 4 hs (v := .int .i64 sv) rfl ?_
    refine H.ldE 1 rfl hA (l.length - 1) 5 hs (v := .int .i64 sm) rfl ?_
    refine H.ldE 1 rfl hA (l.length - 1) 6 hs (v := .bool ss) rfl ?_
    refine H.ldE 1 rfl hA (l.length - 1) 7 hs (v := .bool so) rfl ?_
    refine Cl.sl (by kernel_rfl) (g_serves H ⟨sk, sg, sc, sca, sv, sm, ss, so⟩) fun w H => ?_
    refine BB.vr fun q2 e2 => ?_
    cases q2
    · skip
      refine Cn.no ?_
      refine ⟨?_⟩
      refine ret2 (fn := Tryd.f9) (.int .i64 0) (.int .i64 0) rfl (by rfl) (by rfl) ?_
      have hd : l.getD (l.length - 1) evz = ⟨sk, sg, sc, sca, sv, sm, ss, so⟩ := by rw [List.getD_eq_getElem?_getD, hs]; rfl
      have hc : checkG l = (0, 0) := by unfold checkG; rw [scan_none hb0]; unfold endB; simp only [hd]; simp [*]
      rw [hc]
      exact ⟨rfl, H.tl⟩
    · skip
      refine Cn.yes ?_
      refine ⟨?_⟩
      refine ret2 (fn := Tryd.f9) (.int .i64 4) (.int .i64 ↑l.length) rfl (by rfl) (by rfl) ?_
      have hd : l.getD (l.length - 1) evz = ⟨sk, sg, sc, sca, sv, sm, ss, so⟩ := by rw [List.getD_eq_getElem?_getD, hs]; rfl
      have hc : checkG l = (4, l.length) := by unfold checkG; rw [scan_none hb0]; unfold endB; simp only [hd]; simp [*]
      rw [hc]
      exact ⟨rfl, H.tl⟩

end Go.Proofs.YtoejhelhgfipkaaDoor
