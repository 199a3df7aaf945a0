/- Gauge: the law GaugeChecks. -/
import Derived.Test.YtoejhelhgfipkaaDoorGaugeR4
import Derived.Test.YtoejhelhgfipkaaDoorGaugeZ
import Derived.Test.YtoejhelhgfipkaaDoorOpenG
namespace Go.Proofs.YtoejhelhgfipkaaDoor
set_option linter.unusedVariables false
set_option linter.unusedSimpArgs false
open Go.RowKit
set_option maxRecDepth 100000
theorem g_check_nil {w : World} {F : List Piece} {la : Option Addr} {lc : Nat} (H : SL w F) : Calls Tryd.prog 9 #[.slice la 0 lc] w fun o w' => o = .returned (.tuple #[.int .i64 0, .int .i64 0]) ∧ SL w' F := by
  refine calls_den (args := [_]) Tryd.func9 rfl (Nat.le_of_ble_eq_true (by kernel_rfl)) (by kernel_rfl) ?_
  refine ⟨?_⟩
  refine ⟨?_⟩
  refine Mn.new (fun b => .slice (some ⟨b, 0, none⟩) 1 1) #[.bool false, .bool false] 114 (by kernel_rfl) H fun cb w H => ?_
  refine Mn.newMap 3 (by kernel_rfl) H fun mb w H => ?_
  refine Mn.pure (.agg #[.slice la 0 lc, .int .i64 0, .slice (some ⟨cb, 0, none⟩) 1 1, .map (some mb), .int .i64 0, .int .i64 0, .int .i64 0, .int .i64 0, .int .i64 0, .int .i64 0, .bool false, .bool false, .bool false]) (by kernel_rfl) ?_
  refine Nw.as #[.slice la 0 lc, .int .i64 0, .slice (some ⟨cb, 0, none⟩) 1 1, .map (some mb), .int .i64 0, .int .i64 0, .int .i64 0, .int .i64 0, .int .i64 0, .int .i64 0, .bool false, .bool false, .bool false] 46 rfl H fun b13 w H => ?_
  refine ⟨?_⟩
  refine ⟨?_⟩
  refine den.loop (ι := Nat) [(2, 3), (5, 7), (16, 34)] (by kernel_rfl) (fun i => [(16, .int .i64 0)]) (fun i w => i = 0 ∧ SL w (row b13 #[.slice la 0 lc, .int .i64 0, .slice (some ⟨cb, 0, none⟩) 1 1, .map (some mb), .int .i64 0, .int .i64 0, .int .i64 0, .int .i64 0, .int .i64 0, .int .i64 0, .bool false, .bool false, .bool false] 46 :: MapP 3 mb 0 (fun _ => none) :: row cb #[.bool false, .bool false] 114 :: F)) (fun i => 0) 0 ⟨rfl, trivial⟩ ⟨rfl, H⟩ ?_
  rintro i s w ⟨rfl, H⟩
  refine ⟨?_⟩
  refine BB.no rfl ?_
  refine Cn.no ?_
  refine ⟨?_⟩
  refine ⟨?_⟩
  refine BB.no rfl ?_
  refine Cn.no ?_
  refine ⟨?_⟩
  refine ret2 (fn := Tryd.f9) (.int .i64 0) (.int .i64 0) rfl (by rfl) (by rfl) ?_
  exact ⟨rfl, H.tl.tl.tl⟩

theorem r_check_nil {w : World} {F : List Piece} {la : Option Addr} {lc : Nat} (H : SL w F) : Calls Tryd.prog 10 #[.slice la 0 lc] w fun o w' => o = .returned (.agg #[.int .i64 0, .int .i64 0]) ∧ SL w' F := by
  refine calls_den (args := [_]) Tryd.func10 rfl (Nat.le_of_ble_eq_true (by kernel_rfl)) (by kernel_rfl) ?_
  refine ⟨?_⟩
  refine Nw.as #[.int .i64 0, .int .i64 0] 27 rfl H fun b2 w H => ?_
  refine ⟨?_⟩
  refine ⟨?_⟩
  refine den.loop (ι := Nat) [(3, 3), (6, 51)] (by kernel_rfl) (fun i => [(6, .int .i64 0)]) (fun i w => i = 0 ∧ SL w (row b2 #[.int .i64 0, .int .i64 0] 27 :: F)) (fun i => 0) 0 ⟨rfl, trivial⟩ ⟨rfl, H⟩ ?_
  rintro i s w ⟨rfl, H⟩
  refine ⟨?_⟩
  refine BB.no rfl ?_
  refine Cn.no ?_
  refine ⟨?_⟩
  refine BB.no rfl ?_
  refine Cn.no ?_
  refine ⟨?_⟩
  refine Mn.pure (.agg #[.int .i64 0, .int .i64 0]) (by kernel_rfl) ?_
  refine H.st0 (cs' := #[.int .i64 0, .int .i64 0]) rfl rfl rfl fun w H => ?_
  refine H.st0 (cs' := #[.int .i64 0, .int .i64 0]) rfl rfl rfl fun w H => ?_
  refine retC (fn := Tryd.f10) H 0 rfl rfl (by rfl) (by kernel_rfl) (by kernel_rfl) ?_
  exact ⟨rfl, H.tl⟩

theorem g_greatest {w : World} {F : List Piece} {A : Piece} {lb lo lc : Nat} {l : List Ev} (hA : EvA A lb lo l) (hll : l.length ≤ 2000) (hk : ∀ e ∈ l, e.kind ≠ 1) (H : SL w (A :: F)) :
    Calls Tryd.prog 33 #[(.slice (some ⟨lb, lo, none⟩) l.length lc), .int .i64 1, .int .i64 1, .func (.func 34) #[] #[]] w fun o w' => o = .returned (.int .i64 1) ∧ SL w' (A :: F) := by
  refine calls_den (args := [_, _, _, _]) Tryd.func33 rfl (Nat.le_of_ble_eq_true (by kernel_rfl)) (by kernel_rfl) ?_
  refine ⟨?_⟩
  refine ⟨?_⟩
  refine ⟨?_⟩
  refine den.loop (ι := Nat) [(2, 2), (10, 10), (13, 33)] (by kernel_rfl) (fun i => [(2, .int .i64 1), (13, .int .i64 ↑i)]) (fun i w => i ≤ l.length ∧ SL w (A :: F)) (fun i => l.length - i) 0 ⟨rfl, rfl, trivial⟩ ⟨Nat.zero_le _, H⟩ ?_
  rintro i s w ⟨hc, H⟩
  by_cases hi : i < l.length
  · skip
    obtain ⟨e0, e1⟩ : ∃ e, l[i] = e := ⟨_, rfl⟩
    have he : l[i]? = some e0 := by rw [← e1]; exact List.getElem?_eq_getElem _
    have hek : e0.kind ≠ 1 := hk e0 (List.mem_of_getElem? he)
    clear e1
    obtain ⟨kind, g, chan, case_, value, mate, send, ok⟩ := e0
    dsimp only at hek
    refine ⟨?_⟩
    refine BB.yes (decide_eq_true (by omega)) ?_
    refine Cn.yes ?_
    refine ⟨?_⟩
    refine ⟨?_⟩
    refine Ix.at i 8 (by kernel_rfl) (rfl) (hi) ?_
    refine H.ldE 0 rfl hA i 0 he (v := .int .i64 kind) rfl ?_
    refine H.ldE 0 rfl hA i 1 he (v := .int .i64 g) rfl ?_
    refine H.ldE 0 rfl hA i 2 he (v := .int .i64 chan) rfl ?_
    refine H.ldE 0 rfl hA i 3 he (v := .int .i64 case_) rfl ?_
    refine H.ldE 0 rfl hA i 4 he (v := .int .i64 value) rfl ?_
    refine H.ldE 0 rfl hA i 5 he (v := .int .i64 mate) rfl ?_
    refine H.ldE 0 rfl hA i 6 he (v := .bool send) rfl ?_
    refine H.ldE 0 rfl hA i 7 he (v := .bool ok) rfl ?_
    refine Nw.as #[.int .i64 0, .int .i64 0, .int .i64 0, .int .i64 0, .int .i64 0, .int .i64 0, .bool false, .bool false] 39 rfl H fun b10 w H => ?_
    refine H.st0 (cs' := #[.int .i64 kind, .int .i64 0, .int .i64 0, .int .i64 0, .int .i64 0, .int .i64 0, .bool false, .bool false]) rfl rfl rfl fun w H => ?_
    refine H.st0 (cs' := #[.int .i64 kind, .int .i64 g, .int .i64 0, .int .i64 0, .int .i64 0, .int .i64 0, .bool false, .bool false]) rfl rfl rfl fun w H => ?_
    refine H.st0 (cs' := #[.int .i64 kind, .int .i64 g, .int .i64 chan, .int .i64 0, .int .i64 0, .int .i64 0, .bool false, .bool false]) rfl rfl rfl fun w H => ?_
    refine H.st0 (cs' := #[.int .i64 kind, .int .i64 g, .int .i64 chan, .int .i64 case_, .int .i64 0, .int .i64 0, .bool false, .bool false]) rfl rfl rfl fun w H => ?_
    refine H.st0 (cs' := #[.int .i64 kind, .int .i64 g, .int .i64 chan, .int .i64 case_, .int .i64 value, .int .i64 0, .bool false, .bool false]) rfl rfl rfl fun w H => ?_
    refine H.st0 (cs' := #[.int .i64 kind, .int .i64 g, .int .i64 chan, .int .i64 case_, .int .i64 value, .int .i64 mate, .bool false, .bool false]) rfl rfl rfl fun w H => ?_
    refine H.st0 (cs' := #[.int .i64 kind, .int .i64 g, .int .i64 chan, .int .i64 case_, .int .i64 value, .int .i64 mate, .bool send, .bool false]) rfl rfl rfl fun w H => ?_
    refine H.st0 (cs' := #[.int .i64 kind, .int .i64 g, .int .i64 chan, .int .i64 case_, .int .i64 value, .int .i64 mate, .bool send, .bool ok]) rfl rfl rfl fun w H => ?_
    refine ⟨?_⟩
    refine H.ldi 0 rfl (v := .int .i64 kind) rfl ?_
    refine BB.no (beq_eq_false_iff_ne.2 hek) ?_
    refine Cn.no ?_
    refine ⟨?_⟩
    refine IW.by (wrap_id (n := ↑i + 1) (by omega) (by omega)) ?_
    exact ⟨i + 1, ⟨rfl, rfl, trivial⟩, ⟨by omega, H.tl⟩, (show l.length - (i + 1) < l.length - i by omega)⟩
  · skip
    have hki : i = l.length := by omega
    subst i
    refine ⟨?_⟩
    refine BB.no (decide_eq_false (by omega)) ?_
    refine Cn.no ?_
    refine ⟨?_⟩
    refine ret1 (fn := Tryd.f33) (.int .i64 1) rfl (by rfl) ?_
    exact ⟨rfl, H⟩

theorem g_goroutines {w : World} {F : List Piece} {A : Piece} {lb lo lc : Nat} {l : List Ev} (hA : EvA A lb lo l) (hll : l.length ≤ 2000) (hk : ∀ e ∈ l, e.kind ≠ 1) (H : SL w (A :: F)) :
    Calls Tryd.prog 15 #[(.slice (some ⟨lb, lo, none⟩) l.length lc)] w fun o w' => o = .returned (.int .i64 1) ∧ SL w' (A :: F) := by
  refine calls_den (args := [_]) Tryd.func15 rfl (Nat.le_of_ble_eq_true (by kernel_rfl)) (by kernel_rfl) ?_
  refine ⟨?_⟩
  refine ⟨?_⟩
  refine Cl.sl (by kernel_rfl) (g_greatest hA hll hk H) fun w H => ?_
  refine ret1 (fn := Tryd.f15) (.int .i64 1) rfl (by rfl) ?_
  exact ⟨rfl, H⟩

theorem EvA.fst {R O : Piece} {b off : Nat} {l : List Ev} (h : EvA R b off l) : EvA (all [R, O]) b off l :=
  ⟨fun S w hS => by
    obtain ⟨T, _, h2, _⟩ := (hS : SLs w S [R, O])
    exact h.at_ T w h2⟩
theorem SpansA.snd {R O : Piece} (h : SpansA O) : SpansA (all [R, O]) := fun w H => h w ((SL.all (L := [R, O])).1 H).tl
set_option maxHeartbeats 1000000 in
theorem l_exits {w : World} {F : List Piece} {O : Piece} (hG : SpansA O) (H : SL w (O :: F)) : Calls Tryd.prog 8 #[] w fun o w' => o = .returned (.bool true) ∧ SL w' (O :: F) := by
  refine calls_den (args := []) Tryd.func8 rfl (Nat.le_of_ble_eq_true (by kernel_rfl)) (by kernel_rfl) ?_
  refine ⟨?_⟩
  refine ⟨?_⟩
  refine Mn.pure (.agg #[.int .i64 11, .int .i64 0, .int .i64 (-1), .int .i64 (-1), .int .i64 (-1), .int .i64 (-1), .bool false, .bool false]) (by kernel_rfl) ?_
  refine Nw.as #[.int .i64 0, .int .i64 0, .int .i64 0, .int .i64 0, .int .i64 0, .int .i64 0, .bool false, .bool false] 39 rfl H fun b1 w H => ?_
  refine H.st0 (cs' := #[.int .i64 11, .int .i64 0, .int .i64 0, .int .i64 0, .int .i64 0, .int .i64 0, .bool false, .bool false]) rfl rfl rfl fun w H => ?_
  refine H.st0 (cs' := #[.int .i64 11, .int .i64 0, .int .i64 0, .int .i64 0, .int .i64 0, .int .i64 0, .bool false, .bool false]) rfl rfl rfl fun w H => ?_
  refine H.st0 (cs' := #[.int .i64 11, .int .i64 0, .int .i64 (-1), .int .i64 0, .int .i64 0, .int .i64 0, .bool false, .bool false]) rfl rfl rfl fun w H => ?_
  refine H.st0 (cs' := #[.int .i64 11, .int .i64 0, .int .i64 (-1), .int .i64 (-1), .int .i64 0, .int .i64 0, .bool false, .bool false]) rfl rfl rfl fun w H => ?_
  refine H.st0 (cs' := #[.int .i64 11, .int .i64 0, .int .i64 (-1), .int .i64 (-1), .int .i64 (-1), .int .i64 0, .bool false, .bool false]) rfl rfl rfl fun w H => ?_
  refine H.st0 (cs' := #[.int .i64 11, .int .i64 0, .int .i64 (-1), .int .i64 (-1), .int .i64 (-1), .int .i64 (-1), .bool false, .bool false]) rfl rfl rfl fun w H => ?_
  refine H.st0 (cs' := #[.int .i64 11, .int .i64 0, .int .i64 (-1), .int .i64 (-1), .int .i64 (-1), .int .i64 (-1), .bool false, .bool false]) rfl rfl rfl fun w H => ?_
  refine H.st0 (cs' := #[.int .i64 11, .int .i64 0, .int .i64 (-1), .int .i64 (-1), .int .i64 (-1), .int .i64 (-1), .bool false, .bool false]) rfl rfl rfl fun w H => ?_
  refine ⟨?_⟩
  refine H.ldi 0 rfl (v := .int .i64 11) rfl ?_
  refine H.ldi 0 rfl (v := .int .i64 0) rfl ?_
  refine H.ldi 0 rfl (v := .int .i64 (-1)) rfl ?_
  refine H.ldi 0 rfl (v := .int .i64 (-1)) rfl ?_
  refine H.ldi 0 rfl (v := .int .i64 (-1)) rfl ?_
  refine H.ldi 0 rfl (v := .int .i64 (-1)) rfl ?_
  refine H.ldi 0 rfl (v := .bool false) rfl ?_
  refine H.ldi 0 rfl (v := .bool false) rfl ?_
  refine H.ldi 0 rfl (v := .int .i64 11) rfl ?_
  refine H.ldi 0 rfl (v := .int .i64 0) rfl ?_
  refine H.ldi 0 rfl (v := .int .i64 (-1)) rfl ?_
  refine H.ldi 0 rfl (v := .int .i64 (-1)) rfl ?_
  refine H.ldi 0 rfl (v := .int .i64 (-1)) rfl ?_
  refine H.ldi 0 rfl (v := .int .i64 (-1)) rfl ?_
  refine H.ldi 0 rfl (v := .bool false) rfl ?_
  refine H.ldi 0 rfl (v := .bool false) rfl ?_
  refine Mn.new (fun b => .slice (some ⟨b, 0, none⟩) 2 2) #[.int .i64 11, .int .i64 0, .int .i64 (-1), .int .i64 (-1), .int .i64 (-1), .int .i64 (-1), .bool false, .bool false, .int .i64 11, .int .i64 0, .int .i64 (-1), .int .i64 (-1), .int .i64 (-1), .int .i64 (-1), .bool false, .bool false] 39 (by kernel_rfl) H fun b10 w H => ?_
  have hq := H.pick [0, 2, 1] 3 (by decide)
  simp only [pk, nth, List.map_cons, List.map_nil, List.cons_append, List.nil_append, List.drop_succ_cons, List.drop_zero] at hq
  have K := g_check (lb := b10) (lo := 0) (lc := 2) (l := [⟨11, 0, -1, -1, -1, -1, false, false⟩, ⟨11, 0, -1, -1, -1, -1, false, false⟩]) (EvA.fst (EvA.row (b := b10) rfl)) (SpansA.snd hG) (by decide) (by decide) ((SL.all (L := [row b10 #[.int .i64 11, .int .i64 0, .int .i64 (-1), .int .i64 (-1), .int .i64 (-1), .int .i64 (-1), .bool false, .bool false, .int .i64 11, .int .i64 0, .int .i64 (-1), .int .i64 (-1), .int .i64 (-1), .int .i64 (-1), .bool false, .bool false] 39, O])).2 hq)
  rw [show checkG [⟨11, 0, -1, -1, -1, -1, false, false⟩, ⟨11, 0, -1, -1, -1, -1, false, false⟩] = (2, 1) by kernel_rfl] at K
  refine Cl.sl (by kernel_rfl) K fun w H => ?_
  replace H := (SL.all (L := [row b10 #[.int .i64 11, .int .i64 0, .int .i64 (-1), .int .i64 (-1), .int .i64 (-1), .int .i64 (-1), .bool false, .bool false, .int .i64 11, .int .i64 0, .int .i64 (-1), .int .i64 (-1), .int .i64 (-1), .int .i64 (-1), .bool false, .bool false] 39, O])).1 H
  simp only [List.cons_append, List.nil_append] at H
  refine ⟨?_⟩
  refine H.ldi 2 rfl (v := .int .i64 11) rfl ?_
  refine H.ldi 2 rfl (v := .int .i64 0) rfl ?_
  refine H.ldi 2 rfl (v := .int .i64 (-1)) rfl ?_
  refine H.ldi 2 rfl (v := .int .i64 (-1)) rfl ?_
  refine H.ldi 2 rfl (v := .int .i64 (-1)) rfl ?_
  refine H.ldi 2 rfl (v := .int .i64 (-1)) rfl ?_
  refine H.ldi 2 rfl (v := .bool false) rfl ?_
  refine H.ldi 2 rfl (v := .bool false) rfl ?_
  refine Mn.new (fun b => .slice (some ⟨b, 0, none⟩) 1 1) #[.int .i64 11, .int .i64 0, .int .i64 (-1), .int .i64 (-1), .int .i64 (-1), .int .i64 (-1), .bool false, .bool false] 39 (by kernel_rfl) H fun b16 w H => ?_
  have hq := H.pick [0, 2, 1, 3] 4 (by decide)
  simp only [pk, nth, List.map_cons, List.map_nil, List.cons_append, List.nil_append, List.drop_succ_cons, List.drop_zero] at hq
  have K := g_check (lb := b16) (lo := 0) (lc := 1) (l := [⟨11, 0, -1, -1, -1, -1, false, false⟩]) (EvA.fst (EvA.row (b := b16) rfl)) (SpansA.snd hG) (by decide) (by decide) ((SL.all (L := [row b16 #[.int .i64 11, .int .i64 0, .int .i64 (-1), .int .i64 (-1), .int .i64 (-1), .int .i64 (-1), .bool false, .bool false] 39, O])).2 hq)
  rw [show checkG [⟨11, 0, -1, -1, -1, -1, false, false⟩] = (0, 0) by kernel_rfl] at K
  refine Cl.sl (by kernel_rfl) K fun w H => ?_
  replace H := (SL.all (L := [row b16 #[.int .i64 11, .int .i64 0, .int .i64 (-1), .int .i64 (-1), .int .i64 (-1), .int .i64 (-1), .bool false, .bool false] 39, O])).1 H
  simp only [List.cons_append, List.nil_append] at H
  refine ⟨?_⟩
  refine BB.yes rfl ?_
  refine BB.yes rfl ?_
  refine BB.yes rfl ?_
  refine H.ldi 3 rfl (v := .int .i64 11) rfl ?_
  refine H.ldi 3 rfl (v := .int .i64 0) rfl ?_
  refine H.ldi 3 rfl (v := .int .i64 (-1)) rfl ?_
  refine H.ldi 3 rfl (v := .int .i64 (-1)) rfl ?_
  refine H.ldi 3 rfl (v := .int .i64 (-1)) rfl ?_
  refine H.ldi 3 rfl (v := .int .i64 (-1)) rfl ?_
  refine H.ldi 3 rfl (v := .bool false) rfl ?_
  refine H.ldi 3 rfl (v := .bool false) rfl ?_
  refine Mn.new (fun b => .slice (some ⟨b, 0, none⟩) 1 1) #[.int .i64 11, .int .i64 0, .int .i64 (-1), .int .i64 (-1), .int .i64 (-1), .int .i64 (-1), .bool false, .bool false] 39 (by kernel_rfl) H fun b32 w H => ?_
  refine Cl.sl (by kernel_rfl) (g_goroutines (lb := b32) (lo := 0) (lc := 1) (l := [⟨11, 0, -1, -1, -1, -1, false, false⟩]) (EvA.row (b := b32) rfl) (by decide) (by decide) H) fun w H => ?_
  refine BB.yes rfl ?_
  refine ret1 (fn := Tryd.f8) (.bool true) rfl (by rfl) ?_
  have q := H.pick [2] 5 (by decide)
  simp only [pk, nth, List.map_cons, List.map_nil, List.cons_append, List.nil_append, List.drop_succ_cons, List.drop_zero] at q
  exact ⟨rfl, q⟩

set_option maxHeartbeats 1000000 in
theorem law_big {w : World} {F : List Piece} {A : Piece} {la : Option Addr} {n lc : Nat} (hG : SpansA A) (hn : 150 < n) (H : SL w (A :: F)) : Calls Tryd.prog 3 #[.slice la n lc] w fun o w' => o = .returned (.bool true) ∧ SL w' (A :: F) := by
  refine calls_den (args := [_]) Tryd.func3 rfl (Nat.le_of_ble_eq_true (by kernel_rfl)) (by kernel_rfl) ?_
  refine ⟨?_⟩
  refine ⟨?_⟩
  refine BB.yes (decide_eq_true (by omega)) ?_
  refine Cn.yes ?_
  refine ⟨?_⟩
  refine Cl.sl (by kernel_rfl) (l_exits hG H) fun w H => ?_
  refine BB.yes rfl ?_
  refine ret1 (fn := Tryd.f3) (.bool true) rfl (by rfl) ?_
  have q := H.pick [0] 1 (by decide)
  simp only [pk, nth, List.map_cons, List.map_nil, List.cons_append, List.nil_append, List.drop_succ_cons, List.drop_zero] at q
  exact ⟨rfl, q⟩
set_option maxHeartbeats 1000000 in
theorem law_nil {w : World} {F : List Piece} {A : Piece} {la : Option Addr} {lc : Nat} (hG : SpansA A) (H : SL w (A :: F)) : Calls Tryd.prog 3 #[.slice la 0 lc] w fun o w' => o = .returned (.bool true) ∧ SL w' (A :: F) := by
  refine calls_den (args := [_]) Tryd.func3 rfl (Nat.le_of_ble_eq_true (by kernel_rfl)) (by kernel_rfl) ?_
  refine ⟨?_⟩
  refine ⟨?_⟩
  refine BB.no rfl ?_
  refine Cn.no ?_
  refine ⟨?_⟩
  refine Cl.sl (by kernel_rfl) (g_check_nil H) fun w H => ?_
  refine ⟨?_⟩
  refine Cl.sl (by kernel_rfl) (r_check_nil H) fun w H => ?_
  refine Nw.as #[.int .i64 0, .int .i64 0] 27 rfl H fun b5 w H => ?_
  refine H.st0 (cs' := #[.int .i64 0, .int .i64 0]) rfl rfl rfl fun w H => ?_
  refine H.st0 (cs' := #[.int .i64 0, .int .i64 0]) rfl rfl rfl fun w H => ?_
  refine ⟨?_⟩
  refine H.ldi 0 rfl (v := .int .i64 0) rfl ?_
  refine BB.yes rfl ?_
  refine H.ldi 0 rfl (v := .int .i64 0) rfl ?_
  refine BB.yes rfl ?_
  refine Cl.sl (by kernel_rfl) (l_exits hG H.up1) fun w H => ?_
  refine BB.yes rfl ?_
  refine ret1 (fn := Tryd.f3) (.bool true) rfl (by rfl) ?_
  have q := H.pick [0] 2 (by decide)
  simp only [pk, nth, List.map_cons, List.map_nil, List.cons_append, List.nil_append, List.drop_succ_cons, List.drop_zero] at q
  exact ⟨rfl, q⟩
set_option maxHeartbeats 1000000 in
theorem law_some {w : World} {F : List Piece} {A : Piece} {lb lo lc : Nat} {l : List Ev} (hA : EvA A lb lo l) (hG : SpansA A) (hlc : l.length ≤ lc) (h0 : 0 < l.length) (hll : l.length ≤ 150) (H : SL w (A :: F)) : Calls Tryd.prog 3 #[(.slice (some ⟨lb, lo, none⟩) l.length lc)] w fun o w' => o = .returned (.bool true) ∧ SL w' (A :: F) := by
  refine calls_den (args := [_]) Tryd.func3 rfl (Nat.le_of_ble_eq_true (by kernel_rfl)) (by kernel_rfl) ?_
  refine ⟨?_⟩
  refine ⟨?_⟩
  refine BB.no (decide_eq_false (by omega)) ?_
  refine Cn.no ?_
  refine ⟨?_⟩
  refine Cl.sl (by kernel_rfl) (g_check hA hG h0 (by omega) H) fun w H => ?_
  refine ⟨?_⟩
  have K := r_check14 hA hlc h0 (by omega) H
  rw [← check_same l] at K
  refine Cl.sl (by kernel_rfl) K fun w H => ?_
  refine Nw.as #[.int .i64 0, .int .i64 0] 27 rfl H fun b5 w H => ?_
  refine H.st0 (cs' := #[.int .i64 ((checkG l).1), .int .i64 0]) rfl rfl rfl fun w H => ?_
  refine H.st0 (cs' := #[.int .i64 ((checkG l).1), .int .i64 ((checkG l).2)]) rfl rfl rfl fun w H => ?_
  refine ⟨?_⟩
  refine H.ldi 0 rfl (v := .int .i64 ((checkG l).1)) rfl ?_
  refine BB.yes (beq_self_eq_true _) ?_
  refine H.ldi 0 rfl (v := .int .i64 ((checkG l).2)) rfl ?_
  refine BB.yes (beq_self_eq_true _) ?_
  refine Cl.sl (by kernel_rfl) (l_exits hG H.up1) fun w H => ?_
  refine BB.yes rfl ?_
  refine ret1 (fn := Tryd.f3) (.bool true) rfl (by rfl) ?_
  have q := H.pick [0] 2 (by decide)
  simp only [pk, nth, List.map_cons, List.map_nil, List.cons_append, List.nil_append, List.drop_succ_cons, List.drop_zero] at q
  exact ⟨rfl, q⟩
/-- The law, whole. -/
theorem gaugeChecks_walk {v : Value} {l : List Ev} {W : World} (h : EvIn W v l) (hs : Spans W) : Calls Tryd.prog 3 #[v] W fun e w' => e = .returned (.bool true) ∧ Frm Nil W w' := by
  obtain ⟨a, cap, rfl, hc, hr⟩ := h
  have H := SL.start W
  have hG : SpansA (Old W) := fun w hw => hs.later (SL.old hw)
  have done : ∀ o w', (o = Ending.returned (.bool true) ∧ SL w' [Old W]) → o = .returned (.bool true) ∧ Frm Nil W w' := fun o w' q => ⟨q.1, SL.old q.2⟩
  by_cases h1 : 150 < l.length
  · exact (law_big hG h1 H).mono done
  · rcases Nat.eq_zero_or_pos l.length with h0 | h0
    · rw [h0]
      exact (law_nil hG H).mono done
    · obtain ⟨b, off, rfl, hcell⟩ := hr.2.2 h0
      have hA : EvA (Old W) b off l := EvA.of_rd (a := some ⟨b, off, none⟩) (fun S w hS => ⟨hr.1, hr.2.1, fun _ => ⟨b, off, rfl, fun i u hu => by
        have hw := hcell i u hu
        rw [World.cell?_of_block (w := W) (w' := w) ((hS.2.2.2 b (World.block_lt_of_cell? W _ hw)).2)]
        exact hw⟩⟩) rfl
      exact (law_some hA hG hc h0 (by omega) H).mono done

end Go.Proofs.YtoejhelhgfipkaaDoor
