/- Texts of the proof, several in one file: LawD. -/
import Derived.Test.YtcgajljbahbhdaaGreatR19
namespace Go.Proofs.YtcgajljbahbhdaaGreat
set_option linter.unusedVariables false
set_option linter.unusedSimpArgs false
open Go.RowKit
set_option maxRecDepth 100000
theorem l_nil {w : World} {F : List Piece} (g : Int) (H : SL w F) : Calls Tryz.prog 8 #[.int .i64 g] w fun o w' => o = .returned (.bool true) ∧ SL w' F := by
 refine calls_den (args := [_]) Tryz.func8 rfl (Nat.le_of_ble_eq_true (by kernel_rfl)) (by kernel_rfl) ?_
 refine ⟨?_⟩
 refine ⟨?_⟩
 refine ⟨?_⟩
 refine Cl.sl (by kernel_rfl) (nil_next H) fun w H => ?_
 refine Nw.as #[.int .i64 0, .int .i64 0, .int .i64 0, .slice none 0 0, .bool false] 44 rfl H fun b5 w H => ?_
 refine H.st0 (cs' := #[.int .i64 0, .int .i64 0, .int .i64 0, .slice none 0 0, .bool false]) rfl rfl rfl fun w H => ?_
 refine H.st0 (cs' := #[.int .i64 0, .int .i64 0, .int .i64 0, .slice none 0 0, .bool false]) rfl rfl rfl fun w H => ?_
 refine H.st0 (cs' := #[.int .i64 0, .int .i64 0, .int .i64 0, .slice none 0 0, .bool false]) rfl rfl rfl fun w H => ?_
 refine H.st0 (cs' := #[.int .i64 0, .int .i64 0, .int .i64 0, .slice none 0 0, .bool false]) rfl rfl rfl fun w H => ?_
 refine H.st0 (cs' := #[.int .i64 0, .int .i64 0, .int .i64 0, .slice none 0 0, .bool false]) rfl rfl rfl fun w H => ?_
 refine ⟨?_⟩
 refine Cl.sl (by kernel_rfl) (nil_state g H) fun w H => ?_
 refine ⟨?_⟩
 refine BB.yes rfl ?_
 refine BB.yes rfl ?_
 refine Cl.sl (by kernel_rfl) (nil_step H) fun w H => ?_
 refine BB.yes rfl ?_
 refine Cl.sl (by kernel_rfl) (nil_verdict H) fun w H => ?_
 refine BB.yes rfl ?_
 refine Cl.sl (by kernel_rfl) (nil_trace H) fun w H => ?_
 refine BB.yes rfl ?_
 refine Cl.sl (by kernel_rfl) (nil_len H) fun w H => ?_
 refine BB.yes rfl ?_
 refine Cl.sl (by kernel_rfl) (l_hands H) fun w H => ?_
 refine BB.yes rfl ?_
 refine ret1 (fn := Tryz.f8) (.bool true) rfl (by rfl) ?_
 exact ⟨rfl, H.pick [] 1 (by decide)⟩
theorem loomNil_walk (g : Int) (hg : (Lit.int .i64 g).wf = true) {w : World} : Calls Tryz.prog 8 #[.int .i64 g] w fun e w' => e = .returned (.bool true) ∧ Frm Nil w w' := by
 refine (l_nil (F := [Old w]) g (SL.start w)).mono ?_
 rintro e w' ⟨rfl, H⟩
 exact ⟨rfl, H.old⟩
theorem l_op {w : World} {F : List Piece} {A C : Piece} {op : OpM} {ca cb : Option Addr} {cc cd : Nat} (hl : op.cases.length ≤ 1000000) (hC : Reader C 3 ca op.cases.length (op.cases.flatMap CaseM.cells)) (hA : Reader A 3 cb op.cases.length (op.cases.flatMap CaseM.cells)) (H : SL w (C :: A :: F)) :
  Calls Tryz.prog 23 #[.agg #[.int .i64 op.kind, .int .i64 op.a, .int .i64 op.b, .slice ca op.cases.length cc, .bool op.dflt], .agg #[.int .i64 op.kind, .int .i64 op.a, .int .i64 op.b, .slice cb op.cases.length cd, .bool op.dflt]] w fun o w' => o = .returned (.bool true) ∧ SL w' (C :: A :: F) := by
 refine calls_den (args := [_, _]) Tryz.func23 rfl (Nat.le_of_ble_eq_true (by kernel_rfl)) (by kernel_rfl) ?_
 refine ⟨?_⟩
 refine Nw.as #[.int .i64 op.kind, .int .i64 op.a, .int .i64 op.b, .slice ca op.cases.length cc, .bool op.dflt] 44 rfl H fun b2 w H => ?_
 refine Nw.as #[.int .i64 op.kind, .int .i64 op.a, .int .i64 op.b, .slice cb op.cases.length cd, .bool op.dflt] 44 rfl H fun b3 w H => ?_
 refine ⟨?_⟩
 refine H.ldi 1 rfl (v := .int .i64 op.kind) rfl ?_
 refine H.ldi 0 rfl (v := .int .i64 op.kind) rfl ?_
 refine BB.no (bne_self_eq_false _) ?_
 refine H.ldi 1 rfl (v := .int .i64 op.a) rfl ?_
 refine H.ldi 0 rfl (v := .int .i64 op.a) rfl ?_
 refine BB.no (bne_self_eq_false _) ?_
 refine H.ldi 1 rfl (v := .int .i64 op.b) rfl ?_
 refine H.ldi 0 rfl (v := .int .i64 op.b) rfl ?_
 refine BB.no (bne_self_eq_false _) ?_
 refine H.ldi 1 rfl (v := .bool op.dflt) rfl ?_
 refine BB.k ?_
 refine H.ldi 0 rfl (v := .bool op.dflt) rfl ?_
 refine BB.k ?_
 refine BB.no (bne_self_eq_false _) ?_
 refine H.ldi 1 rfl (v := .slice ca op.cases.length cc) rfl ?_
 refine H.ldi 0 rfl (v := .slice cb op.cases.length cd) rfl ?_
 refine BB.no (bne_self_eq_false _) ?_
 refine Cn.no ?_
 refine ⟨?_⟩
 refine H.ldi 1 rfl (v := .slice ca op.cases.length cc) rfl ?_
 refine ⟨?_⟩
 refine den.loop (ι := Nat) [(4, 5), (44, 58)] (by kernel_rfl) (fun j => [(44, .int .i64 ↑j)]) (fun j w => j ≤ op.cases.length ∧ SL w (row b3 #[.int .i64 op.kind, .int .i64 op.a, .int .i64 op.b, .slice cb op.cases.length cd, .bool op.dflt] 44 :: row b2 #[.int .i64 op.kind, .int .i64 op.a, .int .i64 op.b, .slice ca op.cases.length cc, .bool op.dflt] 44 :: C :: A :: F)) (fun j => op.cases.length - j) 0 ⟨rfl, trivial⟩ ⟨Nat.zero_le _, H⟩ ?_
 rintro j s w ⟨hc, H⟩
 have hob := Nat.lt_or_ge j op.cases.length
 rcases hob with hj | hj
 ·skip
  have hob : ∃ z, op.cases[j]? = some z := ⟨_, List.getElem?_eq_getElem hj⟩
  obtain ⟨z, hz⟩ := hob
  have hob := H.addrR 2 rfl hC (by omega)
  obtain ⟨xb, xo, rfl⟩ := hob
  have hob := H.addrR 3 rfl hA (by omega)
  obtain ⟨yb, yo, rfl⟩ := hob
  refine ⟨?_⟩
  refine BB.yes (decide_eq_true (by omega)) ?_
  refine Cn.yes ?_
  refine ⟨?_⟩
  refine ⟨?_⟩
  refine ⟨?_⟩
  refine Drw.of [(0, true), (1, true), (2, true), (3, true), (4, true), (5, true), (6, true), (7, true), (8, true), (9, true), (10, true)] (by kernel_rfl) mixed (fun w => SL w _) H.drew ?_
  replace H := H.drew
  refine LdC.i 1 rfl (v := .slice (some ⟨xb, xo, none⟩) op.cases.length cc) rfl ?_
  refine Ix.at j 3 (by kernel_rfl) (rfl) (hj) ?_
  refine LdC.R 2 rfl hC (by omega) (q := j * 3 + 0) rfl (v := .bool z.send) ((case_cell hz 0 (by decide)).trans rfl) ?_
  refine LdC.R 2 rfl hC (by omega) (q := j * 3 + 1) rfl (v := .int .i64 z.chan) ((case_cell hz 1 (by decide)).trans rfl) ?_
  refine LdC.R 2 rfl hC (by omega) (q := j * 3 + 2) rfl (v := .int .i64 z.value) ((case_cell hz 2 (by decide)).trans rfl) ?_
  refine LdC.i 0 rfl (v := .slice (some ⟨yb, yo, none⟩) op.cases.length cd) rfl ?_
  refine Ix.at j 3 (by kernel_rfl) (rfl) (hj) ?_
  refine LdC.R 3 rfl hA (by omega) (q := j * 3 + 0) rfl (v := .bool z.send) ((case_cell hz 0 (by decide)).trans rfl) ?_
  refine LdC.R 3 rfl hA (by omega) (q := j * 3 + 1) rfl (v := .int .i64 z.chan) ((case_cell hz 1 (by decide)).trans rfl) ?_
  refine LdC.R 3 rfl hA (by omega) (q := j * 3 + 2) rfl (v := .int .i64 z.value) ((case_cell hz 2 (by decide)).trans rfl) ?_
  refine MnC.sameCase z _ _ _ (by rfl) (by rfl) (by rfl) ?_
  refine Cn.no ?_
  refine ⟨?_⟩
  refine IW.by (wrap_id (n := ↑j + 1) (by omega) (by omega)) ?_
  exact ⟨j + 1, ⟨rfl, trivial⟩, ⟨(by omega : j + 1 ≤ op.cases.length), H⟩, (show op.cases.length - (j + 1) < op.cases.length - j by omega)⟩
 ·skip
  have hob : j = op.cases.length := by omega
  obtain rfl := hob
  refine ⟨?_⟩
  refine BB.no (decide_eq_false (by omega)) ?_
  refine Cn.no ?_
  refine ⟨?_⟩
  refine ret1 (fn := Tryz.f23) (.bool true) rfl (by rfl) ?_
  exact ⟨rfl, H.pick [2, 3] 4 (by decide)⟩
theorem l_opZ {w : World} {F : List Piece} (H : SL w F) : Calls Tryz.prog 23 #[.agg #[.int .i64 0, .int .i64 0, .int .i64 0, .slice none 0 0, .bool false], .agg #[.int .i64 0, .int .i64 0, .int .i64 0, .slice none 0 0, .bool false]] w fun o w' => o = .returned (.bool true) ∧ SL w' F := by
 refine (l_op (op := ⟨0, 0, 0, [], false⟩) (ca := none) (cb := none) (cc := 0) (cd := 0) (Nat.zero_le _) Reader.slc Reader.slc (SL.slcNil 98 3 (SL.slcNil 98 3 H))).mono ?_
 rintro o w' ⟨rfl, H⟩
 exact ⟨rfl, H.tl.tl⟩
end Go.Proofs.YtcgajljbahbhdaaGreat
