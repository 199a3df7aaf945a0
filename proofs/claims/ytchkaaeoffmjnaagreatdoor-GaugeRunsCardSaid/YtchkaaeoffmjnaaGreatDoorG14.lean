/- Texts of the proof, several in one file: SheetF, LoomB9, Loom12, LoomB10, LoomX8, LoomX9. -/
import Derived.Test.YtchkaaeoffmjnaaGreatDoorG13
import Derived.Test.YtchkaaeoffmjnaaGreatDoorG12
import Derived.Test.YtchkaaeoffmjnaaGreatDoorG09
namespace Go.Proofs.YtchkaaeoffmjnaaGreatDoor
set_option linter.unusedVariables false
set_option linter.unusedSimpArgs false
open Go.RowKit
set_option maxRecDepth 100000
theorem cases_oneC (L : List CaseM) : (L.flatMap CaseM.cells).all Value.oneCell' = true := by
 rw [List.all_flatMap, List.all_eq_true]
 exact fun c _ => rfl
theorem copy_op {w : World} {F : List Piece} {A : Piece} {ox : OpX} (hA : Reader A 3 ox.ca ox.op.cases.length (ox.op.cases.flatMap CaseM.cells)) (hl : ox.op.cases.length ≤ 4) (H : SL w (A :: F)) : Calls Tryz.prog 99 #[.agg ox.cells.toArray] w fun o w' => ∃ oy : OpX, oy.op = ox.op ∧ GoodO oy ∧ o = .returned (.agg oy.cells.toArray) ∧ SL w' (RdC oy :: A :: F) := by
 refine calls_den (args := [_]) Tryz.func99 rfl (Nat.le_of_ble_eq_true (by kernel_rfl)) (by kernel_rfl) ?_
 refine ⟨?_⟩
 refine Nw.as #[.int .i64 ox.op.kind, .int .i64 ox.op.a, .int .i64 ox.op.b, .slice ox.ca ox.op.cases.length ox.cc, .bool ox.op.dflt] 66 rfl H fun b1 w H => ?_
 refine Nw.as #[.int .i64 0, .int .i64 0, .int .i64 0, .slice none 0 0, .bool false] 66 rfl H fun b2 w H => ?_
 refine ⟨?_⟩
 refine H.ldi 1 rfl (v := .slice ox.ca ox.op.cases.length ox.cc) rfl ?_
 have h1 := H.pick [2, 0, 1] 3 (by decide)
 simp only [pk, nth, pkA, pkB, pkC, pkD, pkE, pkF] at h1
 refine Cl.by (by kernel_rfl) (clone_case hA (cases_oneC _) (by omega) h1) ?_
 rintro _ w ⟨ka1, kc1, rfl, H⟩
 refine ⟨_, rfl, ?_⟩
 replace H := H.pick [0, 2, 3, 1] 4 (by decide)
 simp only [pk, nth, pkA, pkB, pkC, pkD, pkE, pkF] at H
 refine H.st2 (cs' := #[.int .i64 ox.op.kind, .int .i64 ox.op.a, .int .i64 ox.op.b, .slice ka1 ox.op.cases.length kc1, .bool ox.op.dflt]) rfl rfl rfl fun w H => ?_
 refine ⟨?_⟩
 refine H.ldi 2 rfl (v := .int .i64 ox.op.kind) rfl ?_
 refine H.ldi 2 rfl (v := .int .i64 ox.op.a) rfl ?_
 refine H.ldi 2 rfl (v := .int .i64 ox.op.b) rfl ?_
 refine H.ldi 2 rfl (v := .slice ka1 ox.op.cases.length kc1) rfl ?_
 refine H.ldi 2 rfl (v := .bool ox.op.dflt) rfl ?_
 refine H.st1 (cs' := #[.int .i64 ox.op.kind, .int .i64 0, .int .i64 0, .slice none 0 0, .bool false]) rfl rfl rfl fun w H => ?_
 refine H.st1 (cs' := #[.int .i64 ox.op.kind, .int .i64 ox.op.a, .int .i64 0, .slice none 0 0, .bool false]) rfl rfl rfl fun w H => ?_
 refine H.st1 (cs' := #[.int .i64 ox.op.kind, .int .i64 ox.op.a, .int .i64 ox.op.b, .slice none 0 0, .bool false]) rfl rfl rfl fun w H => ?_
 refine H.st1 (cs' := #[.int .i64 ox.op.kind, .int .i64 ox.op.a, .int .i64 ox.op.b, .slice ka1 ox.op.cases.length kc1, .bool false]) rfl rfl rfl fun w H => ?_
 refine H.st1 (cs' := #[.int .i64 ox.op.kind, .int .i64 ox.op.a, .int .i64 ox.op.b, .slice ka1 ox.op.cases.length kc1, .bool ox.op.dflt]) rfl rfl rfl fun w H => ?_
 refine retC (fn := Tryz.f99) H 1 rfl rfl (by rfl) (by kernel_rfl) (by kernel_rfl) ?_
 replace H := H.pick [0, 3] 4 (by decide)
 exact ⟨⟨ox.op, ka1, kc1⟩, rfl, SL.slcLe H, rfl, H⟩
set_option maxHeartbeats 2000000 in
theorem each_ops {w : World} {F : List Piece} {A : Piece} {pb po k qc : Nat} {X : List ProgX} {ops : List OpX} {qa : Option Addr} (hX : ScrA A pb po X) (hY : X[k]? = some ⟨ops, qa, qc⟩) (h4 : ∀ o ∈ ops, o.op.cases.length ≤ 4) (h32 : ops.length ≤ 32) (H : SL w (A :: F)) : Calls Tryz.prog 98 #[.slice qa ops.length qc, .func (.func 99) #[] #[]] w fun o w' => ∃ py : ProgX, py.ops.map (·.op) = ops.map (·.op) ∧ GoodP py ∧ o = .returned (.slice py.pa ops.length py.pc) ∧ SL w' (progP py :: A :: F) := by
 refine calls_den (args := [_, _]) Tryz.func98 rfl (Nat.le_of_ble_eq_true (by kernel_rfl)) (by kernel_rfl) ?_
 refine ⟨?_⟩
 refine ⟨?_⟩
 refine ⟨?_⟩
 refine ⟨?_⟩
 refine den.loop (ι := Nat × List OpX × Option Addr × Nat) [(5, 5), (7, 7), (10, 20)] (by kernel_rfl) (fun (j, Z, oa, oc) => [(5, .slice oa j oc), (10, .int .i64 ↑j)]) (fun (j, Z, oa, oc) w => (j ≤ ops.length ∧ Z.map (·.op) = (ops.map (·.op)).take j ∧ ∀ o ∈ Z, GoodO o) ∧ SL w (Slc 66 5 (.slice oa j oc) j (Z.flatMap OpX.cells) :: casesP Z :: A :: F)) (fun (j, Z, oa, oc) => ops.length - j) (0, [], none, 0) ⟨rfl, rfl, trivial⟩ ⟨⟨Nat.zero_le _, rfl, fun _ h => by cases h⟩, (SL.slcNil 66 5 (SL.all.2 H : SL w (casesP [] :: A :: F)))⟩ ?_
 rintro ⟨j, Z, oa, oc⟩ s w ⟨hc, H⟩
 have hob := Nat.lt_or_ge j ops.length
 rcases hob with hj | hj
 ·skip
  have hob := hX.some_ k _ hY (by dsimp only; omega)
  obtain ⟨qb, qo, rfl⟩ := hob
  have hob : ∃ z, ops[j]? = some z := ⟨_, List.getElem?_eq_getElem hj⟩
  obtain ⟨ox, hox⟩ := hob
  have hzl : Z.length = j := by have := congrArg List.length hc.2.1; simp at this; omega
  refine ⟨?_⟩
  refine BB.yes (decide_eq_true (by omega)) ?_
  refine Cn.yes ?_
  refine ⟨?_⟩
  refine ⟨?_⟩
  refine Ix.at j 5 (by kernel_rfl) (rfl) (hj) ?_
  refine H.ldO 2 rfl hX k hY rfl j 0 hox (v := .int .i64 ox.op.kind) rfl ?_
  refine H.ldO 2 rfl hX k hY rfl j 1 hox (v := .int .i64 ox.op.a) rfl ?_
  refine H.ldO 2 rfl hX k hY rfl j 2 hox (v := .int .i64 ox.op.b) rfl ?_
  refine H.ldO 2 rfl hX k hY rfl j 3 hox (v := .slice ox.ca ox.op.cases.length ox.cc) rfl ?_
  refine H.ldO 2 rfl hX k hY rfl j 4 hox (v := .bool ox.op.dflt) rfl ?_
  refine Nw.as #[.int .i64 0, .int .i64 0, .int .i64 0, .slice none 0 0, .bool false] 66 rfl H fun b7 w H => ?_
  refine H.st0 (cs' := #[.int .i64 ox.op.kind, .int .i64 0, .int .i64 0, .slice none 0 0, .bool false]) rfl rfl rfl fun w H => ?_
  refine H.st0 (cs' := #[.int .i64 ox.op.kind, .int .i64 ox.op.a, .int .i64 0, .slice none 0 0, .bool false]) rfl rfl rfl fun w H => ?_
  refine H.st0 (cs' := #[.int .i64 ox.op.kind, .int .i64 ox.op.a, .int .i64 ox.op.b, .slice none 0 0, .bool false]) rfl rfl rfl fun w H => ?_
  refine H.st0 (cs' := #[.int .i64 ox.op.kind, .int .i64 ox.op.a, .int .i64 ox.op.b, .slice ox.ca ox.op.cases.length ox.cc, .bool false]) rfl rfl rfl fun w H => ?_
  refine H.st0 (cs' := #[.int .i64 ox.op.kind, .int .i64 ox.op.a, .int .i64 ox.op.b, .slice ox.ca ox.op.cases.length ox.cc, .bool ox.op.dflt]) rfl rfl rfl fun w H => ?_
  refine ⟨?_⟩
  refine H.ldi 0 rfl (v := .int .i64 ox.op.kind) rfl ?_
  refine H.ldi 0 rfl (v := .int .i64 ox.op.a) rfl ?_
  refine H.ldi 0 rfl (v := .int .i64 ox.op.b) rfl ?_
  refine H.ldi 0 rfl (v := .slice ox.ca ox.op.cases.length ox.cc) rfl ?_
  refine H.ldi 0 rfl (v := .bool ox.op.dflt) rfl ?_
  have h1 := H.pick [3, 0, 1, 2] 4 (by decide)
  simp only [pk, nth, pkA, pkB, pkC, pkD, pkE, pkF] at h1
  refine Cl.by (by kernel_rfl) (copy_op (ox := ox) (hX.case k _ hY j ox hox).1 (h4 ox (List.mem_of_getElem? hox)) h1) ?_
  rintro _ w ⟨oy, hoy, hgood, rfl, H⟩
  refine ⟨_, rfl, ?_⟩
  have hoyc : [.int .i64 oy.op.kind, .int .i64 oy.op.a, .int .i64 oy.op.b, .slice oy.ca oy.op.cases.length oy.cc, .bool oy.op.dflt] = [oy].flatMap OpX.cells := by simp [OpX.cells]
  replace H := H.pick [0, 2, 3, 4, 1] 5 (by decide)
  simp only [pk, nth, pkA, pkB, pkC, pkD, pkE, pkF] at H
  refine Mn.new (fun b => .slice (some ⟨b, 0, none⟩) 1 1) #[.int .i64 oy.op.kind, .int .i64 oy.op.a, .int .i64 oy.op.b, .slice oy.ca oy.op.cases.length oy.cc, .bool oy.op.dflt] 66 (by kernel_rfl) H fun b18 w H => ?_
  refine SL.appS H.up3 (.tmp 14) (.tmp 18) 67 (.agg #[.int .i64 0, .int .i64 0, .int .i64 0, .slice none 0 0, .bool false]) 56 (by rfl) (by kernel_rfl) (by kernel_rfl) (by rfl) (by decide) (by rfl) (some ⟨b18, 0, none⟩) 1 1 [.int .i64 oy.op.kind, .int .i64 oy.op.a, .int .i64 oy.op.b, .slice oy.ca oy.op.cases.length oy.cc, .bool oy.op.dflt] (by rfl) (H.rdRow 0 rfl (by rfl) (by decide)) (by rfl) (by omega) (by decide) (by decide) fun g1 c1 w H => ?_
  refine ⟨?_⟩
  refine IW.by (wrap_id (n := ↑j + 1) (by omega) (by omega)) ?_
  replace H := H.pick [2, 4, 0, 5] 6 (by decide)
  simp only [pk, nth, pkA, pkB, pkC, pkD, pkE, pkF] at H
  have H2 := all_snocP H
  rw [show Z.map RdC ++ [RdC oy] = (Z ++ [oy]).map RdC by simp] at H2
  rw [show Z.flatMap OpX.cells ++ [.int .i64 oy.op.kind, .int .i64 oy.op.a, .int .i64 oy.op.b, .slice oy.ca oy.op.cases.length oy.cc, .bool oy.op.dflt] = (Z ++ [oy]).flatMap OpX.cells by rw [List.flatMap_append]; rfl] at H2
  exact ⟨(j + 1, Z ++ [oy], (some ⟨g1, 0, none⟩), c1), ⟨rfl, rfl, trivial⟩, ⟨⟨by omega, by rw [List.map_append, hc.2.1, List.take_add_one, List.getElem?_map, hox, List.map_singleton, hoy]; try rfl, fun z hz => (List.mem_append.1 hz).elim (hc.2.2 z) (fun h => by rw [List.mem_singleton.1 h]; exact hgood)⟩, H2.swap⟩, (show ops.length - (j + 1) < ops.length - j by omega)⟩
 ·skip
  have hob : j = ops.length := by omega
  obtain rfl := hob
  refine ⟨?_⟩
  refine BB.no (decide_eq_false (by omega)) ?_
  refine Cn.no ?_
  refine ⟨?_⟩
  refine ret1 (fn := Tryz.f98) (.slice oa ops.length oc) rfl (by rfl) ?_
  have hZ : Z.map (·.op) = ops.map (·.op) := by rw [hc.2.1, List.take_of_length_le (by simp)]
  have hzl : Z.length = ops.length := by have := congrArg List.length hZ; simpa using this
  rw [← hzl] at H
  exact ⟨⟨Z, oa, oc⟩, hZ, ⟨fun h => SL.slcAddr H h, SL.slcLe H, hc.2.2⟩, by rw [← hzl], SL.all.2 H⟩
theorem copy_prog {w : World} {F : List Piece} {A : Piece} {pb po k qc : Nat} {X : List ProgX} {ops : List OpX} {qa : Option Addr} (hX : ScrA A pb po X) (hY : X[k]? = some ⟨ops, qa, qc⟩) (h4 : ∀ o ∈ ops, o.op.cases.length ≤ 4) (h32 : ops.length ≤ 32) (H : SL w (A :: F)) : Calls Tryz.prog 97 #[.slice qa ops.length qc] w fun o w' => ∃ py : ProgX, py.ops.map (·.op) = ops.map (·.op) ∧ GoodP py ∧ o = .returned (.slice py.pa py.ops.length py.pc) ∧ SL w' (progP py :: A :: F) := by
 refine calls_den (args := [_]) Tryz.func97 rfl (Nat.le_of_ble_eq_true (by kernel_rfl)) (by kernel_rfl) ?_
 refine ⟨?_⟩
 refine ⟨?_⟩
 refine Cl.by (by kernel_rfl) (each_ops hX hY h4 h32 H) ?_
 rintro _ w ⟨py, hpy, hgood, rfl, H⟩
 refine ⟨_, rfl, ?_⟩
 refine ret1 (fn := Tryz.f97) (.slice py.pa ops.length py.pc) rfl (by rfl) ?_
 exact ⟨py, hpy, hgood, by rw [show ops.length = py.ops.length by have := congrArg List.length hpy; simpa using this.symm], H⟩
set_option maxHeartbeats 2000000 in
theorem each_progs {w : World} {F : List Piece} {A : Piece} {pa : Option Addr} {pc : Nat} {X : List ProgX} (hX : 0 < X.length → ∃ b off, pa = some ⟨b, off, none⟩ ∧ ScrA A b off X) (h4 : ∀ p ∈ X, ∀ o ∈ p.ops, o.op.cases.length ≤ 4) (h32 : ∀ p ∈ X, p.ops.length ≤ 32) (h8 : X.length ≤ 8) (H : SL w (A :: F)) : Calls Tryz.prog 96 #[.slice pa X.length pc, .func (.func 97) #[] #[]] w fun o w' => ∃ (Z : List ProgX) (va : Option Addr) (vc : Nat), progsM Z = progsM X ∧ Z.length = X.length ∧ (∀ p ∈ Z, GoodP p) ∧ o = .returned (.slice va X.length vc) ∧ (0 < X.length → ∃ b, va = some ⟨b, 0, none⟩) ∧ SL w' (scrP va vc Z :: A :: F) := by
 refine calls_den (args := [_, _]) Tryz.func96 rfl (Nat.le_of_ble_eq_true (by kernel_rfl)) (by kernel_rfl) ?_
 refine ⟨?_⟩
 refine ⟨?_⟩
 refine ⟨?_⟩
 refine ⟨?_⟩
 refine den.loop (ι := Nat × List ProgX × Option Addr × Nat) [(5, 5), (7, 7), (10, 20)] (by kernel_rfl) (fun (j, Z, oa, oc) => [(5, .slice oa j oc), (10, .int .i64 ↑j)]) (fun (j, Z, oa, oc) w => (j ≤ X.length ∧ progsM Z = (progsM X).take j ∧ ∀ p ∈ Z, GoodP p) ∧ SL w (Slc 67 1 (.slice oa j oc) j (Z.map progVal) :: all (Z.map progP) :: A :: F)) (fun (j, Z, oa, oc) => X.length - j) (0, [], none, 0) ⟨rfl, rfl, trivial⟩ ⟨⟨Nat.zero_le _, rfl, fun _ h => by cases h⟩, (SL.slcNil 67 1 (SL.all.2 H : SL w (all (([] : List ProgX).map progP) :: A :: F)))⟩ ?_
 rintro ⟨j, Z, oa, oc⟩ s w ⟨hc, H⟩
 have hob := Nat.lt_or_ge j X.length
 rcases hob with hj | hj
 ·skip
  have hob : ∃ z, X[j]? = some z := ⟨_, List.getElem?_eq_getElem hj⟩
  obtain ⟨px, hY⟩ := hob
  have hob := hX (by omega)
  obtain ⟨pb, po, rfl, hXA⟩ := hob
  obtain ⟨ops, qa, qc⟩ := px
  have hzl : Z.length = j := by have := congrArg List.length hc.2.1; simp [progsM] at this; omega
  refine ⟨?_⟩
  refine BB.yes (decide_eq_true (by omega)) ?_
  refine Cn.yes ?_
  refine ⟨?_⟩
  refine ⟨?_⟩
  refine Ix.at j 1 (by kernel_rfl) (rfl) (hj) ?_
  refine H.ldPv 2 rfl hXA j hY (v := .slice qa ops.length qc) rfl ?_
  refine ⟨?_⟩
  have h1 := H.pick [2, 0, 1] 3 (by decide)
  simp only [pk, nth, pkA, pkB, pkC, pkD, pkE, pkF] at h1
  refine Cl.by (by kernel_rfl) (copy_prog hXA hY (h4 _ (List.mem_of_getElem? hY)) (h32 _ (List.mem_of_getElem? hY)) h1) ?_
  rintro _ w ⟨py, hpy, hgood, rfl, H⟩
  refine ⟨_, rfl, ?_⟩
  replace H := H.pick [0, 2, 3, 1] 4 (by decide)
  simp only [pk, nth, pkA, pkB, pkC, pkD, pkE, pkF] at H
  refine Mn.new (fun b => .slice (some ⟨b, 0, none⟩) 1 1) #[.slice py.pa py.ops.length py.pc] 67 (by kernel_rfl) H fun b18 w H => ?_
  refine SL.appS H.up2 (.tmp 14) (.tmp 18) 39 (.slice none 0 0) 24 (by rfl) (by kernel_rfl) (by kernel_rfl) (by rfl) (by decide) (by rfl) (some ⟨b18, 0, none⟩) 1 1 [.slice py.pa py.ops.length py.pc] (by rfl) (H.rdRow 0 rfl (by rfl) (by decide)) (by rfl) (by omega) (by decide) (by decide) fun g1 c1 w H => ?_
  refine ⟨?_⟩
  refine IW.by (wrap_id (n := ↑j + 1) (by omega) (by omega)) ?_
  replace H := H.pick [2, 3, 0, 4] 5 (by decide)
  simp only [pk, nth, pkA, pkB, pkC, pkD, pkE, pkF] at H
  have H2 := all_snocP H
  rw [show Z.map progP ++ [progP py] = (Z ++ [py]).map progP by simp] at H2
  rw [show Z.map progVal ++ [.slice py.pa py.ops.length py.pc] = (Z ++ [py]).map progVal by simp [progVal]] at H2
  exact ⟨(j + 1, Z ++ [py], (some ⟨g1, 0, none⟩), c1), ⟨rfl, rfl, trivial⟩, ⟨⟨by omega, by unfold progsM at hc ⊢; rw [List.map_append, hc.2.1, List.take_add_one, List.getElem?_map, hY, List.map_singleton, hpy]; try rfl, fun z hz => (List.mem_append.1 hz).elim (hc.2.2 z) (fun h => by rw [List.mem_singleton.1 h]; exact hgood)⟩, H2.swap⟩, (show X.length - (j + 1) < X.length - j by omega)⟩
 ·skip
  have hob : j = X.length := by omega
  obtain rfl := hob
  refine ⟨?_⟩
  refine BB.no (decide_eq_false (by omega)) ?_
  refine Cn.no ?_
  refine ⟨?_⟩
  refine ret1 (fn := Tryz.f96) (.slice oa X.length oc) rfl (by rfl) ?_
  have hZ : progsM Z = progsM X := by rw [hc.2.1, List.take_of_length_le (by simp [progsM])]
  have hzl : Z.length = X.length := by have := congrArg List.length hZ; simpa [progsM] using this
  rw [← hzl] at H
  exact ⟨Z, oa, oc, hZ, hzl, hc.2.2, by rw [← hzl], fun h => SL.slcAddr H (by omega), SL.all.2 H⟩
set_option maxHeartbeats 2000000 in
theorem p_copy {w : World} {F : List Piece} {A : Piece} {pa la da : Option Addr} {pc lc dc : Nat} {t m : Int} {X : List ProgX} {pl dr : List Int} (hX : 0 < X.length → ∃ b off, pa = some ⟨b, off, none⟩ ∧ ScrA A b off X) (hL : Reader A 1 la pl.length (ints pl)) (hD : Reader A 1 da dr.length (ints dr)) (h4 : ∀ p ∈ X, ∀ o ∈ p.ops, o.op.cases.length ≤ 4) (h32 : ∀ p ∈ X, p.ops.length ≤ 32) (h8 : X.length ≤ 8) (hpl : pl.length ≤ 200) (hdl : dr.length ≤ 64) (H : SL w (A :: F)) : Calls Tryz.prog 47 #[.agg #[.int .i64 t, .int .i64 m, .slice pa X.length pc, .slice la pl.length lc, .slice da dr.length dc]] w fun o w' => ∃ (Z : List ProgX) (va : Option Addr) (vc : Nat) (la' : Option Addr) (lc' : Nat) (da' : Option Addr) (dc' : Nat), progsM Z = progsM X ∧ Z.length = X.length ∧ (∀ p ∈ Z, GoodP p) ∧ (0 < X.length → ∃ b, va = some ⟨b, 0, none⟩) ∧ o = .returned (.agg #[.int .i64 t, .int .i64 m, .slice va X.length vc, .slice la' pl.length lc', .slice da' dr.length dc']) ∧ SL w' (scrP va vc Z :: A :: F) := by
 refine calls_den (args := [_]) Tryz.func47 rfl (Nat.le_of_ble_eq_true (by kernel_rfl)) (by kernel_rfl) ?_
 refine ⟨?_⟩
 refine Nw.as #[.int .i64 t, .int .i64 m, .slice pa X.length pc, .slice la pl.length lc, .slice da dr.length dc] 42 rfl H fun b1 w H => ?_
 refine Nw.as #[.int .i64 0, .int .i64 0, .slice none 0 0, .slice none 0 0, .slice none 0 0] 42 rfl H fun b2 w H => ?_
 refine ⟨?_⟩
 refine H.ldi 1 rfl (v := .slice pa X.length pc) rfl ?_
 have h1 := H.pick [2, 0, 1] 3 (by decide)
 simp only [pk, nth, pkA, pkB, pkC, pkD, pkE, pkF] at h1
 refine Cl.by (by kernel_rfl) (each_progs hX h4 h32 h8 h1) ?_
 rintro _ w ⟨Z, va, vc, hZ, hzl, hgood, rfl, hva, H⟩
 refine ⟨_, rfl, ?_⟩
 replace H := H.pick [0, 2, 3, 1] 4 (by decide)
 simp only [pk, nth, pkA, pkB, pkC, pkD, pkE, pkF] at H
 refine H.st2 (cs' := #[.int .i64 t, .int .i64 m, .slice va X.length vc, .slice la pl.length lc, .slice da dr.length dc]) rfl rfl rfl fun w H => ?_
 refine ⟨?_⟩
 refine Drw.oft (.calm 0 (.calm 1 (.calm 3 (.calm 4 (.act 2 false (.pure 6 (.act 5 true (.act 7 true (.pure 8 (.act 9 true .nil)))))))))) (by kernel_rfl) mixed (fun w => SL w _) H.drew ?_
 replace H := H.drew
 refine LdC.i 2 rfl (v := .slice la pl.length lc) rfl ?_
 refine LdC.i 2 rfl (v := .slice da dr.length dc) rfl ?_
 have h1 := H.pick [3, 0, 1, 2] 4 (by decide)
 simp only [pk, nth, pkA, pkB, pkC, pkD, pkE, pkF] at h1
 refine Cl.by (by kernel_rfl) (clone_int hL (ints_all _) (by omega) h1) ?_
 rintro _ w ⟨ka1, kc1, rfl, H⟩
 refine ⟨_, rfl, ?_⟩
 replace H := H.pick [0, 2, 3, 4, 1] 5 (by decide)
 simp only [pk, nth, pkA, pkB, pkC, pkD, pkE, pkF] at H
 refine ⟨.inr (H.pick [1, 2, 3, 4] 5 (by decide)), ?_⟩
 have h1 := H.pick [4, 0, 1, 2, 3] 5 (by decide)
 simp only [pk, nth, pkA, pkB, pkC, pkD, pkE, pkF] at h1
 refine Cl.by (by kernel_rfl) (clone_int hD (ints_all _) (by omega) h1) ?_
 rintro _ w ⟨ka2, kc2, rfl, H⟩
 refine ⟨_, rfl, ?_⟩
 replace H := H.pick [0, 2, 3, 4, 5, 1] 6 (by decide)
 simp only [pk, nth, pkA, pkB, pkC, pkD, pkE, pkF] at H
 refine ⟨.inl rfl, ?_⟩
 refine H.st4 (cs' := #[.int .i64 t, .int .i64 m, .slice va X.length vc, .slice ka1 pl.length kc1, .slice da dr.length dc]) rfl rfl rfl fun w H => ?_
 refine ⟨.inl rfl, ?_⟩
 refine H.st4 (cs' := #[.int .i64 t, .int .i64 m, .slice va X.length vc, .slice ka1 pl.length kc1, .slice ka2 dr.length kc2]) rfl rfl rfl fun w H => ?_
 refine ⟨.inl rfl, ?_⟩
 refine ⟨?_⟩
 refine H.ldi 4 rfl (v := .int .i64 t) rfl ?_
 refine H.ldi 4 rfl (v := .int .i64 m) rfl ?_
 refine H.ldi 4 rfl (v := .slice va X.length vc) rfl ?_
 refine H.ldi 4 rfl (v := .slice ka1 pl.length kc1) rfl ?_
 refine H.ldi 4 rfl (v := .slice ka2 dr.length kc2) rfl ?_
 refine H.st3 (cs' := #[.int .i64 t, .int .i64 0, .slice none 0 0, .slice none 0 0, .slice none 0 0]) rfl rfl rfl fun w H => ?_
 refine H.st3 (cs' := #[.int .i64 t, .int .i64 m, .slice none 0 0, .slice none 0 0, .slice none 0 0]) rfl rfl rfl fun w H => ?_
 refine H.st3 (cs' := #[.int .i64 t, .int .i64 m, .slice va X.length vc, .slice none 0 0, .slice none 0 0]) rfl rfl rfl fun w H => ?_
 refine H.st3 (cs' := #[.int .i64 t, .int .i64 m, .slice va X.length vc, .slice ka1 pl.length kc1, .slice none 0 0]) rfl rfl rfl fun w H => ?_
 refine H.st3 (cs' := #[.int .i64 t, .int .i64 m, .slice va X.length vc, .slice ka1 pl.length kc1, .slice ka2 dr.length kc2]) rfl rfl rfl fun w H => ?_
 refine retC (fn := Tryz.f47) H 3 rfl rfl (by rfl) (by kernel_rfl) (by kernel_rfl) ?_
 exact ⟨Z, va, vc, ka1, kc1, ka2, kc2, hZ, hzl, hgood, hva, rfl, H.pick [2, 5] 6 (by decide)⟩
end Go.Proofs.YtchkaaeoffmjnaaGreatDoor
namespace Go.Proofs.YtchkaaeoffmjnaaGreatDoor
set_option linter.unusedVariables false
set_option linter.unusedSimpArgs false
open Go.RowKit
set_option maxRecDepth 100000
theorem p_trace {w : World} {F : List Piece} {np k lb : Nat} {sc : ScrM} {x : LmM} {t m : Int} {vp vl vd : Value} {n0 n1 n2 n3 n4 n5 n6 n7 : Int} (hn : x.name = [n0, n1, n2, n3, n4, n5, n6, n7]) (hk : Lk np k x) (hkb : k ≤ 990000) (H : SL w (LmP lb sc ⟨t, m, vp, vl, vd⟩ x :: F)) : Calls Tryz.prog 29 #[.pointer (some ⟨lb, 0, none⟩)] w fun o w' => ∃ ka kc, o = .returned (.slice ka x.tr.length kc) ∧ SL w' (Slc 53 8 (.slice ka x.tr.length kc) x.tr.length (x.tr.flatMap Ev.cells) :: LmP lb sc ⟨t, m, vp, vl, vd⟩ x :: F) := by
 have hob := lm_open (x := x) hn H
 obtain ⟨cb1, crb1, pn1, pc1, ala1, alc1, ta1, tc1, ps1, hl1, H⟩ := hob
 refine calls_den (args := [_]) Tryz.func29 rfl (Nat.le_of_ble_eq_true (by kernel_rfl)) (by kernel_rfl) ?_
 refine ⟨?_⟩
 refine ⟨?_⟩
 refine BB.no rfl ?_
 refine Cn.no ?_
 refine ⟨?_⟩
 refine H.ldi 0 rfl (v := .slice ta1 x.tr.length tc1) rfl ?_
 have h1 := H.pick [6, 0, 1, 2, 3, 4, 5] 7 (by decide)
 simp only [pk, nth, pkA, pkB, pkC, pkD, pkE, pkF] at h1
 refine Cl.by (by kernel_rfl) (clone_ev Reader.slc (evs_one _) (Nat.lt_of_le_of_lt hk.tr (by omega)) h1) ?_
 rintro _ w ⟨ka, kc, rfl, H⟩
 refine ⟨_, rfl, ?_⟩
 replace H := H.pick [0, 2, 3, 4, 5, 6, 7, 1] 8 (by decide)
 simp only [pk, nth, pkA, pkB, pkC, pkD, pkE, pkF] at H
 refine ret1 (fn := Tryz.f29) (.slice ka x.tr.length kc) rfl (by rfl) ?_
 have H0 := H.pick [1, 2, 3, 4, 5, 6, 7, 0] 8 (by decide)
 simp only [pk, nth, pkA, pkB, pkC, pkD, pkE, pkF] at H0
 replace H := lm_shut (x := x) hl1 (by first | rfl | simp [turnL, noteL, backN_len]) hn H0
 exact ⟨ka, kc, rfl, H.pick [1, 0] 2 (by decide)⟩
theorem p_lenL {w : World} {F : List Piece} {np k lb : Nat} {sc : ScrM} {x : LmM} {t m : Int} {vp vl vd : Value} {n0 n1 n2 n3 n4 n5 n6 n7 : Int} (hn : x.name = [n0, n1, n2, n3, n4, n5, n6, n7]) (hk : Lk np k x) (H : SL w (LmP lb sc ⟨t, m, vp, vl, vd⟩ x :: F)) : Calls Tryz.prog 30 #[.pointer (some ⟨lb, 0, none⟩)] w fun o w' => o = .returned (.int .i64 x.crew.length) ∧ SL w' (LmP lb sc ⟨t, m, vp, vl, vd⟩ x :: F) := by
 have hob := lm_open (x := x) hn H
 obtain ⟨cb1, crb1, pn1, pc1, ala1, alc1, ta1, tc1, ps1, hl1, H⟩ := hob
 refine calls_den (args := [_]) Tryz.func30 rfl (Nat.le_of_ble_eq_true (by kernel_rfl)) (by kernel_rfl) ?_
 refine ⟨?_⟩
 refine ⟨?_⟩
 refine BB.no rfl ?_
 refine Cn.no ?_
 refine ⟨?_⟩
 refine H.ldi 0 rfl (v := .pointer (some ⟨crb1, 0, none⟩)) rfl ?_
 have h1 := H.pick [2, 0, 1, 3, 4, 5, 6] 7 (by decide)
 simp only [pk, nth, pkA, pkB, pkC, pkD, pkE, pkF] at h1
 refine Cl.sl (by kernel_rfl) (p_len h1) fun w H => ?_
 replace H := H.pick [1, 2, 0, 3, 4, 5, 6] 7 (by decide)
 simp only [pk, nth, pkA, pkB, pkC, pkD, pkE, pkF] at H
 refine ret1 (fn := Tryz.f30) (.int .i64 ↑x.crew.length) rfl (by rfl) ?_
 have H0 := H
 replace H := lm_shut (x := x) hl1 (by first | rfl | simp [turnL, noteL, backN_len]) hn H0
 exact ⟨rfl, H⟩
theorem bad_mk {w : World} {F : List Piece} (lo : Int) (H : SL w F) : Calls Tryz.prog 93 #[.int .i64 lo] w fun o w' => ∃ bl, o = .returned (.func (.func 94) #[] #[.pointer (some ⟨bl, 0, none⟩)]) ∧ SL w' (row bl #[.int .i64 lo] 3 :: F) := by
 refine calls_den (args := [_]) Tryz.func93 rfl (Nat.le_of_ble_eq_true (by kernel_rfl)) (by kernel_rfl) ?_
 refine ⟨?_⟩
 refine Nw.as #[.int .i64 lo] 3 rfl H fun b1 w H => ?_
 refine ⟨?_⟩
 refine Mn.pure (.func (.func 94) #[] #[.pointer (some ⟨b1, 0, none⟩)]) (by kernel_rfl) ?_
 refine ret1 (fn := Tryz.f93) (.func (.func 94) #[] #[.pointer (some ⟨b1, 0, none⟩)]) rfl (by rfl) ?_
 exact ⟨b1, rfl, H⟩
theorem bad_no {P : Program} {f : FuncId} {args : Array Value} {w : World} {L : List Piece} {b : Bool} (h : Calls P f args w fun o w' => o = .returned (.bool b) ∧ SL w' L) (hb : b = false) : Calls P f args w fun o w' => o = .returned (.bool false) ∧ SL w' L := by rw [hb] at h; exact h
theorem p_pick {w : World} {F : List Piece} {A : Piece} {la da : Option Addr} {lc dc : Nat} {pl dr : List Int} (hL : Reader A 1 la pl.length (ints pl)) (hD : Reader A 1 da dr.length (ints dr)) (hbp : pl.any (fun z => decide (z < (-1)) || decide (z > 1000)) = false) (hbd : dr.any (fun z => decide (z < 0) || decide (z > 1000)) = false) (hpl : pl.length ≤ 200) (hdl : dr.length ≤ 64) (H : SL w (A :: F)) :
  Calls Tryz.prog 46 #[.slice la pl.length lc, .slice da dr.length dc] w fun o w' => ∃ cb, o = .returned (.tuple #[.pointer (some ⟨cb, 0, none⟩), .int .i64 0]) ∧ SL w' (CurP cb pl dr :: A :: F) := by
 refine calls_den (args := [_, _]) Tryz.func46 rfl (Nat.le_of_ble_eq_true (by kernel_rfl)) (by kernel_rfl) ?_
 refine ⟨?_⟩
 refine ⟨?_⟩
 refine BB.no (decide_eq_false (by omega)) ?_
 refine BB.no (decide_eq_false (by omega)) ?_
 refine Cn.no ?_
 refine ⟨?_⟩
 refine ⟨?_⟩
 refine Cl.by (by kernel_rfl) (bad_mk (-1) H) ?_
 rintro _ w ⟨bl1, rfl, H⟩
 refine ⟨_, rfl, ?_⟩
 have h1 := H
 refine Cl.sl (by kernel_rfl) (bad_no (bad_has hL (by omega) h1) hbp) fun w H => ?_
 refine BB.no rfl ?_
 refine Cl.by (by kernel_rfl) (bad_mk 0 H) ?_
 rintro _ w ⟨bl2, rfl, H⟩
 refine ⟨_, rfl, ?_⟩
 have h1 := H.pick [0, 2, 1] 3 (by decide)
 simp only [pk, nth, pkA, pkB, pkC, pkD, pkE, pkF] at h1
 refine Cl.sl (by kernel_rfl) (bad_no (bad_has hD (by omega) h1) hbd) fun w H => ?_
 replace H := H.pick [0, 2, 1] 3 (by decide)
 simp only [pk, nth, pkA, pkB, pkC, pkD, pkE, pkF] at H
 refine BB.no rfl ?_
 refine Cn.no ?_
 refine ⟨?_⟩
 have h1 := H.pick [2, 0, 1] 3 (by decide)
 simp only [pk, nth, pkA, pkB, pkC, pkD, pkE, pkF] at h1
 refine Cl.by (by kernel_rfl) (clone_int hL (ints_all _) (by omega) h1) ?_
 rintro _ w ⟨ka1, kc1, rfl, H⟩
 refine ⟨_, rfl, ?_⟩
 replace H := H.pick [0, 2, 3, 1] 4 (by decide)
 simp only [pk, nth, pkA, pkB, pkC, pkD, pkE, pkF] at H
 refine Mn.pure (.agg #[.slice ka1 pl.length kc1]) (by kernel_rfl) ?_
 have h1 := H.pick [3, 0, 1, 2] 4 (by decide)
 simp only [pk, nth, pkA, pkB, pkC, pkD, pkE, pkF] at h1
 refine Cl.by (by kernel_rfl) (clone_int hD (ints_all _) (by omega) h1) ?_
 rintro _ w ⟨ka2, kc2, rfl, H⟩
 refine ⟨_, rfl, ?_⟩
 replace H := H.pick [0, 2, 3, 4, 1] 5 (by decide)
 simp only [pk, nth, pkA, pkB, pkC, pkD, pkE, pkF] at H
 refine Mn.pure (.agg #[.slice ka2 dr.length kc2]) (by kernel_rfl) ?_
 refine Mn.pure (.agg #[.slice ka1 pl.length kc1, .slice ka2 dr.length kc2]) (by kernel_rfl) ?_
 refine Nw.as #[.slice ka1 pl.length kc1, .slice ka2 dr.length kc2] 160 rfl H fun b32 w H => ?_
 refine ret2 (fn := Tryz.f46) (.pointer (some ⟨b32, 0, none⟩)) (.int .i64 0) rfl (by rfl) (by rfl) ?_
 replace H := H.pick [0, 2, 1, 5] 6 (by decide)
 simp only [pk, nth, pkA, pkB, pkC, pkD, pkE, pkF] at H
 exact ⟨b32, rfl, CurP.iff.2 ⟨_, _, (SL.slcQu (SL.slcQu H.up1).up2).pick [2, 1, 0] 3 (by decide)⟩⟩
end Go.Proofs.YtchkaaeoffmjnaaGreatDoor
namespace Go.Proofs.YtchkaaeoffmjnaaGreatDoor
set_option linter.unusedVariables false
set_option linter.unusedSimpArgs false
open Go.RowKit
set_option maxRecDepth 100000
def nm8 (j i : Nat) : Int := if i < j then -1 else 0
end Go.Proofs.YtchkaaeoffmjnaaGreatDoor
namespace Go.Proofs.YtchkaaeoffmjnaaGreatDoor
set_option linter.unusedVariables false
set_option linter.unusedSimpArgs false
open Go.RowKit
set_option maxRecDepth 100000
theorem right_parts {t m : Int} {X : List ProgX} {pl dr : List Int} (hck : checkE ⟨t, m, progsM X, pl, dr⟩ = 0) : pl.length ≤ 200 ∧ dr.length ≤ 64 ∧ X.length ≤ 8 ∧ (∀ p ∈ X, p.ops.length ≤ 32) ∧ (∀ p ∈ X, ∀ o ∈ p.ops, o.op.cases.length ≤ 4) ∧ pl.any (fun z => decide (z < (-1)) || decide (z > 1000)) = false ∧ dr.any (fun z => decide (z < 0) || decide (z > 1000)) = false := by
 have hr := checkE_right hck
 have h8 : X.length ≤ 8 := by
  unfold checkE at hck
  split at hck
  ·cases hck
  ·split at hck
   ·cases hck
   ·rename_i h
    simp [progsM] at h
    omega
 refine ⟨hr.pl, hr.dl, h8, fun p hp => ?_, fun p hp o ho => ?_, ?_, ?_⟩
 ·have := hr.ol (p.ops.map (·.op)) (List.mem_map.2 ⟨p, hp, rfl⟩)
  simpa using this
 ·exact (hr.ok (p.ops.map (·.op)) (List.mem_map.2 ⟨p, hp, rfl⟩) o.op (List.mem_map.2 ⟨o, ho, rfl⟩)).cl
 ·rw [List.any_eq_false]
  intro z hz
  have h0 := hr.p0 z hz
  have h1 := hr.p1 z hz
  simp
  omega
 ·rw [List.any_eq_false]
  intro z hz
  have h0 := checkE_drawsB hck z hz
  simp
  omega
theorem p_copyZ {w : World} {F : List Piece} {A : Piece} {pa la da : Option Addr} {pc lc dc : Nat} {t m : Int} {X : List ProgX} {pl dr : List Int} (hX : 0 < X.length → ∃ b off, pa = some ⟨b, off, none⟩ ∧ ScrA A b off X) (hL : Reader A 1 la pl.length (ints pl)) (hD : Reader A 1 da dr.length (ints dr)) (h4 : ∀ p ∈ X, ∀ o ∈ p.ops, o.op.cases.length ≤ 4) (h32 : ∀ p ∈ X, p.ops.length ≤ 32) (h8 : X.length ≤ 8) (hpl : pl.length ≤ 200) (hdl : dr.length ≤ 64) (H : SL w (A :: F)) : Calls Tryz.prog 47 #[.agg #[.int .i64 t, .int .i64 m, .slice pa X.length pc, .slice la pl.length lc, .slice da dr.length dc]] w fun o w' => ∃ (Z : List ProgX) (va : Option Addr) (vc : Nat) (la' : Option Addr) (lc' : Nat) (da' : Option Addr) (dc' : Nat), progsM Z = progsM X ∧ Z.length = X.length ∧ (∀ p ∈ Z, GoodP p) ∧ (0 < X.length → ∃ b, va = some ⟨b, 0, none⟩) ∧ o = .returned (.agg #[.int .i64 t, .int .i64 m, .slice va Z.length vc, .slice la' pl.length lc', .slice da' dr.length dc']) ∧ SL w' (scrP va vc Z :: A :: F) := by
 refine (p_copy hX hL hD h4 h32 h8 hpl hdl H).mono ?_
 rintro o w' ⟨Z, va, vc, la', lc', da', dc', hZ, hzl, hg, hva, rfl, H⟩
 exact ⟨Z, va, vc, la', lc', da', dc', hZ, hzl, hg, hva, by rw [hzl], H⟩
theorem nm_set9 (a0 a1 a2 a3 a4 a5 a6 a7 av tv pv : Value) (j : Nat) (hj : j < 8) :
  #[a0, a1, a2, a3, a4, a5, a6, a7, .int .i64 (nm8 j 0), .int .i64 (nm8 j 1), .int .i64 (nm8 j 2), .int .i64 (nm8 j 3), .int .i64 (nm8 j 4), .int .i64 (nm8 j 5), .int .i64 (nm8 j 6), .int .i64 (nm8 j 7), av, tv, pv].setIfInBounds (8 + j * 1) (.int .i64 (-1)) =
   #[a0, a1, a2, a3, a4, a5, a6, a7, .int .i64 (nm8 (j + 1) 0), .int .i64 (nm8 (j + 1) 1), .int .i64 (nm8 (j + 1) 2), .int .i64 (nm8 (j + 1) 3), .int .i64 (nm8 (j + 1) 4), .int .i64 (nm8 (j + 1) 5), .int .i64 (nm8 (j + 1) 6), .int .i64 (nm8 (j + 1) 7), av, tv, pv] := by
 match j, hj with
 | 0, _ | 1, _ | 2, _ | 3, _ | 4, _ | 5, _ | 6, _ | 7, _ => rfl
theorem lm_new {w : World} {F : List Piece} {lb cb crb pn : Nat} {sc : ScrM} {t m : Int} {vp vl vd : Value} (H : SL w (row lb #[.int .i64 t, .int .i64 m, vp, vl, vd, .pointer (some ⟨cb, 0, none⟩), .pointer (some ⟨crb, 0, none⟩), .slice (some ⟨pn, 0, none⟩) 8 8, .int .i64 (nm8 8 0), .int .i64 (nm8 8 1), .int .i64 (nm8 8 2), .int .i64 (nm8 8 3), .int .i64 (nm8 8 4), .int .i64 (nm8 8 5), .int .i64 (nm8 8 6), .int .i64 (nm8 8 7), .slice none 0 0, .slice none 0 0, .bool false] 97 ::
   CurP cb sc.plan sc.draws :: CrewP crb [⟨0, 0, 0⟩] :: row pn #[.pointer none, .pointer none, .pointer none, .pointer none, .pointer none, .pointer none, .pointer none, .pointer none] 176 :: F)) : SL w (LmP lb sc ⟨t, m, vp, vl, vd⟩ newL :: F) :=
 LmP.iff.2 ⟨cb, crb, .slice (some ⟨pn, 0, none⟩) 8 8, .slice none 0 0, .slice none 0 0, [], ⟨rfl, rfl⟩,
  (SL.slcNil 176 1 (SL.all.2 (SL.slcNil 53 8 (SL.rowSlc (te := 176) (sz := 1) (n := 8) (b := pn) (xs := [.pointer none, .pointer none, .pointer none, .pointer none, .pointer none, .pointer none, .pointer none, .pointer none]) rfl (by decide) H.up3)) : SL w (PsP [] [] :: _))).pick [4, 5, 6, 3, 0, 1, 2] 7 (by decide)⟩
set_option maxHeartbeats 4000000 in
theorem p_new_ok {w : World} {F : List Piece} {A : Piece} {pa la da : Option Addr} {pc lc dc : Nat} {t m : Int} {X : List ProgX} {pl dr : List Int} (hX : 0 < X.length → ∃ b off, pa = some ⟨b, off, none⟩ ∧ ScrA A b off X) (hL : Reader A 1 la pl.length (ints pl)) (hD : Reader A 1 da dr.length (ints dr)) (hck : checkE ⟨t, m, progsM X, pl, dr⟩ = 0) (H : SL w (A :: F)) : Calls Tryz.prog 21 #[.agg #[.int .i64 t, .int .i64 m, .slice pa X.length pc, .slice la pl.length lc, .slice da dr.length dc]] w fun o w' => ∃ (lb : Nat) (Z : List ProgX) (vb vc : Nat) (la' : Option Addr) (lc' : Nat) (da' : Option Addr) (dc' : Nat), progsM Z = progsM X ∧ Z.length = X.length ∧ (∀ p ∈ Z, GoodP p) ∧ o = .returned (.tuple #[.pointer (some ⟨lb, 0, none⟩), .int .i64 0]) ∧ SL w' (LmP lb ⟨t, m, progsM X, pl, dr⟩ ⟨t, m, .slice (some ⟨vb, 0, none⟩) Z.length vc, .slice la' pl.length lc', .slice da' dr.length dc'⟩ newL :: scrP (some ⟨vb, 0, none⟩) vc Z :: A :: F) := by
 have hr := checkE_right hck
 have hn1 : 1 ≤ X.length := by have := hr.n1; simpa [progsM] using this
 obtain ⟨hpl, hdl, h8, h32, h4, hbp, hbd⟩ := right_parts hck
 refine calls_den (args := [_]) Tryz.func21 rfl (Nat.le_of_ble_eq_true (by kernel_rfl)) (by kernel_rfl) ?_
 refine ⟨?_⟩
 refine Nw.as #[.int .i64 t, .int .i64 m, .slice pa X.length pc, .slice la pl.length lc, .slice da dr.length dc] 42 rfl H fun b1 w H => ?_
 refine ⟨?_⟩
 refine H.ldi 0 rfl (v := .int .i64 t) rfl ?_
 refine H.ldi 0 rfl (v := .int .i64 m) rfl ?_
 refine H.ldi 0 rfl (v := .slice pa X.length pc) rfl ?_
 refine H.ldi 0 rfl (v := .slice la pl.length lc) rfl ?_
 refine H.ldi 0 rfl (v := .slice da dr.length dc) rfl ?_
 have h1 := H.pick [1, 0] 2 (by decide)
 simp only [pk, nth, pkA, pkB, pkC, pkD, pkE, pkF] at h1
 refine Cl.sl (by kernel_rfl) (p_check hX hL hD h1) fun w H => ?_
 replace H := H.pick [1, 0] 2 (by decide)
 simp only [pk, nth, pkA, pkB, pkC, pkD, pkE, pkF] at H
 rw [hck]
 refine ⟨?_⟩
 refine BB.no rfl ?_
 refine Cn.no ?_
 refine ⟨?_⟩
 refine H.ldi 0 rfl (v := .slice la pl.length lc) rfl ?_
 refine H.ldi 0 rfl (v := .slice da dr.length dc) rfl ?_
 have h1 := H.pick [1, 0] 2 (by decide)
 simp only [pk, nth, pkA, pkB, pkC, pkD, pkE, pkF] at h1
 refine Cl.by (by kernel_rfl) (p_pick hL hD hbp hbd hpl hdl h1) ?_
 rintro _ w ⟨cb, rfl, H⟩
 refine ⟨_, rfl, ?_⟩
 replace H := H.pick [0, 2, 1] 3 (by decide)
 simp only [pk, nth, pkA, pkB, pkC, pkD, pkE, pkF] at H
 refine ⟨?_⟩
 refine Drw.oft (.calm 0 (.calm 2 (.two 1 false (.two 3 false (.act 4 false (.act 5 true (.act 6 true (.pure 7 .nil)))) 4 false (.act 3 false (.act 5 true (.act 6 true (.pure 7 .nil))))) 4 false (.act 1 false (.act 3 false (.act 5 true (.act 6 true (.pure 7 .nil)))))))) (by kernel_rfl) mixed (fun w => SL w _) H.drew ?_
 replace H := H.drew
 refine LdC.i 1 rfl (v := .int .i64 t) rfl ?_
 refine LdC.i 1 rfl (v := .int .i64 m) rfl ?_
 refine LdC.i 1 rfl (v := .slice pa X.length pc) rfl ?_
 refine LdC.i 1 rfl (v := .slice la pl.length lc) rfl ?_
 refine LdC.i 1 rfl (v := .slice da dr.length dc) rfl ?_
 refine ⟨?_, ?_⟩
 ·skip
  have h1 := H.pick [2, 0, 1] 3 (by decide)
  simp only [pk, nth, pkA, pkB, pkC, pkD, pkE, pkF] at h1
  refine Cl.by (by kernel_rfl) (p_copyZ hX hL hD h4 h32 h8 hpl hdl h1) ?_
  rintro _ w ⟨Z, va, vc, la', lc', da', dc', hZ, hzl, hgood, hva, rfl, H⟩
  refine ⟨_, rfl, ?_⟩
  have hob := hva (by omega)
  obtain ⟨vb, rfl⟩ := hob
  replace H := H.pick [0, 2, 3, 1] 4 (by decide)
  simp only [pk, nth, pkA, pkB, pkC, pkD, pkE, pkF] at H
  refine ⟨.inr (H.pick [1, 2, 3] 4 (by decide)), ?_⟩
  refine ⟨?_, ?_⟩
  ·skip
   refine Cl.by (by kernel_rfl) (p_new H) ?_
   rintro _ w ⟨crb, rfl, H⟩
   refine ⟨_, rfl, ?_⟩
   refine ⟨.inr (H.pick [2, 3, 4] 5 (by decide)), ?_⟩
   refine Mn.new (fun b => .slice (some ⟨b, 0, none⟩) 8 8) #[.pointer none, .pointer none, .pointer none, .pointer none, .pointer none, .pointer none, .pointer none, .pointer none] 176 (by kernel_rfl) H fun pn w H => ?_
   refine ⟨.inr (H.pick [3, 4, 5] 6 (by decide)), ?_⟩
   refine Mn.pure (.agg #[.int .i64 t, .int .i64 m, .slice (some ⟨vb, 0, none⟩) Z.length vc, .slice la' pl.length lc', .slice da' dr.length dc', .pointer (some ⟨cb, 0, none⟩), .pointer (some ⟨crb, 0, none⟩), .slice (some ⟨pn, 0, none⟩) 8 8, .int .i64 0, .int .i64 0, .int .i64 0, .int .i64 0, .int .i64 0, .int .i64 0, .int .i64 0, .int .i64 0, .slice none 0 0, .slice none 0 0, .bool false]) (by kernel_rfl) ?_
   refine ⟨.inl rfl, ?_⟩
   refine Nw.as #[.int .i64 t, .int .i64 m, .slice (some ⟨vb, 0, none⟩) Z.length vc, .slice la' pl.length lc', .slice da' dr.length dc', .pointer (some ⟨cb, 0, none⟩), .pointer (some ⟨crb, 0, none⟩), .slice (some ⟨pn, 0, none⟩) 8 8, .int .i64 0, .int .i64 0, .int .i64 0, .int .i64 0, .int .i64 0, .int .i64 0, .int .i64 0, .int .i64 0, .slice none 0 0, .slice none 0 0, .bool false] 97 rfl H fun b28 w H => ?_
   refine ⟨.inl rfl, ?_⟩
   refine ⟨?_⟩
   refine ⟨?_⟩
   refine den.loop (ι := Nat) [(8, 8), (29, 37)] (by kernel_rfl) (fun j => [(29, .int .i64 ↑j)]) (fun j w => j ≤ 8 ∧ SL w (row b28 #[.int .i64 t, .int .i64 m, .slice (some ⟨vb, 0, none⟩) Z.length vc, .slice la' pl.length lc', .slice da' dr.length dc', .pointer (some ⟨cb, 0, none⟩), .pointer (some ⟨crb, 0, none⟩), .slice (some ⟨pn, 0, none⟩) 8 8, .int .i64 (nm8 j 0), .int .i64 (nm8 j 1), .int .i64 (nm8 j 2), .int .i64 (nm8 j 3), .int .i64 (nm8 j 4), .int .i64 (nm8 j 5), .int .i64 (nm8 j 6), .int .i64 (nm8 j 7), .slice none 0 0, .slice none 0 0, .bool false] 97 :: CurP cb pl dr :: CrewP crb [] :: row pn #[.pointer none, .pointer none, .pointer none, .pointer none, .pointer none, .pointer none, .pointer none, .pointer none] 176 :: scrP (some ⟨vb, 0, none⟩) vc Z :: A :: F)) (fun j => 8 - j) 0 ⟨rfl, trivial⟩ ⟨Nat.zero_le _, (H.pick [0, 4, 2, 1, 3, 6] 7 (by decide))⟩ ?_
   rintro j s w ⟨hc, H⟩
   have h8' : j < 8 ∨ j = 8 := by omega
   rcases h8' with hj | rfl
   ·skip
    refine ⟨?_⟩
    refine BB.yes (decide_eq_true (by omega)) ?_
    refine Cn.yes ?_
    refine ⟨?_⟩
    refine ⟨?_⟩
    refine ⟨?_⟩
    refine Ix.at j 1 (by kernel_rfl) rfl hj ?_
    refine H.st0 (cs' := #[.int .i64 t, .int .i64 m, .slice (some ⟨vb, 0, none⟩) Z.length vc, .slice la' pl.length lc', .slice da' dr.length dc', .pointer (some ⟨cb, 0, none⟩), .pointer (some ⟨crb, 0, none⟩), .slice (some ⟨pn, 0, none⟩) 8 8, .int .i64 (nm8 (j + 1) 0), .int .i64 (nm8 (j + 1) 1), .int .i64 (nm8 (j + 1) 2), .int .i64 (nm8 (j + 1) 3), .int .i64 (nm8 (j + 1) 4), .int .i64 (nm8 (j + 1) 5), .int .i64 (nm8 (j + 1) 6), .int .i64 (nm8 (j + 1) 7), .slice none 0 0, .slice none 0 0, .bool false]) (nm_set9 _ _ _ _ _ _ _ _ _ _ _ j hj) (by simp [Nat.blt_eq]; omega) rfl fun w H => ?_
    refine ⟨?_⟩
    refine IW.by (wrap_id (n := ↑j + 1) (by omega) (by omega)) ?_
    exact ⟨j + 1, ⟨rfl, trivial⟩, ⟨(show j + 1 ≤ 8 by omega), H⟩, (show 8 - (j + 1) < 8 - j by omega)⟩
   ·skip
    refine ⟨?_⟩
    refine BB.no rfl ?_
    refine Cn.no ?_
    refine ⟨?_⟩
    refine H.ldi 0 rfl (v := .pointer (some ⟨crb, 0, none⟩)) rfl ?_
    have h1 := H.pick [2, 0, 1, 3, 4, 5] 6 (by decide)
    simp only [pk, nth, pkA, pkB, pkC, pkD, pkE, pkF] at h1
    refine Cl.sl (by kernel_rfl) (p_spawn (L := []) (Nat.zero_le _) 0 h1) fun w H => ?_
    replace H := H.pick [1, 2, 0, 3, 4, 5] 6 (by decide)
    simp only [pk, nth, pkA, pkB, pkC, pkD, pkE, pkF] at H
    refine ⟨?_⟩
    refine ret2 (fn := Tryz.f21) (.pointer (some ⟨b28, 0, none⟩)) (.int .i64 0) rfl (by rfl) (by rfl) ?_
    exact ⟨b28, Z, vb, vc, la', lc', da', dc', hZ, hzl, hgood, rfl, lm_new (sc := ⟨t, m, progsM X, pl, dr⟩) H⟩
  ·skip
   refine Mn.new (fun b => .slice (some ⟨b, 0, none⟩) 8 8) #[.pointer none, .pointer none, .pointer none, .pointer none, .pointer none, .pointer none, .pointer none, .pointer none] 176 (by kernel_rfl) H fun pn w H => ?_
   refine ⟨.inr (H.pick [2, 3, 4] 5 (by decide)), ?_⟩
   refine Cl.by (by kernel_rfl) (p_new H) ?_
   rintro _ w ⟨crb, rfl, H⟩
   refine ⟨_, rfl, ?_⟩
   refine ⟨.inr (H.pick [3, 4, 5] 6 (by decide)), ?_⟩
   refine Mn.pure (.agg #[.int .i64 t, .int .i64 m, .slice (some ⟨vb, 0, none⟩) Z.length vc, .slice la' pl.length lc', .slice da' dr.length dc', .pointer (some ⟨cb, 0, none⟩), .pointer (some ⟨crb, 0, none⟩), .slice (some ⟨pn, 0, none⟩) 8 8, .int .i64 0, .int .i64 0, .int .i64 0, .int .i64 0, .int .i64 0, .int .i64 0, .int .i64 0, .int .i64 0, .slice none 0 0, .slice none 0 0, .bool false]) (by kernel_rfl) ?_
   refine ⟨.inl rfl, ?_⟩
   refine Nw.as #[.int .i64 t, .int .i64 m, .slice (some ⟨vb, 0, none⟩) Z.length vc, .slice la' pl.length lc', .slice da' dr.length dc', .pointer (some ⟨cb, 0, none⟩), .pointer (some ⟨crb, 0, none⟩), .slice (some ⟨pn, 0, none⟩) 8 8, .int .i64 0, .int .i64 0, .int .i64 0, .int .i64 0, .int .i64 0, .int .i64 0, .int .i64 0, .int .i64 0, .slice none 0 0, .slice none 0 0, .bool false] 97 rfl H fun b28 w H => ?_
   refine ⟨.inl rfl, ?_⟩
   refine ⟨?_⟩
   refine ⟨?_⟩
   refine den.loop (ι := Nat) [(8, 8), (29, 37)] (by kernel_rfl) (fun j => [(29, .int .i64 ↑j)]) (fun j w => j ≤ 8 ∧ SL w (row b28 #[.int .i64 t, .int .i64 m, .slice (some ⟨vb, 0, none⟩) Z.length vc, .slice la' pl.length lc', .slice da' dr.length dc', .pointer (some ⟨cb, 0, none⟩), .pointer (some ⟨crb, 0, none⟩), .slice (some ⟨pn, 0, none⟩) 8 8, .int .i64 (nm8 j 0), .int .i64 (nm8 j 1), .int .i64 (nm8 j 2), .int .i64 (nm8 j 3), .int .i64 (nm8 j 4), .int .i64 (nm8 j 5), .int .i64 (nm8 j 6), .int .i64 (nm8 j 7), .slice none 0 0, .slice none 0 0, .bool false] 97 :: CurP cb pl dr :: CrewP crb [] :: row pn #[.pointer none, .pointer none, .pointer none, .pointer none, .pointer none, .pointer none, .pointer none, .pointer none] 176 :: scrP (some ⟨vb, 0, none⟩) vc Z :: A :: F)) (fun j => 8 - j) 0 ⟨rfl, trivial⟩ ⟨Nat.zero_le _, (H.pick [0, 4, 1, 2, 3, 6] 7 (by decide))⟩ ?_
   rintro j s w ⟨hc, H⟩
   have h8' : j < 8 ∨ j = 8 := by omega
   rcases h8' with hj | rfl
   ·skip
    refine ⟨?_⟩
    refine BB.yes (decide_eq_true (by omega)) ?_
    refine Cn.yes ?_
    refine ⟨?_⟩
    refine ⟨?_⟩
    refine ⟨?_⟩
    refine Ix.at j 1 (by kernel_rfl) rfl hj ?_
    refine H.st0 (cs' := #[.int .i64 t, .int .i64 m, .slice (some ⟨vb, 0, none⟩) Z.length vc, .slice la' pl.length lc', .slice da' dr.length dc', .pointer (some ⟨cb, 0, none⟩), .pointer (some ⟨crb, 0, none⟩), .slice (some ⟨pn, 0, none⟩) 8 8, .int .i64 (nm8 (j + 1) 0), .int .i64 (nm8 (j + 1) 1), .int .i64 (nm8 (j + 1) 2), .int .i64 (nm8 (j + 1) 3), .int .i64 (nm8 (j + 1) 4), .int .i64 (nm8 (j + 1) 5), .int .i64 (nm8 (j + 1) 6), .int .i64 (nm8 (j + 1) 7), .slice none 0 0, .slice none 0 0, .bool false]) (nm_set9 _ _ _ _ _ _ _ _ _ _ _ j hj) (by simp [Nat.blt_eq]; omega) rfl fun w H => ?_
    refine ⟨?_⟩
    refine IW.by (wrap_id (n := ↑j + 1) (by omega) (by omega)) ?_
    exact ⟨j + 1, ⟨rfl, trivial⟩, ⟨(show j + 1 ≤ 8 by omega), H⟩, (show 8 - (j + 1) < 8 - j by omega)⟩
   ·skip
    refine ⟨?_⟩
    refine BB.no rfl ?_
    refine Cn.no ?_
    refine ⟨?_⟩
    refine H.ldi 0 rfl (v := .pointer (some ⟨crb, 0, none⟩)) rfl ?_
    have h1 := H.pick [2, 0, 1, 3, 4, 5] 6 (by decide)
    simp only [pk, nth, pkA, pkB, pkC, pkD, pkE, pkF] at h1
    refine Cl.sl (by kernel_rfl) (p_spawn (L := []) (Nat.zero_le _) 0 h1) fun w H => ?_
    replace H := H.pick [1, 2, 0, 3, 4, 5] 6 (by decide)
    simp only [pk, nth, pkA, pkB, pkC, pkD, pkE, pkF] at H
    refine ⟨?_⟩
    refine ret2 (fn := Tryz.f21) (.pointer (some ⟨b28, 0, none⟩)) (.int .i64 0) rfl (by rfl) (by rfl) ?_
    exact ⟨b28, Z, vb, vc, la', lc', da', dc', hZ, hzl, hgood, rfl, lm_new (sc := ⟨t, m, progsM X, pl, dr⟩) H⟩
 ·skip
  refine Mn.new (fun b => .slice (some ⟨b, 0, none⟩) 8 8) #[.pointer none, .pointer none, .pointer none, .pointer none, .pointer none, .pointer none, .pointer none, .pointer none] 176 (by kernel_rfl) H fun pn w H => ?_
  refine ⟨.inr (H.pick [1, 2, 3] 4 (by decide)), ?_⟩
  have h1 := H.pick [3, 0, 1, 2] 4 (by decide)
  simp only [pk, nth, pkA, pkB, pkC, pkD, pkE, pkF] at h1
  refine Cl.by (by kernel_rfl) (p_copyZ hX hL hD h4 h32 h8 hpl hdl h1) ?_
  rintro _ w ⟨Z, va, vc, la', lc', da', dc', hZ, hzl, hgood, hva, rfl, H⟩
  refine ⟨_, rfl, ?_⟩
  have hob := hva (by omega)
  obtain ⟨vb, rfl⟩ := hob
  replace H := H.pick [0, 2, 3, 4, 1] 5 (by decide)
  simp only [pk, nth, pkA, pkB, pkC, pkD, pkE, pkF] at H
  refine ⟨.inr (H.pick [2, 3, 4] 5 (by decide)), ?_⟩
  refine Cl.by (by kernel_rfl) (p_new H) ?_
  rintro _ w ⟨crb, rfl, H⟩
  refine ⟨_, rfl, ?_⟩
  refine ⟨.inr (H.pick [3, 4, 5] 6 (by decide)), ?_⟩
  refine Mn.pure (.agg #[.int .i64 t, .int .i64 m, .slice (some ⟨vb, 0, none⟩) Z.length vc, .slice la' pl.length lc', .slice da' dr.length dc', .pointer (some ⟨cb, 0, none⟩), .pointer (some ⟨crb, 0, none⟩), .slice (some ⟨pn, 0, none⟩) 8 8, .int .i64 0, .int .i64 0, .int .i64 0, .int .i64 0, .int .i64 0, .int .i64 0, .int .i64 0, .int .i64 0, .slice none 0 0, .slice none 0 0, .bool false]) (by kernel_rfl) ?_
  refine ⟨.inl rfl, ?_⟩
  refine Nw.as #[.int .i64 t, .int .i64 m, .slice (some ⟨vb, 0, none⟩) Z.length vc, .slice la' pl.length lc', .slice da' dr.length dc', .pointer (some ⟨cb, 0, none⟩), .pointer (some ⟨crb, 0, none⟩), .slice (some ⟨pn, 0, none⟩) 8 8, .int .i64 0, .int .i64 0, .int .i64 0, .int .i64 0, .int .i64 0, .int .i64 0, .int .i64 0, .int .i64 0, .slice none 0 0, .slice none 0 0, .bool false] 97 rfl H fun b28 w H => ?_
  refine ⟨.inl rfl, ?_⟩
  refine ⟨?_⟩
  refine ⟨?_⟩
  refine den.loop (ι := Nat) [(8, 8), (29, 37)] (by kernel_rfl) (fun j => [(29, .int .i64 ↑j)]) (fun j w => j ≤ 8 ∧ SL w (row b28 #[.int .i64 t, .int .i64 m, .slice (some ⟨vb, 0, none⟩) Z.length vc, .slice la' pl.length lc', .slice da' dr.length dc', .pointer (some ⟨cb, 0, none⟩), .pointer (some ⟨crb, 0, none⟩), .slice (some ⟨pn, 0, none⟩) 8 8, .int .i64 (nm8 j 0), .int .i64 (nm8 j 1), .int .i64 (nm8 j 2), .int .i64 (nm8 j 3), .int .i64 (nm8 j 4), .int .i64 (nm8 j 5), .int .i64 (nm8 j 6), .int .i64 (nm8 j 7), .slice none 0 0, .slice none 0 0, .bool false] 97 :: CurP cb pl dr :: CrewP crb [] :: row pn #[.pointer none, .pointer none, .pointer none, .pointer none, .pointer none, .pointer none, .pointer none, .pointer none] 176 :: scrP (some ⟨vb, 0, none⟩) vc Z :: A :: F)) (fun j => 8 - j) 0 ⟨rfl, trivial⟩ ⟨Nat.zero_le _, (H.pick [0, 4, 1, 3, 2, 6] 7 (by decide))⟩ ?_
  rintro j s w ⟨hc, H⟩
  have h8' : j < 8 ∨ j = 8 := by omega
  rcases h8' with hj | rfl
  ·skip
   refine ⟨?_⟩
   refine BB.yes (decide_eq_true (by omega)) ?_
   refine Cn.yes ?_
   refine ⟨?_⟩
   refine ⟨?_⟩
   refine ⟨?_⟩
   refine Ix.at j 1 (by kernel_rfl) rfl hj ?_
   refine H.st0 (cs' := #[.int .i64 t, .int .i64 m, .slice (some ⟨vb, 0, none⟩) Z.length vc, .slice la' pl.length lc', .slice da' dr.length dc', .pointer (some ⟨cb, 0, none⟩), .pointer (some ⟨crb, 0, none⟩), .slice (some ⟨pn, 0, none⟩) 8 8, .int .i64 (nm8 (j + 1) 0), .int .i64 (nm8 (j + 1) 1), .int .i64 (nm8 (j + 1) 2), .int .i64 (nm8 (j + 1) 3), .int .i64 (nm8 (j + 1) 4), .int .i64 (nm8 (j + 1) 5), .int .i64 (nm8 (j + 1) 6), .int .i64 (nm8 (j + 1) 7), .slice none 0 0, .slice none 0 0, .bool false]) (nm_set9 _ _ _ _ _ _ _ _ _ _ _ j hj) (by simp [Nat.blt_eq]; omega) rfl fun w H => ?_
   refine ⟨?_⟩
   refine IW.by (wrap_id (n := ↑j + 1) (by omega) (by omega)) ?_
   exact ⟨j + 1, ⟨rfl, trivial⟩, ⟨(show j + 1 ≤ 8 by omega), H⟩, (show 8 - (j + 1) < 8 - j by omega)⟩
  ·skip
   refine ⟨?_⟩
   refine BB.no rfl ?_
   refine Cn.no ?_
   refine ⟨?_⟩
   refine H.ldi 0 rfl (v := .pointer (some ⟨crb, 0, none⟩)) rfl ?_
   have h1 := H.pick [2, 0, 1, 3, 4, 5] 6 (by decide)
   simp only [pk, nth, pkA, pkB, pkC, pkD, pkE, pkF] at h1
   refine Cl.sl (by kernel_rfl) (p_spawn (L := []) (Nat.zero_le _) 0 h1) fun w H => ?_
   replace H := H.pick [1, 2, 0, 3, 4, 5] 6 (by decide)
   simp only [pk, nth, pkA, pkB, pkC, pkD, pkE, pkF] at H
   refine ⟨?_⟩
   refine ret2 (fn := Tryz.f21) (.pointer (some ⟨b28, 0, none⟩)) (.int .i64 0) rfl (by rfl) (by rfl) ?_
   exact ⟨b28, Z, vb, vc, la', lc', da', dc', hZ, hzl, hgood, rfl, lm_new (sc := ⟨t, m, progsM X, pl, dr⟩) H⟩
theorem p_new_no {w : World} {F : List Piece} {A : Piece} {pa la da : Option Addr} {pc lc dc : Nat} {t m : Int} {X : List ProgX} {pl dr : List Int} (hX : 0 < X.length → ∃ b off, pa = some ⟨b, off, none⟩ ∧ ScrA A b off X) (hL : Reader A 1 la pl.length (ints pl)) (hD : Reader A 1 da dr.length (ints dr)) (hck : checkE ⟨t, m, progsM X, pl, dr⟩ ≠ 0) (H : SL w (A :: F)) : Calls Tryz.prog 21 #[.agg #[.int .i64 t, .int .i64 m, .slice pa X.length pc, .slice la pl.length lc, .slice da dr.length dc]] w fun o w' => o = .returned (.tuple #[.pointer none, .int .i64 (checkE ⟨t, m, progsM X, pl, dr⟩)]) ∧ SL w' (A :: F) := by
 refine calls_den (args := [_]) Tryz.func21 rfl (Nat.le_of_ble_eq_true (by kernel_rfl)) (by kernel_rfl) ?_
 refine ⟨?_⟩
 refine Nw.as #[.int .i64 t, .int .i64 m, .slice pa X.length pc, .slice la pl.length lc, .slice da dr.length dc] 42 rfl H fun b1 w H => ?_
 refine ⟨?_⟩
 refine H.ldi 0 rfl (v := .int .i64 t) rfl ?_
 refine H.ldi 0 rfl (v := .int .i64 m) rfl ?_
 refine H.ldi 0 rfl (v := .slice pa X.length pc) rfl ?_
 refine H.ldi 0 rfl (v := .slice la pl.length lc) rfl ?_
 refine H.ldi 0 rfl (v := .slice da dr.length dc) rfl ?_
 have h1 := H.pick [1, 0] 2 (by decide)
 simp only [pk, nth, pkA, pkB, pkC, pkD, pkE, pkF] at h1
 refine Cl.sl (by kernel_rfl) (p_check hX hL hD h1) fun w H => ?_
 replace H := H.pick [1, 0] 2 (by decide)
 simp only [pk, nth, pkA, pkB, pkC, pkD, pkE, pkF] at H
 refine ⟨?_⟩
 refine BB.yes (bne_iff_ne.2 hck) ?_
 refine Cn.yes ?_
 refine ⟨?_⟩
 refine ret2 (fn := Tryz.f21) (.pointer none) (.int .i64 (checkE ⟨t, m, progsM X, pl, dr⟩)) rfl (by rfl) (by rfl) ?_
 exact ⟨rfl, H.pick [1] 2 (by decide)⟩
theorem step_p {s : ScrM} {x : LmM} (h : verL s x = 0) : (stepL s x).p = x.p + 1 := by
 unfold stepL
 rw [if_neg (fun hh => hh h)]
 split
 ·rfl
 ·exact does_p s { x with p := x.p + 1 } _ _
theorem run_stop {s : ScrM} {i n : Nat} (h : verL s (runL s i) ≠ 0) (hn : i ≤ n) : runL s n = runL s i := by
 induction n with
 | zero => rw [Nat.le_zero.1 hn]
 | succ n ih =>
  by_cases e : i = n + 1
  ·rw [e]
  ·have := ih (by omega)
   show stepL s (runL s n) = _
   rw [this, step_stop h]
set_option maxHeartbeats 4000000 in
theorem p_run {w : World} {F : List Piece} {A : Piece} {pa la da : Option Addr} {pc lc dc : Nat} {t m : Int} {X : List ProgX} {pl dr : List Int} (hX : 0 < X.length → ∃ b off, pa = some ⟨b, off, none⟩ ∧ ScrA A b off X) (hL : Reader A 1 la pl.length (ints pl)) (hD : Reader A 1 da dr.length (ints dr)) (hck : checkE ⟨t, m, progsM X, pl, dr⟩ = 0) (H : SL w (A :: F)) : Calls Tryz.prog 19 #[.agg #[.int .i64 t, .int .i64 m, .slice pa X.length pc, .slice la pl.length lc, .slice da dr.length dc]] w fun o w' => ∃ ka kc, o = .returned (.tuple #[.slice ka (runL ⟨t, m, progsM X, pl, dr⟩ (pl.length + 1)).tr.length kc, .int .i64 (verL ⟨t, m, progsM X, pl, dr⟩ (runL ⟨t, m, progsM X, pl, dr⟩ (pl.length + 1)))]) ∧ SL w' (Slc 53 8 (.slice ka (runL ⟨t, m, progsM X, pl, dr⟩ (pl.length + 1)).tr.length kc) (runL ⟨t, m, progsM X, pl, dr⟩ (pl.length + 1)).tr.length ((runL ⟨t, m, progsM X, pl, dr⟩ (pl.length + 1)).tr.flatMap Ev.cells) :: A :: F) := by
 have hr := checkE_right hck
 have hn1 : 1 ≤ X.length := by have := hr.n1; simpa [progsM] using this
 have hpl : pl.length ≤ 200 := hr.pl
 refine calls_den (args := [_]) Tryz.func19 rfl (Nat.le_of_ble_eq_true (by kernel_rfl)) (by kernel_rfl) ?_
 refine ⟨?_⟩
 refine Nw.as #[.int .i64 t, .int .i64 m, .slice pa X.length pc, .slice la pl.length lc, .slice da dr.length dc] 42 rfl H fun b1 w H => ?_
 refine ⟨?_⟩
 refine H.ldi 0 rfl (v := .int .i64 t) rfl ?_
 refine H.ldi 0 rfl (v := .int .i64 m) rfl ?_
 refine H.ldi 0 rfl (v := .slice pa X.length pc) rfl ?_
 refine H.ldi 0 rfl (v := .slice la pl.length lc) rfl ?_
 refine H.ldi 0 rfl (v := .slice da dr.length dc) rfl ?_
 have h1 := H.pick [1, 0] 2 (by decide)
 simp only [pk, nth, pkA, pkB, pkC, pkD, pkE, pkF] at h1
 refine Cl.by (by kernel_rfl) (p_new_ok hX hL hD hck h1) ?_
 rintro _ w ⟨lb, Z, vb, vc, la', lc', da', dc', hZ, hzl, hgood, rfl, H⟩
 refine ⟨_, rfl, ?_⟩
 have hXZ := scrP_A (vc := vc) hgood (rfl : some (⟨vb, 0, none⟩ : Addr) = _)
 replace H := H.pick [0, 1, 3, 2] 4 (by decide)
 simp only [pk, nth, pkA, pkB, pkC, pkD, pkE, pkF] at H
 refine ⟨?_⟩
 refine BB.no rfl ?_
 refine Cn.no ?_
 refine ⟨?_⟩
 refine den.loop (ι := Nat) [(13, 17)] (by kernel_rfl) (fun i => []) (fun i w => (i ≤ pl.length ∧ (runL ⟨t, m, progsM X, pl, dr⟩ i).p = i) ∧ SL w (LmP lb ⟨t, m, progsM X, pl, dr⟩ ⟨t, m, .slice (some ⟨vb, 0, none⟩) Z.length vc, .slice la' pl.length lc', .slice da' dr.length dc'⟩ (runL ⟨t, m, progsM X, pl, dr⟩ i) :: scrP (some ⟨vb, 0, none⟩) vc Z :: A :: F)) (fun i => pl.length - i) 0 trivial ⟨⟨Nat.zero_le _, rfl⟩, (H.pick [0, 1, 3] 4 (by decide))⟩ ?_
 rintro i s w ⟨hc, H⟩
 have hk := Lk.run (s := ⟨t, m, progsM X, pl, dr⟩) hr.ok (np := X.length) (by unfold progsM; rw [List.length_map]) hn1 i
 have hob := eight hk.n8
 obtain ⟨n0, n1, n2, n3, n4, n5, n6, n7, hn⟩ := hob
 refine ⟨?_⟩
 have h1 := H
 refine Cl.sl (by kernel_rfl) (p_verdict hn hk h1) fun w H => ?_
 refine BB.vr fun q1 e1 => ?_
 cases q1
 ·skip
  have h1 := beq_eq_false_iff_ne.1 e1
  refine Cn.no ?_
  refine ⟨?_⟩
  have h1 := H
  refine Cl.by (by kernel_rfl) (p_trace hn hk (by omega) h1) ?_
  rintro _ w ⟨ka, kc, rfl, H⟩
  refine ⟨_, rfl, ?_⟩
  have h1 := H.pick [1, 0, 2, 3] 4 (by decide)
  simp only [pk, nth, pkA, pkB, pkC, pkD, pkE, pkF] at h1
  refine Cl.sl (by kernel_rfl) (p_verdict hn hk h1) fun w H => ?_
  replace H := H.pick [1, 0, 2, 3] 4 (by decide)
  simp only [pk, nth, pkA, pkB, pkC, pkD, pkE, pkF] at H
  refine ret2 (fn := Tryz.f19) (.slice ka ((runL ⟨t, m, progsM X, pl, dr⟩ i).tr.length) kc) (.int .i64 (verL ⟨t, m, progsM X, pl, dr⟩ (runL ⟨t, m, progsM X, pl, dr⟩ i))) rfl (by rfl) (by rfl) ?_
  have hst : runL ⟨t, m, progsM X, pl, dr⟩ (pl.length + 1) = runL ⟨t, m, progsM X, pl, dr⟩ i := run_stop (by assumption) (by omega)
  rw [hst]
  exact ⟨ka, kc, rfl, H.pick [0, 3] 4 (by decide)⟩
 ·skip
  have h1 := eq_of_beq e1
  refine Cn.yes ?_
  refine ⟨?_⟩
  refine ⟨?_⟩
  have h1 := H
  refine Cl.by (by kernel_rfl) (p_step (sc := ⟨t, m, progsM X, pl, dr⟩) hn hk (by omega) hZ.symm hr.ok hzl hn1 hXZ hr.p0 hr.d0 h1) ?_
  rintro _ w ⟨ka, kc, rfl, H⟩
  refine ⟨_, rfl, ?_⟩
  replace H := H.tl
  have hob := ver_zero (s := ⟨t, m, progsM X, pl, dr⟩) (x := runL ⟨t, m, progsM X, pl, dr⟩ i) (by assumption)
  obtain ⟨_, _, hpp⟩ := hob
  have hil : i < pl.length := by rw [hc.2] at hpp; exact hpp
  exact ⟨i + 1, trivial, ⟨⟨by omega, by show (stepL ⟨t, m, progsM X, pl, dr⟩ (runL ⟨t, m, progsM X, pl, dr⟩ i)).p = i + 1; rw [step_p (by assumption), hc.2]⟩, H⟩, (show pl.length - (i + 1) < pl.length - i by omega)⟩
theorem p_run_no {w : World} {F : List Piece} {A : Piece} {pa la da : Option Addr} {pc lc dc : Nat} {t m : Int} {X : List ProgX} {pl dr : List Int} (hX : 0 < X.length → ∃ b off, pa = some ⟨b, off, none⟩ ∧ ScrA A b off X) (hL : Reader A 1 la pl.length (ints pl)) (hD : Reader A 1 da dr.length (ints dr)) (hck : checkE ⟨t, m, progsM X, pl, dr⟩ ≠ 0) (H : SL w (A :: F)) : Calls Tryz.prog 19 #[.agg #[.int .i64 t, .int .i64 m, .slice pa X.length pc, .slice la pl.length lc, .slice da dr.length dc]] w fun o w' => o = .returned (.tuple #[.slice none 0 0, .int .i64 0]) ∧ SL w' (A :: F) := by
 refine calls_den (args := [_]) Tryz.func19 rfl (Nat.le_of_ble_eq_true (by kernel_rfl)) (by kernel_rfl) ?_
 refine ⟨?_⟩
 refine Nw.as #[.int .i64 t, .int .i64 m, .slice pa X.length pc, .slice la pl.length lc, .slice da dr.length dc] 42 rfl H fun b1 w H => ?_
 refine ⟨?_⟩
 refine H.ldi 0 rfl (v := .int .i64 t) rfl ?_
 refine H.ldi 0 rfl (v := .int .i64 m) rfl ?_
 refine H.ldi 0 rfl (v := .slice pa X.length pc) rfl ?_
 refine H.ldi 0 rfl (v := .slice la pl.length lc) rfl ?_
 refine H.ldi 0 rfl (v := .slice da dr.length dc) rfl ?_
 have h1 := H.pick [1, 0] 2 (by decide)
 simp only [pk, nth, pkA, pkB, pkC, pkD, pkE, pkF] at h1
 refine Cl.sl (by kernel_rfl) (p_new_no hX hL hD hck h1) fun w H => ?_
 replace H := H.pick [1, 0] 2 (by decide)
 simp only [pk, nth, pkA, pkB, pkC, pkD, pkE, pkF] at H
 refine ⟨?_⟩
 refine BB.yes (bne_iff_ne.2 hck) ?_
 refine Cn.yes ?_
 refine ⟨?_⟩
 refine ret2 (fn := Tryz.f19) (.slice none 0 0) (.int .i64 0) rfl (by rfl) (by rfl) ?_
 exact ⟨rfl, H.pick [1] 2 (by decide)⟩
end Go.Proofs.YtchkaaeoffmjnaaGreatDoor
namespace Go.Proofs.YtchkaaeoffmjnaaGreatDoor
set_option linter.unusedVariables false
set_option linter.unusedSimpArgs false
open Go.RowKit
section
variable {A : Piece} {sz n m : Nat} {a : Option Addr} {xs : List Value}
theorem Reader.take (h : Reader A sz a n xs) (hm : m ≤ n) : Reader A sz a m (xs.take (m * sz)) := by
 intro S w hS
 obtain ⟨h1, h2, h3⟩ := h S w hS
 refine ⟨?_, by omega, fun h0 => ?_⟩
 ·rw [List.length_take, h1]
  exact Nat.min_eq_left (Nat.mul_le_mul_right sz hm)
 ·obtain ⟨b, off, ha, hc⟩ := h3 (by omega)
  refine ⟨b, off, ha, fun i u hu => hc i u ?_⟩
  rw [List.getElem?_take] at hu
  split at hu
  ·exact hu
  ·cases hu
theorem evs_take {l l0 : List Ev} (h : l <+: l0) : (l0.flatMap Ev.cells).take (l.length * 8) = l.flatMap Ev.cells := by
 obtain ⟨r, rfl⟩ := h
 rw [List.flatMap_append, List.take_append_of_le_length, List.take_of_length_le]
 ·rw [flat_length Ev.cells 8 (fun _ => rfl)]; exact Nat.le_refl _
 ·rw [flat_length Ev.cells 8 (fun _ => rfl)]; exact Nat.le_refl _
end
end Go.Proofs.YtchkaaeoffmjnaaGreatDoor
namespace Go.Proofs.YtchkaaeoffmjnaaGreatDoor
set_option linter.unusedVariables false
set_option linter.unusedSimpArgs false
open Go.RowKit
def inE (c : Int) (e : Ev) : Bool := e.chan == c && (e.kind == 3 || (e.kind == 7 && e.send))
def outE (c : Int) (e : Ev) : Bool := e.chan == c && ((e.kind == 4 && e.ok) || (e.kind == 7 && !e.send && e.ok))
def insV (c : Int) (tr : List Ev) : List Int := (tr.filter (inE c)).map (·.value)
def outsV (c : Int) (tr : List Ev) : List Int := (tr.filter (outE c)).map (·.value)
def bufC (M : List PipeM) (c : Nat) : List Int := (M.getD c (emptyM 0)).buf
def Val (x : LmM) : Prop := ∀ c : Nat, insV c x.tr = outsV c x.tr ++ bufC x.M c
theorem insV_snoc (c : Int) (tr : List Ev) (e : Ev) : insV c (tr ++ [e]) = insV c tr ++ (if inE c e = true then [e.value] else []) := by
 unfold insV
 rw [List.filter_append, List.map_append]
 cases h : inE c e <;> simp [h]
theorem outsV_snoc (c : Int) (tr : List Ev) (e : Ev) : outsV c (tr ++ [e]) = outsV c tr ++ (if outE c e = true then [e.value] else []) := by
 unfold outsV
 rw [List.filter_append, List.map_append]
 cases h : outE c e <;> simp [h]
def Calm (e : Ev) : Prop := ∀ c : Nat, inE c e = false ∧ outE c e = false
theorem calm_kind {e : Ev} (h3 : e.kind ≠ 3) (h4 : e.kind ≠ 4) (h7 : e.kind ≠ 7) : Calm e := fun c => by
 unfold inE outE
 simp [h3, h4, h7]
theorem calm_wake {e : Ev} (h3 : e.kind = 7) (hs : e.send = false) (ho : e.ok = false) : Calm e := fun c => by
 unfold inE outE
 simp [h3, hs, ho]
section
variable {x : LmM} {M' : List PipeM}
theorem Val.calm (h : Val x) {e : Ev} (he : Calm e) (hb : ∀ c, bufC M' c = bufC x.M c) : Val { noteL x e with M := M' } := fun c => by
 show insV c (x.tr ++ [e]) = outsV c (x.tr ++ [e]) ++ bufC M' c
 rw [insV_snoc, outsV_snoc, if_neg (by rw [(he c).1]; exact Bool.false_ne_true), if_neg (by rw [(he c).2]; exact Bool.false_ne_true), List.append_nil, List.append_nil, hb]
 exact h c
theorem Val.setM (h : Val x) (hb : ∀ c, bufC M' c = bufC x.M c) : Val { x with M := M' } := fun c => by
 show insV c x.tr = outsV c x.tr ++ bufC M' c
 rw [hb]
 exact h c
theorem Val.note (h : Val x) {e : Ev} (he : Calm e) : Val (noteL x e) := h.calm (M' := x.M) he (fun _ => rfl)
end
theorem buf_map (M : List PipeM) (f : PipeM → PipeM) (hf : ∀ y, (f y).buf = y.buf) (c : Nat) : bufC (M.map f) c = bufC M c := by
 unfold bufC
 rw [List.getD_eq_getElem?_getD, List.getD_eq_getElem?_getD, List.getElem?_map]
 cases M[c]? with
 | none => rfl
 | some y => exact hf y
theorem buf_set (M : List PipeM) (i : Nat) (y : PipeM) (hy : y.buf = bufC M i) (c : Nat) : bufC (M.set i y) c = bufC M c := by
 unfold bufC at hy ⊢
 rw [List.getD_eq_getElem?_getD, List.getD_eq_getElem?_getD, List.getElem?_set]
 by_cases h : i = c
 ·subst h
  rw [if_pos rfl]
  split
  ·rw [List.getD_eq_getElem?_getD] at hy
   exact hy
  ·rename_i hh
   rw [List.getElem?_eq_none (by omega)]
 ·rw [if_neg h]
theorem drop_buf (y : PipeM) (g : Int) : (dropM y g).buf = y.buf := rfl
theorem wait_buf (y : PipeM) (s : Bool) (m : Wtr) : (waitF y s m).2.buf = y.buf := by
 unfold waitF
 split
 ·rfl
 ·split <;> rfl
theorem close_buf (y : PipeM) : (closeF y).2.buf = y.buf := by
 unfold closeF
 split <;> rfl
theorem Val.wake {x : LmM} (h : Val x) {e : Ev} (he : Calm e) : Val (wakeL x e) := h.calm he (fun c => buf_map _ _ (fun y => drop_buf y _) c)
theorem Val.wakes {x : LmM} (h : Val x) (g ch : Int) : ∀ ws : List Wtr, Val (wakesL x g ch ws) := by
 intro ws
 induction ws generalizing x with
 | nil => exact h
 | cons w ws ih =>
  unfold wakesL
  split
  ·exact ih (h.wake (calm_wake rfl rfl rfl))
  ·exact ih h
theorem Val.panic {x : LmM} (h : Val x) (g : Int) : Val (panicL x g) := h.note (e := bareE 12 g) (calm_kind (show (12 : Int) ≠ 3 by decide) (show (12 : Int) ≠ 4 by decide) (show (12 : Int) ≠ 7 by decide))
theorem Val.senders {x : LmM} (h : Val x) : ∀ ws : List Wtr, Val (sendersL x ws) := by
 intro ws
 induction ws with
 | nil => exact h
 | cons w ws ih =>
  unfold sendersL
  split
  ·exact h.panic _
  ·exact ih
theorem backN_off : ∀ (ns : List Int) (ys M : List PipeM) (c : Nat), (∀ n ∈ ns, n ≠ (c : Int)) → (backN ns ys M)[c]? = M[c]?
 | [], _, _, _, _ => by unfold backN; rfl
 | n :: ns, [], _, _, _ => by unfold backN; rfl
 | n :: ns, y :: ys, M, c, h => by
  unfold backN
  rw [backN_off ns ys _ c (fun m hm => h m (List.mem_cons_of_mem _ hm))]
  split
  ·rename_i h0
   have := h n List.mem_cons_self
   rw [List.getElem?_set, if_neg (by omega)]
  ·rfl
theorem backN_on : ∀ (ns : List Int) (ys M : List PipeM) (k c : Nat) (y : PipeM), ns.Pairwise (fun a b => 0 ≤ a → a ≠ b) → ns[k]? = some (c : Int) → ys[k]? = some y → c < M.length → (backN ns ys M)[c]? = some y
 | [], _, _, _, _, _, _, h, _, _ => by simp at h
 | n :: ns, [], _, _, _, _, _, _, h, _ => by simp at h
 | n :: ns, z :: ys, M, 0, c, y, hp, hn, hy, hc => by
  simp at hn hy
  subst hn hy
  unfold backN
  rw [backN_off ns ys _ c (fun m hm => Ne.symm ((List.pairwise_cons.1 hp).1 m hm (Int.natCast_nonneg _))), if_pos (Int.natCast_nonneg _), Int.toNat_natCast, List.getElem?_set, if_pos rfl, if_pos hc]
 | n :: ns, z :: ys, M, k + 1, c, y, hp, hn, hy, hc => by
  simp at hn hy
  unfold backN
  exact backN_on ns ys _ k c y (List.pairwise_cons.1 hp).2 hn hy (by split <;> simp [hc])
/-- What the buffers are behind it. -/
theorem backN_buf {np k : Nat} {x : LmM} (hk : Lk np k x) (ys : List PipeM) (c : Nat) (Q : List Int) (hon : ∀ j : Nat, j < 8 → numL x (j : Int) = (c : Int) → ∃ y, ys[j]? = some y ∧ y.buf = Q) (hoff : (∀ j : Nat, j < 8 → numL x (j : Int) ≠ (c : Int)) → bufC x.M c = Q) : bufC (backN x.name ys x.M) c = Q := by
 by_cases h : ∃ j : Nat, j < 8 ∧ numL x (j : Int) = (c : Int)
 ·obtain ⟨j, hj, hjc⟩ := h
  obtain ⟨y, hy, hq⟩ := hon j hj hjc
  have hj' : j < x.name.length := by rw [hk.n8]; exact hj
  have hlt : c < x.M.length := by have := num_lt hk hj; rw [hjc] at this; omega
  have hn : x.name[j]? = some (c : Int) := by rw [List.getElem?_eq_getElem hj', ← numL_get hj', hjc]
  unfold bufC
  rw [List.getD_eq_getElem?_getD, backN_on x.name ys x.M j c y hk.nm.ne hn hy hlt]
  exact hq
 ·have h' : ∀ j : Nat, j < 8 → numL x (j : Int) ≠ (c : Int) := fun j hj e => h ⟨j, hj, e⟩
  unfold bufC
  rw [List.getD_eq_getElem?_getD, backN_off x.name ys x.M c (fun n hn => ?_), ← List.getD_eq_getElem?_getD]
  ·exact hoff h'
  ·obtain ⟨j, hj, rfl⟩ := List.getElem_of_mem hn
   have := h' j (by rw [← hk.n8]; exact hj)
   rw [numL_get hj] at this
   exact this
theorem pipesN_get {np k : Nat} {x : LmM} (hk : Lk np k x) {j : Nat} (hj : j < 8) : (pipesN x)[j]? = some (if 0 ≤ numL x (j : Int) then x.M.getD (numL x (j : Int)).toNat (emptyM 0) else emptyM 0) := by
 have := msN_at hk hj
 rw [← pipesN_eq] at this
 exact this
theorem num_one {np k : Nat} {x : LmM} (hk : Lk np k x) {i j : Nat} (hi : i < 8) (hj : j < 8) (h0 : 0 ≤ numL x (i : Int)) (he : numL x (i : Int) = numL x (j : Int)) : i = j := by
 have hi' : i < x.name.length := by rw [hk.n8]; exact hi
 have hj' : j < x.name.length := by rw [hk.n8]; exact hj
 rw [numL_get hi'] at h0
 rw [numL_get hi', numL_get hj'] at he
 rcases Nat.lt_trichotomy i j with h | h | h
 ·exact absurd he (List.pairwise_iff_getElem.1 hk.nm.ne i j hi' hj' h h0)
 ·exact h
 ·exact absurd he.symm (List.pairwise_iff_getElem.1 hk.nm.ne j i hj' hi' h (by rw [← he]; exact h0))
theorem park_bufs (ok : List Bool) (g : Int) (L : List CaseM) (M : List PipeM) (c : Nat) : ∀ k, bufC (parkK ok g L M k).2 c = bufC M c
 | 0 => rfl
 | k + 1 => by
  unfold parkK
  split
  ·exact park_bufs ok g L M c k
  ·dsimp only
   rw [buf_set _ _ _ (wait_buf _ _ _), park_bufs ok g L M c k]
theorem parkF_bufs (ok : List Bool) (g : Int) (L : List CaseM) (M : List PipeM) (c : Nat) : bufC (parkF ok g L M).2 c = bufC M c := by
 unfold parkF
 split
 ·rfl
 ·split
  ·rfl
  ·exact park_bufs ok g L M c _
theorem bufC_at {M : List PipeM} {c : Nat} {y : PipeM} (h : M[c]? = some y) : y.buf = bufC M c := by
 unfold bufC
 rw [List.getD_eq_getElem?_getD, h]
 rfl
theorem pipesN_buf {np k : Nat} {x : LmM} (hk : Lk np k x) {j c : Nat} (hj : j < 8) (hc : numL x (j : Int) = (c : Int)) : bufC (pipesN x) j = bufC x.M c := by
 have := pipesN_get hk hj
 rw [hc, if_pos (Int.natCast_nonneg c), Int.toNat_natCast] at this
 rw [← bufC_at this]
 rfl
theorem Val.park {np k : Nat} {x : LmM} (hk : Lk np k x) (h : Val x) (g : Int) (L : List CaseM) : Val { x with M := backN x.name (parkF (okN x) g L (pipesN x)).2 x.M } := by
 refine h.setM (fun c => ?_)
 refine backN_buf hk _ c _ (fun j hj hjc => ?_) (fun _ => rfl)
 have hl : j < (parkF (okN x) g L (pipesN x)).2.length := by rw [parkF_len, hk.pipes_len]; exact hj
 refine ⟨(parkF (okN x) g L (pipesN x)).2[j], List.getElem?_eq_getElem hl, ?_⟩
 rw [bufC_at (List.getElem?_eq_getElem hl), parkF_bufs, pipesN_buf hk hj hjc]
theorem Val.talk {np k : Nat} {x : LmM} (hk : Lk np k x) (h : Val x) {g : Int} {c : CaseM} {a : Int} (hc : 0 ≤ c.chan ∧ c.chan < 8) (hr : readyC (okN x) (pipesN x) c = true) : Val (talkL x g c a) := by
 obtain ⟨s, ch, v⟩ := c
 dsimp only at hc
 obtain ⟨j, rfl⟩ := Int.eq_ofNat_of_zero_le hc.1
 have hj : j < 8 := by omega
 rw [readyC_num hk hj] at hr
 by_cases h0 : 0 ≤ numL x (j : Int)
 ·rw [if_pos h0] at hr
  obtain ⟨i, hi⟩ := Int.eq_ofNat_of_zero_le h0
  have hpos : posF (okN x) (j : Int) = some j := by rw [posF_num hk hj, if_pos h0]
  have hgd : (pipesN x).getD j (emptyM 0) = x.M.getD i (emptyM 0) := by rw [pipesN_at hk hj, if_pos h0, hi, Int.toNat_natCast]
  rw [hi, Int.toNat_natCast] at hr
  obtain ⟨p, hp⟩ : ∃ p, x.M.getD i (emptyM 0) = p := ⟨_, rfl⟩
  have hil : i < x.M.length := by have := num_lt hk hj; omega
  have hI : Inv9 k p := by rw [← hp]; exact hk.inv.get hil
  have hbi : bufC x.M i = p.buf := by unfold bufC; rw [hp]
  rw [hp] at hgd hr
  have hlen : j < (pipesN x).length := by rw [hk.pipes_len]; exact hj
  have key : ∀ (y : PipeM) (c' : Nat), bufC (backN x.name ((pipesN x).set j y) x.M) c' = if c' = i then y.buf else bufC x.M c' := by
   intro y c'
   refine backN_buf hk _ c' _ (fun j' hj' hjc => ?_) (fun hno => ?_)
   ·by_cases e : j' = j
    ·subst e
     refine ⟨y, by rw [List.getElem?_set, if_pos rfl, if_pos hlen], ?_⟩
     rw [if_pos (by omega)]
    ·refine ⟨_, by rw [List.getElem?_set, if_neg (Ne.symm e)]; exact pipesN_get hk hj', ?_⟩
     have hne : c' ≠ i := fun e' => e (num_one hk hj' hj (by omega) (by omega))
     rw [if_neg hne, hjc, if_pos (Int.natCast_nonneg _), Int.toNat_natCast]
     rfl
   ·rw [if_neg (fun e => hno j hj (by omega))]
  -- what each channel has, by one or two events
  have one : ∀ (y : PipeM) (e : Ev) (z : LmM), z.tr = x.tr ++ [e] → z.M = backN x.name ((pipesN x).set j y) x.M → (e.chan = (i : Int)) → (insV i x.tr ++ (if inE i e = true then [e.value] else []) = (outsV i x.tr ++ (if outE i e = true then [e.value] else [])) ++ y.buf) → Val z := by
   intro y e z ht hM hch hv c'
   rw [ht, hM, insV_snoc, outsV_snoc, key]
   by_cases e' : c' = i
   ·subst e'
    rw [if_pos rfl]
    exact hv
   ·have hn : (e.chan == (c' : Int)) = false := by rw [hch]; exact beq_eq_false_iff_ne.2 (by omega)
    rw [if_neg e', if_neg (by unfold inE; rw [hn]; simp), if_neg (by unfold outE; rw [hn]; simp), List.append_nil, List.append_nil]
    exact h c'
  have two : ∀ (y : PipeM) (e f : Ev) (z : LmM), z.tr = x.tr ++ [e] ++ [f] → (∀ c', bufC z.M c' = bufC (backN x.name ((pipesN x).set j y) x.M) c') → e.chan = (i : Int) → f.chan = (i : Int) → (insV i x.tr ++ (if inE i e = true then [e.value] else []) ++ (if inE i f = true then [f.value] else []) = (outsV i x.tr ++ (if outE i e = true then [e.value] else []) ++ (if outE i f = true then [f.value] else [])) ++ y.buf) → Val z := by
   intro y e f z ht hM hce hcf hv c'
   rw [ht, hM, insV_snoc, insV_snoc, outsV_snoc, outsV_snoc, key]
   by_cases e' : c' = i
   ·subst e'
    rw [if_pos rfl]
    exact hv
   ·have hn : (e.chan == (c' : Int)) = false := by rw [hce]; exact beq_eq_false_iff_ne.2 (by omega)
    have hm : (f.chan == (c' : Int)) = false := by rw [hcf]; exact beq_eq_false_iff_ne.2 (by omega)
    rw [if_neg e', if_neg (by unfold inE; rw [hn]; simp), if_neg (by unfold inE; rw [hm]; simp), if_neg (by unfold outE; rw [hn]; simp), if_neg (by unfold outE; rw [hm]; simp)]
    simp only [List.append_nil]
    exact h c'
  have hx := h i
  rw [hbi] at hx
  have hdrop : ∀ (M : List PipeM) (g' : Int) (c' : Nat), bufC (M.map (fun y => dropM y g')) c' = bufC M c' := fun M g' c' => buf_map _ _ (fun y => drop_buf y _) c'
  cases s with
  | true =>
   have hT : tryF (okN x) (pipesN x) ⟨true, (j : Int), v⟩ = ((sendF p v).1, (pipesN x).set j (sendF p v).2) := by
    unfold tryF
    dsimp only
    rw [hpos]
    dsimp only
    rw [if_pos rfl, hgd]
   unfold talkL
   rw [hT]
   unfold readyF at hr
   unfold sendF
   by_cases hcl : p.closed = true
   ·rw [if_pos hcl]
    dsimp only
    rw [if_pos (by decide)]
    refine Val.panic (h.setM (fun c' => ?_)) g
    rw [key]
    split
    ·rename_i e; subst e; exact hbi.symm
    ·rfl
   ·rw [if_neg hcl]
    cases hrc : p.receivers with
    | cons m l =>
     dsimp only
     rw [if_neg (by decide), if_pos rfl]
     have hb : p.buf = [] := hI.re (by rw [hrc]; exact List.cons_ne_nil _ _)
     refine two _ _ _ _ rfl (fun c' => hdrop _ _ c') hi hi ?_
     rw [hx, hb]
     simp [inE, outE, hi]
    | nil =>
     dsimp only
     by_cases hlt : p.buf.length < p.size
     ·rw [if_pos hlt]
      dsimp only
      rw [if_neg (by decide), if_neg (by decide)]
      refine one _ _ _ rfl rfl hi ?_
      rw [hx]
      simp [inE, outE, hi]
     ·exfalso
      simp [hcl, hrc, hlt] at hr
  | false =>
   have hT : tryF (okN x) (pipesN x) ⟨false, (j : Int), v⟩ = (((recvF p).1, 0), (pipesN x).set j (recvF p).2) := by
    unfold tryF
    dsimp only
    rw [hpos]
    dsimp only
    rw [if_neg (by decide), hgd]
   unfold talkL
   rw [hT]
   unfold readyF at hr
   unfold recvF
   cases hb : p.buf with
   | cons b L =>
    cases hs : p.senders with
    | cons m l =>
     dsimp only
     rw [if_neg (by decide), if_pos rfl]
     refine two _ _ _ _ rfl (fun c' => hdrop _ _ c') hi hi ?_
     rw [hx, hb]
     simp [inE, outE, hi]
    | nil =>
     dsimp only
     rw [if_neg (by decide), if_neg (by decide)]
     refine one _ _ _ rfl rfl hi ?_
     rw [hx, hb]
     simp [inE, outE, hi]
   | nil =>
    cases hs : p.senders with
    | cons m l =>
     dsimp only
     rw [if_neg (by decide), if_pos rfl]
     refine two _ _ _ _ rfl (fun c' => hdrop _ _ c') hi hi ?_
     rw [hx, hb]
     simp [inE, outE, hi]
    | nil =>
     dsimp only
     cases hcl : p.closed with
     | true =>
      refine one _ _ _ rfl rfl hi ?_
      rw [hx, hb]
      simp [inE, outE, gzero, hb]
     | false =>
      exfalso
      simp [hcl, hs, hb] at hr
 ·rw [if_neg h0] at hr
  cases hr
theorem Val.turn {x : LmM} (h : Val x) (g fr to : Int) : Val (turnL x g fr to) := h
theorem Val.alone {np k : Nat} {x : LmM} (hk : Lk np k x) (h : Val x) {g : Int} {c : CaseM} (hc : 0 ≤ c.chan ∧ c.chan < 8) : Val (aloneL x g c) := by
 unfold aloneL
 split
 ·rename_i hr
  exact h.talk hk hc hr
 ·dsimp only
  refine Val.turn ?_ g 0 1
  split
  ·exact (h.note (calm_kind (show (6 : Int) ≠ 3 by decide) (show (6 : Int) ≠ 4 by decide) (show (6 : Int) ≠ 7 by decide))).setM (fun c' => buf_set _ _ _ (wait_buf _ _ _) c')
  ·exact h.note (calm_kind (show (6 : Int) ≠ 3 by decide) (show (6 : Int) ≠ 4 by decide) (show (6 : Int) ≠ 7 by decide))
theorem Val.shut {x : LmM} (h : Val x) (g c : Int) : Val (shutL x g c) := by
 unfold shutL
 dsimp only
 split
 ·exact h.panic g
 ·split
  ·exact h.panic g
  ·refine Val.senders (Val.wakes (Val.turn (Val.note ?_ ?_) g 0 0) g _ _) _
   ·exact h.setM (fun c' => buf_set _ _ _ (close_buf _) c')
   ·exact calm_kind (show (5 : Int) ≠ 3 by decide) (show (5 : Int) ≠ 4 by decide) (show (5 : Int) ≠ 7 by decide)
theorem ready_mem {ok : List Bool} {M : List PipeM} {L : List CaseM} {a : Int} (h : a ∈ readyL ok M L) : ∃ i : Nat, a = (i : Int) ∧ i < L.length ∧ readyC ok M (L.getD i ⟨false, 0, 0⟩) = true := by
 unfold readyL readyK at h
 obtain ⟨i, hi, rfl⟩ := List.mem_map.1 h
 obtain ⟨h1, h2⟩ := List.mem_filter.1 hi
 exact ⟨i, rfl, List.mem_range.1 h1, h2⟩
theorem draw_lt (s : ScrM) (x : LmM) {n : Nat} (h : 0 < n) : (drawL s x n).1 < n := by
 unfold drawL
 split
 ·exact h
 ·exact Nat.mod_lt _ h
theorem Val.choose {np k : Nat} {x : LmM} (hk : Lk np k x) (h : Val x) {g : Int} {o : OpM} (ho : OpOk np o) (s : ScrM) : Val (chooseL s x g o) := by
 unfold chooseL
 dsimp only
 split
 ·rename_i hl
  have hm := draw_lt s x hl
  rw [show (readyL (okN x) (pipesN x) o.cases).getD (drawL s x (readyL (okN x) (pipesN x) o.cases).length).1 0 = (readyL (okN x) (pipesN x) o.cases)[(drawL s x (readyL (okN x) (pipesN x) o.cases).length).1] from by rw [List.getD_eq_getElem?_getD, List.getElem?_eq_getElem hm]; rfl]
  obtain ⟨i, hi, hil, hr⟩ := ready_mem (List.getElem_mem hm)
  rw [hi, Int.toNat_natCast]
  have hch : 0 ≤ (o.cases.getD i ⟨false, 0, 0⟩).chan ∧ (o.cases.getD i ⟨false, 0, 0⟩).chan < 8 := by
   rw [List.getD_eq_getElem?_getD, List.getElem?_eq_getElem hil]
   exact ho.ch _ (List.getElem_mem hil)
  rw [drawL_I]
  exact Val.talk (x := { x with d := (drawI s.draws x.d (readyL (okN x) (pipesN x) o.cases).length).2 }) (hk.dd _) h hch hr
 ·split
  ·exact h.note (calm_kind (show (8 : Int) ≠ 3 by decide) (show (8 : Int) ≠ 4 by decide) (show (8 : Int) ≠ 7 by decide))
  ·exact Val.park (x := noteL x ⟨6, g, -1, (o.cases.length : Int), 0, -1, false, false⟩) (hk.note _) (h.note (calm_kind (show (6 : Int) ≠ 3 by decide) (show (6 : Int) ≠ 4 by decide) (show (6 : Int) ≠ 7 by decide))) g o.cases
theorem bufC_snoc (M : List PipeM) (y : PipeM) (hy : y.buf = []) (c : Nat) : bufC (M ++ [y]) c = bufC M c := by
 unfold bufC
 rw [List.getD_eq_getElem?_getD, List.getD_eq_getElem?_getD]
 rcases Nat.lt_trichotomy c M.length with h | h | h
 ·rw [List.getElem?_append_left h]
 ·subst h
  rw [List.getElem?_append_right (Nat.le_refl _), Nat.sub_self, List.getElem?_eq_none (Nat.le_refl _)]
  exact hy
 ·rw [List.getElem?_eq_none (by simp; omega), List.getElem?_eq_none (by omega)]
theorem Val.other {x : LmM} (h : Val x) (g : Int) (o : OpM) : Val (otherL x g o) := by
 unfold otherL
 split
 ·exact (show Val { x with crew := _ } from h).note (calm_kind (show (1 : Int) ≠ 3 by decide) (show (1 : Int) ≠ 4 by decide) (show (1 : Int) ≠ 7 by decide))
 ·split
  ·exact Val.note (x := { x with M := x.M ++ [emptyM o.b.toNat], name := x.name.set o.a.toNat x.M.length }) (h.setM (fun c' => bufC_snoc _ _ rfl c')) (calm_kind (show (2 : Int) ≠ 3 by decide) (show (2 : Int) ≠ 4 by decide) (show (2 : Int) ≠ 7 by decide))
  ·split
   ·exact h.note (calm_kind (show (9 : Int) ≠ 3 by decide) (show (9 : Int) ≠ 4 by decide) (show (9 : Int) ≠ 7 by decide))
   ·split
    ·exact h.note (calm_kind (show (10 : Int) ≠ 3 by decide) (show (10 : Int) ≠ 4 by decide) (show (10 : Int) ≠ 7 by decide))
    ·exact Val.note (h.turn g 0 2) (calm_kind (show (11 : Int) ≠ 3 by decide) (show (11 : Int) ≠ 4 by decide) (show (11 : Int) ≠ 7 by decide))
theorem Val.does {np k : Nat} {x : LmM} (hk : Lk np k x) (h : Val x) {g : Int} {o : OpM} (ho : OpOk np o) (s : ScrM) : Val (doesL s x g o) := by
 unfold doesL
 split
 ·exact h.alone hk ⟨ho.a0, ho.a1⟩
 ·split
  ·exact h.alone hk ⟨ho.a0, ho.a1⟩
  ·split
   ·exact h.shut g _
   ·split
    ·exact h.choose hk ho s
    ·exact h.other g o
theorem Val.step {np k : Nat} {s : ScrM} {x : LmM} (hk : Lk np k x) (h : Val x) (hs : ProgsOk s.progs) (hn : s.progs.length = np) (h1 : 1 ≤ np) : Val (stepL s x) := by
 unfold stepL
 split
 ·exact h
 ·split
  ·exact Val.note (x := { x with p := x.p + 1 }) h (calm_kind (show (13 : Int) ≠ 3 by decide) (show (13 : Int) ≠ 4 by decide) (show (13 : Int) ≠ 7 by decide))
  ·subst hn
   exact Val.does (x := { x with p := x.p + 1 }) (hk.pp (x.p + 1)) h (opL_ok hs h1 x _) s
theorem Val.run {np : Nat} {s : ScrM} (hs : ProgsOk s.progs) (hn : s.progs.length = np) (h1 : 1 ≤ np) : ∀ n, Val (runL s n)
 | 0 => fun c => rfl
 | n + 1 => (Val.run hs hn h1 n).step (Lk.run hs hn h1 n) hs hn h1
end Go.Proofs.YtchkaaeoffmjnaaGreatDoor
