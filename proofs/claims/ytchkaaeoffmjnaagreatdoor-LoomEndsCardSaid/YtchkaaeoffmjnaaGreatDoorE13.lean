/- Texts of the proof, several in one file: SheetF, LoomB9, Loom12, LoomX7, LoomB10, OpenL, LawK, LawA. -/
import Derived.Test.YtchkaaeoffmjnaaGreatDoorE12
import Derived.Test.YtchkaaeoffmjnaaGreatDoorE11
import Derived.Test.YtchkaaeoffmjnaaGreatDoorE03
namespace Go.Proofs.YtchkaaeoffmjnaaGreatDoor
set_option linter.unusedVariables false
set_option linter.unusedSimpArgs false
open Go.RowKit
set_option maxRecDepth 100000
theorem cases_oneC (L : List CaseM) : (L.flatMap CaseM.cells).all Value.oneCell' = true := by
 rw [List.all_flatMap, List.all_eq_true]
 exact fun c _ => rfl
theorem copy_op {w : World} {F : List Piece} {A : Piece} {ox : OpX} (hA : Reader A 3 ox.ca ox.op.cases.length (ox.op.cases.flatMap CaseM.cells)) (hl : ox.op.cases.length ≤ 4) (H : SL w (A :: F)) : Calls Tryz.prog 99 #[.agg ox.cells.toArray] w fun o w' => ∃ oy : OpX, oy.op = ox.op ∧ GoodO oy ∧ o = .returned (.agg oy.cells.toArray) ∧ SL w' (RdC oy :: A :: F) := by
 refine calls_den (args := [_]) Tryz.func99 rfl (Nat.le_of_ble_eq_true (by kernel_rfl)) (by kernel_rfl) ?_
 refine ⟨?_⟩
 refine Nw.as #[.int .i64 ox.op.kind, .int .i64 ox.op.a, .int .i64 ox.op.b, .slice ox.ca ox.op.cases.length ox.cc, .bool ox.op.dflt] 66 rfl H fun b1 w H => ?_
 refine Nw.as #[.int .i64 0, .int .i64 0, .int .i64 0, .slice none 0 0, .bool false] 66 rfl H fun b2 w H => ?_
 refine ⟨?_⟩
 refine H.ldi 1 rfl (v := .slice ox.ca ox.op.cases.length ox.cc) rfl ?_
 have h1 := H.pick [2, 0, 1] 3 (by decide)
 simp only [pk, nth, pkA, pkB, pkC, pkD, pkE, pkF] at h1
 refine Cl.by (by kernel_rfl) (clone_case hA (cases_oneC _) (by omega) h1) ?_
 rintro _ w ⟨ka1, kc1, rfl, H⟩
 refine ⟨_, rfl, ?_⟩
 replace H := H.pick [0, 2, 3, 1] 4 (by decide)
 simp only [pk, nth, pkA, pkB, pkC, pkD, pkE, pkF] at H
 refine H.st2 (cs' := #[.int .i64 ox.op.kind, .int .i64 ox.op.a, .int .i64 ox.op.b, .slice ka1 ox.op.cases.length kc1, .bool ox.op.dflt]) rfl rfl rfl fun w H => ?_
 refine ⟨?_⟩
 refine H.ldi 2 rfl (v := .int .i64 ox.op.kind) rfl ?_
 refine H.ldi 2 rfl (v := .int .i64 ox.op.a) rfl ?_
 refine H.ldi 2 rfl (v := .int .i64 ox.op.b) rfl ?_
 refine H.ldi 2 rfl (v := .slice ka1 ox.op.cases.length kc1) rfl ?_
 refine H.ldi 2 rfl (v := .bool ox.op.dflt) rfl ?_
 refine H.st1 (cs' := #[.int .i64 ox.op.kind, .int .i64 0, .int .i64 0, .slice none 0 0, .bool false]) rfl rfl rfl fun w H => ?_
 refine H.st1 (cs' := #[.int .i64 ox.op.kind, .int .i64 ox.op.a, .int .i64 0, .slice none 0 0, .bool false]) rfl rfl rfl fun w H => ?_
 refine H.st1 (cs' := #[.int .i64 ox.op.kind, .int .i64 ox.op.a, .int .i64 ox.op.b, .slice none 0 0, .bool false]) rfl rfl rfl fun w H => ?_
 refine H.st1 (cs' := #[.int .i64 ox.op.kind, .int .i64 ox.op.a, .int .i64 ox.op.b, .slice ka1 ox.op.cases.length kc1, .bool false]) rfl rfl rfl fun w H => ?_
 refine H.st1 (cs' := #[.int .i64 ox.op.kind, .int .i64 ox.op.a, .int .i64 ox.op.b, .slice ka1 ox.op.cases.length kc1, .bool ox.op.dflt]) rfl rfl rfl fun w H => ?_
 refine retC (fn := Tryz.f99) H 1 rfl rfl (by rfl) (by kernel_rfl) (by kernel_rfl) ?_
 replace H := H.pick [0, 3] 4 (by decide)
 exact ⟨⟨ox.op, ka1, kc1⟩, rfl, SL.slcLe H, rfl, H⟩
set_option maxHeartbeats 2000000 in
theorem each_ops {w : World} {F : List Piece} {A : Piece} {pb po k qc : Nat} {X : List ProgX} {ops : List OpX} {qa : Option Addr} (hX : ScrA A pb po X) (hY : X[k]? = some ⟨ops, qa, qc⟩) (h4 : ∀ o ∈ ops, o.op.cases.length ≤ 4) (h32 : ops.length ≤ 32) (H : SL w (A :: F)) : Calls Tryz.prog 98 #[.slice qa ops.length qc, .func (.func 99) #[] #[]] w fun o w' => ∃ py : ProgX, py.ops.map (·.op) = ops.map (·.op) ∧ GoodP py ∧ o = .returned (.slice py.pa ops.length py.pc) ∧ SL w' (progP py :: A :: F) := by
 refine calls_den (args := [_, _]) Tryz.func98 rfl (Nat.le_of_ble_eq_true (by kernel_rfl)) (by kernel_rfl) ?_
 refine ⟨?_⟩
 refine ⟨?_⟩
 refine ⟨?_⟩
 refine ⟨?_⟩
 refine den.loop (ι := Nat × List OpX × Option Addr × Nat) [(5, 5), (7, 7), (10, 20)] (by kernel_rfl) (fun (j, Z, oa, oc) => [(5, .slice oa j oc), (10, .int .i64 ↑j)]) (fun (j, Z, oa, oc) w => (j ≤ ops.length ∧ Z.map (·.op) = (ops.map (·.op)).take j ∧ ∀ o ∈ Z, GoodO o) ∧ SL w (Slc 66 5 (.slice oa j oc) j (Z.flatMap OpX.cells) :: casesP Z :: A :: F)) (fun (j, Z, oa, oc) => ops.length - j) (0, [], none, 0) ⟨rfl, rfl, trivial⟩ ⟨⟨Nat.zero_le _, rfl, fun _ h => by cases h⟩, (SL.slcNil 66 5 (SL.all.2 H : SL w (casesP [] :: A :: F)))⟩ ?_
 rintro ⟨j, Z, oa, oc⟩ s w ⟨hc, H⟩
 have hob := Nat.lt_or_ge j ops.length
 rcases hob with hj | hj
 ·skip
  have hob := hX.some_ k _ hY (by dsimp only; omega)
  obtain ⟨qb, qo, rfl⟩ := hob
  have hob : ∃ z, ops[j]? = some z := ⟨_, List.getElem?_eq_getElem hj⟩
  obtain ⟨ox, hox⟩ := hob
  have hzl : Z.length = j := by have := congrArg List.length hc.2.1; simp at this; omega
  refine ⟨?_⟩
  refine BB.yes (decide_eq_true (by omega)) ?_
  refine Cn.yes ?_
  refine ⟨?_⟩
  refine ⟨?_⟩
  refine Ix.at j 5 (by kernel_rfl) (rfl) (hj) ?_
  refine H.ldO 2 rfl hX k hY rfl j 0 hox (v := .int .i64 ox.op.kind) rfl ?_
  refine H.ldO 2 rfl hX k hY rfl j 1 hox (v := .int .i64 ox.op.a) rfl ?_
  refine H.ldO 2 rfl hX k hY rfl j 2 hox (v := .int .i64 ox.op.b) rfl ?_
  refine H.ldO 2 rfl hX k hY rfl j 3 hox (v := .slice ox.ca ox.op.cases.length ox.cc) rfl ?_
  refine H.ldO 2 rfl hX k hY rfl j 4 hox (v := .bool ox.op.dflt) rfl ?_
  refine Nw.as #[.int .i64 0, .int .i64 0, .int .i64 0, .slice none 0 0, .bool false] 66 rfl H fun b7 w H => ?_
  refine H.st0 (cs' := #[.int .i64 ox.op.kind, .int .i64 0, .int .i64 0, .slice none 0 0, .bool false]) rfl rfl rfl fun w H => ?_
  refine H.st0 (cs' := #[.int .i64 ox.op.kind, .int .i64 ox.op.a, .int .i64 0, .slice none 0 0, .bool false]) rfl rfl rfl fun w H => ?_
  refine H.st0 (cs' := #[.int .i64 ox.op.kind, .int .i64 ox.op.a, .int .i64 ox.op.b, .slice none 0 0, .bool false]) rfl rfl rfl fun w H => ?_
  refine H.st0 (cs' := #[.int .i64 ox.op.kind, .int .i64 ox.op.a, .int .i64 ox.op.b, .slice ox.ca ox.op.cases.length ox.cc, .bool false]) rfl rfl rfl fun w H => ?_
  refine H.st0 (cs' := #[.int .i64 ox.op.kind, .int .i64 ox.op.a, .int .i64 ox.op.b, .slice ox.ca ox.op.cases.length ox.cc, .bool ox.op.dflt]) rfl rfl rfl fun w H => ?_
  refine ⟨?_⟩
  refine H.ldi 0 rfl (v := .int .i64 ox.op.kind) rfl ?_
  refine H.ldi 0 rfl (v := .int .i64 ox.op.a) rfl ?_
  refine H.ldi 0 rfl (v := .int .i64 ox.op.b) rfl ?_
  refine H.ldi 0 rfl (v := .slice ox.ca ox.op.cases.length ox.cc) rfl ?_
  refine H.ldi 0 rfl (v := .bool ox.op.dflt) rfl ?_
  have h1 := H.pick [3, 0, 1, 2] 4 (by decide)
  simp only [pk, nth, pkA, pkB, pkC, pkD, pkE, pkF] at h1
  refine Cl.by (by kernel_rfl) (copy_op (ox := ox) (hX.case k _ hY j ox hox).1 (h4 ox (List.mem_of_getElem? hox)) h1) ?_
  rintro _ w ⟨oy, hoy, hgood, rfl, H⟩
  refine ⟨_, rfl, ?_⟩
  have hoyc : [.int .i64 oy.op.kind, .int .i64 oy.op.a, .int .i64 oy.op.b, .slice oy.ca oy.op.cases.length oy.cc, .bool oy.op.dflt] = [oy].flatMap OpX.cells := by simp [OpX.cells]
  replace H := H.pick [0, 2, 3, 4, 1] 5 (by decide)
  simp only [pk, nth, pkA, pkB, pkC, pkD, pkE, pkF] at H
  refine Mn.new (fun b => .slice (some ⟨b, 0, none⟩) 1 1) #[.int .i64 oy.op.kind, .int .i64 oy.op.a, .int .i64 oy.op.b, .slice oy.ca oy.op.cases.length oy.cc, .bool oy.op.dflt] 66 (by kernel_rfl) H fun b18 w H => ?_
  refine SL.appS H.up3 (.tmp 14) (.tmp 18) 67 (.agg #[.int .i64 0, .int .i64 0, .int .i64 0, .slice none 0 0, .bool false]) 56 (by rfl) (by kernel_rfl) (by kernel_rfl) (by rfl) (by decide) (by rfl) (some ⟨b18, 0, none⟩) 1 1 [.int .i64 oy.op.kind, .int .i64 oy.op.a, .int .i64 oy.op.b, .slice oy.ca oy.op.cases.length oy.cc, .bool oy.op.dflt] (by rfl) (H.rdRow 0 rfl (by rfl) (by decide)) (by rfl) (by omega) (by decide) (by decide) fun g1 c1 w H => ?_
  refine ⟨?_⟩
  refine IW.by (wrap_id (n := ↑j + 1) (by omega) (by omega)) ?_
  replace H := H.pick [2, 4, 0, 5] 6 (by decide)
  simp only [pk, nth, pkA, pkB, pkC, pkD, pkE, pkF] at H
  have H2 := all_snocP H
  rw [show Z.map RdC ++ [RdC oy] = (Z ++ [oy]).map RdC by simp] at H2
  rw [show Z.flatMap OpX.cells ++ [.int .i64 oy.op.kind, .int .i64 oy.op.a, .int .i64 oy.op.b, .slice oy.ca oy.op.cases.length oy.cc, .bool oy.op.dflt] = (Z ++ [oy]).flatMap OpX.cells by rw [List.flatMap_append]; rfl] at H2
  exact ⟨(j + 1, Z ++ [oy], (some ⟨g1, 0, none⟩), c1), ⟨rfl, rfl, trivial⟩, ⟨⟨by omega, by rw [List.map_append, hc.2.1, List.take_add_one, List.getElem?_map, hox, List.map_singleton, hoy]; try rfl, fun z hz => (List.mem_append.1 hz).elim (hc.2.2 z) (fun h => by rw [List.mem_singleton.1 h]; exact hgood)⟩, H2.swap⟩, (show ops.length - (j + 1) < ops.length - j by omega)⟩
 ·skip
  have hob : j = ops.length := by omega
  obtain rfl := hob
  refine ⟨?_⟩
  refine BB.no (decide_eq_false (by omega)) ?_
  refine Cn.no ?_
  refine ⟨?_⟩
  refine ret1 (fn := Tryz.f98) (.slice oa ops.length oc) rfl (by rfl) ?_
  have hZ : Z.map (·.op) = ops.map (·.op) := by rw [hc.2.1, List.take_of_length_le (by simp)]
  have hzl : Z.length = ops.length := by have := congrArg List.length hZ; simpa using this
  rw [← hzl] at H
  exact ⟨⟨Z, oa, oc⟩, hZ, ⟨fun h => SL.slcAddr H h, SL.slcLe H, hc.2.2⟩, by rw [← hzl], SL.all.2 H⟩
theorem copy_prog {w : World} {F : List Piece} {A : Piece} {pb po k qc : Nat} {X : List ProgX} {ops : List OpX} {qa : Option Addr} (hX : ScrA A pb po X) (hY : X[k]? = some ⟨ops, qa, qc⟩) (h4 : ∀ o ∈ ops, o.op.cases.length ≤ 4) (h32 : ops.length ≤ 32) (H : SL w (A :: F)) : Calls Tryz.prog 97 #[.slice qa ops.length qc] w fun o w' => ∃ py : ProgX, py.ops.map (·.op) = ops.map (·.op) ∧ GoodP py ∧ o = .returned (.slice py.pa py.ops.length py.pc) ∧ SL w' (progP py :: A :: F) := by
 refine calls_den (args := [_]) Tryz.func97 rfl (Nat.le_of_ble_eq_true (by kernel_rfl)) (by kernel_rfl) ?_
 refine ⟨?_⟩
 refine ⟨?_⟩
 refine Cl.by (by kernel_rfl) (each_ops hX hY h4 h32 H) ?_
 rintro _ w ⟨py, hpy, hgood, rfl, H⟩
 refine ⟨_, rfl, ?_⟩
 refine ret1 (fn := Tryz.f97) (.slice py.pa ops.length py.pc) rfl (by rfl) ?_
 exact ⟨py, hpy, hgood, by rw [show ops.length = py.ops.length by have := congrArg List.length hpy; simpa using this.symm], H⟩
set_option maxHeartbeats 2000000 in
theorem each_progs {w : World} {F : List Piece} {A : Piece} {pa : Option Addr} {pc : Nat} {X : List ProgX} (hX : 0 < X.length → ∃ b off, pa = some ⟨b, off, none⟩ ∧ ScrA A b off X) (h4 : ∀ p ∈ X, ∀ o ∈ p.ops, o.op.cases.length ≤ 4) (h32 : ∀ p ∈ X, p.ops.length ≤ 32) (h8 : X.length ≤ 8) (H : SL w (A :: F)) : Calls Tryz.prog 96 #[.slice pa X.length pc, .func (.func 97) #[] #[]] w fun o w' => ∃ (Z : List ProgX) (va : Option Addr) (vc : Nat), progsM Z = progsM X ∧ Z.length = X.length ∧ (∀ p ∈ Z, GoodP p) ∧ o = .returned (.slice va X.length vc) ∧ (0 < X.length → ∃ b, va = some ⟨b, 0, none⟩) ∧ SL w' (scrP va vc Z :: A :: F) := by
 refine calls_den (args := [_, _]) Tryz.func96 rfl (Nat.le_of_ble_eq_true (by kernel_rfl)) (by kernel_rfl) ?_
 refine ⟨?_⟩
 refine ⟨?_⟩
 refine ⟨?_⟩
 refine ⟨?_⟩
 refine den.loop (ι := Nat × List ProgX × Option Addr × Nat) [(5, 5), (7, 7), (10, 20)] (by kernel_rfl) (fun (j, Z, oa, oc) => [(5, .slice oa j oc), (10, .int .i64 ↑j)]) (fun (j, Z, oa, oc) w => (j ≤ X.length ∧ progsM Z = (progsM X).take j ∧ ∀ p ∈ Z, GoodP p) ∧ SL w (Slc 67 1 (.slice oa j oc) j (Z.map progVal) :: all (Z.map progP) :: A :: F)) (fun (j, Z, oa, oc) => X.length - j) (0, [], none, 0) ⟨rfl, rfl, trivial⟩ ⟨⟨Nat.zero_le _, rfl, fun _ h => by cases h⟩, (SL.slcNil 67 1 (SL.all.2 H : SL w (all (([] : List ProgX).map progP) :: A :: F)))⟩ ?_
 rintro ⟨j, Z, oa, oc⟩ s w ⟨hc, H⟩
 have hob := Nat.lt_or_ge j X.length
 rcases hob with hj | hj
 ·skip
  have hob : ∃ z, X[j]? = some z := ⟨_, List.getElem?_eq_getElem hj⟩
  obtain ⟨px, hY⟩ := hob
  have hob := hX (by omega)
  obtain ⟨pb, po, rfl, hXA⟩ := hob
  obtain ⟨ops, qa, qc⟩ := px
  have hzl : Z.length = j := by have := congrArg List.length hc.2.1; simp [progsM] at this; omega
  refine ⟨?_⟩
  refine BB.yes (decide_eq_true (by omega)) ?_
  refine Cn.yes ?_
  refine ⟨?_⟩
  refine ⟨?_⟩
  refine Ix.at j 1 (by kernel_rfl) (rfl) (hj) ?_
  refine H.ldPv 2 rfl hXA j hY (v := .slice qa ops.length qc) rfl ?_
  refine ⟨?_⟩
  have h1 := H.pick [2, 0, 1] 3 (by decide)
  simp only [pk, nth, pkA, pkB, pkC, pkD, pkE, pkF] at h1
  refine Cl.by (by kernel_rfl) (copy_prog hXA hY (h4 _ (List.mem_of_getElem? hY)) (h32 _ (List.mem_of_getElem? hY)) h1) ?_
  rintro _ w ⟨py, hpy, hgood, rfl, H⟩
  refine ⟨_, rfl, ?_⟩
  replace H := H.pick [0, 2, 3, 1] 4 (by decide)
  simp only [pk, nth, pkA, pkB, pkC, pkD, pkE, pkF] at H
  refine Mn.new (fun b => .slice (some ⟨b, 0, none⟩) 1 1) #[.slice py.pa py.ops.length py.pc] 67 (by kernel_rfl) H fun b18 w H => ?_
  refine SL.appS H.up2 (.tmp 14) (.tmp 18) 39 (.slice none 0 0) 24 (by rfl) (by kernel_rfl) (by kernel_rfl) (by rfl) (by decide) (by rfl) (some ⟨b18, 0, none⟩) 1 1 [.slice py.pa py.ops.length py.pc] (by rfl) (H.rdRow 0 rfl (by rfl) (by decide)) (by rfl) (by omega) (by decide) (by decide) fun g1 c1 w H => ?_
  refine ⟨?_⟩
  refine IW.by (wrap_id (n := ↑j + 1) (by omega) (by omega)) ?_
  replace H := H.pick [2, 3, 0, 4] 5 (by decide)
  simp only [pk, nth, pkA, pkB, pkC, pkD, pkE, pkF] at H
  have H2 := all_snocP H
  rw [show Z.map progP ++ [progP py] = (Z ++ [py]).map progP by simp] at H2
  rw [show Z.map progVal ++ [.slice py.pa py.ops.length py.pc] = (Z ++ [py]).map progVal by simp [progVal]] at H2
  exact ⟨(j + 1, Z ++ [py], (some ⟨g1, 0, none⟩), c1), ⟨rfl, rfl, trivial⟩, ⟨⟨by omega, by unfold progsM at hc ⊢; rw [List.map_append, hc.2.1, List.take_add_one, List.getElem?_map, hY, List.map_singleton, hpy]; try rfl, fun z hz => (List.mem_append.1 hz).elim (hc.2.2 z) (fun h => by rw [List.mem_singleton.1 h]; exact hgood)⟩, H2.swap⟩, (show X.length - (j + 1) < X.length - j by omega)⟩
 ·skip
  have hob : j = X.length := by omega
  obtain rfl := hob
  refine ⟨?_⟩
  refine BB.no (decide_eq_false (by omega)) ?_
  refine Cn.no ?_
  refine ⟨?_⟩
  refine ret1 (fn := Tryz.f96) (.slice oa X.length oc) rfl (by rfl) ?_
  have hZ : progsM Z = progsM X := by rw [hc.2.1, List.take_of_length_le (by simp [progsM])]
  have hzl : Z.length = X.length := by have := congrArg List.length hZ; simpa [progsM] using this
  rw [← hzl] at H
  exact ⟨Z, oa, oc, hZ, hzl, hc.2.2, by rw [← hzl], fun h => SL.slcAddr H (by omega), SL.all.2 H⟩
set_option maxHeartbeats 2000000 in
theorem p_copy {w : World} {F : List Piece} {A : Piece} {pa la da : Option Addr} {pc lc dc : Nat} {t m : Int} {X : List ProgX} {pl dr : List Int} (hX : 0 < X.length → ∃ b off, pa = some ⟨b, off, none⟩ ∧ ScrA A b off X) (hL : Reader A 1 la pl.length (ints pl)) (hD : Reader A 1 da dr.length (ints dr)) (h4 : ∀ p ∈ X, ∀ o ∈ p.ops, o.op.cases.length ≤ 4) (h32 : ∀ p ∈ X, p.ops.length ≤ 32) (h8 : X.length ≤ 8) (hpl : pl.length ≤ 200) (hdl : dr.length ≤ 64) (H : SL w (A :: F)) : Calls Tryz.prog 47 #[.agg #[.int .i64 t, .int .i64 m, .slice pa X.length pc, .slice la pl.length lc, .slice da dr.length dc]] w fun o w' => ∃ (Z : List ProgX) (va : Option Addr) (vc : Nat) (la' : Option Addr) (lc' : Nat) (da' : Option Addr) (dc' : Nat), progsM Z = progsM X ∧ Z.length = X.length ∧ (∀ p ∈ Z, GoodP p) ∧ (0 < X.length → ∃ b, va = some ⟨b, 0, none⟩) ∧ o = .returned (.agg #[.int .i64 t, .int .i64 m, .slice va X.length vc, .slice la' pl.length lc', .slice da' dr.length dc']) ∧ SL w' (scrP va vc Z :: A :: F) := by
 refine calls_den (args := [_]) Tryz.func47 rfl (Nat.le_of_ble_eq_true (by kernel_rfl)) (by kernel_rfl) ?_
 refine ⟨?_⟩
 refine Nw.as #[.int .i64 t, .int .i64 m, .slice pa X.length pc, .slice la pl.length lc, .slice da dr.length dc] 42 rfl H fun b1 w H => ?_
 refine Nw.as #[.int .i64 0, .int .i64 0, .slice none 0 0, .slice none 0 0, .slice none 0 0] 42 rfl H fun b2 w H => ?_
 refine ⟨?_⟩
 refine H.ldi 1 rfl (v := .slice pa X.length pc) rfl ?_
 have h1 := H.pick [2, 0, 1] 3 (by decide)
 simp only [pk, nth, pkA, pkB, pkC, pkD, pkE, pkF] at h1
 refine Cl.by (by kernel_rfl) (each_progs hX h4 h32 h8 h1) ?_
 rintro _ w ⟨Z, va, vc, hZ, hzl, hgood, rfl, hva, H⟩
 refine ⟨_, rfl, ?_⟩
 replace H := H.pick [0, 2, 3, 1] 4 (by decide)
 simp only [pk, nth, pkA, pkB, pkC, pkD, pkE, pkF] at H
 refine H.st2 (cs' := #[.int .i64 t, .int .i64 m, .slice va X.length vc, .slice la pl.length lc, .slice da dr.length dc]) rfl rfl rfl fun w H => ?_
 refine ⟨?_⟩
 refine Drw.oft (.calm 0 (.calm 1 (.calm 3 (.calm 4 (.act 2 false (.pure 6 (.act 5 true (.act 7 true (.pure 8 (.act 9 true .nil)))))))))) (by kernel_rfl) mixed (fun w => SL w _) H.drew ?_
 replace H := H.drew
 refine LdC.i 2 rfl (v := .slice la pl.length lc) rfl ?_
 refine LdC.i 2 rfl (v := .slice da dr.length dc) rfl ?_
 have h1 := H.pick [3, 0, 1, 2] 4 (by decide)
 simp only [pk, nth, pkA, pkB, pkC, pkD, pkE, pkF] at h1
 refine Cl.by (by kernel_rfl) (clone_int hL (ints_all _) (by omega) h1) ?_
 rintro _ w ⟨ka1, kc1, rfl, H⟩
 refine ⟨_, rfl, ?_⟩
 replace H := H.pick [0, 2, 3, 4, 1] 5 (by decide)
 simp only [pk, nth, pkA, pkB, pkC, pkD, pkE, pkF] at H
 refine ⟨.inr (H.pick [1, 2, 3, 4] 5 (by decide)), ?_⟩
 have h1 := H.pick [4, 0, 1, 2, 3] 5 (by decide)
 simp only [pk, nth, pkA, pkB, pkC, pkD, pkE, pkF] at h1
 refine Cl.by (by kernel_rfl) (clone_int hD (ints_all _) (by omega) h1) ?_
 rintro _ w ⟨ka2, kc2, rfl, H⟩
 refine ⟨_, rfl, ?_⟩
 replace H := H.pick [0, 2, 3, 4, 5, 1] 6 (by decide)
 simp only [pk, nth, pkA, pkB, pkC, pkD, pkE, pkF] at H
 refine ⟨.inl rfl, ?_⟩
 refine H.st4 (cs' := #[.int .i64 t, .int .i64 m, .slice va X.length vc, .slice ka1 pl.length kc1, .slice da dr.length dc]) rfl rfl rfl fun w H => ?_
 refine ⟨.inl rfl, ?_⟩
 refine H.st4 (cs' := #[.int .i64 t, .int .i64 m, .slice va X.length vc, .slice ka1 pl.length kc1, .slice ka2 dr.length kc2]) rfl rfl rfl fun w H => ?_
 refine ⟨.inl rfl, ?_⟩
 refine ⟨?_⟩
 refine H.ldi 4 rfl (v := .int .i64 t) rfl ?_
 refine H.ldi 4 rfl (v := .int .i64 m) rfl ?_
 refine H.ldi 4 rfl (v := .slice va X.length vc) rfl ?_
 refine H.ldi 4 rfl (v := .slice ka1 pl.length kc1) rfl ?_
 refine H.ldi 4 rfl (v := .slice ka2 dr.length kc2) rfl ?_
 refine H.st3 (cs' := #[.int .i64 t, .int .i64 0, .slice none 0 0, .slice none 0 0, .slice none 0 0]) rfl rfl rfl fun w H => ?_
 refine H.st3 (cs' := #[.int .i64 t, .int .i64 m, .slice none 0 0, .slice none 0 0, .slice none 0 0]) rfl rfl rfl fun w H => ?_
 refine H.st3 (cs' := #[.int .i64 t, .int .i64 m, .slice va X.length vc, .slice none 0 0, .slice none 0 0]) rfl rfl rfl fun w H => ?_
 refine H.st3 (cs' := #[.int .i64 t, .int .i64 m, .slice va X.length vc, .slice ka1 pl.length kc1, .slice none 0 0]) rfl rfl rfl fun w H => ?_
 refine H.st3 (cs' := #[.int .i64 t, .int .i64 m, .slice va X.length vc, .slice ka1 pl.length kc1, .slice ka2 dr.length kc2]) rfl rfl rfl fun w H => ?_
 refine retC (fn := Tryz.f47) H 3 rfl rfl (by rfl) (by kernel_rfl) (by kernel_rfl) ?_
 exact ⟨Z, va, vc, ka1, kc1, ka2, kc2, hZ, hzl, hgood, hva, rfl, H.pick [2, 5] 6 (by decide)⟩
end Go.Proofs.YtchkaaeoffmjnaaGreatDoor
namespace Go.Proofs.YtchkaaeoffmjnaaGreatDoor
set_option linter.unusedVariables false
set_option linter.unusedSimpArgs false
open Go.RowKit
set_option maxRecDepth 100000
theorem p_trace {w : World} {F : List Piece} {np k lb : Nat} {sc : ScrM} {x : LmM} {t m : Int} {vp vl vd : Value} {n0 n1 n2 n3 n4 n5 n6 n7 : Int} (hn : x.name = [n0, n1, n2, n3, n4, n5, n6, n7]) (hk : Lk np k x) (hkb : k ≤ 990000) (H : SL w (LmP lb sc ⟨t, m, vp, vl, vd⟩ x :: F)) : Calls Tryz.prog 29 #[.pointer (some ⟨lb, 0, none⟩)] w fun o w' => ∃ ka kc, o = .returned (.slice ka x.tr.length kc) ∧ SL w' (Slc 53 8 (.slice ka x.tr.length kc) x.tr.length (x.tr.flatMap Ev.cells) :: LmP lb sc ⟨t, m, vp, vl, vd⟩ x :: F) := by
 have hob := lm_open (x := x) hn H
 obtain ⟨cb1, crb1, pn1, pc1, ala1, alc1, ta1, tc1, ps1, hl1, H⟩ := hob
 refine calls_den (args := [_]) Tryz.func29 rfl (Nat.le_of_ble_eq_true (by kernel_rfl)) (by kernel_rfl) ?_
 refine ⟨?_⟩
 refine ⟨?_⟩
 refine BB.no rfl ?_
 refine Cn.no ?_
 refine ⟨?_⟩
 refine H.ldi 0 rfl (v := .slice ta1 x.tr.length tc1) rfl ?_
 have h1 := H.pick [6, 0, 1, 2, 3, 4, 5] 7 (by decide)
 simp only [pk, nth, pkA, pkB, pkC, pkD, pkE, pkF] at h1
 refine Cl.by (by kernel_rfl) (clone_ev Reader.slc (evs_one _) (Nat.lt_of_le_of_lt hk.tr (by omega)) h1) ?_
 rintro _ w ⟨ka, kc, rfl, H⟩
 refine ⟨_, rfl, ?_⟩
 replace H := H.pick [0, 2, 3, 4, 5, 6, 7, 1] 8 (by decide)
 simp only [pk, nth, pkA, pkB, pkC, pkD, pkE, pkF] at H
 refine ret1 (fn := Tryz.f29) (.slice ka x.tr.length kc) rfl (by rfl) ?_
 have H0 := H.pick [1, 2, 3, 4, 5, 6, 7, 0] 8 (by decide)
 simp only [pk, nth, pkA, pkB, pkC, pkD, pkE, pkF] at H0
 replace H := lm_shut (x := x) hl1 (by first | rfl | simp [turnL, noteL, backN_len]) hn H0
 exact ⟨ka, kc, rfl, H.pick [1, 0] 2 (by decide)⟩
theorem bad_mk {w : World} {F : List Piece} (lo : Int) (H : SL w F) : Calls Tryz.prog 93 #[.int .i64 lo] w fun o w' => ∃ bl, o = .returned (.func (.func 94) #[] #[.pointer (some ⟨bl, 0, none⟩)]) ∧ SL w' (row bl #[.int .i64 lo] 3 :: F) := by
 refine calls_den (args := [_]) Tryz.func93 rfl (Nat.le_of_ble_eq_true (by kernel_rfl)) (by kernel_rfl) ?_
 refine ⟨?_⟩
 refine Nw.as #[.int .i64 lo] 3 rfl H fun b1 w H => ?_
 refine ⟨?_⟩
 refine Mn.pure (.func (.func 94) #[] #[.pointer (some ⟨b1, 0, none⟩)]) (by kernel_rfl) ?_
 refine ret1 (fn := Tryz.f93) (.func (.func 94) #[] #[.pointer (some ⟨b1, 0, none⟩)]) rfl (by rfl) ?_
 exact ⟨b1, rfl, H⟩
theorem bad_no {P : Program} {f : FuncId} {args : Array Value} {w : World} {L : List Piece} {b : Bool} (h : Calls P f args w fun o w' => o = .returned (.bool b) ∧ SL w' L) (hb : b = false) : Calls P f args w fun o w' => o = .returned (.bool false) ∧ SL w' L := by rw [hb] at h; exact h
theorem p_pick {w : World} {F : List Piece} {A : Piece} {la da : Option Addr} {lc dc : Nat} {pl dr : List Int} (hL : Reader A 1 la pl.length (ints pl)) (hD : Reader A 1 da dr.length (ints dr)) (hbp : pl.any (fun z => decide (z < (-1)) || decide (z > 1000)) = false) (hbd : dr.any (fun z => decide (z < 0) || decide (z > 1000)) = false) (hpl : pl.length ≤ 200) (hdl : dr.length ≤ 64) (H : SL w (A :: F)) :
  Calls Tryz.prog 46 #[.slice la pl.length lc, .slice da dr.length dc] w fun o w' => ∃ cb, o = .returned (.tuple #[.pointer (some ⟨cb, 0, none⟩), .int .i64 0]) ∧ SL w' (CurP cb pl dr :: A :: F) := by
 refine calls_den (args := [_, _]) Tryz.func46 rfl (Nat.le_of_ble_eq_true (by kernel_rfl)) (by kernel_rfl) ?_
 refine ⟨?_⟩
 refine ⟨?_⟩
 refine BB.no (decide_eq_false (by omega)) ?_
 refine BB.no (decide_eq_false (by omega)) ?_
 refine Cn.no ?_
 refine ⟨?_⟩
 refine ⟨?_⟩
 refine Cl.by (by kernel_rfl) (bad_mk (-1) H) ?_
 rintro _ w ⟨bl1, rfl, H⟩
 refine ⟨_, rfl, ?_⟩
 have h1 := H
 refine Cl.sl (by kernel_rfl) (bad_no (bad_has hL (by omega) h1) hbp) fun w H => ?_
 refine BB.no rfl ?_
 refine Cl.by (by kernel_rfl) (bad_mk 0 H) ?_
 rintro _ w ⟨bl2, rfl, H⟩
 refine ⟨_, rfl, ?_⟩
 have h1 := H.pick [0, 2, 1] 3 (by decide)
 simp only [pk, nth, pkA, pkB, pkC, pkD, pkE, pkF] at h1
 refine Cl.sl (by kernel_rfl) (bad_no (bad_has hD (by omega) h1) hbd) fun w H => ?_
 replace H := H.pick [0, 2, 1] 3 (by decide)
 simp only [pk, nth, pkA, pkB, pkC, pkD, pkE, pkF] at H
 refine BB.no rfl ?_
 refine Cn.no ?_
 refine ⟨?_⟩
 have h1 := H.pick [2, 0, 1] 3 (by decide)
 simp only [pk, nth, pkA, pkB, pkC, pkD, pkE, pkF] at h1
 refine Cl.by (by kernel_rfl) (clone_int hL (ints_all _) (by omega) h1) ?_
 rintro _ w ⟨ka1, kc1, rfl, H⟩
 refine ⟨_, rfl, ?_⟩
 replace H := H.pick [0, 2, 3, 1] 4 (by decide)
 simp only [pk, nth, pkA, pkB, pkC, pkD, pkE, pkF] at H
 refine Mn.pure (.agg #[.slice ka1 pl.length kc1]) (by kernel_rfl) ?_
 have h1 := H.pick [3, 0, 1, 2] 4 (by decide)
 simp only [pk, nth, pkA, pkB, pkC, pkD, pkE, pkF] at h1
 refine Cl.by (by kernel_rfl) (clone_int hD (ints_all _) (by omega) h1) ?_
 rintro _ w ⟨ka2, kc2, rfl, H⟩
 refine ⟨_, rfl, ?_⟩
 replace H := H.pick [0, 2, 3, 4, 1] 5 (by decide)
 simp only [pk, nth, pkA, pkB, pkC, pkD, pkE, pkF] at H
 refine Mn.pure (.agg #[.slice ka2 dr.length kc2]) (by kernel_rfl) ?_
 refine Mn.pure (.agg #[.slice ka1 pl.length kc1, .slice ka2 dr.length kc2]) (by kernel_rfl) ?_
 refine Nw.as #[.slice ka1 pl.length kc1, .slice ka2 dr.length kc2] 160 rfl H fun b32 w H => ?_
 refine ret2 (fn := Tryz.f46) (.pointer (some ⟨b32, 0, none⟩)) (.int .i64 0) rfl (by rfl) (by rfl) ?_
 replace H := H.pick [0, 2, 1, 5] 6 (by decide)
 simp only [pk, nth, pkA, pkB, pkC, pkD, pkE, pkF] at H
 exact ⟨b32, rfl, CurP.iff.2 ⟨_, _, (SL.slcQu (SL.slcQu H.up1).up2).pick [2, 1, 0] 3 (by decide)⟩⟩
end Go.Proofs.YtchkaaeoffmjnaaGreatDoor
namespace Go.Proofs.YtchkaaeoffmjnaaGreatDoor
set_option linter.unusedVariables false
set_option linter.unusedSimpArgs false
open Go.RowKit
set_option maxRecDepth 100000
def nm8 (j i : Nat) : Int := if i < j then -1 else 0
end Go.Proofs.YtchkaaeoffmjnaaGreatDoor
namespace Go.Proofs.YtchkaaeoffmjnaaGreatDoor
set_option linter.unusedVariables false
set_option linter.unusedSimpArgs false
open Go.RowKit
theorem wakes_p (x : LmM) (g ch : Int) (ws : List Wtr) : (wakesL x g ch ws).p = x.p := by
 induction ws generalizing x with
 | nil => rfl
 | cons z a ih =>
  unfold wakesL
  rw [ih]
  split <;> rfl
theorem senders_p (x : LmM) (ws : List Wtr) : (sendersL x ws).p = x.p := by
 induction ws generalizing x with
 | nil => rfl
 | cons z a ih =>
  unfold sendersL
  split
  ·rfl
  ·exact ih _
theorem talk_p (x : LmM) (g : Int) (c : CaseM) (a : Int) : (talkL x g c a).p = x.p := by
 unfold talkL
 dsimp only
 split
 ·rfl
 ·split <;> rfl
theorem alone_p (x : LmM) (g : Int) (c : CaseM) : (aloneL x g c).p = x.p := by
 unfold aloneL
 split
 ·exact talk_p ..
 ·dsimp only
  split <;> rfl
theorem shut_p (x : LmM) (g c : Int) : (shutL x g c).p = x.p := by
 unfold shutL
 dsimp only
 split
 ·rfl
 ·split
  ·rfl
  ·rw [senders_p, wakes_p]
   rfl
theorem choose_p (s : ScrM) (x : LmM) (g : Int) (o : OpM) : (chooseL s x g o).p = x.p := by
 unfold chooseL
 dsimp only
 split
 ·rw [talk_p, drawL_I]
 ·split <;> rfl
theorem other_p (x : LmM) (g : Int) (o : OpM) : (otherL x g o).p = x.p := by
 unfold otherL
 split
 ·rfl
 ·split
  ·rfl
  ·split
   ·rfl
   ·split <;> rfl
theorem does_p (s : ScrM) (x : LmM) (g : Int) (o : OpM) : (doesL s x g o).p = x.p := by
 unfold doesL
 split
 ·rw [alone_p]
 ·split
  ·rw [alone_p]
  ·split
   ·rw [shut_p]
   ·split
    ·rw [choose_p]
    ·rw [other_p]
theorem checkE_drawsB {s : ScrM} (h : checkE s = 0) : ∀ z ∈ s.draws, 0 ≤ z ∧ z ≤ 1000 := by
 unfold checkE at h
 split at h
 ·cases h
 ·split at h
  ·cases h
  ·split at h
   ·cases h
   ·split at h
    ·cases h
    ·split at h
     ·cases h
     ·split at h
      ·cases h
      ·split at h
       ·cases h
       ·rename_i h7
        simp only [Bool.not_eq_false] at h7
        intro z hz
        have := List.all_eq_true.1 h7 z hz
        simpa [drawOk] using this
end Go.Proofs.YtchkaaeoffmjnaaGreatDoor
namespace Go.Proofs.YtchkaaeoffmjnaaGreatDoor
set_option linter.unusedVariables false
set_option linter.unusedSimpArgs false
open Go.RowKit
set_option maxRecDepth 100000
theorem right_parts {t m : Int} {X : List ProgX} {pl dr : List Int} (hck : checkE ⟨t, m, progsM X, pl, dr⟩ = 0) : pl.length ≤ 200 ∧ dr.length ≤ 64 ∧ X.length ≤ 8 ∧ (∀ p ∈ X, p.ops.length ≤ 32) ∧ (∀ p ∈ X, ∀ o ∈ p.ops, o.op.cases.length ≤ 4) ∧ pl.any (fun z => decide (z < (-1)) || decide (z > 1000)) = false ∧ dr.any (fun z => decide (z < 0) || decide (z > 1000)) = false := by
 have hr := checkE_right hck
 have h8 : X.length ≤ 8 := by
  unfold checkE at hck
  split at hck
  ·cases hck
  ·split at hck
   ·cases hck
   ·rename_i h
    simp [progsM] at h
    omega
 refine ⟨hr.pl, hr.dl, h8, fun p hp => ?_, fun p hp o ho => ?_, ?_, ?_⟩
 ·have := hr.ol (p.ops.map (·.op)) (List.mem_map.2 ⟨p, hp, rfl⟩)
  simpa using this
 ·exact (hr.ok (p.ops.map (·.op)) (List.mem_map.2 ⟨p, hp, rfl⟩) o.op (List.mem_map.2 ⟨o, ho, rfl⟩)).cl
 ·rw [List.any_eq_false]
  intro z hz
  have h0 := hr.p0 z hz
  have h1 := hr.p1 z hz
  simp
  omega
 ·rw [List.any_eq_false]
  intro z hz
  have h0 := checkE_drawsB hck z hz
  simp
  omega
theorem p_copyZ {w : World} {F : List Piece} {A : Piece} {pa la da : Option Addr} {pc lc dc : Nat} {t m : Int} {X : List ProgX} {pl dr : List Int} (hX : 0 < X.length → ∃ b off, pa = some ⟨b, off, none⟩ ∧ ScrA A b off X) (hL : Reader A 1 la pl.length (ints pl)) (hD : Reader A 1 da dr.length (ints dr)) (h4 : ∀ p ∈ X, ∀ o ∈ p.ops, o.op.cases.length ≤ 4) (h32 : ∀ p ∈ X, p.ops.length ≤ 32) (h8 : X.length ≤ 8) (hpl : pl.length ≤ 200) (hdl : dr.length ≤ 64) (H : SL w (A :: F)) : Calls Tryz.prog 47 #[.agg #[.int .i64 t, .int .i64 m, .slice pa X.length pc, .slice la pl.length lc, .slice da dr.length dc]] w fun o w' => ∃ (Z : List ProgX) (va : Option Addr) (vc : Nat) (la' : Option Addr) (lc' : Nat) (da' : Option Addr) (dc' : Nat), progsM Z = progsM X ∧ Z.length = X.length ∧ (∀ p ∈ Z, GoodP p) ∧ (0 < X.length → ∃ b, va = some ⟨b, 0, none⟩) ∧ o = .returned (.agg #[.int .i64 t, .int .i64 m, .slice va Z.length vc, .slice la' pl.length lc', .slice da' dr.length dc']) ∧ SL w' (scrP va vc Z :: A :: F) := by
 refine (p_copy hX hL hD h4 h32 h8 hpl hdl H).mono ?_
 rintro o w' ⟨Z, va, vc, la', lc', da', dc', hZ, hzl, hg, hva, rfl, H⟩
 exact ⟨Z, va, vc, la', lc', da', dc', hZ, hzl, hg, hva, by rw [hzl], H⟩
theorem nm_set9 (a0 a1 a2 a3 a4 a5 a6 a7 av tv pv : Value) (j : Nat) (hj : j < 8) :
  #[a0, a1, a2, a3, a4, a5, a6, a7, .int .i64 (nm8 j 0), .int .i64 (nm8 j 1), .int .i64 (nm8 j 2), .int .i64 (nm8 j 3), .int .i64 (nm8 j 4), .int .i64 (nm8 j 5), .int .i64 (nm8 j 6), .int .i64 (nm8 j 7), av, tv, pv].setIfInBounds (8 + j * 1) (.int .i64 (-1)) =
   #[a0, a1, a2, a3, a4, a5, a6, a7, .int .i64 (nm8 (j + 1) 0), .int .i64 (nm8 (j + 1) 1), .int .i64 (nm8 (j + 1) 2), .int .i64 (nm8 (j + 1) 3), .int .i64 (nm8 (j + 1) 4), .int .i64 (nm8 (j + 1) 5), .int .i64 (nm8 (j + 1) 6), .int .i64 (nm8 (j + 1) 7), av, tv, pv] := by
 match j, hj with
 | 0, _ | 1, _ | 2, _ | 3, _ | 4, _ | 5, _ | 6, _ | 7, _ => rfl
theorem lm_new {w : World} {F : List Piece} {lb cb crb pn : Nat} {sc : ScrM} {t m : Int} {vp vl vd : Value} (H : SL w (row lb #[.int .i64 t, .int .i64 m, vp, vl, vd, .pointer (some ⟨cb, 0, none⟩), .pointer (some ⟨crb, 0, none⟩), .slice (some ⟨pn, 0, none⟩) 8 8, .int .i64 (nm8 8 0), .int .i64 (nm8 8 1), .int .i64 (nm8 8 2), .int .i64 (nm8 8 3), .int .i64 (nm8 8 4), .int .i64 (nm8 8 5), .int .i64 (nm8 8 6), .int .i64 (nm8 8 7), .slice none 0 0, .slice none 0 0, .bool false] 97 ::
   CurP cb sc.plan sc.draws :: CrewP crb [⟨0, 0, 0⟩] :: row pn #[.pointer none, .pointer none, .pointer none, .pointer none, .pointer none, .pointer none, .pointer none, .pointer none] 176 :: F)) : SL w (LmP lb sc ⟨t, m, vp, vl, vd⟩ newL :: F) :=
 LmP.iff.2 ⟨cb, crb, .slice (some ⟨pn, 0, none⟩) 8 8, .slice none 0 0, .slice none 0 0, [], ⟨rfl, rfl⟩,
  (SL.slcNil 176 1 (SL.all.2 (SL.slcNil 53 8 (SL.rowSlc (te := 176) (sz := 1) (n := 8) (b := pn) (xs := [.pointer none, .pointer none, .pointer none, .pointer none, .pointer none, .pointer none, .pointer none, .pointer none]) rfl (by decide) H.up3)) : SL w (PsP [] [] :: _))).pick [4, 5, 6, 3, 0, 1, 2] 7 (by decide)⟩
set_option maxHeartbeats 4000000 in
theorem p_new_ok {w : World} {F : List Piece} {A : Piece} {pa la da : Option Addr} {pc lc dc : Nat} {t m : Int} {X : List ProgX} {pl dr : List Int} (hX : 0 < X.length → ∃ b off, pa = some ⟨b, off, none⟩ ∧ ScrA A b off X) (hL : Reader A 1 la pl.length (ints pl)) (hD : Reader A 1 da dr.length (ints dr)) (hck : checkE ⟨t, m, progsM X, pl, dr⟩ = 0) (H : SL w (A :: F)) : Calls Tryz.prog 21 #[.agg #[.int .i64 t, .int .i64 m, .slice pa X.length pc, .slice la pl.length lc, .slice da dr.length dc]] w fun o w' => ∃ (lb : Nat) (Z : List ProgX) (vb vc : Nat) (la' : Option Addr) (lc' : Nat) (da' : Option Addr) (dc' : Nat), progsM Z = progsM X ∧ Z.length = X.length ∧ (∀ p ∈ Z, GoodP p) ∧ o = .returned (.tuple #[.pointer (some ⟨lb, 0, none⟩), .int .i64 0]) ∧ SL w' (LmP lb ⟨t, m, progsM X, pl, dr⟩ ⟨t, m, .slice (some ⟨vb, 0, none⟩) Z.length vc, .slice la' pl.length lc', .slice da' dr.length dc'⟩ newL :: scrP (some ⟨vb, 0, none⟩) vc Z :: A :: F) := by
 have hr := checkE_right hck
 have hn1 : 1 ≤ X.length := by have := hr.n1; simpa [progsM] using this
 obtain ⟨hpl, hdl, h8, h32, h4, hbp, hbd⟩ := right_parts hck
 refine calls_den (args := [_]) Tryz.func21 rfl (Nat.le_of_ble_eq_true (by kernel_rfl)) (by kernel_rfl) ?_
 refine ⟨?_⟩
 refine Nw.as #[.int .i64 t, .int .i64 m, .slice pa X.length pc, .slice la pl.length lc, .slice da dr.length dc] 42 rfl H fun b1 w H => ?_
 refine ⟨?_⟩
 refine H.ldi 0 rfl (v := .int .i64 t) rfl ?_
 refine H.ldi 0 rfl (v := .int .i64 m) rfl ?_
 refine H.ldi 0 rfl (v := .slice pa X.length pc) rfl ?_
 refine H.ldi 0 rfl (v := .slice la pl.length lc) rfl ?_
 refine H.ldi 0 rfl (v := .slice da dr.length dc) rfl ?_
 have h1 := H.pick [1, 0] 2 (by decide)
 simp only [pk, nth, pkA, pkB, pkC, pkD, pkE, pkF] at h1
 refine Cl.sl (by kernel_rfl) (p_check hX hL hD h1) fun w H => ?_
 replace H := H.pick [1, 0] 2 (by decide)
 simp only [pk, nth, pkA, pkB, pkC, pkD, pkE, pkF] at H
 rw [hck]
 refine ⟨?_⟩
 refine BB.no rfl ?_
 refine Cn.no ?_
 refine ⟨?_⟩
 refine H.ldi 0 rfl (v := .slice la pl.length lc) rfl ?_
 refine H.ldi 0 rfl (v := .slice da dr.length dc) rfl ?_
 have h1 := H.pick [1, 0] 2 (by decide)
 simp only [pk, nth, pkA, pkB, pkC, pkD, pkE, pkF] at h1
 refine Cl.by (by kernel_rfl) (p_pick hL hD hbp hbd hpl hdl h1) ?_
 rintro _ w ⟨cb, rfl, H⟩
 refine ⟨_, rfl, ?_⟩
 replace H := H.pick [0, 2, 1] 3 (by decide)
 simp only [pk, nth, pkA, pkB, pkC, pkD, pkE, pkF] at H
 refine ⟨?_⟩
 refine Drw.oft (.calm 0 (.calm 2 (.two 1 false (.two 3 false (.act 4 false (.act 5 true (.act 6 true (.pure 7 .nil)))) 4 false (.act 3 false (.act 5 true (.act 6 true (.pure 7 .nil))))) 4 false (.act 1 false (.act 3 false (.act 5 true (.act 6 true (.pure 7 .nil)))))))) (by kernel_rfl) mixed (fun w => SL w _) H.drew ?_
 replace H := H.drew
 refine LdC.i 1 rfl (v := .int .i64 t) rfl ?_
 refine LdC.i 1 rfl (v := .int .i64 m) rfl ?_
 refine LdC.i 1 rfl (v := .slice pa X.length pc) rfl ?_
 refine LdC.i 1 rfl (v := .slice la pl.length lc) rfl ?_
 refine LdC.i 1 rfl (v := .slice da dr.length dc) rfl ?_
 refine ⟨?_, ?_⟩
 ·skip
  have h1 := H.pick [2, 0, 1] 3 (by decide)
  simp only [pk, nth, pkA, pkB, pkC, pkD, pkE, pkF] at h1
  refine Cl.by (by kernel_rfl) (p_copyZ hX hL hD h4 h32 h8 hpl hdl h1) ?_
  rintro _ w ⟨Z, va, vc, la', lc', da', dc', hZ, hzl, hgood, hva, rfl, H⟩
  refine ⟨_, rfl, ?_⟩
  have hob := hva (by omega)
  obtain ⟨vb, rfl⟩ := hob
  replace H := H.pick [0, 2, 3, 1] 4 (by decide)
  simp only [pk, nth, pkA, pkB, pkC, pkD, pkE, pkF] at H
  refine ⟨.inr (H.pick [1, 2, 3] 4 (by decide)), ?_⟩
  refine ⟨?_, ?_⟩
  ·skip
   refine Cl.by (by kernel_rfl) (p_new H) ?_
   rintro _ w ⟨crb, rfl, H⟩
   refine ⟨_, rfl, ?_⟩
   refine ⟨.inr (H.pick [2, 3, 4] 5 (by decide)), ?_⟩
   refine Mn.new (fun b => .slice (some ⟨b, 0, none⟩) 8 8) #[.pointer none, .pointer none, .pointer none, .pointer none, .pointer none, .pointer none, .pointer none, .pointer none] 176 (by kernel_rfl) H fun pn w H => ?_
   refine ⟨.inr (H.pick [3, 4, 5] 6 (by decide)), ?_⟩
   refine Mn.pure (.agg #[.int .i64 t, .int .i64 m, .slice (some ⟨vb, 0, none⟩) Z.length vc, .slice la' pl.length lc', .slice da' dr.length dc', .pointer (some ⟨cb, 0, none⟩), .pointer (some ⟨crb, 0, none⟩), .slice (some ⟨pn, 0, none⟩) 8 8, .int .i64 0, .int .i64 0, .int .i64 0, .int .i64 0, .int .i64 0, .int .i64 0, .int .i64 0, .int .i64 0, .slice none 0 0, .slice none 0 0, .bool false]) (by kernel_rfl) ?_
   refine ⟨.inl rfl, ?_⟩
   refine Nw.as #[.int .i64 t, .int .i64 m, .slice (some ⟨vb, 0, none⟩) Z.length vc, .slice la' pl.length lc', .slice da' dr.length dc', .pointer (some ⟨cb, 0, none⟩), .pointer (some ⟨crb, 0, none⟩), .slice (some ⟨pn, 0, none⟩) 8 8, .int .i64 0, .int .i64 0, .int .i64 0, .int .i64 0, .int .i64 0, .int .i64 0, .int .i64 0, .int .i64 0, .slice none 0 0, .slice none 0 0, .bool false] 97 rfl H fun b28 w H => ?_
   refine ⟨.inl rfl, ?_⟩
   refine ⟨?_⟩
   refine ⟨?_⟩
   refine den.loop (ι := Nat) [(8, 8), (29, 37)] (by kernel_rfl) (fun j => [(29, .int .i64 ↑j)]) (fun j w => j ≤ 8 ∧ SL w (row b28 #[.int .i64 t, .int .i64 m, .slice (some ⟨vb, 0, none⟩) Z.length vc, .slice la' pl.length lc', .slice da' dr.length dc', .pointer (some ⟨cb, 0, none⟩), .pointer (some ⟨crb, 0, none⟩), .slice (some ⟨pn, 0, none⟩) 8 8, .int .i64 (nm8 j 0), .int .i64 (nm8 j 1), .int .i64 (nm8 j 2), .int .i64 (nm8 j 3), .int .i64 (nm8 j 4), .int .i64 (nm8 j 5), .int .i64 (nm8 j 6), .int .i64 (nm8 j 7), .slice none 0 0, .slice none 0 0, .bool false] 97 :: CurP cb pl dr :: CrewP crb [] :: row pn #[.pointer none, .pointer none, .pointer none, .pointer none, .pointer none, .pointer none, .pointer none, .pointer none] 176 :: scrP (some ⟨vb, 0, none⟩) vc Z :: A :: F)) (fun j => 8 - j) 0 ⟨rfl, trivial⟩ ⟨Nat.zero_le _, (H.pick [0, 4, 2, 1, 3, 6] 7 (by decide))⟩ ?_
   rintro j s w ⟨hc, H⟩
   have h8' : j < 8 ∨ j = 8 := by omega
   rcases h8' with hj | rfl
   ·skip
    refine ⟨?_⟩
    refine BB.yes (decide_eq_true (by omega)) ?_
    refine Cn.yes ?_
    refine ⟨?_⟩
    refine ⟨?_⟩
    refine ⟨?_⟩
    refine Ix.at j 1 (by kernel_rfl) rfl hj ?_
    refine H.st0 (cs' := #[.int .i64 t, .int .i64 m, .slice (some ⟨vb, 0, none⟩) Z.length vc, .slice la' pl.length lc', .slice da' dr.length dc', .pointer (some ⟨cb, 0, none⟩), .pointer (some ⟨crb, 0, none⟩), .slice (some ⟨pn, 0, none⟩) 8 8, .int .i64 (nm8 (j + 1) 0), .int .i64 (nm8 (j + 1) 1), .int .i64 (nm8 (j + 1) 2), .int .i64 (nm8 (j + 1) 3), .int .i64 (nm8 (j + 1) 4), .int .i64 (nm8 (j + 1) 5), .int .i64 (nm8 (j + 1) 6), .int .i64 (nm8 (j + 1) 7), .slice none 0 0, .slice none 0 0, .bool false]) (nm_set9 _ _ _ _ _ _ _ _ _ _ _ j hj) (by simp [Nat.blt_eq]; omega) rfl fun w H => ?_
    refine ⟨?_⟩
    refine IW.by (wrap_id (n := ↑j + 1) (by omega) (by omega)) ?_
    exact ⟨j + 1, ⟨rfl, trivial⟩, ⟨(show j + 1 ≤ 8 by omega), H⟩, (show 8 - (j + 1) < 8 - j by omega)⟩
   ·skip
    refine ⟨?_⟩
    refine BB.no rfl ?_
    refine Cn.no ?_
    refine ⟨?_⟩
    refine H.ldi 0 rfl (v := .pointer (some ⟨crb, 0, none⟩)) rfl ?_
    have h1 := H.pick [2, 0, 1, 3, 4, 5] 6 (by decide)
    simp only [pk, nth, pkA, pkB, pkC, pkD, pkE, pkF] at h1
    refine Cl.sl (by kernel_rfl) (p_spawn (L := []) (Nat.zero_le _) 0 h1) fun w H => ?_
    replace H := H.pick [1, 2, 0, 3, 4, 5] 6 (by decide)
    simp only [pk, nth, pkA, pkB, pkC, pkD, pkE, pkF] at H
    refine ⟨?_⟩
    refine ret2 (fn := Tryz.f21) (.pointer (some ⟨b28, 0, none⟩)) (.int .i64 0) rfl (by rfl) (by rfl) ?_
    exact ⟨b28, Z, vb, vc, la', lc', da', dc', hZ, hzl, hgood, rfl, lm_new (sc := ⟨t, m, progsM X, pl, dr⟩) H⟩
  ·skip
   refine Mn.new (fun b => .slice (some ⟨b, 0, none⟩) 8 8) #[.pointer none, .pointer none, .pointer none, .pointer none, .pointer none, .pointer none, .pointer none, .pointer none] 176 (by kernel_rfl) H fun pn w H => ?_
   refine ⟨.inr (H.pick [2, 3, 4] 5 (by decide)), ?_⟩
   refine Cl.by (by kernel_rfl) (p_new H) ?_
   rintro _ w ⟨crb, rfl, H⟩
   refine ⟨_, rfl, ?_⟩
   refine ⟨.inr (H.pick [3, 4, 5] 6 (by decide)), ?_⟩
   refine Mn.pure (.agg #[.int .i64 t, .int .i64 m, .slice (some ⟨vb, 0, none⟩) Z.length vc, .slice la' pl.length lc', .slice da' dr.length dc', .pointer (some ⟨cb, 0, none⟩), .pointer (some ⟨crb, 0, none⟩), .slice (some ⟨pn, 0, none⟩) 8 8, .int .i64 0, .int .i64 0, .int .i64 0, .int .i64 0, .int .i64 0, .int .i64 0, .int .i64 0, .int .i64 0, .slice none 0 0, .slice none 0 0, .bool false]) (by kernel_rfl) ?_
   refine ⟨.inl rfl, ?_⟩
   refine Nw.as #[.int .i64 t, .int .i64 m, .slice (some ⟨vb, 0, none⟩) Z.length vc, .slice la' pl.length lc', .slice da' dr.length dc', .pointer (some ⟨cb, 0, none⟩), .pointer (some ⟨crb, 0, none⟩), .slice (some ⟨pn, 0, none⟩) 8 8, .int .i64 0, .int .i64 0, .int .i64 0, .int .i64 0, .int .i64 0, .int .i64 0, .int .i64 0, .int .i64 0, .slice none 0 0, .slice none 0 0, .bool false] 97 rfl H fun b28 w H => ?_
   refine ⟨.inl rfl, ?_⟩
   refine ⟨?_⟩
   refine ⟨?_⟩
   refine den.loop (ι := Nat) [(8, 8), (29, 37)] (by kernel_rfl) (fun j => [(29, .int .i64 ↑j)]) (fun j w => j ≤ 8 ∧ SL w (row b28 #[.int .i64 t, .int .i64 m, .slice (some ⟨vb, 0, none⟩) Z.length vc, .slice la' pl.length lc', .slice da' dr.length dc', .pointer (some ⟨cb, 0, none⟩), .pointer (some ⟨crb, 0, none⟩), .slice (some ⟨pn, 0, none⟩) 8 8, .int .i64 (nm8 j 0), .int .i64 (nm8 j 1), .int .i64 (nm8 j 2), .int .i64 (nm8 j 3), .int .i64 (nm8 j 4), .int .i64 (nm8 j 5), .int .i64 (nm8 j 6), .int .i64 (nm8 j 7), .slice none 0 0, .slice none 0 0, .bool false] 97 :: CurP cb pl dr :: CrewP crb [] :: row pn #[.pointer none, .pointer none, .pointer none, .pointer none, .pointer none, .pointer none, .pointer none, .pointer none] 176 :: scrP (some ⟨vb, 0, none⟩) vc Z :: A :: F)) (fun j => 8 - j) 0 ⟨rfl, trivial⟩ ⟨Nat.zero_le _, (H.pick [0, 4, 1, 2, 3, 6] 7 (by decide))⟩ ?_
   rintro j s w ⟨hc, H⟩
   have h8' : j < 8 ∨ j = 8 := by omega
   rcases h8' with hj | rfl
   ·skip
    refine ⟨?_⟩
    refine BB.yes (decide_eq_true (by omega)) ?_
    refine Cn.yes ?_
    refine ⟨?_⟩
    refine ⟨?_⟩
    refine ⟨?_⟩
    refine Ix.at j 1 (by kernel_rfl) rfl hj ?_
    refine H.st0 (cs' := #[.int .i64 t, .int .i64 m, .slice (some ⟨vb, 0, none⟩) Z.length vc, .slice la' pl.length lc', .slice da' dr.length dc', .pointer (some ⟨cb, 0, none⟩), .pointer (some ⟨crb, 0, none⟩), .slice (some ⟨pn, 0, none⟩) 8 8, .int .i64 (nm8 (j + 1) 0), .int .i64 (nm8 (j + 1) 1), .int .i64 (nm8 (j + 1) 2), .int .i64 (nm8 (j + 1) 3), .int .i64 (nm8 (j + 1) 4), .int .i64 (nm8 (j + 1) 5), .int .i64 (nm8 (j + 1) 6), .int .i64 (nm8 (j + 1) 7), .slice none 0 0, .slice none 0 0, .bool false]) (nm_set9 _ _ _ _ _ _ _ _ _ _ _ j hj) (by simp [Nat.blt_eq]; omega) rfl fun w H => ?_
    refine ⟨?_⟩
    refine IW.by (wrap_id (n := ↑j + 1) (by omega) (by omega)) ?_
    exact ⟨j + 1, ⟨rfl, trivial⟩, ⟨(show j + 1 ≤ 8 by omega), H⟩, (show 8 - (j + 1) < 8 - j by omega)⟩
   ·skip
    refine ⟨?_⟩
    refine BB.no rfl ?_
    refine Cn.no ?_
    refine ⟨?_⟩
    refine H.ldi 0 rfl (v := .pointer (some ⟨crb, 0, none⟩)) rfl ?_
    have h1 := H.pick [2, 0, 1, 3, 4, 5] 6 (by decide)
    simp only [pk, nth, pkA, pkB, pkC, pkD, pkE, pkF] at h1
    refine Cl.sl (by kernel_rfl) (p_spawn (L := []) (Nat.zero_le _) 0 h1) fun w H => ?_
    replace H := H.pick [1, 2, 0, 3, 4, 5] 6 (by decide)
    simp only [pk, nth, pkA, pkB, pkC, pkD, pkE, pkF] at H
    refine ⟨?_⟩
    refine ret2 (fn := Tryz.f21) (.pointer (some ⟨b28, 0, none⟩)) (.int .i64 0) rfl (by rfl) (by rfl) ?_
    exact ⟨b28, Z, vb, vc, la', lc', da', dc', hZ, hzl, hgood, rfl, lm_new (sc := ⟨t, m, progsM X, pl, dr⟩) H⟩
 ·skip
  refine Mn.new (fun b => .slice (some ⟨b, 0, none⟩) 8 8) #[.pointer none, .pointer none, .pointer none, .pointer none, .pointer none, .pointer none, .pointer none, .pointer none] 176 (by kernel_rfl) H fun pn w H => ?_
  refine ⟨.inr (H.pick [1, 2, 3] 4 (by decide)), ?_⟩
  have h1 := H.pick [3, 0, 1, 2] 4 (by decide)
  simp only [pk, nth, pkA, pkB, pkC, pkD, pkE, pkF] at h1
  refine Cl.by (by kernel_rfl) (p_copyZ hX hL hD h4 h32 h8 hpl hdl h1) ?_
  rintro _ w ⟨Z, va, vc, la', lc', da', dc', hZ, hzl, hgood, hva, rfl, H⟩
  refine ⟨_, rfl, ?_⟩
  have hob := hva (by omega)
  obtain ⟨vb, rfl⟩ := hob
  replace H := H.pick [0, 2, 3, 4, 1] 5 (by decide)
  simp only [pk, nth, pkA, pkB, pkC, pkD, pkE, pkF] at H
  refine ⟨.inr (H.pick [2, 3, 4] 5 (by decide)), ?_⟩
  refine Cl.by (by kernel_rfl) (p_new H) ?_
  rintro _ w ⟨crb, rfl, H⟩
  refine ⟨_, rfl, ?_⟩
  refine ⟨.inr (H.pick [3, 4, 5] 6 (by decide)), ?_⟩
  refine Mn.pure (.agg #[.int .i64 t, .int .i64 m, .slice (some ⟨vb, 0, none⟩) Z.length vc, .slice la' pl.length lc', .slice da' dr.length dc', .pointer (some ⟨cb, 0, none⟩), .pointer (some ⟨crb, 0, none⟩), .slice (some ⟨pn, 0, none⟩) 8 8, .int .i64 0, .int .i64 0, .int .i64 0, .int .i64 0, .int .i64 0, .int .i64 0, .int .i64 0, .int .i64 0, .slice none 0 0, .slice none 0 0, .bool false]) (by kernel_rfl) ?_
  refine ⟨.inl rfl, ?_⟩
  refine Nw.as #[.int .i64 t, .int .i64 m, .slice (some ⟨vb, 0, none⟩) Z.length vc, .slice la' pl.length lc', .slice da' dr.length dc', .pointer (some ⟨cb, 0, none⟩), .pointer (some ⟨crb, 0, none⟩), .slice (some ⟨pn, 0, none⟩) 8 8, .int .i64 0, .int .i64 0, .int .i64 0, .int .i64 0, .int .i64 0, .int .i64 0, .int .i64 0, .int .i64 0, .slice none 0 0, .slice none 0 0, .bool false] 97 rfl H fun b28 w H => ?_
  refine ⟨.inl rfl, ?_⟩
  refine ⟨?_⟩
  refine ⟨?_⟩
  refine den.loop (ι := Nat) [(8, 8), (29, 37)] (by kernel_rfl) (fun j => [(29, .int .i64 ↑j)]) (fun j w => j ≤ 8 ∧ SL w (row b28 #[.int .i64 t, .int .i64 m, .slice (some ⟨vb, 0, none⟩) Z.length vc, .slice la' pl.length lc', .slice da' dr.length dc', .pointer (some ⟨cb, 0, none⟩), .pointer (some ⟨crb, 0, none⟩), .slice (some ⟨pn, 0, none⟩) 8 8, .int .i64 (nm8 j 0), .int .i64 (nm8 j 1), .int .i64 (nm8 j 2), .int .i64 (nm8 j 3), .int .i64 (nm8 j 4), .int .i64 (nm8 j 5), .int .i64 (nm8 j 6), .int .i64 (nm8 j 7), .slice none 0 0, .slice none 0 0, .bool false] 97 :: CurP cb pl dr :: CrewP crb [] :: row pn #[.pointer none, .pointer none, .pointer none, .pointer none, .pointer none, .pointer none, .pointer none, .pointer none] 176 :: scrP (some ⟨vb, 0, none⟩) vc Z :: A :: F)) (fun j => 8 - j) 0 ⟨rfl, trivial⟩ ⟨Nat.zero_le _, (H.pick [0, 4, 1, 3, 2, 6] 7 (by decide))⟩ ?_
  rintro j s w ⟨hc, H⟩
  have h8' : j < 8 ∨ j = 8 := by omega
  rcases h8' with hj | rfl
  ·skip
   refine ⟨?_⟩
   refine BB.yes (decide_eq_true (by omega)) ?_
   refine Cn.yes ?_
   refine ⟨?_⟩
   refine ⟨?_⟩
   refine ⟨?_⟩
   refine Ix.at j 1 (by kernel_rfl) rfl hj ?_
   refine H.st0 (cs' := #[.int .i64 t, .int .i64 m, .slice (some ⟨vb, 0, none⟩) Z.length vc, .slice la' pl.length lc', .slice da' dr.length dc', .pointer (some ⟨cb, 0, none⟩), .pointer (some ⟨crb, 0, none⟩), .slice (some ⟨pn, 0, none⟩) 8 8, .int .i64 (nm8 (j + 1) 0), .int .i64 (nm8 (j + 1) 1), .int .i64 (nm8 (j + 1) 2), .int .i64 (nm8 (j + 1) 3), .int .i64 (nm8 (j + 1) 4), .int .i64 (nm8 (j + 1) 5), .int .i64 (nm8 (j + 1) 6), .int .i64 (nm8 (j + 1) 7), .slice none 0 0, .slice none 0 0, .bool false]) (nm_set9 _ _ _ _ _ _ _ _ _ _ _ j hj) (by simp [Nat.blt_eq]; omega) rfl fun w H => ?_
   refine ⟨?_⟩
   refine IW.by (wrap_id (n := ↑j + 1) (by omega) (by omega)) ?_
   exact ⟨j + 1, ⟨rfl, trivial⟩, ⟨(show j + 1 ≤ 8 by omega), H⟩, (show 8 - (j + 1) < 8 - j by omega)⟩
  ·skip
   refine ⟨?_⟩
   refine BB.no rfl ?_
   refine Cn.no ?_
   refine ⟨?_⟩
   refine H.ldi 0 rfl (v := .pointer (some ⟨crb, 0, none⟩)) rfl ?_
   have h1 := H.pick [2, 0, 1, 3, 4, 5] 6 (by decide)
   simp only [pk, nth, pkA, pkB, pkC, pkD, pkE, pkF] at h1
   refine Cl.sl (by kernel_rfl) (p_spawn (L := []) (Nat.zero_le _) 0 h1) fun w H => ?_
   replace H := H.pick [1, 2, 0, 3, 4, 5] 6 (by decide)
   simp only [pk, nth, pkA, pkB, pkC, pkD, pkE, pkF] at H
   refine ⟨?_⟩
   refine ret2 (fn := Tryz.f21) (.pointer (some ⟨b28, 0, none⟩)) (.int .i64 0) rfl (by rfl) (by rfl) ?_
   exact ⟨b28, Z, vb, vc, la', lc', da', dc', hZ, hzl, hgood, rfl, lm_new (sc := ⟨t, m, progsM X, pl, dr⟩) H⟩
theorem p_new_no {w : World} {F : List Piece} {A : Piece} {pa la da : Option Addr} {pc lc dc : Nat} {t m : Int} {X : List ProgX} {pl dr : List Int} (hX : 0 < X.length → ∃ b off, pa = some ⟨b, off, none⟩ ∧ ScrA A b off X) (hL : Reader A 1 la pl.length (ints pl)) (hD : Reader A 1 da dr.length (ints dr)) (hck : checkE ⟨t, m, progsM X, pl, dr⟩ ≠ 0) (H : SL w (A :: F)) : Calls Tryz.prog 21 #[.agg #[.int .i64 t, .int .i64 m, .slice pa X.length pc, .slice la pl.length lc, .slice da dr.length dc]] w fun o w' => o = .returned (.tuple #[.pointer none, .int .i64 (checkE ⟨t, m, progsM X, pl, dr⟩)]) ∧ SL w' (A :: F) := by
 refine calls_den (args := [_]) Tryz.func21 rfl (Nat.le_of_ble_eq_true (by kernel_rfl)) (by kernel_rfl) ?_
 refine ⟨?_⟩
 refine Nw.as #[.int .i64 t, .int .i64 m, .slice pa X.length pc, .slice la pl.length lc, .slice da dr.length dc] 42 rfl H fun b1 w H => ?_
 refine ⟨?_⟩
 refine H.ldi 0 rfl (v := .int .i64 t) rfl ?_
 refine H.ldi 0 rfl (v := .int .i64 m) rfl ?_
 refine H.ldi 0 rfl (v := .slice pa X.length pc) rfl ?_
 refine H.ldi 0 rfl (v := .slice la pl.length lc) rfl ?_
 refine H.ldi 0 rfl (v := .slice da dr.length dc) rfl ?_
 have h1 := H.pick [1, 0] 2 (by decide)
 simp only [pk, nth, pkA, pkB, pkC, pkD, pkE, pkF] at h1
 refine Cl.sl (by kernel_rfl) (p_check hX hL hD h1) fun w H => ?_
 replace H := H.pick [1, 0] 2 (by decide)
 simp only [pk, nth, pkA, pkB, pkC, pkD, pkE, pkF] at H
 refine ⟨?_⟩
 refine BB.yes (bne_iff_ne.2 hck) ?_
 refine Cn.yes ?_
 refine ⟨?_⟩
 refine ret2 (fn := Tryz.f21) (.pointer none) (.int .i64 (checkE ⟨t, m, progsM X, pl, dr⟩)) rfl (by rfl) (by rfl) ?_
 exact ⟨rfl, H.pick [1] 2 (by decide)⟩
theorem step_p {s : ScrM} {x : LmM} (h : verL s x = 0) : (stepL s x).p = x.p + 1 := by
 unfold stepL
 rw [if_neg (fun hh => hh h)]
 split
 ·rfl
 ·exact does_p s { x with p := x.p + 1 } _ _
theorem run_stop {s : ScrM} {i n : Nat} (h : verL s (runL s i) ≠ 0) (hn : i ≤ n) : runL s n = runL s i := by
 induction n with
 | zero => rw [Nat.le_zero.1 hn]
 | succ n ih =>
  by_cases e : i = n + 1
  ·rw [e]
  ·have := ih (by omega)
   show stepL s (runL s n) = _
   rw [this, step_stop h]
set_option maxHeartbeats 4000000 in
theorem p_run {w : World} {F : List Piece} {A : Piece} {pa la da : Option Addr} {pc lc dc : Nat} {t m : Int} {X : List ProgX} {pl dr : List Int} (hX : 0 < X.length → ∃ b off, pa = some ⟨b, off, none⟩ ∧ ScrA A b off X) (hL : Reader A 1 la pl.length (ints pl)) (hD : Reader A 1 da dr.length (ints dr)) (hck : checkE ⟨t, m, progsM X, pl, dr⟩ = 0) (H : SL w (A :: F)) : Calls Tryz.prog 19 #[.agg #[.int .i64 t, .int .i64 m, .slice pa X.length pc, .slice la pl.length lc, .slice da dr.length dc]] w fun o w' => ∃ ka kc, o = .returned (.tuple #[.slice ka (runL ⟨t, m, progsM X, pl, dr⟩ (pl.length + 1)).tr.length kc, .int .i64 (verL ⟨t, m, progsM X, pl, dr⟩ (runL ⟨t, m, progsM X, pl, dr⟩ (pl.length + 1)))]) ∧ SL w' (Slc 53 8 (.slice ka (runL ⟨t, m, progsM X, pl, dr⟩ (pl.length + 1)).tr.length kc) (runL ⟨t, m, progsM X, pl, dr⟩ (pl.length + 1)).tr.length ((runL ⟨t, m, progsM X, pl, dr⟩ (pl.length + 1)).tr.flatMap Ev.cells) :: A :: F) := by
 have hr := checkE_right hck
 have hn1 : 1 ≤ X.length := by have := hr.n1; simpa [progsM] using this
 have hpl : pl.length ≤ 200 := hr.pl
 refine calls_den (args := [_]) Tryz.func19 rfl (Nat.le_of_ble_eq_true (by kernel_rfl)) (by kernel_rfl) ?_
 refine ⟨?_⟩
 refine Nw.as #[.int .i64 t, .int .i64 m, .slice pa X.length pc, .slice la pl.length lc, .slice da dr.length dc] 42 rfl H fun b1 w H => ?_
 refine ⟨?_⟩
 refine H.ldi 0 rfl (v := .int .i64 t) rfl ?_
 refine H.ldi 0 rfl (v := .int .i64 m) rfl ?_
 refine H.ldi 0 rfl (v := .slice pa X.length pc) rfl ?_
 refine H.ldi 0 rfl (v := .slice la pl.length lc) rfl ?_
 refine H.ldi 0 rfl (v := .slice da dr.length dc) rfl ?_
 have h1 := H.pick [1, 0] 2 (by decide)
 simp only [pk, nth, pkA, pkB, pkC, pkD, pkE, pkF] at h1
 refine Cl.by (by kernel_rfl) (p_new_ok hX hL hD hck h1) ?_
 rintro _ w ⟨lb, Z, vb, vc, la', lc', da', dc', hZ, hzl, hgood, rfl, H⟩
 refine ⟨_, rfl, ?_⟩
 have hXZ := scrP_A (vc := vc) hgood (rfl : some (⟨vb, 0, none⟩ : Addr) = _)
 replace H := H.pick [0, 1, 3, 2] 4 (by decide)
 simp only [pk, nth, pkA, pkB, pkC, pkD, pkE, pkF] at H
 refine ⟨?_⟩
 refine BB.no rfl ?_
 refine Cn.no ?_
 refine ⟨?_⟩
 refine den.loop (ι := Nat) [(13, 17)] (by kernel_rfl) (fun i => []) (fun i w => (i ≤ pl.length ∧ (runL ⟨t, m, progsM X, pl, dr⟩ i).p = i) ∧ SL w (LmP lb ⟨t, m, progsM X, pl, dr⟩ ⟨t, m, .slice (some ⟨vb, 0, none⟩) Z.length vc, .slice la' pl.length lc', .slice da' dr.length dc'⟩ (runL ⟨t, m, progsM X, pl, dr⟩ i) :: scrP (some ⟨vb, 0, none⟩) vc Z :: A :: F)) (fun i => pl.length - i) 0 trivial ⟨⟨Nat.zero_le _, rfl⟩, (H.pick [0, 1, 3] 4 (by decide))⟩ ?_
 rintro i s w ⟨hc, H⟩
 have hk := Lk.run (s := ⟨t, m, progsM X, pl, dr⟩) hr.ok (np := X.length) (by unfold progsM; rw [List.length_map]) hn1 i
 have hob := eight hk.n8
 obtain ⟨n0, n1, n2, n3, n4, n5, n6, n7, hn⟩ := hob
 refine ⟨?_⟩
 have h1 := H
 refine Cl.sl (by kernel_rfl) (p_verdict hn hk h1) fun w H => ?_
 refine BB.vr fun q1 e1 => ?_
 cases q1
 ·skip
  have h1 := beq_eq_false_iff_ne.1 e1
  refine Cn.no ?_
  refine ⟨?_⟩
  have h1 := H
  refine Cl.by (by kernel_rfl) (p_trace hn hk (by omega) h1) ?_
  rintro _ w ⟨ka, kc, rfl, H⟩
  refine ⟨_, rfl, ?_⟩
  have h1 := H.pick [1, 0, 2, 3] 4 (by decide)
  simp only [pk, nth, pkA, pkB, pkC, pkD, pkE, pkF] at h1
  refine Cl.sl (by kernel_rfl) (p_verdict hn hk h1) fun w H => ?_
  replace H := H.pick [1, 0, 2, 3] 4 (by decide)
  simp only [pk, nth, pkA, pkB, pkC, pkD, pkE, pkF] at H
  refine ret2 (fn := Tryz.f19) (.slice ka ((runL ⟨t, m, progsM X, pl, dr⟩ i).tr.length) kc) (.int .i64 (verL ⟨t, m, progsM X, pl, dr⟩ (runL ⟨t, m, progsM X, pl, dr⟩ i))) rfl (by rfl) (by rfl) ?_
  have hst : runL ⟨t, m, progsM X, pl, dr⟩ (pl.length + 1) = runL ⟨t, m, progsM X, pl, dr⟩ i := run_stop (by assumption) (by omega)
  rw [hst]
  exact ⟨ka, kc, rfl, H.pick [0, 3] 4 (by decide)⟩
 ·skip
  have h1 := eq_of_beq e1
  refine Cn.yes ?_
  refine ⟨?_⟩
  refine ⟨?_⟩
  have h1 := H
  refine Cl.by (by kernel_rfl) (p_step (sc := ⟨t, m, progsM X, pl, dr⟩) hn hk (by omega) hZ.symm hr.ok hzl hn1 hXZ hr.p0 hr.d0 h1) ?_
  rintro _ w ⟨ka, kc, rfl, H⟩
  refine ⟨_, rfl, ?_⟩
  replace H := H.tl
  have hob := ver_zero (s := ⟨t, m, progsM X, pl, dr⟩) (x := runL ⟨t, m, progsM X, pl, dr⟩ i) (by assumption)
  obtain ⟨_, _, hpp⟩ := hob
  have hil : i < pl.length := by rw [hc.2] at hpp; exact hpp
  exact ⟨i + 1, trivial, ⟨⟨by omega, by show (stepL ⟨t, m, progsM X, pl, dr⟩ (runL ⟨t, m, progsM X, pl, dr⟩ i)).p = i + 1; rw [step_p (by assumption), hc.2]⟩, H⟩, (show pl.length - (i + 1) < pl.length - i by omega)⟩
theorem p_run_no {w : World} {F : List Piece} {A : Piece} {pa la da : Option Addr} {pc lc dc : Nat} {t m : Int} {X : List ProgX} {pl dr : List Int} (hX : 0 < X.length → ∃ b off, pa = some ⟨b, off, none⟩ ∧ ScrA A b off X) (hL : Reader A 1 la pl.length (ints pl)) (hD : Reader A 1 da dr.length (ints dr)) (hck : checkE ⟨t, m, progsM X, pl, dr⟩ ≠ 0) (H : SL w (A :: F)) : Calls Tryz.prog 19 #[.agg #[.int .i64 t, .int .i64 m, .slice pa X.length pc, .slice la pl.length lc, .slice da dr.length dc]] w fun o w' => o = .returned (.tuple #[.slice none 0 0, .int .i64 0]) ∧ SL w' (A :: F) := by
 refine calls_den (args := [_]) Tryz.func19 rfl (Nat.le_of_ble_eq_true (by kernel_rfl)) (by kernel_rfl) ?_
 refine ⟨?_⟩
 refine Nw.as #[.int .i64 t, .int .i64 m, .slice pa X.length pc, .slice la pl.length lc, .slice da dr.length dc] 42 rfl H fun b1 w H => ?_
 refine ⟨?_⟩
 refine H.ldi 0 rfl (v := .int .i64 t) rfl ?_
 refine H.ldi 0 rfl (v := .int .i64 m) rfl ?_
 refine H.ldi 0 rfl (v := .slice pa X.length pc) rfl ?_
 refine H.ldi 0 rfl (v := .slice la pl.length lc) rfl ?_
 refine H.ldi 0 rfl (v := .slice da dr.length dc) rfl ?_
 have h1 := H.pick [1, 0] 2 (by decide)
 simp only [pk, nth, pkA, pkB, pkC, pkD, pkE, pkF] at h1
 refine Cl.sl (by kernel_rfl) (p_new_no hX hL hD hck h1) fun w H => ?_
 replace H := H.pick [1, 0] 2 (by decide)
 simp only [pk, nth, pkA, pkB, pkC, pkD, pkE, pkF] at H
 refine ⟨?_⟩
 refine BB.yes (bne_iff_ne.2 hck) ?_
 refine Cn.yes ?_
 refine ⟨?_⟩
 refine ret2 (fn := Tryz.f19) (.slice none 0 0) (.int .i64 0) rfl (by rfl) (by rfl) ?_
 exact ⟨rfl, H.pick [1] 2 (by decide)⟩
end Go.Proofs.YtchkaaeoffmjnaaGreatDoor
namespace Go.Proofs.YtchkaaeoffmjnaaGreatDoor
set_option linter.unusedVariables false
set_option linter.unusedSimpArgs false
open Go.ChangeShapes Go.WideShapes Go.ChangeAt Go.RowKit
theorem Opens.ex {α β : Type} {t : TypeId} {K : Kx α} {K' : Kx β} (h : Opens t K) (hf : ∀ w v cs, K w v cs → ∃ v', K' w v' cs) : Opens t K' := by
 refine ⟨?_⟩
 intro H enc w base sp held fuel cs x hx
 obtain ⟨v, hv⟩ := h.out hx
 exact hf _ _ _ hv
def kCase : Kx CaseM := fun _ c cs => cs = c.cells
theorem opens_case : Opens 154 kCase :=
 (opens_struct (fs := [_, _, _]) (sz := 3) Tryz.underlying154 (by kernel_rfl)
  (parts_cons (sz := 1) (m := 2) rfl (by kernel_rfl) (opens_bool Tryz.underlying4) (by decide)
  (parts_cons (sz := 1) (m := 1) rfl (by kernel_rfl) (opens_int Tryz.underlying3) (by decide)
  (parts_one (sz := 1) rfl (by kernel_rfl) (opens_int Tryz.underlying3))))).imp
  (fun v => ⟨v.1, v.2.1, v.2.2⟩) (fun w v cs h => by
   obtain ⟨v1, v2, v3⟩ := v
   obtain ⟨_, _, rfl, rfl, _, _, rfl, ⟨rfl, _⟩, rfl, _⟩ := h
   rfl)
def kOp : Kx OpX := fun w o cs => cs = o.cells ∧ o.op.cases.length ≤ o.cc ∧ Rd w 3 o.ca o.op.cases.length (o.op.cases.flatMap CaseM.cells)
theorem opens_op : Opens 66 kOp :=
 (opens_struct (fs := [_, _, _, _, _]) (sz := 5) Tryz.underlying66 (by kernel_rfl)
  (parts_cons (sz := 1) (m := 4) rfl (by kernel_rfl) (opens_int Tryz.underlying3) (by decide)
  (parts_cons (sz := 1) (m := 3) rfl (by kernel_rfl) (opens_int Tryz.underlying3) (by decide)
  (parts_cons (sz := 1) (m := 2) rfl (by kernel_rfl) (opens_int Tryz.underlying3) (by decide)
  (parts_cons (sz := 1) (m := 1) rfl (by kernel_rfl) (opens_slice (sz := 3) (K := kCase) Tryz.underlying64 (by kernel_rfl) (by decide) opens_case) (by decide)
  (parts_one (sz := 1) rfl (by kernel_rfl) (opens_bool Tryz.underlying4))))))).ex
  (fun w v cs h => by
   obtain ⟨v1, v2, v3, v4, v5⟩ := v
   obtain ⟨_, _, rfl, ⟨rfl, _⟩, _, _, rfl, ⟨rfl, _⟩, _, _, rfl, ⟨rfl, _⟩, _, _, rfl, hs, rfl⟩ := h
   obtain ⟨a, cap, rfl, hc, hr⟩ := rd_of_slice (f := CaseM.cells) (fun _ => rfl) hs
   exact ⟨⟨⟨v1, v2, v3, v4, v5⟩, a, cap⟩, rfl, hc, hr⟩)
def kProg : Kx ProgX := fun w p cs => cs = [.slice p.pa p.ops.length p.pc] ∧ p.ops.length ≤ p.pc ∧ p.ops.length ≤ maxLen ∧ (0 < p.ops.length → ∃ b off, p.pa = some ⟨b, off, none⟩ ∧ ∀ j o, p.ops[j]? = some o → ∀ i v, o.cells[i]? = some v → w.cell? ⟨b, off + j * 5 + i, none⟩ = some v) ∧
 ∀ o ∈ p.ops, o.op.cases.length ≤ o.cc ∧ Rd w 3 o.ca o.op.cases.length (o.op.cases.flatMap CaseM.cells)
theorem opens_prog : Opens 67 kProg :=
 (opens_slice (sz := 5) (K := kOp) Tryz.underlying67 (by kernel_rfl) (by decide) opens_op).ex (fun w xs cs h => by
  obtain ⟨a, cap, rfl, hc, hm, hx⟩ := h
  refine ⟨⟨xs, a, cap⟩, rfl, hc, Nat.le_trans hc hm, fun h0 => ?_, fun o ho => ?_⟩
  ·obtain ⟨b, off, ha, hi⟩ := hx h0
   refine ⟨b, off, ha, fun j o hj i v hv => ?_⟩
   obtain ⟨hjl, rfl⟩ := List.getElem?_eq_some_iff.1 hj
   obtain ⟨c, _, ⟨rfl, _⟩, hcell⟩ := hi j hjl
   exact hcell i v hv
  ·obtain ⟨i, hi, rfl⟩ := List.getElem_of_mem ho
   obtain ⟨b, off, ha, hh⟩ := hx (Nat.lt_of_le_of_lt (Nat.zero_le _) hi)
   obtain ⟨c, _, ⟨rfl, h1, h2⟩, _⟩ := hh i hi
   exact ⟨h1, h2⟩)
/-- The parts of a script that came in. -/
structure ScrX where
 t : Int
 m : Int
 X : List ProgX
 pa : Option Addr
 pc : Nat
 pl : List Int
 la : Option Addr
 lc : Nat
 dr : List Int
 da : Option Addr
 dc : Nat
def ScrX.cells (s : ScrX) : List Value := [.int .i64 s.t, .int .i64 s.m, .slice s.pa s.X.length s.pc, .slice s.la s.pl.length s.lc, .slice s.da s.dr.length s.dc]
def ScrX.M (s : ScrX) : ScrM := ⟨s.t, s.m, progsM s.X, s.pl, s.dr⟩
structure ProgsIn (w : World) (pa : Option Addr) (X : List ProgX) : Prop where
 len : X.length ≤ maxLen
 at_ : 0 < X.length → ∃ b off, pa = some ⟨b, off, none⟩ ∧ ∀ (k : Nat) p, X[k]? = some p → w.cell? ⟨b, off + k * 1, none⟩ = some (.slice p.pa p.ops.length p.pc)
 prog : ∀ p ∈ X, p.ops.length ≤ p.pc ∧ p.ops.length ≤ maxLen ∧ (0 < p.ops.length → ∃ b off, p.pa = some ⟨b, off, none⟩ ∧ ∀ j o, p.ops[j]? = some o → ∀ i v, o.cells[i]? = some v → w.cell? ⟨b, off + j * 5 + i, none⟩ = some v) ∧
  ∀ o ∈ p.ops, o.op.cases.length ≤ o.cc ∧ Rd w 3 o.ca o.op.cases.length (o.op.cases.flatMap CaseM.cells)
def kScr : Kx ScrX := fun w s cs => cs = s.cells ∧ ProgsIn w s.pa s.X ∧ s.X.length ≤ s.pc ∧ Rd w 1 s.la s.pl.length (ints s.pl) ∧ s.pl.length ≤ s.lc ∧ Rd w 1 s.da s.dr.length (ints s.dr) ∧ s.dr.length ≤ s.dc
theorem flat_ints (l : List Int) : l.flatMap (fun n => [Value.int .i64 n]) = ints l := by
 induction l with
 | nil => rfl
 | cons a l ih =>
  rw [List.flatMap_cons, ih]
  rfl
set_option maxRecDepth 100000 in
theorem opens_scr : Opens 42 kScr :=
 (opens_struct (fs := [_, _, _, _, _]) (sz := 5) Tryz.underlying42 (by kernel_rfl)
  (parts_cons (sz := 1) (m := 4) rfl (by kernel_rfl) (opens_int Tryz.underlying3) (by decide)
  (parts_cons (sz := 1) (m := 3) rfl (by kernel_rfl) (opens_int Tryz.underlying3) (by decide)
  (parts_cons (sz := 1) (m := 2) rfl (by kernel_rfl) (opens_slice (sz := 1) (K := kProg) Tryz.underlying39 (by kernel_rfl) (by decide) opens_prog) (by decide)
  (parts_cons (sz := 1) (m := 1) rfl (by kernel_rfl) (opens_slice (sz := 1) (K := kInt) Tryz.underlying40 (by kernel_rfl) (by decide) (opens_int Tryz.underlying3)) (by decide)
  (parts_one (sz := 1) rfl (by kernel_rfl) (opens_slice (sz := 1) (K := kInt) Tryz.underlying40 (by kernel_rfl) (by decide) (opens_int Tryz.underlying3)))))))).ex
  (fun w v cs h => by
   obtain ⟨v1, v2, v3, v4, v5⟩ := v
   obtain ⟨_, _, rfl, ⟨rfl, _⟩, _, _, rfl, ⟨rfl, _⟩, _, _, rfl, hp, _, _, rfl, h4, h5⟩ := h
   obtain ⟨pa, pc, rfl, hpc, hpm, hpx⟩ := hp
   obtain ⟨la, lc, rfl, hlc, hlr⟩ := rd_of_slice (f := fun n => [Value.int .i64 n]) (fun _ => rfl) (h4.imp (fun _ _ h => h.1))
   obtain ⟨da, dc, rfl, hdc, hdr⟩ := rd_of_slice (f := fun n => [Value.int .i64 n]) (fun _ => rfl) (h5.imp (fun _ _ h => h.1))
   rw [flat_ints] at hlr hdr
   refine ⟨⟨v1, v2, v3, pa, pc, v4, la, lc, v5, da, dc⟩, rfl, ⟨Nat.le_trans hpc hpm, fun h0 => ?_, fun p hp => ?_⟩, hpc, hlr, hlc, hdr, hdc⟩
   ·obtain ⟨b, off, ha, hi⟩ := hpx h0
    refine ⟨b, off, ha, fun k p hk => ?_⟩
    obtain ⟨hkl, rfl⟩ := List.getElem?_eq_some_iff.1 hk
    obtain ⟨c, _, ⟨rfl, _⟩, hcell⟩ := hi k hkl
    exact hcell 0 _ rfl
   ·obtain ⟨i, hi, rfl⟩ := List.getElem_of_mem hp
    obtain ⟨b, off, ha, hh⟩ := hpx (Nat.lt_of_le_of_lt (Nat.zero_le _) hi)
    obtain ⟨c, _, ⟨rfl, h1, h2, h3, h4⟩, _⟩ := hh i hi
    exact ⟨h1, h2, h3, h4⟩)
structure ScrIn (w : World) (v : Value) (s : ScrX) : Prop where
 val : v = .agg s.cells.toArray
 progs : ProgsIn w s.pa s.X
 plan : Rd w 1 s.la s.pl.length (ints s.pl)
 planc : s.pl.length ≤ s.lc
 draws : Rd w 1 s.da s.dr.length (ints s.dr)
 drawsc : s.dr.length ≤ s.dc
set_option maxRecDepth 100000 in
theorem open_api_Script {r : Reach} {b0 : Nat} {H : Type} {enc : TypeId × Value → H} {w : World} {base : Nat} {sp : Nat → Bool} {held : Bool} {v : Value} {d : DataW H} {p : List MemPlace}
  (hv : Value.okWide Tryz.prog w r b0 42 v) (h : DataW.Trod enc Tryz.prog w base sp held 42 v d p) : ∃ s, ScrIn w v s := by
 obtain ⟨s, hs, h1, h2, h3, h4, h5, h6⟩ := open_arg opens_scr h
 obtain ⟨cs, rfl, _⟩ := okWide_struct Tryz.underlying42 hv
 simp only [Value.cells] at hs
 refine ⟨s, ?_, h1, h3, h4, h5, h6⟩
 rw [← hs]
section
variable {w0 : World}
theorem Old.cell {S : Nat → Prop} {w : World} (h : (Old w0).on S w) {b o : Nat} {v : Value} (hc : w0.cell? ⟨b, o, none⟩ = some v) : w.cell? ⟨b, o, none⟩ = some v :=
 (World.cell?_of_block (w := w0) (h.2.2.2 b (World.block_lt_of_cell? w0 _ hc)).2).trans hc
theorem Old.rd {sz n : Nat} {a : Option Addr} {xs : List Value} (h : Rd w0 sz a n xs) : Reader (Old w0) sz a n xs := by
 intro S w hS
 refine ⟨h.1, h.2.1, fun hn => ?_⟩
 obtain ⟨b, off, ha, hc⟩ := h.2.2 hn
 exact ⟨b, off, ha, fun i u hu => Old.cell hS (hc i u hu)⟩
theorem Old.scr {pa : Option Addr} {X : List ProgX} (h : ProgsIn w0 pa X) (h0 : 0 < X.length) : ∃ b off, pa = some ⟨b, off, none⟩ ∧ ScrA (Old w0) b off X := by
 obtain ⟨b, off, ha, hc⟩ := h.at_ h0
 refine ⟨b, off, ha, ?_⟩
 refine ⟨fun S w hS k p hk => Old.cell hS (hc k p hk), fun k p hk hl => ?_, fun S w hS k p hk b2 o2 hpa j o hj i v hv => ?_, fun k p hk => (h.prog p (List.mem_of_getElem? hk)).1, fun k p hk j o hj => ?_⟩
 ·obtain ⟨b, off, hb, _⟩ := (h.prog p (List.mem_of_getElem? hk)).2.2.1 hl
  exact ⟨b, off, hb⟩
 ·have hjl := (List.getElem?_eq_some_iff.1 hj).1
  obtain ⟨b', off', hb, hcell⟩ := (h.prog p (List.mem_of_getElem? hk)).2.2.1 (by omega)
  rw [hb] at hpa
  injection hpa with hpa
  injection hpa with e1 e2
  subst e1 e2
  exact Old.cell hS (hcell j o hj i v hv)
 ·obtain ⟨h1, h2⟩ := (h.prog p (List.mem_of_getElem? hk)).2.2.2 o (List.mem_of_getElem? hj)
  exact ⟨Old.rd h2, h1⟩
end
end Go.Proofs.YtchkaaeoffmjnaaGreatDoor
namespace Go.Proofs.YtchkaaeoffmjnaaGreatDoor
set_option linter.unusedVariables false
set_option linter.unusedSimpArgs false
open Go.RowKit
theorem ev_cell {L : List Ev} {j : Nat} {e : Ev} (h : L[j]? = some e) (i : Nat) (hi : i < 8) : (L.flatMap Ev.cells)[j * 8 + i]? = e.cells[i]? := by
 obtain ⟨hk, rfl⟩ := List.getElem?_eq_some_iff.1 h
 exact flat_get Ev.cells 8 (fun _ => rfl) L j i hi hk
end Go.Proofs.YtchkaaeoffmjnaaGreatDoor
namespace Go.Proofs.YtchkaaeoffmjnaaGreatDoor
set_option linter.unusedVariables false
set_option linter.unusedSimpArgs false
open Go.RowKit
set_option maxRecDepth 100000
set_option maxHeartbeats 2000000 in
theorem l_large {w : World} {F : List Piece} {A : Piece} {pa la da : Option Addr} {pc lc dc : Nat} {t m : Int} {X : List ProgX} {pl dr : List Int} (hX : 0 < X.length → ∃ b off, pa = some ⟨b, off, none⟩ ∧ ScrA A b off X) (hL : Reader A 1 la pl.length (ints pl)) (hD : Reader A 1 da dr.length (ints dr)) (H : SL w (A :: F)) : Calls Tryz.prog 17 #[.agg #[.int .i64 t, .int .i64 m, .slice pa X.length pc, .slice la pl.length lc, .slice da dr.length dc]] w fun o w' => ∃ b : Bool, o = .returned (.bool b) ∧ SL w' (A :: F) := by
 refine calls_den (args := [_]) Tryz.func17 rfl (Nat.le_of_ble_eq_true (by kernel_rfl)) (by kernel_rfl) ?_
 refine ⟨?_⟩
 refine Nw.as #[.int .i64 t, .int .i64 m, .slice pa X.length pc, .slice la pl.length lc, .slice da dr.length dc] 42 rfl H fun b1 w H => ?_
 refine ⟨?_⟩
 refine H.ldi 0 rfl (v := .slice pa X.length pc) rfl ?_
 refine BB.vr fun q1 e1 => ?_
 cases q1
 ·skip
  have h1 := of_decide_eq_false e1
  refine H.ldi 0 rfl (v := .slice la pl.length lc) rfl ?_
  refine BB.vr fun q2 e2 => ?_
  cases q2
  ·skip
   have h2 := of_decide_eq_false e2
   refine H.ldi 0 rfl (v := .slice da dr.length dc) rfl ?_
   refine BB.vr fun q3 e3 => ?_
   cases q3
   ·skip
    have h3 := of_decide_eq_false e3
    refine Cn.no ?_
    refine ⟨?_⟩
    refine ⟨?_⟩
    refine H.ldi 0 rfl (v := .slice pa X.length pc) rfl ?_
    refine ⟨?_⟩
    refine den.loop (ι := Nat × Int) [(2, 3), (5, 5), (7, 7), (27, 48)] (by kernel_rfl) (fun (k, n0) => [(27, .int .i64 ↑k), (3, .int .i64 n0)]) (fun (k, n0) w => k ≤ X.length ∧ SL w (row b1 #[.int .i64 t, .int .i64 m, .slice pa X.length pc, .slice la pl.length lc, .slice da dr.length dc] 42 :: A :: F)) (fun (k, n0) => X.length - k) (0, 0) ⟨rfl, rfl, trivial⟩ ⟨Nat.zero_le _, (H)⟩ ?_
    rintro ⟨k, n0⟩ s w ⟨hc, H⟩
    have hob := Nat.lt_or_ge k X.length
    rcases hob with hk | hk
    ·skip
     have hob : ∃ z, X[k]? = some z := ⟨_, List.getElem?_eq_getElem hk⟩
     obtain ⟨px, hY⟩ := hob
     have hob := hX (by omega)
     obtain ⟨pb, po, rfl, hXA⟩ := hob
     have hM : (progsM X)[k]? = some (px.ops.map (·.op)) := by unfold progsM; rw [List.getElem?_map, hY]; rfl
     have hsome := hXA.some_ k px hY
     have hcase := hXA.case k px hY
     obtain ⟨ops, qa, qc⟩ := px
     dsimp only at hM hsome hcase
     refine ⟨?_⟩
     refine BB.yes (decide_eq_true (by omega)) ?_
     refine Cn.yes ?_
     refine ⟨?_⟩
     refine ⟨?_⟩
     refine Ix.at k 1 (by kernel_rfl) (rfl) (hk) ?_
     refine H.ldPv 1 rfl hXA k hY (v := .slice qa ops.length qc) rfl ?_
     refine ⟨?_⟩
     refine BB.vr fun q4 e4 => ?_
     cases q4
     ·skip
      have h4 := of_decide_eq_false e4
      refine Cn.no ?_
      refine ⟨?_⟩
      refine ⟨?_⟩
      refine den.loop (ι := Nat × Int) [(2, 3), (7, 7), (36, 47)] (by kernel_rfl) (fun (i, n) => [(36, .int .i64 ↑i), (3, .int .i64 n)]) (fun (i, n) w => i ≤ ops.length ∧ SL w (row b1 #[.int .i64 t, .int .i64 m, .slice (some ⟨pb, po, none⟩) X.length pc, .slice la pl.length lc, .slice da dr.length dc] 42 :: A :: F)) (fun (i, n) => ops.length - i) (0, n0) ⟨rfl, rfl, trivial⟩ ⟨Nat.zero_le _, (H)⟩ ?_
      rintro ⟨i, n⟩ s w ⟨hd, H⟩
      have hob := Nat.lt_or_ge i ops.length
      rcases hob with hi | hi
      ·skip
       have hob := hsome (by omega)
       obtain ⟨qb, qo, rfl⟩ := hob
       have hob : ∃ z, ops[i]? = some z := ⟨_, List.getElem?_eq_getElem hi⟩
       obtain ⟨ox, hox⟩ := hob
       have hob : ∃ z, IntKind.i64.wrap (n + (ox.op.cases.length : Int)) = z := ⟨_, rfl⟩
       obtain ⟨nn, hnn⟩ := hob
       refine ⟨?_⟩
       refine BB.yes (decide_eq_true (by omega)) ?_
       refine Cn.yes ?_
       refine ⟨?_⟩
       refine ⟨?_⟩
       refine Ix.at i 5 (by kernel_rfl) (rfl) (hi) ?_
       refine H.ldO 1 rfl hXA k hY rfl i 0 hox (v := .int .i64 ox.op.kind) rfl ?_
       refine H.ldO 1 rfl hXA k hY rfl i 1 hox (v := .int .i64 ox.op.a) rfl ?_
       refine H.ldO 1 rfl hXA k hY rfl i 2 hox (v := .int .i64 ox.op.b) rfl ?_
       refine H.ldO 1 rfl hXA k hY rfl i 3 hox (v := .slice ox.ca ox.op.cases.length ox.cc) rfl ?_
       refine H.ldO 1 rfl hXA k hY rfl i 4 hox (v := .bool ox.op.dflt) rfl ?_
       refine Nw.as #[.int .i64 0, .int .i64 0, .int .i64 0, .slice none 0 0, .bool false] 66 rfl H fun b7 w H => ?_
       refine H.st0 (cs' := #[.int .i64 ox.op.kind, .int .i64 0, .int .i64 0, .slice none 0 0, .bool false]) rfl rfl rfl fun w H => ?_
       refine H.st0 (cs' := #[.int .i64 ox.op.kind, .int .i64 ox.op.a, .int .i64 0, .slice none 0 0, .bool false]) rfl rfl rfl fun w H => ?_
       refine H.st0 (cs' := #[.int .i64 ox.op.kind, .int .i64 ox.op.a, .int .i64 ox.op.b, .slice none 0 0, .bool false]) rfl rfl rfl fun w H => ?_
       refine H.st0 (cs' := #[.int .i64 ox.op.kind, .int .i64 ox.op.a, .int .i64 ox.op.b, .slice ox.ca ox.op.cases.length ox.cc, .bool false]) rfl rfl rfl fun w H => ?_
       refine H.st0 (cs' := #[.int .i64 ox.op.kind, .int .i64 ox.op.a, .int .i64 ox.op.b, .slice ox.ca ox.op.cases.length ox.cc, .bool ox.op.dflt]) rfl rfl rfl fun w H => ?_
       refine ⟨?_⟩
       refine H.ldi 0 rfl (v := .slice ox.ca ox.op.cases.length ox.cc) rfl ?_
       refine IW.by (m := nn) (hnn) ?_
       refine ⟨?_⟩
       refine BB.vr fun q5 e5 => ?_
       cases q5
       ·skip
        have h5 := of_decide_eq_false e5
        refine Cn.no ?_
        refine ⟨?_⟩
        refine IW.by (wrap_id (n := ↑i + 1) (by omega) (by omega)) ?_
        exact ⟨(i + 1, nn), ⟨rfl, rfl, trivial⟩, ⟨(by omega : i + 1 ≤ ops.length), H.pick [1, 2] 3 (by decide)⟩, (show ops.length - (i + 1) < ops.length - i by omega)⟩
       ·skip
        have h5 := of_decide_eq_true e5
        refine Cn.yes ?_
        refine ⟨?_⟩
        refine ret1 (fn := Tryz.f17) (.bool true) rfl (by rfl) ?_
        exact ⟨_, rfl, H.pick [2] 3 (by decide)⟩
      ·skip
       have hob : i = ops.length := by omega
       obtain rfl := hob
       refine ⟨?_⟩
       refine BB.no (decide_eq_false (by omega)) ?_
       refine Cn.no ?_
       refine ⟨?_⟩
       refine IW.by (wrap_id (n := ↑k + 1) (by omega) (by omega)) ?_
       exact ⟨(k + 1, n), ⟨rfl, rfl, trivial⟩, ⟨(by omega : k + 1 ≤ X.length), H⟩, (show X.length - (k + 1) < X.length - k by omega)⟩
     ·skip
      have h4 := of_decide_eq_true e4
      refine Cn.yes ?_
      refine ⟨?_⟩
      refine ret1 (fn := Tryz.f17) (.bool true) rfl (by rfl) ?_
      exact ⟨_, rfl, H.pick [1] 2 (by decide)⟩
    ·skip
     have hob : k = X.length := by omega
     obtain rfl := hob
     refine ⟨?_⟩
     refine BB.no (decide_eq_false (by omega)) ?_
     refine Cn.no ?_
     refine ⟨?_⟩
     refine ret1 (fn := Tryz.f17) (.bool false) rfl (by rfl) ?_
     exact ⟨_, rfl, H.pick [1] 2 (by decide)⟩
   ·skip
    have h3 := of_decide_eq_true e3
    refine Cn.yes ?_
    refine ⟨?_⟩
    refine ret1 (fn := Tryz.f17) (.bool true) rfl (by rfl) ?_
    exact ⟨_, rfl, H.pick [1] 2 (by decide)⟩
  ·skip
   have h2 := of_decide_eq_true e2
   refine Cn.yes ?_
   refine ⟨?_⟩
   refine ret1 (fn := Tryz.f17) (.bool true) rfl (by rfl) ?_
   exact ⟨_, rfl, H.pick [1] 2 (by decide)⟩
 ·skip
  have h1 := of_decide_eq_true e1
  refine Cn.yes ?_
  refine ⟨?_⟩
  refine ret1 (fn := Tryz.f17) (.bool true) rfl (by rfl) ?_
  exact ⟨_, rfl, H.pick [1] 2 (by decide)⟩
end Go.Proofs.YtchkaaeoffmjnaaGreatDoor
