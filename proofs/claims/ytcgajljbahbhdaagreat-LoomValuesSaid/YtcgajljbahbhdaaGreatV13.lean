/- Texts of the proof, several in one file: SheetC, SheetD, SheetE, SheetF, LoomB9, Loom12, LoomX7. -/
import Derived.Test.YtcgajljbahbhdaaGreatV12
import Derived.Test.YtcgajljbahbhdaaGreatV11
import Derived.Test.YtcgajljbahbhdaaGreatV10
namespace Go.Proofs.YtcgajljbahbhdaaGreat
set_option linter.unusedVariables false
set_option linter.unusedSimpArgs false
open Go.RowKit
set_option maxRecDepth 100000
section
variable {α : Type} {L : List α} {p : α → Bool} {j : Nat} {z : α}
theorem any_step (h : (L.take j).any p = false) (hz : L[j]? = some z) (hp : p z = false) : (L.take (j + 1)).any p = false := by
 rw [List.take_add_one, hz, List.any_append, h]
 simp [hp]
theorem any_found (hz : L[j]? = some z) (hp : p z = true) : L.any p = true := List.any_eq_true.2 ⟨z, List.mem_of_getElem? hz, hp⟩
end
theorem out_one {w : World} {F : List Piece} {bl : Nat} {bh : Nat} {lo : Int} {hi : Int} (n : Int) (H : SL w (row bl #[.int .i64 lo] 3 :: row bh #[.int .i64 hi] 3 :: F)) : Calls Tryz.prog 68 #[.int .i64 n, .pointer (some ⟨bl, 0, none⟩), .pointer (some ⟨bh, 0, none⟩)] w fun o w' => o = .returned (.bool (decide (n < lo) || decide (n > hi))) ∧ SL w' (row bl #[.int .i64 lo] 3 :: row bh #[.int .i64 hi] 3 :: F) := by
 refine calls_den (args := [_, _, _]) Tryz.func68 rfl (Nat.le_of_ble_eq_true (by kernel_rfl)) (by kernel_rfl) ?_
 refine ⟨?_⟩
 refine ⟨?_⟩
 refine H.ldi 0 rfl (v := .int .i64 lo) rfl ?_
 refine BB.vr fun q1 e1 => ?_
 cases q1
 ·skip
  have h1 := of_decide_eq_false e1
  refine H.ldi 1 rfl (v := .int .i64 hi) rfl ?_
  refine BB.k ?_
  refine ret1 (fn := Tryz.f68) (.bool (decide (n > hi))) rfl (by rfl) ?_
  have hc : (decide (n < lo) || decide (n > hi)) = (decide (n > hi)) := by first | rfl | (simp [*]; done) | (simp; omega)
  rw [hc]
  exact ⟨rfl, H⟩
 ·skip
  have h1 := of_decide_eq_true e1
  refine ret1 (fn := Tryz.f68) (.bool true) rfl (by rfl) ?_
  have hc : (decide (n < lo) || decide (n > hi)) = (true) := by first | rfl | (simp [*]; done) | (simp; omega)
  rw [hc]
  exact ⟨rfl, H⟩
theorem out_index {w : World} {F : List Piece} {A : Piece} {bl : Nat} {bh : Nat} {lo : Int} {hi : Int} {la : Option Addr} {lc : Nat} {xs : List Int} (hA : Reader A 1 la xs.length (ints xs)) (hn : xs.length ≤ 1000000) (H : SL w (row bl #[.int .i64 lo] 3 :: row bh #[.int .i64 hi] 3 :: A :: F)) : Calls Tryz.prog 109 #[.slice la xs.length lc, .func (.func 68) #[] #[.pointer (some ⟨bl, 0, none⟩), .pointer (some ⟨bh, 0, none⟩)]] w fun o w' => ∃ r : Int, o = .returned (.int .i64 r) ∧ decide (0 ≤ r) = xs.any (fun z => (decide (z < lo) || decide (z > hi))) ∧ SL w' (row bl #[.int .i64 lo] 3 :: row bh #[.int .i64 hi] 3 :: A :: F) := by
 refine calls_den (args := [_, _]) Tryz.func109 rfl (Nat.le_of_ble_eq_true (by kernel_rfl)) (by kernel_rfl) ?_
 refine ⟨?_⟩
 refine ⟨?_⟩
 refine ⟨?_⟩
 refine den.loop (ι := Nat) [(4, 5), (8, 18)] (by kernel_rfl) (fun j => [(8, .int .i64 ↑j)]) (fun j w => (j ≤ xs.length ∧ (xs.take j).any (fun z => (decide (z < lo) || decide (z > hi))) = false) ∧ SL w (row bl #[.int .i64 lo] 3 :: row bh #[.int .i64 hi] 3 :: A :: F)) (fun j => xs.length - j) 0 ⟨rfl, trivial⟩ ⟨⟨Nat.zero_le _, rfl⟩, H⟩ ?_
 rintro j s w ⟨hc, H⟩
 have hob := Nat.lt_or_ge j xs.length
 rcases hob with hj | hj
 ·skip
  have hob : ∃ z, xs[j]? = some z := ⟨_, List.getElem?_eq_getElem hj⟩
  obtain ⟨z, hz⟩ := hob
  have hob := H.addrR 2 rfl hA (by omega)
  obtain ⟨lb, lf, rfl⟩ := hob
  refine ⟨?_⟩
  refine BB.yes (decide_eq_true (by omega)) ?_
  refine Cn.yes ?_
  refine ⟨?_⟩
  refine ⟨?_⟩
  refine ⟨?_⟩
  refine Ix.at j 1 (by kernel_rfl) (rfl) (hj) ?_
  refine H.ldR 2 rfl hA (by omega) (q := j * 1) (by rfl) (v := .int .i64 z) (int_cell hz) ?_
  have h1 := H
  refine Cl.sl (by kernel_rfl) (out_one z h1) fun w H => ?_
  refine BB.vr fun q1 e1 => ?_
  cases q1
  ·skip
   refine Cn.no ?_
   refine ⟨?_⟩
   refine IW.by (wrap_id (n := ↑j + 1) (by omega) (by omega)) ?_
   have hone : (decide (z < lo) || decide (z > hi)) = false := by assumption
   exact ⟨j + 1, ⟨rfl, trivial⟩, ⟨⟨by omega, any_step (p := (fun z => (decide (z < lo) || decide (z > hi)))) hc.2 hz hone⟩, H⟩, (show xs.length - (j + 1) < xs.length - j by omega)⟩
  ·skip
   refine Cn.yes ?_
   refine ⟨?_⟩
   refine ret1 (fn := Tryz.f109) (.int .i64 ↑j) rfl (by rfl) ?_
   have hany := any_found (p := (fun z => (decide (z < lo) || decide (z > hi)))) hz (by assumption)
   exact ⟨(j : Int), rfl, by rw [hany]; exact decide_eq_true (Int.natCast_nonneg j), H⟩
 ·skip
  have hob : j = xs.length := by omega
  obtain rfl := hob
  rw [List.take_length] at hc
  refine ⟨?_⟩
  refine BB.no (decide_eq_false (by omega)) ?_
  refine Cn.no ?_
  refine ⟨?_⟩
  refine ret1 (fn := Tryz.f109) (.int .i64 (-1)) rfl (by rfl) ?_
  exact ⟨-1, rfl, hc.2.symm, H⟩
theorem out_has {w : World} {F : List Piece} {A : Piece} {bl : Nat} {bh : Nat} {lo : Int} {hi : Int} {la : Option Addr} {lc : Nat} {xs : List Int} (hA : Reader A 1 la xs.length (ints xs)) (hn : xs.length ≤ 1000000) (H : SL w (row bl #[.int .i64 lo] 3 :: row bh #[.int .i64 hi] 3 :: A :: F)) : Calls Tryz.prog 67 #[.slice la xs.length lc, .func (.func 68) #[] #[.pointer (some ⟨bl, 0, none⟩), .pointer (some ⟨bh, 0, none⟩)]] w fun o w' => o = .returned (.bool (xs.any (fun z => (decide (z < lo) || decide (z > hi))))) ∧ SL w' (row bl #[.int .i64 lo] 3 :: row bh #[.int .i64 hi] 3 :: A :: F) := by
 refine calls_den (args := [_, _]) Tryz.func67 rfl (Nat.le_of_ble_eq_true (by kernel_rfl)) (by kernel_rfl) ?_
 refine ⟨?_⟩
 refine ⟨?_⟩
 refine Cl.by (by kernel_rfl) (out_index hA hn H) ?_
 rintro _ w ⟨r, rfl, hr, H⟩
 refine ⟨_, rfl, ?_⟩
 refine BB.k ?_
 refine ret1 (fn := Tryz.f67) (.bool (decide (r ≥ 0))) rfl (by rfl) ?_
 exact ⟨by rw [← hr], H⟩
theorem d_outside {w : World} {F : List Piece} {A : Piece} {la : Option Addr} {lc : Nat} {xs : List Int} (lo hi : Int) (hA : Reader A 1 la xs.length (ints xs)) (hn : xs.length ≤ 1000000) (H : SL w (A :: F)) : Calls Tryz.prog 33 #[.slice la xs.length lc, .int .i64 lo, .int .i64 hi] w fun o w' => o = .returned (.bool (xs.any (fun z => decide (z < lo) || decide (z > hi)))) ∧ SL w' (A :: F) := by
 refine calls_den (args := [_, _, _]) Tryz.func33 rfl (Nat.le_of_ble_eq_true (by kernel_rfl)) (by kernel_rfl) ?_
 refine ⟨?_⟩
 refine Nw.as #[.int .i64 lo] 3 rfl H fun b4 w H => ?_
 refine Nw.as #[.int .i64 hi] 3 rfl H fun b5 w H => ?_
 refine ⟨?_⟩
 refine Mn.pure (.func (.func 68) #[] #[.pointer (some ⟨b4, 0, none⟩), .pointer (some ⟨b5, 0, none⟩)]) (by kernel_rfl) ?_
 have h1 := H.pick [1, 0, 2] 3 (by decide)
 simp only [pk, nth, pkA, pkB, pkC, pkD, pkE, pkF] at h1
 refine Cl.sl (by kernel_rfl) (out_has hA hn h1) fun w H => ?_
 replace H := H.pick [1, 0, 2] 3 (by decide)
 simp only [pk, nth, pkA, pkB, pkC, pkD, pkE, pkF] at H
 refine BB.k ?_
 refine ret1 (fn := Tryz.f33) (.bool (xs.any (fun z => decide (z < lo) || decide (z > hi)))) rfl (by rfl) ?_
 exact ⟨rfl, H.pick [2] 3 (by decide)⟩
theorem bad_one {w : World} {F : List Piece} {bl : Nat} {lo : Int} (n : Int) (H : SL w (row bl #[.int .i64 lo] 3 :: F)) : Calls Tryz.prog 73 #[.int .i64 n, .pointer (some ⟨bl, 0, none⟩)] w fun o w' => o = .returned (.bool (decide (n < lo) || decide (n > 1000))) ∧ SL w' (row bl #[.int .i64 lo] 3 :: F) := by
 refine calls_den (args := [_, _]) Tryz.func73 rfl (Nat.le_of_ble_eq_true (by kernel_rfl)) (by kernel_rfl) ?_
 refine ⟨?_⟩
 refine ⟨?_⟩
 refine H.ldi 0 rfl (v := .int .i64 lo) rfl ?_
 refine BB.vr fun q1 e1 => ?_
 cases q1
 ·skip
  have h1 := of_decide_eq_false e1
  refine BB.k ?_
  refine ret1 (fn := Tryz.f73) (.bool (decide (n > 1000))) rfl (by rfl) ?_
  have hc : (decide (n < lo) || decide (n > 1000)) = (decide (n > 1000)) := by first | rfl | (simp [*]; done) | (simp; omega)
  rw [hc]
  exact ⟨rfl, H⟩
 ·skip
  have h1 := of_decide_eq_true e1
  refine ret1 (fn := Tryz.f73) (.bool true) rfl (by rfl) ?_
  have hc : (decide (n < lo) || decide (n > 1000)) = (true) := by first | rfl | (simp [*]; done) | (simp; omega)
  rw [hc]
  exact ⟨rfl, H⟩
theorem bad_index {w : World} {F : List Piece} {A : Piece} {bl : Nat} {lo : Int} {la : Option Addr} {lc : Nat} {xs : List Int} (hA : Reader A 1 la xs.length (ints xs)) (hn : xs.length ≤ 1000000) (H : SL w (row bl #[.int .i64 lo] 3 :: A :: F)) : Calls Tryz.prog 109 #[.slice la xs.length lc, .func (.func 73) #[] #[.pointer (some ⟨bl, 0, none⟩)]] w fun o w' => ∃ r : Int, o = .returned (.int .i64 r) ∧ decide (0 ≤ r) = xs.any (fun z => (decide (z < lo) || decide (z > 1000))) ∧ SL w' (row bl #[.int .i64 lo] 3 :: A :: F) := by
 refine calls_den (args := [_, _]) Tryz.func109 rfl (Nat.le_of_ble_eq_true (by kernel_rfl)) (by kernel_rfl) ?_
 refine ⟨?_⟩
 refine ⟨?_⟩
 refine ⟨?_⟩
 refine den.loop (ι := Nat) [(4, 5), (8, 18)] (by kernel_rfl) (fun j => [(8, .int .i64 ↑j)]) (fun j w => (j ≤ xs.length ∧ (xs.take j).any (fun z => (decide (z < lo) || decide (z > 1000))) = false) ∧ SL w (row bl #[.int .i64 lo] 3 :: A :: F)) (fun j => xs.length - j) 0 ⟨rfl, trivial⟩ ⟨⟨Nat.zero_le _, rfl⟩, H⟩ ?_
 rintro j s w ⟨hc, H⟩
 have hob := Nat.lt_or_ge j xs.length
 rcases hob with hj | hj
 ·skip
  have hob : ∃ z, xs[j]? = some z := ⟨_, List.getElem?_eq_getElem hj⟩
  obtain ⟨z, hz⟩ := hob
  have hob := H.addrR 1 rfl hA (by omega)
  obtain ⟨lb, lf, rfl⟩ := hob
  refine ⟨?_⟩
  refine BB.yes (decide_eq_true (by omega)) ?_
  refine Cn.yes ?_
  refine ⟨?_⟩
  refine ⟨?_⟩
  refine ⟨?_⟩
  refine Ix.at j 1 (by kernel_rfl) (rfl) (hj) ?_
  refine H.ldR 1 rfl hA (by omega) (q := j * 1) (by rfl) (v := .int .i64 z) (int_cell hz) ?_
  have h1 := H
  refine Cl.sl (by kernel_rfl) (bad_one z h1) fun w H => ?_
  refine BB.vr fun q1 e1 => ?_
  cases q1
  ·skip
   refine Cn.no ?_
   refine ⟨?_⟩
   refine IW.by (wrap_id (n := ↑j + 1) (by omega) (by omega)) ?_
   have hone : (decide (z < lo) || decide (z > 1000)) = false := by assumption
   exact ⟨j + 1, ⟨rfl, trivial⟩, ⟨⟨by omega, any_step (p := (fun z => (decide (z < lo) || decide (z > 1000)))) hc.2 hz hone⟩, H⟩, (show xs.length - (j + 1) < xs.length - j by omega)⟩
  ·skip
   refine Cn.yes ?_
   refine ⟨?_⟩
   refine ret1 (fn := Tryz.f109) (.int .i64 ↑j) rfl (by rfl) ?_
   have hany := any_found (p := (fun z => (decide (z < lo) || decide (z > 1000)))) hz (by assumption)
   exact ⟨(j : Int), rfl, by rw [hany]; exact decide_eq_true (Int.natCast_nonneg j), H⟩
 ·skip
  have hob : j = xs.length := by omega
  obtain rfl := hob
  rw [List.take_length] at hc
  refine ⟨?_⟩
  refine BB.no (decide_eq_false (by omega)) ?_
  refine Cn.no ?_
  refine ⟨?_⟩
  refine ret1 (fn := Tryz.f109) (.int .i64 (-1)) rfl (by rfl) ?_
  exact ⟨-1, rfl, hc.2.symm, H⟩
theorem bad_has {w : World} {F : List Piece} {A : Piece} {bl : Nat} {lo : Int} {la : Option Addr} {lc : Nat} {xs : List Int} (hA : Reader A 1 la xs.length (ints xs)) (hn : xs.length ≤ 1000000) (H : SL w (row bl #[.int .i64 lo] 3 :: A :: F)) : Calls Tryz.prog 67 #[.slice la xs.length lc, .func (.func 73) #[] #[.pointer (some ⟨bl, 0, none⟩)]] w fun o w' => o = .returned (.bool (xs.any (fun z => (decide (z < lo) || decide (z > 1000))))) ∧ SL w' (row bl #[.int .i64 lo] 3 :: A :: F) := by
 refine calls_den (args := [_, _]) Tryz.func67 rfl (Nat.le_of_ble_eq_true (by kernel_rfl)) (by kernel_rfl) ?_
 refine ⟨?_⟩
 refine ⟨?_⟩
 refine Cl.by (by kernel_rfl) (bad_index hA hn H) ?_
 rintro _ w ⟨r, rfl, hr, H⟩
 refine ⟨_, rfl, ?_⟩
 refine BB.k ?_
 refine ret1 (fn := Tryz.f67) (.bool (decide (r ≥ 0))) rfl (by rfl) ?_
 exact ⟨by rw [← hr], H⟩
end Go.Proofs.YtcgajljbahbhdaaGreat
namespace Go.Proofs.YtcgajljbahbhdaaGreat
set_option linter.unusedVariables false
set_option linter.unusedSimpArgs false
open Go.RowKit
set_option maxRecDepth 100000
theorem long_one {w : World} {F : List Piece} {qa : Option Addr} {n qc : Nat} (H : SL w F) : Calls Tryz.prog 66 #[.slice qa n qc] w fun o w' => o = .returned (.bool (decide (32 < n))) ∧ SL w' F := by
 refine calls_den (args := [_]) Tryz.func66 rfl (Nat.le_of_ble_eq_true (by kernel_rfl)) (by kernel_rfl) ?_
 refine ⟨?_⟩
 refine ⟨?_⟩
 refine BB.k ?_
 refine ret1 (fn := Tryz.f66) (.bool (decide ((↑n : Int) > 32))) rfl (by rfl) ?_
 have hc : decide (32 < n) = (decide ((↑n : Int) > 32)) := by simp; omega
 rw [hc]
 exact ⟨rfl, H⟩
theorem long_index {w : World} {F : List Piece} {A : Piece} {pa : Option Addr} {pc : Nat} {X : List ProgX} (hX : 0 < X.length → ∃ b off, pa = some ⟨b, off, none⟩ ∧ ScrA A b off X) (hn : X.length ≤ 1000000) (H : SL w (A :: F)) : Calls Tryz.prog 110 #[.slice pa X.length pc, .func (.func 66) #[] #[]] w fun o w' => ∃ r : Int, o = .returned (.int .i64 r) ∧ decide (0 ≤ r) = X.any (fun p : ProgX => decide (32 < p.ops.length)) ∧ SL w' (A :: F) := by
 refine calls_den (args := [_, _]) Tryz.func110 rfl (Nat.le_of_ble_eq_true (by kernel_rfl)) (by kernel_rfl) ?_
 refine ⟨?_⟩
 refine ⟨?_⟩
 refine ⟨?_⟩
 refine den.loop (ι := Nat) [(4, 5), (8, 18)] (by kernel_rfl) (fun j => [(8, .int .i64 ↑j)]) (fun j w => (j ≤ X.length ∧ (X.take j).any (fun p : ProgX => decide (32 < p.ops.length)) = false) ∧ SL w (A :: F)) (fun j => X.length - j) 0 ⟨rfl, trivial⟩ ⟨⟨Nat.zero_le _, rfl⟩, H⟩ ?_
 rintro j s w ⟨hc, H⟩
 have hob := Nat.lt_or_ge j X.length
 rcases hob with hj | hj
 ·skip
  have hob : ∃ z, X[j]? = some z := ⟨_, List.getElem?_eq_getElem hj⟩
  obtain ⟨px, hY⟩ := hob
  have hob := hX (by omega)
  obtain ⟨pb, po, rfl, hXA⟩ := hob
  have hM : (progsM X)[j]? = some (px.ops.map (·.op)) := by unfold progsM; rw [List.getElem?_map, hY]; rfl
  have hsome := hXA.some_ j px hY
  have hcase := hXA.case j px hY
  obtain ⟨ops, qa, qc⟩ := px
  dsimp only at hM hsome hcase
  refine ⟨?_⟩
  refine BB.yes (decide_eq_true (by omega)) ?_
  refine Cn.yes ?_
  refine ⟨?_⟩
  refine ⟨?_⟩
  refine ⟨?_⟩
  refine Ix.at j 1 (by kernel_rfl) (rfl) (hj) ?_
  refine H.ldPv 0 rfl hXA j hY (v := .slice qa ops.length qc) rfl ?_
  refine Cl.sl (by kernel_rfl) (long_one H) fun w H => ?_
  refine BB.vr fun q1 e1 => ?_
  cases q1
  ·skip
   refine Cn.no ?_
   refine ⟨?_⟩
   refine IW.by (wrap_id (n := ↑j + 1) (by omega) (by omega)) ?_
   have hone : (fun p : ProgX => decide (32 < p.ops.length)) ⟨ops, qa, qc⟩ = false := by assumption
   exact ⟨j + 1, ⟨rfl, trivial⟩, ⟨⟨by omega, any_step (p := (fun p : ProgX => decide (32 < p.ops.length))) hc.2 hY hone⟩, H⟩, (show X.length - (j + 1) < X.length - j by omega)⟩
  ·skip
   refine Cn.yes ?_
   refine ⟨?_⟩
   refine ret1 (fn := Tryz.f110) (.int .i64 ↑j) rfl (by rfl) ?_
   have hany := any_found (p := (fun p : ProgX => decide (32 < p.ops.length))) hY (by assumption)
   exact ⟨(j : Int), rfl, by rw [hany]; exact decide_eq_true (Int.natCast_nonneg j), H⟩
 ·skip
  have hob : j = X.length := by omega
  obtain rfl := hob
  rw [List.take_length] at hc
  refine ⟨?_⟩
  refine BB.no (decide_eq_false (by omega)) ?_
  refine Cn.no ?_
  refine ⟨?_⟩
  refine ret1 (fn := Tryz.f110) (.int .i64 (-1)) rfl (by rfl) ?_
  exact ⟨-1, rfl, hc.2.symm, H⟩
theorem long_has {w : World} {F : List Piece} {A : Piece} {pa : Option Addr} {pc : Nat} {X : List ProgX} (hX : 0 < X.length → ∃ b off, pa = some ⟨b, off, none⟩ ∧ ScrA A b off X) (hn : X.length ≤ 1000000) (H : SL w (A :: F)) : Calls Tryz.prog 65 #[.slice pa X.length pc, .func (.func 66) #[] #[]] w fun o w' => o = .returned (.bool (X.any (fun p : ProgX => decide (32 < p.ops.length)))) ∧ SL w' (A :: F) := by
 refine calls_den (args := [_, _]) Tryz.func65 rfl (Nat.le_of_ble_eq_true (by kernel_rfl)) (by kernel_rfl) ?_
 refine ⟨?_⟩
 refine ⟨?_⟩
 refine Cl.by (by kernel_rfl) (long_index hX hn H) ?_
 rintro _ w ⟨r, rfl, hr, H⟩
 refine ⟨_, rfl, ?_⟩
 refine BB.k ?_
 refine ret1 (fn := Tryz.f65) (.bool (decide (r ≥ 0))) rfl (by rfl) ?_
 exact ⟨by rw [← hr], H⟩
def longB (X : List ProgX) (pl dr : List Int) : Bool := decide (8 < X.length) || decide (200 < pl.length) || decide (64 < dr.length) || X.any (fun p : ProgX => decide (32 < p.ops.length))
theorem d_long {w : World} {F : List Piece} {A : Piece} {pa la da : Option Addr} {pc lc dc : Nat} {t m : Int} {X : List ProgX} {pl dr : List Int} (hX : 0 < X.length → ∃ b off, pa = some ⟨b, off, none⟩ ∧ ScrA A b off X) (hL : Reader A 1 la pl.length (ints pl)) (hD : Reader A 1 da dr.length (ints dr)) (H : SL w (A :: F)) : Calls Tryz.prog 32 #[.agg #[.int .i64 t, .int .i64 m, .slice pa X.length pc, .slice la pl.length lc, .slice da dr.length dc]] w fun o w' => o = .returned (.bool (longB X pl dr)) ∧ SL w' (A :: F) := by
 refine calls_den (args := [_]) Tryz.func32 rfl (Nat.le_of_ble_eq_true (by kernel_rfl)) (by kernel_rfl) ?_
 refine ⟨?_⟩
 refine Nw.as #[.int .i64 t, .int .i64 m, .slice pa X.length pc, .slice la pl.length lc, .slice da dr.length dc] 25 rfl H fun b1 w H => ?_
 refine ⟨?_⟩
 refine H.ldi 0 rfl (v := .slice pa X.length pc) rfl ?_
 refine BB.vr fun q1 e1 => ?_
 cases q1
 ·skip
  have h1 := of_decide_eq_false e1
  refine H.ldi 0 rfl (v := .slice la pl.length lc) rfl ?_
  refine BB.vr fun q2 e2 => ?_
  cases q2
  ·skip
   have h2 := of_decide_eq_false e2
   refine H.ldi 0 rfl (v := .slice da dr.length dc) rfl ?_
   refine BB.vr fun q3 e3 => ?_
   cases q3
   ·skip
    have h3 := of_decide_eq_false e3
    refine H.ldi 0 rfl (v := .slice pa X.length pc) rfl ?_
    have h1 := H.pick [1, 0] 2 (by decide)
    simp only [pk, nth, pkA, pkB, pkC, pkD, pkE, pkF] at h1
    refine Cl.sl (by kernel_rfl) (long_has hX (by omega) h1) fun w H => ?_
    replace H := H.pick [1, 0] 2 (by decide)
    simp only [pk, nth, pkA, pkB, pkC, pkD, pkE, pkF] at H
    refine BB.k ?_
    refine ret1 (fn := Tryz.f32) (.bool (X.any (fun p : ProgX => decide (32 < p.ops.length)))) rfl (by rfl) ?_
    have hc : longB X pl dr = ((X.any (fun p : ProgX => decide (32 < p.ops.length)))) := by unfold longB; first | (simp [*]; done) | (simp [*]; omega)
    rw [hc]
    exact ⟨rfl, H.pick [1] 2 (by decide)⟩
   ·skip
    have h3 := of_decide_eq_true e3
    refine ret1 (fn := Tryz.f32) (.bool true) rfl (by rfl) ?_
    have hc : longB X pl dr = (true) := by unfold longB; first | (simp [*]; done) | (simp [*]; omega)
    rw [hc]
    exact ⟨rfl, H.pick [1] 2 (by decide)⟩
  ·skip
   have h2 := of_decide_eq_true e2
   refine ret1 (fn := Tryz.f32) (.bool true) rfl (by rfl) ?_
   have hc : longB X pl dr = (true) := by unfold longB; first | (simp [*]; done) | (simp [*]; omega)
   rw [hc]
   exact ⟨rfl, H.pick [1] 2 (by decide)⟩
 ·skip
  have h1 := of_decide_eq_true e1
  refine ret1 (fn := Tryz.f32) (.bool true) rfl (by rfl) ?_
  have hc : longB X pl dr = (true) := by unfold longB; first | (simp [*]; done) | (simp [*]; omega)
  rw [hc]
  exact ⟨rfl, H.pick [1] 2 (by decide)⟩
section
variable {t m : Int} {X : List ProgX} {pl dr : List Int}
theorem long_lens (h : longB X pl dr = false) : X.length ≤ 8 ∧ pl.length ≤ 200 ∧ dr.length ≤ 64 := by
 unfold longB at h
 simp only [Bool.or_eq_false_iff, decide_eq_false_iff_not] at h
 omega
theorem long_no (h : longB X pl dr = false) {k : Nat} {p : ProgX} (hp : X[k]? = some p) : p.ops.length ≤ 32 := by
 unfold longB at h
 simp only [Bool.or_eq_false_iff] at h
 have := List.any_eq_false.1 h.2 p (List.mem_of_getElem? hp)
 simp at this
 omega
theorem long_short : X.any (fun p : ProgX => decide (32 < p.ops.length)) = !(progsM X).all shortP := by
 unfold progsM
 induction X with
 | nil => rfl
 | cons p X ih =>
  rw [List.any_cons, List.map_cons, List.all_cons, ih]
  have e : decide (32 < p.ops.length) = !shortP (p.ops.map (·.op)) := by
   unfold shortP
   rw [List.length_map]
   by_cases h : p.ops.length ≤ 32
   ·simp [h]
   ·simp [h]; omega
  rw [e]
  cases shortP (p.ops.map (·.op)) <;> simp
theorem out_plan : pl.any (fun z => decide (z < (-1)) || decide (z > 1000)) = !pl.all planOk := by
 induction pl with
 | nil => rfl
 | cons z pl ih =>
  have e : (decide (z < (-1)) || decide (z > 1000)) = !planOk z := by
   unfold planOk
   rw [Bool.eq_iff_iff]
   simp
  rw [List.any_cons, List.all_cons, ih, e]
  cases planOk z <;> simp
theorem out_draw : pl.any (fun z => decide (z < 0) || decide (z > 1000)) = !pl.all drawOk := by
 induction pl with
 | nil => rfl
 | cons z pl ih =>
  have e : (decide (z < 0) || decide (z > 1000)) = !drawOk z := by
   unfold drawOk
   rw [Bool.eq_iff_iff]
   simp
  rw [List.any_cons, List.all_cons, ih, e]
  cases drawOk z <;> simp
theorem long_parts (h : longB X pl dr = false) : ¬ (8 < (progsM X).length ∨ 200 < pl.length ∨ 64 < dr.length) ∧ (progsM X).all shortP = true := by
 have hl := long_lens h
 have hm : (progsM X).length = X.length := by unfold progsM; rw [List.length_map]
 refine ⟨by omega, ?_⟩
 unfold longB at h
 rw [long_short] at h
 simp only [Bool.or_eq_false_iff, Bool.not_eq_false'] at h
 exact h.2
variable (h1 : ¬ (t < 1 ∨ 256 < t ∨ m < 1 ∨ 1048576 < m))
include h1
theorem cE_long (h : longB X pl dr = true) : checkE ⟨t, m, progsM X, pl, dr⟩ = 2 := by
 have hm : (progsM X).length = X.length := by unfold progsM; rw [List.length_map]
 by_cases h2 : 8 < (progsM X).length ∨ 200 < pl.length ∨ 64 < dr.length
 ·exact checkE_2 h1 h2
 ·refine checkE_3 h1 h2 ?_
  unfold longB at h
  rw [long_short] at h
  have e1 : ¬ 8 < X.length := by omega
  have e2 : ¬ 200 < pl.length := by omega
  have e3 : ¬ 64 < dr.length := by omega
  simp only [e1, e2, e3, decide_false, Bool.false_or, Bool.not_eq_true'] at h
  exact h
theorem cE_form (hl : longB X pl dr = false) (h : X.length = 0 ∨ (pl.any (fun z => decide (z < (-1)) || decide (z > 1000)) = true ∨ dr.any (fun z => decide (z < 0) || decide (z > 1000)) = true)) : checkE ⟨t, m, progsM X, pl, dr⟩ = 4 := by
 have hm : (progsM X).length = X.length := by unfold progsM; rw [List.length_map]
 obtain ⟨h2, h3⟩ := long_parts hl
 rw [out_plan, out_draw] at h
 by_cases h4 : (progsM X).length = 0
 ·exact checkE_4 h1 h2 h3 h4
 ·cases h5 : (progsM X).all (progOk (progsM X).length) with
  | false => exact checkE_5 h1 h2 h3 h4 h5
  | true =>
   cases h6 : pl.all planOk with
   | false => exact checkE_6 h1 h2 h3 h4 h5 h6
   | true =>
    refine checkE_7 h1 h2 h3 h4 h5 h6 ?_
    rcases h with h | h | h
    ·omega
    ·rw [h6] at h; cases h
    ·show dr.all drawOk = false
     simpa using h
theorem cE_op (hl : longB X pl dr = false) (h4 : X.length ≠ 0) (h : (progsM X).all (progOk (X.length : Int)) = false) : checkE ⟨t, m, progsM X, pl, dr⟩ = 4 := by
 have hm : (progsM X).length = X.length := by unfold progsM; rw [List.length_map]
 obtain ⟨h2, h3⟩ := long_parts hl
 exact checkE_5 h1 h2 h3 (by dsimp only; omega) (by dsimp only; rw [hm]; exact h)
theorem cE_ok (hl : longB X pl dr = false) (h4 : X.length ≠ 0) (h6 : pl.any (fun z => decide (z < (-1)) || decide (z > 1000)) = false) (h7 : dr.any (fun z => decide (z < 0) || decide (z > 1000)) = false) (h : (progsM X).all (progOk (X.length : Int)) = true) : checkE ⟨t, m, progsM X, pl, dr⟩ = 0 := by
 have hm : (progsM X).length = X.length := by unfold progsM; rw [List.length_map]
 obtain ⟨h2, h3⟩ := long_parts hl
 rw [out_plan] at h6
 rw [out_draw] at h7
 exact checkE_0 h1 h2 h3 (by dsimp only; omega) (by dsimp only; rw [hm]; exact h) (by simpa using h6) (by simpa using h7)
end
set_option maxHeartbeats 4000000 in
theorem p_check {w : World} {F : List Piece} {A : Piece} {pa la da : Option Addr} {pc lc dc : Nat} {t m : Int} {X : List ProgX} {pl dr : List Int} (hX : 0 < X.length → ∃ b off, pa = some ⟨b, off, none⟩ ∧ ScrA A b off X) (hL : Reader A 1 la pl.length (ints pl)) (hD : Reader A 1 da dr.length (ints dr)) (H : SL w (A :: F)) : Calls Tryz.prog 16 #[.agg #[.int .i64 t, .int .i64 m, .slice pa X.length pc, .slice la pl.length lc, .slice da dr.length dc]] w fun o w' => o = .returned (.int .i64 (checkE ⟨t, m, progsM X, pl, dr⟩)) ∧ SL w' (A :: F) := by
 refine calls_den (args := [_]) Tryz.func16 rfl (Nat.le_of_ble_eq_true (by kernel_rfl)) (by kernel_rfl) ?_
 refine ⟨?_⟩
 refine Nw.as #[.int .i64 t, .int .i64 m, .slice pa X.length pc, .slice la pl.length lc, .slice da dr.length dc] 25 rfl H fun b1 w H => ?_
 refine ⟨?_⟩
 refine ⟨?_⟩
 refine H.ldi 0 rfl (v := .int .i64 t) rfl ?_
 refine BB.vr fun q1 e1 => ?_
 cases q1
 ·skip
  have h1 := of_decide_eq_false e1
  refine H.ldi 0 rfl (v := .int .i64 t) rfl ?_
  refine BB.vr fun q2 e2 => ?_
  cases q2
  ·skip
   have h2 := of_decide_eq_false e2
   refine H.ldi 0 rfl (v := .int .i64 m) rfl ?_
   refine BB.vr fun q3 e3 => ?_
   cases q3
   ·skip
    have h3 := of_decide_eq_false e3
    refine H.ldi 0 rfl (v := .int .i64 m) rfl ?_
    refine BB.vr fun q4 e4 => ?_
    cases q4
    ·skip
     have h4 := of_decide_eq_false e4
     refine Cn.no ?_
     refine ⟨?_⟩
     refine H.ldi 0 rfl (v := .int .i64 t) rfl ?_
     refine H.ldi 0 rfl (v := .int .i64 m) rfl ?_
     refine H.ldi 0 rfl (v := .slice pa X.length pc) rfl ?_
     refine H.ldi 0 rfl (v := .slice la pl.length lc) rfl ?_
     refine H.ldi 0 rfl (v := .slice da dr.length dc) rfl ?_
     have h1 := H.pick [1, 0] 2 (by decide)
     simp only [pk, nth, pkA, pkB, pkC, pkD, pkE, pkF] at h1
     refine Cl.sl (by kernel_rfl) (d_long hX hL hD h1) fun w H => ?_
     replace H := H.pick [1, 0] 2 (by decide)
     simp only [pk, nth, pkA, pkB, pkC, pkD, pkE, pkF] at H
     refine BB.vr fun q5 e5 => ?_
     cases q5
     ·skip
      refine Cn.no ?_
      have hlong : longB X pl dr = false := by assumption
      have hlens := long_lens hlong
      refine ⟨?_⟩
      refine H.ldi 0 rfl (v := .slice pa X.length pc) rfl ?_
      refine BB.vr fun q6 e6 => ?_
      cases q6
      ·skip
       have h6 := beq_eq_false_iff_ne.1 e6
       refine H.ldi 0 rfl (v := .slice la pl.length lc) rfl ?_
       have h1 := H.pick [1, 0] 2 (by decide)
       simp only [pk, nth, pkA, pkB, pkC, pkD, pkE, pkF] at h1
       refine Cl.sl (by kernel_rfl) (d_outside (-1) 1000 hL (by omega) h1) fun w H => ?_
       replace H := H.pick [1, 0] 2 (by decide)
       simp only [pk, nth, pkA, pkB, pkC, pkD, pkE, pkF] at H
       refine BB.vr fun q7 e7 => ?_
       cases q7
       ·skip
        refine H.ldi 0 rfl (v := .slice da dr.length dc) rfl ?_
        have h1 := H.pick [1, 0] 2 (by decide)
        simp only [pk, nth, pkA, pkB, pkC, pkD, pkE, pkF] at h1
        refine Cl.sl (by kernel_rfl) (d_outside 0 1000 hD (by omega) h1) fun w H => ?_
        replace H := H.pick [1, 0] 2 (by decide)
        simp only [pk, nth, pkA, pkB, pkC, pkD, pkE, pkF] at H
        refine BB.vr fun q8 e8 => ?_
        cases q8
        ·skip
         refine Cn.no ?_
         refine ⟨?_⟩
         refine H.ldi 0 rfl (v := .slice pa X.length pc) rfl ?_
         refine ⟨?_⟩
         refine den.loop (ι := Nat) [(2, 2), (4, 4), (6, 6), (47, 64)] (by kernel_rfl) (fun k => [(47, .int .i64 ↑k)]) (fun k w => (k ≤ X.length ∧ ((progsM X).take k).all (progOk (X.length : Int)) = true) ∧ SL w (row b1 #[.int .i64 t, .int .i64 m, .slice pa X.length pc, .slice la pl.length lc, .slice da dr.length dc] 25 :: A :: F)) (fun k => X.length - k) 0 ⟨rfl, trivial⟩ ⟨⟨Nat.zero_le _, rfl⟩, (H)⟩ ?_
         rintro k s w ⟨hc, H⟩
         have hob := Nat.lt_or_ge k X.length
         rcases hob with hk | hk
         ·skip
          have hob : ∃ z, X[k]? = some z := ⟨_, List.getElem?_eq_getElem hk⟩
          obtain ⟨px, hY⟩ := hob
          have hob := hX (by omega)
          obtain ⟨pb, po, rfl, hXA⟩ := hob
          have hM : (progsM X)[k]? = some (px.ops.map (·.op)) := by unfold progsM; rw [List.getElem?_map, hY]; rfl
          have hsome := hXA.some_ k px hY
          have hcase := hXA.case k px hY
          obtain ⟨ops, qa, qc⟩ := px
          dsimp only at hM hsome hcase
          have h32 : ops.length ≤ 32 := long_no hlong hY
          refine ⟨?_⟩
          refine BB.yes (decide_eq_true (by omega)) ?_
          refine Cn.yes ?_
          refine ⟨?_⟩
          refine ⟨?_⟩
          refine Ix.at k 1 (by kernel_rfl) (rfl) (hk) ?_
          refine H.ldPv 1 rfl hXA k hY (v := .slice qa ops.length qc) rfl ?_
          refine ⟨?_⟩
          refine ⟨?_⟩
          refine den.loop (ι := Nat) [(2, 2), (6, 6), (53, 63)] (by kernel_rfl) (fun i => [(53, .int .i64 ↑i)]) (fun i w => (i ≤ ops.length ∧ ((ops.map (·.op)).take i).all (fun o => opE (X.length : Int) o == 0) = true) ∧ SL w (row b1 #[.int .i64 t, .int .i64 m, .slice (some ⟨pb, po, none⟩) X.length pc, .slice la pl.length lc, .slice da dr.length dc] 25 :: A :: F)) (fun i => ops.length - i) 0 ⟨rfl, trivial⟩ ⟨⟨Nat.zero_le _, rfl⟩, (H)⟩ ?_
          rintro i s w ⟨hd, H⟩
          have hob := Nat.lt_or_ge i ops.length
          rcases hob with hi | hi
          ·skip
           have hob := hsome (by omega)
           obtain ⟨qb, qo, rfl⟩ := hob
           have hob : ∃ z, ops[i]? = some z := ⟨_, List.getElem?_eq_getElem hi⟩
           obtain ⟨ox, hox⟩ := hob
           have hoM : (ops.map (·.op))[i]? = some ox.op := by rw [List.getElem?_map, hox]; rfl
           refine ⟨?_⟩
           refine BB.yes (decide_eq_true (by omega)) ?_
           refine Cn.yes ?_
           refine ⟨?_⟩
           refine ⟨?_⟩
           refine Ix.at i 5 (by kernel_rfl) (rfl) (hi) ?_
           refine H.ldO 1 rfl hXA k hY rfl i 0 hox (v := .int .i64 ox.op.kind) rfl ?_
           refine H.ldO 1 rfl hXA k hY rfl i 1 hox (v := .int .i64 ox.op.a) rfl ?_
           refine H.ldO 1 rfl hXA k hY rfl i 2 hox (v := .int .i64 ox.op.b) rfl ?_
           refine H.ldO 1 rfl hXA k hY rfl i 3 hox (v := .slice ox.ca ox.op.cases.length ox.cc) rfl ?_
           refine H.ldO 1 rfl hXA k hY rfl i 4 hox (v := .bool ox.op.dflt) rfl ?_
           refine Nw.as #[.int .i64 0, .int .i64 0, .int .i64 0, .slice none 0 0, .bool false] 44 rfl H fun b6 w H => ?_
           refine H.st0 (cs' := #[.int .i64 ox.op.kind, .int .i64 0, .int .i64 0, .slice none 0 0, .bool false]) rfl rfl rfl fun w H => ?_
           refine H.st0 (cs' := #[.int .i64 ox.op.kind, .int .i64 ox.op.a, .int .i64 0, .slice none 0 0, .bool false]) rfl rfl rfl fun w H => ?_
           refine H.st0 (cs' := #[.int .i64 ox.op.kind, .int .i64 ox.op.a, .int .i64 ox.op.b, .slice none 0 0, .bool false]) rfl rfl rfl fun w H => ?_
           refine H.st0 (cs' := #[.int .i64 ox.op.kind, .int .i64 ox.op.a, .int .i64 ox.op.b, .slice ox.ca ox.op.cases.length ox.cc, .bool false]) rfl rfl rfl fun w H => ?_
           refine H.st0 (cs' := #[.int .i64 ox.op.kind, .int .i64 ox.op.a, .int .i64 ox.op.b, .slice ox.ca ox.op.cases.length ox.cc, .bool ox.op.dflt]) rfl rfl rfl fun w H => ?_
           refine ⟨?_⟩
           refine H.ldi 0 rfl (v := .int .i64 ox.op.kind) rfl ?_
           refine H.ldi 0 rfl (v := .int .i64 ox.op.a) rfl ?_
           refine H.ldi 0 rfl (v := .int .i64 ox.op.b) rfl ?_
           refine H.ldi 0 rfl (v := .slice ox.ca ox.op.cases.length ox.cc) rfl ?_
           refine H.ldi 0 rfl (v := .bool ox.op.dflt) rfl ?_
           refine H.ldi 1 rfl (v := .slice (some ⟨pb, po, none⟩) X.length pc) rfl ?_
           have h1 := H.pick [2, 0, 1] 3 (by decide)
           simp only [pk, nth, pkA, pkB, pkC, pkD, pkE, pkF] at h1
           refine Cl.sl (by kernel_rfl) (d_check (hcase i ox hox).1 h1) fun w H => ?_
           replace H := H.pick [1, 2, 0] 3 (by decide)
           simp only [pk, nth, pkA, pkB, pkC, pkD, pkE, pkF] at H
           refine BB.vr fun q9 e9 => ?_
           cases q9
           ·skip
            have h9 := bne_eq_false_iff_eq.1 e9
            refine Cn.no ?_
            refine ⟨?_⟩
            refine IW.by (wrap_id (n := ↑i + 1) (by omega) (by omega)) ?_
            have hone : (fun o => opE (X.length : Int) o == 0) ox.op = true := beq_iff_eq.2 (by assumption)
            exact ⟨i + 1, ⟨rfl, trivial⟩, ⟨⟨by omega, all_step hd.2 hoM hone⟩, H.pick [1, 2] 3 (by decide)⟩, (show ops.length - (i + 1) < ops.length - i by omega)⟩
           ·skip
            have h9 := bne_iff_ne.1 e9
            refine Cn.yes ?_
            refine ⟨?_⟩
            refine ret1 (fn := Tryz.f16) (.int .i64 4) rfl (by rfl) ?_
            have hcc : checkE ⟨t, m, progsM X, pl, dr⟩ = 4 := cE_op (by omega) hlong (by omega) (all_no hM (all_no hoM (beq_eq_false_iff_ne.2 (by assumption))))
            rw [hcc]
            exact ⟨rfl, H.pick [2] 3 (by decide)⟩
          ·skip
           have hob : i = ops.length := by omega
           obtain rfl := hob
           have hq := hd.2
           rw [List.take_of_length_le (by simp)] at hq
           refine ⟨?_⟩
           refine BB.no (decide_eq_false (by omega)) ?_
           refine Cn.no ?_
           refine ⟨?_⟩
           refine IW.by (wrap_id (n := ↑k + 1) (by omega) (by omega)) ?_
           have hone : progOk (X.length : Int) (ops.map (·.op)) = true := hq
           exact ⟨k + 1, ⟨rfl, trivial⟩, ⟨⟨by omega, all_step hc.2 hM hone⟩, H⟩, (show X.length - (k + 1) < X.length - k by omega)⟩
         ·skip
          have hob : k = X.length := by omega
          obtain rfl := hob
          have hp := hc.2
          rw [List.take_of_length_le (by simp [progsM])] at hp
          refine ⟨?_⟩
          refine BB.no (decide_eq_false (by omega)) ?_
          refine Cn.no ?_
          refine ⟨?_⟩
          refine ret1 (fn := Tryz.f16) (.int .i64 0) rfl (by rfl) ?_
          have hcc : checkE ⟨t, m, progsM X, pl, dr⟩ = 0 := cE_ok (by omega) hlong (by omega) (by assumption) (by assumption) hp
          rw [hcc]
          exact ⟨rfl, H.pick [1] 2 (by decide)⟩
        ·skip
         refine Cn.yes ?_
         refine ⟨?_⟩
         refine ret1 (fn := Tryz.f16) (.int .i64 4) rfl (by rfl) ?_
         have hcc : checkE ⟨t, m, progsM X, pl, dr⟩ = 4 := cE_form (by omega) hlong (.inr (by simp [*]))
         rw [hcc]
         exact ⟨rfl, H.pick [1] 2 (by decide)⟩
       ·skip
        refine Cn.yes ?_
        refine ⟨?_⟩
        refine ret1 (fn := Tryz.f16) (.int .i64 4) rfl (by rfl) ?_
        have hcc : checkE ⟨t, m, progsM X, pl, dr⟩ = 4 := cE_form (by omega) hlong (.inr (by simp [*]))
        rw [hcc]
        exact ⟨rfl, H.pick [1] 2 (by decide)⟩
      ·skip
       have h6 := eq_of_beq e6
       refine Cn.yes ?_
       refine ⟨?_⟩
       refine ret1 (fn := Tryz.f16) (.int .i64 4) rfl (by rfl) ?_
       have hcc : checkE ⟨t, m, progsM X, pl, dr⟩ = 4 := cE_form (by omega) hlong (.inl (by omega))
       rw [hcc]
       exact ⟨rfl, H.pick [1] 2 (by decide)⟩
     ·skip
      refine Cn.yes ?_
      refine ⟨?_⟩
      refine ret1 (fn := Tryz.f16) (.int .i64 2) rfl (by rfl) ?_
      have hcc : checkE ⟨t, m, progsM X, pl, dr⟩ = 2 := cE_long (by omega) (by assumption)
      rw [hcc]
      exact ⟨rfl, H.pick [1] 2 (by decide)⟩
    ·skip
     have h4 := of_decide_eq_true e4
     refine Cn.yes ?_
     refine ⟨?_⟩
     refine ret1 (fn := Tryz.f16) (.int .i64 1) rfl (by rfl) ?_
     have hcc : checkE ⟨t, m, progsM X, pl, dr⟩ = 1 := checkE_1 (by dsimp only; omega)
     rw [hcc]
     exact ⟨rfl, H.pick [1] 2 (by decide)⟩
   ·skip
    have h3 := of_decide_eq_true e3
    refine Cn.yes ?_
    refine ⟨?_⟩
    refine ret1 (fn := Tryz.f16) (.int .i64 1) rfl (by rfl) ?_
    have hcc : checkE ⟨t, m, progsM X, pl, dr⟩ = 1 := checkE_1 (by dsimp only; omega)
    rw [hcc]
    exact ⟨rfl, H.pick [1] 2 (by decide)⟩
  ·skip
   have h2 := of_decide_eq_true e2
   refine Cn.yes ?_
   refine ⟨?_⟩
   refine ret1 (fn := Tryz.f16) (.int .i64 1) rfl (by rfl) ?_
   have hcc : checkE ⟨t, m, progsM X, pl, dr⟩ = 1 := checkE_1 (by dsimp only; omega)
   rw [hcc]
   exact ⟨rfl, H.pick [1] 2 (by decide)⟩
 ·skip
  have h1 := of_decide_eq_true e1
  refine Cn.yes ?_
  refine ⟨?_⟩
  refine ret1 (fn := Tryz.f16) (.int .i64 1) rfl (by rfl) ?_
  have hcc : checkE ⟨t, m, progsM X, pl, dr⟩ = 1 := checkE_1 (by dsimp only; omega)
  rw [hcc]
  exact ⟨rfl, H.pick [1] 2 (by decide)⟩
end Go.Proofs.YtcgajljbahbhdaaGreat
namespace Go.Proofs.YtcgajljbahbhdaaGreat
set_option linter.unusedVariables false
set_option linter.unusedSimpArgs false
open Go.RowKit
theorem SL.slcQu {w : World} {F : List Piece} {te sz n : Nat} {v : Value} {xs : List Value} (H : SL w (Slc te sz v n xs :: F)) : SL w (Qu te sz v n xs :: F) := by
 refine H.conv (fun S _ h => ?_)
 obtain ⟨⟨h1, h2⟩, h3⟩ := h
 refine ⟨h1, ?_⟩
 rcases h2 with ⟨rfl, h⟩ | ⟨g, cap, cur, rfl, _, hg, hc, hm, hs, ht⟩
 ·exact .inl ⟨rfl, h⟩
 ·exact .inr ⟨g, 0, cap, cur, rfl, h3 g rfl, hg, hc, hm, by omega, by simpa using ht⟩
def RdC (o : OpX) : Piece := Slc 98 3 (.slice o.ca o.op.cases.length o.cc) o.op.cases.length (o.op.cases.flatMap CaseM.cells)
def casesP (ops : List OpX) : Piece := all (ops.map RdC)
def progVal (p : ProgX) : Value := .slice p.pa p.ops.length p.pc
def progP (p : ProgX) : Piece := all [Slc 44 5 (progVal p) p.ops.length (p.ops.flatMap OpX.cells), casesP p.ops]
def scrP (va : Option Addr) (vc : Nat) (X : List ProgX) : Piece := all [Slc 41 1 (.slice va X.length vc) X.length (X.map progVal), all (X.map progP)]
theorem all_snocP {w : World} {F L : List Piece} {A : Piece} (H : SL w (A :: all L :: F)) : SL w (all (L ++ [A]) :: F) := by
 have h := SL.all.1 H.up1
 refine SL.all.2 ?_
 rw [List.append_assoc]
 exact h
theorem opx_at {ops : List OpX} {j : Nat} {o : OpX} (h : ops[j]? = some o) (i : Nat) (hi : i < 5) : (ops.flatMap OpX.cells)[j * 5 + i]? = o.cells[i]? := by
 obtain ⟨hk, rfl⟩ := List.getElem?_eq_some_iff.1 h
 exact flat_get OpX.cells 5 (fun _ => rfl) ops j i hi hk
theorem SL.slcLe {w : World} {F : List Piece} {te sz n c : Nat} {a : Option Addr} {xs : List Value} (H : SL w (Slc te sz (.slice a n c) n xs :: F)) : n ≤ c := by
 obtain ⟨S, _, ⟨_, h⟩, _⟩ := H.on
 rcases h with ⟨h, rfl⟩ | ⟨g, cap, cur, h, _, _, h2, _⟩
 ·exact Nat.zero_le _
 ·injection h with _ _ e
  subst e
  exact h2
def GoodO (o : OpX) : Prop := o.op.cases.length ≤ o.cc
def GoodP (p : ProgX) : Prop := (0 < p.ops.length → ∃ b, p.pa = some ⟨b, 0, none⟩) ∧ p.ops.length ≤ p.pc ∧ ∀ o ∈ p.ops, GoodO o
theorem scrP_prog {va : Option Addr} {vc : Nat} {X : List ProgX} {S : Nat → Prop} {w : World} (h : (scrP va vc X).on S w) {k : Nat} {p : ProgX} (hk : X[k]? = some p) : ∃ T, (progP p).on T w := by
 obtain ⟨T, _, hT⟩ := SLs.at (A := all (X.map progP)) 1 h rfl
 obtain ⟨U, _, hU⟩ := SLs.at (A := progP p) k hT (by rw [List.getElem?_map, hk]; rfl)
 exact ⟨U, hU⟩
theorem scrP_A {va : Option Addr} {vc b : Nat} {X : List ProgX} (hg : ∀ p ∈ X, GoodP p) (hva : va = some ⟨b, 0, none⟩) : ScrA (scrP va vc X) b 0 X where
 prog := by
  intro S w h k p hk
  obtain ⟨T, _, hT⟩ := SLs.at (A := Slc 41 1 (.slice va X.length vc) X.length (X.map progVal)) 0 h rfl
  subst hva
  have := own_cell (o := 0 + k * 1) hT.1 (v := progVal p) (by rw [Nat.zero_add, Nat.mul_one, List.getElem?_map, hk]; rfl)
  exact this
 some_ := by
  intro k p hk hp
  obtain ⟨b, hb⟩ := (hg p (List.mem_of_getElem? hk)).1 hp
  exact ⟨b, 0, hb⟩
 op := by
  intro S w h k p hk b2 o2 hpa j o hj i v hv
  obtain ⟨T, hT⟩ := scrP_prog h hk
  obtain ⟨U, _, hU⟩ := SLs.at (A := Slc 44 5 (progVal p) p.ops.length (p.ops.flatMap OpX.cells)) 0 hT rfl
  have hjl := (List.getElem?_eq_some_iff.1 hj).1
  obtain ⟨b', hb'⟩ := (hg p (List.mem_of_getElem? hk)).1 (by omega)
  rw [hb'] at hpa
  injection hpa with hpa
  injection hpa with h1 h2
  subst h1 h2
  have hi : i < 5 := by
   have := (List.getElem?_eq_some_iff.1 hv).1
   simpa [OpX.cells] using this
  have hU := hU.1
  unfold progVal at hU
  rw [hb'] at hU
  exact own_cell (o := 0 + j * 5 + i) hU (by rw [Nat.zero_add, opx_at hj i hi]; exact hv)
 cap := by
  intro k p hk
  exact (hg p (List.mem_of_getElem? hk)).2.1
 case := by
  intro k p hk j o hj
  refine ⟨?_, (hg p (List.mem_of_getElem? hk)).2.2 o (List.mem_of_getElem? hj)⟩
  intro S w h
  obtain ⟨T, hT⟩ := scrP_prog h hk
  obtain ⟨U, _, hU⟩ := SLs.at (A := casesP p.ops) 1 hT rfl
  obtain ⟨V, _, hV⟩ := SLs.at (A := RdC o) j hU (by rw [List.getElem?_map, hj]; rfl)
  exact Reader.slc V w hV
end Go.Proofs.YtcgajljbahbhdaaGreat
namespace Go.Proofs.YtcgajljbahbhdaaGreat
set_option linter.unusedVariables false
set_option linter.unusedSimpArgs false
open Go.RowKit
set_option maxRecDepth 100000
theorem cases_oneC (L : List CaseM) : (L.flatMap CaseM.cells).all Value.oneCell' = true := by
 rw [List.all_flatMap, List.all_eq_true]
 exact fun c _ => rfl
theorem copy_op {w : World} {F : List Piece} {A : Piece} {ox : OpX} (hA : Reader A 3 ox.ca ox.op.cases.length (ox.op.cases.flatMap CaseM.cells)) (hl : ox.op.cases.length ≤ 4) (H : SL w (A :: F)) : Calls Tryz.prog 78 #[.agg ox.cells.toArray] w fun o w' => ∃ oy : OpX, oy.op = ox.op ∧ GoodO oy ∧ o = .returned (.agg oy.cells.toArray) ∧ SL w' (RdC oy :: A :: F) := by
 refine calls_den (args := [_]) Tryz.func78 rfl (Nat.le_of_ble_eq_true (by kernel_rfl)) (by kernel_rfl) ?_
 refine ⟨?_⟩
 refine Nw.as #[.int .i64 ox.op.kind, .int .i64 ox.op.a, .int .i64 ox.op.b, .slice ox.ca ox.op.cases.length ox.cc, .bool ox.op.dflt] 44 rfl H fun b1 w H => ?_
 refine Nw.as #[.int .i64 0, .int .i64 0, .int .i64 0, .slice none 0 0, .bool false] 44 rfl H fun b2 w H => ?_
 refine ⟨?_⟩
 refine H.ldi 1 rfl (v := .slice ox.ca ox.op.cases.length ox.cc) rfl ?_
 have h1 := H.pick [2, 0, 1] 3 (by decide)
 simp only [pk, nth, pkA, pkB, pkC, pkD, pkE, pkF] at h1
 refine Cl.by (by kernel_rfl) (clone_case hA (cases_oneC _) (by omega) h1) ?_
 rintro _ w ⟨ka1, kc1, rfl, H⟩
 refine ⟨_, rfl, ?_⟩
 replace H := H.pick [0, 2, 3, 1] 4 (by decide)
 simp only [pk, nth, pkA, pkB, pkC, pkD, pkE, pkF] at H
 refine H.st2 (cs' := #[.int .i64 ox.op.kind, .int .i64 ox.op.a, .int .i64 ox.op.b, .slice ka1 ox.op.cases.length kc1, .bool ox.op.dflt]) rfl rfl rfl fun w H => ?_
 refine ⟨?_⟩
 refine H.ldi 2 rfl (v := .int .i64 ox.op.kind) rfl ?_
 refine H.ldi 2 rfl (v := .int .i64 ox.op.a) rfl ?_
 refine H.ldi 2 rfl (v := .int .i64 ox.op.b) rfl ?_
 refine H.ldi 2 rfl (v := .slice ka1 ox.op.cases.length kc1) rfl ?_
 refine H.ldi 2 rfl (v := .bool ox.op.dflt) rfl ?_
 refine H.st1 (cs' := #[.int .i64 ox.op.kind, .int .i64 0, .int .i64 0, .slice none 0 0, .bool false]) rfl rfl rfl fun w H => ?_
 refine H.st1 (cs' := #[.int .i64 ox.op.kind, .int .i64 ox.op.a, .int .i64 0, .slice none 0 0, .bool false]) rfl rfl rfl fun w H => ?_
 refine H.st1 (cs' := #[.int .i64 ox.op.kind, .int .i64 ox.op.a, .int .i64 ox.op.b, .slice none 0 0, .bool false]) rfl rfl rfl fun w H => ?_
 refine H.st1 (cs' := #[.int .i64 ox.op.kind, .int .i64 ox.op.a, .int .i64 ox.op.b, .slice ka1 ox.op.cases.length kc1, .bool false]) rfl rfl rfl fun w H => ?_
 refine H.st1 (cs' := #[.int .i64 ox.op.kind, .int .i64 ox.op.a, .int .i64 ox.op.b, .slice ka1 ox.op.cases.length kc1, .bool ox.op.dflt]) rfl rfl rfl fun w H => ?_
 refine retC (fn := Tryz.f78) H 1 rfl rfl (by rfl) (by kernel_rfl) (by kernel_rfl) ?_
 replace H := H.pick [0, 3] 4 (by decide)
 exact ⟨⟨ox.op, ka1, kc1⟩, rfl, SL.slcLe H, rfl, H⟩
set_option maxHeartbeats 2000000 in
theorem each_ops {w : World} {F : List Piece} {A : Piece} {pb po k qc : Nat} {X : List ProgX} {ops : List OpX} {qa : Option Addr} (hX : ScrA A pb po X) (hY : X[k]? = some ⟨ops, qa, qc⟩) (h4 : ∀ o ∈ ops, o.op.cases.length ≤ 4) (h32 : ops.length ≤ 32) (H : SL w (A :: F)) : Calls Tryz.prog 77 #[.slice qa ops.length qc, .func (.func 78) #[] #[]] w fun o w' => ∃ py : ProgX, py.ops.map (·.op) = ops.map (·.op) ∧ GoodP py ∧ o = .returned (.slice py.pa ops.length py.pc) ∧ SL w' (progP py :: A :: F) := by
 refine calls_den (args := [_, _]) Tryz.func77 rfl (Nat.le_of_ble_eq_true (by kernel_rfl)) (by kernel_rfl) ?_
 refine ⟨?_⟩
 refine ⟨?_⟩
 refine ⟨?_⟩
 refine ⟨?_⟩
 refine den.loop (ι := Nat × List OpX × Option Addr × Nat) [(5, 5), (7, 7), (10, 20)] (by kernel_rfl) (fun (j, Z, oa, oc) => [(5, .slice oa j oc), (10, .int .i64 ↑j)]) (fun (j, Z, oa, oc) w => (j ≤ ops.length ∧ Z.map (·.op) = (ops.map (·.op)).take j ∧ ∀ o ∈ Z, GoodO o) ∧ SL w (Slc 44 5 (.slice oa j oc) j (Z.flatMap OpX.cells) :: casesP Z :: A :: F)) (fun (j, Z, oa, oc) => ops.length - j) (0, [], none, 0) ⟨rfl, rfl, trivial⟩ ⟨⟨Nat.zero_le _, rfl, fun _ h => by cases h⟩, (SL.slcNil 44 5 (SL.all.2 H : SL w (casesP [] :: A :: F)))⟩ ?_
 rintro ⟨j, Z, oa, oc⟩ s w ⟨hc, H⟩
 have hob := Nat.lt_or_ge j ops.length
 rcases hob with hj | hj
 ·skip
  have hob := hX.some_ k _ hY (by dsimp only; omega)
  obtain ⟨qb, qo, rfl⟩ := hob
  have hob : ∃ z, ops[j]? = some z := ⟨_, List.getElem?_eq_getElem hj⟩
  obtain ⟨ox, hox⟩ := hob
  have hzl : Z.length = j := by have := congrArg List.length hc.2.1; simp at this; omega
  refine ⟨?_⟩
  refine BB.yes (decide_eq_true (by omega)) ?_
  refine Cn.yes ?_
  refine ⟨?_⟩
  refine ⟨?_⟩
  refine Ix.at j 5 (by kernel_rfl) (rfl) (hj) ?_
  refine H.ldO 2 rfl hX k hY rfl j 0 hox (v := .int .i64 ox.op.kind) rfl ?_
  refine H.ldO 2 rfl hX k hY rfl j 1 hox (v := .int .i64 ox.op.a) rfl ?_
  refine H.ldO 2 rfl hX k hY rfl j 2 hox (v := .int .i64 ox.op.b) rfl ?_
  refine H.ldO 2 rfl hX k hY rfl j 3 hox (v := .slice ox.ca ox.op.cases.length ox.cc) rfl ?_
  refine H.ldO 2 rfl hX k hY rfl j 4 hox (v := .bool ox.op.dflt) rfl ?_
  refine Nw.as #[.int .i64 0, .int .i64 0, .int .i64 0, .slice none 0 0, .bool false] 44 rfl H fun b7 w H => ?_
  refine H.st0 (cs' := #[.int .i64 ox.op.kind, .int .i64 0, .int .i64 0, .slice none 0 0, .bool false]) rfl rfl rfl fun w H => ?_
  refine H.st0 (cs' := #[.int .i64 ox.op.kind, .int .i64 ox.op.a, .int .i64 0, .slice none 0 0, .bool false]) rfl rfl rfl fun w H => ?_
  refine H.st0 (cs' := #[.int .i64 ox.op.kind, .int .i64 ox.op.a, .int .i64 ox.op.b, .slice none 0 0, .bool false]) rfl rfl rfl fun w H => ?_
  refine H.st0 (cs' := #[.int .i64 ox.op.kind, .int .i64 ox.op.a, .int .i64 ox.op.b, .slice ox.ca ox.op.cases.length ox.cc, .bool false]) rfl rfl rfl fun w H => ?_
  refine H.st0 (cs' := #[.int .i64 ox.op.kind, .int .i64 ox.op.a, .int .i64 ox.op.b, .slice ox.ca ox.op.cases.length ox.cc, .bool ox.op.dflt]) rfl rfl rfl fun w H => ?_
  refine ⟨?_⟩
  refine H.ldi 0 rfl (v := .int .i64 ox.op.kind) rfl ?_
  refine H.ldi 0 rfl (v := .int .i64 ox.op.a) rfl ?_
  refine H.ldi 0 rfl (v := .int .i64 ox.op.b) rfl ?_
  refine H.ldi 0 rfl (v := .slice ox.ca ox.op.cases.length ox.cc) rfl ?_
  refine H.ldi 0 rfl (v := .bool ox.op.dflt) rfl ?_
  have h1 := H.pick [3, 0, 1, 2] 4 (by decide)
  simp only [pk, nth, pkA, pkB, pkC, pkD, pkE, pkF] at h1
  refine Cl.by (by kernel_rfl) (copy_op (ox := ox) (hX.case k _ hY j ox hox).1 (h4 ox (List.mem_of_getElem? hox)) h1) ?_
  rintro _ w ⟨oy, hoy, hgood, rfl, H⟩
  refine ⟨_, rfl, ?_⟩
  have hoyc : [.int .i64 oy.op.kind, .int .i64 oy.op.a, .int .i64 oy.op.b, .slice oy.ca oy.op.cases.length oy.cc, .bool oy.op.dflt] = [oy].flatMap OpX.cells := by simp [OpX.cells]
  replace H := H.pick [0, 2, 3, 4, 1] 5 (by decide)
  simp only [pk, nth, pkA, pkB, pkC, pkD, pkE, pkF] at H
  refine Mn.new (fun b => .slice (some ⟨b, 0, none⟩) 1 1) #[.int .i64 oy.op.kind, .int .i64 oy.op.a, .int .i64 oy.op.b, .slice oy.ca oy.op.cases.length oy.cc, .bool oy.op.dflt] 44 (by kernel_rfl) H fun b18 w H => ?_
  refine SL.appS H.up3 (.tmp 14) (.tmp 18) 41 (.agg #[.int .i64 0, .int .i64 0, .int .i64 0, .slice none 0 0, .bool false]) 56 (by rfl) (by kernel_rfl) (by kernel_rfl) (by rfl) (by decide) (by rfl) (some ⟨b18, 0, none⟩) 1 1 [.int .i64 oy.op.kind, .int .i64 oy.op.a, .int .i64 oy.op.b, .slice oy.ca oy.op.cases.length oy.cc, .bool oy.op.dflt] (by rfl) (H.rdRow 0 rfl (by rfl) (by decide)) (by rfl) (by omega) (by decide) (by decide) fun g1 c1 w H => ?_
  refine ⟨?_⟩
  refine IW.by (wrap_id (n := ↑j + 1) (by omega) (by omega)) ?_
  replace H := H.pick [2, 4, 0, 5] 6 (by decide)
  simp only [pk, nth, pkA, pkB, pkC, pkD, pkE, pkF] at H
  have H2 := all_snocP H
  rw [show Z.map RdC ++ [RdC oy] = (Z ++ [oy]).map RdC by simp] at H2
  rw [show Z.flatMap OpX.cells ++ [.int .i64 oy.op.kind, .int .i64 oy.op.a, .int .i64 oy.op.b, .slice oy.ca oy.op.cases.length oy.cc, .bool oy.op.dflt] = (Z ++ [oy]).flatMap OpX.cells by rw [List.flatMap_append]; rfl] at H2
  exact ⟨(j + 1, Z ++ [oy], (some ⟨g1, 0, none⟩), c1), ⟨rfl, rfl, trivial⟩, ⟨⟨by omega, by rw [List.map_append, hc.2.1, List.take_add_one, List.getElem?_map, hox, List.map_singleton, hoy]; try rfl, fun z hz => (List.mem_append.1 hz).elim (hc.2.2 z) (fun h => by rw [List.mem_singleton.1 h]; exact hgood)⟩, H2.swap⟩, (show ops.length - (j + 1) < ops.length - j by omega)⟩
 ·skip
  have hob : j = ops.length := by omega
  obtain rfl := hob
  refine ⟨?_⟩
  refine BB.no (decide_eq_false (by omega)) ?_
  refine Cn.no ?_
  refine ⟨?_⟩
  refine ret1 (fn := Tryz.f77) (.slice oa ops.length oc) rfl (by rfl) ?_
  have hZ : Z.map (·.op) = ops.map (·.op) := by rw [hc.2.1, List.take_of_length_le (by simp)]
  have hzl : Z.length = ops.length := by have := congrArg List.length hZ; simpa using this
  rw [← hzl] at H
  exact ⟨⟨Z, oa, oc⟩, hZ, ⟨fun h => SL.slcAddr H h, SL.slcLe H, hc.2.2⟩, by rw [← hzl], SL.all.2 H⟩
theorem copy_prog {w : World} {F : List Piece} {A : Piece} {pb po k qc : Nat} {X : List ProgX} {ops : List OpX} {qa : Option Addr} (hX : ScrA A pb po X) (hY : X[k]? = some ⟨ops, qa, qc⟩) (h4 : ∀ o ∈ ops, o.op.cases.length ≤ 4) (h32 : ops.length ≤ 32) (H : SL w (A :: F)) : Calls Tryz.prog 76 #[.slice qa ops.length qc] w fun o w' => ∃ py : ProgX, py.ops.map (·.op) = ops.map (·.op) ∧ GoodP py ∧ o = .returned (.slice py.pa py.ops.length py.pc) ∧ SL w' (progP py :: A :: F) := by
 refine calls_den (args := [_]) Tryz.func76 rfl (Nat.le_of_ble_eq_true (by kernel_rfl)) (by kernel_rfl) ?_
 refine ⟨?_⟩
 refine ⟨?_⟩
 refine Cl.by (by kernel_rfl) (each_ops hX hY h4 h32 H) ?_
 rintro _ w ⟨py, hpy, hgood, rfl, H⟩
 refine ⟨_, rfl, ?_⟩
 refine ret1 (fn := Tryz.f76) (.slice py.pa ops.length py.pc) rfl (by rfl) ?_
 exact ⟨py, hpy, hgood, by rw [show ops.length = py.ops.length by have := congrArg List.length hpy; simpa using this.symm], H⟩
set_option maxHeartbeats 2000000 in
theorem each_progs {w : World} {F : List Piece} {A : Piece} {pa : Option Addr} {pc : Nat} {X : List ProgX} (hX : 0 < X.length → ∃ b off, pa = some ⟨b, off, none⟩ ∧ ScrA A b off X) (h4 : ∀ p ∈ X, ∀ o ∈ p.ops, o.op.cases.length ≤ 4) (h32 : ∀ p ∈ X, p.ops.length ≤ 32) (h8 : X.length ≤ 8) (H : SL w (A :: F)) : Calls Tryz.prog 75 #[.slice pa X.length pc, .func (.func 76) #[] #[]] w fun o w' => ∃ (Z : List ProgX) (va : Option Addr) (vc : Nat), progsM Z = progsM X ∧ Z.length = X.length ∧ (∀ p ∈ Z, GoodP p) ∧ o = .returned (.slice va X.length vc) ∧ (0 < X.length → ∃ b, va = some ⟨b, 0, none⟩) ∧ SL w' (scrP va vc Z :: A :: F) := by
 refine calls_den (args := [_, _]) Tryz.func75 rfl (Nat.le_of_ble_eq_true (by kernel_rfl)) (by kernel_rfl) ?_
 refine ⟨?_⟩
 refine ⟨?_⟩
 refine ⟨?_⟩
 refine ⟨?_⟩
 refine den.loop (ι := Nat × List ProgX × Option Addr × Nat) [(5, 5), (7, 7), (10, 20)] (by kernel_rfl) (fun (j, Z, oa, oc) => [(5, .slice oa j oc), (10, .int .i64 ↑j)]) (fun (j, Z, oa, oc) w => (j ≤ X.length ∧ progsM Z = (progsM X).take j ∧ ∀ p ∈ Z, GoodP p) ∧ SL w (Slc 41 1 (.slice oa j oc) j (Z.map progVal) :: all (Z.map progP) :: A :: F)) (fun (j, Z, oa, oc) => X.length - j) (0, [], none, 0) ⟨rfl, rfl, trivial⟩ ⟨⟨Nat.zero_le _, rfl, fun _ h => by cases h⟩, (SL.slcNil 41 1 (SL.all.2 H : SL w (all (([] : List ProgX).map progP) :: A :: F)))⟩ ?_
 rintro ⟨j, Z, oa, oc⟩ s w ⟨hc, H⟩
 have hob := Nat.lt_or_ge j X.length
 rcases hob with hj | hj
 ·skip
  have hob : ∃ z, X[j]? = some z := ⟨_, List.getElem?_eq_getElem hj⟩
  obtain ⟨px, hY⟩ := hob
  have hob := hX (by omega)
  obtain ⟨pb, po, rfl, hXA⟩ := hob
  obtain ⟨ops, qa, qc⟩ := px
  have hzl : Z.length = j := by have := congrArg List.length hc.2.1; simp [progsM] at this; omega
  refine ⟨?_⟩
  refine BB.yes (decide_eq_true (by omega)) ?_
  refine Cn.yes ?_
  refine ⟨?_⟩
  refine ⟨?_⟩
  refine Ix.at j 1 (by kernel_rfl) (rfl) (hj) ?_
  refine H.ldPv 2 rfl hXA j hY (v := .slice qa ops.length qc) rfl ?_
  refine ⟨?_⟩
  have h1 := H.pick [2, 0, 1] 3 (by decide)
  simp only [pk, nth, pkA, pkB, pkC, pkD, pkE, pkF] at h1
  refine Cl.by (by kernel_rfl) (copy_prog hXA hY (h4 _ (List.mem_of_getElem? hY)) (h32 _ (List.mem_of_getElem? hY)) h1) ?_
  rintro _ w ⟨py, hpy, hgood, rfl, H⟩
  refine ⟨_, rfl, ?_⟩
  replace H := H.pick [0, 2, 3, 1] 4 (by decide)
  simp only [pk, nth, pkA, pkB, pkC, pkD, pkE, pkF] at H
  refine Mn.new (fun b => .slice (some ⟨b, 0, none⟩) 1 1) #[.slice py.pa py.ops.length py.pc] 41 (by kernel_rfl) H fun b18 w H => ?_
  refine SL.appS H.up2 (.tmp 14) (.tmp 18) 22 (.slice none 0 0) 24 (by rfl) (by kernel_rfl) (by kernel_rfl) (by rfl) (by decide) (by rfl) (some ⟨b18, 0, none⟩) 1 1 [.slice py.pa py.ops.length py.pc] (by rfl) (H.rdRow 0 rfl (by rfl) (by decide)) (by rfl) (by omega) (by decide) (by decide) fun g1 c1 w H => ?_
  refine ⟨?_⟩
  refine IW.by (wrap_id (n := ↑j + 1) (by omega) (by omega)) ?_
  replace H := H.pick [2, 3, 0, 4] 5 (by decide)
  simp only [pk, nth, pkA, pkB, pkC, pkD, pkE, pkF] at H
  have H2 := all_snocP H
  rw [show Z.map progP ++ [progP py] = (Z ++ [py]).map progP by simp] at H2
  rw [show Z.map progVal ++ [.slice py.pa py.ops.length py.pc] = (Z ++ [py]).map progVal by simp [progVal]] at H2
  exact ⟨(j + 1, Z ++ [py], (some ⟨g1, 0, none⟩), c1), ⟨rfl, rfl, trivial⟩, ⟨⟨by omega, by unfold progsM at hc ⊢; rw [List.map_append, hc.2.1, List.take_add_one, List.getElem?_map, hY, List.map_singleton, hpy]; try rfl, fun z hz => (List.mem_append.1 hz).elim (hc.2.2 z) (fun h => by rw [List.mem_singleton.1 h]; exact hgood)⟩, H2.swap⟩, (show X.length - (j + 1) < X.length - j by omega)⟩
 ·skip
  have hob : j = X.length := by omega
  obtain rfl := hob
  refine ⟨?_⟩
  refine BB.no (decide_eq_false (by omega)) ?_
  refine Cn.no ?_
  refine ⟨?_⟩
  refine ret1 (fn := Tryz.f75) (.slice oa X.length oc) rfl (by rfl) ?_
  have hZ : progsM Z = progsM X := by rw [hc.2.1, List.take_of_length_le (by simp [progsM])]
  have hzl : Z.length = X.length := by have := congrArg List.length hZ; simpa [progsM] using this
  rw [← hzl] at H
  exact ⟨Z, oa, oc, hZ, hzl, hc.2.2, by rw [← hzl], fun h => SL.slcAddr H (by omega), SL.all.2 H⟩
set_option maxHeartbeats 2000000 in
theorem p_copy {w : World} {F : List Piece} {A : Piece} {pa la da : Option Addr} {pc lc dc : Nat} {t m : Int} {X : List ProgX} {pl dr : List Int} (hX : 0 < X.length → ∃ b off, pa = some ⟨b, off, none⟩ ∧ ScrA A b off X) (hL : Reader A 1 la pl.length (ints pl)) (hD : Reader A 1 da dr.length (ints dr)) (h4 : ∀ p ∈ X, ∀ o ∈ p.ops, o.op.cases.length ≤ 4) (h32 : ∀ p ∈ X, p.ops.length ≤ 32) (h8 : X.length ≤ 8) (hpl : pl.length ≤ 200) (hdl : dr.length ≤ 64) (H : SL w (A :: F)) : Calls Tryz.prog 36 #[.agg #[.int .i64 t, .int .i64 m, .slice pa X.length pc, .slice la pl.length lc, .slice da dr.length dc]] w fun o w' => ∃ (Z : List ProgX) (va : Option Addr) (vc : Nat) (la' : Option Addr) (lc' : Nat) (da' : Option Addr) (dc' : Nat), progsM Z = progsM X ∧ Z.length = X.length ∧ (∀ p ∈ Z, GoodP p) ∧ (0 < X.length → ∃ b, va = some ⟨b, 0, none⟩) ∧ o = .returned (.agg #[.int .i64 t, .int .i64 m, .slice va X.length vc, .slice la' pl.length lc', .slice da' dr.length dc']) ∧ SL w' (scrP va vc Z :: A :: F) := by
 refine calls_den (args := [_]) Tryz.func36 rfl (Nat.le_of_ble_eq_true (by kernel_rfl)) (by kernel_rfl) ?_
 refine ⟨?_⟩
 refine Nw.as #[.int .i64 t, .int .i64 m, .slice pa X.length pc, .slice la pl.length lc, .slice da dr.length dc] 25 rfl H fun b1 w H => ?_
 refine Nw.as #[.int .i64 0, .int .i64 0, .slice none 0 0, .slice none 0 0, .slice none 0 0] 25 rfl H fun b2 w H => ?_
 refine ⟨?_⟩
 refine H.ldi 1 rfl (v := .slice pa X.length pc) rfl ?_
 have h1 := H.pick [2, 0, 1] 3 (by decide)
 simp only [pk, nth, pkA, pkB, pkC, pkD, pkE, pkF] at h1
 refine Cl.by (by kernel_rfl) (each_progs hX h4 h32 h8 h1) ?_
 rintro _ w ⟨Z, va, vc, hZ, hzl, hgood, rfl, hva, H⟩
 refine ⟨_, rfl, ?_⟩
 replace H := H.pick [0, 2, 3, 1] 4 (by decide)
 simp only [pk, nth, pkA, pkB, pkC, pkD, pkE, pkF] at H
 refine H.st2 (cs' := #[.int .i64 t, .int .i64 m, .slice va X.length vc, .slice la pl.length lc, .slice da dr.length dc]) rfl rfl rfl fun w H => ?_
 refine ⟨?_⟩
 refine Drw.oft (.calm 0 (.calm 1 (.calm 3 (.calm 4 (.act 2 false (.pure 6 (.act 5 true (.act 7 true (.pure 8 (.act 9 true .nil)))))))))) (by kernel_rfl) mixed (fun w => SL w _) H.drew ?_
 replace H := H.drew
 refine LdC.i 2 rfl (v := .slice la pl.length lc) rfl ?_
 refine LdC.i 2 rfl (v := .slice da dr.length dc) rfl ?_
 have h1 := H.pick [3, 0, 1, 2] 4 (by decide)
 simp only [pk, nth, pkA, pkB, pkC, pkD, pkE, pkF] at h1
 refine Cl.by (by kernel_rfl) (clone_int hL (ints_all _) (by omega) h1) ?_
 rintro _ w ⟨ka1, kc1, rfl, H⟩
 refine ⟨_, rfl, ?_⟩
 replace H := H.pick [0, 2, 3, 4, 1] 5 (by decide)
 simp only [pk, nth, pkA, pkB, pkC, pkD, pkE, pkF] at H
 refine ⟨.inr (H.pick [1, 2, 3, 4] 5 (by decide)), ?_⟩
 have h1 := H.pick [4, 0, 1, 2, 3] 5 (by decide)
 simp only [pk, nth, pkA, pkB, pkC, pkD, pkE, pkF] at h1
 refine Cl.by (by kernel_rfl) (clone_int hD (ints_all _) (by omega) h1) ?_
 rintro _ w ⟨ka2, kc2, rfl, H⟩
 refine ⟨_, rfl, ?_⟩
 replace H := H.pick [0, 2, 3, 4, 5, 1] 6 (by decide)
 simp only [pk, nth, pkA, pkB, pkC, pkD, pkE, pkF] at H
 refine ⟨.inl rfl, ?_⟩
 refine H.st4 (cs' := #[.int .i64 t, .int .i64 m, .slice va X.length vc, .slice ka1 pl.length kc1, .slice da dr.length dc]) rfl rfl rfl fun w H => ?_
 refine ⟨.inl rfl, ?_⟩
 refine H.st4 (cs' := #[.int .i64 t, .int .i64 m, .slice va X.length vc, .slice ka1 pl.length kc1, .slice ka2 dr.length kc2]) rfl rfl rfl fun w H => ?_
 refine ⟨.inl rfl, ?_⟩
 refine ⟨?_⟩
 refine H.ldi 4 rfl (v := .int .i64 t) rfl ?_
 refine H.ldi 4 rfl (v := .int .i64 m) rfl ?_
 refine H.ldi 4 rfl (v := .slice va X.length vc) rfl ?_
 refine H.ldi 4 rfl (v := .slice ka1 pl.length kc1) rfl ?_
 refine H.ldi 4 rfl (v := .slice ka2 dr.length kc2) rfl ?_
 refine H.st3 (cs' := #[.int .i64 t, .int .i64 0, .slice none 0 0, .slice none 0 0, .slice none 0 0]) rfl rfl rfl fun w H => ?_
 refine H.st3 (cs' := #[.int .i64 t, .int .i64 m, .slice none 0 0, .slice none 0 0, .slice none 0 0]) rfl rfl rfl fun w H => ?_
 refine H.st3 (cs' := #[.int .i64 t, .int .i64 m, .slice va X.length vc, .slice none 0 0, .slice none 0 0]) rfl rfl rfl fun w H => ?_
 refine H.st3 (cs' := #[.int .i64 t, .int .i64 m, .slice va X.length vc, .slice ka1 pl.length kc1, .slice none 0 0]) rfl rfl rfl fun w H => ?_
 refine H.st3 (cs' := #[.int .i64 t, .int .i64 m, .slice va X.length vc, .slice ka1 pl.length kc1, .slice ka2 dr.length kc2]) rfl rfl rfl fun w H => ?_
 refine retC (fn := Tryz.f36) H 3 rfl rfl (by rfl) (by kernel_rfl) (by kernel_rfl) ?_
 exact ⟨Z, va, vc, ka1, kc1, ka2, kc2, hZ, hzl, hgood, hva, rfl, H.pick [2, 5] 6 (by decide)⟩
end Go.Proofs.YtcgajljbahbhdaaGreat
namespace Go.Proofs.YtcgajljbahbhdaaGreat
set_option linter.unusedVariables false
set_option linter.unusedSimpArgs false
open Go.RowKit
set_option maxRecDepth 100000
theorem p_trace {w : World} {F : List Piece} {np k lb : Nat} {sc : ScrM} {x : LmM} {t m : Int} {vp vl vd : Value} {n0 n1 n2 n3 n4 n5 n6 n7 : Int} (hn : x.name = [n0, n1, n2, n3, n4, n5, n6, n7]) (hk : Lk np k x) (hkb : k ≤ 990000) (H : SL w (LmP lb sc ⟨t, m, vp, vl, vd⟩ x :: F)) : Calls Tryz.prog 29 #[.pointer (some ⟨lb, 0, none⟩)] w fun o w' => ∃ ka kc, o = .returned (.slice ka x.tr.length kc) ∧ SL w' (Slc 36 8 (.slice ka x.tr.length kc) x.tr.length (x.tr.flatMap Ev.cells) :: LmP lb sc ⟨t, m, vp, vl, vd⟩ x :: F) := by
 have hob := lm_open (x := x) hn H
 obtain ⟨cb1, crb1, pn1, pc1, ala1, alc1, ta1, tc1, ps1, hl1, H⟩ := hob
 refine calls_den (args := [_]) Tryz.func29 rfl (Nat.le_of_ble_eq_true (by kernel_rfl)) (by kernel_rfl) ?_
 refine ⟨?_⟩
 refine ⟨?_⟩
 refine BB.no rfl ?_
 refine Cn.no ?_
 refine ⟨?_⟩
 refine H.ldi 0 rfl (v := .slice ta1 x.tr.length tc1) rfl ?_
 have h1 := H.pick [6, 0, 1, 2, 3, 4, 5] 7 (by decide)
 simp only [pk, nth, pkA, pkB, pkC, pkD, pkE, pkF] at h1
 refine Cl.by (by kernel_rfl) (clone_ev Reader.slc (evs_one _) (Nat.lt_of_le_of_lt hk.tr (by omega)) h1) ?_
 rintro _ w ⟨ka, kc, rfl, H⟩
 refine ⟨_, rfl, ?_⟩
 replace H := H.pick [0, 2, 3, 4, 5, 6, 7, 1] 8 (by decide)
 simp only [pk, nth, pkA, pkB, pkC, pkD, pkE, pkF] at H
 refine ret1 (fn := Tryz.f29) (.slice ka x.tr.length kc) rfl (by rfl) ?_
 have H0 := H.pick [1, 2, 3, 4, 5, 6, 7, 0] 8 (by decide)
 simp only [pk, nth, pkA, pkB, pkC, pkD, pkE, pkF] at H0
 replace H := lm_shut (x := x) hl1 (by first | rfl | simp [turnL, noteL, backN_len]) hn H0
 exact ⟨ka, kc, rfl, H.pick [1, 0] 2 (by decide)⟩
theorem bad_mk {w : World} {F : List Piece} (lo : Int) (H : SL w F) : Calls Tryz.prog 72 #[.int .i64 lo] w fun o w' => ∃ bl, o = .returned (.func (.func 73) #[] #[.pointer (some ⟨bl, 0, none⟩)]) ∧ SL w' (row bl #[.int .i64 lo] 3 :: F) := by
 refine calls_den (args := [_]) Tryz.func72 rfl (Nat.le_of_ble_eq_true (by kernel_rfl)) (by kernel_rfl) ?_
 refine ⟨?_⟩
 refine Nw.as #[.int .i64 lo] 3 rfl H fun b1 w H => ?_
 refine ⟨?_⟩
 refine Mn.pure (.func (.func 73) #[] #[.pointer (some ⟨b1, 0, none⟩)]) (by kernel_rfl) ?_
 refine ret1 (fn := Tryz.f72) (.func (.func 73) #[] #[.pointer (some ⟨b1, 0, none⟩)]) rfl (by rfl) ?_
 exact ⟨b1, rfl, H⟩
theorem bad_no {P : Program} {f : FuncId} {args : Array Value} {w : World} {L : List Piece} {b : Bool} (h : Calls P f args w fun o w' => o = .returned (.bool b) ∧ SL w' L) (hb : b = false) : Calls P f args w fun o w' => o = .returned (.bool false) ∧ SL w' L := by rw [hb] at h; exact h
theorem p_pick {w : World} {F : List Piece} {A : Piece} {la da : Option Addr} {lc dc : Nat} {pl dr : List Int} (hL : Reader A 1 la pl.length (ints pl)) (hD : Reader A 1 da dr.length (ints dr)) (hbp : pl.any (fun z => decide (z < (-1)) || decide (z > 1000)) = false) (hbd : dr.any (fun z => decide (z < 0) || decide (z > 1000)) = false) (hpl : pl.length ≤ 200) (hdl : dr.length ≤ 64) (H : SL w (A :: F)) :
  Calls Tryz.prog 35 #[.slice la pl.length lc, .slice da dr.length dc] w fun o w' => ∃ cb, o = .returned (.tuple #[.pointer (some ⟨cb, 0, none⟩), .int .i64 0]) ∧ SL w' (CurP cb pl dr :: A :: F) := by
 refine calls_den (args := [_, _]) Tryz.func35 rfl (Nat.le_of_ble_eq_true (by kernel_rfl)) (by kernel_rfl) ?_
 refine ⟨?_⟩
 refine ⟨?_⟩
 refine BB.no (decide_eq_false (by omega)) ?_
 refine BB.no (decide_eq_false (by omega)) ?_
 refine Cn.no ?_
 refine ⟨?_⟩
 refine ⟨?_⟩
 refine Cl.by (by kernel_rfl) (bad_mk (-1) H) ?_
 rintro _ w ⟨bl1, rfl, H⟩
 refine ⟨_, rfl, ?_⟩
 have h1 := H
 refine Cl.sl (by kernel_rfl) (bad_no (bad_has hL (by omega) h1) hbp) fun w H => ?_
 refine BB.no rfl ?_
 refine Cl.by (by kernel_rfl) (bad_mk 0 H) ?_
 rintro _ w ⟨bl2, rfl, H⟩
 refine ⟨_, rfl, ?_⟩
 have h1 := H.pick [0, 2, 1] 3 (by decide)
 simp only [pk, nth, pkA, pkB, pkC, pkD, pkE, pkF] at h1
 refine Cl.sl (by kernel_rfl) (bad_no (bad_has hD (by omega) h1) hbd) fun w H => ?_
 replace H := H.pick [0, 2, 1] 3 (by decide)
 simp only [pk, nth, pkA, pkB, pkC, pkD, pkE, pkF] at H
 refine BB.no rfl ?_
 refine Cn.no ?_
 refine ⟨?_⟩
 have h1 := H.pick [2, 0, 1] 3 (by decide)
 simp only [pk, nth, pkA, pkB, pkC, pkD, pkE, pkF] at h1
 refine Cl.by (by kernel_rfl) (clone_int hL (ints_all _) (by omega) h1) ?_
 rintro _ w ⟨ka1, kc1, rfl, H⟩
 refine ⟨_, rfl, ?_⟩
 replace H := H.pick [0, 2, 3, 1] 4 (by decide)
 simp only [pk, nth, pkA, pkB, pkC, pkD, pkE, pkF] at H
 refine Mn.pure (.agg #[.slice ka1 pl.length kc1]) (by kernel_rfl) ?_
 have h1 := H.pick [3, 0, 1, 2] 4 (by decide)
 simp only [pk, nth, pkA, pkB, pkC, pkD, pkE, pkF] at h1
 refine Cl.by (by kernel_rfl) (clone_int hD (ints_all _) (by omega) h1) ?_
 rintro _ w ⟨ka2, kc2, rfl, H⟩
 refine ⟨_, rfl, ?_⟩
 replace H := H.pick [0, 2, 3, 4, 1] 5 (by decide)
 simp only [pk, nth, pkA, pkB, pkC, pkD, pkE, pkF] at H
 refine Mn.pure (.agg #[.slice ka2 dr.length kc2]) (by kernel_rfl) ?_
 refine Mn.pure (.agg #[.slice ka1 pl.length kc1, .slice ka2 dr.length kc2]) (by kernel_rfl) ?_
 refine Nw.as #[.slice ka1 pl.length kc1, .slice ka2 dr.length kc2] 118 rfl H fun b32 w H => ?_
 refine ret2 (fn := Tryz.f35) (.pointer (some ⟨b32, 0, none⟩)) (.int .i64 0) rfl (by rfl) (by rfl) ?_
 replace H := H.pick [0, 2, 1, 5] 6 (by decide)
 simp only [pk, nth, pkA, pkB, pkC, pkD, pkE, pkF] at H
 exact ⟨b32, rfl, CurP.iff.2 ⟨_, _, (SL.slcQu (SL.slcQu H.up1).up2).pick [2, 1, 0] 3 (by decide)⟩⟩
end Go.Proofs.YtcgajljbahbhdaaGreat
namespace Go.Proofs.YtcgajljbahbhdaaGreat
set_option linter.unusedVariables false
set_option linter.unusedSimpArgs false
open Go.RowKit
set_option maxRecDepth 100000
def nm8 (j i : Nat) : Int := if i < j then -1 else 0
end Go.Proofs.YtcgajljbahbhdaaGreat
namespace Go.Proofs.YtcgajljbahbhdaaGreat
set_option linter.unusedVariables false
set_option linter.unusedSimpArgs false
open Go.RowKit
theorem wakes_p (x : LmM) (g ch : Int) (ws : List Wtr) : (wakesL x g ch ws).p = x.p := by
 induction ws generalizing x with
 | nil => rfl
 | cons z a ih =>
  unfold wakesL
  rw [ih]
  split <;> rfl
theorem senders_p (x : LmM) (ws : List Wtr) : (sendersL x ws).p = x.p := by
 induction ws generalizing x with
 | nil => rfl
 | cons z a ih =>
  unfold sendersL
  split
  ·rfl
  ·exact ih _
theorem talk_p (x : LmM) (g : Int) (c : CaseM) (a : Int) : (talkL x g c a).p = x.p := by
 unfold talkL
 dsimp only
 split
 ·rfl
 ·split <;> rfl
theorem alone_p (x : LmM) (g : Int) (c : CaseM) : (aloneL x g c).p = x.p := by
 unfold aloneL
 split
 ·exact talk_p ..
 ·dsimp only
  split <;> rfl
theorem shut_p (x : LmM) (g c : Int) : (shutL x g c).p = x.p := by
 unfold shutL
 dsimp only
 split
 ·rfl
 ·split
  ·rfl
  ·rw [senders_p, wakes_p]
   rfl
theorem choose_p (s : ScrM) (x : LmM) (g : Int) (o : OpM) : (chooseL s x g o).p = x.p := by
 unfold chooseL
 dsimp only
 split
 ·rw [talk_p, drawL_I]
 ·split <;> rfl
theorem other_p (x : LmM) (g : Int) (o : OpM) : (otherL x g o).p = x.p := by
 unfold otherL
 split
 ·rfl
 ·split
  ·rfl
  ·split
   ·rfl
   ·split <;> rfl
theorem does_p (s : ScrM) (x : LmM) (g : Int) (o : OpM) : (doesL s x g o).p = x.p := by
 unfold doesL
 split
 ·rw [alone_p]
 ·split
  ·rw [alone_p]
  ·split
   ·rw [shut_p]
   ·split
    ·rw [choose_p]
    ·rw [other_p]
theorem checkE_drawsB {s : ScrM} (h : checkE s = 0) : ∀ z ∈ s.draws, 0 ≤ z ∧ z ≤ 1000 := by
 unfold checkE at h
 split at h
 ·cases h
 ·split at h
  ·cases h
  ·split at h
   ·cases h
   ·split at h
    ·cases h
    ·split at h
     ·cases h
     ·split at h
      ·cases h
      ·split at h
       ·cases h
       ·rename_i h7
        simp only [Bool.not_eq_false] at h7
        intro z hz
        have := List.all_eq_true.1 h7 z hz
        simpa [drawOk] using this
end Go.Proofs.YtcgajljbahbhdaaGreat
