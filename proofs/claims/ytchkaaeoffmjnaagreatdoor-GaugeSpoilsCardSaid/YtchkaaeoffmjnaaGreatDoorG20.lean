/- Texts of the proof, several in one file: LawL. -/
import Derived.Test.YtchkaaeoffmjnaaGreatDoorG19
namespace Go.Proofs.YtchkaaeoffmjnaaGreatDoor
set_option linter.unusedVariables false
set_option linter.unusedSimpArgs false
open Go.RowKit
set_option maxRecDepth 100000
set_option maxHeartbeats 2000000 in
theorem l_large14 {w : World} {F : List Piece} {A : Piece} {pa la da : Option Addr} {pc lc dc : Nat} {t m : Int} {X : List ProgX} {pl dr : List Int} (hX : 0 < X.length → ∃ b off, pa = some ⟨b, off, none⟩ ∧ ScrA A b off X) (hL : Reader A 1 la pl.length (ints pl)) (hD : Reader A 1 da dr.length (ints dr)) (H : SL w (A :: F)) : Calls Tryz.prog 25 #[.agg #[.int .i64 t, .int .i64 m, .slice pa X.length pc, .slice la pl.length lc, .slice da dr.length dc]] w fun o w' => ∃ b : Bool, o = .returned (.bool b) ∧ SL w' (A :: F) := by
 refine calls_den (args := [_]) Tryz.func25 rfl (Nat.le_of_ble_eq_true (by kernel_rfl)) (by kernel_rfl) ?_
 refine ⟨?_⟩
 refine Nw.as #[.int .i64 t, .int .i64 m, .slice pa X.length pc, .slice la pl.length lc, .slice da dr.length dc] 42 rfl H fun b1 w H => ?_
 refine ⟨?_⟩
 refine H.ldi 0 rfl (v := .slice pa X.length pc) rfl ?_
 refine BB.vr fun q1 e1 => ?_
 cases q1
 ·skip
  have h1 := of_decide_eq_false e1
  refine H.ldi 0 rfl (v := .slice la pl.length lc) rfl ?_
  refine BB.vr fun q2 e2 => ?_
  cases q2
  ·skip
   have h2 := of_decide_eq_false e2
   refine H.ldi 0 rfl (v := .slice da dr.length dc) rfl ?_
   refine BB.vr fun q3 e3 => ?_
   cases q3
   ·skip
    have h3 := of_decide_eq_false e3
    refine Cn.no ?_
    refine ⟨?_⟩
    refine H.ldi 0 rfl (v := .slice pa X.length pc) rfl ?_
    refine ⟨?_⟩
    refine den.loop (ι := Nat) [(2, 2), (4, 4), (6, 6), (26, 44)] (by kernel_rfl) (fun k => [(26, .int .i64 ↑k)]) (fun k w => k ≤ X.length ∧ SL w (row b1 #[.int .i64 t, .int .i64 m, .slice pa X.length pc, .slice la pl.length lc, .slice da dr.length dc] 42 :: A :: F)) (fun k => X.length - k) 0 ⟨rfl, trivial⟩ ⟨Nat.zero_le _, (H)⟩ ?_
    rintro k s w ⟨hc, H⟩
    have hob := Nat.lt_or_ge k X.length
    rcases hob with hk | hk
    ·skip
     have hob : ∃ z, X[k]? = some z := ⟨_, List.getElem?_eq_getElem hk⟩
     obtain ⟨px, hY⟩ := hob
     have hob := hX (by omega)
     obtain ⟨pb, po, rfl, hXA⟩ := hob
     have hM : (progsM X)[k]? = some (px.ops.map (·.op)) := by unfold progsM; rw [List.getElem?_map, hY]; rfl
     have hsome := hXA.some_ k px hY
     have hcase := hXA.case k px hY
     obtain ⟨ops, qa, qc⟩ := px
     dsimp only at hM hsome hcase
     refine ⟨?_⟩
     refine BB.yes (decide_eq_true (by omega)) ?_
     refine Cn.yes ?_
     refine ⟨?_⟩
     refine ⟨?_⟩
     refine Ix.at k 1 (by kernel_rfl) (rfl) (hk) ?_
     refine H.ldPv 1 rfl hXA k hY (v := .slice qa ops.length qc) rfl ?_
     refine ⟨?_⟩
     refine BB.vr fun q4 e4 => ?_
     cases q4
     ·skip
      have h4 := of_decide_eq_false e4
      refine Cn.no ?_
      refine ⟨?_⟩
      refine ⟨?_⟩
      refine den.loop (ι := Nat) [(2, 2), (6, 6), (35, 43)] (by kernel_rfl) (fun i => [(35, .int .i64 ↑i)]) (fun i w => i ≤ ops.length ∧ SL w (row b1 #[.int .i64 t, .int .i64 m, .slice (some ⟨pb, po, none⟩) X.length pc, .slice la pl.length lc, .slice da dr.length dc] 42 :: A :: F)) (fun i => ops.length - i) 0 ⟨rfl, trivial⟩ ⟨Nat.zero_le _, (H)⟩ ?_
      rintro i s w ⟨hd, H⟩
      have hob := Nat.lt_or_ge i ops.length
      rcases hob with hi | hi
      ·skip
       have hob := hsome (by omega)
       obtain ⟨qb, qo, rfl⟩ := hob
       have hob : ∃ z, ops[i]? = some z := ⟨_, List.getElem?_eq_getElem hi⟩
       obtain ⟨ox, hox⟩ := hob
       refine ⟨?_⟩
       refine BB.yes (decide_eq_true (by omega)) ?_
       refine Cn.yes ?_
       refine ⟨?_⟩
       refine ⟨?_⟩
       refine Ix.at i 5 (by kernel_rfl) (rfl) (hi) ?_
       refine H.ldO 1 rfl hXA k hY rfl i 0 hox (v := .int .i64 ox.op.kind) rfl ?_
       refine H.ldO 1 rfl hXA k hY rfl i 1 hox (v := .int .i64 ox.op.a) rfl ?_
       refine H.ldO 1 rfl hXA k hY rfl i 2 hox (v := .int .i64 ox.op.b) rfl ?_
       refine H.ldO 1 rfl hXA k hY rfl i 3 hox (v := .slice ox.ca ox.op.cases.length ox.cc) rfl ?_
       refine H.ldO 1 rfl hXA k hY rfl i 4 hox (v := .bool ox.op.dflt) rfl ?_
       refine Nw.as #[.int .i64 0, .int .i64 0, .int .i64 0, .slice none 0 0, .bool false] 66 rfl H fun b6 w H => ?_
       refine H.st0 (cs' := #[.int .i64 ox.op.kind, .int .i64 0, .int .i64 0, .slice none 0 0, .bool false]) rfl rfl rfl fun w H => ?_
       refine H.st0 (cs' := #[.int .i64 ox.op.kind, .int .i64 ox.op.a, .int .i64 0, .slice none 0 0, .bool false]) rfl rfl rfl fun w H => ?_
       refine H.st0 (cs' := #[.int .i64 ox.op.kind, .int .i64 ox.op.a, .int .i64 ox.op.b, .slice none 0 0, .bool false]) rfl rfl rfl fun w H => ?_
       refine H.st0 (cs' := #[.int .i64 ox.op.kind, .int .i64 ox.op.a, .int .i64 ox.op.b, .slice ox.ca ox.op.cases.length ox.cc, .bool false]) rfl rfl rfl fun w H => ?_
       refine H.st0 (cs' := #[.int .i64 ox.op.kind, .int .i64 ox.op.a, .int .i64 ox.op.b, .slice ox.ca ox.op.cases.length ox.cc, .bool ox.op.dflt]) rfl rfl rfl fun w H => ?_
       refine ⟨?_⟩
       refine H.ldi 0 rfl (v := .slice ox.ca ox.op.cases.length ox.cc) rfl ?_
       refine BB.vr fun q5 e5 => ?_
       cases q5
       ·skip
        have h5 := of_decide_eq_false e5
        refine Cn.no ?_
        refine ⟨?_⟩
        refine IW.by (wrap_id (n := ↑i + 1) (by omega) (by omega)) ?_
        exact ⟨i + 1, ⟨rfl, trivial⟩, ⟨(by omega : i + 1 ≤ ops.length), H.pick [1, 2] 3 (by decide)⟩, (show ops.length - (i + 1) < ops.length - i by omega)⟩
       ·skip
        have h5 := of_decide_eq_true e5
        refine Cn.yes ?_
        refine ⟨?_⟩
        refine ret1 (fn := Tryz.f25) (.bool true) rfl (by rfl) ?_
        exact ⟨_, rfl, H.pick [2] 3 (by decide)⟩
      ·skip
       have hob : i = ops.length := by omega
       obtain rfl := hob
       refine ⟨?_⟩
       refine BB.no (decide_eq_false (by omega)) ?_
       refine Cn.no ?_
       refine ⟨?_⟩
       refine IW.by (wrap_id (n := ↑k + 1) (by omega) (by omega)) ?_
       exact ⟨k + 1, ⟨rfl, trivial⟩, ⟨(by omega : k + 1 ≤ X.length), H⟩, (show X.length - (k + 1) < X.length - k by omega)⟩
     ·skip
      have h4 := of_decide_eq_true e4
      refine Cn.yes ?_
      refine ⟨?_⟩
      refine ret1 (fn := Tryz.f25) (.bool true) rfl (by rfl) ?_
      exact ⟨_, rfl, H.pick [1] 2 (by decide)⟩
    ·skip
     have hob : k = X.length := by omega
     obtain rfl := hob
     refine ⟨?_⟩
     refine BB.no (decide_eq_false (by omega)) ?_
     refine Cn.no ?_
     refine ⟨?_⟩
     refine ret1 (fn := Tryz.f25) (.bool false) rfl (by rfl) ?_
     exact ⟨_, rfl, H.pick [1] 2 (by decide)⟩
   ·skip
    have h3 := of_decide_eq_true e3
    refine Cn.yes ?_
    refine ⟨?_⟩
    refine ret1 (fn := Tryz.f25) (.bool true) rfl (by rfl) ?_
    exact ⟨_, rfl, H.pick [1] 2 (by decide)⟩
  ·skip
   have h2 := of_decide_eq_true e2
   refine Cn.yes ?_
   refine ⟨?_⟩
   refine ret1 (fn := Tryz.f25) (.bool true) rfl (by rfl) ?_
   exact ⟨_, rfl, H.pick [1] 2 (by decide)⟩
 ·skip
  have h1 := of_decide_eq_true e1
  refine Cn.yes ?_
  refine ⟨?_⟩
  refine ret1 (fn := Tryz.f25) (.bool true) rfl (by rfl) ?_
  exact ⟨_, rfl, H.pick [1] 2 (by decide)⟩
set_option maxHeartbeats 4000000 in
theorem l_gruns {w : World} {F : List Piece} {A : Piece} {pa la da : Option Addr} {pc lc dc : Nat} {t m : Int} {X : List ProgX} {pl dr : List Int} (hX : 0 < X.length → ∃ b off, pa = some ⟨b, off, none⟩ ∧ ScrA A b off X) (hL : Reader A 1 la pl.length (ints pl)) (hD : Reader A 1 da dr.length (ints dr)) {n : Int} (hG : SpansA A) (H : SL w (A :: F)) : Calls Tryz.prog 7 #[.agg #[.int .i64 t, .int .i64 m, .slice pa X.length pc, .slice la pl.length lc, .slice da dr.length dc], .int .i64 n] w fun o w' => o = .returned (.bool true) ∧ SL w' (A :: F) := by
 by_cases hck : checkE ⟨t, m, progsM X, pl, dr⟩ = 0
 ·have hsh : (runL ⟨t, m, progsM X, pl, dr⟩ (pl.length + 1)).tr.length ≤ 2000 := Nat.le_trans (run_short hck) (by decide)
  have hk : ∀ j, j < (runL ⟨t, m, progsM X, pl, dr⟩ (pl.length + 1)).tr.length → brG (runL ⟨t, m, progsM X, pl, dr⟩ (pl.length + 1)).tr j = 0 := (run_keeps hck).1
  have hk0 : checkG (runL ⟨t, m, progsM X, pl, dr⟩ (pl.length + 1)).tr = (0, 0) := by rw [check_none hk, if_neg (calm_last (run_keeps hck).2)]
  by_cases hn : 0 ≤ n ∧ n ≤ (runL ⟨t, m, progsM X, pl, dr⟩ (pl.length + 1)).tr.length
  ·rcases Int.lt_or_le 0 n with hp | hp
   ·obtain ⟨jj, rfl⟩ : ∃ jj : Nat, n = ((jj + 1 : Nat) : Int) := ⟨(n - 1).toNat, by omega⟩
    have hml : jj < (runL ⟨t, m, progsM X, pl, dr⟩ (pl.length + 1)).tr.length := by omega
    obtain ⟨⟨xkind, xg, xchan, xcase_, xvalue, xmate, xsend, xok⟩, hxx⟩ : ∃ x, (runL ⟨t, m, progsM X, pl, dr⟩ (pl.length + 1)).tr[jj]? = some x := ⟨_, List.getElem?_eq_getElem hml⟩
    cases hsv : servesF ⟨xkind, xg, xchan, xcase_, xvalue, xmate, xsend, xok⟩ with
    | true =>
     refine calls_den (args := [_, _]) Tryz.func7 rfl (Nat.le_of_ble_eq_true (by kernel_rfl)) (by kernel_rfl) ?_
     refine ⟨?_⟩
     refine Nw.as #[.int .i64 t, .int .i64 m, .slice pa X.length pc, .slice la pl.length lc, .slice da dr.length dc] 42 rfl H fun b2 w H => ?_
     refine ⟨?_⟩
     refine H.ldi 0 rfl (v := .int .i64 t) rfl ?_
     refine H.ldi 0 rfl (v := .int .i64 m) rfl ?_
     refine H.ldi 0 rfl (v := .slice pa X.length pc) rfl ?_
     refine H.ldi 0 rfl (v := .slice la pl.length lc) rfl ?_
     refine H.ldi 0 rfl (v := .slice da dr.length dc) rfl ?_
     have h1 := H.pick [1, 0] 2 (by decide)
     simp only [pk, nth, pkA, pkB, pkC, pkD, pkE, pkF] at h1
     refine Cl.by (by kernel_rfl) (l_large14 hX hL hD h1) ?_
     rintro _ w ⟨bl, rfl, H⟩
     refine ⟨_, rfl, ?_⟩
     replace H := H.pick [1, 0] 2 (by decide)
     simp only [pk, nth, pkA, pkB, pkC, pkD, pkE, pkF] at H
     refine BB.k ?_
     cases bl
     ·skip
      refine Cn.no ?_
      refine ⟨?_⟩
      refine H.ldi 0 rfl (v := .int .i64 t) rfl ?_
      refine H.ldi 0 rfl (v := .int .i64 m) rfl ?_
      refine H.ldi 0 rfl (v := .slice pa X.length pc) rfl ?_
      refine H.ldi 0 rfl (v := .slice la pl.length lc) rfl ?_
      refine H.ldi 0 rfl (v := .slice da dr.length dc) rfl ?_
      have h1 := H.pick [1, 0] 2 (by decide)
      simp only [pk, nth, pkA, pkB, pkC, pkD, pkE, pkF] at h1
      refine Cl.by (by kernel_rfl) (p_run hX hL hD hck h1) ?_
      rintro _ w ⟨ka, kc, rfl, H⟩
      refine ⟨_, rfl, ?_⟩
      replace H := H.pick [0, 2, 1] 3 (by decide)
      simp only [pk, nth, pkA, pkB, pkC, pkD, pkE, pkF] at H
      have hob := SL.slcAddr H (by omega)
      obtain ⟨kq, rfl⟩ := hob
      refine ⟨?_⟩
      have h1 := H.pick [0, 2, 1] 3 (by decide)
      simp only [pk, nth, pkA, pkB, pkC, pkD, pkE, pkF] at h1
      have K := g_checkT (k := (runL ⟨t, m, progsM X, pl, dr⟩ (pl.length + 1)).tr.length) (kc' := kc) hG rfl (Nat.le_refl _) hsh h1
      rw [List.take_length, hk0] at K
      refine Cl.sl (by kernel_rfl) K fun w H => ?_
      replace H := H.pick [0, 2, 1] 3 (by decide)
      simp only [pk, nth, pkA, pkB, pkC, pkD, pkE, pkF] at H
      refine ⟨?_⟩
      refine BB.no rfl ?_
      refine Cn.no ?_
      refine ⟨?_⟩
      refine BB.no (decide_eq_false (by omega)) ?_
      refine BB.no (decide_eq_false (by omega)) ?_
      refine Cn.no ?_
      refine ⟨?_⟩
      refine Mn.head (te := 53) (sz := 8) (c := kc) (.tmp 37) (.tmp 38) 22 (by rfl) (by kernel_rfl) (by kernel_rfl) (jj + 1) (Nat.le_trans (show jj + 1 ≤ (runL ⟨t, m, progsM X, pl, dr⟩ (pl.length + 1)).tr.length by omega) (SL.slcLe H)) (by rfl) (by rfl) ?_
      have h1 := H.pick [0, 2, 1] 3 (by decide)
      simp only [pk, nth, pkA, pkB, pkC, pkD, pkE, pkF] at h1
      have K := g_checkT (k := (jj + 1)) (kc' := kc) hG rfl (by omega) hsh h1
      rw [check_part hk hxx, if_pos hsv] at K
      refine Cl.sl (by kernel_rfl) K fun w H => ?_
      replace H := H.pick [0, 2, 1] 3 (by decide)
      simp only [pk, nth, pkA, pkB, pkC, pkD, pkE, pkF] at H
      refine ⟨?_⟩
      refine BB.yes (decide_eq_true (by omega)) ?_
      refine IW.by (m := ↑jj) (sub_one (by omega)) ?_
      refine Ix.at0 jj 8 (by kernel_rfl) (rfl) (hml) ?_
      refine H.ldS 0 rfl (v := .int .i64 xkind) ((ev_cell hxx 0 (by decide)).trans rfl) ?_
      refine H.ldS 0 rfl (v := .int .i64 xg) ((ev_cell hxx 1 (by decide)).trans rfl) ?_
      refine H.ldS 0 rfl (v := .int .i64 xchan) ((ev_cell hxx 2 (by decide)).trans rfl) ?_
      refine H.ldS 0 rfl (v := .int .i64 xcase_) ((ev_cell hxx 3 (by decide)).trans rfl) ?_
      refine H.ldS 0 rfl (v := .int .i64 xvalue) ((ev_cell hxx 4 (by decide)).trans rfl) ?_
      refine H.ldS 0 rfl (v := .int .i64 xmate) ((ev_cell hxx 5 (by decide)).trans rfl) ?_
      refine H.ldS 0 rfl (v := .bool xsend) ((ev_cell hxx 6 (by decide)).trans rfl) ?_
      refine H.ldS 0 rfl (v := .bool xok) ((ev_cell hxx 7 (by decide)).trans rfl) ?_
      have K := r_serves H ⟨xkind, xg, xchan, xcase_, xvalue, xmate, xsend, xok⟩
      rw [hsv] at K
      refine Cl.sl (by kernel_rfl) K fun w H => ?_
      refine BB.yes rfl ?_
      refine ⟨?_⟩
      refine BB.no rfl ?_
      refine BB.no rfl ?_
      refine BB.yes rfl ?_
      refine BB.no rfl ?_
      refine BB.yes rfl ?_
      refine BB.yes (beq_self_eq_true _) ?_
      have h1 := H.pick [2, 0, 1] 3 (by decide)
      simp only [pk, nth, pkA, pkB, pkC, pkD, pkE, pkF] at h1
      refine Cl.sl (by kernel_rfl) (l_exits hG h1) fun w H => ?_
      replace H := H.pick [1, 2, 0] 3 (by decide)
      simp only [pk, nth, pkA, pkB, pkC, pkD, pkE, pkF] at H
      refine BB.yes rfl ?_
      refine ret1 (fn := Tryz.f7) (.bool true) rfl (by rfl) ?_
      exact ⟨rfl, H.pick [2] 3 (by decide)⟩
     ·skip
      refine Cn.yes ?_
      refine ⟨?_⟩
      have h1 := H.pick [1, 0] 2 (by decide)
      simp only [pk, nth, pkA, pkB, pkC, pkD, pkE, pkF] at h1
      refine Cl.sl (by kernel_rfl) (l_exits hG h1) fun w H => ?_
      replace H := H.pick [1, 0] 2 (by decide)
      simp only [pk, nth, pkA, pkB, pkC, pkD, pkE, pkF] at H
      refine BB.yes rfl ?_
      refine ret1 (fn := Tryz.f7) (.bool true) rfl (by rfl) ?_
      exact ⟨rfl, H.pick [1] 2 (by decide)⟩
    | false =>
     have hsv' : ¬ (servesF ⟨xkind, xg, xchan, xcase_, xvalue, xmate, xsend, xok⟩ = true) := by rw [hsv]; decide
     refine calls_den (args := [_, _]) Tryz.func7 rfl (Nat.le_of_ble_eq_true (by kernel_rfl)) (by kernel_rfl) ?_
     refine ⟨?_⟩
     refine Nw.as #[.int .i64 t, .int .i64 m, .slice pa X.length pc, .slice la pl.length lc, .slice da dr.length dc] 42 rfl H fun b2 w H => ?_
     refine ⟨?_⟩
     refine H.ldi 0 rfl (v := .int .i64 t) rfl ?_
     refine H.ldi 0 rfl (v := .int .i64 m) rfl ?_
     refine H.ldi 0 rfl (v := .slice pa X.length pc) rfl ?_
     refine H.ldi 0 rfl (v := .slice la pl.length lc) rfl ?_
     refine H.ldi 0 rfl (v := .slice da dr.length dc) rfl ?_
     have h1 := H.pick [1, 0] 2 (by decide)
     simp only [pk, nth, pkA, pkB, pkC, pkD, pkE, pkF] at h1
     refine Cl.by (by kernel_rfl) (l_large14 hX hL hD h1) ?_
     rintro _ w ⟨bl, rfl, H⟩
     refine ⟨_, rfl, ?_⟩
     replace H := H.pick [1, 0] 2 (by decide)
     simp only [pk, nth, pkA, pkB, pkC, pkD, pkE, pkF] at H
     refine BB.k ?_
     cases bl
     ·skip
      refine Cn.no ?_
      refine ⟨?_⟩
      refine H.ldi 0 rfl (v := .int .i64 t) rfl ?_
      refine H.ldi 0 rfl (v := .int .i64 m) rfl ?_
      refine H.ldi 0 rfl (v := .slice pa X.length pc) rfl ?_
      refine H.ldi 0 rfl (v := .slice la pl.length lc) rfl ?_
      refine H.ldi 0 rfl (v := .slice da dr.length dc) rfl ?_
      have h1 := H.pick [1, 0] 2 (by decide)
      simp only [pk, nth, pkA, pkB, pkC, pkD, pkE, pkF] at h1
      refine Cl.by (by kernel_rfl) (p_run hX hL hD hck h1) ?_
      rintro _ w ⟨ka, kc, rfl, H⟩
      refine ⟨_, rfl, ?_⟩
      replace H := H.pick [0, 2, 1] 3 (by decide)
      simp only [pk, nth, pkA, pkB, pkC, pkD, pkE, pkF] at H
      have hob := SL.slcAddr H (by omega)
      obtain ⟨kq, rfl⟩ := hob
      refine ⟨?_⟩
      have h1 := H.pick [0, 2, 1] 3 (by decide)
      simp only [pk, nth, pkA, pkB, pkC, pkD, pkE, pkF] at h1
      have K := g_checkT (k := (runL ⟨t, m, progsM X, pl, dr⟩ (pl.length + 1)).tr.length) (kc' := kc) hG rfl (Nat.le_refl _) hsh h1
      rw [List.take_length, hk0] at K
      refine Cl.sl (by kernel_rfl) K fun w H => ?_
      replace H := H.pick [0, 2, 1] 3 (by decide)
      simp only [pk, nth, pkA, pkB, pkC, pkD, pkE, pkF] at H
      refine ⟨?_⟩
      refine BB.no rfl ?_
      refine Cn.no ?_
      refine ⟨?_⟩
      refine BB.no (decide_eq_false (by omega)) ?_
      refine BB.no (decide_eq_false (by omega)) ?_
      refine Cn.no ?_
      refine ⟨?_⟩
      refine Mn.head (te := 53) (sz := 8) (c := kc) (.tmp 37) (.tmp 38) 22 (by rfl) (by kernel_rfl) (by kernel_rfl) (jj + 1) (Nat.le_trans (show jj + 1 ≤ (runL ⟨t, m, progsM X, pl, dr⟩ (pl.length + 1)).tr.length by omega) (SL.slcLe H)) (by rfl) (by rfl) ?_
      have h1 := H.pick [0, 2, 1] 3 (by decide)
      simp only [pk, nth, pkA, pkB, pkC, pkD, pkE, pkF] at h1
      have K := g_checkT (k := (jj + 1)) (kc' := kc) hG rfl (by omega) hsh h1
      rw [check_part hk hxx, if_neg hsv'] at K
      refine Cl.sl (by kernel_rfl) K fun w H => ?_
      replace H := H.pick [0, 2, 1] 3 (by decide)
      simp only [pk, nth, pkA, pkB, pkC, pkD, pkE, pkF] at H
      refine ⟨?_⟩
      refine BB.yes (decide_eq_true (by omega)) ?_
      refine IW.by (m := ↑jj) (sub_one (by omega)) ?_
      refine Ix.at0 jj 8 (by kernel_rfl) (rfl) (hml) ?_
      refine H.ldS 0 rfl (v := .int .i64 xkind) ((ev_cell hxx 0 (by decide)).trans rfl) ?_
      refine H.ldS 0 rfl (v := .int .i64 xg) ((ev_cell hxx 1 (by decide)).trans rfl) ?_
      refine H.ldS 0 rfl (v := .int .i64 xchan) ((ev_cell hxx 2 (by decide)).trans rfl) ?_
      refine H.ldS 0 rfl (v := .int .i64 xcase_) ((ev_cell hxx 3 (by decide)).trans rfl) ?_
      refine H.ldS 0 rfl (v := .int .i64 xvalue) ((ev_cell hxx 4 (by decide)).trans rfl) ?_
      refine H.ldS 0 rfl (v := .int .i64 xmate) ((ev_cell hxx 5 (by decide)).trans rfl) ?_
      refine H.ldS 0 rfl (v := .bool xsend) ((ev_cell hxx 6 (by decide)).trans rfl) ?_
      refine H.ldS 0 rfl (v := .bool xok) ((ev_cell hxx 7 (by decide)).trans rfl) ?_
      have K := r_serves H ⟨xkind, xg, xchan, xcase_, xvalue, xmate, xsend, xok⟩
      rw [hsv] at K
      refine Cl.sl (by kernel_rfl) K fun w H => ?_
      refine BB.no rfl ?_
      refine ⟨?_⟩
      refine BB.yes rfl ?_
      refine BB.yes rfl ?_
      refine BB.yes rfl ?_
      refine BB.yes rfl ?_
      have h1 := H.pick [2, 0, 1] 3 (by decide)
      simp only [pk, nth, pkA, pkB, pkC, pkD, pkE, pkF] at h1
      refine Cl.sl (by kernel_rfl) (l_exits hG h1) fun w H => ?_
      replace H := H.pick [1, 2, 0] 3 (by decide)
      simp only [pk, nth, pkA, pkB, pkC, pkD, pkE, pkF] at H
      refine BB.yes rfl ?_
      refine ret1 (fn := Tryz.f7) (.bool true) rfl (by rfl) ?_
      exact ⟨rfl, H.pick [2] 3 (by decide)⟩
     ·skip
      refine Cn.yes ?_
      refine ⟨?_⟩
      have h1 := H.pick [1, 0] 2 (by decide)
      simp only [pk, nth, pkA, pkB, pkC, pkD, pkE, pkF] at h1
      refine Cl.sl (by kernel_rfl) (l_exits hG h1) fun w H => ?_
      replace H := H.pick [1, 0] 2 (by decide)
      simp only [pk, nth, pkA, pkB, pkC, pkD, pkE, pkF] at H
      refine BB.yes rfl ?_
      refine ret1 (fn := Tryz.f7) (.bool true) rfl (by rfl) ?_
      exact ⟨rfl, H.pick [1] 2 (by decide)⟩
   ·obtain rfl : n = 0 := by omega
    refine calls_den (args := [_, _]) Tryz.func7 rfl (Nat.le_of_ble_eq_true (by kernel_rfl)) (by kernel_rfl) ?_
    refine ⟨?_⟩
    refine Nw.as #[.int .i64 t, .int .i64 m, .slice pa X.length pc, .slice la pl.length lc, .slice da dr.length dc] 42 rfl H fun b2 w H => ?_
    refine ⟨?_⟩
    refine H.ldi 0 rfl (v := .int .i64 t) rfl ?_
    refine H.ldi 0 rfl (v := .int .i64 m) rfl ?_
    refine H.ldi 0 rfl (v := .slice pa X.length pc) rfl ?_
    refine H.ldi 0 rfl (v := .slice la pl.length lc) rfl ?_
    refine H.ldi 0 rfl (v := .slice da dr.length dc) rfl ?_
    have h1 := H.pick [1, 0] 2 (by decide)
    simp only [pk, nth, pkA, pkB, pkC, pkD, pkE, pkF] at h1
    refine Cl.by (by kernel_rfl) (l_large14 hX hL hD h1) ?_
    rintro _ w ⟨bl, rfl, H⟩
    refine ⟨_, rfl, ?_⟩
    replace H := H.pick [1, 0] 2 (by decide)
    simp only [pk, nth, pkA, pkB, pkC, pkD, pkE, pkF] at H
    refine BB.k ?_
    cases bl
    ·skip
     refine Cn.no ?_
     refine ⟨?_⟩
     refine H.ldi 0 rfl (v := .int .i64 t) rfl ?_
     refine H.ldi 0 rfl (v := .int .i64 m) rfl ?_
     refine H.ldi 0 rfl (v := .slice pa X.length pc) rfl ?_
     refine H.ldi 0 rfl (v := .slice la pl.length lc) rfl ?_
     refine H.ldi 0 rfl (v := .slice da dr.length dc) rfl ?_
     have h1 := H.pick [1, 0] 2 (by decide)
     simp only [pk, nth, pkA, pkB, pkC, pkD, pkE, pkF] at h1
     refine Cl.by (by kernel_rfl) (p_run hX hL hD hck h1) ?_
     rintro _ w ⟨ka, kc, rfl, H⟩
     refine ⟨_, rfl, ?_⟩
     replace H := H.pick [0, 2, 1] 3 (by decide)
     simp only [pk, nth, pkA, pkB, pkC, pkD, pkE, pkF] at H
     refine ⟨?_⟩
     have h1 := H.pick [0, 2, 1] 3 (by decide)
     simp only [pk, nth, pkA, pkB, pkC, pkD, pkE, pkF] at h1
     have K := g_checkT (k := (runL ⟨t, m, progsM X, pl, dr⟩ (pl.length + 1)).tr.length) (kc' := kc) hG rfl (Nat.le_refl _) hsh h1
     rw [List.take_length, hk0] at K
     refine Cl.sl (by kernel_rfl) K fun w H => ?_
     replace H := H.pick [0, 2, 1] 3 (by decide)
     simp only [pk, nth, pkA, pkB, pkC, pkD, pkE, pkF] at H
     refine ⟨?_⟩
     refine BB.no rfl ?_
     refine Cn.no ?_
     refine ⟨?_⟩
     refine BB.no rfl ?_
     refine BB.no (decide_eq_false (by omega)) ?_
     refine Cn.no ?_
     refine ⟨?_⟩
     refine Mn.head (te := 53) (sz := 8) (c := kc) (.tmp 37) (.tmp 38) 22 (by rfl) (by kernel_rfl) (by kernel_rfl) 0 (Nat.zero_le _) (by rfl) (by rfl) ?_
     have h1 := H.pick [0, 2, 1] 3 (by decide)
     simp only [pk, nth, pkA, pkB, pkC, pkD, pkE, pkF] at h1
     have K := g_checkT (k := 0) (kc' := kc) hG rfl (Nat.zero_le _) hsh h1
     refine Cl.sl (by kernel_rfl) K fun w H => ?_
     replace H := H.pick [0, 2, 1] 3 (by decide)
     simp only [pk, nth, pkA, pkB, pkC, pkD, pkE, pkF] at H
     refine ⟨?_⟩
     refine BB.no rfl ?_
     refine ⟨?_⟩
     refine BB.yes rfl ?_
     refine BB.yes rfl ?_
     refine BB.yes rfl ?_
     refine BB.yes rfl ?_
     have h1 := H.pick [2, 0, 1] 3 (by decide)
     simp only [pk, nth, pkA, pkB, pkC, pkD, pkE, pkF] at h1
     refine Cl.sl (by kernel_rfl) (l_exits hG h1) fun w H => ?_
     replace H := H.pick [1, 2, 0] 3 (by decide)
     simp only [pk, nth, pkA, pkB, pkC, pkD, pkE, pkF] at H
     refine BB.yes rfl ?_
     refine ret1 (fn := Tryz.f7) (.bool true) rfl (by rfl) ?_
     exact ⟨rfl, H.pick [2] 3 (by decide)⟩
    ·skip
     refine Cn.yes ?_
     refine ⟨?_⟩
     have h1 := H.pick [1, 0] 2 (by decide)
     simp only [pk, nth, pkA, pkB, pkC, pkD, pkE, pkF] at h1
     refine Cl.sl (by kernel_rfl) (l_exits hG h1) fun w H => ?_
     replace H := H.pick [1, 0] 2 (by decide)
     simp only [pk, nth, pkA, pkB, pkC, pkD, pkE, pkF] at H
     refine BB.yes rfl ?_
     refine ret1 (fn := Tryz.f7) (.bool true) rfl (by rfl) ?_
     exact ⟨rfl, H.pick [1] 2 (by decide)⟩
  ·skip
   refine calls_den (args := [_, _]) Tryz.func7 rfl (Nat.le_of_ble_eq_true (by kernel_rfl)) (by kernel_rfl) ?_
   refine ⟨?_⟩
   refine Nw.as #[.int .i64 t, .int .i64 m, .slice pa X.length pc, .slice la pl.length lc, .slice da dr.length dc] 42 rfl H fun b2 w H => ?_
   refine ⟨?_⟩
   refine H.ldi 0 rfl (v := .int .i64 t) rfl ?_
   refine H.ldi 0 rfl (v := .int .i64 m) rfl ?_
   refine H.ldi 0 rfl (v := .slice pa X.length pc) rfl ?_
   refine H.ldi 0 rfl (v := .slice la pl.length lc) rfl ?_
   refine H.ldi 0 rfl (v := .slice da dr.length dc) rfl ?_
   have h1 := H.pick [1, 0] 2 (by decide)
   simp only [pk, nth, pkA, pkB, pkC, pkD, pkE, pkF] at h1
   refine Cl.by (by kernel_rfl) (l_large14 hX hL hD h1) ?_
   rintro _ w ⟨bl, rfl, H⟩
   refine ⟨_, rfl, ?_⟩
   replace H := H.pick [1, 0] 2 (by decide)
   simp only [pk, nth, pkA, pkB, pkC, pkD, pkE, pkF] at H
   refine BB.k ?_
   cases bl
   ·skip
    refine Cn.no ?_
    refine ⟨?_⟩
    refine H.ldi 0 rfl (v := .int .i64 t) rfl ?_
    refine H.ldi 0 rfl (v := .int .i64 m) rfl ?_
    refine H.ldi 0 rfl (v := .slice pa X.length pc) rfl ?_
    refine H.ldi 0 rfl (v := .slice la pl.length lc) rfl ?_
    refine H.ldi 0 rfl (v := .slice da dr.length dc) rfl ?_
    have h1 := H.pick [1, 0] 2 (by decide)
    simp only [pk, nth, pkA, pkB, pkC, pkD, pkE, pkF] at h1
    refine Cl.by (by kernel_rfl) (p_run hX hL hD hck h1) ?_
    rintro _ w ⟨ka, kc, rfl, H⟩
    refine ⟨_, rfl, ?_⟩
    replace H := H.pick [0, 2, 1] 3 (by decide)
    simp only [pk, nth, pkA, pkB, pkC, pkD, pkE, pkF] at H
    refine ⟨?_⟩
    have h1 := H.pick [0, 2, 1] 3 (by decide)
    simp only [pk, nth, pkA, pkB, pkC, pkD, pkE, pkF] at h1
    have K := g_checkT (k := (runL ⟨t, m, progsM X, pl, dr⟩ (pl.length + 1)).tr.length) (kc' := kc) hG rfl (Nat.le_refl _) hsh h1
    rw [List.take_length, hk0] at K
    refine Cl.sl (by kernel_rfl) K fun w H => ?_
    replace H := H.pick [0, 2, 1] 3 (by decide)
    simp only [pk, nth, pkA, pkB, pkC, pkD, pkE, pkF] at H
    refine ⟨?_⟩
    refine BB.no rfl ?_
    refine Cn.no ?_
    refine ⟨?_⟩
    refine BB.vr fun q1 e1 => ?_
    cases q1
    ·skip
     have h1 := of_decide_eq_false e1
     refine BB.yes (decide_eq_true (by omega)) ?_
     refine Cn.yes ?_
     refine ⟨?_⟩
     have h1 := H.pick [2, 0, 1] 3 (by decide)
     simp only [pk, nth, pkA, pkB, pkC, pkD, pkE, pkF] at h1
     refine Cl.sl (by kernel_rfl) (l_exits hG h1) fun w H => ?_
     replace H := H.pick [1, 2, 0] 3 (by decide)
     simp only [pk, nth, pkA, pkB, pkC, pkD, pkE, pkF] at H
     refine BB.yes rfl ?_
     refine ret1 (fn := Tryz.f7) (.bool true) rfl (by rfl) ?_
     exact ⟨rfl, H.pick [2] 3 (by decide)⟩
    ·skip
     have h1 := of_decide_eq_true e1
     refine Cn.yes ?_
     refine ⟨?_⟩
     have h1 := H.pick [2, 0, 1] 3 (by decide)
     simp only [pk, nth, pkA, pkB, pkC, pkD, pkE, pkF] at h1
     refine Cl.sl (by kernel_rfl) (l_exits hG h1) fun w H => ?_
     replace H := H.pick [1, 2, 0] 3 (by decide)
     simp only [pk, nth, pkA, pkB, pkC, pkD, pkE, pkF] at H
     refine BB.yes rfl ?_
     refine ret1 (fn := Tryz.f7) (.bool true) rfl (by rfl) ?_
     exact ⟨rfl, H.pick [2] 3 (by decide)⟩
   ·skip
    refine Cn.yes ?_
    refine ⟨?_⟩
    have h1 := H.pick [1, 0] 2 (by decide)
    simp only [pk, nth, pkA, pkB, pkC, pkD, pkE, pkF] at h1
    refine Cl.sl (by kernel_rfl) (l_exits hG h1) fun w H => ?_
    replace H := H.pick [1, 0] 2 (by decide)
    simp only [pk, nth, pkA, pkB, pkC, pkD, pkE, pkF] at H
    refine BB.yes rfl ?_
    refine ret1 (fn := Tryz.f7) (.bool true) rfl (by rfl) ?_
    exact ⟨rfl, H.pick [1] 2 (by decide)⟩
 ·by_cases hn : n = 0
  ·subst hn
   refine calls_den (args := [_, _]) Tryz.func7 rfl (Nat.le_of_ble_eq_true (by kernel_rfl)) (by kernel_rfl) ?_
   refine ⟨?_⟩
   refine Nw.as #[.int .i64 t, .int .i64 m, .slice pa X.length pc, .slice la pl.length lc, .slice da dr.length dc] 42 rfl H fun b2 w H => ?_
   refine ⟨?_⟩
   refine H.ldi 0 rfl (v := .int .i64 t) rfl ?_
   refine H.ldi 0 rfl (v := .int .i64 m) rfl ?_
   refine H.ldi 0 rfl (v := .slice pa X.length pc) rfl ?_
   refine H.ldi 0 rfl (v := .slice la pl.length lc) rfl ?_
   refine H.ldi 0 rfl (v := .slice da dr.length dc) rfl ?_
   have h1 := H.pick [1, 0] 2 (by decide)
   simp only [pk, nth, pkA, pkB, pkC, pkD, pkE, pkF] at h1
   refine Cl.by (by kernel_rfl) (l_large14 hX hL hD h1) ?_
   rintro _ w ⟨bl, rfl, H⟩
   refine ⟨_, rfl, ?_⟩
   replace H := H.pick [1, 0] 2 (by decide)
   simp only [pk, nth, pkA, pkB, pkC, pkD, pkE, pkF] at H
   refine BB.k ?_
   cases bl
   ·skip
    refine Cn.no ?_
    refine ⟨?_⟩
    refine H.ldi 0 rfl (v := .int .i64 t) rfl ?_
    refine H.ldi 0 rfl (v := .int .i64 m) rfl ?_
    refine H.ldi 0 rfl (v := .slice pa X.length pc) rfl ?_
    refine H.ldi 0 rfl (v := .slice la pl.length lc) rfl ?_
    refine H.ldi 0 rfl (v := .slice da dr.length dc) rfl ?_
    have h1 := H.pick [1, 0] 2 (by decide)
    simp only [pk, nth, pkA, pkB, pkC, pkD, pkE, pkF] at h1
    refine Cl.sl (by kernel_rfl) (p_run_no hX hL hD hck h1) fun w H => ?_
    replace H := H.pick [1, 0] 2 (by decide)
    simp only [pk, nth, pkA, pkB, pkC, pkD, pkE, pkF] at H
    refine ⟨?_⟩
    refine Cl.sl (by kernel_rfl) (g_check_nil H) fun w H => ?_
    refine ⟨?_⟩
    refine BB.no rfl ?_
    refine Cn.no ?_
    refine ⟨?_⟩
    refine BB.no rfl ?_
    refine BB.no rfl ?_
    refine Cn.no ?_
    refine ⟨?_⟩
    refine Mn.head (te := 53) (sz := 8) (c := 0) (.tmp 37) (.tmp 38) 22 (by rfl) (by kernel_rfl) (by kernel_rfl) 0 (Nat.le_refl _) (by rfl) (by rfl) ?_
    refine Cl.sl (by kernel_rfl) (g_check_nil H) fun w H => ?_
    refine ⟨?_⟩
    refine BB.no rfl ?_
    refine ⟨?_⟩
    refine BB.yes rfl ?_
    refine BB.yes rfl ?_
    refine BB.yes rfl ?_
    refine BB.yes rfl ?_
    have h1 := H.pick [1, 0] 2 (by decide)
    simp only [pk, nth, pkA, pkB, pkC, pkD, pkE, pkF] at h1
    refine Cl.sl (by kernel_rfl) (l_exits hG h1) fun w H => ?_
    replace H := H.pick [1, 0] 2 (by decide)
    simp only [pk, nth, pkA, pkB, pkC, pkD, pkE, pkF] at H
    refine BB.yes rfl ?_
    refine ret1 (fn := Tryz.f7) (.bool true) rfl (by rfl) ?_
    exact ⟨rfl, H.pick [1] 2 (by decide)⟩
   ·skip
    refine Cn.yes ?_
    refine ⟨?_⟩
    have h1 := H.pick [1, 0] 2 (by decide)
    simp only [pk, nth, pkA, pkB, pkC, pkD, pkE, pkF] at h1
    refine Cl.sl (by kernel_rfl) (l_exits hG h1) fun w H => ?_
    replace H := H.pick [1, 0] 2 (by decide)
    simp only [pk, nth, pkA, pkB, pkC, pkD, pkE, pkF] at H
    refine BB.yes rfl ?_
    refine ret1 (fn := Tryz.f7) (.bool true) rfl (by rfl) ?_
    exact ⟨rfl, H.pick [1] 2 (by decide)⟩
  ·skip
   refine calls_den (args := [_, _]) Tryz.func7 rfl (Nat.le_of_ble_eq_true (by kernel_rfl)) (by kernel_rfl) ?_
   refine ⟨?_⟩
   refine Nw.as #[.int .i64 t, .int .i64 m, .slice pa X.length pc, .slice la pl.length lc, .slice da dr.length dc] 42 rfl H fun b2 w H => ?_
   refine ⟨?_⟩
   refine H.ldi 0 rfl (v := .int .i64 t) rfl ?_
   refine H.ldi 0 rfl (v := .int .i64 m) rfl ?_
   refine H.ldi 0 rfl (v := .slice pa X.length pc) rfl ?_
   refine H.ldi 0 rfl (v := .slice la pl.length lc) rfl ?_
   refine H.ldi 0 rfl (v := .slice da dr.length dc) rfl ?_
   have h1 := H.pick [1, 0] 2 (by decide)
   simp only [pk, nth, pkA, pkB, pkC, pkD, pkE, pkF] at h1
   refine Cl.by (by kernel_rfl) (l_large14 hX hL hD h1) ?_
   rintro _ w ⟨bl, rfl, H⟩
   refine ⟨_, rfl, ?_⟩
   replace H := H.pick [1, 0] 2 (by decide)
   simp only [pk, nth, pkA, pkB, pkC, pkD, pkE, pkF] at H
   refine BB.k ?_
   cases bl
   ·skip
    refine Cn.no ?_
    refine ⟨?_⟩
    refine H.ldi 0 rfl (v := .int .i64 t) rfl ?_
    refine H.ldi 0 rfl (v := .int .i64 m) rfl ?_
    refine H.ldi 0 rfl (v := .slice pa X.length pc) rfl ?_
    refine H.ldi 0 rfl (v := .slice la pl.length lc) rfl ?_
    refine H.ldi 0 rfl (v := .slice da dr.length dc) rfl ?_
    have h1 := H.pick [1, 0] 2 (by decide)
    simp only [pk, nth, pkA, pkB, pkC, pkD, pkE, pkF] at h1
    refine Cl.sl (by kernel_rfl) (p_run_no hX hL hD hck h1) fun w H => ?_
    replace H := H.pick [1, 0] 2 (by decide)
    simp only [pk, nth, pkA, pkB, pkC, pkD, pkE, pkF] at H
    refine ⟨?_⟩
    refine Cl.sl (by kernel_rfl) (g_check_nil H) fun w H => ?_
    refine ⟨?_⟩
    refine BB.no rfl ?_
    refine Cn.no ?_
    refine ⟨?_⟩
    refine BB.vr fun q1 e1 => ?_
    cases q1
    ·skip
     have h1 := of_decide_eq_false e1
     refine BB.yes (decide_eq_true (by omega)) ?_
     refine Cn.yes ?_
     refine ⟨?_⟩
     have h1 := H.pick [1, 0] 2 (by decide)
     simp only [pk, nth, pkA, pkB, pkC, pkD, pkE, pkF] at h1
     refine Cl.sl (by kernel_rfl) (l_exits hG h1) fun w H => ?_
     replace H := H.pick [1, 0] 2 (by decide)
     simp only [pk, nth, pkA, pkB, pkC, pkD, pkE, pkF] at H
     refine BB.yes rfl ?_
     refine ret1 (fn := Tryz.f7) (.bool true) rfl (by rfl) ?_
     exact ⟨rfl, H.pick [1] 2 (by decide)⟩
    ·skip
     have h1 := of_decide_eq_true e1
     refine Cn.yes ?_
     refine ⟨?_⟩
     have h1 := H.pick [1, 0] 2 (by decide)
     simp only [pk, nth, pkA, pkB, pkC, pkD, pkE, pkF] at h1
     refine Cl.sl (by kernel_rfl) (l_exits hG h1) fun w H => ?_
     replace H := H.pick [1, 0] 2 (by decide)
     simp only [pk, nth, pkA, pkB, pkC, pkD, pkE, pkF] at H
     refine BB.yes rfl ?_
     refine ret1 (fn := Tryz.f7) (.bool true) rfl (by rfl) ?_
     exact ⟨rfl, H.pick [1] 2 (by decide)⟩
   ·skip
    refine Cn.yes ?_
    refine ⟨?_⟩
    have h1 := H.pick [1, 0] 2 (by decide)
    simp only [pk, nth, pkA, pkB, pkC, pkD, pkE, pkF] at h1
    refine Cl.sl (by kernel_rfl) (l_exits hG h1) fun w H => ?_
    replace H := H.pick [1, 0] 2 (by decide)
    simp only [pk, nth, pkA, pkB, pkC, pkD, pkE, pkF] at H
    refine BB.yes rfl ?_
    refine ret1 (fn := Tryz.f7) (.bool true) rfl (by rfl) ?_
    exact ⟨rfl, H.pick [1] 2 (by decide)⟩
theorem gaugeRuns_walk {w : World} {v : Value} {s : ScrX} (y : ScrIn w v s) (n : Int) (hnr : (Lit.int .i64 n).wf = true) (hs : Spans w) : Calls Tryz.prog 7 #[v, .int .i64 n] w fun e w' => e = .returned (.bool true) ∧ Frm Nil w w' := by
 have hv := y.val
 subst hv
 refine (l_gruns (F := []) (fun h => Old.scr y.progs h) (Old.rd y.plan) (Old.rd y.draws) (fun w' hw => hs.later (SL.old hw)) (SL.start w)).mono ?_
 rintro e w' ⟨rfl, H⟩
 exact ⟨rfl, H.old⟩
end Go.Proofs.YtchkaaeoffmjnaaGreatDoor
