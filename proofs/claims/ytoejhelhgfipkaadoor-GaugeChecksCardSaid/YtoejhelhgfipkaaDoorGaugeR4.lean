/- Gauge: the reference. -/
import Derived.Test.YtoejhelhgfipkaaDoorGaugeR3
import Derived.Test.YtoejhelhgfipkaaDoorEntryE
namespace Go.Proofs.YtoejhelhgfipkaaDoor
set_option linter.unusedVariables false
set_option linter.unusedSimpArgs false
open Go.RowKit
set_option maxRecDepth 100000
theorem orderedR_of {l : List Ev} {i : Nat} {e : Ev} (hd : l.getD i evz = e) : orderedR l i = (if e.kind ≠ 3 ∧ (e.kind ≠ 4 ∨ e.ok = false) then true else (insR l e.chan (i + 1)).right) := by
  subst hd
  rfl
theorem closedR_of {l : List Ev} {i : Nat} {e : Ev} (hd : l.getD i evz = e) : closedR l i = (if e.kind < 3 ∨ 5 < e.kind then true else if e.kind = 4 ∧ e.ok = false then (insR l e.chan i).closed && (insR l e.chan i).buf.isEmpty else if e.kind = 4 ∧ e.mate < 0 then true else !(insR l e.chan i).closed) := by
  subst hd
  rfl
theorem isEmpty_len (l : List Int) : l.isEmpty = ((l.length : Int) == 0) := by
  cases l with
  | nil => rfl
  | cons a l =>
    have : ((((a :: l).length : Int)) == 0) = false := beq_eq_false_iff_ne.2 (by simp only [List.length_cons]; omega)
    rw [this]
    rfl

set_option maxHeartbeats 2000000 in
theorem r_ordered {w : World} {F : List Piece} {A : Piece} {lb lo lc i : Nat} {l : List Ev} (hA : EvA A lb lo l) (hlc : l.length ≤ lc) (hi : i < l.length) (hll : l.length ≤ 2000) (H : SL w (A :: F)) :
    Calls Tryd.prog 22 #[(.slice (some ⟨lb, lo, none⟩) l.length lc), .int .i64 (i : Int)] w fun o w' => o = .returned (.bool (orderedR l i)) ∧ SL w' (A :: F) := by
  obtain ⟨e0, e1⟩ : ∃ e, l[i]'hi = e := ⟨_, rfl⟩
  have he : l[i]? = some e0 := by rw [← e1]; exact List.getElem?_eq_getElem _
  clear e1
  obtain ⟨kind, g, chan, case_, value, mate, send, ok⟩ := e0
  have hd : l.getD i evz = ⟨kind, g, chan, case_, value, mate, send, ok⟩ := by rw [List.getD_eq_getElem?_getD, he]; rfl
  refine calls_den (args := [_, _]) Tryd.func22 rfl (Nat.le_of_ble_eq_true (by kernel_rfl)) (by kernel_rfl) ?_
  refine ⟨?_⟩
  refine ⟨?_⟩
  refine Ix.at i 8 (by kernel_rfl) (rfl) (hi) ?_
  refine H.ldE 0 rfl hA i 0 he (v := .int .i64 kind) rfl ?_
  refine H.ldE 0 rfl hA i 1 he (v := .int .i64 g) rfl ?_
  refine H.ldE 0 rfl hA i 2 he (v := .int .i64 chan) rfl ?_
  refine H.ldE 0 rfl hA i 3 he (v := .int .i64 case_) rfl ?_
  refine H.ldE 0 rfl hA i 4 he (v := .int .i64 value) rfl ?_
  refine H.ldE 0 rfl hA i 5 he (v := .int .i64 mate) rfl ?_
  refine H.ldE 0 rfl hA i 6 he (v := .bool send) rfl ?_
  refine H.ldE 0 rfl hA i 7 he (v := .bool ok) rfl ?_
  refine Nw.as #[.int .i64 0, .int .i64 0, .int .i64 0, .int .i64 0, .int .i64 0, .int .i64 0, .bool false, .bool false] 39 rfl H fun b5 w H => ?_
  refine H.st0 (cs' := #[.int .i64 kind, .int .i64 0, .int .i64 0, .int .i64 0, .int .i64 0, .int .i64 0, .bool false, .bool false]) rfl rfl rfl fun w H => ?_
  refine H.st0 (cs' := #[.int .i64 kind, .int .i64 g, .int .i64 0, .int .i64 0, .int .i64 0, .int .i64 0, .bool false, .bool false]) rfl rfl rfl fun w H => ?_
  refine H.st0 (cs' := #[.int .i64 kind, .int .i64 g, .int .i64 chan, .int .i64 0, .int .i64 0, .int .i64 0, .bool false, .bool false]) rfl rfl rfl fun w H => ?_
  refine H.st0 (cs' := #[.int .i64 kind, .int .i64 g, .int .i64 chan, .int .i64 case_, .int .i64 0, .int .i64 0, .bool false, .bool false]) rfl rfl rfl fun w H => ?_
  refine H.st0 (cs' := #[.int .i64 kind, .int .i64 g, .int .i64 chan, .int .i64 case_, .int .i64 value, .int .i64 0, .bool false, .bool false]) rfl rfl rfl fun w H => ?_
  refine H.st0 (cs' := #[.int .i64 kind, .int .i64 g, .int .i64 chan, .int .i64 case_, .int .i64 value, .int .i64 mate, .bool false, .bool false]) rfl rfl rfl fun w H => ?_
  refine H.st0 (cs' := #[.int .i64 kind, .int .i64 g, .int .i64 chan, .int .i64 case_, .int .i64 value, .int .i64 mate, .bool send, .bool false]) rfl rfl rfl fun w H => ?_
  refine H.st0 (cs' := #[.int .i64 kind, .int .i64 g, .int .i64 chan, .int .i64 case_, .int .i64 value, .int .i64 mate, .bool send, .bool ok]) rfl rfl rfl fun w H => ?_
  refine ⟨?_⟩
  refine H.ldi 0 rfl (v := .int .i64 kind) rfl ?_
  refine BB.vr fun q1 e1 => ?_
  cases q1
  · skip
    have h1 := bne_eq_false_iff_eq.1 e1
    subst h1
    refine Cn.no ?_
    refine ⟨?_⟩
    refine H.ldi 0 rfl (v := .int .i64 chan) rfl ?_
    refine IW.by (m := ↑i + 1) (wrap_id (by omega) (by omega)) ?_
    refine Cl.by (by kernel_rfl) (r_in (c := chan) (n := (i + 1)) hA (by omega) hll H.up1) ?_
    rintro _ w ⟨v, rfl, H⟩
    refine ⟨_, rfl, ?_⟩
    obtain ⟨qa, qc, rfl⟩ := SL.slcForm H
    obtain ⟨S0, hS0⟩ : ∃ s, insR l chan (i + 1) = s := ⟨_, rfl⟩
    rw [hS0] at H
    obtain ⟨zs, zb, zc, zr⟩ := S0
    dsimp only at H
    rw [hS0]
    refine ret1 (fn := Tryd.f22) (.bool zr) rfl (by rfl) ?_
    have hc : orderedR l i = (zr) := by rw [orderedR_of hd, if_neg (by simp [*]), hS0]
    rw [hc]
    exact ⟨rfl, H.tl.drop1⟩
  · skip
    have h1 := bne_iff_ne.1 e1
    refine H.ldi 0 rfl (v := .int .i64 kind) rfl ?_
    refine BB.vr fun q2 e2 => ?_
    cases q2
    · skip
      have h2 := bne_eq_false_iff_eq.1 e2
      subst h2
      refine H.ldi 0 rfl (v := .bool ok) rfl ?_
      refine BB.k ?_
      refine BB.vr fun q3 e3 => ?_
      cases q3
      · skip
        have h3 : ok = true := by simpa using e3
        subst h3
        refine Cn.no ?_
        refine ⟨?_⟩
        refine H.ldi 0 rfl (v := .int .i64 chan) rfl ?_
        refine IW.by (m := ↑i + 1) (wrap_id (by omega) (by omega)) ?_
        refine Cl.by (by kernel_rfl) (r_in (c := chan) (n := (i + 1)) hA (by omega) hll H.up1) ?_
        rintro _ w ⟨v, rfl, H⟩
        refine ⟨_, rfl, ?_⟩
        obtain ⟨qa, qc, rfl⟩ := SL.slcForm H
        obtain ⟨S0, hS0⟩ : ∃ s, insR l chan (i + 1) = s := ⟨_, rfl⟩
        rw [hS0] at H
        obtain ⟨zs, zb, zc, zr⟩ := S0
        dsimp only at H
        rw [hS0]
        refine ret1 (fn := Tryd.f22) (.bool zr) rfl (by rfl) ?_
        have hc : orderedR l i = (zr) := by rw [orderedR_of hd, if_neg (by simp [*]), hS0]
        rw [hc]
        exact ⟨rfl, H.tl.drop1⟩
      · skip
        have h3 : ok = false := by simpa using e3
        subst h3
        refine Cn.yes ?_
        refine ⟨?_⟩
        refine ret1 (fn := Tryd.f22) (.bool true) rfl (by rfl) ?_
        have hc : orderedR l i = (true) := by rw [orderedR_of hd]; simp [*]
        rw [hc]
        exact ⟨rfl, H.tl⟩
    · skip
      have h2 := bne_iff_ne.1 e2
      refine Cn.yes ?_
      refine ⟨?_⟩
      refine ret1 (fn := Tryd.f22) (.bool true) rfl (by rfl) ?_
      have hc : orderedR l i = (true) := by rw [orderedR_of hd]; simp [*]
      rw [hc]
      exact ⟨rfl, H.tl⟩

set_option maxHeartbeats 2000000 in
theorem r_closed {w : World} {F : List Piece} {A : Piece} {lb lo lc i : Nat} {l : List Ev} (hA : EvA A lb lo l) (hlc : l.length ≤ lc) (hi : i < l.length) (hll : l.length ≤ 2000) (H : SL w (A :: F)) :
    Calls Tryd.prog 23 #[(.slice (some ⟨lb, lo, none⟩) l.length lc), .int .i64 (i : Int)] w fun o w' => o = .returned (.bool (closedR l i)) ∧ SL w' (A :: F) := by
  obtain ⟨e0, e1⟩ : ∃ e, l[i]'hi = e := ⟨_, rfl⟩
  have he : l[i]? = some e0 := by rw [← e1]; exact List.getElem?_eq_getElem _
  clear e1
  obtain ⟨kind, g, chan, case_, value, mate, send, ok⟩ := e0
  have hd : l.getD i evz = ⟨kind, g, chan, case_, value, mate, send, ok⟩ := by rw [List.getD_eq_getElem?_getD, he]; rfl
  refine calls_den (args := [_, _]) Tryd.func23 rfl (Nat.le_of_ble_eq_true (by kernel_rfl)) (by kernel_rfl) ?_
  refine ⟨?_⟩
  refine ⟨?_⟩
  refine Ix.at i 8 (by kernel_rfl) (rfl) (hi) ?_
  refine H.ldE 0 rfl hA i 0 he (v := .int .i64 kind) rfl ?_
  refine H.ldE 0 rfl hA i 1 he (v := .int .i64 g) rfl ?_
  refine H.ldE 0 rfl hA i 2 he (v := .int .i64 chan) rfl ?_
  refine H.ldE 0 rfl hA i 3 he (v := .int .i64 case_) rfl ?_
  refine H.ldE 0 rfl hA i 4 he (v := .int .i64 value) rfl ?_
  refine H.ldE 0 rfl hA i 5 he (v := .int .i64 mate) rfl ?_
  refine H.ldE 0 rfl hA i 6 he (v := .bool send) rfl ?_
  refine H.ldE 0 rfl hA i 7 he (v := .bool ok) rfl ?_
  refine Nw.as #[.int .i64 0, .int .i64 0, .int .i64 0, .int .i64 0, .int .i64 0, .int .i64 0, .bool false, .bool false] 39 rfl H fun b5 w H => ?_
  refine H.st0 (cs' := #[.int .i64 kind, .int .i64 0, .int .i64 0, .int .i64 0, .int .i64 0, .int .i64 0, .bool false, .bool false]) rfl rfl rfl fun w H => ?_
  refine H.st0 (cs' := #[.int .i64 kind, .int .i64 g, .int .i64 0, .int .i64 0, .int .i64 0, .int .i64 0, .bool false, .bool false]) rfl rfl rfl fun w H => ?_
  refine H.st0 (cs' := #[.int .i64 kind, .int .i64 g, .int .i64 chan, .int .i64 0, .int .i64 0, .int .i64 0, .bool false, .bool false]) rfl rfl rfl fun w H => ?_
  refine H.st0 (cs' := #[.int .i64 kind, .int .i64 g, .int .i64 chan, .int .i64 case_, .int .i64 0, .int .i64 0, .bool false, .bool false]) rfl rfl rfl fun w H => ?_
  refine H.st0 (cs' := #[.int .i64 kind, .int .i64 g, .int .i64 chan, .int .i64 case_, .int .i64 value, .int .i64 0, .bool false, .bool false]) rfl rfl rfl fun w H => ?_
  refine H.st0 (cs' := #[.int .i64 kind, .int .i64 g, .int .i64 chan, .int .i64 case_, .int .i64 value, .int .i64 mate, .bool false, .bool false]) rfl rfl rfl fun w H => ?_
  refine H.st0 (cs' := #[.int .i64 kind, .int .i64 g, .int .i64 chan, .int .i64 case_, .int .i64 value, .int .i64 mate, .bool send, .bool false]) rfl rfl rfl fun w H => ?_
  refine H.st0 (cs' := #[.int .i64 kind, .int .i64 g, .int .i64 chan, .int .i64 case_, .int .i64 value, .int .i64 mate, .bool send, .bool ok]) rfl rfl rfl fun w H => ?_
  refine ⟨?_⟩
  refine H.ldi 0 rfl (v := .int .i64 kind) rfl ?_
  refine BB.vr fun q1 e1 => ?_
  cases q1
  · skip
    have h1 := of_decide_eq_false e1
    refine H.ldi 0 rfl (v := .int .i64 kind) rfl ?_
    refine BB.vr fun q2 e2 => ?_
    cases q2
    · skip
      have h2 := of_decide_eq_false e2
      refine Cn.no ?_
      refine ⟨?_⟩
      refine H.ldi 0 rfl (v := .int .i64 chan) rfl ?_
      refine Cl.by (by kernel_rfl) (r_in (c := chan) (n := i) hA (by omega) hll H.up1) ?_
      rintro _ w ⟨v, rfl, H⟩
      refine ⟨_, rfl, ?_⟩
      obtain ⟨qa, qc, rfl⟩ := SL.slcForm H
      obtain ⟨S0, hS0⟩ : ∃ s, insR l chan i = s := ⟨_, rfl⟩
      rw [hS0] at H
      obtain ⟨zs, zb, zc, zr⟩ := S0
      dsimp only at H
      rw [hS0]
      refine Nw.as #[.int .i64 0, .slice none 0 0, .bool false, .bool false] 77 rfl H fun b6 w H => ?_
      refine H.st0 (cs' := #[.int .i64 zs, .slice none 0 0, .bool false, .bool false]) rfl rfl rfl fun w H => ?_
      refine H.st0 (cs' := #[.int .i64 zs, .slice qa zb.length qc, .bool false, .bool false]) rfl rfl rfl fun w H => ?_
      refine H.st0 (cs' := #[.int .i64 zs, .slice qa zb.length qc, .bool zc, .bool false]) rfl rfl rfl fun w H => ?_
      refine H.st0 (cs' := #[.int .i64 zs, .slice qa zb.length qc, .bool zc, .bool zr]) rfl rfl rfl fun w H => ?_
      refine ⟨?_⟩
      refine H.ldi 3 rfl (v := .int .i64 kind) rfl ?_
      refine BB.vr fun q3 e3 => ?_
      cases q3
      · skip
        have h3 := beq_eq_false_iff_ne.1 e3
        refine Cn.no ?_
        refine ⟨?_⟩
        refine H.ldi 3 rfl (v := .int .i64 kind) rfl ?_
        refine BB.no (beq_eq_false_iff_ne.2 h3) ?_
        refine Cn.no ?_
        refine ⟨?_⟩
        refine H.ldi 0 rfl (v := .bool zc) rfl ?_
        refine BB.k ?_
        refine BB.k ?_
        refine ret1 (fn := Tryd.f23) (.bool (!zc)) rfl (by rfl) ?_
        have hc : closedR l i = (!zc) := by rw [closedR_of hd, hS0]; first | (simp [isEmpty_len, *]; done) | (rw [if_neg (by omega)]; simp [isEmpty_len, *])
        rw [hc]
        have q := H.pick [2] 4 (by decide)
        simp only [pk, nth, List.map_cons, List.map_nil, List.cons_append, List.nil_append, List.drop_succ_cons, List.drop_zero] at q
        exact ⟨rfl, q⟩
      · skip
        have h3 := eq_of_beq e3
        subst h3
        refine H.ldi 3 rfl (v := .bool ok) rfl ?_
        refine BB.k ?_
        refine BB.vr fun q4 e4 => ?_
        cases q4
        · skip
          have h4 : ok = true := by simpa using e4
          subst h4
          refine Cn.no ?_
          refine ⟨?_⟩
          refine H.ldi 3 rfl (v := .int .i64 4) rfl ?_
          refine BB.yes rfl ?_
          refine H.ldi 3 rfl (v := .int .i64 mate) rfl ?_
          refine BB.vr fun q5 e5 => ?_
          cases q5
          · skip
            have h5 := of_decide_eq_false e5
            refine Cn.no ?_
            refine ⟨?_⟩
            refine H.ldi 0 rfl (v := .bool zc) rfl ?_
            refine BB.k ?_
            refine BB.k ?_
            refine ret1 (fn := Tryd.f23) (.bool (!zc)) rfl (by rfl) ?_
            have hc : closedR l i = (!zc) := by rw [closedR_of hd, hS0]; first | (simp [isEmpty_len, *]; done) | (rw [if_neg (by omega)]; simp [isEmpty_len, *])
            rw [hc]
            have q := H.pick [2] 4 (by decide)
            simp only [pk, nth, List.map_cons, List.map_nil, List.cons_append, List.nil_append, List.drop_succ_cons, List.drop_zero] at q
            exact ⟨rfl, q⟩
          · skip
            have h5 := of_decide_eq_true e5
            refine Cn.yes ?_
            refine ⟨?_⟩
            refine ret1 (fn := Tryd.f23) (.bool true) rfl (by rfl) ?_
            have hc : closedR l i = (true) := by rw [closedR_of hd, hS0]; first | (simp [isEmpty_len, *]; done) | (rw [if_neg (by omega)]; simp [isEmpty_len, *])
            rw [hc]
            have q := H.pick [2] 4 (by decide)
            simp only [pk, nth, List.map_cons, List.map_nil, List.cons_append, List.nil_append, List.drop_succ_cons, List.drop_zero] at q
            exact ⟨rfl, q⟩
        · skip
          have h4 : ok = false := by simpa using e4
          subst h4
          refine Cn.yes ?_
          refine ⟨?_⟩
          refine H.ldi 0 rfl (v := .bool zc) rfl ?_
          refine BB.k ?_
          cases zc
          · skip
            refine ret1 (fn := Tryd.f23) (.bool false) rfl (by rfl) ?_
            have hc : closedR l i = (false) := by rw [closedR_of hd, hS0]; first | (simp [isEmpty_len, *]; done) | (rw [if_neg (by omega)]; simp [isEmpty_len, *])
            rw [hc]
            have q := H.pick [2] 4 (by decide)
            simp only [pk, nth, List.map_cons, List.map_nil, List.cons_append, List.nil_append, List.drop_succ_cons, List.drop_zero] at q
            exact ⟨rfl, q⟩
          · skip
            refine H.ldi 0 rfl (v := .slice qa zb.length qc) rfl ?_
            refine BB.k ?_
            refine ret1 (fn := Tryd.f23) (.bool ((↑zb.length : Int) == 0)) rfl (by rfl) ?_
            have hc : closedR l i = ((↑zb.length : Int) == 0) := by rw [closedR_of hd, hS0]; first | (simp [isEmpty_len, *]; done) | (rw [if_neg (by omega)]; simp [isEmpty_len, *])
            rw [hc]
            have q := H.pick [2] 4 (by decide)
            simp only [pk, nth, List.map_cons, List.map_nil, List.cons_append, List.nil_append, List.drop_succ_cons, List.drop_zero] at q
            exact ⟨rfl, q⟩
    · skip
      have h2 := of_decide_eq_true e2
      refine Cn.yes ?_
      refine ⟨?_⟩
      refine ret1 (fn := Tryd.f23) (.bool true) rfl (by rfl) ?_
      have hc : closedR l i = (true) := by rw [closedR_of hd]; first | rw [if_pos (by omega)] | simp [*]
      rw [hc]
      exact ⟨rfl, H.tl⟩
  · skip
    have h1 := of_decide_eq_true e1
    refine Cn.yes ?_
    refine ⟨?_⟩
    refine ret1 (fn := Tryd.f23) (.bool true) rfl (by rfl) ?_
    have hc : closedR l i = (true) := by rw [closedR_of hd]; first | rw [if_pos (by omega)] | simp [*]
    rw [hc]
    exact ⟨rfl, H.tl⟩

theorem brR_of {l : List Ev} {i : Nat} {e : Ev} (hd : l.getD i evz = e) : brR l i = (if ref12 e ≠ 0 then 1 else if crewR l i = false then 2 else if madeR l i = false then 3 else if servedR l i = false then 4 else if orderedR l i = false then 5 else if closedR l i = false then 6 else 0) := by
  subst hd
  rfl
theorem below_succ2 {p : Nat → Prop} {i : Nat} (h : ∀ k, k < i → p k) (h0 : p i) : ∀ k, k < i + 1 → p k := fun k hk => by
  rcases Nat.lt_or_ge k i with h1 | h1
  · exact h k h1
  · obtain rfl : k = i := by omega
    exact h0

set_option maxHeartbeats 4000000 in
theorem r_check14 {w : World} {F : List Piece} {A : Piece} {lb lo lc : Nat} {l : List Ev} (hA : EvA A lb lo l) (hlc : l.length ≤ lc) (h0 : 0 < l.length) (hll : l.length ≤ 2000) (H : SL w (A :: F)) :
    Calls Tryd.prog 10 #[(.slice (some ⟨lb, lo, none⟩) l.length lc)] w fun o w' => o = .returned (.agg #[.int .i64 (checkR l).1, .int .i64 (checkR l).2]) ∧ SL w' (A :: F) := by
  obtain ⟨es0, es1⟩ : ∃ e, l[(l.length - 1)]'(by omega) = e := ⟨_, rfl⟩
  have hs : l[(l.length - 1)]? = some es0 := by rw [← es1]; exact List.getElem?_eq_getElem _
  clear es1
  obtain ⟨skind, sg, schan, scase_, svalue, smate, ssend, sok⟩ := es0
  have hds : l.getD (l.length - 1) evz = ⟨skind, sg, schan, scase_, svalue, smate, ssend, sok⟩ := by rw [List.getD_eq_getElem?_getD, hs]; rfl
  refine calls_den (args := [_]) Tryd.func10 rfl (Nat.le_of_ble_eq_true (by kernel_rfl)) (by kernel_rfl) ?_
  refine ⟨?_⟩
  refine Nw.as #[.int .i64 0, .int .i64 0] 27 rfl H fun b2 w H => ?_
  refine ⟨?_⟩
  refine ⟨?_⟩
  refine den.loop (ι := Nat) [(3, 3), (6, 51)] (by kernel_rfl) (fun i => [(6, .int .i64 ↑i)]) (fun i w => (i ≤ l.length ∧ ∀ k, k < i → brR l k = 0) ∧ SL w (row b2 #[.int .i64 0, .int .i64 0] 27 :: A :: F)) (fun i => l.length - i) 0 ⟨rfl, trivial⟩ ⟨⟨Nat.zero_le _, fun k hk => absurd hk (Nat.not_lt_zero _)⟩, H⟩ ?_
  rintro i s w ⟨hc, H⟩
  obtain ⟨hi', hb0⟩ := hc
  by_cases hi : i < l.length
  · skip
    obtain ⟨e0, e1⟩ : ∃ e, l[i]'(by omega) = e := ⟨_, rfl⟩
    have he : l[i]? = some e0 := by rw [← e1]; exact List.getElem?_eq_getElem _
    clear e1
    obtain ⟨kind, g, chan, case_, value, mate, send, ok⟩ := e0
    have hd : l.getD i evz = ⟨kind, g, chan, case_, value, mate, send, ok⟩ := by rw [List.getD_eq_getElem?_getD, he]; rfl
    have hbr := brR_of hd
    refine ⟨?_⟩
    refine BB.yes (decide_eq_true (by omega)) ?_
    refine Cn.yes ?_
    refine ⟨?_⟩
    refine ⟨?_⟩
    refine ⟨?_⟩
    refine BB.no (decide_eq_false (by omega)) ?_
    refine Ix.at i 8 (by kernel_rfl) (rfl) (hi) ?_
    refine H.ldE 1 rfl hA i 0 he (v := .int .i64 kind) rfl ?_
    refine H.ldE 1 rfl hA i 1 he (v := .int .i64 g) rfl ?_
    refine H.ldE 1 rfl hA i 2 he (v := .int .i64 chan) rfl ?_
    refine H.ldE 1 rfl hA i 3 he (v := .int .i64 case_) rfl ?_
    refine H.ldE 1 rfl hA i 4 he (v := .int .i64 value) rfl ?_
    refine H.ldE 1 rfl hA i 5 he (v := .int .i64 mate) rfl ?_
    refine H.ldE 1 rfl hA i 6 he (v := .bool send) rfl ?_
    refine H.ldE 1 rfl hA i 7 he (v := .bool ok) rfl ?_
    refine Cl.sl (by kernel_rfl) (r_check H ⟨kind, g, chan, case_, value, mate, send, ok⟩) fun w H => ?_
    refine BB.vr fun q1 e1 => ?_
    cases q1
    · skip
      have h1 := bne_eq_false_iff_eq.1 e1
      refine Cn.no ?_
      refine ⟨?_⟩
      refine Cl.sl (by kernel_rfl) (r_crew hA hlc hi hll H.up1) fun w H => ?_
      replace H := H.up1
      refine BB.vr fun q2 e2 => ?_
      cases q2
      · skip
        refine BB.yes rfl ?_
        refine Cn.yes ?_
        refine ⟨?_⟩
        refine Mn.pure (.agg #[.int .i64 2, .int .i64 ↑i]) (by kernel_rfl) ?_
        refine H.st0 (cs' := #[.int .i64 2, .int .i64 0]) rfl rfl rfl fun w H => ?_
        refine H.st0 (cs' := #[.int .i64 2, .int .i64 ↑i]) rfl rfl rfl fun w H => ?_
        refine retC (fn := Tryd.f10) H 0 rfl rfl (by rfl) (by kernel_rfl) (by kernel_rfl) ?_
        have hb : brR l i = 2 := by rw [hbr]; simp [*]
        have hc : checkR l = (2, i) := by unfold checkR; rw [scan_hit hi hb0 (by rw [hb]; decide), hb]; rfl
        rw [hc]
        exact ⟨rfl, H.tl⟩
      · skip
        refine BB.no rfl ?_
        refine Cn.no ?_
        refine ⟨?_⟩
        refine Cl.sl (by kernel_rfl) (r_made hA hlc hi hll H.up1) fun w H => ?_
        replace H := H.up1
        refine BB.vr fun q3 e3 => ?_
        cases q3
        · skip
          refine BB.yes rfl ?_
          refine Cn.yes ?_
          refine ⟨?_⟩
          refine Mn.pure (.agg #[.int .i64 3, .int .i64 ↑i]) (by kernel_rfl) ?_
          refine H.st0 (cs' := #[.int .i64 3, .int .i64 0]) rfl rfl rfl fun w H => ?_
          refine H.st0 (cs' := #[.int .i64 3, .int .i64 ↑i]) rfl rfl rfl fun w H => ?_
          refine retC (fn := Tryd.f10) H 0 rfl rfl (by rfl) (by kernel_rfl) (by kernel_rfl) ?_
          have hb : brR l i = 3 := by rw [hbr]; simp [*]
          have hc : checkR l = (3, i) := by unfold checkR; rw [scan_hit hi hb0 (by rw [hb]; decide), hb]; rfl
          rw [hc]
          exact ⟨rfl, H.tl⟩
        · skip
          refine BB.no rfl ?_
          refine Cn.no ?_
          refine ⟨?_⟩
          refine Cl.sl (by kernel_rfl) (r_served hA hlc hi hll H.up1) fun w H => ?_
          replace H := H.up1
          refine BB.vr fun q4 e4 => ?_
          cases q4
          · skip
            refine BB.yes rfl ?_
            refine Cn.yes ?_
            refine ⟨?_⟩
            refine Mn.pure (.agg #[.int .i64 4, .int .i64 ↑i]) (by kernel_rfl) ?_
            refine H.st0 (cs' := #[.int .i64 4, .int .i64 0]) rfl rfl rfl fun w H => ?_
            refine H.st0 (cs' := #[.int .i64 4, .int .i64 ↑i]) rfl rfl rfl fun w H => ?_
            refine retC (fn := Tryd.f10) H 0 rfl rfl (by rfl) (by kernel_rfl) (by kernel_rfl) ?_
            have hb : brR l i = 4 := by rw [hbr]; simp [*]
            have hc : checkR l = (4, i) := by unfold checkR; rw [scan_hit hi hb0 (by rw [hb]; decide), hb]; rfl
            rw [hc]
            exact ⟨rfl, H.tl⟩
          · skip
            refine BB.no rfl ?_
            refine Cn.no ?_
            refine ⟨?_⟩
            refine Cl.sl (by kernel_rfl) (r_ordered hA hlc hi hll H.up1) fun w H => ?_
            replace H := H.up1
            refine BB.vr fun q5 e5 => ?_
            cases q5
            · skip
              refine BB.yes rfl ?_
              refine Cn.yes ?_
              refine ⟨?_⟩
              refine Mn.pure (.agg #[.int .i64 5, .int .i64 ↑i]) (by kernel_rfl) ?_
              refine H.st0 (cs' := #[.int .i64 5, .int .i64 0]) rfl rfl rfl fun w H => ?_
              refine H.st0 (cs' := #[.int .i64 5, .int .i64 ↑i]) rfl rfl rfl fun w H => ?_
              refine retC (fn := Tryd.f10) H 0 rfl rfl (by rfl) (by kernel_rfl) (by kernel_rfl) ?_
              have hb : brR l i = 5 := by rw [hbr]; simp [*]
              have hc : checkR l = (5, i) := by unfold checkR; rw [scan_hit hi hb0 (by rw [hb]; decide), hb]; rfl
              rw [hc]
              exact ⟨rfl, H.tl⟩
            · skip
              refine BB.no rfl ?_
              refine Cn.no ?_
              refine ⟨?_⟩
              refine Cl.sl (by kernel_rfl) (r_closed hA hlc hi hll H.up1) fun w H => ?_
              replace H := H.up1
              refine BB.vr fun q6 e6 => ?_
              cases q6
              · skip
                refine BB.yes rfl ?_
                refine Cn.yes ?_
                refine ⟨?_⟩
                refine Mn.pure (.agg #[.int .i64 6, .int .i64 ↑i]) (by kernel_rfl) ?_
                refine H.st0 (cs' := #[.int .i64 6, .int .i64 0]) rfl rfl rfl fun w H => ?_
                refine H.st0 (cs' := #[.int .i64 6, .int .i64 ↑i]) rfl rfl rfl fun w H => ?_
                refine retC (fn := Tryd.f10) H 0 rfl rfl (by rfl) (by kernel_rfl) (by kernel_rfl) ?_
                have hb : brR l i = 6 := by rw [hbr]; simp [*]
                have hc : checkR l = (6, i) := by unfold checkR; rw [scan_hit hi hb0 (by rw [hb]; decide), hb]; rfl
                rw [hc]
                exact ⟨rfl, H.tl⟩
              · skip
                refine BB.no rfl ?_
                refine Cn.no ?_
                refine ⟨?_⟩
                refine IW.by (wrap_id (n := ↑i + 1) (by omega) (by omega)) ?_
                exact ⟨i + 1, ⟨rfl, trivial⟩, ⟨⟨by omega, below_succ2 hb0 (by rw [hbr]; simp [*])⟩, H⟩, (show l.length - (i + 1) < l.length - i by omega)⟩
    · skip
      have h1 := bne_iff_ne.1 e1
      refine Cn.yes ?_
      refine ⟨?_⟩
      refine Mn.pure (.agg #[.int .i64 1, .int .i64 ↑i]) (by kernel_rfl) ?_
      refine H.st0 (cs' := #[.int .i64 1, .int .i64 0]) rfl rfl rfl fun w H => ?_
      refine H.st0 (cs' := #[.int .i64 1, .int .i64 ↑i]) rfl rfl rfl fun w H => ?_
      refine retC (fn := Tryd.f10) H 0 rfl rfl (by rfl) (by kernel_rfl) (by kernel_rfl) ?_
      have hb : brR l i = 1 := by rw [hbr]; simp [*]
      have hc : checkR l = (1, i) := by unfold checkR; rw [scan_hit hi hb0 (by rw [hb]; decide), hb]; rfl
      rw [hc]
      exact ⟨rfl, H.tl⟩
  · skip
    have hki : i = l.length := by omega
    subst i
    refine ⟨?_⟩
    refine BB.no (decide_eq_false (by omega)) ?_
    refine Cn.no ?_
    refine ⟨?_⟩
    refine BB.yes (decide_eq_true (by omega)) ?_
    refine IW.by (m := ↑(l.length - 1)) (by rw [show ((l.length : Int) - 1) = ((l.length - 1 : Nat) : Int) by omega]; exact wrap_id (by omega) (by omega)) ?_
    refine Ix.at (l.length - 1) 8 (by kernel_rfl) (rfl) (by omega) ?_
    refine H.ldE 1 rfl hA (l.length - 1) 0 hs (v := .int .i64 skind) rfl ?_
    refine H.ldE 1 rfl hA (l.length - 1) 1 hs (v := .int .i64 sg) rfl ?_
    refine H.ldE 1 rfl hA (l.length - 1) 2 hs (v := .int .i64 schan) rfl ?_
    refine H.ldE 1 rfl hA (l.length - 1) 3 hs (v := .int .i64 scase_) rfl ?_
    refine H.ldE 1 rfl hA (l.length - 1) 4 hs (v := .int .i64 svalue) rfl ?_
    refine H.ldE 1 rfl hA (l.length - 1) 5 hs (v := .int .i64 smate) rfl ?_
    refine H.ldE 1 rfl hA (l.length - 1) 6 hs (v := .bool ssend) rfl ?_
    refine H.ldE 1 rfl hA (l.length - 1) 7 hs (v := .bool sok) rfl ?_
    refine Cl.sl (by kernel_rfl) (r_serves H ⟨skind, sg, schan, scase_, svalue, smate, ssend, sok⟩) fun w H => ?_
    refine BB.vr fun q7 e7 => ?_
    cases q7
    · skip
      refine Cn.no ?_
      refine ⟨?_⟩
      refine Mn.pure (.agg #[.int .i64 0, .int .i64 0]) (by kernel_rfl) ?_
      refine H.st0 (cs' := #[.int .i64 0, .int .i64 0]) rfl rfl rfl fun w H => ?_
      refine H.st0 (cs' := #[.int .i64 0, .int .i64 0]) rfl rfl rfl fun w H => ?_
      refine retC (fn := Tryd.f10) H 0 rfl rfl (by rfl) (by kernel_rfl) (by kernel_rfl) ?_
      have hc : checkR l = (0, 0) := by unfold checkR; rw [scan_none hb0]; unfold endB; simp only [hds]; simp [*]
      rw [hc]
      exact ⟨rfl, H.tl⟩
    · skip
      refine Cn.yes ?_
      refine ⟨?_⟩
      refine Mn.pure (.agg #[.int .i64 4, .int .i64 ↑l.length]) (by kernel_rfl) ?_
      refine H.st0 (cs' := #[.int .i64 4, .int .i64 0]) rfl rfl rfl fun w H => ?_
      refine H.st0 (cs' := #[.int .i64 4, .int .i64 ↑l.length]) rfl rfl rfl fun w H => ?_
      refine retC (fn := Tryd.f10) H 0 rfl rfl (by rfl) (by kernel_rfl) (by kernel_rfl) ?_
      have hc : checkR l = (4, l.length) := by unfold checkR; rw [scan_none hb0]; unfold endB; simp only [hds]; simp [*]
      rw [hc]
      exact ⟨rfl, H.tl⟩

end Go.Proofs.YtoejhelhgfipkaaDoor
