/- Gauge: the walks of the rules. -/
import Derived.Test.YtoejhelhgfipkaaDoorGaugeW0
namespace Go.Proofs.YtoejhelhgfipkaaDoor
set_option linter.unusedVariables false
set_option linter.unusedSimpArgs false
open Go.RowKit
set_option maxRecDepth 100000
theorem g_serves {w : World} {F : List Piece} (H : SL w F) (e : Ev) : Calls Tryd.prog 17 #[e.agg] w fun o w' => o = .returned (.bool (servesF e)) ∧ SL w' F := by
  obtain ⟨kind, g, chan, case_, value, mate, send, ok⟩ := e
  refine calls_den (args := [_]) Tryd.func17 rfl (Nat.le_of_ble_eq_true (by kernel_rfl)) (by kernel_rfl) ?_
  refine ⟨?_⟩
  refine Nw.as #[.int .i64 kind, .int .i64 g, .int .i64 chan, .int .i64 case_, .int .i64 value, .int .i64 mate, .bool send, .bool ok] 39 rfl H fun b1 w H => ?_
  refine ⟨?_⟩
  refine H.ldi 0 rfl (v := .int .i64 mate) rfl ?_
  refine BB.vr fun q1 e1 => ?_
  cases q1
  · skip
    have h1 := of_decide_eq_false e1
    refine ret1 (fn := Tryd.f17) (.bool false) rfl (by rfl) ?_
    exact ⟨by simp [servesF, *], H.tl⟩
  · skip
    have h1 := of_decide_eq_true e1
    refine H.ldi 0 rfl (v := .int .i64 kind) rfl ?_
    refine BB.vr fun q2 e2 => ?_
    cases q2
    · skip
      have h2 := beq_eq_false_iff_ne.1 e2
      refine H.ldi 0 rfl (v := .int .i64 kind) rfl ?_
      refine BB.k ?_
      refine ret1 (fn := Tryd.f17) (.bool (kind == 4)) rfl (by rfl) ?_
      exact ⟨by simp [servesF, *], H.tl⟩
    · skip
      have h2 := eq_of_beq e2
      subst h2
      refine ret1 (fn := Tryd.f17) (.bool true) rfl (by rfl) ?_
      exact ⟨by simp [servesF, *], H.tl⟩

@[reducible] def rdrRow (rb : Nat) (lv : Value) (at_ : Int) (crv : Value) (mb : Nat) (c : Ev) (over : Bool) : Piece := row rb #[lv, .int .i64 at_, crv, .map (some mb), .int .i64 c.kind, .int .i64 c.g, .int .i64 c.chan, .int .i64 c.case_, .int .i64 c.value, .int .i64 c.mate, .bool c.send, .bool c.ok, .bool over] 46

theorem set_at {α : Type} {l : List α} {j : Nat} {x : α} (h : l[j]? = some x) (y : α) : (l.set j y)[j]? = some y := by
  obtain ⟨hj, _⟩ := List.getElem?_eq_some_iff.1 h
  simp [hj]

set_option maxHeartbeats 1000000 in
theorem crewed_in {w : World} {F : List Piece} {rb cb mb cap gn : Nat} {lv : Value} {at_ : Int} {c : Ev} {cr : List (Bool × Bool)} {wa ex : Bool} {kind chan case_ value mate : Int} {send ok : Bool} (h13 : kind ≠ 13) (hx : cr[gn]? = some (wa, ex)) (hn : cr.length < 100000000)
    (H : SL w (row rb #[lv, .int .i64 at_, .slice (some ⟨cb, 0, none⟩) cr.length cap, .map (some mb), .int .i64 c.kind, .int .i64 c.g, .int .i64 c.chan, .int .i64 c.case_, .int .i64 c.value, .int .i64 c.mate, .bool c.send, .bool c.ok, .bool false] 46 :: Slc 114 2 (.slice (some ⟨cb, 0, none⟩) cr.length cap) cr.length (crewC cr) :: F)) (chans : List ChnM) :
    Calls Tryd.prog 37 #[.pointer (some ⟨rb, 0, none⟩), (Ev.mk kind gn chan case_ value mate send ok).agg] w fun o w' => o = .returned (.bool (crewedF ⟨cr, chans, c, false⟩ ⟨kind, gn, chan, case_, value, mate, send, ok⟩).1) ∧
      ∃ crv, SL w' (rdrRow rb lv at_ crv mb c (crewedF ⟨cr, chans, c, false⟩ ⟨kind, gn, chan, case_, value, mate, send, ok⟩).2.over :: Slc 114 2 crv (crewedF ⟨cr, chans, c, false⟩ ⟨kind, gn, chan, case_, value, mate, send, ok⟩).2.crew.length (crewC (crewedF ⟨cr, chans, c, false⟩ ⟨kind, gn, chan, case_, value, mate, send, ok⟩).2.crew) :: F) := by
  have hlt : gn < cr.length := (List.getElem?_eq_some_iff.1 hx).1
  refine calls_den (args := [_, _]) Tryd.func37 rfl (Nat.le_of_ble_eq_true (by kernel_rfl)) (by kernel_rfl) ?_
  refine ⟨?_⟩
  refine Nw.as #[.int .i64 kind, .int .i64 ↑gn, .int .i64 chan, .int .i64 case_, .int .i64 value, .int .i64 mate, .bool send, .bool ok] 39 rfl H fun b3 w H => ?_
  refine ⟨?_⟩
  refine ⟨?_⟩
  refine H.ldi 1 rfl (v := .bool false) rfl ?_
  refine BB.no rfl ?_
  refine Cn.no ?_
  refine ⟨?_⟩
  refine H.ldi 0 rfl (v := .int .i64 kind) rfl ?_
  refine BB.no (show (kind == 13) = false from beq_eq_false_iff_ne.2 h13) ?_
  refine Cn.no ?_
  refine ⟨?_⟩
  refine Drw.of [(0, true), (1, true), (2, true), (3, true), (4, true), (5, true), (6, true), (7, true), (8, true), (9, true), (10, true), (11, true), (12, true), (13, true), (14, true), (15, true), (16, true), (17, true), (18, true), (19, true)] (by kernel_rfl) mixed (fun w => SL w _) H.drew ?_
  replace H := H.drew
  refine LdC.i 0 rfl (v := .int .i64 ↑gn) rfl ?_
  refine LdC.i 1 rfl (v := .slice (some ⟨cb, 0, none⟩) cr.length cap) rfl ?_
  refine BB.no (decide_eq_false (show ¬ ((gn : Int) ≥ (cr.length : Int)) by omega)) ?_
  refine LdC.i 1 rfl (v := .slice (some ⟨cb, 0, none⟩) cr.length cap) rfl ?_
  refine LdC.i 0 rfl (v := .int .i64 ↑gn) rfl ?_
  refine Ix.at0 gn 2 (by kernel_rfl) (rfl) (hlt) ?_
  refine LdC.S 2 rfl (v := .bool ex) (crewC_1 hx) ?_
  refine BB.k ?_
  cases ex
  · skip
    refine Cn.no ?_
    refine ⟨?_⟩
    refine Drw.of [(0, true), (1, true), (2, true), (3, true), (4, true), (5, true), (6, true), (7, true), (8, true), (9, true), (10, true), (11, true), (12, true), (13, true), (14, true), (15, true), (16, true), (17, true), (18, true)] (by kernel_rfl) mixed (fun w => SL w _) H.drew ?_
    replace H := H.drew
    refine LdC.i 0 rfl (v := .int .i64 kind) rfl ?_
    refine BB.vr fun q1 e1 => ?_
    cases q1
    · skip
      have h1 := bne_eq_false_iff_eq.1 e1
      subst h1
      refine Cn.no ?_
      refine ⟨?_⟩
      refine Drw.of [(0, true), (1, true), (2, true), (3, true), (4, true), (5, true), (6, true), (7, true)] (by kernel_rfl) mixed (fun w => SL w _) H.drew ?_
      replace H := H.drew
      refine LdC.i 1 rfl (v := .slice (some ⟨cb, 0, none⟩) cr.length cap) rfl ?_
      refine LdC.i 0 rfl (v := .int .i64 ↑gn) rfl ?_
      refine Ix.at0 gn 2 (by kernel_rfl) (rfl) (hlt) ?_
      refine ⟨?_⟩
      refine H.ldi 0 rfl (v := .int .i64 12) rfl ?_
      refine BB.no rfl ?_
      refine SL.stS (o := gn * 2) (u := .bool false) H.up2 ((crewC_lt hx).1) rfl fun w H => ?_
      rw [crewC_set0 _ hx] at H
      replace H := H.dn2
      refine ⟨?_⟩
      refine H.ldi 0 rfl (v := .int .i64 12) rfl ?_
      refine BB.no rfl ?_
      refine SL.stS (o := gn * 2 + 1) (u := .bool false) H.up2 ((crewC_lt (set_at hx _)).2) rfl fun w H => ?_
      rw [crewC_set1 _ (set_at hx _), List.set_set] at H
      replace H := H.dn2
      refine ⟨?_⟩
      refine H.ldi 0 rfl (v := .int .i64 12) rfl ?_
      refine BB.yes rfl ?_
      refine H.st1 (cs' := #[lv, .int .i64 at_, .slice (some ⟨cb, 0, none⟩) cr.length cap, .map (some mb), .int .i64 c.kind, .int .i64 c.g, .int .i64 c.chan, .int .i64 c.case_, .int .i64 c.value, .int .i64 c.mate, .bool c.send, .bool c.ok, .bool true]) rfl rfl rfl fun w H => ?_
      refine ⟨?_⟩
      refine H.ldi 0 rfl (v := .int .i64 12) rfl ?_
      refine BB.no rfl ?_
      refine Cn.no ?_
      refine ⟨?_⟩
      refine ret1 (fn := Tryd.f37) (.bool true) rfl (by rfl) ?_
      have hc : crewedF ⟨cr, chans, c, false⟩ ⟨12, ↑gn, chan, case_, value, mate, send, ok⟩ = (true, ⟨(cr.set gn (false, false)), chans, c, true⟩) := by
        unfold crewedF
        simp only [Int.toNat_natCast, hx]
        first | (simp [*]; done) | (cases wa <;> simp_all; done) | (cases wa <;> by_cases h7 : kind = 7 <;> simp_all)
      rw [hc]
      exact ⟨rfl, _, by simp only [List.length_set]; exact H.tl⟩
    · skip
      have h1 := bne_iff_ne.1 e1
      refine LdC.i 1 rfl (v := .slice (some ⟨cb, 0, none⟩) cr.length cap) rfl ?_
      refine LdC.i 0 rfl (v := .int .i64 ↑gn) rfl ?_
      refine Ix.at0 gn 2 (by kernel_rfl) (rfl) (hlt) ?_
      refine LdC.S 2 rfl (v := .bool wa) (crewC_0 hx) ?_
      refine BB.k ?_
      refine LdC.i 0 rfl (v := .int .i64 kind) rfl ?_
      refine BB.k ?_
      refine BB.vr fun q2 e2 => ?_
      cases q2
      · skip
        refine Cn.no ?_
        refine ⟨?_⟩
        refine Drw.of [(0, true), (1, true), (2, true), (3, true), (4, true), (5, true), (6, true), (7, true)] (by kernel_rfl) mixed (fun w => SL w _) H.drew ?_
        replace H := H.drew
        refine LdC.i 1 rfl (v := .slice (some ⟨cb, 0, none⟩) cr.length cap) rfl ?_
        refine LdC.i 0 rfl (v := .int .i64 ↑gn) rfl ?_
        refine Ix.at0 gn 2 (by kernel_rfl) (rfl) (hlt) ?_
        refine ⟨?_⟩
        refine H.ldi 0 rfl (v := .int .i64 kind) rfl ?_
        refine BB.k ?_
        refine SL.stS (o := gn * 2) (u := .bool (kind == 6)) H.up2 ((crewC_lt hx).1) rfl fun w H => ?_
        rw [crewC_set0 _ hx] at H
        replace H := H.dn2
        refine ⟨?_⟩
        refine H.ldi 0 rfl (v := .int .i64 kind) rfl ?_
        refine BB.k ?_
        refine SL.stS (o := gn * 2 + 1) (u := .bool (kind == 11)) H.up2 ((crewC_lt (set_at hx _)).2) rfl fun w H => ?_
        rw [crewC_set1 _ (set_at hx _), List.set_set] at H
        replace H := H.dn2
        refine ⟨?_⟩
        refine H.ldi 0 rfl (v := .int .i64 kind) rfl ?_
        refine BB.no (beq_eq_false_iff_ne.2 h1) ?_
        refine H.st1 (cs' := #[lv, .int .i64 at_, .slice (some ⟨cb, 0, none⟩) cr.length cap, .map (some mb), .int .i64 c.kind, .int .i64 c.g, .int .i64 c.chan, .int .i64 c.case_, .int .i64 c.value, .int .i64 c.mate, .bool c.send, .bool c.ok, .bool false]) rfl rfl rfl fun w H => ?_
        refine ⟨?_⟩
        refine H.ldi 0 rfl (v := .int .i64 kind) rfl ?_
        refine BB.vr fun q3 e3 => ?_
        cases q3
        · skip
          have h3 := beq_eq_false_iff_ne.1 e3
          refine Cn.no ?_
          refine ⟨?_⟩
          refine ret1 (fn := Tryd.f37) (.bool true) rfl (by rfl) ?_
          have hc : crewedF ⟨cr, chans, c, false⟩ ⟨kind, ↑gn, chan, case_, value, mate, send, ok⟩ = (true, ⟨(cr.set gn (kind == 6, kind == 11)), chans, c, false⟩) := by
            unfold crewedF
            simp only [Int.toNat_natCast, hx]
            first | (simp [*]; done) | (cases wa <;> simp_all; done) | (cases wa <;> by_cases h7 : kind = 7 <;> simp_all)
          rw [hc]
          exact ⟨rfl, _, by simp only [List.length_set]; exact H.tl⟩
        · skip
          have h3 := eq_of_beq e3
          subst h3
          refine Cn.yes ?_
          refine ⟨?_⟩
          refine Drw.of [(0, true), (1, true), (2, true), (3, true), (4, true), (5, true), (6, true), (7, true)] (by kernel_rfl) mixed (fun w => SL w _) H.drew ?_
          replace H := H.drew
          refine LdC.i 0 rfl (v := .int .i64 mate) rfl ?_
          refine LdC.i 1 rfl (v := .slice (some ⟨cb, 0, none⟩) cr.length cap) rfl ?_
          refine BB.vr fun q4 e4 => ?_
          cases q4
          · skip
            have h4 := bne_eq_false_iff_eq.1 e4
            subst h4
            refine Cn.no ?_
            refine ⟨?_⟩
            refine H.ldi 1 rfl (v := .slice (some ⟨cb, 0, none⟩) cr.length cap) rfl ?_
            refine Mn.pure (.agg #[.bool false, .bool false]) (by kernel_rfl) ?_
            refine Mn.new (fun b => .slice (some ⟨b, 0, none⟩) 1 1) #[.bool false, .bool false] 114 (by kernel_rfl) H fun b96 w H => ?_
            refine SL.appS H.up3 (.tmp 94) (.tmp 96) 43 (.agg #[.bool false, .bool false]) 2 (by rfl) (by kernel_rfl) (by kernel_rfl) (by rfl) (by decide) (by rfl) (some ⟨b96, 0, none⟩) 1 1 [.bool false, .bool false] (by rfl) (H.rdRow 0 rfl (by rfl) (by decide)) (by rfl) (by omega) (by decide) (by decide) fun g5 c5 w H => ?_
            refine H.st3 (cs' := #[lv, .int .i64 at_, .slice (some ⟨g5, 0, none⟩) (cr.length + 1) c5, .map (some mb), .int .i64 c.kind, .int .i64 c.g, .int .i64 c.chan, .int .i64 c.case_, .int .i64 c.value, .int .i64 c.mate, .bool c.send, .bool c.ok, .bool false]) rfl rfl rfl fun w H => ?_
            refine ⟨?_⟩
            refine ret1 (fn := Tryd.f37) (.bool true) rfl (by rfl) ?_
            have hc : crewedF ⟨cr, chans, c, false⟩ ⟨1, ↑gn, chan, case_, value, ↑cr.length, send, ok⟩ = (true, ⟨(cr.set gn (1 == 6, 1 == 11) ++ [(false, false)]), chans, c, false⟩) := by
              unfold crewedF
              simp only [Int.toNat_natCast, hx]
              first | (simp [*]; done) | (cases wa <;> simp_all; done) | (cases wa <;> by_cases h7 : kind = 7 <;> simp_all)
            rw [hc]
            exact ⟨rfl, _, by rw [← crewC_app]; simp only [List.length_set, List.length_append, List.length_singleton]; exact H.drop1.drop1.up1⟩
          · skip
            have h4 := bne_iff_ne.1 e4
            refine Cn.yes ?_
            refine ⟨?_⟩
            refine ret1 (fn := Tryd.f37) (.bool false) rfl (by rfl) ?_
            have hc : crewedF ⟨cr, chans, c, false⟩ ⟨1, ↑gn, chan, case_, value, mate, send, ok⟩ = (false, ⟨(cr.set gn (1 == 6, 1 == 11)), chans, c, false⟩) := by
              unfold crewedF
              simp only [Int.toNat_natCast, hx]
              first | (simp [*]; done) | (cases wa <;> simp_all; done) | (cases wa <;> by_cases h7 : kind = 7 <;> simp_all)
            rw [hc]
            exact ⟨rfl, _, by simp only [List.length_set]; exact H.tl⟩
      · skip
        refine Cn.yes ?_
        refine ⟨?_⟩
        refine ret1 (fn := Tryd.f37) (.bool false) rfl (by rfl) ?_
        have hc : crewedF ⟨cr, chans, c, false⟩ ⟨kind, ↑gn, chan, case_, value, mate, send, ok⟩ = (false, ⟨cr, chans, c, false⟩) := by
          unfold crewedF
          simp only [Int.toNat_natCast, hx]
          first | (simp [*]; done) | (cases wa <;> simp_all; done) | (cases wa <;> by_cases h7 : kind = 7 <;> simp_all)
        rw [hc]
        exact ⟨rfl, _, by simp only [List.length_set]; exact H.tl⟩
  · skip
    refine Cn.yes ?_
    refine ⟨?_⟩
    refine ret1 (fn := Tryd.f37) (.bool false) rfl (by rfl) ?_
    have hc : crewedF ⟨cr, chans, c, false⟩ ⟨kind, ↑gn, chan, case_, value, mate, send, ok⟩ = (false, ⟨cr, chans, c, false⟩) := by
      unfold crewedF
      simp only [Int.toNat_natCast, hx]
      first | (simp [*]; done) | (cases wa <;> simp_all; done) | (cases wa <;> by_cases h7 : kind = 7 <;> simp_all)
    rw [hc]
    exact ⟨rfl, _, by simp only [List.length_set]; exact H.tl⟩

theorem crewed_over {w : World} {F : List Piece} {rb cb mb cap gn : Nat} {lv crv : Value} {at_ : Int} {c : Ev} {cr : List (Bool × Bool)} {kind g chan case_ value mate : Int} {send ok : Bool} 
    (H : SL w (row rb #[lv, .int .i64 at_, crv, .map (some mb), .int .i64 c.kind, .int .i64 c.g, .int .i64 c.chan, .int .i64 c.case_, .int .i64 c.value, .int .i64 c.mate, .bool c.send, .bool c.ok, .bool true] 46 :: Slc 114 2 (crv) cr.length (crewC cr) :: F)) (chans : List ChnM) :
    Calls Tryd.prog 37 #[.pointer (some ⟨rb, 0, none⟩), (Ev.mk kind g chan case_ value mate send ok).agg] w fun o w' => o = .returned (.bool (crewedF ⟨cr, chans, c, true⟩ ⟨kind, g, chan, case_, value, mate, send, ok⟩).1) ∧
      ∃ crv, SL w' (rdrRow rb lv at_ crv mb c (crewedF ⟨cr, chans, c, true⟩ ⟨kind, g, chan, case_, value, mate, send, ok⟩).2.over :: Slc 114 2 crv (crewedF ⟨cr, chans, c, true⟩ ⟨kind, g, chan, case_, value, mate, send, ok⟩).2.crew.length (crewC (crewedF ⟨cr, chans, c, true⟩ ⟨kind, g, chan, case_, value, mate, send, ok⟩).2.crew) :: F) := by
  refine calls_den (args := [_, _]) Tryd.func37 rfl (Nat.le_of_ble_eq_true (by kernel_rfl)) (by kernel_rfl) ?_
  refine ⟨?_⟩
  refine Nw.as #[.int .i64 kind, .int .i64 g, .int .i64 chan, .int .i64 case_, .int .i64 value, .int .i64 mate, .bool send, .bool ok] 39 rfl H fun b3 w H => ?_
  refine ⟨?_⟩
  refine ⟨?_⟩
  refine H.ldi 1 rfl (v := .bool true) rfl ?_
  refine BB.yes rfl ?_
  refine Cn.yes ?_
  refine ⟨?_⟩
  refine ret1 (fn := Tryd.f37) (.bool false) rfl (by rfl) ?_
  have hc : crewedF ⟨cr, chans, c, true⟩ ⟨kind, g, chan, case_, value, mate, send, ok⟩ = (false, ⟨cr, chans, c, true⟩) := by
    rfl
  rw [hc]
  exact ⟨rfl, _, H.tl⟩

theorem crewed_13 {w : World} {F : List Piece} {rb cb mb cap gn : Nat} {lv crv : Value} {at_ : Int} {c : Ev} {cr : List (Bool × Bool)} {kind g chan case_ value mate : Int} {send ok : Bool} 
    (H : SL w (row rb #[lv, .int .i64 at_, crv, .map (some mb), .int .i64 c.kind, .int .i64 c.g, .int .i64 c.chan, .int .i64 c.case_, .int .i64 c.value, .int .i64 c.mate, .bool c.send, .bool c.ok, .bool false] 46 :: Slc 114 2 (crv) cr.length (crewC cr) :: F)) (chans : List ChnM) :
    Calls Tryd.prog 37 #[.pointer (some ⟨rb, 0, none⟩), (Ev.mk 13 g chan case_ value mate send ok).agg] w fun o w' => o = .returned (.bool (crewedF ⟨cr, chans, c, false⟩ ⟨13, g, chan, case_, value, mate, send, ok⟩).1) ∧
      ∃ crv, SL w' (rdrRow rb lv at_ crv mb c (crewedF ⟨cr, chans, c, false⟩ ⟨13, g, chan, case_, value, mate, send, ok⟩).2.over :: Slc 114 2 crv (crewedF ⟨cr, chans, c, false⟩ ⟨13, g, chan, case_, value, mate, send, ok⟩).2.crew.length (crewC (crewedF ⟨cr, chans, c, false⟩ ⟨13, g, chan, case_, value, mate, send, ok⟩).2.crew) :: F) := by
  refine calls_den (args := [_, _]) Tryd.func37 rfl (Nat.le_of_ble_eq_true (by kernel_rfl)) (by kernel_rfl) ?_
  refine ⟨?_⟩
  refine Nw.as #[.int .i64 13, .int .i64 g, .int .i64 chan, .int .i64 case_, .int .i64 value, .int .i64 mate, .bool send, .bool ok] 39 rfl H fun b3 w H => ?_
  refine ⟨?_⟩
  refine ⟨?_⟩
  refine H.ldi 1 rfl (v := .bool false) rfl ?_
  refine BB.no rfl ?_
  refine Cn.no ?_
  refine ⟨?_⟩
  refine H.ldi 0 rfl (v := .int .i64 13) rfl ?_
  refine BB.yes rfl ?_
  refine Cn.yes ?_
  refine ⟨?_⟩
  refine ret1 (fn := Tryd.f37) (.bool true) rfl (by rfl) ?_
  have hc : crewedF ⟨cr, chans, c, false⟩ ⟨13, g, chan, case_, value, mate, send, ok⟩ = (true, ⟨cr, chans, c, false⟩) := by
    rfl
  rw [hc]
  exact ⟨rfl, _, H.tl⟩

theorem crewed_none {w : World} {F : List Piece} {rb cb mb cap gn : Nat} {lv crv : Value} {at_ : Int} {c : Ev} {cr : List (Bool × Bool)} {kind g chan case_ value mate : Int} {send ok : Bool} (h13 : kind ≠ 13) (hx : cr.length ≤ gn)
    (H : SL w (row rb #[lv, .int .i64 at_, .slice (some ⟨cb, 0, none⟩) cr.length cap, .map (some mb), .int .i64 c.kind, .int .i64 c.g, .int .i64 c.chan, .int .i64 c.case_, .int .i64 c.value, .int .i64 c.mate, .bool c.send, .bool c.ok, .bool false] 46 :: Slc 114 2 (.slice (some ⟨cb, 0, none⟩) cr.length cap) cr.length (crewC cr) :: F)) (chans : List ChnM) :
    Calls Tryd.prog 37 #[.pointer (some ⟨rb, 0, none⟩), (Ev.mk kind ↑gn chan case_ value mate send ok).agg] w fun o w' => o = .returned (.bool (crewedF ⟨cr, chans, c, false⟩ ⟨kind, ↑gn, chan, case_, value, mate, send, ok⟩).1) ∧
      ∃ crv, SL w' (rdrRow rb lv at_ crv mb c (crewedF ⟨cr, chans, c, false⟩ ⟨kind, ↑gn, chan, case_, value, mate, send, ok⟩).2.over :: Slc 114 2 crv (crewedF ⟨cr, chans, c, false⟩ ⟨kind, ↑gn, chan, case_, value, mate, send, ok⟩).2.crew.length (crewC (crewedF ⟨cr, chans, c, false⟩ ⟨kind, ↑gn, chan, case_, value, mate, send, ok⟩).2.crew) :: F) := by
  refine calls_den (args := [_, _]) Tryd.func37 rfl (Nat.le_of_ble_eq_true (by kernel_rfl)) (by kernel_rfl) ?_
  refine ⟨?_⟩
  refine Nw.as #[.int .i64 kind, .int .i64 ↑gn, .int .i64 chan, .int .i64 case_, .int .i64 value, .int .i64 mate, .bool send, .bool ok] 39 rfl H fun b3 w H => ?_
  refine ⟨?_⟩
  refine ⟨?_⟩
  refine H.ldi 1 rfl (v := .bool false) rfl ?_
  refine BB.no rfl ?_
  refine Cn.no ?_
  refine ⟨?_⟩
  refine H.ldi 0 rfl (v := .int .i64 kind) rfl ?_
  refine BB.no (show (kind == 13) = false from beq_eq_false_iff_ne.2 h13) ?_
  refine Cn.no ?_
  refine ⟨?_⟩
  refine Drw.of [(0, true), (1, true), (2, true), (3, true), (4, true), (5, true), (6, true), (7, true), (8, true), (9, true), (10, true), (11, true), (12, true), (13, true), (14, true), (15, true), (16, true), (17, true), (18, true), (19, true)] (by kernel_rfl) mixed (fun w => SL w _) H.drew ?_
  replace H := H.drew
  refine LdC.i 0 rfl (v := .int .i64 ↑gn) rfl ?_
  refine LdC.i 1 rfl (v := .slice (some ⟨cb, 0, none⟩) cr.length cap) rfl ?_
  refine BB.yes (decide_eq_true (show (gn : Int) ≥ (cr.length : Int) by omega)) ?_
  refine Cn.yes ?_
  refine ⟨?_⟩
  refine ret1 (fn := Tryd.f37) (.bool false) rfl (by rfl) ?_
  have hc : crewedF ⟨cr, chans, c, false⟩ ⟨kind, ↑gn, chan, case_, value, mate, send, ok⟩ = (false, ⟨cr, chans, c, false⟩) := by
    simp [crewedF, h13, List.getElem?_eq_none hx]
  rw [hc]
  exact ⟨rfl, _, H.tl⟩

end Go.Proofs.YtoejhelhgfipkaaDoor
