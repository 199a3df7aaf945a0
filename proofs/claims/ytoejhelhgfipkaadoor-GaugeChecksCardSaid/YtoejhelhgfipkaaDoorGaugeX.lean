/- Gauge: the walks of the rules 3 to 6. -/
import Derived.Test.YtoejhelhgfipkaaDoorGaugeX0
namespace Go.Proofs.YtoejhelhgfipkaaDoor
set_option linter.unusedVariables false
set_option linter.unusedSimpArgs false
open Go.RowKit
set_option maxRecDepth 100000
theorem madeFix {w : World} {F : List Piece} {crv : Value} {mb b : Nat} {A : Piece} {ps : List Nat} {cs : List ChnM} {x : ChnM} {crew : List (Bool × Bool)} (hl : ps.length = cs.length)
    (H : SL w (A :: Slc 114 2 crv crew.length (crewC crew) :: MapP 3 mb (if (chMap ps (cs.length : Int)).isSome then cs.length else cs.length + 1) (upd (chMap ps) (cs.length : Int) (some (.pointer (some ⟨b, 0, none⟩)))) :: chsP (ps ++ [b]) (cs ++ [x]) :: F)) :
    SL w (A :: Slc 114 2 crv crew.length (crewC crew) :: MapP 3 mb (cs ++ [x]).length (chMap (ps ++ [b])) :: chsP (ps ++ [b]) (cs ++ [x]) :: F) := by
  rw [← hl, chMap_new, chMap_snoc, hl] at H
  rw [List.length_append, List.length_singleton]
  exact H

theorem g_made {w : World} {F : List Piece} {rb n : Nat} {lv : Value} {at_ : Int} {r : RdrM} {e : Ev} (B : EvB e) (hs : Sized n r) (hn : n < 1000000) (H : SL w (RdP rb lv at_ r :: F)) :
    Calls Tryd.prog 38 #[.pointer (some ⟨rb, 0, none⟩), e.agg] w fun o w' => o = .returned (.bool (madeF r e).1) ∧ SL w' (RdP rb lv at_ (madeF r e).2 :: F) := by
  obtain ⟨crv, mb, ps, hl, H⟩ := RdP.iff.1 H
  obtain ⟨cr, chans, c, over⟩ := r
  obtain ⟨kind, g, chan, case_, value, mate, send, ok⟩ := e
  dsimp only at hl H hs
  have hcl := hs.chans
  dsimp only at hcl
  by_cases h2 : kind = 2
  · subst h2
    refine calls_den (args := [_, _]) Tryd.func38 rfl (Nat.le_of_ble_eq_true (by kernel_rfl)) (by kernel_rfl) ?_
    refine ⟨?_⟩
    refine Nw.as #[.int .i64 2, .int .i64 g, .int .i64 chan, .int .i64 case_, .int .i64 value, .int .i64 mate, .bool send, .bool ok] 39 rfl H fun b3 w H => ?_
    refine ⟨?_⟩
    refine H.ldi 0 rfl (v := .int .i64 2) rfl ?_
    refine BB.yes rfl ?_
    refine Cn.yes ?_
    refine ⟨?_⟩
    refine Drw.of [(0, true), (1, true), (2, true), (3, true), (4, true), (5, true), (6, true), (7, true)] (by kernel_rfl) mixed (fun w => SL w _) H.drew ?_
    replace H := H.drew
    refine LdC.i 0 rfl (v := .int .i64 chan) rfl ?_
    refine LdC.i 1 rfl (v := .map (some mb)) rfl ?_
    refine MnC.mapLen 3 rfl (.tmp 13) 44 116 (by rfl) (by kernel_rfl) (by rfl) ?_
    refine BB.vr fun q1 e1 => ?_
    cases q1
    · skip
      have h1 := bne_eq_false_iff_eq.1 e1
      refine Cn.no ?_
      refine ⟨?_⟩
      refine Drw.of [(0, true), (1, true), (2, true), (3, true), (4, true), (5, true), (6, true), (7, true), (8, true), (9, false), (10, false)] (by kernel_rfl) mixed (fun w => SL w _) H.drew ?_
      replace H := H.drew
      refine LdC.i 1 rfl (v := .map (some mb)) rfl ?_
      refine LdC.i 0 rfl (v := .int .i64 chan) rfl ?_
      refine LdC.i 0 rfl (v := .int .i64 value) rfl ?_
      refine MnC.pure (.agg #[.int .i64 value, .slice none 0 0, .bool false]) (fun _ => by kernel_rfl) ?_
      refine Nw.as #[.int .i64 value, .slice none 0 0, .bool false] 118 rfl H fun b25 w H => ?_
      refine ⟨.inr H.tl, ?_⟩
      refine Mn.mapSet H.up4 (by omega) (.tmp 19) (.tmp 21) (.tmp 25) 44 116 (by rfl) (by kernel_rfl) (by kernel_rfl) chan (key_wf (by have := B.chan; dsimp only at this; omega) (by have := B.chan; dsimp only at this; omega)) (.pointer (some ⟨b25, 0, none⟩)) (by rfl) (by rfl) (by rfl) fun w H => ?_
      refine ⟨.inl rfl, ?_⟩
      refine ⟨?_⟩
      refine ret1 (fn := Tryd.f38) (.bool true) rfl (by rfl) ?_
      subst h1
      have hc : madeF ⟨cr, chans, c, over⟩ ⟨2, g, ↑chans.length, case_, value, mate, send, ok⟩ = (true, ⟨cr, chans ++ [⟨value, [], false⟩], c, over⟩) := by simp [madeF, *]
      rw [hc]
      have q := H.pick [1, 5, 3, 4, 0] 6 (by decide)
      simp only [pk, nth, List.map_cons, List.map_nil, List.cons_append, List.nil_append, List.drop_succ_cons, List.drop_zero] at q
      have q2 := chs_snoc hl (y := ⟨value, [], false⟩) ((SL.quNil _ 1 q).up1)
      have q3 := q2.pick [1, 2, 3, 0] 4 (by decide)
      simp only [pk, nth, List.map_cons, List.map_nil, List.cons_append, List.nil_append, List.drop_succ_cons, List.drop_zero] at q3
      exact ⟨rfl, RdP.iff.2 ⟨crv, mb, ps ++ [b25], by simp [hl], madeFix hl q3⟩⟩
    · skip
      have h1 := bne_iff_ne.1 e1
      refine Cn.yes ?_
      refine ⟨?_⟩
      refine ret1 (fn := Tryd.f38) (.bool false) rfl (by rfl) ?_
      have hc : madeF ⟨cr, chans, c, over⟩ ⟨2, g, chan, case_, value, mate, send, ok⟩ = (false, ⟨cr, chans, c, over⟩) := by simp [madeF, *]
      rw [hc]
      exact ⟨rfl, RdP.iff.2 ⟨crv, mb, ps, hl, H.tl⟩⟩
  · cases hf : chanF ⟨cr, chans, c, over⟩ chan with
    | none =>
      have hm := chMap_none hl (r := ⟨cr, chans, c, over⟩) rfl hf
      refine calls_den (args := [_, _]) Tryd.func38 rfl (Nat.le_of_ble_eq_true (by kernel_rfl)) (by kernel_rfl) ?_
      refine ⟨?_⟩
      refine Nw.as #[.int .i64 kind, .int .i64 g, .int .i64 chan, .int .i64 case_, .int .i64 value, .int .i64 mate, .bool send, .bool ok] 39 rfl H fun b3 w H => ?_
      refine ⟨?_⟩
      refine H.ldi 0 rfl (v := .int .i64 kind) rfl ?_
      refine BB.no (beq_eq_false_iff_ne.2 h2) ?_
      refine Cn.no ?_
      refine ⟨?_⟩
      refine Drw.of [(0, true), (1, true), (2, true), (3, true), (4, true), (5, true), (6, true), (7, true), (8, true), (9, true), (10, true), (11, true), (12, true), (13, true)] (by kernel_rfl) mixed (fun w => SL w _) H.drew ?_
      replace H := H.drew
      refine LdC.i 0 rfl (v := .int .i64 chan) rfl ?_
      refine BB.vr fun q1 e1 => ?_
      cases q1
      · skip
        have h1 := beq_eq_false_iff_ne.1 e1
        refine LdC.i 1 rfl (v := .map (some mb)) rfl ?_
        refine LdC.i 0 rfl (v := .int .i64 chan) rfl ?_
        refine MnC.lookV 3 rfl (.tmp 33) (.tmp 35) 44 116 (by rfl) (by kernel_rfl) (by kernel_rfl) (z := .pointer none) (fun _ => by kernel_rfl) chan (key_wf (by have := B.chan; dsimp only at this; omega) (by have := B.chan; dsimp only at this; omega)) (by rfl) (by rfl) (.pointer none) (by rw [hm]; rfl) ?_
        refine BB.no rfl ?_
        refine ret1 (fn := Tryd.f38) (.bool false) rfl (by rfl) ?_
        have hc : madeF ⟨cr, chans, c, over⟩ ⟨kind, g, chan, case_, value, mate, send, ok⟩ = (false, ⟨cr, chans, c, over⟩) := by simp [madeF, *]
        rw [hc]
        exact ⟨rfl, RdP.iff.2 ⟨crv, mb, ps, hl, H.tl⟩⟩
      · skip
        have h1 := eq_of_beq e1
        subst h1
        refine ret1 (fn := Tryd.f38) (.bool true) rfl (by rfl) ?_
        have hc : madeF ⟨cr, chans, c, over⟩ ⟨kind, g, (-1), case_, value, mate, send, ok⟩ = (true, ⟨cr, chans, c, over⟩) := by simp [madeF, *]
        rw [hc]
        exact ⟨rfl, RdP.iff.2 ⟨crv, mb, ps, hl, H.tl⟩⟩
    | some x =>
      obtain ⟨k, p, hk, hx, hp, hm⟩ := chMap_some hl (r := ⟨cr, chans, c, over⟩) rfl hf
      clear hk
      refine calls_den (args := [_, _]) Tryd.func38 rfl (Nat.le_of_ble_eq_true (by kernel_rfl)) (by kernel_rfl) ?_
      refine ⟨?_⟩
      refine Nw.as #[.int .i64 kind, .int .i64 g, .int .i64 chan, .int .i64 case_, .int .i64 value, .int .i64 mate, .bool send, .bool ok] 39 rfl H fun b3 w H => ?_
      refine ⟨?_⟩
      refine H.ldi 0 rfl (v := .int .i64 kind) rfl ?_
      refine BB.no (beq_eq_false_iff_ne.2 h2) ?_
      refine Cn.no ?_
      refine ⟨?_⟩
      refine Drw.of [(0, true), (1, true), (2, true), (3, true), (4, true), (5, true), (6, true), (7, true), (8, true), (9, true), (10, true), (11, true), (12, true), (13, true)] (by kernel_rfl) mixed (fun w => SL w _) H.drew ?_
      replace H := H.drew
      refine LdC.i 0 rfl (v := .int .i64 chan) rfl ?_
      refine BB.vr fun q1 e1 => ?_
      cases q1
      · skip
        have h1 := beq_eq_false_iff_ne.1 e1
        refine LdC.i 1 rfl (v := .map (some mb)) rfl ?_
        refine LdC.i 0 rfl (v := .int .i64 chan) rfl ?_
        refine MnC.lookV 3 rfl (.tmp 33) (.tmp 35) 44 116 (by rfl) (by kernel_rfl) (by kernel_rfl) (z := .pointer none) (fun _ => by kernel_rfl) chan (key_wf (by have := B.chan; dsimp only at this; omega) (by have := B.chan; dsimp only at this; omega)) (by rfl) (by rfl) (.pointer (some ⟨p, 0, none⟩)) (by rw [hm]; rfl) ?_
        refine BB.yes rfl ?_
        refine ret1 (fn := Tryd.f38) (.bool true) rfl (by rfl) ?_
        have hc : madeF ⟨cr, chans, c, over⟩ ⟨kind, g, chan, case_, value, mate, send, ok⟩ = (true, ⟨cr, chans, c, over⟩) := by simp [madeF, *]
        rw [hc]
        exact ⟨rfl, RdP.iff.2 ⟨crv, mb, ps, hl, H.tl⟩⟩
      · skip
        have h1 := eq_of_beq e1
        subst h1
        refine ret1 (fn := Tryd.f38) (.bool true) rfl (by rfl) ?_
        have hc : madeF ⟨cr, chans, c, over⟩ ⟨kind, g, (-1), case_, value, mate, send, ok⟩ = (true, ⟨cr, chans, c, over⟩) := by simp [madeF, *]
        rw [hc]
        exact ⟨rfl, RdP.iff.2 ⟨crv, mb, ps, hl, H.tl⟩⟩

end Go.Proofs.YtoejhelhgfipkaaDoor
