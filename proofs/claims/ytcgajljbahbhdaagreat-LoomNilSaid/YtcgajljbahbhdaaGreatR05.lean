/- Texts of the proof, several in one file: PipeE, PipeF, PipeG, PipeH, RefB, RefC. -/
import Derived.Test.YtcgajljbahbhdaaGreatR04
import Derived.Test.YtcgajljbahbhdaaGreatR01
import Derived.Deep.RegionHeld3
import Derived.Deep.DeepMust
namespace Go.Proofs.YtcgajljbahbhdaaGreat
set_option linter.unusedVariables false
set_option linter.unusedSimpArgs false
open Go.RowKit
section
variable {w : World} {S : Nat → Prop} {g pb gb : Nat} {x : PipeM}
theorem box1 {w : World} {g : Nat} {a : Value} {t : Nat} (k : w.heap[g]? = some (.cells #[a] t (0, 0))) :
  w.cell? ⟨g, 0, none⟩ = some a ∧ (∀ i, w.frozen? ⟨g, i, none⟩ = false) :=
 ⟨row_cell k 0 rfl, row_free k⟩
theorem recv3 (v : Int) (w : World) : Calls Tryz.prog 149 #[.int .i64 v] w fun e w' => e = .returned (.int .i64 v) ∧ w = w' := by
 go_enter Tryz.func149, Tryz.ntmps149
 go_wp2_with fail
 go_ret
 exact ⟨rfl, rfl⟩
theorem recv2_none {y : GotM} {a : Int} {L : List Int} (h : PipeAt w S g x) (hb : x.buf = a :: L) (hp : w.heap[pb]? = some (.cells #[.pointer (some ⟨g, 0, none⟩)] 133 (0, 0)))
  (hg : w.heap[gb]? = some (.cells y.cells.toArray 171 (0, 0))) (pS : ¬ S pb) (gS : ¬ S gb) (hw : y.woke = false) (v : Int) :
  Calls Tryz.prog 147 #[.int .i64 v, .pointer (some ⟨pb, 0, none⟩), .pointer (some ⟨gb, 0, none⟩)] w
   (PipePost S g w (.int .i64 a) { x with buf := L }) := by
 obtain ⟨rgb, sp, rp, R, P, Q, h0⟩ := h
 obtain ⟨c0, c1, c2, c3, c4, c5, cf⟩ := pipe_cells h0.row
 obtain ⟨p0, pf⟩ := box1 hp
 go_enter Tryz.func147, Tryz.ntmps147
 go_wp2_with fail
 have h1 := h0.ring
 rw [hb] at h1
 refine (ring_pop h1).mono ?_
 rintro e w1 ⟨rfl, h2, f2⟩
 have h3 := h0.ring_ h2 f2
 have g1 : w1.heap[gb]? = _ := f2.blk hg (fun hq => gS (h0.subR gb hq).1)
 obtain ⟨r0, r1, r2, r3, r4, r5, r6, rf⟩ := box7 g1
 rw [hw] at r2
 go_wp2_with fail
 go_ret
 exact ⟨rfl, PipeAt.mono (⟨_, _, _, _, _, _, h3⟩ : PipeAt w1 S g { x with buf := L }) (fun k hk => .inl hk), f2.mono (fun k _ hq => (h0.subR k hq).1)⟩
theorem recv2_woke {y : GotM} {a : Int} {L : List Int} (h : PipeAt w S g x) (hb : x.buf = a :: L) (hz : L.length < x.size) (hp : w.heap[pb]? = some (.cells #[.pointer (some ⟨g, 0, none⟩)] 133 (0, 0)))
  (hg : w.heap[gb]? = some (.cells y.cells.toArray 171 (0, 0))) (pS : ¬ S pb) (gS : ¬ S gb) (hw : y.woke = true) (v : Int) :
  Calls Tryz.prog 147 #[.int .i64 v, .pointer (some ⟨pb, 0, none⟩), .pointer (some ⟨gb, 0, none⟩)] w
   (PipePost S g w (.int .i64 a) { x with buf := L ++ [v] }) := by
 obtain ⟨rgb, sp, rp, R, P, Q, h0⟩ := h
 obtain ⟨c0, c1, c2, c3, c4, c5, cf⟩ := pipe_cells h0.row
 obtain ⟨p0, pf⟩ := box1 hp
 go_enter Tryz.func147, Tryz.ntmps147
 go_wp2_with fail
 have h1 := h0.ring
 rw [hb] at h1
 refine (ring_pop h1).mono ?_
 rintro e w1 ⟨rfl, h2, f2⟩
 have h3 := h0.ring_ h2 f2
 have g1 : w1.heap[gb]? = _ := f2.blk hg (fun hq => gS (h0.subR gb hq).1)
 have p1 : w1.heap[pb]? = _ := f2.blk hp (fun hq => pS (h0.subR pb hq).1)
 obtain ⟨r0, r1, r2, r3, r4, r5, r6, rf⟩ := box7 g1
 rw [hw] at r2
 obtain ⟨q0, qf⟩ := box1 p1
 obtain ⟨d0, d1, d2, d3, d4, d5, df⟩ := pipe_cells h3.row
 go_wp2_with fail
 refine (ring_push_ok h3.ring hz v).mono ?_
 rintro e w2 ⟨rfl, h4, f4⟩
 have h5 := h3.ring_ h4 f4
 go_wp2_with fail
 go_ret
 exact ⟨rfl, PipeAt.mono (⟨_, _, _, _, _, _, h5⟩ : PipeAt w2 S g { x with buf := L ++ [v] }) (fun k hk => .inl hk), (f2.mono (fun k _ hq => (h0.subR k hq).1)).trans f4 (fun k _ hq => (h0.subR k hq).1)⟩
set_option maxRecDepth 100000 in
set_option maxHeartbeats 400000 in
theorem recv1_none {a : Int} {L : List Int} (h : PipeAt w S g x) (hb : x.buf = a :: L) (hs : x.senders = []) (hn : Cnt x) (hp : w.heap[pb]? = some (.cells #[.pointer (some ⟨g, 0, none⟩)] 133 (0, 0)))
  (hg : w.heap[gb]? = some (.cells #[.bool true, .bool false, .bool false, .int .i64 0, .int .i64 0, .int .i64 0, .int .i64 0] 171 (0, 0))) (pS : ¬ S pb) (gS : ¬ S gb) (ne : pb ≠ gb) :
  Calls Tryz.prog 146 #[.func (.func 147) #[] #[.pointer (some ⟨pb, 0, none⟩), .pointer (some ⟨gb, 0, none⟩)], .pointer (some ⟨gb, 0, none⟩), .pointer (some ⟨pb, 0, none⟩)] w
   fun e w' => e = .returned (.tuple #[]) ∧ PipeAt w' (New S w w') g { x with buf := L, received := x.received + 1 } ∧
    w'.heap[gb]? = some (.cells #[.bool true, .bool true, .bool false, .int .i64 a, .int .i64 0, .int .i64 0, .int .i64 0] 171 (0, 0)) ∧ Frm (fun k => S k ∨ k = gb) w w' := by
 obtain ⟨b1, b2, b3, b4⟩ := hn
 obtain ⟨rgb, sp, rp, R, P, Q, h0⟩ := h.bound
 obtain ⟨c0, c1, c2, c3, c4, c5, cf⟩ := pipe_cells h0.row
 obtain ⟨p0, pf⟩ := box1 hp
 obtain ⟨r0, r1, r2, r3, r4, r5, r6, rf⟩ := box7 hg
 have gg : g ≠ gb := fun e => gS (by rw [← e]; exact h0.own.1)
 have gg' : gb ≠ g := fun e => gg e.symm
 have gp : g ≠ pb := fun e => pS (by rw [← e]; exact h0.own.1)
 have gp' : pb ≠ g := fun e => gp e.symm
 have ne' : gb ≠ pb := fun e => ne e.symm
 have l0 := lt_of_block h0.row
 have l1 := lt_of_block hp
 have l2 := lt_of_block hg
 have HX := Lib.hid hs
 have HB := Lib.hid hb
 clear hs hb
 go_enter Tryz.func146, Tryz.ntmps146
 go_wp2_with fail
 have e0 : Frm (fun k => k = gb) w w := Frm.refl _ _
 have y0 := e0.setCell (p := ⟨gb, 1, none⟩) (fun _ => rfl) (.bool true)
 have h1 := h0.move (fun k hk => y0.block k hk.2 (fun e => gS (by rw [← e]; exact hk.1)))
 have h2 := h1.received_ (x.received + 1)
 have h3 := h2.snd
 dsimp only at h3
 rw [HX.out] at h3
 refine (pew_take_none h3).mono ?_
 rintro e w2 ⟨rfl, h4, f4⟩
 have h5 := h2.snd_ h4 f4
 have g1 := blk_far (blk_set hg 1 (.bool true)) (p := ⟨g, 5, none⟩) gg' (.int .i64 (x.received + 1))
 have g2 := f4.blk g1 (fun hq => gS (h0.subP gb hq).1.1)
 have q2 := f4.blk (blk_far (blk_far hp (p := ⟨gb, 1, none⟩) ne (.bool true)) (p := ⟨g, 5, none⟩) gp' (.int .i64 (x.received + 1))) (fun hq => pS (h0.subP pb hq).1.1)
 dsimp [Array.setIfInBounds] at g2
 obtain ⟨s0, s1, s2, s3, s4, s5, s6, sf⟩ := box7 g2
 obtain ⟨u0, uf⟩ := box1 q2
 obtain ⟨d0, d1, d2, d3, d4, d5, df⟩ := pipe_cells h5.row
 unfold wzero Wtr.agg
 dsimp only at d3 d4 d5 ⊢
 have hT : ¬ New (fun k => S k ∧ k < w.heap.size) ((w.setCell ⟨gb, 1, none⟩ (.bool true)).setCell ⟨g, 5, none⟩ (.int .i64 (x.received + 1))) w2 gb := fun hk => hk.elim (fun h => gS h.1) (fun h => by have := h.1; simp [World.setCell] at this; omega)
 have hTp : ¬ New (fun k => S k ∧ k < w.heap.size) ((w.setCell ⟨gb, 1, none⟩ (.bool true)).setCell ⟨g, 5, none⟩ (.int .i64 (x.received + 1))) w2 pb := fun hk => hk.elim (fun h => pS h.1) (fun h => by have := h.1; simp [World.setCell] at this; omega)
 have e2 : Frm (fun k => k = gb) w2 w2 := Frm.refl _ _
 have y2 := (((e2.setCell (p := ⟨gb, 4, none⟩) (fun _ => rfl) (.int .i64 0)).setCell (p := ⟨gb, 5, none⟩) (fun _ => rfl) (.int .i64 0)).setCell (p := ⟨gb, 6, none⟩) (fun _ => rfl) (.int .i64 0)).setCell (p := ⟨gb, 2, none⟩) (fun _ => rfl) (.bool false)
 have h6 := h5.bound.move (fun k hk => y2.block k hk.2 (fun e => by subst e; exact hT hk.1))
 have g3 := blk_set (blk_set (blk_set (blk_set g2 4 (.int .i64 0)) 5 (.int .i64 0)) 6 (.int .i64 0)) 2 (.bool false)
 have q3 := y2.blk q2 ne
 go_wp2_with fail
 refine (recv2_none (y := ⟨true, true, false, 0, wzero⟩) ⟨_, _, _, _, _, _, h6⟩ HB.out q3 g3 (fun h => hTp h.1) (fun h => hT h.1) rfl 0).mono ?_
 rintro e w4 ⟨rfl, h7, f7⟩
 have g4 := f7.blk g3 (fun h => hT h.1)
 dsimp [Array.setIfInBounds] at g4
 obtain ⟨t0, t1, t2, t3, t4, t5, t6, tf⟩ := box7 g4
 go_wp2_with fail
 go_end0
 have e4 : Frm (fun k => k = gb) w4 w4 := Frm.refl _ _
 have y4 := e4.setCell (p := ⟨gb, 3, none⟩) (fun _ => rfl) (.int .i64 a)
 have hT4 : ¬ New (fun k => New (fun k => S k ∧ k < w.heap.size) ((w.setCell ⟨gb, 1, none⟩ (.bool true)).setCell ⟨g, 5, none⟩ (.int .i64 (x.received + 1))) w2 k ∧ k < w2.heap.size) ((((w2.setCell ⟨gb, 4, none⟩ (.int .i64 0)).setCell ⟨gb, 5, none⟩ (.int .i64 0)).setCell ⟨gb, 6, none⟩ (.int .i64 0)).setCell ⟨gb, 2, none⟩ (.bool false)) w4 gb := fun hk => hk.elim (fun h => hT h.1) (fun h => by have := h.1; have := f4.size; simp [World.setCell] at *; omega)
 have h8 := h7.bound.move (fun k hk => y4.block k hk.2 (fun e => by subst e; exact hT4 hk.1))
 have g5 := blk_set g4 3 (.int .i64 a)
 have w1s := f4.size
 have w3s := f7.size
 simp [World.setCell] at w1s w3s
 have z1 : Frm (fun k => S k ∨ k = gb) w _ := (((Frm.refl _ _).setCell (p := ⟨gb, 1, none⟩) (fun _ => .inr rfl) (.bool true)).setCell (p := ⟨g, 5, none⟩) (fun _ => .inl h0.own.1) (.int .i64 (x.received + 1))).trans f4 (fun k _ hq => .inl (h0.subP k hq).1.1)
 have z2 := ((z1.trans y2 (fun k _ e => .inr e)).trans f7 (fun k hk hq => hq.1.elim (fun h => .inl h.1) (fun h => by have := h.1; simp [World.setCell] at this; omega))).trans y4 (fun k _ e => .inr e)
 rw [show ({ size := x.size, buf := L, senders := x.senders, receivers := x.receivers, closed := x.closed, sent := x.sent, received := x.received + 1 } : PipeM) = { x with buf := L, senders := [], received := x.received + 1 } by rw [HX.out]]
 refine ⟨rfl, h8.mono (fun k hk => ?_), g5, z2⟩
 have hk2 := hk.2
 rcases hk.1 with hk | hk
 ·rcases hk.1 with h | h
  ·exact .inl h.1
  ·refine .inr ⟨?_, ?_⟩
   ·have := h.1; simp [World.setCell] at this; exact this
   ·have := h.2; simp [World.setCell]; omega
 ·refine .inr ⟨?_, ?_⟩
  ·have := hk.1; simp [World.setCell] at this; omega
  ·have := hk.2; simp [World.setCell]; omega
set_option maxRecDepth 100000 in
set_option maxHeartbeats 400000 in
theorem recv1_woke {a : Int} {L : List Int} {m : Wtr} {l : List Wtr} (h : PipeAt w S g x) (hb : x.buf = a :: L) (hs : x.senders = m :: l) (hl : l.length < 1000000) (hz : L.length < x.size) (hn : Cnt x) (hp : w.heap[pb]? = some (.cells #[.pointer (some ⟨g, 0, none⟩)] 133 (0, 0)))
  (hg : w.heap[gb]? = some (.cells #[.bool true, .bool false, .bool false, .int .i64 0, .int .i64 0, .int .i64 0, .int .i64 0] 171 (0, 0))) (pS : ¬ S pb) (gS : ¬ S gb) (ne : pb ≠ gb) :
  Calls Tryz.prog 146 #[.func (.func 147) #[] #[.pointer (some ⟨pb, 0, none⟩), .pointer (some ⟨gb, 0, none⟩)], .pointer (some ⟨gb, 0, none⟩), .pointer (some ⟨pb, 0, none⟩)] w
   fun e w' => e = .returned (.tuple #[]) ∧ PipeAt w' (New S w w') g { x with buf := L ++ [m.value], senders := l, sent := x.sent + 1, received := x.received + 1 } ∧
    w'.heap[gb]? = some (.cells #[.bool true, .bool true, .bool true, .int .i64 a, .int .i64 m.g, .int .i64 m.case_, .int .i64 m.value] 171 (0, 0)) ∧ Frm (fun k => S k ∨ k = gb) w w' := by
 obtain ⟨b1, b2, b3, b4⟩ := hn
 obtain ⟨mg, mc, mv⟩ := m
 dsimp only
 obtain ⟨rgb, sp, rp, R, P, Q, h0⟩ := h.bound
 obtain ⟨c0, c1, c2, c3, c4, c5, cf⟩ := pipe_cells h0.row
 obtain ⟨p0, pf⟩ := box1 hp
 obtain ⟨r0, r1, r2, r3, r4, r5, r6, rf⟩ := box7 hg
 have gg : g ≠ gb := fun e => gS (by rw [← e]; exact h0.own.1)
 have gg' : gb ≠ g := fun e => gg e.symm
 have gp : g ≠ pb := fun e => pS (by rw [← e]; exact h0.own.1)
 have gp' : pb ≠ g := fun e => gp e.symm
 have ne' : gb ≠ pb := fun e => ne e.symm
 have l0 := lt_of_block h0.row
 have l1 := lt_of_block hp
 have l2 := lt_of_block hg
 have HX := Lib.hid hs
 have HB := Lib.hid hb
 clear hs hb
 go_enter Tryz.func146, Tryz.ntmps146
 go_wp2_with fail
 have e0 : Frm (fun k => k = gb) w w := Frm.refl _ _
 have y0 := e0.setCell (p := ⟨gb, 1, none⟩) (fun _ => rfl) (.bool true)
 have h1 := h0.move (fun k hk => y0.block k hk.2 (fun e => gS (by rw [← e]; exact hk.1)))
 have h2 := h1.received_ (x.received + 1)
 have h3 := h2.snd
 dsimp only at h3
 rw [HX.out] at h3
 refine (pew_take h3 hl).mono ?_
 rintro e w2 ⟨rfl, h4, f4⟩
 have h5 := h2.snd_ h4 f4
 have g1 := blk_far (blk_set hg 1 (.bool true)) (p := ⟨g, 5, none⟩) gg' (.int .i64 (x.received + 1))
 have g2 := f4.blk g1 (fun hq => gS (h0.subP gb hq).1.1)
 have q2 := f4.blk (blk_far (blk_far hp (p := ⟨gb, 1, none⟩) ne (.bool true)) (p := ⟨g, 5, none⟩) gp' (.int .i64 (x.received + 1))) (fun hq => pS (h0.subP pb hq).1.1)
 dsimp [Array.setIfInBounds] at g2
 obtain ⟨s0, s1, s2, s3, s4, s5, s6, sf⟩ := box7 g2
 obtain ⟨u0, uf⟩ := box1 q2
 obtain ⟨d0, d1, d2, d3, d4, d5, df⟩ := pipe_cells h5.row
 unfold Wtr.agg
 dsimp only at d3 d4 d5 ⊢
 have hT : ¬ New (fun k => S k ∧ k < w.heap.size) ((w.setCell ⟨gb, 1, none⟩ (.bool true)).setCell ⟨g, 5, none⟩ (.int .i64 (x.received + 1))) w2 gb := fun hk => hk.elim (fun h => gS h.1) (fun h => by have := h.1; simp [World.setCell] at this; omega)
 have hTp : ¬ New (fun k => S k ∧ k < w.heap.size) ((w.setCell ⟨gb, 1, none⟩ (.bool true)).setCell ⟨g, 5, none⟩ (.int .i64 (x.received + 1))) w2 pb := fun hk => hk.elim (fun h => pS h.1) (fun h => by have := h.1; simp [World.setCell] at this; omega)
 have e2 : Frm (fun k => k = gb) w2 w2 := Frm.refl _ _
 have y2 := (((e2.setCell (p := ⟨gb, 4, none⟩) (fun _ => rfl) (.int .i64 mg)).setCell (p := ⟨gb, 5, none⟩) (fun _ => rfl) (.int .i64 mc)).setCell (p := ⟨gb, 6, none⟩) (fun _ => rfl) (.int .i64 mv)).setCell (p := ⟨gb, 2, none⟩) (fun _ => rfl) (.bool true)
 have h6 := h5.bound.move (fun k hk => y2.block k hk.2 (fun e => by subst e; exact hT hk.1))
 have g3 := blk_far (blk_set (blk_set (blk_set (blk_set g2 4 (.int .i64 mg)) 5 (.int .i64 mc)) 6 (.int .i64 mv)) 2 (.bool true)) (p := ⟨g, 4, none⟩) gg' (.int .i64 (x.sent + 1))
 have q3 := blk_far (y2.blk q2 ne) (p := ⟨g, 4, none⟩) gp' (.int .i64 (x.sent + 1))
 have h6a := h6.sent_ (x.sent + 1)
 go_wp2_with fail
 refine (recv2_woke (y := ⟨true, true, true, 0, ⟨mg, mc, mv⟩⟩) ⟨_, _, _, _, _, _, h6a⟩ HB.out hz q3 g3 (fun h => hTp h.1) (fun h => hT h.1) rfl mv).mono ?_
 rintro e w4 ⟨rfl, h7, f7⟩
 have g4 := f7.blk g3 (fun h => hT h.1)
 dsimp [Array.setIfInBounds] at g4
 obtain ⟨t0, t1, t2, t3, t4, t5, t6, tf⟩ := box7 g4
 go_wp2_with fail
 go_end0
 have e4 : Frm (fun k => k = gb) w4 w4 := Frm.refl _ _
 have y4 := e4.setCell (p := ⟨gb, 3, none⟩) (fun _ => rfl) (.int .i64 a)
 have hT4 : ¬ New (fun k => New (fun k => S k ∧ k < w.heap.size) ((w.setCell ⟨gb, 1, none⟩ (.bool true)).setCell ⟨g, 5, none⟩ (.int .i64 (x.received + 1))) w2 k ∧ k < w2.heap.size) (((((w2.setCell ⟨gb, 4, none⟩ (.int .i64 mg)).setCell ⟨gb, 5, none⟩ (.int .i64 mc)).setCell ⟨gb, 6, none⟩ (.int .i64 mv)).setCell ⟨gb, 2, none⟩ (.bool true)).setCell ⟨g, 4, none⟩ (.int .i64 (x.sent + 1))) w4 gb := fun hk => hk.elim (fun h => hT h.1) (fun h => by have := h.1; have := f4.size; simp [World.setCell] at *; omega)
 have h8 := h7.bound.move (fun k hk => y4.block k hk.2 (fun e => by subst e; exact hT4 hk.1))
 have g5 := blk_set g4 3 (.int .i64 a)
 have w1s := f4.size
 have w3s := f7.size
 simp [World.setCell] at w1s w3s
 have z1 : Frm (fun k => S k ∨ k = gb) w _ := (((Frm.refl _ _).setCell (p := ⟨gb, 1, none⟩) (fun _ => .inr rfl) (.bool true)).setCell (p := ⟨g, 5, none⟩) (fun _ => .inl h0.own.1) (.int .i64 (x.received + 1))).trans f4 (fun k _ hq => .inl (h0.subP k hq).1.1)
 have z2 := (((z1.trans y2 (fun k _ e => .inr e)).setCell (p := ⟨g, 4, none⟩) (fun _ => .inl h0.own.1) (.int .i64 (x.sent + 1))).trans f7 (fun k hk hq => hq.1.elim (fun h => .inl h.1) (fun h => by have := h.1; simp [World.setCell] at this; omega))).trans y4 (fun k _ e => .inr e)
 refine ⟨rfl, h8.mono (fun k hk => ?_), g5, z2⟩
 have hk2 := hk.2
 rcases hk.1 with hk | hk
 ·rcases hk.1 with h | h
  ·exact .inl h.1
  ·refine .inr ⟨?_, ?_⟩
   ·have := h.1; simp [World.setCell] at this; exact this
   ·have := h.2; simp [World.setCell]; omega
 ·refine .inr ⟨?_, ?_⟩
  ·have := hk.1; simp [World.setCell] at this; omega
  ·have := hk.2; simp [World.setCell]; omega
set_option maxRecDepth 100000 in
set_option maxHeartbeats 400000 in
theorem recv1_direct {m : Wtr} {l : List Wtr} (h : PipeAt w S g x) (hs : x.senders = m :: l) (hl : l.length < 1000000) (hn : Cnt x) (hp : w.heap[pb]? = some (.cells #[.pointer (some ⟨g, 0, none⟩)] 133 (0, 0)))
  (hg : w.heap[gb]? = some (.cells #[.bool true, .bool false, .bool false, .int .i64 0, .int .i64 0, .int .i64 0, .int .i64 0] 171 (0, 0))) (pS : ¬ S pb) (gS : ¬ S gb) (ne : pb ≠ gb) :
  Calls Tryz.prog 146 #[.func (.func 149) #[] #[], .pointer (some ⟨gb, 0, none⟩), .pointer (some ⟨pb, 0, none⟩)] w
   fun e w' => e = .returned (.tuple #[]) ∧ PipeAt w' (New S w w') g { x with senders := l, sent := x.sent + 1, received := x.received + 1 } ∧
    w'.heap[gb]? = some (.cells #[.bool true, .bool true, .bool true, .int .i64 m.value, .int .i64 m.g, .int .i64 m.case_, .int .i64 m.value] 171 (0, 0)) ∧ Frm (fun k => S k ∨ k = gb) w w' := by
 obtain ⟨b1, b2, b3, b4⟩ := hn
 obtain ⟨mg, mc, mv⟩ := m
 dsimp only
 obtain ⟨rgb, sp, rp, R, P, Q, h0⟩ := h.bound
 obtain ⟨c0, c1, c2, c3, c4, c5, cf⟩ := pipe_cells h0.row
 obtain ⟨p0, pf⟩ := box1 hp
 obtain ⟨r0, r1, r2, r3, r4, r5, r6, rf⟩ := box7 hg
 have gg : g ≠ gb := fun e => gS (by rw [← e]; exact h0.own.1)
 have gg' : gb ≠ g := fun e => gg e.symm
 have gp : g ≠ pb := fun e => pS (by rw [← e]; exact h0.own.1)
 have gp' : pb ≠ g := fun e => gp e.symm
 have ne' : gb ≠ pb := fun e => ne e.symm
 have l0 := lt_of_block h0.row
 have l1 := lt_of_block hp
 have l2 := lt_of_block hg
 have HX := Lib.hid hs
 clear hs
 go_enter Tryz.func146, Tryz.ntmps146
 go_wp2_with fail
 have e0 : Frm (fun k => k = gb) w w := Frm.refl _ _
 have y0 := e0.setCell (p := ⟨gb, 1, none⟩) (fun _ => rfl) (.bool true)
 have h1 := h0.move (fun k hk => y0.block k hk.2 (fun e => gS (by rw [← e]; exact hk.1)))
 have h2 := h1.received_ (x.received + 1)
 have h3 := h2.snd
 dsimp only at h3
 rw [HX.out] at h3
 refine (pew_take h3 hl).mono ?_
 rintro e w2 ⟨rfl, h4, f4⟩
 have h5 := h2.snd_ h4 f4
 have g1 := blk_far (blk_set hg 1 (.bool true)) (p := ⟨g, 5, none⟩) gg' (.int .i64 (x.received + 1))
 have g2 := f4.blk g1 (fun hq => gS (h0.subP gb hq).1.1)
 have q2 := f4.blk (blk_far (blk_far hp (p := ⟨gb, 1, none⟩) ne (.bool true)) (p := ⟨g, 5, none⟩) gp' (.int .i64 (x.received + 1))) (fun hq => pS (h0.subP pb hq).1.1)
 dsimp [Array.setIfInBounds] at g2
 obtain ⟨s0, s1, s2, s3, s4, s5, s6, sf⟩ := box7 g2
 obtain ⟨u0, uf⟩ := box1 q2
 obtain ⟨d0, d1, d2, d3, d4, d5, df⟩ := pipe_cells h5.row
 unfold Wtr.agg
 dsimp only at d3 d4 d5 ⊢
 have hT : ¬ New (fun k => S k ∧ k < w.heap.size) ((w.setCell ⟨gb, 1, none⟩ (.bool true)).setCell ⟨g, 5, none⟩ (.int .i64 (x.received + 1))) w2 gb := fun hk => hk.elim (fun h => gS h.1) (fun h => by have := h.1; simp [World.setCell] at this; omega)
 have hTp : ¬ New (fun k => S k ∧ k < w.heap.size) ((w.setCell ⟨gb, 1, none⟩ (.bool true)).setCell ⟨g, 5, none⟩ (.int .i64 (x.received + 1))) w2 pb := fun hk => hk.elim (fun h => pS h.1) (fun h => by have := h.1; simp [World.setCell] at this; omega)
 have e2 : Frm (fun k => k = gb) w2 w2 := Frm.refl _ _
 have y2 := (((e2.setCell (p := ⟨gb, 4, none⟩) (fun _ => rfl) (.int .i64 mg)).setCell (p := ⟨gb, 5, none⟩) (fun _ => rfl) (.int .i64 mc)).setCell (p := ⟨gb, 6, none⟩) (fun _ => rfl) (.int .i64 mv)).setCell (p := ⟨gb, 2, none⟩) (fun _ => rfl) (.bool true)
 have h6 := h5.bound.move (fun k hk => y2.block k hk.2 (fun e => by subst e; exact hT hk.1))
 have g3 := blk_far (blk_set (blk_set (blk_set (blk_set g2 4 (.int .i64 mg)) 5 (.int .i64 mc)) 6 (.int .i64 mv)) 2 (.bool true)) (p := ⟨g, 4, none⟩) gg' (.int .i64 (x.sent + 1))
 have q3 := blk_far (y2.blk q2 ne) (p := ⟨g, 4, none⟩) gp' (.int .i64 (x.sent + 1))
 have h6a := h6.sent_ (x.sent + 1)
 go_wp2_with fail
 refine (recv3 mv _).mono ?_
 rintro e w4 ⟨rfl, rfl⟩
 have g4 := g3
 dsimp [Array.setIfInBounds] at g4
 go_wp2_with fail
 go_end0
 have y6 := (e2.setCell (p := ⟨gb, 4, none⟩) (fun _ => rfl) (.int .i64 mg))
 have h7 : PipeAt _ _ g { x with senders := l, sent := x.sent + 1, received := x.received + 1 } := ⟨_, _, _, _, _, _, h6a⟩
 obtain ⟨w5, hw5⟩ : ∃ w5, (((((w2.setCell ⟨gb, 4, none⟩ (.int .i64 mg)).setCell ⟨gb, 5, none⟩ (.int .i64 mc)).setCell ⟨gb, 6, none⟩ (.int .i64 mv)).setCell ⟨gb, 2, none⟩ (.bool true)).setCell ⟨g, 4, none⟩ (.int .i64 (x.sent + 1))) = w5 := ⟨_, rfl⟩
 have s5 : w2.heap.size = w5.heap.size := by rw [← hw5]; simp [World.setCell]
 have w1s := f4.size
 simp [World.setCell] at w1s
 have z1 : Frm (fun k => S k ∨ k = gb) w _ := (((Frm.refl _ _).setCell (p := ⟨gb, 1, none⟩) (fun _ => .inr rfl) (.bool true)).setCell (p := ⟨g, 5, none⟩) (fun _ => .inl h0.own.1) (.int .i64 (x.received + 1))).trans f4 (fun k _ hq => .inl (h0.subP k hq).1.1)
 have z2 := (z1.trans y2 (fun k _ e => .inr e)).setCell (p := ⟨g, 4, none⟩) (fun _ => .inl h0.own.1) (.int .i64 (x.sent + 1))
 rw [hw5] at g4 h7 z2 ⊢
 have e4 : Frm (fun k => k = gb) w5 w5 := Frm.refl _ _
 have y4 := e4.setCell (p := ⟨gb, 3, none⟩) (fun _ => rfl) (.int .i64 mv)
 have h8 := h7.bound.move (fun k hk => y4.block k hk.2 (fun e => by subst e; exact hT hk.1.1))
 have g5 := blk_set g4 3 (.int .i64 mv)
 have z3 := z2.trans y4 (fun k _ e => .inr e)
 refine ⟨rfl, h8.mono (fun k hk => ?_), g5, z3⟩
 have hk2 := hk.2
 rcases hk.1.1 with h | h
 ·exact .inl h.1
 ·refine .inr ⟨?_, ?_⟩
  ·have := h.1; simp [World.setCell] at this; exact this
  ·have := h.2; simp [World.setCell]; omega
end
end Go.Proofs.YtcgajljbahbhdaaGreat
namespace Go.Proofs.YtcgajljbahbhdaaGreat
set_option linter.unusedVariables false
set_option linter.unusedSimpArgs false
open Go.RowKit
/-- A pipe as a piece. -/
def PipeP (g : Nat) (x : PipeM) : Piece := ofAt (fun w S => PipeAt w S g x) PipeAt.move PipeAt.mono
theorem PipePost.sl {w : World} {S : Nat → Prop} {g : Nat} {x : PipeM} {F : List Piece} {r : Value} {y : PipeM} {P : Program} {n : Nat} {args : Array Value}
  (h : ∀ S, PipeAt w S g x → Calls P n args w (PipePost S g w r y)) (H : SL w (PipeP g x :: F)) : Calls P n args w fun e w' => e = .returned r ∧ SL w' (PipeP g y :: F) := by
 obtain ⟨S, h1, _, h2⟩ := H.call
 refine (h S h1).mono ?_
 rintro e w' ⟨rfl, h3, h4⟩
 exact ⟨rfl, h2 w' [PipeP g y] h4 ⟨_, fun _ h => h, h3, trivial⟩⟩
theorem sl_recv1 {w : World} {g pb gb : Nat} {x y : PipeM} {cs cs' : Array Value} {t t' : Nat} {cp : Array Value} {F : List Piece} {P : Program} {n : Nat} {args : Array Value}
  (h : ∀ S : Nat → Prop, PipeAt w S g x → w.heap[pb]? = some (.cells cp t' (0, 0)) → w.heap[gb]? = some (.cells cs t (0, 0)) → ¬ S pb → ¬ S gb → pb ≠ gb → Calls P n args w
   fun e w' => e = .returned (.tuple #[]) ∧ PipeAt w' (New S w w') g y ∧ w'.heap[gb]? = some (.cells cs' t (0, 0)) ∧ Frm (fun k => S k ∨ k = gb) w w')
  (H : SL w (PipeP g x :: row pb cp t' :: row gb cs t :: F)) : Calls P n args w fun e w' => e = .returned (.tuple #[]) ∧ SL w' (PipeP g y :: row pb cp t' :: row gb cs' t :: F) := by
 have H' : SL w (all [PipeP g x, row pb cp t', row gb cs t] :: F) := SL.all.2 H
 obtain ⟨S, ⟨T, t1, t2, U, u1, u2, V, v1, v2, _⟩, hS, hG⟩ := H'.call
 have np : ¬ T pb := (u1 pb u2.1).2
 have ng : ¬ T gb := (v1 gb v2.1).1.2
 have npg : ¬ U gb := (v1 gb v2.1).2
 have npg' : pb ≠ gb := fun e => npg (by rw [← e]; exact u2.1)
 refine (h T t2 u2.2 v2.2 np ng npg').mono ?_
 rintro e w' ⟨rfl, h3, h4, h5⟩
 refine ⟨rfl, hG w' [PipeP g y, row pb cp t', row gb cs' t] (h5.mono (fun k _ hk => hk.elim (t1 k) (fun e => by rw [e]; exact (v1 gb v2.1).1.1))) ?_⟩
 have hpl := hS pb (u1 pb u2.1).1
 have hgl := hS gb (v1 gb v2.1).1.1
 refine ⟨New T w w', fun k hk => hk.imp (t1 k) id, h3, fun k => k = pb, fun k hk => ?_, ⟨rfl, h5.blk u2.2 (fun h => h.elim np npg')⟩, fun k => k = gb, fun k hk => ?_, ⟨rfl, h4⟩, trivial⟩
 ·subst hk
  exact ⟨.inl (u1 k u2.1).1, fun h => h.elim np (fun h => by omega)⟩
 ·subst hk
  exact ⟨⟨.inl (v1 k v2.1).1.1, fun h => h.elim ng (fun h => by omega)⟩, fun h => npg' h.symm⟩
def recvF (x : PipeM) : GotM × PipeM :=
 match x.buf, x.senders with
 | a :: L, m :: l => (⟨true, true, true, a, m⟩, { x with buf := L ++ [m.value], senders := l, sent := x.sent + 1, received := x.received + 1 })
 | a :: L, [] => (⟨true, true, false, a, wzero⟩, { x with buf := L, received := x.received + 1 })
 | [], m :: l => (⟨true, true, true, m.value, m⟩, { x with senders := l, sent := x.sent + 1, received := x.received + 1 })
 | [], [] => if x.closed then ({ gzero with ready := true }, x) else (gzero, x)
/-- What a method gives back, and the pipe behind it. -/
def Does (g : Nat) (F : List Piece) (r : Value) (y : PipeM) : Ending → World → Prop := fun e w' => e = .returned r ∧ SL w' (PipeP g y :: F)
section
variable {w : World} {F : List Piece} {g : Nat} {x : PipeM}
theorem sl_ready (s : Bool) (H : SL w (PipeP g x :: F)) : Calls Tryz.prog 85 #[.pointer (some ⟨g, 0, none⟩), .bool s] w fun e w' => e = .returned (.bool (readyF x s)) ∧ SL w' (PipeP g x :: F) := by
 obtain ⟨S, _, h⟩ := H.on
 exact (pipe_ready h s).mono (fun e w' q => ⟨q.1, H.later q.2⟩)
set_option maxRecDepth 100000 in
set_option maxHeartbeats 400000 in
theorem recv_no (hr : readyF x false = false) (H : SL w (PipeP g x :: F)) : Calls Tryz.prog 134 #[.pointer (some ⟨g, 0, none⟩)] w (Does g F gzero.agg x) := by
 unfold gzero GotM.agg wzero Does
 dsimp only
 go_enter Tryz.func134, Tryz.ntmps134
 go_wp2_with fail
 have H1 := (H.alloc (.cells #[.pointer (some ⟨g, 0, none⟩)] 133)).alloc (.cells #[.bool false, .bool false, .bool false, .int .i64 0, .int .i64 0, .int .i64 0, .int .i64 0] 171)
 rw [size_alloc] at H1
 obtain ⟨pb, hpb⟩ : ∃ b, w.heap.size = b := ⟨_, rfl⟩
 obtain ⟨r, hrb⟩ : ∃ b, pb + 1 = b := ⟨_, rfl⟩
 rw [hpb, hrb] at H1 ⊢
 clear hpb hrb
 refine (sl_ready false H1.up2).mono ?_
 rw [hr]
 clear hr
 rintro e w1 ⟨rfl, H2⟩
 obtain ⟨r0, r1, r2, r3, r4, r5, r6, rf⟩ := box7 H2.at1
 have rl := lt_of_block H2.at1
 go_wp2_with fail
 refine bodyPost_ret (v := .agg #[.bool false, .bool false, .bool false, .int .i64 0, .int .i64 0, .int .i64 0, .int .i64 0]) (by simp [results, Tryz.results134, go_sem, r0, r1, r2, r3, r4, r5, r6, rl]) rfl ⟨rfl, (?_ : SL _ (any r :: PipeP g x :: F)).tl⟩
 repeat (first | with_reducible refine SL.scr ?_ _ _ | with_reducible refine SL.allocd ?_ _ | with_reducible exact H2.up1.toAny.drop2)
theorem sl_len (H : SL w (PipeP g x :: F)) : Calls Tryz.prog 113 #[.pointer (some ⟨g, 0, none⟩)] w fun e w' => e = .returned (.int .i64 x.buf.length) ∧ w = w' := by
 obtain ⟨S, _, h⟩ := H.on
 exact pipe_len h
set_option maxRecDepth 100000 in
set_option maxHeartbeats 400000 in
theorem recv_closed (hc : x.closed = true) (hb : x.buf = []) (hs : x.senders = []) (H : SL w (PipeP g x :: F)) : Calls Tryz.prog 134 #[.pointer (some ⟨g, 0, none⟩)] w (Does g F ({ gzero with ready := true } : GotM).agg x) := by
 unfold Does
 have hr : readyF x false = true := by unfold readyF; simp [hc]
 unfold gzero GotM.agg wzero
 dsimp only
 clear hc
 have HX := Lib.hid (⟨hb, hs⟩ : _ ∧ _)
 have hbl : x.buf.length = _ := congrArg List.length hb
 clear hb hs
 go_enter Tryz.func134, Tryz.ntmps134
 go_wp2_with fail
 have H1 := (H.alloc (.cells #[.pointer (some ⟨g, 0, none⟩)] 133)).alloc (.cells #[.bool false, .bool false, .bool false, .int .i64 0, .int .i64 0, .int .i64 0, .int .i64 0] 171)
 rw [size_alloc] at H1
 obtain ⟨pb, hpb⟩ : ∃ b, w.heap.size = b := ⟨_, rfl⟩
 obtain ⟨r, hrb⟩ : ∃ b, pb + 1 = b := ⟨_, rfl⟩
 rw [hpb, hrb] at H1 ⊢
 clear hpb hrb
 refine (sl_ready false H1.up2).mono ?_
 rw [hr]
 clear hr
 rintro e w1 ⟨rfl, H2⟩
 obtain ⟨r0, r1, r2, r3, r4, r5, r6, rf⟩ := box7 H2.at1
 obtain ⟨p0, pf⟩ := box1 H2.at2
 have rl := lt_of_block H2.at1
 have pl := lt_of_block H2.at2
 obtain ⟨n1, n2⟩ := H2.ne 1 2 (by decide) rfl rfl
 go_wp2_with fail
 have H3 := (H2.alloc (.cells #[.bool true, .bool false, .bool false, .int .i64 0, .int .i64 0, .int .i64 0, .int .i64 0] 171)).up1
 obtain ⟨gb, hgb⟩ : ∃ b, w1.heap.size = b := ⟨_, rfl⟩
 obtain ⟨w2, hw2⟩ : ∃ w2, w1.alloc (.cells #[.bool true, .bool false, .bool false, .int .i64 0, .int .i64 0, .int .i64 0, .int .i64 0] 171) = w2 := ⟨_, rfl⟩
 rw [hw2, hgb] at H3
 rw [hw2, hgb]
 clear hw2 hgb r0 r1 r2 r3 r4 r5 r6 rf p0 pf rl pl n1 n2
 obtain ⟨g0, g1, g2, g3, g4, g5, g6, gf⟩ := box7 H3.at1
 obtain ⟨r0, r1, r2, r3, r4, r5, r6, rf⟩ := box7 H3.at2
 obtain ⟨p0, pf⟩ := box1 H3.at3
 have gl := lt_of_block H3.at1
 have rl := lt_of_block H3.at2
 have pl := lt_of_block H3.at3
 obtain ⟨n1, n2⟩ := H3.ne 1 2 (by decide) rfl rfl
 obtain ⟨n3, n4⟩ := H3.ne 1 3 (by decide) rfl rfl
 obtain ⟨n5, n6⟩ := H3.ne 2 3 (by decide) rfl rfl
 have K1 := sl_len H3
 rw [hbl] at K1
 clear hbl
 simp only [List.length_nil, List.length_cons] at K1
 refine K1.mono ?_
 rintro e w' ⟨rfl, rfl⟩
 clear K1
 obtain ⟨S, hS, rgb, sp, rp, R, P, Q, hq⟩ := H3.on
 obtain ⟨c0, c1, c2, c3, c4, c5, cf⟩ := pipe_cells hq.row
 have cl := lt_of_block hq.row
 go_wp2_with fail
 have K2 := pew_len hq.snd
 rw [HX.out.2] at K2
 simp only [List.length_nil, List.length_cons] at K2
 refine K2.mono ?_
 rintro e w' ⟨rfl, rfl⟩
 clear K2
 go_wp2_with fail
 refine bodyPost_ret (v := .agg #[.bool true, .bool false, .bool false, .int .i64 0, .int .i64 0, .int .i64 0, .int .i64 0]) (by simp [results, Tryz.results134, go_sem, r0, r1, r2, r3, r4, r5, r6, rl]) rfl ⟨rfl, (?_ : SL _ (any r :: PipeP g _ :: F)).tl⟩
 repeat (first | with_reducible refine SL.scr ?_ _ _ | with_reducible refine SL.allocd ?_ _ | with_reducible exact H3.up2.toAny.drop3.drop2)
set_option maxRecDepth 100000 in
set_option maxHeartbeats 400000 in
theorem recv_none {a : Int} {L : List Int} (hb : x.buf = a :: L) (hs : x.senders = []) (hn : Cnt x) (H : SL w (PipeP g x :: F)) : Calls Tryz.prog 134 #[.pointer (some ⟨g, 0, none⟩)] w (Does g F (⟨true, true, false, a, wzero⟩ : GotM).agg { x with buf := L, received := x.received + 1 }) := by
 unfold Does
 have hr : readyF x false = true := by unfold readyF; simp [hb]
 unfold GotM.agg wzero
 dsimp only
 have HX := Lib.hid (⟨hb, hs⟩ : _ ∧ _)
 have hbl : x.buf.length = _ := congrArg List.length hb
 clear hb hs
 go_enter Tryz.func134, Tryz.ntmps134
 go_wp2_with fail
 have H1 := (H.alloc (.cells #[.pointer (some ⟨g, 0, none⟩)] 133)).alloc (.cells #[.bool false, .bool false, .bool false, .int .i64 0, .int .i64 0, .int .i64 0, .int .i64 0] 171)
 rw [size_alloc] at H1
 obtain ⟨pb, hpb⟩ : ∃ b, w.heap.size = b := ⟨_, rfl⟩
 obtain ⟨r, hrb⟩ : ∃ b, pb + 1 = b := ⟨_, rfl⟩
 rw [hpb, hrb] at H1 ⊢
 clear hpb hrb
 refine (sl_ready false H1.up2).mono ?_
 rw [hr]
 clear hr
 rintro e w1 ⟨rfl, H2⟩
 obtain ⟨r0, r1, r2, r3, r4, r5, r6, rf⟩ := box7 H2.at1
 obtain ⟨p0, pf⟩ := box1 H2.at2
 have rl := lt_of_block H2.at1
 have pl := lt_of_block H2.at2
 obtain ⟨n1, n2⟩ := H2.ne 1 2 (by decide) rfl rfl
 go_wp2_with fail
 have H3 := (H2.alloc (.cells #[.bool true, .bool false, .bool false, .int .i64 0, .int .i64 0, .int .i64 0, .int .i64 0] 171)).up1
 obtain ⟨gb, hgb⟩ : ∃ b, w1.heap.size = b := ⟨_, rfl⟩
 obtain ⟨w2, hw2⟩ : ∃ w2, w1.alloc (.cells #[.bool true, .bool false, .bool false, .int .i64 0, .int .i64 0, .int .i64 0, .int .i64 0] 171) = w2 := ⟨_, rfl⟩
 rw [hw2, hgb] at H3
 rw [hw2, hgb]
 clear hw2 hgb r0 r1 r2 r3 r4 r5 r6 rf p0 pf rl pl n1 n2
 obtain ⟨g0, g1, g2, g3, g4, g5, g6, gf⟩ := box7 H3.at1
 obtain ⟨r0, r1, r2, r3, r4, r5, r6, rf⟩ := box7 H3.at2
 obtain ⟨p0, pf⟩ := box1 H3.at3
 have gl := lt_of_block H3.at1
 have rl := lt_of_block H3.at2
 have pl := lt_of_block H3.at3
 obtain ⟨n1, n2⟩ := H3.ne 1 2 (by decide) rfl rfl
 obtain ⟨n3, n4⟩ := H3.ne 1 3 (by decide) rfl rfl
 obtain ⟨n5, n6⟩ := H3.ne 2 3 (by decide) rfl rfl
 have K1 := sl_len H3
 rw [hbl] at K1
 clear hbl
 simp only [List.length_nil, List.length_cons] at K1
 refine K1.mono ?_
 rintro e w' ⟨rfl, rfl⟩
 clear K1
 go_wp2_with fail
 have H3' : SL w2 (PipeP g x :: row pb _ _ :: row gb _ _ :: row r _ _ :: F) := H3.up3.dn1
 refine (sl_recv1 (fun S h hp hg pS gS ne => recv1_none h HX.out.1 HX.out.2 hn hp hg pS gS ne) H3').mono ?_
 rintro e w3 ⟨rfl, H4⟩
 clear g0 g1 g2 g3 g4 g5 g6 gf r0 r1 r2 r3 r4 r5 r6 rf p0 pf gl rl pl
 obtain ⟨g0, g1, g2, g3, g4, g5, g6, gf⟩ := box7 H4.at2
 obtain ⟨r0, r1, r2, r3, r4, r5, r6, rf⟩ := box7 H4.at3
 have gl := lt_of_block H4.at2
 have rl := lt_of_block H4.at3
 go_wp2_with fail
 refine bodyPost_ret (v := .agg #[.bool true, .bool true, .bool false, .int .i64 a, .int .i64 0, .int .i64 0, .int .i64 0]) (by simp [results, Tryz.results134, go_sem, r0, r1, r2, r3, r4, r5, r6, rl]) rfl ⟨rfl, (?_ : SL _ (any r :: PipeP g _ :: F)).tl⟩
 repeat (first | with_reducible refine SL.scr ?_ _ _ | with_reducible refine SL.allocd ?_ _ | with_reducible exact H4.up3.toAny.drop3.drop2)
set_option maxRecDepth 100000 in
set_option maxHeartbeats 400000 in
theorem recv_woke {a : Int} {L : List Int} {m : Wtr} {l : List Wtr} (hb : x.buf = a :: L) (hs : x.senders = m :: l) (hl : l.length < 1000000) (hz : L.length < x.size) (hn : Cnt x) (H : SL w (PipeP g x :: F)) : Calls Tryz.prog 134 #[.pointer (some ⟨g, 0, none⟩)] w (Does g F (⟨true, true, true, a, m⟩ : GotM).agg { x with buf := L ++ [m.value], senders := l, sent := x.sent + 1, received := x.received + 1 }) := by
 unfold Does
 have hr : readyF x false = true := by unfold readyF; simp [hb]
 obtain ⟨mg, mc, mv⟩ := m
 unfold GotM.agg
 dsimp only
 have HX := Lib.hid (⟨hb, hs⟩ : _ ∧ _)
 have hbl : x.buf.length = _ := congrArg List.length hb
 clear hb hs
 go_enter Tryz.func134, Tryz.ntmps134
 go_wp2_with fail
 have H1 := (H.alloc (.cells #[.pointer (some ⟨g, 0, none⟩)] 133)).alloc (.cells #[.bool false, .bool false, .bool false, .int .i64 0, .int .i64 0, .int .i64 0, .int .i64 0] 171)
 rw [size_alloc] at H1
 obtain ⟨pb, hpb⟩ : ∃ b, w.heap.size = b := ⟨_, rfl⟩
 obtain ⟨r, hrb⟩ : ∃ b, pb + 1 = b := ⟨_, rfl⟩
 rw [hpb, hrb] at H1 ⊢
 clear hpb hrb
 refine (sl_ready false H1.up2).mono ?_
 rw [hr]
 clear hr
 rintro e w1 ⟨rfl, H2⟩
 obtain ⟨r0, r1, r2, r3, r4, r5, r6, rf⟩ := box7 H2.at1
 obtain ⟨p0, pf⟩ := box1 H2.at2
 have rl := lt_of_block H2.at1
 have pl := lt_of_block H2.at2
 obtain ⟨n1, n2⟩ := H2.ne 1 2 (by decide) rfl rfl
 go_wp2_with fail
 have H3 := (H2.alloc (.cells #[.bool true, .bool false, .bool false, .int .i64 0, .int .i64 0, .int .i64 0, .int .i64 0] 171)).up1
 obtain ⟨gb, hgb⟩ : ∃ b, w1.heap.size = b := ⟨_, rfl⟩
 obtain ⟨w2, hw2⟩ : ∃ w2, w1.alloc (.cells #[.bool true, .bool false, .bool false, .int .i64 0, .int .i64 0, .int .i64 0, .int .i64 0] 171) = w2 := ⟨_, rfl⟩
 rw [hw2, hgb] at H3
 rw [hw2, hgb]
 clear hw2 hgb r0 r1 r2 r3 r4 r5 r6 rf p0 pf rl pl n1 n2
 obtain ⟨g0, g1, g2, g3, g4, g5, g6, gf⟩ := box7 H3.at1
 obtain ⟨r0, r1, r2, r3, r4, r5, r6, rf⟩ := box7 H3.at2
 obtain ⟨p0, pf⟩ := box1 H3.at3
 have gl := lt_of_block H3.at1
 have rl := lt_of_block H3.at2
 have pl := lt_of_block H3.at3
 obtain ⟨n1, n2⟩ := H3.ne 1 2 (by decide) rfl rfl
 obtain ⟨n3, n4⟩ := H3.ne 1 3 (by decide) rfl rfl
 obtain ⟨n5, n6⟩ := H3.ne 2 3 (by decide) rfl rfl
 have K1 := sl_len H3
 rw [hbl] at K1
 clear hbl
 simp only [List.length_nil, List.length_cons] at K1
 refine K1.mono ?_
 rintro e w' ⟨rfl, rfl⟩
 clear K1
 go_wp2_with fail
 have H3' : SL w2 (PipeP g x :: row pb _ _ :: row gb _ _ :: row r _ _ :: F) := H3.up3.dn1
 refine (sl_recv1 (fun S h hp hg pS gS ne => recv1_woke h HX.out.1 HX.out.2 hl hz hn hp hg pS gS ne) H3').mono ?_
 rintro e w3 ⟨rfl, H4⟩
 clear g0 g1 g2 g3 g4 g5 g6 gf r0 r1 r2 r3 r4 r5 r6 rf p0 pf gl rl pl
 obtain ⟨g0, g1, g2, g3, g4, g5, g6, gf⟩ := box7 H4.at2
 obtain ⟨r0, r1, r2, r3, r4, r5, r6, rf⟩ := box7 H4.at3
 have gl := lt_of_block H4.at2
 have rl := lt_of_block H4.at3
 go_wp2_with fail
 refine bodyPost_ret (v := .agg #[.bool true, .bool true, .bool true, .int .i64 a, .int .i64 mg, .int .i64 mc, .int .i64 mv]) (by simp [results, Tryz.results134, go_sem, r0, r1, r2, r3, r4, r5, r6, rl]) rfl ⟨rfl, (?_ : SL _ (any r :: PipeP g _ :: F)).tl⟩
 repeat (first | with_reducible refine SL.scr ?_ _ _ | with_reducible refine SL.allocd ?_ _ | with_reducible exact H4.up3.toAny.drop3.drop2)
set_option maxRecDepth 100000 in
set_option maxHeartbeats 400000 in
theorem recv_direct {m : Wtr} {l : List Wtr} (hb : x.buf = []) (hs : x.senders = m :: l) (hl : l.length < 1000000) (hn : Cnt x) (H : SL w (PipeP g x :: F)) : Calls Tryz.prog 134 #[.pointer (some ⟨g, 0, none⟩)] w (Does g F (⟨true, true, true, m.value, m⟩ : GotM).agg { x with senders := l, sent := x.sent + 1, received := x.received + 1 }) := by
 unfold Does
 have hr : readyF x false = true := by unfold readyF; simp [hs]
 obtain ⟨mg, mc, mv⟩ := m
 unfold GotM.agg
 dsimp only
 have HX := Lib.hid (⟨hb, hs⟩ : _ ∧ _)
 have hbl : x.buf.length = _ := congrArg List.length hb
 clear hb hs
 go_enter Tryz.func134, Tryz.ntmps134
 go_wp2_with fail
 have H1 := (H.alloc (.cells #[.pointer (some ⟨g, 0, none⟩)] 133)).alloc (.cells #[.bool false, .bool false, .bool false, .int .i64 0, .int .i64 0, .int .i64 0, .int .i64 0] 171)
 rw [size_alloc] at H1
 obtain ⟨pb, hpb⟩ : ∃ b, w.heap.size = b := ⟨_, rfl⟩
 obtain ⟨r, hrb⟩ : ∃ b, pb + 1 = b := ⟨_, rfl⟩
 rw [hpb, hrb] at H1 ⊢
 clear hpb hrb
 refine (sl_ready false H1.up2).mono ?_
 rw [hr]
 clear hr
 rintro e w1 ⟨rfl, H2⟩
 obtain ⟨r0, r1, r2, r3, r4, r5, r6, rf⟩ := box7 H2.at1
 obtain ⟨p0, pf⟩ := box1 H2.at2
 have rl := lt_of_block H2.at1
 have pl := lt_of_block H2.at2
 obtain ⟨n1, n2⟩ := H2.ne 1 2 (by decide) rfl rfl
 go_wp2_with fail
 have H3 := (H2.alloc (.cells #[.bool true, .bool false, .bool false, .int .i64 0, .int .i64 0, .int .i64 0, .int .i64 0] 171)).up1
 obtain ⟨gb, hgb⟩ : ∃ b, w1.heap.size = b := ⟨_, rfl⟩
 obtain ⟨w2, hw2⟩ : ∃ w2, w1.alloc (.cells #[.bool true, .bool false, .bool false, .int .i64 0, .int .i64 0, .int .i64 0, .int .i64 0] 171) = w2 := ⟨_, rfl⟩
 rw [hw2, hgb] at H3
 rw [hw2, hgb]
 clear hw2 hgb r0 r1 r2 r3 r4 r5 r6 rf p0 pf rl pl n1 n2
 obtain ⟨g0, g1, g2, g3, g4, g5, g6, gf⟩ := box7 H3.at1
 obtain ⟨r0, r1, r2, r3, r4, r5, r6, rf⟩ := box7 H3.at2
 obtain ⟨p0, pf⟩ := box1 H3.at3
 have gl := lt_of_block H3.at1
 have rl := lt_of_block H3.at2
 have pl := lt_of_block H3.at3
 obtain ⟨n1, n2⟩ := H3.ne 1 2 (by decide) rfl rfl
 obtain ⟨n3, n4⟩ := H3.ne 1 3 (by decide) rfl rfl
 obtain ⟨n5, n6⟩ := H3.ne 2 3 (by decide) rfl rfl
 have K1 := sl_len H3
 rw [hbl] at K1
 clear hbl
 simp only [List.length_nil, List.length_cons] at K1
 refine K1.mono ?_
 rintro e w' ⟨rfl, rfl⟩
 clear K1
 obtain ⟨S, hS, rgb, sp, rp, R, P, Q, hq⟩ := H3.on
 obtain ⟨c0, c1, c2, c3, c4, c5, cf⟩ := pipe_cells hq.row
 have cl := lt_of_block hq.row
 go_wp2_with fail
 have K2 := pew_len hq.snd
 rw [HX.out.2] at K2
 simp only [List.length_nil, List.length_cons] at K2
 refine K2.mono ?_
 rintro e w' ⟨rfl, rfl⟩
 clear K2
 go_wp2_with fail
 have H3' : SL w2 (PipeP g x :: row pb _ _ :: row gb _ _ :: row r _ _ :: F) := H3.up3.dn1
 refine (sl_recv1 (fun S h hp hg pS gS ne => recv1_direct h HX.out.2 hl hn hp hg pS gS ne) H3').mono ?_
 rintro e w3 ⟨rfl, H4⟩
 clear g0 g1 g2 g3 g4 g5 g6 gf r0 r1 r2 r3 r4 r5 r6 rf p0 pf gl rl pl
 obtain ⟨g0, g1, g2, g3, g4, g5, g6, gf⟩ := box7 H4.at2
 obtain ⟨r0, r1, r2, r3, r4, r5, r6, rf⟩ := box7 H4.at3
 have gl := lt_of_block H4.at2
 have rl := lt_of_block H4.at3
 go_wp2_with fail
 refine bodyPost_ret (v := .agg #[.bool true, .bool true, .bool true, .int .i64 mv, .int .i64 mg, .int .i64 mc, .int .i64 mv]) (by simp [results, Tryz.results134, go_sem, r0, r1, r2, r3, r4, r5, r6, rl]) rfl ⟨rfl, (?_ : SL _ (any r :: PipeP g _ :: F)).tl⟩
 repeat (first | with_reducible refine SL.scr ?_ _ _ | with_reducible refine SL.allocd ?_ _ | with_reducible exact H4.up3.toAny.drop3.drop2)
theorem sl_recv (hl : x.senders.length ≤ 1000000) (hz : x.buf.length ≤ x.size) (hn : Cnt x) (H : SL w (PipeP g x :: F)) :
  Calls Tryz.prog 134 #[.pointer (some ⟨g, 0, none⟩)] w (Does g F (recvF x).1.agg (recvF x).2) := by
 rcases hb : x.buf with _ | ⟨a, L⟩
 ·rcases hs : x.senders with _ | ⟨m, l⟩
  ·by_cases hc : x.closed = true
   ·rw [show recvF x = ({ gzero with ready := true }, x) by unfold recvF; rw [hb, hs]; simp [hc]]
    exact recv_closed hc hb hs H
   ·rw [show recvF x = (gzero, x) by unfold recvF; rw [hb, hs]; simp [hc]]
    exact recv_no (by unfold readyF; simp [hc, hb, hs]) H
  ·rw [show recvF x = (⟨true, true, true, m.value, m⟩, { x with senders := l, sent := x.sent + 1, received := x.received + 1 }) by unfold recvF; rw [hb, hs]]
   exact recv_direct hb hs (by rw [hs] at hl; simp at hl; omega) hn H
 ·rcases hs : x.senders with _ | ⟨m, l⟩
  ·rw [show recvF x = (⟨true, true, false, a, wzero⟩, { x with buf := L, received := x.received + 1 }) by unfold recvF; rw [hb, hs]]
   exact recv_none hb hs hn H
  ·rw [show recvF x = (⟨true, true, true, a, m⟩, { x with buf := L ++ [m.value], senders := l, sent := x.sent + 1, received := x.received + 1 }) by unfold recvF; rw [hb, hs]]
   exact recv_woke hb hs (by rw [hs] at hl; simp at hl; omega) (by rw [hb] at hz; simp at hz; omega) hn H
end
set_option maxRecDepth 100000 in
set_option maxHeartbeats 400000 in
theorem pipe_recv_nil (w : World) : Calls Tryz.prog 134 #[.pointer none] w fun e w' => e = .returned gzero.agg ∧ Frm Nil w w' := by
 unfold gzero GotM.agg wzero
 dsimp only
 have H := SL.start w
 go_enter Tryz.func134, Tryz.ntmps134
 go_wp2_with fail
 have H1 := (H.alloc (.cells #[.pointer none] 133)).alloc (.cells #[.bool false, .bool false, .bool false, .int .i64 0, .int .i64 0, .int .i64 0, .int .i64 0] 171)
 rw [size_alloc] at H1
 obtain ⟨pb, hpb⟩ : ∃ b, w.heap.size = b := ⟨_, rfl⟩
 obtain ⟨r, hrb⟩ : ∃ b, pb + 1 = b := ⟨_, rfl⟩
 rw [hpb, hrb] at H1 ⊢
 clear hpb hrb
 refine (pipe_ready_nil false _).mono ?_
 rintro e w1 ⟨rfl, f1⟩
 have H2 := H1.later f1
 obtain ⟨r0, r1, r2, r3, r4, r5, r6, rf⟩ := box7 H2.at0
 have rl := lt_of_block H2.at0
 go_wp2_with fail
 refine bodyPost_ret (v := .agg #[.bool false, .bool false, .bool false, .int .i64 0, .int .i64 0, .int .i64 0, .int .i64 0]) (by simp [results, Tryz.results134, go_sem, r0, r1, r2, r3, r4, r5, r6, rl]) rfl ⟨rfl, SL.old (?_ : SL _ (any r :: Old w :: [])).tl⟩
 repeat (first | with_reducible refine SL.scr ?_ _ _ | with_reducible refine SL.allocd ?_ _ | with_reducible exact H2.toAny.drop1)
end Go.Proofs.YtcgajljbahbhdaaGreat
namespace Go.Proofs.YtcgajljbahbhdaaGreat
set_option linter.unusedVariables false
set_option linter.unusedSimpArgs false
open Go.RowKit
theorem wtr_at {w : World} {a : Option Addr} {n : Nat} {L : List Wtr} (h : Rd w 3 a n (L.flatMap Wtr.cells)) (k : Nat) (hk : k < L.length) : ∃ b off, a = some ⟨b, off, none⟩ ∧
  w.cell? ⟨b, off + k * 3, none⟩ = some (.int .i64 L[k].g) ∧ w.cell? ⟨b, off + k * 3 + 1, none⟩ = some (.int .i64 L[k].case_) ∧ w.cell? ⟨b, off + k * 3 + 2, none⟩ = some (.int .i64 L[k].value) := by
 have hl := h.1
 rw [flat_length Wtr.cells 3 (fun _ => rfl)] at hl
 obtain ⟨b, off, rfl, hc⟩ := h.2.2 (by omega)
 have key : ∀ j (hj : j < 3), ∀ u, (L[k].cells)[j]? = some u → w.cell? ⟨b, off + k * 3 + j, none⟩ = some u := fun j hj u hu => by
  rw [Nat.add_assoc]
  exact hc (k * 3 + j) u (by rw [flat_get Wtr.cells 3 (fun _ => rfl) L k j hj hk]; exact hu)
 exact ⟨b, off, rfl, key 0 (by omega) _ rfl, key 1 (by omega) _ rfl, key 2 (by omega) _ rfl⟩
theorem any_take {α : Type} (p : α → Bool) (L : List α) (k : Nat) (h : k < L.length) : (L.take (k + 1)).any p = ((L.take k).any p || p L[k]) := by
 rw [List.take_succ_eq_append_getElem h, List.any_append]
 simp
section
variable {w : World} {F : List Piece} {g : Nat} {x : PipeM}
theorem alone1 {b : Nat} {i : Int} (m : Wtr) (hb : w.heap[b]? = some (.cells #[.int .i64 i] 3 (0, 0))) : Calls Tryz.prog 151 #[m.agg, .pointer (some ⟨b, 0, none⟩)] w fun e w' => e = .returned (.bool (m.g == i)) ∧ Frm Nil w w' := by
 obtain ⟨c0, cf⟩ := box1 hb
 have bl := lt_of_block hb
 obtain ⟨mg, mc, mv⟩ := m
 unfold Wtr.agg
 dsimp only
 go_enter Tryz.func151, Tryz.ntmps151
 go_wp2_with fail
 try go_quiet (fail)
 go_wp2_with fail
 go_ret
 exact ⟨rfl, (by repeat (first | with_reducible exact Frm.refl _ _ | apply Frm.drewN | apply Frm.drew | apply Frm.alloc))⟩
theorem alone2 {b ob : Nat} {i : Int} (m : Wtr) (hb : w.heap[b]? = some (.cells #[.int .i64 i] 3 (0, 0))) (ho : w.heap[ob]? = some (.cells #[.func (.func 151) #[] #[.pointer (some ⟨b, 0, none⟩)]] 212 (0, 0))) :
  Calls Tryz.prog 153 #[m.agg, .pointer (some ⟨ob, 0, none⟩)] w fun e w' => e = .returned (.bool (!(m.g == i))) ∧ Frm Nil w w' := by
 obtain ⟨c0, cf⟩ := box1 ho
 have bl := lt_of_block ho
 have K := fun w' (f : Frm Nil w w') => alone1 m (f.blk hb id)
 have HK := Lib.hid K
 clear K
 obtain ⟨mg, mc, mv⟩ := m
 unfold Wtr.agg at HK ⊢
 dsimp only at HK ⊢
 go_enter Tryz.func153, Tryz.ntmps153
 go_wp2_with fail
 refine (HK.out _ ((Frm.refl _ _).alloc _)).mono ?_
 rintro e w1 ⟨rfl, f1⟩
 go_wp2_with fail
 go_ret
 exact ⟨rfl, ((Frm.refl Nil w).alloc _).then f1⟩
set_option maxHeartbeats 400000 in
theorem wtr_index {a : Option Addr} {n cap fn : Nat} {L : List Wtr} {cv : Value} (p : Wtr → Bool) (he : Enters Tryz.prog fn) (hn : n = L.length) (hr : Rd w 3 a n (L.flatMap Wtr.cells))
  (hf : ∀ m w', Frm Nil w w' → Calls Tryz.prog fn #[m.agg, cv] w' fun e w'' => e = .returned (.bool (p m)) ∧ Frm Nil w' w'') :
  Calls Tryz.prog 159 #[.slice a n cap, .func (.func fn) #[] #[cv]] w fun e w' => (∃ i : Int, e = .returned (.int .i64 i) ∧ (decide (0 ≤ i) = L.any p)) ∧ Frm Nil w w' := by
 subst hn
 have hm := hr.2.1
 unfold maxLen at hm
 have HF := Lib.hid hf
 clear hf
 unfold Enters at he
 go_enter Tryz.func159, Tryz.ntmps159
 go_wp2_with fail
 go_loopw [8] (fun i wr => ∃ k : Nat, k ≤ L.length ∧ i = .int .i64 k ∧ Frm Nil w wr ∧ Hid ((L.take k).any p = false)) (fun i _ => L.length - (intOf i).toNat)
 case atStart => exact ⟨0, Nat.zero_le _, rfl, Frm.refl _ _, Lib.hid rfl⟩
 case round =>
  obtain ⟨k, hk, rfl, hfr, hno⟩ := hrel
  by_cases hlt : k < L.length
  ·obtain ⟨b, off, rfl, d0, d1, d2⟩ := wtr_at (hr.nil hfr) k hlt
   have ht := any_take p L k hlt
   rw [hno.out] at ht
   obtain ⟨m, hm⟩ : ∃ m, L[k] = m := ⟨_, rfl⟩
   rw [hm] at ht d0 d1 d2
   have HM := Lib.hid hm
   have HT := Lib.hid ht
   clear hm ht
   have K := HF.out m wr hfr
   obtain ⟨pm, hpm⟩ : ∃ pm, p m = pm := ⟨_, rfl⟩
   rw [hpm] at K
   have HP := Lib.hid hpm
   clear hpm
   obtain ⟨mg, mc, mv⟩ := m
   unfold Wtr.agg at K
   dsimp only at K d0 d1 d2
   have HK := Lib.hid K
   clear K
   go_wp2_with fail
   refine HK.out.mono ?_
   rintro e w1 ⟨rfl, f1⟩
   cases pm
   ·go_wp2_with fail
    go_roundw
    case rel => exact ⟨k + 1, by omega, by go_num, hfr.then f1, Lib.hid (by rw [HT.out, HP.out]; rfl)⟩
    case measure => simp [intOf]; omega
   ·go_wp2_with fail
    go_ret
    refine ⟨⟨k, rfl, ?_⟩, hfr.then f1⟩
    have : L.any p = true := List.any_eq_true.2 ⟨L[k], List.getElem_mem hlt, by rw [HM.out]; exact HP.out⟩
    rw [this]
    simp
  ·have hkn : k = L.length := by omega
   have hno' := hno.out
   rw [hkn, List.take_length] at hno'
   have HN := Lib.hid hno'
   clear hno' hkn
   go_wp2_with fail
   go_ret
   exact ⟨⟨-1, rfl, by rw [HN.out]; rfl⟩, hfr⟩
set_option maxHeartbeats 400000 in
theorem wtr_contains {a : Option Addr} {n cap fn : Nat} {L : List Wtr} {cv : Value} (p : Wtr → Bool) (he : Enters Tryz.prog fn) (hn : n = L.length) (hr : Rd w 3 a n (L.flatMap Wtr.cells))
  (hf : ∀ m w', Frm Nil w w' → Calls Tryz.prog fn #[m.agg, cv] w' fun e w'' => e = .returned (.bool (p m)) ∧ Frm Nil w' w'') :
  Calls Tryz.prog 152 #[.slice a n cap, .func (.func fn) #[] #[cv]] w fun e w' => e = .returned (.bool (L.any p)) ∧ Frm Nil w w' := by
 subst hn
 have K := wtr_index (cap := cap) p he rfl hr hf
 have HK := Lib.hid K
 clear K hf he
 go_enter Tryz.func152, Tryz.ntmps152
 go_wp2_with fail
 refine HK.out.mono ?_
 rintro e w1 ⟨⟨i, rfl, hi⟩, f1⟩
 have HI := Lib.hid hi
 clear hi
 go_wp2_with fail
 go_ret
 exact ⟨ret_bool HI.out, f1⟩
def aloneF (x : PipeM) (s : Bool) (i : Int) : Bool := decide (0 < (if s then x.senders else x.receivers).length) && (!x.closed && (decide (x.size = 0) && !((if s then x.senders else x.receivers).any (fun m => !(m.g == i)))))
theorem sl_waiting (s : Bool) (hs : x.senders.length ≤ 100000) (hr : x.receivers.length ≤ 100000) (H : SL w (PipeP g x :: F)) : Calls Tryz.prog 139 #[.pointer (some ⟨g, 0, none⟩), .bool s] w (Wtrs w (if s then x.senders else x.receivers)) := by
 obtain ⟨S, _, h⟩ := H.on
 exact pipe_waiting h s hs hr
theorem sl_cap (H : SL w (PipeP g x :: F)) : Calls Tryz.prog 114 #[.pointer (some ⟨g, 0, none⟩)] w fun e w' => e = .returned (.int .i64 x.size) ∧ w = w' := by
 obtain ⟨S, _, h⟩ := H.on
 exact pipe_cap h
set_option maxRecDepth 100000 in
set_option maxHeartbeats 400000 in
theorem sl_alone (s : Bool) (i : Int) (hs : x.senders.length ≤ 100000) (hr : x.receivers.length ≤ 100000) (H : SL w (PipeP g x :: F)) :
  Calls Tryz.prog 138 #[.pointer (some ⟨g, 0, none⟩), .bool s, .int .i64 i] w fun e w' => e = .returned (.bool (aloneF x s i)) ∧ SL w' (PipeP g x :: F) := by
 unfold aloneF
 obtain ⟨cl, hcl⟩ : ∃ cl, x.closed = cl := ⟨_, rfl⟩
 obtain ⟨z, hz⟩ : ∃ z, x.size = z := ⟨_, rfl⟩
 obtain ⟨L, hL⟩ : ∃ L, (if s then x.senders else x.receivers) = L := ⟨_, rfl⟩
 rw [hcl, hz, hL]
 have HC := Lib.hid hcl
 have HZ := Lib.hid hz
 have HL := Lib.hid hL
 clear hcl hz hL
 go_enter Tryz.func138, Tryz.ntmps138
 go_wp2_with fail
 have H1 := (H.alloc (.cells #[.int .i64 i] 3)).alloc (.cells #[.func (.func 151) #[] #[.pointer (some ⟨w.heap.size, 0, none⟩)]] 212)
 rw [size_alloc] at H1
 obtain ⟨gb, hgb⟩ : ∃ b, w.heap.size = b := ⟨_, rfl⟩
 obtain ⟨ob, hob⟩ : ∃ b, gb + 1 = b := ⟨_, rfl⟩
 rw [hgb, hob] at H1
 rw [hgb, hob]
 clear hgb hob
 have H1' := H1.up2
 have K := sl_waiting s hs hr H1'
 rw [HL.out] at K
 have HK := Lib.hid K
 clear K
 refine HK.out.mono ?_
 rintro e w1 ⟨a, cap, rfl, hrd, hnew, f1⟩
 have H2 := H1'.later f1
 clear HK H1 H1' hnew f1
 have hm := hrd.2.1
 unfold maxLen at hm
 obtain ⟨S, hS, rgb, sp, rp, R, P, Q, hq⟩ := H2.on
 obtain ⟨c0, c1, c2, c3, c4, c5, cf⟩ := pipe_cells hq.row
 rw [HC.out] at c3
 have gl := lt_of_block hq.row
 obtain ⟨n, hn⟩ : ∃ n, L.length = n := ⟨_, rfl⟩
 rw [hn]
 rw [hn] at hrd hm
 have K2 := fun w' (f : Frm Nil w1 w') => sl_cap (H2.later f)
 rw [HZ.out] at K2
 have K3 := fun w' (f : Frm Nil w1 w') => wtr_contains (w := w') (cap := cap) (cv := .pointer (some ⟨ob, 0, none⟩)) (fun m => !(m.g == i)) (enters Tryz.func153 (by kernel_rfl) (by kernel_rfl)) hn.symm (hrd.nil f) (fun m w'' f' => alone2 m (f'.blk (f.blk H2.at2 id) id) (f'.blk (f.blk H2.at1 id) id))
 have HK2 := Lib.hid K2
 have HK3 := Lib.hid K3
 have HN := Lib.hid hn
 clear K2 K3 hn hq
 by_cases h0 : 0 < n
 ·have hb0 : decide (0 < (n : Int)) = true := by simpa using h0
  have hb0' : decide (0 < n) = true := by simpa using h0
  cases cl with
  | true =>
   go_wp2_with fail
   go_ret
   exact ⟨ret_bool (by rw [HN.out, hb0']; rfl), by repeat (first | with_reducible refine SL.drewN ?_ _ | with_reducible refine SL.drew ?_ | with_reducible exact H2.drop1.drop1)⟩
  | false =>
   by_cases hz : z = 0
   ·have hbz : ((z : Int) == 0) = true := by simp [hz]
    have hbz' : decide (z = 0) = true := by simp [hz]
    have hi : (z : Int) = 0 := by simp [hz]
    clear hz
    go_wp2_with fail
    refine (HK2.out _ (by repeat (first | with_reducible exact Frm.refl _ _ | apply Frm.drewN | apply Frm.drew | apply Frm.alloc))).mono ?_
    rintro e w' ⟨rfl, rfl⟩
    go_wp2_with fail
    refine (HK3.out _ (by repeat (first | with_reducible exact Frm.refl _ _ | apply Frm.drewN | apply Frm.drew | apply Frm.alloc))).mono ?_
    rintro e w' ⟨rfl, f2⟩
    go_wp2_with fail
    go_ret
    refine ⟨ret_bool (by rw [HN.out, hb0', hbz']; rfl), ?_⟩
    have H3 := H2.later f2
    repeat (first | with_reducible refine SL.drewN ?_ _ | with_reducible refine SL.drew ?_ | with_reducible exact H3.drop1.drop1)
   ·have hbz : ((z : Int) == 0) = false := by simp; omega
    have hbz' : decide (z = 0) = false := by simp [hz]
    go_wp2_with fail
    refine (HK2.out _ (by repeat (first | with_reducible exact Frm.refl _ _ | apply Frm.drewN | apply Frm.drew | apply Frm.alloc))).mono ?_
    rintro e w' ⟨rfl, rfl⟩
    go_wp2_with fail
    go_ret
    exact ⟨ret_bool (by rw [HN.out, hb0', hbz']; rfl), by repeat (first | with_reducible refine SL.drewN ?_ _ | with_reducible refine SL.drew ?_ | with_reducible exact H2.drop1.drop1)⟩
 ·have hb0 : decide (0 < (n : Int)) = false := by simpa using h0
  have hb0' : decide (0 < n) = false := by simpa using h0
  go_wp2_with fail
  go_ret
  exact ⟨ret_bool (by rw [HN.out, hb0']; rfl), by repeat (first | with_reducible refine SL.drewN ?_ _ | with_reducible refine SL.drew ?_ | with_reducible exact H2.drop1.drop1)⟩
end
end Go.Proofs.YtcgajljbahbhdaaGreat
namespace Go.Proofs.YtcgajljbahbhdaaGreat
set_option linter.unusedVariables false
set_option linter.unusedSimpArgs false
open Go.RowKit
def RingP (g size : Nat) (L : List Int) : Piece := ofAt (fun w S => RingAt w S g size L) RingAt.move RingAt.mono
def PewP (g : Nat) (L : List Wtr) : Piece := ofAt (fun w S => PewAt w S g L) PewAt.move PewAt.mono
/-- A slice that may be read: n elements of sz cells. -/
def RdP (a : Option Addr) (n sz : Nat) (xs : List Value) : Piece where
 on S w := Rd w sz a n xs ∧ ∀ b o, a = some ⟨b, o, none⟩ → 0 < n → S b
 move := by
  rintro S w w' ⟨h1, h2⟩ s
  refine ⟨⟨h1.1, h1.2.1, fun hn => ?_⟩, h2⟩
  obtain ⟨b, off, ha, hc⟩ := h1.2.2 hn
  exact ⟨b, off, ha, fun i u hu => (World.cell?_of_block (w := w) (s.block b (h2 b off ha hn))).trans (hc i u hu)⟩
 mono h k := ⟨h.1, fun b o hb hn => k b (h.2 b o hb hn)⟩
theorem SL.rd {w : World} {F : List Piece} {a : Option Addr} {n sz : Nat} {xs : List Value} (h : SL w (RdP a n sz xs :: F)) : Rd w sz a n xs := by
 obtain ⟨S, _, h⟩ := h.on
 exact h.1
theorem SL.rdNew {w w' : World} {F : List Piece} {a : Option Addr} {n sz : Nat} {xs : List Value} (h : SL w F) (hr : Rd w' sz a n xs) (hs : 0 < sz) (hn : ∀ b o, a = some ⟨b, o, none⟩ → w.heap.size ≤ b) (f : Frm Nil w w') : SL w' (RdP a n sz xs :: F) := by
 refine h.new (M := [RdP a n sz xs]) f ⟨_, fun _ h => h, ⟨hr, fun b o hb hn' => .inr ⟨hn b o hb, ?_⟩⟩, trivial⟩
 obtain ⟨b', off, ha, hc⟩ := hr.2.2 hn'
 rw [hb] at ha
 injection ha with ha
 injection ha with ha1 ha2
 subst ha1
 have hl : 0 < xs.length := by
  rw [hr.1]
  exact Nat.mul_pos hn' hs
 exact World.block_lt_of_cell? w' _ (hc 0 _ (List.getElem?_eq_getElem hl))
theorem SL.rdNil {w : World} {F : List Piece} (sz : Nat) (h : SL w F) : SL w (RdP none 0 sz [] :: F) :=
 ⟨fun _ => False, fun _ h => h.elim, ⟨⟨by simp, Nat.zero_le _, fun h => absurd h (Nat.lt_irrefl 0)⟩, fun b o hb => by cases hb⟩, h.mono (fun k hk => ⟨hk, id⟩)⟩
/-- A slice of waiters comes back, a piece of its own. -/
theorem Wtrs.sl {w w' : World} {F : List Piece} {L : List Wtr} {e : Ending} (h : Wtrs w L e w') (H : SL w F) : ∃ a cap, e = .returned (.slice a L.length cap) ∧ SL w' (RdP a L.length 3 (L.flatMap Wtr.cells) :: F) := by
 obtain ⟨a, cap, rfl, h1, h2, h3⟩ := h
 exact ⟨a, cap, rfl, H.rdNew h1 (by decide) h2 h3⟩
section
variable {w : World} {F : List Piece} {g : Nat} {x : PipeM}
theorem pipe_open (H : SL w (PipeP g x :: F)) : ∃ rb sp rp, SL w (row g #[.pointer (some ⟨rb, 0, none⟩), .pointer (some ⟨sp, 0, none⟩), .pointer (some ⟨rp, 0, none⟩), .bool x.closed, .int .i64 x.sent, .int .i64 x.received] 168 :: RingP rb x.size x.buf :: PewP sp x.senders :: PewP rp x.receivers :: F) := by
 obtain ⟨T, h1, ⟨rb, sp, rp, R, P, Q, h⟩, h2⟩ := H
 have h0 := h.bound
 have hg := lt_of_block h.row
 refine ⟨rb, sp, rp, fun k => k = g, fun k hk => by rw [hk]; exact hg, ⟨rfl, h.row⟩, R, fun k hk => ⟨h1 k (h.subR k hk).1, (h.subR k hk).2⟩, h.ring, P, fun k hk => ⟨⟨h1 k (h.subP k hk).1, (h.subP k hk).2⟩, fun hr => h.rp_ k hr hk⟩, h.snd, Q, fun k hk => ⟨⟨⟨h1 k (h.subQ k hk).1, (h.subQ k hk).2⟩, fun hr => h.rq_ k hr hk⟩, fun hp => h.pq_ k hp hk⟩, h.rcv, h2.mono (fun k hk => ⟨⟨⟨⟨hk.1, fun e => hk.2 (by rw [e]; exact h.own)⟩, fun e => hk.2 (h.subR k e).1⟩, fun e => hk.2 (h.subP k e).1⟩, fun e => hk.2 (h.subQ k e).1⟩)⟩
theorem pipe_shut {rb sp rp : Nat} (H : SL w (row g #[.pointer (some ⟨rb, 0, none⟩), .pointer (some ⟨sp, 0, none⟩), .pointer (some ⟨rp, 0, none⟩), .bool x.closed, .int .i64 x.sent, .int .i64 x.received] 168 :: RingP rb x.size x.buf :: PewP sp x.senders :: PewP rp x.receivers :: F)) : SL w (PipeP g x :: F) := by
 obtain ⟨T, h1, ⟨hT, hrow⟩, R, hR1, hR, P, hP1, hP, Q, hQ1, hQ, hF⟩ := H
 refine ⟨fun k => T k ∨ R k ∨ P k ∨ Q k, fun k hk => ?_, ⟨rb, sp, rp, R, P, Q, hrow, .inl hT, hR, hP, hQ, fun k hk => ⟨.inr (.inl hk), ?_⟩, fun k hk => ⟨.inr (.inr (.inl hk)), ?_⟩, fun k hk => ⟨.inr (.inr (.inr hk)), ?_⟩, fun k hk hp => (hP1 k hp).2 hk, fun k hk hq => (hQ1 k hq).1.2 hk, fun k hp hq => (hQ1 k hq).2 hp⟩, hF.mono (fun k hk => ⟨hk.1.1.1.1, fun h => ?_⟩)⟩
 ·rcases hk with h | h | h | h
  ·exact h1 k h
  ·exact (hR1 k h).1
  ·exact (hP1 k h).1.1
  ·exact (hQ1 k h).1.1.1
 ·intro e
  subst e
  exact (hR1 _ hk).2 hT
 ·intro e
  subst e
  exact (hP1 _ hk).1.2 hT
 ·intro e
  subst e
  exact (hQ1 _ hk).1.1.2 hT
 ·rcases h with h | h | h | h
  ·exact hk.1.1.1.2 h
  ·exact hk.1.1.2 h
  ·exact hk.1.2 h
  ·exact hk.2 h
theorem sl_pew {rb sp rp : Nat} {t : Bool} {i j : Int} (s : Bool) (H : SL w (row g #[.pointer (some ⟨rb, 0, none⟩), .pointer (some ⟨sp, 0, none⟩), .pointer (some ⟨rp, 0, none⟩), .bool t, .int .i64 i, .int .i64 j] 168 :: F)) :
  Calls Tryz.prog 111 #[.pointer (some ⟨g, 0, none⟩), .bool s] w fun e w' => e = .returned (.pointer (some ⟨if s then sp else rp, 0, none⟩)) ∧ w = w' := by
 obtain ⟨c0, c1, c2, c3, c4, c5, cf⟩ := pipe_cells H.at0
 cases s
 all_goals
  go_enter Tryz.func111, Tryz.ntmps111
  go_wp2
  go_ret
  exact ⟨rfl, rfl⟩
theorem sl_pew_new (H : SL w F) : Calls Tryz.prog 124 #[] w fun e w' => ∃ p, e = .returned (.pointer (some ⟨p, 0, none⟩)) ∧ SL w' (PewP p [] :: F) := by
 refine (pew_new w).mono ?_
 rintro e w' ⟨p, rfl, h1, f1⟩
 exact ⟨p, rfl, H.new (M := [PewP p []]) f1 ⟨_, fun _ h => h, h1, trivial⟩⟩
theorem sl_pew_add {p : Nat} {L : List Wtr} (hL : L.length ≤ 1024) (m : Wtr) (H : SL w (PewP p L :: F)) :
  Calls Tryz.prog 137 #[.pointer (some ⟨p, 0, none⟩), m.agg] w fun e w' => e = .returned (.int .i64 (addF L m).1) ∧ SL w' (PewP p (addF L m).2 :: F) := by
 unfold addF
 by_cases h1 : m.g < 0 ∨ m.case_ < -1
 ·rw [if_pos h1]
  refine (pew_add_arg _ m h1 w).mono ?_
  rintro e w' ⟨rfl, f⟩
  exact ⟨rfl, H.later f⟩
 ·rw [if_neg h1]
  by_cases h2 : L.length = 1024
  ·rw [if_pos h2]
   obtain ⟨S, _, h⟩ := H.on
   refine (pew_add_full h h2 m (by omega) (by omega)).mono ?_
   rintro e w' ⟨rfl, f⟩
   exact ⟨rfl, H.later f⟩
  ·rw [if_neg h2]
   obtain ⟨S, h, _, hG⟩ := H.call
   refine (pew_add_ok h (by omega) m (by omega) (by omega)).mono ?_
   rintro e w' ⟨rfl, h3, f⟩
   exact ⟨rfl, hG w' [PewP p (L ++ [m])] f ⟨_, fun _ h => h, h3, trivial⟩⟩
def waitF (x : PipeM) (s : Bool) (m : Wtr) : Int × PipeM :=
 if readyF x s && !aloneF x (!s) m.g then (7, x)
 else if s then ((addF x.senders m).1, { x with senders := (addF x.senders m).2 }) else ((addF x.receivers m).1, { x with receivers := (addF x.receivers m).2 })
set_option maxRecDepth 100000 in
set_option maxHeartbeats 400000 in
theorem sl_wait (s : Bool) (m : Wtr) (hs : x.senders.length ≤ 1024) (hr : x.receivers.length ≤ 1024) (H : SL w (PipeP g x :: F)) :
  Calls Tryz.prog 117 #[.pointer (some ⟨g, 0, none⟩), .bool s, m.agg] w fun e w' => e = .returned (.int .i64 (waitF x s m).1) ∧ SL w' (PipeP g (waitF x s m).2 :: F) := by
 have K1 := fun F' w' (H : SL w' (PipeP g x :: F')) => sl_ready s H
 have K2 := fun F' w' (H : SL w' (PipeP g x :: F')) => sl_alone (!s) m.g (Nat.le_trans hs (by decide)) (Nat.le_trans hr (by decide)) H
 obtain ⟨R, hR⟩ : ∃ R, waitF x s m = R := ⟨_, rfl⟩
 rw [hR]
 unfold waitF at hR
 obtain ⟨rd, hrd⟩ : ∃ rd, readyF x s = rd := ⟨_, rfl⟩
 obtain ⟨al, hal⟩ : ∃ al, aloneF x (!s) m.g = al := ⟨_, rfl⟩
 rw [hrd] at K1
 rw [hal] at K2
 rw [hrd, hal] at hR
 have HR := Lib.hid hR
 clear hR
 have HK1 := Lib.hid K1
 have HK2 := Lib.hid K2
 clear hrd hal K1 K2
 obtain ⟨mg, mc, mv⟩ := m
 have HA := Lib.hid (fun p (L : List Wtr) (hL : L.length ≤ 1024) F' w' (H : SL w' (PewP p L :: F')) => sl_pew_add hL ⟨mg, mc, mv⟩ H)
 unfold Wtr.agg at HA ⊢
 dsimp only at HK2 HA ⊢
 go_enter Tryz.func117, Tryz.ntmps117
 go_wp2_with fail
 have H1 := (H.alloc (.cells #[.int .i64 mg, .int .i64 mc, .int .i64 mv] 169)).up1
 obtain ⟨b, hb⟩ : ∃ b, w.heap.size = b := ⟨_, rfl⟩
 rw [hb] at H1 ⊢
 clear hb
 refine (HK1.out _ _ H1).mono ?_
 rintro e w1 ⟨rfl, H2⟩
 obtain ⟨b0, b1, b2, bf⟩ := pew_cells H2.at1
 have bl := lt_of_block H2.at1
 have fin : ∀ (s : Bool) w2, SL w2 (PipeP g x :: row b #[.int .i64 mg, .int .i64 mc, .int .i64 mv] 169 :: F) → ∃ (q : Nat) (r : Int × PipeM), r = (if s then ((addF x.senders ⟨mg, mc, mv⟩).1, { x with senders := (addF x.senders ⟨mg, mc, mv⟩).2 }) else ((addF x.receivers ⟨mg, mc, mv⟩).1, { x with receivers := (addF x.receivers ⟨mg, mc, mv⟩).2 })) ∧ ∀ w2', Frm Nil w2 w2' → Calls Tryz.prog 111 #[.pointer (some ⟨g, 0, none⟩), .bool s] w2' (fun e w' => e = .returned (.pointer (some ⟨q, 0, none⟩)) ∧ w2' = w') ∧ Calls Tryz.prog 137 #[.pointer (some ⟨q, 0, none⟩), .agg #[.int .i64 mg, .int .i64 mc, .int .i64 mv]] w2' fun e w' => e = .returned (.int .i64 r.1) ∧ SL w' (PipeP g r.2 :: row b #[.int .i64 mg, .int .i64 mc, .int .i64 mv] 169 :: F) := by
  intro s w2 H2
  obtain ⟨rb, sp, rp, H3⟩ := pipe_open H2
  cases s
  ·refine ⟨rp, ((addF x.receivers ⟨mg, mc, mv⟩).1, { x with receivers := (addF x.receivers ⟨mg, mc, mv⟩).2 }), rfl, fun w2' f => ⟨sl_pew false (H3.later f), (HA.out rp x.receivers hr _ _ (H3.later f).up3).mono ?_⟩⟩
   rintro e w' ⟨rfl, H4⟩
   exact ⟨rfl, (pipe_shut (x := { x with receivers := (addF x.receivers ⟨mg, mc, mv⟩).2 }) H4.dn3)⟩
  ·refine ⟨sp, ((addF x.senders ⟨mg, mc, mv⟩).1, { x with senders := (addF x.senders ⟨mg, mc, mv⟩).2 }), rfl, fun w2' f => ⟨sl_pew true (H3.later f), (HA.out sp x.senders hs _ _ (H3.later f).up2).mono ?_⟩⟩
   rintro e w' ⟨rfl, H4⟩
   exact ⟨rfl, (pipe_shut (x := { x with senders := (addF x.senders ⟨mg, mc, mv⟩).2 }) H4.dn2)⟩
 have FIN := Lib.hid fin
 clear fin HA
 cases rd with
 | false =>
  go_wp2_with fail
  obtain ⟨q, ⟨r1, r2⟩, hq, k1⟩ := FIN.out s _ H2
  have HQ := Lib.hid hq
  clear hq
  have HK4 := Lib.hid k1
  clear k1
  go_region_held3 (fun w' => w'.cell? ⟨b, 0, none⟩ = some (.int .i64 mg) ∧ w'.cell? ⟨b, 1, none⟩ = some (.int .i64 mc) ∧ w'.cell? ⟨b, 2, none⟩ = some (.int .i64 mv)) (first | go_keep | (go_split_ands; refine ⟨?_, ?_, ?_⟩ <;> assumption)) (first | (go_at_call 111; refine (HK4.out _ (by repeat (first | with_reducible exact Frm.refl _ _ | apply Frm.drewN | apply Frm.drew | apply Frm.alloc))).1.mono ?_; rintro e w' ⟨rfl, rfl⟩) | (go_at_call 137; refine (HK4.out _ (by repeat (first | with_reducible exact Frm.refl _ _ | apply Frm.drewN | apply Frm.drew | apply Frm.alloc))).2.mono ?_; rintro e w3 ⟨rfl, H5⟩; obtain ⟨b0', b1', b2', bf'⟩ := pew_cells H5.at1))
  all_goals
   go_wp2_with fail
   go_ret
   have hR := HR.out
   rw [if_neg (by simp), ← HQ.out] at hR
   subst hR
   refine ⟨rfl, ?_⟩
   repeat (first | with_reducible refine SL.drewN ?_ _ | with_reducible refine SL.drew ?_ | with_reducible exact H5.drop1)
 | true =>
  go_wp2_with fail
  refine (HK2.out _ _ H2).mono ?_
  rintro e w2 ⟨rfl, H2⟩
  clear b0 b1 b2 bf bl
  obtain ⟨b0, b1, b2, bf⟩ := pew_cells H2.at1
  have bl := lt_of_block H2.at1
  cases al with
  | false =>
   go_wp2_with fail
   go_ret
   have hR := HR.out
   rw [if_pos (by simp)] at hR
   subst hR
   exact ⟨rfl, H2.drop1⟩
  | true =>
   go_wp2_with fail
   obtain ⟨q, ⟨r1, r2⟩, hq, k1⟩ := FIN.out s _ H2
   have HQ := Lib.hid hq
   clear hq
   have HK4 := Lib.hid k1
   clear k1
   go_region_held3 (fun w' => w'.cell? ⟨b, 0, none⟩ = some (.int .i64 mg) ∧ w'.cell? ⟨b, 1, none⟩ = some (.int .i64 mc) ∧ w'.cell? ⟨b, 2, none⟩ = some (.int .i64 mv)) (first | go_keep | (go_split_ands; refine ⟨?_, ?_, ?_⟩ <;> assumption)) (first | (go_at_call 111; refine (HK4.out _ (by repeat (first | with_reducible exact Frm.refl _ _ | apply Frm.drewN | apply Frm.drew | apply Frm.alloc))).1.mono ?_; rintro e w' ⟨rfl, rfl⟩) | (go_at_call 137; refine (HK4.out _ (by repeat (first | with_reducible exact Frm.refl _ _ | apply Frm.drewN | apply Frm.drew | apply Frm.alloc))).2.mono ?_; rintro e w3 ⟨rfl, H5⟩; obtain ⟨b0', b1', b2', bf'⟩ := pew_cells H5.at1))
   all_goals
    go_wp2_with fail
    go_ret
    have hR := HR.out
    rw [if_neg (by simp), ← HQ.out] at hR
    subst hR
    refine ⟨rfl, ?_⟩
    repeat (first | with_reducible refine SL.drewN ?_ _ | with_reducible refine SL.drew ?_ | with_reducible exact H5.drop1)
def closeF (x : PipeM) : (List Wtr × List Wtr × Int) × PipeM :=
 if x.closed then (([], [], 90), x) else ((x.receivers, x.senders, 0), { x with closed := true, senders := [], receivers := [] })
set_option maxRecDepth 100000 in
set_option maxHeartbeats 400000 in
theorem sl_close (hs : x.senders.length ≤ 1024) (hr : x.receivers.length ≤ 1024) (H : SL w (PipeP g x :: F)) :
  Calls Tryz.prog 119 #[.pointer (some ⟨g, 0, none⟩)] w fun e w' => ∃ a c b d, e = .returned (.tuple #[.slice a (closeF x).1.1.length c, .slice b (closeF x).1.2.1.length d, .int .i64 (closeF x).1.2.2]) ∧
   SL w' (RdP a (closeF x).1.1.length 3 ((closeF x).1.1.flatMap Wtr.cells) :: RdP b (closeF x).1.2.1.length 3 ((closeF x).1.2.1.flatMap Wtr.cells) :: PipeP g (closeF x).2 :: F) := by
 unfold closeF
 by_cases hc : x.closed = true
 ·rw [if_pos hc]
  obtain ⟨rb, sp, rp, H1⟩ := pipe_open H
  obtain ⟨c0, c1, c2, c3, c4, c5, cf⟩ := pipe_cells H1.at0
  rw [hc] at c3
  have gl := lt_of_block H1.at0
  have HC := Lib.hid hc
  clear hc
  go_enter Tryz.func119, Tryz.ntmps119
  go_wp2_with fail
  go_ret3
  refine ⟨none, 0, none, 0, rfl, SL.rdNil 3 (SL.rdNil 3 ?_)⟩
  repeat (first | with_reducible refine SL.drewN ?_ _ | with_reducible refine SL.drew ?_ | with_reducible exact H)
 ·rw [if_neg hc]
  have hc' : x.closed = false := by simpa using hc
  obtain ⟨rb, sp, rp, H1⟩ := pipe_open H
  obtain ⟨c0, c1, c2, c3, c4, c5, cf⟩ := pipe_cells H1.at0
  rw [hc'] at c3
  have gl := lt_of_block H1.at0
  have HC := Lib.hid hc'
  clear hc hc'
  go_enter Tryz.func119, Tryz.ntmps119
  go_wp2_with fail
  have H2 := H1.set 3 (.bool true)
  dsimp [Array.setIfInBounds] at H2
  have H3 := pipe_shut (x := { x with closed := true }) H2
  clear H2 c0 c1 c2 c3 c4 c5 cf gl
  refine (sl_waiting (x := { x with closed := true }) false (Nat.le_trans hs (by decide)) (Nat.le_trans hr (by decide)) H3).mono ?_
  intro e w1 hW
  obtain ⟨a, c, rfl, H4⟩ := hW.sl H3
  clear hW
  go_wp2_with fail
  refine (sl_waiting (x := { x with closed := true }) true (Nat.le_trans hs (by decide)) (Nat.le_trans hr (by decide)) H4.up1).mono ?_
  intro e w2 hW
  obtain ⟨b, d, rfl, H5⟩ := hW.sl H4
  clear hW
  go_wp2_with fail
  refine (sl_pew_new H5).mono ?_
  rintro e w3 ⟨p1, rfl, H6⟩
  go_wp2_with fail
  refine (sl_pew_new H6).mono ?_
  rintro e w4 ⟨p2, rfl, H7⟩
  obtain ⟨rb', sp', rp', H8⟩ := pipe_open H7.up4
  obtain ⟨c0, c1, c2, c3, c4, c5, cf⟩ := pipe_cells H8.at0
  have gl := lt_of_block H8.at0
  go_wp2_with fail
  go_ret3
  have H9 := (H8.set 2 (.pointer (some ⟨p1, 0, none⟩))).set 1 (.pointer (some ⟨p2, 0, none⟩))
  dsimp [Array.setIfInBounds] at H9
  have H10 := pipe_shut (x := { x with closed := true, senders := [], receivers := [] }) (H9.drop2.drop2).dn1.dn1
  have H11 := H10.up1.up2
  exact ⟨a, c, b, d, rfl, H11⟩
end
end Go.Proofs.YtcgajljbahbhdaaGreat
namespace Go.Proofs.YtcgajljbahbhdaaGreat
set_option linter.unusedVariables false
set_option linter.unusedSimpArgs false
open Go.RowKit
theorem Rd.cut {w : World} {sz n k cap d : Nat} {a : Option Addr} {xs : List Value} (h : Rd w sz a n xs) (hd : k * sz = d) (hk : k ≤ n) (hc : n ≤ cap) :
  Rd w sz (if cap = k then a else a.map (fun x => ⟨x.block, x.off + d, none⟩)) (n - k) (xs.drop d) := by
 subst hd
 refine ⟨by rw [List.length_drop, h.1, Nat.sub_mul], Nat.le_trans (Nat.sub_le _ _) h.2.1, fun hn => ?_⟩
 obtain ⟨b, off, rfl, hcell⟩ := h.2.2 (by omega)
 rw [if_neg (by omega)]
 refine ⟨b, off + k * sz, rfl, fun j u hu => ?_⟩
 rw [Nat.add_assoc]
 exact hcell _ u (by rw [← hu, List.getElem?_drop])
theorem SL.slc {w : World} {F : List Piece} {te sz n : Nat} {v : Value} {xs : List Value} (h : SL w (Slc te sz v n xs :: F)) : ∃ a cap, v = .slice a n cap ∧ n ≤ cap ∧ cap ≤ maxLen ∧ Rd w sz a n xs := by
 obtain ⟨S, _, h1, _⟩ := h.on
 rcases h1.2 with ⟨rfl, rfl⟩ | ⟨g, cap, cur, rfl, _, _, h2, h3, _⟩
 ·exact ⟨none, 0, rfl, Nat.le_refl _, Nat.zero_le _, Rd.of_own h1⟩
 ·exact ⟨_, cap, rfl, h2, h3, Rd.of_own h1⟩
/-- A piece out of which a slice can be read. -/
def Reader (A : Piece) (sz : Nat) (a : Option Addr) (n : Nat) (xs : List Value) : Prop := ∀ (S : Nat → Prop) (w : World), A.on S w → Rd w sz a n xs
theorem Reader.slc {te sz n cap : Nat} {a : Option Addr} {xs : List Value} : Reader (Slc te sz (.slice a n cap) n xs) sz a n xs := fun S w h => Rd.of_own h.1
theorem Reader.rdp {sz n : Nat} {a : Option Addr} {xs : List Value} : Reader (RdP a n sz xs) sz a n xs := fun S w h => h.1
theorem Reader.old {w0 : World} {sz n : Nat} {a : Option Addr} {xs : List Value} (h : Rd w0 sz a n xs) : Reader (Old w0) sz a n xs := by
 intro S w ho
 refine ⟨h.1, h.2.1, fun hn => ?_⟩
 obtain ⟨b, off, ha, hc⟩ := h.2.2 hn
 refine ⟨b, off, ha, fun i u hu => ?_⟩
 have hx := hc i u hu
 exact (World.cell?_of_block (w := w0) (ho.2.2.2 b (World.block_lt_of_cell? w0 _ hx)).2).trans hx
theorem SL.read {w : World} {A : Piece} {F : List Piece} {sz n : Nat} {a : Option Addr} {xs : List Value} (h : SL w (A :: F)) (hr : Reader A sz a n xs) : Rd w sz a n xs := by
 obtain ⟨S, _, h1⟩ := h.on
 exact hr S w h1
theorem infoW8 : (Tryz.prog.info? 145).map (fun i => (i.zero, i.size, i.bytes)) = some (some (.agg #[.int .i64 0, .int .i64 0, .int .i64 0]), 3, 24) := by kernel_rfl
theorem wcells_one (L : List Wtr) : (L.flatMap Wtr.cells).all Value.oneCell' = true := by
 rw [List.all_eq_true]
 intro u hu
 obtain ⟨x, _, hx⟩ := List.mem_flatMap.1 hu
 simp [Wtr.cells] at hx
 rcases hx with rfl | rfl | rfl <;> rfl
theorem ints_one (L : List Int) : (ints L).all Value.oneCell' = true := by
 rw [List.all_eq_true]
 intro u hu
 obtain ⟨x, _, rfl⟩ := List.mem_map.1 hu
 rfl
theorem wcells_drop (m : Wtr) (L : List Wtr) : ((m :: L).flatMap Wtr.cells).drop 3 = L.flatMap Wtr.cells := rfl
section
variable {w : World} {F : List Piece}
set_option maxHeartbeats 400000 in
theorem r_behind {a : Option Addr} {cap : Nat} {m : Wtr} {L : List Wtr} {n : Nat} (hn : n = L.length + 1) (hr : Rd w 3 a n ((m :: L).flatMap Wtr.cells)) (hc : n ≤ cap) (hm : cap ≤ maxLen) (hL : L.length ≤ 100000) (H : SL w F) :
  Calls Tryz.prog 155 #[.slice a n cap] w fun e w' => ∃ v, e = .returned v ∧ SL w' (Slc 145 3 v L.length (L.flatMap Wtr.cells) :: F) := by
 have hcut := hr.cut (k := 1) (d := 3) rfl (by omega) hc
 rw [wcells_drop, show n - 1 = L.length by omega] at hcut
 have h1 : (1 : Int) ≤ (n : Int) := by omega
 have h2 : (n : Int) ≤ (cap : Int) := by omega
 have h3 : (1 : Int) ≤ (cap : Int) := by omega
 have h4 : ((n : Int) - 1).toNat = L.length := by omega
 unfold maxLen at hm
 go_enter Tryz.func155, Tryz.ntmps155
 have H0 := SL.slcNil 145 3 H
 go_wp2_with (at_builtin; refine sl_append rfl _ _ 147 _ 24 rfl Tryz.underlying147 infoW8 rfl (by decide) (.slice none 0 0) 0 [] rfl _ _ _ _ rfl hcut (wcells_one L) H0 (by omega) (by decide) ?_; intro v1 w1 H1 hs1)
 all_goals
  go_ret
  rw [Nat.zero_add, List.nil_append] at H1
  exact ⟨v1, rfl, H1⟩
set_option maxRecDepth 100000 in
set_option maxHeartbeats 400000 in
theorem r_without {a : Option Addr} {cap : Nat} {L : List Wtr} {n : Nat} {A : Piece} (i : Int) (hn : n = L.length) (hA : Reader A 3 a n (L.flatMap Wtr.cells)) (hL : L.length ≤ 100000) (H : SL w (A :: F)) :
  Calls Tryz.prog 127 #[.slice a n cap, .int .i64 i] w fun e w' => ∃ v, e = .returned v ∧ SL w' (Slc 145 3 v (without i L).length ((without i L).flatMap Wtr.cells) :: A :: F) := by
 subst hn
 go_enter Tryz.func127, Tryz.ntmps127
 go_wp2
 go_loopw [5, 10] (fun v j wr => ∃ k : Nat, k ≤ L.length ∧ j = .int .i64 k ∧ SL wr (Slc 145 3 v (without i (L.take k)).length ((without i (L.take k)).flatMap Wtr.cells) :: A :: F)) (fun _ j _ => L.length - (intOf j).toNat)
 case atStart => exact ⟨0, Nat.zero_le _, rfl, SL.slcNil _ _ H⟩
 case round =>
  obtain ⟨k, hk, rfl, HR⟩ := hrel
  by_cases hlt : k < L.length
  ·obtain ⟨b, off, rfl, d0, d1, d2⟩ := wtr_at (HR.up1.read hA) k hlt
   have hsn := without_snoc i L k hlt
   have hml : (without i (L.take k)).length ≤ L.length := Nat.le_trans (without_le i _) (by rw [List.length_take]; omega)
   obtain ⟨x, hx⟩ : ∃ x, L[k] = x := ⟨_, rfl⟩
   rw [hx] at hsn d0 d1 d2
   obtain ⟨xg, xc, xv⟩ := x
   dsimp only at d0 d1 d2 hsn
   have HSN := Lib.hid hsn
   clear hx hsn
   by_cases hg : xg = i
   ·have hb0 : (xg != i) = false := by simp [hg]
    have HG := Lib.hid hg
    clear hg
    go_wp2_with fail
    go_roundw
    case rel => exact ⟨k + 1, by omega, by go_num, by rw [HSN.out, if_pos HG.out, List.append_nil]; exact HR.allocd _⟩
    case measure => simp [intOf]; omega
   ·have hb0 : (xg != i) = true := by simp [hg]
    have HG := Lib.hid hg
    clear hg
    obtain ⟨va, vc, hv, hle, hcm, hrd⟩ := HR.slc
    subst hv
    go_wp2_with (at_builtin; go_must (refine sl_app rfl _ _ 147 _ 24 rfl Tryz.underlying147 infoW8 rfl (by decide) (.slice va _ vc) _ _ [.int .i64 xg, .int .i64 xc, .int .i64 xv] rfl rfl (by simp) rfl rfl (HR.allocd _) (by omega) (by decide) ?_); intro g c w1 H1 hs1)
    go_roundw
    case rel => exact ⟨k + 1, by omega, by go_num, by rw [HSN.out, if_neg HG.out, List.length_append, List.flatMap_append]; exact H1⟩
    case measure => simp [intOf]; omega
  ·have hkn : k = L.length := by omega
   rw [hkn, List.take_length] at HR
   clear hkn
   go_wp2_with fail
   go_ret
   exact ⟨_, rfl, HR⟩
end
end Go.Proofs.YtcgajljbahbhdaaGreat
namespace Go.Proofs.YtcgajljbahbhdaaGreat
set_option linter.unusedVariables false
set_option linter.unusedSimpArgs false
open Go.RowKit
def refL (h : Nat) (x : PipeM) (v : Value × Value × Value) : List Piece :=
 [row h #[.int .i64 x.size, v.1, v.2.1, v.2.2, .bool x.closed, .int .i64 x.sent, .int .i64 x.received] 149, Slc 3 1 v.1 x.buf.length (ints x.buf),
  Slc 145 3 v.2.1 x.senders.length (x.senders.flatMap Wtr.cells), Slc 145 3 v.2.2 x.receivers.length (x.receivers.flatMap Wtr.cells)]
/-- The reference's pipe. -/
def RefP (h : Nat) (x : PipeM) : Piece := exP fun v => all (refL h x v)
section
variable {w : World} {F : List Piece} {h : Nat} {x : PipeM}
theorem ref_open (H : SL w (RefP h x :: F)) : ∃ a1 c1 a2 c2 a3 c3, SL w (row h #[.int .i64 x.size, .slice a1 x.buf.length c1, .slice a2 x.senders.length c2, .slice a3 x.receivers.length c3, .bool x.closed, .int .i64 x.sent, .int .i64 x.received] 149 ::
  Slc 3 1 (.slice a1 x.buf.length c1) x.buf.length (ints x.buf) :: Slc 145 3 (.slice a2 x.senders.length c2) x.senders.length (x.senders.flatMap Wtr.cells) :: Slc 145 3 (.slice a3 x.receivers.length c3) x.receivers.length (x.receivers.flatMap Wtr.cells) :: F) := by
 obtain ⟨⟨v1, v2, v3⟩, H⟩ := SL.exP.1 H
 have H := SL.all.1 H
 obtain ⟨a1, c1, h1, _⟩ := H.up1.slc
 obtain ⟨a2, c2, h2, _⟩ := H.up2.slc
 obtain ⟨a3, c3, h3, _⟩ := H.up3.slc
 dsimp only at h1 h2 h3
 subst h1 h2 h3
 exact ⟨a1, c1, a2, c2, a3, c3, H⟩
theorem ref_shut {v1 v2 v3 : Value} (H : SL w (row h #[.int .i64 x.size, v1, v2, v3, .bool x.closed, .int .i64 x.sent, .int .i64 x.received] 149 ::
  Slc 3 1 v1 x.buf.length (ints x.buf) :: Slc 145 3 v2 x.senders.length (x.senders.flatMap Wtr.cells) :: Slc 145 3 v3 x.receivers.length (x.receivers.flatMap Wtr.cells) :: F)) : SL w (RefP h x :: F) :=
 SL.exP.2 ⟨(v1, v2, v3), SL.all.2 H⟩
theorem ref_shut' {v1 v2 v3 : Value} {n1 n2 n3 : Nat} {l1 l2 l3 : List Value} (H : SL w (row h #[.int .i64 x.size, v1, v2, v3, .bool x.closed, .int .i64 x.sent, .int .i64 x.received] 149 ::
  Slc 3 1 v1 n1 l1 :: Slc 145 3 v2 n2 l2 :: Slc 145 3 v3 n3 l3 :: F))
  (e1 : n1 = x.buf.length) (e2 : l1 = ints x.buf) (e3 : n2 = x.senders.length) (e4 : l2 = x.senders.flatMap Wtr.cells) (e5 : n3 = x.receivers.length) (e6 : l3 = x.receivers.flatMap Wtr.cells) : SL w (RefP h x :: F) := by
 subst e1 e2 e3 e4 e5 e6
 exact ref_shut H
set_option maxHeartbeats 400000 in
theorem r_new (n : Nat) (hn : n ≤ 4) (H : SL w F) : Calls Tryz.prog 105 #[.int .i64 n] w fun e w' => ∃ h, e = .returned (.tuple #[.pointer (some ⟨h, 0, none⟩), .int .i64 0]) ∧ SL w' (RefP h (emptyM n) :: F) := by
 go_enter Tryz.func105, Tryz.ntmps105
 go_wp2
 go_ret2
 refine ⟨w.heap.size, rfl, ?_⟩
 have H1 := SL.slcNil 3 1 (SL.slcNil 145 3 (SL.slcNil 145 3 H))
 exact ref_shut (x := emptyM n) (H1.alloc _)
end
end Go.Proofs.YtcgajljbahbhdaaGreat
