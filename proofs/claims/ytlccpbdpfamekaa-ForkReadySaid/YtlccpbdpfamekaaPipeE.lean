/- Layer 9, pipe: Recv. -/
import Derived.Test.YtlccpbdpfamekaaPipeD
namespace Go.Proofs.Ytlccpbdpfamekaa
set_option linter.unusedVariables false
set_option linter.unusedSimpArgs false
open Go.RowKit

section
variable {w : World} {S : Nat → Prop} {g pb gb : Nat} {x : PipeM}

theorem box1 {w : World} {g : Nat} {a : Value} {t : Nat} (k : w.heap[g]? = some (.cells #[a] t (0, 0))) :
    w.cell? ⟨g, 0, none⟩ = some a ∧ (∀ i, w.frozen? ⟨g, i, none⟩ = false) :=
  ⟨row_cell k 0 rfl, row_free k⟩

theorem recv3 (v : Int) (w : World) : Calls Try.prog 59 #[.int .i64 v] w fun e w' => e = .returned (.int .i64 v) ∧ w = w' := by
  go_enter Try.func59, Try.ntmps59
  go_wp2_with fail
  go_ret
  exact ⟨rfl, rfl⟩

theorem recv2_none {y : GotM} {a : Int} {L : List Int} (h : PipeAt w S g x) (hb : x.buf = a :: L) (hp : w.heap[pb]? = some (.cells #[.pointer (some ⟨g, 0, none⟩)] 23 (0, 0)))
    (hg : w.heap[gb]? = some (.cells y.cells.toArray 49 (0, 0))) (pS : ¬ S pb) (gS : ¬ S gb) (hw : y.woke = false) (v : Int) :
    Calls Try.prog 57 #[.int .i64 v, .pointer (some ⟨pb, 0, none⟩), .pointer (some ⟨gb, 0, none⟩)] w
      (PipePost S g w (.int .i64 a) { x with buf := L }) := by
  obtain ⟨rgb, sp, rp, R, P, Q, h0⟩ := h
  obtain ⟨c0, c1, c2, c3, c4, c5, cf⟩ := pipe_cells h0.row
  obtain ⟨p0, pf⟩ := box1 hp
  go_enter Try.func57, Try.ntmps57
  go_wp2_with fail
  have h1 := h0.ring
  rw [hb] at h1
  refine (ring_pop h1).mono ?_
  rintro e w1 ⟨rfl, h2, f2⟩
  have h3 := h0.ring_ h2 f2
  have g1 : w1.heap[gb]? = _ := f2.blk hg (fun hq => gS (h0.subR gb hq).1)
  obtain ⟨r0, r1, r2, r3, r4, r5, r6, rf⟩ := box7 g1
  rw [hw] at r2
  go_wp2_with fail
  go_ret
  exact ⟨rfl, PipeAt.mono (⟨_, _, _, _, _, _, h3⟩ : PipeAt w1 S g { x with buf := L }) (fun k hk => .inl hk), f2.mono (fun k _ hq => (h0.subR k hq).1)⟩

theorem recv2_woke {y : GotM} {a : Int} {L : List Int} (h : PipeAt w S g x) (hb : x.buf = a :: L) (hz : L.length < x.size) (hp : w.heap[pb]? = some (.cells #[.pointer (some ⟨g, 0, none⟩)] 23 (0, 0)))
    (hg : w.heap[gb]? = some (.cells y.cells.toArray 49 (0, 0))) (pS : ¬ S pb) (gS : ¬ S gb) (hw : y.woke = true) (v : Int) :
    Calls Try.prog 57 #[.int .i64 v, .pointer (some ⟨pb, 0, none⟩), .pointer (some ⟨gb, 0, none⟩)] w
      (PipePost S g w (.int .i64 a) { x with buf := L ++ [v] }) := by
  obtain ⟨rgb, sp, rp, R, P, Q, h0⟩ := h
  obtain ⟨c0, c1, c2, c3, c4, c5, cf⟩ := pipe_cells h0.row
  obtain ⟨p0, pf⟩ := box1 hp
  go_enter Try.func57, Try.ntmps57
  go_wp2_with fail
  have h1 := h0.ring
  rw [hb] at h1
  refine (ring_pop h1).mono ?_
  rintro e w1 ⟨rfl, h2, f2⟩
  have h3 := h0.ring_ h2 f2
  have g1 : w1.heap[gb]? = _ := f2.blk hg (fun hq => gS (h0.subR gb hq).1)
  have p1 : w1.heap[pb]? = _ := f2.blk hp (fun hq => pS (h0.subR pb hq).1)
  obtain ⟨r0, r1, r2, r3, r4, r5, r6, rf⟩ := box7 g1
  rw [hw] at r2
  obtain ⟨q0, qf⟩ := box1 p1
  obtain ⟨d0, d1, d2, d3, d4, d5, df⟩ := pipe_cells h3.row
  go_wp2_with fail
  refine (ring_push_ok h3.ring hz v).mono ?_
  rintro e w2 ⟨rfl, h4, f4⟩
  have h5 := h3.ring_ h4 f4
  go_wp2_with fail
  go_ret
  exact ⟨rfl, PipeAt.mono (⟨_, _, _, _, _, _, h5⟩ : PipeAt w2 S g { x with buf := L ++ [v] }) (fun k hk => .inl hk), (f2.mono (fun k _ hq => (h0.subR k hq).1)).trans f4 (fun k _ hq => (h0.subR k hq).1)⟩

set_option maxRecDepth 100000 in
set_option maxHeartbeats 400000 in
theorem recv1_none {a : Int} {L : List Int} (h : PipeAt w S g x) (hb : x.buf = a :: L) (hs : x.senders = []) (hn : Cnt x) (hp : w.heap[pb]? = some (.cells #[.pointer (some ⟨g, 0, none⟩)] 23 (0, 0)))
    (hg : w.heap[gb]? = some (.cells #[.bool true, .bool false, .bool false, .int .i64 0, .int .i64 0, .int .i64 0, .int .i64 0] 49 (0, 0))) (pS : ¬ S pb) (gS : ¬ S gb) (ne : pb ≠ gb) :
    Calls Try.prog 56 #[.func (.func 57) #[] #[.pointer (some ⟨pb, 0, none⟩), .pointer (some ⟨gb, 0, none⟩)], .pointer (some ⟨gb, 0, none⟩), .pointer (some ⟨pb, 0, none⟩)] w
      fun e w' => e = .returned (.tuple #[]) ∧ PipeAt w' (New S w w') g { x with buf := L, received := x.received + 1 } ∧
        w'.heap[gb]? = some (.cells #[.bool true, .bool true, .bool false, .int .i64 a, .int .i64 0, .int .i64 0, .int .i64 0] 49 (0, 0)) ∧ Frm (fun k => S k ∨ k = gb) w w' := by
  obtain ⟨b1, b2, b3, b4⟩ := hn
  obtain ⟨rgb, sp, rp, R, P, Q, h0⟩ := h.bound
  obtain ⟨c0, c1, c2, c3, c4, c5, cf⟩ := pipe_cells h0.row
  obtain ⟨p0, pf⟩ := box1 hp
  obtain ⟨r0, r1, r2, r3, r4, r5, r6, rf⟩ := box7 hg
  have gg : g ≠ gb := fun e => gS (by rw [← e]; exact h0.own.1)
  have gg' : gb ≠ g := fun e => gg e.symm
  have gp : g ≠ pb := fun e => pS (by rw [← e]; exact h0.own.1)
  have gp' : pb ≠ g := fun e => gp e.symm
  have ne' : gb ≠ pb := fun e => ne e.symm
  have l0 := lt_of_block h0.row
  have l1 := lt_of_block hp
  have l2 := lt_of_block hg
  have HX := Lib.hid hs
  have HB := Lib.hid hb
  clear hs hb
  go_enter Try.func56, Try.ntmps56
  go_wp2_with fail
  have e0 : Frm (fun k => k = gb) w w := Frm.refl _ _
  have y0 := e0.setCell (p := ⟨gb, 1, none⟩) (fun _ => rfl) (.bool true)
  have h1 := h0.move (fun k hk => y0.block k hk.2 (fun e => gS (by rw [← e]; exact hk.1)))
  have h2 := h1.received_ (x.received + 1)
  have h3 := h2.snd
  dsimp only at h3
  rw [HX.out] at h3
  refine (pew_take_none h3).mono ?_
  rintro e w2 ⟨rfl, h4, f4⟩
  have h5 := h2.snd_ h4 f4
  have g1 := blk_far (blk_set hg 1 (.bool true)) (p := ⟨g, 5, none⟩) gg' (.int .i64 (x.received + 1))
  have g2 := f4.blk g1 (fun hq => gS (h0.subP gb hq).1.1)
  have q2 := f4.blk (blk_far (blk_far hp (p := ⟨gb, 1, none⟩) ne (.bool true)) (p := ⟨g, 5, none⟩) gp' (.int .i64 (x.received + 1))) (fun hq => pS (h0.subP pb hq).1.1)
  dsimp [Array.setIfInBounds] at g2
  obtain ⟨s0, s1, s2, s3, s4, s5, s6, sf⟩ := box7 g2
  obtain ⟨u0, uf⟩ := box1 q2
  obtain ⟨d0, d1, d2, d3, d4, d5, df⟩ := pipe_cells h5.row
  unfold wzero Wtr.agg
  dsimp only at d3 d4 d5 ⊢
  have hT : ¬ New (fun k => S k ∧ k < w.heap.size) ((w.setCell ⟨gb, 1, none⟩ (.bool true)).setCell ⟨g, 5, none⟩ (.int .i64 (x.received + 1))) w2 gb := fun hk => hk.elim (fun h => gS h.1) (fun h => by have := h.1; simp [World.setCell] at this; omega)
  have hTp : ¬ New (fun k => S k ∧ k < w.heap.size) ((w.setCell ⟨gb, 1, none⟩ (.bool true)).setCell ⟨g, 5, none⟩ (.int .i64 (x.received + 1))) w2 pb := fun hk => hk.elim (fun h => pS h.1) (fun h => by have := h.1; simp [World.setCell] at this; omega)
  have e2 : Frm (fun k => k = gb) w2 w2 := Frm.refl _ _
  have y2 := (((e2.setCell (p := ⟨gb, 4, none⟩) (fun _ => rfl) (.int .i64 0)).setCell (p := ⟨gb, 5, none⟩) (fun _ => rfl) (.int .i64 0)).setCell (p := ⟨gb, 6, none⟩) (fun _ => rfl) (.int .i64 0)).setCell (p := ⟨gb, 2, none⟩) (fun _ => rfl) (.bool false)
  have h6 := h5.bound.move (fun k hk => y2.block k hk.2 (fun e => by subst e; exact hT hk.1))
  have g3 := blk_set (blk_set (blk_set (blk_set g2 4 (.int .i64 0)) 5 (.int .i64 0)) 6 (.int .i64 0)) 2 (.bool false)
  have q3 := y2.blk q2 ne
  go_wp2_with fail
  refine (recv2_none (y := ⟨true, true, false, 0, wzero⟩) ⟨_, _, _, _, _, _, h6⟩ HB.out q3 g3 (fun h => hTp h.1) (fun h => hT h.1) rfl 0).mono ?_
  rintro e w4 ⟨rfl, h7, f7⟩
  have g4 := f7.blk g3 (fun h => hT h.1)
  dsimp [Array.setIfInBounds] at g4
  obtain ⟨t0, t1, t2, t3, t4, t5, t6, tf⟩ := box7 g4
  go_wp2_with fail
  go_end0
  have e4 : Frm (fun k => k = gb) w4 w4 := Frm.refl _ _
  have y4 := e4.setCell (p := ⟨gb, 3, none⟩) (fun _ => rfl) (.int .i64 a)
  have hT4 : ¬ New (fun k => New (fun k => S k ∧ k < w.heap.size) ((w.setCell ⟨gb, 1, none⟩ (.bool true)).setCell ⟨g, 5, none⟩ (.int .i64 (x.received + 1))) w2 k ∧ k < w2.heap.size) ((((w2.setCell ⟨gb, 4, none⟩ (.int .i64 0)).setCell ⟨gb, 5, none⟩ (.int .i64 0)).setCell ⟨gb, 6, none⟩ (.int .i64 0)).setCell ⟨gb, 2, none⟩ (.bool false)) w4 gb := fun hk => hk.elim (fun h => hT h.1) (fun h => by have := h.1; have := f4.size; simp [World.setCell] at *; omega)
  have h8 := h7.bound.move (fun k hk => y4.block k hk.2 (fun e => by subst e; exact hT4 hk.1))
  have g5 := blk_set g4 3 (.int .i64 a)
  have w1s := f4.size
  have w3s := f7.size
  simp [World.setCell] at w1s w3s
  have z1 : Frm (fun k => S k ∨ k = gb) w _ := (((Frm.refl _ _).setCell (p := ⟨gb, 1, none⟩) (fun _ => .inr rfl) (.bool true)).setCell (p := ⟨g, 5, none⟩) (fun _ => .inl h0.own.1) (.int .i64 (x.received + 1))).trans f4 (fun k _ hq => .inl (h0.subP k hq).1.1)
  have z2 := ((z1.trans y2 (fun k _ e => .inr e)).trans f7 (fun k hk hq => hq.1.elim (fun h => .inl h.1) (fun h => by have := h.1; simp [World.setCell] at this; omega))).trans y4 (fun k _ e => .inr e)
  rw [show ({ size := x.size, buf := L, senders := x.senders, receivers := x.receivers, closed := x.closed, sent := x.sent, received := x.received + 1 } : PipeM) = { x with buf := L, senders := [], received := x.received + 1 } by rw [HX.out]]
  refine ⟨rfl, h8.mono (fun k hk => ?_), g5, z2⟩
  have hk2 := hk.2
  rcases hk.1 with hk | hk
  · rcases hk.1 with h | h
    · exact .inl h.1
    · refine .inr ⟨?_, ?_⟩
      · have := h.1; simp [World.setCell] at this; exact this
      · have := h.2; simp [World.setCell]; omega
  · refine .inr ⟨?_, ?_⟩
    · have := hk.1; simp [World.setCell] at this; omega
    · have := hk.2; simp [World.setCell]; omega
set_option maxRecDepth 100000 in
set_option maxHeartbeats 400000 in
theorem recv1_woke {a : Int} {L : List Int} {m : Wtr} {l : List Wtr} (h : PipeAt w S g x) (hb : x.buf = a :: L) (hs : x.senders = m :: l) (hl : l.length < 1000000) (hz : L.length < x.size) (hn : Cnt x) (hp : w.heap[pb]? = some (.cells #[.pointer (some ⟨g, 0, none⟩)] 23 (0, 0)))
    (hg : w.heap[gb]? = some (.cells #[.bool true, .bool false, .bool false, .int .i64 0, .int .i64 0, .int .i64 0, .int .i64 0] 49 (0, 0))) (pS : ¬ S pb) (gS : ¬ S gb) (ne : pb ≠ gb) :
    Calls Try.prog 56 #[.func (.func 57) #[] #[.pointer (some ⟨pb, 0, none⟩), .pointer (some ⟨gb, 0, none⟩)], .pointer (some ⟨gb, 0, none⟩), .pointer (some ⟨pb, 0, none⟩)] w
      fun e w' => e = .returned (.tuple #[]) ∧ PipeAt w' (New S w w') g { x with buf := L ++ [m.value], senders := l, sent := x.sent + 1, received := x.received + 1 } ∧
        w'.heap[gb]? = some (.cells #[.bool true, .bool true, .bool true, .int .i64 a, .int .i64 m.g, .int .i64 m.case_, .int .i64 m.value] 49 (0, 0)) ∧ Frm (fun k => S k ∨ k = gb) w w' := by
  obtain ⟨b1, b2, b3, b4⟩ := hn
  obtain ⟨mg, mc, mv⟩ := m
  dsimp only
  obtain ⟨rgb, sp, rp, R, P, Q, h0⟩ := h.bound
  obtain ⟨c0, c1, c2, c3, c4, c5, cf⟩ := pipe_cells h0.row
  obtain ⟨p0, pf⟩ := box1 hp
  obtain ⟨r0, r1, r2, r3, r4, r5, r6, rf⟩ := box7 hg
  have gg : g ≠ gb := fun e => gS (by rw [← e]; exact h0.own.1)
  have gg' : gb ≠ g := fun e => gg e.symm
  have gp : g ≠ pb := fun e => pS (by rw [← e]; exact h0.own.1)
  have gp' : pb ≠ g := fun e => gp e.symm
  have ne' : gb ≠ pb := fun e => ne e.symm
  have l0 := lt_of_block h0.row
  have l1 := lt_of_block hp
  have l2 := lt_of_block hg
  have HX := Lib.hid hs
  have HB := Lib.hid hb
  clear hs hb
  go_enter Try.func56, Try.ntmps56
  go_wp2_with fail
  have e0 : Frm (fun k => k = gb) w w := Frm.refl _ _
  have y0 := e0.setCell (p := ⟨gb, 1, none⟩) (fun _ => rfl) (.bool true)
  have h1 := h0.move (fun k hk => y0.block k hk.2 (fun e => gS (by rw [← e]; exact hk.1)))
  have h2 := h1.received_ (x.received + 1)
  have h3 := h2.snd
  dsimp only at h3
  rw [HX.out] at h3
  refine (pew_take h3 hl).mono ?_
  rintro e w2 ⟨rfl, h4, f4⟩
  have h5 := h2.snd_ h4 f4
  have g1 := blk_far (blk_set hg 1 (.bool true)) (p := ⟨g, 5, none⟩) gg' (.int .i64 (x.received + 1))
  have g2 := f4.blk g1 (fun hq => gS (h0.subP gb hq).1.1)
  have q2 := f4.blk (blk_far (blk_far hp (p := ⟨gb, 1, none⟩) ne (.bool true)) (p := ⟨g, 5, none⟩) gp' (.int .i64 (x.received + 1))) (fun hq => pS (h0.subP pb hq).1.1)
  dsimp [Array.setIfInBounds] at g2
  obtain ⟨s0, s1, s2, s3, s4, s5, s6, sf⟩ := box7 g2
  obtain ⟨u0, uf⟩ := box1 q2
  obtain ⟨d0, d1, d2, d3, d4, d5, df⟩ := pipe_cells h5.row
  unfold Wtr.agg
  dsimp only at d3 d4 d5 ⊢
  have hT : ¬ New (fun k => S k ∧ k < w.heap.size) ((w.setCell ⟨gb, 1, none⟩ (.bool true)).setCell ⟨g, 5, none⟩ (.int .i64 (x.received + 1))) w2 gb := fun hk => hk.elim (fun h => gS h.1) (fun h => by have := h.1; simp [World.setCell] at this; omega)
  have hTp : ¬ New (fun k => S k ∧ k < w.heap.size) ((w.setCell ⟨gb, 1, none⟩ (.bool true)).setCell ⟨g, 5, none⟩ (.int .i64 (x.received + 1))) w2 pb := fun hk => hk.elim (fun h => pS h.1) (fun h => by have := h.1; simp [World.setCell] at this; omega)
  have e2 : Frm (fun k => k = gb) w2 w2 := Frm.refl _ _
  have y2 := (((e2.setCell (p := ⟨gb, 4, none⟩) (fun _ => rfl) (.int .i64 mg)).setCell (p := ⟨gb, 5, none⟩) (fun _ => rfl) (.int .i64 mc)).setCell (p := ⟨gb, 6, none⟩) (fun _ => rfl) (.int .i64 mv)).setCell (p := ⟨gb, 2, none⟩) (fun _ => rfl) (.bool true)
  have h6 := h5.bound.move (fun k hk => y2.block k hk.2 (fun e => by subst e; exact hT hk.1))
  have g3 := blk_far (blk_set (blk_set (blk_set (blk_set g2 4 (.int .i64 mg)) 5 (.int .i64 mc)) 6 (.int .i64 mv)) 2 (.bool true)) (p := ⟨g, 4, none⟩) gg' (.int .i64 (x.sent + 1))
  have q3 := blk_far (y2.blk q2 ne) (p := ⟨g, 4, none⟩) gp' (.int .i64 (x.sent + 1))
  have h6a := h6.sent_ (x.sent + 1)
  go_wp2_with fail
  refine (recv2_woke (y := ⟨true, true, true, 0, ⟨mg, mc, mv⟩⟩) ⟨_, _, _, _, _, _, h6a⟩ HB.out hz q3 g3 (fun h => hTp h.1) (fun h => hT h.1) rfl mv).mono ?_
  rintro e w4 ⟨rfl, h7, f7⟩
  have g4 := f7.blk g3 (fun h => hT h.1)
  dsimp [Array.setIfInBounds] at g4
  obtain ⟨t0, t1, t2, t3, t4, t5, t6, tf⟩ := box7 g4
  go_wp2_with fail
  go_end0
  have e4 : Frm (fun k => k = gb) w4 w4 := Frm.refl _ _
  have y4 := e4.setCell (p := ⟨gb, 3, none⟩) (fun _ => rfl) (.int .i64 a)
  have hT4 : ¬ New (fun k => New (fun k => S k ∧ k < w.heap.size) ((w.setCell ⟨gb, 1, none⟩ (.bool true)).setCell ⟨g, 5, none⟩ (.int .i64 (x.received + 1))) w2 k ∧ k < w2.heap.size) (((((w2.setCell ⟨gb, 4, none⟩ (.int .i64 mg)).setCell ⟨gb, 5, none⟩ (.int .i64 mc)).setCell ⟨gb, 6, none⟩ (.int .i64 mv)).setCell ⟨gb, 2, none⟩ (.bool true)).setCell ⟨g, 4, none⟩ (.int .i64 (x.sent + 1))) w4 gb := fun hk => hk.elim (fun h => hT h.1) (fun h => by have := h.1; have := f4.size; simp [World.setCell] at *; omega)
  have h8 := h7.bound.move (fun k hk => y4.block k hk.2 (fun e => by subst e; exact hT4 hk.1))
  have g5 := blk_set g4 3 (.int .i64 a)
  have w1s := f4.size
  have w3s := f7.size
  simp [World.setCell] at w1s w3s
  have z1 : Frm (fun k => S k ∨ k = gb) w _ := (((Frm.refl _ _).setCell (p := ⟨gb, 1, none⟩) (fun _ => .inr rfl) (.bool true)).setCell (p := ⟨g, 5, none⟩) (fun _ => .inl h0.own.1) (.int .i64 (x.received + 1))).trans f4 (fun k _ hq => .inl (h0.subP k hq).1.1)
  have z2 := (((z1.trans y2 (fun k _ e => .inr e)).setCell (p := ⟨g, 4, none⟩) (fun _ => .inl h0.own.1) (.int .i64 (x.sent + 1))).trans f7 (fun k hk hq => hq.1.elim (fun h => .inl h.1) (fun h => by have := h.1; simp [World.setCell] at this; omega))).trans y4 (fun k _ e => .inr e)
  refine ⟨rfl, h8.mono (fun k hk => ?_), g5, z2⟩
  have hk2 := hk.2
  rcases hk.1 with hk | hk
  · rcases hk.1 with h | h
    · exact .inl h.1
    · refine .inr ⟨?_, ?_⟩
      · have := h.1; simp [World.setCell] at this; exact this
      · have := h.2; simp [World.setCell]; omega
  · refine .inr ⟨?_, ?_⟩
    · have := hk.1; simp [World.setCell] at this; omega
    · have := hk.2; simp [World.setCell]; omega
set_option maxRecDepth 100000 in
set_option maxHeartbeats 400000 in
theorem recv1_direct {m : Wtr} {l : List Wtr} (h : PipeAt w S g x) (hs : x.senders = m :: l) (hl : l.length < 1000000) (hn : Cnt x) (hp : w.heap[pb]? = some (.cells #[.pointer (some ⟨g, 0, none⟩)] 23 (0, 0)))
    (hg : w.heap[gb]? = some (.cells #[.bool true, .bool false, .bool false, .int .i64 0, .int .i64 0, .int .i64 0, .int .i64 0] 49 (0, 0))) (pS : ¬ S pb) (gS : ¬ S gb) (ne : pb ≠ gb) :
    Calls Try.prog 56 #[.func (.func 59) #[] #[], .pointer (some ⟨gb, 0, none⟩), .pointer (some ⟨pb, 0, none⟩)] w
      fun e w' => e = .returned (.tuple #[]) ∧ PipeAt w' (New S w w') g { x with senders := l, sent := x.sent + 1, received := x.received + 1 } ∧
        w'.heap[gb]? = some (.cells #[.bool true, .bool true, .bool true, .int .i64 m.value, .int .i64 m.g, .int .i64 m.case_, .int .i64 m.value] 49 (0, 0)) ∧ Frm (fun k => S k ∨ k = gb) w w' := by
  obtain ⟨b1, b2, b3, b4⟩ := hn
  obtain ⟨mg, mc, mv⟩ := m
  dsimp only
  obtain ⟨rgb, sp, rp, R, P, Q, h0⟩ := h.bound
  obtain ⟨c0, c1, c2, c3, c4, c5, cf⟩ := pipe_cells h0.row
  obtain ⟨p0, pf⟩ := box1 hp
  obtain ⟨r0, r1, r2, r3, r4, r5, r6, rf⟩ := box7 hg
  have gg : g ≠ gb := fun e => gS (by rw [← e]; exact h0.own.1)
  have gg' : gb ≠ g := fun e => gg e.symm
  have gp : g ≠ pb := fun e => pS (by rw [← e]; exact h0.own.1)
  have gp' : pb ≠ g := fun e => gp e.symm
  have ne' : gb ≠ pb := fun e => ne e.symm
  have l0 := lt_of_block h0.row
  have l1 := lt_of_block hp
  have l2 := lt_of_block hg
  have HX := Lib.hid hs
  clear hs
  go_enter Try.func56, Try.ntmps56
  go_wp2_with fail
  have e0 : Frm (fun k => k = gb) w w := Frm.refl _ _
  have y0 := e0.setCell (p := ⟨gb, 1, none⟩) (fun _ => rfl) (.bool true)
  have h1 := h0.move (fun k hk => y0.block k hk.2 (fun e => gS (by rw [← e]; exact hk.1)))
  have h2 := h1.received_ (x.received + 1)
  have h3 := h2.snd
  dsimp only at h3
  rw [HX.out] at h3
  refine (pew_take h3 hl).mono ?_
  rintro e w2 ⟨rfl, h4, f4⟩
  have h5 := h2.snd_ h4 f4
  have g1 := blk_far (blk_set hg 1 (.bool true)) (p := ⟨g, 5, none⟩) gg' (.int .i64 (x.received + 1))
  have g2 := f4.blk g1 (fun hq => gS (h0.subP gb hq).1.1)
  have q2 := f4.blk (blk_far (blk_far hp (p := ⟨gb, 1, none⟩) ne (.bool true)) (p := ⟨g, 5, none⟩) gp' (.int .i64 (x.received + 1))) (fun hq => pS (h0.subP pb hq).1.1)
  dsimp [Array.setIfInBounds] at g2
  obtain ⟨s0, s1, s2, s3, s4, s5, s6, sf⟩ := box7 g2
  obtain ⟨u0, uf⟩ := box1 q2
  obtain ⟨d0, d1, d2, d3, d4, d5, df⟩ := pipe_cells h5.row
  unfold Wtr.agg
  dsimp only at d3 d4 d5 ⊢
  have hT : ¬ New (fun k => S k ∧ k < w.heap.size) ((w.setCell ⟨gb, 1, none⟩ (.bool true)).setCell ⟨g, 5, none⟩ (.int .i64 (x.received + 1))) w2 gb := fun hk => hk.elim (fun h => gS h.1) (fun h => by have := h.1; simp [World.setCell] at this; omega)
  have hTp : ¬ New (fun k => S k ∧ k < w.heap.size) ((w.setCell ⟨gb, 1, none⟩ (.bool true)).setCell ⟨g, 5, none⟩ (.int .i64 (x.received + 1))) w2 pb := fun hk => hk.elim (fun h => pS h.1) (fun h => by have := h.1; simp [World.setCell] at this; omega)
  have e2 : Frm (fun k => k = gb) w2 w2 := Frm.refl _ _
  have y2 := (((e2.setCell (p := ⟨gb, 4, none⟩) (fun _ => rfl) (.int .i64 mg)).setCell (p := ⟨gb, 5, none⟩) (fun _ => rfl) (.int .i64 mc)).setCell (p := ⟨gb, 6, none⟩) (fun _ => rfl) (.int .i64 mv)).setCell (p := ⟨gb, 2, none⟩) (fun _ => rfl) (.bool true)
  have h6 := h5.bound.move (fun k hk => y2.block k hk.2 (fun e => by subst e; exact hT hk.1))
  have g3 := blk_far (blk_set (blk_set (blk_set (blk_set g2 4 (.int .i64 mg)) 5 (.int .i64 mc)) 6 (.int .i64 mv)) 2 (.bool true)) (p := ⟨g, 4, none⟩) gg' (.int .i64 (x.sent + 1))
  have q3 := blk_far (y2.blk q2 ne) (p := ⟨g, 4, none⟩) gp' (.int .i64 (x.sent + 1))
  have h6a := h6.sent_ (x.sent + 1)
  go_wp2_with fail
  refine (recv3 mv _).mono ?_
  rintro e w4 ⟨rfl, rfl⟩
  have g4 := g3
  dsimp [Array.setIfInBounds] at g4
  go_wp2_with fail
  go_end0
  have y6 := (e2.setCell (p := ⟨gb, 4, none⟩) (fun _ => rfl) (.int .i64 mg))
  have h7 : PipeAt _ _ g { x with senders := l, sent := x.sent + 1, received := x.received + 1 } := ⟨_, _, _, _, _, _, h6a⟩
  obtain ⟨w5, hw5⟩ : ∃ w5, (((((w2.setCell ⟨gb, 4, none⟩ (.int .i64 mg)).setCell ⟨gb, 5, none⟩ (.int .i64 mc)).setCell ⟨gb, 6, none⟩ (.int .i64 mv)).setCell ⟨gb, 2, none⟩ (.bool true)).setCell ⟨g, 4, none⟩ (.int .i64 (x.sent + 1))) = w5 := ⟨_, rfl⟩
  have s5 : w2.heap.size = w5.heap.size := by rw [← hw5]; simp [World.setCell]
  have w1s := f4.size
  simp [World.setCell] at w1s
  have z1 : Frm (fun k => S k ∨ k = gb) w _ := (((Frm.refl _ _).setCell (p := ⟨gb, 1, none⟩) (fun _ => .inr rfl) (.bool true)).setCell (p := ⟨g, 5, none⟩) (fun _ => .inl h0.own.1) (.int .i64 (x.received + 1))).trans f4 (fun k _ hq => .inl (h0.subP k hq).1.1)
  have z2 := (z1.trans y2 (fun k _ e => .inr e)).setCell (p := ⟨g, 4, none⟩) (fun _ => .inl h0.own.1) (.int .i64 (x.sent + 1))
  rw [hw5] at g4 h7 z2 ⊢
  have e4 : Frm (fun k => k = gb) w5 w5 := Frm.refl _ _
  have y4 := e4.setCell (p := ⟨gb, 3, none⟩) (fun _ => rfl) (.int .i64 mv)
  have h8 := h7.bound.move (fun k hk => y4.block k hk.2 (fun e => by subst e; exact hT hk.1.1))
  have g5 := blk_set g4 3 (.int .i64 mv)
  have z3 := z2.trans y4 (fun k _ e => .inr e)
  refine ⟨rfl, h8.mono (fun k hk => ?_), g5, z3⟩
  have hk2 := hk.2
  rcases hk.1.1 with h | h
  · exact .inl h.1
  · refine .inr ⟨?_, ?_⟩
    · have := h.1; simp [World.setCell] at this; exact this
    · have := h.2; simp [World.setCell]; omega
end

end Go.Proofs.Ytlccpbdpfamekaa
