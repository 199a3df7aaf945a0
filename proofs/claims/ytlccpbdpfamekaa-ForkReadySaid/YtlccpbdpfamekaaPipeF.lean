/- Layer 9, pipe: Recv whole. -/
import Derived.Test.YtlccpbdpfamekaaPipeE
import Derived.Test.YtlccpbdpfamekaaSep
namespace Go.Proofs.Ytlccpbdpfamekaa
set_option linter.unusedVariables false
set_option linter.unusedSimpArgs false
open Go.RowKit

/-- A pipe as a piece. -/
def PipeP (g : Nat) (x : PipeM) : Piece := ofAt (fun w S => PipeAt w S g x) PipeAt.move PipeAt.mono

theorem PipePost.sl {w : World} {S : Nat → Prop} {g : Nat} {x : PipeM} {F : List Piece} {r : Value} {y : PipeM} {P : Program} {n : Nat} {args : Array Value}
    (h : ∀ S, PipeAt w S g x → Calls P n args w (PipePost S g w r y)) (H : SL w (PipeP g x :: F)) : Calls P n args w fun e w' => e = .returned r ∧ SL w' (PipeP g y :: F) := by
  obtain ⟨S, h1, _, h2⟩ := H.call
  refine (h S h1).mono ?_
  rintro e w' ⟨rfl, h3, h4⟩
  exact ⟨rfl, h2 w' [PipeP g y] h4 ⟨_, fun _ h => h, h3, trivial⟩⟩

theorem sl_recv1 {w : World} {g pb gb : Nat} {x y : PipeM} {cs cs' : Array Value} {t t' : Nat} {cp : Array Value} {F : List Piece} {P : Program} {n : Nat} {args : Array Value}
    (h : ∀ S : Nat → Prop, PipeAt w S g x → w.heap[pb]? = some (.cells cp t' (0, 0)) → w.heap[gb]? = some (.cells cs t (0, 0)) → ¬ S pb → ¬ S gb → pb ≠ gb → Calls P n args w
      fun e w' => e = .returned (.tuple #[]) ∧ PipeAt w' (New S w w') g y ∧ w'.heap[gb]? = some (.cells cs' t (0, 0)) ∧ Frm (fun k => S k ∨ k = gb) w w')
    (H : SL w (PipeP g x :: row pb cp t' :: row gb cs t :: F)) : Calls P n args w fun e w' => e = .returned (.tuple #[]) ∧ SL w' (PipeP g y :: row pb cp t' :: row gb cs' t :: F) := by
  have H' : SL w (all [PipeP g x, row pb cp t', row gb cs t] :: F) := SL.all.2 H
  obtain ⟨S, ⟨T, t1, t2, U, u1, u2, V, v1, v2, _⟩, hS, hG⟩ := H'.call
  have np : ¬ T pb := (u1 pb u2.1).2
  have ng : ¬ T gb := (v1 gb v2.1).1.2
  have npg : ¬ U gb := (v1 gb v2.1).2
  have npg' : pb ≠ gb := fun e => npg (by rw [← e]; exact u2.1)
  refine (h T t2 u2.2 v2.2 np ng npg').mono ?_
  rintro e w' ⟨rfl, h3, h4, h5⟩
  refine ⟨rfl, hG w' [PipeP g y, row pb cp t', row gb cs' t] (h5.mono (fun k _ hk => hk.elim (t1 k) (fun e => by rw [e]; exact (v1 gb v2.1).1.1))) ?_⟩
  have hpl := hS pb (u1 pb u2.1).1
  have hgl := hS gb (v1 gb v2.1).1.1
  refine ⟨New T w w', fun k hk => hk.imp (t1 k) id, h3, fun k => k = pb, fun k hk => ?_, ⟨rfl, h5.blk u2.2 (fun h => h.elim np npg')⟩, fun k => k = gb, fun k hk => ?_, ⟨rfl, h4⟩, trivial⟩
  · subst hk
    exact ⟨.inl (u1 k u2.1).1, fun h => h.elim np (fun h => by omega)⟩
  · subst hk
    exact ⟨⟨.inl (v1 k v2.1).1.1, fun h => h.elim ng (fun h => by omega)⟩, fun h => npg' h.symm⟩

def recvF (x : PipeM) : GotM × PipeM :=
  match x.buf, x.senders with
  | a :: L, m :: l => (⟨true, true, true, a, m⟩, { x with buf := L ++ [m.value], senders := l, sent := x.sent + 1, received := x.received + 1 })
  | a :: L, [] => (⟨true, true, false, a, wzero⟩, { x with buf := L, received := x.received + 1 })
  | [], m :: l => (⟨true, true, true, m.value, m⟩, { x with senders := l, sent := x.sent + 1, received := x.received + 1 })
  | [], [] => if x.closed then ({ gzero with ready := true }, x) else (gzero, x)

/-- What a method gives back, and the pipe behind it. -/
def Does (g : Nat) (F : List Piece) (r : Value) (y : PipeM) : Ending → World → Prop := fun e w' => e = .returned r ∧ SL w' (PipeP g y :: F)

section
variable {w : World} {F : List Piece} {g : Nat} {x : PipeM}

theorem sl_ready (s : Bool) (H : SL w (PipeP g x :: F)) : Calls Try.prog 20 #[.pointer (some ⟨g, 0, none⟩), .bool s] w fun e w' => e = .returned (.bool (readyF x s)) ∧ SL w' (PipeP g x :: F) := by
  obtain ⟨S, _, h⟩ := H.on
  exact (pipe_ready h s).mono (fun e w' q => ⟨q.1, H.later q.2⟩)

set_option maxRecDepth 100000 in
set_option maxHeartbeats 400000 in
theorem recv_no (hr : readyF x false = false) (H : SL w (PipeP g x :: F)) : Calls Try.prog 24 #[.pointer (some ⟨g, 0, none⟩)] w (Does g F gzero.agg x) := by
  unfold gzero GotM.agg wzero Does
  dsimp only
  go_enter Try.func24, Try.ntmps24
  go_wp2_with fail
  have H1 := (H.alloc (.cells #[.pointer (some ⟨g, 0, none⟩)] 23)).alloc (.cells #[.bool false, .bool false, .bool false, .int .i64 0, .int .i64 0, .int .i64 0, .int .i64 0] 49)
  rw [size_alloc] at H1
  obtain ⟨pb, hpb⟩ : ∃ b, w.heap.size = b := ⟨_, rfl⟩
  obtain ⟨r, hrb⟩ : ∃ b, pb + 1 = b := ⟨_, rfl⟩
  rw [hpb, hrb] at H1 ⊢
  clear hpb hrb
  refine (sl_ready false H1.up2).mono ?_
  rw [hr]
  clear hr
  rintro e w1 ⟨rfl, H2⟩
  obtain ⟨r0, r1, r2, r3, r4, r5, r6, rf⟩ := box7 H2.at1
  have rl := lt_of_block H2.at1
  go_wp2_with fail
  refine bodyPost_ret (v := .agg #[.bool false, .bool false, .bool false, .int .i64 0, .int .i64 0, .int .i64 0, .int .i64 0]) (by simp [results, Try.results24, go_sem, r0, r1, r2, r3, r4, r5, r6, rl]) rfl ⟨rfl, (?_ : SL _ (any r :: PipeP g x :: F)).tl⟩
  repeat (first | with_reducible refine SL.scr ?_ _ _ | with_reducible refine SL.allocd ?_ _ | with_reducible exact H2.up1.toAny.drop2)

theorem sl_len (H : SL w (PipeP g x :: F)) : Calls Try.prog 16 #[.pointer (some ⟨g, 0, none⟩)] w fun e w' => e = .returned (.int .i64 x.buf.length) ∧ w = w' := by
  obtain ⟨S, _, h⟩ := H.on
  exact pipe_len h

set_option maxRecDepth 100000 in
set_option maxHeartbeats 400000 in
theorem recv_closed (hc : x.closed = true) (hb : x.buf = []) (hs : x.senders = []) (H : SL w (PipeP g x :: F)) : Calls Try.prog 24 #[.pointer (some ⟨g, 0, none⟩)] w (Does g F ({ gzero with ready := true } : GotM).agg x) := by
  unfold Does
  have hr : readyF x false = true := by unfold readyF; simp [hc]
  unfold gzero GotM.agg wzero
  dsimp only
  clear hc
  have HX := Lib.hid (⟨hb, hs⟩ : _ ∧ _)
  have hbl : x.buf.length = _ := congrArg List.length hb
  clear hb hs
  go_enter Try.func24, Try.ntmps24
  go_wp2_with fail
  have H1 := (H.alloc (.cells #[.pointer (some ⟨g, 0, none⟩)] 23)).alloc (.cells #[.bool false, .bool false, .bool false, .int .i64 0, .int .i64 0, .int .i64 0, .int .i64 0] 49)
  rw [size_alloc] at H1
  obtain ⟨pb, hpb⟩ : ∃ b, w.heap.size = b := ⟨_, rfl⟩
  obtain ⟨r, hrb⟩ : ∃ b, pb + 1 = b := ⟨_, rfl⟩
  rw [hpb, hrb] at H1 ⊢
  clear hpb hrb
  refine (sl_ready false H1.up2).mono ?_
  rw [hr]
  clear hr
  rintro e w1 ⟨rfl, H2⟩
  obtain ⟨r0, r1, r2, r3, r4, r5, r6, rf⟩ := box7 H2.at1
  obtain ⟨p0, pf⟩ := box1 H2.at2
  have rl := lt_of_block H2.at1
  have pl := lt_of_block H2.at2
  obtain ⟨n1, n2⟩ := H2.ne 1 2 (by decide) rfl rfl
  go_wp2_with fail
  have H3 := (H2.alloc (.cells #[.bool true, .bool false, .bool false, .int .i64 0, .int .i64 0, .int .i64 0, .int .i64 0] 49)).up1
  obtain ⟨gb, hgb⟩ : ∃ b, w1.heap.size = b := ⟨_, rfl⟩
  obtain ⟨w2, hw2⟩ : ∃ w2, w1.alloc (.cells #[.bool true, .bool false, .bool false, .int .i64 0, .int .i64 0, .int .i64 0, .int .i64 0] 49) = w2 := ⟨_, rfl⟩
  rw [hw2, hgb] at H3
  rw [hw2, hgb]
  clear hw2 hgb r0 r1 r2 r3 r4 r5 r6 rf p0 pf rl pl n1 n2
  obtain ⟨g0, g1, g2, g3, g4, g5, g6, gf⟩ := box7 H3.at1
  obtain ⟨r0, r1, r2, r3, r4, r5, r6, rf⟩ := box7 H3.at2
  obtain ⟨p0, pf⟩ := box1 H3.at3
  have gl := lt_of_block H3.at1
  have rl := lt_of_block H3.at2
  have pl := lt_of_block H3.at3
  obtain ⟨n1, n2⟩ := H3.ne 1 2 (by decide) rfl rfl
  obtain ⟨n3, n4⟩ := H3.ne 1 3 (by decide) rfl rfl
  obtain ⟨n5, n6⟩ := H3.ne 2 3 (by decide) rfl rfl
  have K1 := sl_len H3
  rw [hbl] at K1
  clear hbl
  simp only [List.length_nil, List.length_cons] at K1
  refine K1.mono ?_
  rintro e w' ⟨rfl, rfl⟩
  clear K1
  obtain ⟨S, hS, rgb, sp, rp, R, P, Q, hq⟩ := H3.on
  obtain ⟨c0, c1, c2, c3, c4, c5, cf⟩ := pipe_cells hq.row
  have cl := lt_of_block hq.row
  go_wp2_with fail
  have K2 := pew_len hq.snd
  rw [HX.out.2] at K2
  simp only [List.length_nil, List.length_cons] at K2
  refine K2.mono ?_
  rintro e w' ⟨rfl, rfl⟩
  clear K2
  go_wp2_with fail
  refine bodyPost_ret (v := .agg #[.bool true, .bool false, .bool false, .int .i64 0, .int .i64 0, .int .i64 0, .int .i64 0]) (by simp [results, Try.results24, go_sem, r0, r1, r2, r3, r4, r5, r6, rl]) rfl ⟨rfl, (?_ : SL _ (any r :: PipeP g _ :: F)).tl⟩
  repeat (first | with_reducible refine SL.scr ?_ _ _ | with_reducible refine SL.allocd ?_ _ | with_reducible exact H3.up2.toAny.drop3.drop2)

set_option maxRecDepth 100000 in
set_option maxHeartbeats 400000 in
theorem recv_none {a : Int} {L : List Int} (hb : x.buf = a :: L) (hs : x.senders = []) (hn : Cnt x) (H : SL w (PipeP g x :: F)) : Calls Try.prog 24 #[.pointer (some ⟨g, 0, none⟩)] w (Does g F (⟨true, true, false, a, wzero⟩ : GotM).agg { x with buf := L, received := x.received + 1 }) := by
  unfold Does
  have hr : readyF x false = true := by unfold readyF; simp [hb]
  unfold GotM.agg wzero
  dsimp only
  have HX := Lib.hid (⟨hb, hs⟩ : _ ∧ _)
  have hbl : x.buf.length = _ := congrArg List.length hb
  clear hb hs
  go_enter Try.func24, Try.ntmps24
  go_wp2_with fail
  have H1 := (H.alloc (.cells #[.pointer (some ⟨g, 0, none⟩)] 23)).alloc (.cells #[.bool false, .bool false, .bool false, .int .i64 0, .int .i64 0, .int .i64 0, .int .i64 0] 49)
  rw [size_alloc] at H1
  obtain ⟨pb, hpb⟩ : ∃ b, w.heap.size = b := ⟨_, rfl⟩
  obtain ⟨r, hrb⟩ : ∃ b, pb + 1 = b := ⟨_, rfl⟩
  rw [hpb, hrb] at H1 ⊢
  clear hpb hrb
  refine (sl_ready false H1.up2).mono ?_
  rw [hr]
  clear hr
  rintro e w1 ⟨rfl, H2⟩
  obtain ⟨r0, r1, r2, r3, r4, r5, r6, rf⟩ := box7 H2.at1
  obtain ⟨p0, pf⟩ := box1 H2.at2
  have rl := lt_of_block H2.at1
  have pl := lt_of_block H2.at2
  obtain ⟨n1, n2⟩ := H2.ne 1 2 (by decide) rfl rfl
  go_wp2_with fail
  have H3 := (H2.alloc (.cells #[.bool true, .bool false, .bool false, .int .i64 0, .int .i64 0, .int .i64 0, .int .i64 0] 49)).up1
  obtain ⟨gb, hgb⟩ : ∃ b, w1.heap.size = b := ⟨_, rfl⟩
  obtain ⟨w2, hw2⟩ : ∃ w2, w1.alloc (.cells #[.bool true, .bool false, .bool false, .int .i64 0, .int .i64 0, .int .i64 0, .int .i64 0] 49) = w2 := ⟨_, rfl⟩
  rw [hw2, hgb] at H3
  rw [hw2, hgb]
  clear hw2 hgb r0 r1 r2 r3 r4 r5 r6 rf p0 pf rl pl n1 n2
  obtain ⟨g0, g1, g2, g3, g4, g5, g6, gf⟩ := box7 H3.at1
  obtain ⟨r0, r1, r2, r3, r4, r5, r6, rf⟩ := box7 H3.at2
  obtain ⟨p0, pf⟩ := box1 H3.at3
  have gl := lt_of_block H3.at1
  have rl := lt_of_block H3.at2
  have pl := lt_of_block H3.at3
  obtain ⟨n1, n2⟩ := H3.ne 1 2 (by decide) rfl rfl
  obtain ⟨n3, n4⟩ := H3.ne 1 3 (by decide) rfl rfl
  obtain ⟨n5, n6⟩ := H3.ne 2 3 (by decide) rfl rfl
  have K1 := sl_len H3
  rw [hbl] at K1
  clear hbl
  simp only [List.length_nil, List.length_cons] at K1
  refine K1.mono ?_
  rintro e w' ⟨rfl, rfl⟩
  clear K1
  go_wp2_with fail
  have H3' : SL w2 (PipeP g x :: row pb _ _ :: row gb _ _ :: row r _ _ :: F) := H3.up3.dn1
  refine (sl_recv1 (fun S h hp hg pS gS ne => recv1_none h HX.out.1 HX.out.2 hn hp hg pS gS ne) H3').mono ?_
  rintro e w3 ⟨rfl, H4⟩
  clear g0 g1 g2 g3 g4 g5 g6 gf r0 r1 r2 r3 r4 r5 r6 rf p0 pf gl rl pl
  obtain ⟨g0, g1, g2, g3, g4, g5, g6, gf⟩ := box7 H4.at2
  obtain ⟨r0, r1, r2, r3, r4, r5, r6, rf⟩ := box7 H4.at3
  have gl := lt_of_block H4.at2
  have rl := lt_of_block H4.at3
  go_wp2_with fail
  refine bodyPost_ret (v := .agg #[.bool true, .bool true, .bool false, .int .i64 a, .int .i64 0, .int .i64 0, .int .i64 0]) (by simp [results, Try.results24, go_sem, r0, r1, r2, r3, r4, r5, r6, rl]) rfl ⟨rfl, (?_ : SL _ (any r :: PipeP g _ :: F)).tl⟩
  repeat (first | with_reducible refine SL.scr ?_ _ _ | with_reducible refine SL.allocd ?_ _ | with_reducible exact H4.up3.toAny.drop3.drop2)

set_option maxRecDepth 100000 in
set_option maxHeartbeats 400000 in
theorem recv_woke {a : Int} {L : List Int} {m : Wtr} {l : List Wtr} (hb : x.buf = a :: L) (hs : x.senders = m :: l) (hl : l.length < 1000000) (hz : L.length < x.size) (hn : Cnt x) (H : SL w (PipeP g x :: F)) : Calls Try.prog 24 #[.pointer (some ⟨g, 0, none⟩)] w (Does g F (⟨true, true, true, a, m⟩ : GotM).agg { x with buf := L ++ [m.value], senders := l, sent := x.sent + 1, received := x.received + 1 }) := by
  unfold Does
  have hr : readyF x false = true := by unfold readyF; simp [hb]
  obtain ⟨mg, mc, mv⟩ := m
  unfold GotM.agg
  dsimp only
  have HX := Lib.hid (⟨hb, hs⟩ : _ ∧ _)
  have hbl : x.buf.length = _ := congrArg List.length hb
  clear hb hs
  go_enter Try.func24, Try.ntmps24
  go_wp2_with fail
  have H1 := (H.alloc (.cells #[.pointer (some ⟨g, 0, none⟩)] 23)).alloc (.cells #[.bool false, .bool false, .bool false, .int .i64 0, .int .i64 0, .int .i64 0, .int .i64 0] 49)
  rw [size_alloc] at H1
  obtain ⟨pb, hpb⟩ : ∃ b, w.heap.size = b := ⟨_, rfl⟩
  obtain ⟨r, hrb⟩ : ∃ b, pb + 1 = b := ⟨_, rfl⟩
  rw [hpb, hrb] at H1 ⊢
  clear hpb hrb
  refine (sl_ready false H1.up2).mono ?_
  rw [hr]
  clear hr
  rintro e w1 ⟨rfl, H2⟩
  obtain ⟨r0, r1, r2, r3, r4, r5, r6, rf⟩ := box7 H2.at1
  obtain ⟨p0, pf⟩ := box1 H2.at2
  have rl := lt_of_block H2.at1
  have pl := lt_of_block H2.at2
  obtain ⟨n1, n2⟩ := H2.ne 1 2 (by decide) rfl rfl
  go_wp2_with fail
  have H3 := (H2.alloc (.cells #[.bool true, .bool false, .bool false, .int .i64 0, .int .i64 0, .int .i64 0, .int .i64 0] 49)).up1
  obtain ⟨gb, hgb⟩ : ∃ b, w1.heap.size = b := ⟨_, rfl⟩
  obtain ⟨w2, hw2⟩ : ∃ w2, w1.alloc (.cells #[.bool true, .bool false, .bool false, .int .i64 0, .int .i64 0, .int .i64 0, .int .i64 0] 49) = w2 := ⟨_, rfl⟩
  rw [hw2, hgb] at H3
  rw [hw2, hgb]
  clear hw2 hgb r0 r1 r2 r3 r4 r5 r6 rf p0 pf rl pl n1 n2
  obtain ⟨g0, g1, g2, g3, g4, g5, g6, gf⟩ := box7 H3.at1
  obtain ⟨r0, r1, r2, r3, r4, r5, r6, rf⟩ := box7 H3.at2
  obtain ⟨p0, pf⟩ := box1 H3.at3
  have gl := lt_of_block H3.at1
  have rl := lt_of_block H3.at2
  have pl := lt_of_block H3.at3
  obtain ⟨n1, n2⟩ := H3.ne 1 2 (by decide) rfl rfl
  obtain ⟨n3, n4⟩ := H3.ne 1 3 (by decide) rfl rfl
  obtain ⟨n5, n6⟩ := H3.ne 2 3 (by decide) rfl rfl
  have K1 := sl_len H3
  rw [hbl] at K1
  clear hbl
  simp only [List.length_nil, List.length_cons] at K1
  refine K1.mono ?_
  rintro e w' ⟨rfl, rfl⟩
  clear K1
  go_wp2_with fail
  have H3' : SL w2 (PipeP g x :: row pb _ _ :: row gb _ _ :: row r _ _ :: F) := H3.up3.dn1
  refine (sl_recv1 (fun S h hp hg pS gS ne => recv1_woke h HX.out.1 HX.out.2 hl hz hn hp hg pS gS ne) H3').mono ?_
  rintro e w3 ⟨rfl, H4⟩
  clear g0 g1 g2 g3 g4 g5 g6 gf r0 r1 r2 r3 r4 r5 r6 rf p0 pf gl rl pl
  obtain ⟨g0, g1, g2, g3, g4, g5, g6, gf⟩ := box7 H4.at2
  obtain ⟨r0, r1, r2, r3, r4, r5, r6, rf⟩ := box7 H4.at3
  have gl := lt_of_block H4.at2
  have rl := lt_of_block H4.at3
  go_wp2_with fail
  refine bodyPost_ret (v := .agg #[.bool true, .bool true, .bool true, .int .i64 a, .int .i64 mg, .int .i64 mc, .int .i64 mv]) (by simp [results, Try.results24, go_sem, r0, r1, r2, r3, r4, r5, r6, rl]) rfl ⟨rfl, (?_ : SL _ (any r :: PipeP g _ :: F)).tl⟩
  repeat (first | with_reducible refine SL.scr ?_ _ _ | with_reducible refine SL.allocd ?_ _ | with_reducible exact H4.up3.toAny.drop3.drop2)

set_option maxRecDepth 100000 in
set_option maxHeartbeats 400000 in
theorem recv_direct {m : Wtr} {l : List Wtr} (hb : x.buf = []) (hs : x.senders = m :: l) (hl : l.length < 1000000) (hn : Cnt x) (H : SL w (PipeP g x :: F)) : Calls Try.prog 24 #[.pointer (some ⟨g, 0, none⟩)] w (Does g F (⟨true, true, true, m.value, m⟩ : GotM).agg { x with senders := l, sent := x.sent + 1, received := x.received + 1 }) := by
  unfold Does
  have hr : readyF x false = true := by unfold readyF; simp [hs]
  obtain ⟨mg, mc, mv⟩ := m
  unfold GotM.agg
  dsimp only
  have HX := Lib.hid (⟨hb, hs⟩ : _ ∧ _)
  have hbl : x.buf.length = _ := congrArg List.length hb
  clear hb hs
  go_enter Try.func24, Try.ntmps24
  go_wp2_with fail
  have H1 := (H.alloc (.cells #[.pointer (some ⟨g, 0, none⟩)] 23)).alloc (.cells #[.bool false, .bool false, .bool false, .int .i64 0, .int .i64 0, .int .i64 0, .int .i64 0] 49)
  rw [size_alloc] at H1
  obtain ⟨pb, hpb⟩ : ∃ b, w.heap.size = b := ⟨_, rfl⟩
  obtain ⟨r, hrb⟩ : ∃ b, pb + 1 = b := ⟨_, rfl⟩
  rw [hpb, hrb] at H1 ⊢
  clear hpb hrb
  refine (sl_ready false H1.up2).mono ?_
  rw [hr]
  clear hr
  rintro e w1 ⟨rfl, H2⟩
  obtain ⟨r0, r1, r2, r3, r4, r5, r6, rf⟩ := box7 H2.at1
  obtain ⟨p0, pf⟩ := box1 H2.at2
  have rl := lt_of_block H2.at1
  have pl := lt_of_block H2.at2
  obtain ⟨n1, n2⟩ := H2.ne 1 2 (by decide) rfl rfl
  go_wp2_with fail
  have H3 := (H2.alloc (.cells #[.bool true, .bool false, .bool false, .int .i64 0, .int .i64 0, .int .i64 0, .int .i64 0] 49)).up1
  obtain ⟨gb, hgb⟩ : ∃ b, w1.heap.size = b := ⟨_, rfl⟩
  obtain ⟨w2, hw2⟩ : ∃ w2, w1.alloc (.cells #[.bool true, .bool false, .bool false, .int .i64 0, .int .i64 0, .int .i64 0, .int .i64 0] 49) = w2 := ⟨_, rfl⟩
  rw [hw2, hgb] at H3
  rw [hw2, hgb]
  clear hw2 hgb r0 r1 r2 r3 r4 r5 r6 rf p0 pf rl pl n1 n2
  obtain ⟨g0, g1, g2, g3, g4, g5, g6, gf⟩ := box7 H3.at1
  obtain ⟨r0, r1, r2, r3, r4, r5, r6, rf⟩ := box7 H3.at2
  obtain ⟨p0, pf⟩ := box1 H3.at3
  have gl := lt_of_block H3.at1
  have rl := lt_of_block H3.at2
  have pl := lt_of_block H3.at3
  obtain ⟨n1, n2⟩ := H3.ne 1 2 (by decide) rfl rfl
  obtain ⟨n3, n4⟩ := H3.ne 1 3 (by decide) rfl rfl
  obtain ⟨n5, n6⟩ := H3.ne 2 3 (by decide) rfl rfl
  have K1 := sl_len H3
  rw [hbl] at K1
  clear hbl
  simp only [List.length_nil, List.length_cons] at K1
  refine K1.mono ?_
  rintro e w' ⟨rfl, rfl⟩
  clear K1
  obtain ⟨S, hS, rgb, sp, rp, R, P, Q, hq⟩ := H3.on
  obtain ⟨c0, c1, c2, c3, c4, c5, cf⟩ := pipe_cells hq.row
  have cl := lt_of_block hq.row
  go_wp2_with fail
  have K2 := pew_len hq.snd
  rw [HX.out.2] at K2
  simp only [List.length_nil, List.length_cons] at K2
  refine K2.mono ?_
  rintro e w' ⟨rfl, rfl⟩
  clear K2
  go_wp2_with fail
  have H3' : SL w2 (PipeP g x :: row pb _ _ :: row gb _ _ :: row r _ _ :: F) := H3.up3.dn1
  refine (sl_recv1 (fun S h hp hg pS gS ne => recv1_direct h HX.out.2 hl hn hp hg pS gS ne) H3').mono ?_
  rintro e w3 ⟨rfl, H4⟩
  clear g0 g1 g2 g3 g4 g5 g6 gf r0 r1 r2 r3 r4 r5 r6 rf p0 pf gl rl pl
  obtain ⟨g0, g1, g2, g3, g4, g5, g6, gf⟩ := box7 H4.at2
  obtain ⟨r0, r1, r2, r3, r4, r5, r6, rf⟩ := box7 H4.at3
  have gl := lt_of_block H4.at2
  have rl := lt_of_block H4.at3
  go_wp2_with fail
  refine bodyPost_ret (v := .agg #[.bool true, .bool true, .bool true, .int .i64 mv, .int .i64 mg, .int .i64 mc, .int .i64 mv]) (by simp [results, Try.results24, go_sem, r0, r1, r2, r3, r4, r5, r6, rl]) rfl ⟨rfl, (?_ : SL _ (any r :: PipeP g _ :: F)).tl⟩
  repeat (first | with_reducible refine SL.scr ?_ _ _ | with_reducible refine SL.allocd ?_ _ | with_reducible exact H4.up3.toAny.drop3.drop2)


theorem sl_recv (hl : x.senders.length ≤ 1000000) (hz : x.buf.length ≤ x.size) (hn : Cnt x) (H : SL w (PipeP g x :: F)) :
    Calls Try.prog 24 #[.pointer (some ⟨g, 0, none⟩)] w (Does g F (recvF x).1.agg (recvF x).2) := by
  rcases hb : x.buf with _ | ⟨a, L⟩
  · rcases hs : x.senders with _ | ⟨m, l⟩
    · by_cases hc : x.closed = true
      · rw [show recvF x = ({ gzero with ready := true }, x) by unfold recvF; rw [hb, hs]; simp [hc]]
        exact recv_closed hc hb hs H
      · rw [show recvF x = (gzero, x) by unfold recvF; rw [hb, hs]; simp [hc]]
        exact recv_no (by unfold readyF; simp [hc, hb, hs]) H
    · rw [show recvF x = (⟨true, true, true, m.value, m⟩, { x with senders := l, sent := x.sent + 1, received := x.received + 1 }) by unfold recvF; rw [hb, hs]]
      exact recv_direct hb hs (by rw [hs] at hl; simp at hl; omega) hn H
  · rcases hs : x.senders with _ | ⟨m, l⟩
    · rw [show recvF x = (⟨true, true, false, a, wzero⟩, { x with buf := L, received := x.received + 1 }) by unfold recvF; rw [hb, hs]]
      exact recv_none hb hs hn H
    · rw [show recvF x = (⟨true, true, true, a, m⟩, { x with buf := L ++ [m.value], senders := l, sent := x.sent + 1, received := x.received + 1 }) by unfold recvF; rw [hb, hs]]
      exact recv_woke hb hs (by rw [hs] at hl; simp at hl; omega) (by rw [hb] at hz; simp at hz; omega) hn H
end

set_option maxRecDepth 100000 in
set_option maxHeartbeats 400000 in
theorem pipe_recv_nil (w : World) : Calls Try.prog 24 #[.pointer none] w fun e w' => e = .returned gzero.agg ∧ Frm Nil w w' := by
  unfold gzero GotM.agg wzero
  dsimp only
  have H := SL.start w
  go_enter Try.func24, Try.ntmps24
  go_wp2_with fail
  have H1 := (H.alloc (.cells #[.pointer none] 23)).alloc (.cells #[.bool false, .bool false, .bool false, .int .i64 0, .int .i64 0, .int .i64 0, .int .i64 0] 49)
  rw [size_alloc] at H1
  obtain ⟨pb, hpb⟩ : ∃ b, w.heap.size = b := ⟨_, rfl⟩
  obtain ⟨r, hrb⟩ : ∃ b, pb + 1 = b := ⟨_, rfl⟩
  rw [hpb, hrb] at H1 ⊢
  clear hpb hrb
  refine (pipe_ready_nil false _).mono ?_
  rintro e w1 ⟨rfl, f1⟩
  have H2 := H1.later f1
  obtain ⟨r0, r1, r2, r3, r4, r5, r6, rf⟩ := box7 H2.at0
  have rl := lt_of_block H2.at0
  go_wp2_with fail
  refine bodyPost_ret (v := .agg #[.bool false, .bool false, .bool false, .int .i64 0, .int .i64 0, .int .i64 0, .int .i64 0]) (by simp [results, Try.results24, go_sem, r0, r1, r2, r3, r4, r5, r6, rl]) rfl ⟨rfl, SL.old (?_ : SL _ (any r :: Old w :: [])).tl⟩
  repeat (first | with_reducible refine SL.scr ?_ _ _ | with_reducible refine SL.allocd ?_ _ | with_reducible exact H2.toAny.drop1)

end Go.Proofs.Ytlccpbdpfamekaa
