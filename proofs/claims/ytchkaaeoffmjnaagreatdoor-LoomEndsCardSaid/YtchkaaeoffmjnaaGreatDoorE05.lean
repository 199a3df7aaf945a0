/- Texts of the proof, several in one file: PipeF, PipeG, PipeH, RefB, RefC, RefD, RefE, RefF, PlainP, Pipe9, Quiet9, ForkA, ForkB. -/
import Derived.Test.YtchkaaeoffmjnaaGreatDoorE04
import Derived.Test.YtchkaaeoffmjnaaGreatDoorE01
import Derived.Deep.RegionHeld3
import Derived.Deep.DeepMust
import Derived.Deep.RegionLaw
import Derived.Deep.QuietTactic
namespace Go.Proofs.YtchkaaeoffmjnaaGreatDoor
set_option linter.unusedVariables false
set_option linter.unusedSimpArgs false
open Go.RowKit
/-- A pipe as a piece. -/
def PipeP (g : Nat) (x : PipeM) : Piece := ofAt (fun w S => PipeAt w S g x) PipeAt.move PipeAt.mono
theorem PipePost.sl {w : World} {S : Nat → Prop} {g : Nat} {x : PipeM} {F : List Piece} {r : Value} {y : PipeM} {P : Program} {n : Nat} {args : Array Value}
  (h : ∀ S, PipeAt w S g x → Calls P n args w (PipePost S g w r y)) (H : SL w (PipeP g x :: F)) : Calls P n args w fun e w' => e = .returned r ∧ SL w' (PipeP g y :: F) := by
 obtain ⟨S, h1, _, h2⟩ := H.call
 refine (h S h1).mono ?_
 rintro e w' ⟨rfl, h3, h4⟩
 exact ⟨rfl, h2 w' [PipeP g y] h4 ⟨_, fun _ h => h, h3, trivial⟩⟩
theorem sl_recv1 {w : World} {g pb gb : Nat} {x y : PipeM} {cs cs' : Array Value} {t t' : Nat} {cp : Array Value} {F : List Piece} {P : Program} {n : Nat} {args : Array Value}
  (h : ∀ S : Nat → Prop, PipeAt w S g x → w.heap[pb]? = some (.cells cp t' (0, 0)) → w.heap[gb]? = some (.cells cs t (0, 0)) → ¬ S pb → ¬ S gb → pb ≠ gb → Calls P n args w
   fun e w' => e = .returned (.tuple #[]) ∧ PipeAt w' (New S w w') g y ∧ w'.heap[gb]? = some (.cells cs' t (0, 0)) ∧ Frm (fun k => S k ∨ k = gb) w w')
  (H : SL w (PipeP g x :: row pb cp t' :: row gb cs t :: F)) : Calls P n args w fun e w' => e = .returned (.tuple #[]) ∧ SL w' (PipeP g y :: row pb cp t' :: row gb cs' t :: F) := by
 have H' : SL w (all [PipeP g x, row pb cp t', row gb cs t] :: F) := SL.all.2 H
 obtain ⟨S, ⟨T, t1, t2, U, u1, u2, V, v1, v2, _⟩, hS, hG⟩ := H'.call
 have np : ¬ T pb := (u1 pb u2.1).2
 have ng : ¬ T gb := (v1 gb v2.1).1.2
 have npg : ¬ U gb := (v1 gb v2.1).2
 have npg' : pb ≠ gb := fun e => npg (by rw [← e]; exact u2.1)
 refine (h T t2 u2.2 v2.2 np ng npg').mono ?_
 rintro e w' ⟨rfl, h3, h4, h5⟩
 refine ⟨rfl, hG w' [PipeP g y, row pb cp t', row gb cs' t] (h5.mono (fun k _ hk => hk.elim (t1 k) (fun e => by rw [e]; exact (v1 gb v2.1).1.1))) ?_⟩
 have hpl := hS pb (u1 pb u2.1).1
 have hgl := hS gb (v1 gb v2.1).1.1
 refine ⟨New T w w', fun k hk => hk.imp (t1 k) id, h3, fun k => k = pb, fun k hk => ?_, ⟨rfl, h5.blk u2.2 (fun h => h.elim np npg')⟩, fun k => k = gb, fun k hk => ?_, ⟨rfl, h4⟩, trivial⟩
 ·subst hk
  exact ⟨.inl (u1 k u2.1).1, fun h => h.elim np (fun h => by omega)⟩
 ·subst hk
  exact ⟨⟨.inl (v1 k v2.1).1.1, fun h => h.elim ng (fun h => by omega)⟩, fun h => npg' h.symm⟩
def recvF (x : PipeM) : GotM × PipeM :=
 match x.buf, x.senders with
 | a :: L, m :: l => (⟨true, true, true, a, m⟩, { x with buf := L ++ [m.value], senders := l, sent := x.sent + 1, received := x.received + 1 })
 | a :: L, [] => (⟨true, true, false, a, wzero⟩, { x with buf := L, received := x.received + 1 })
 | [], m :: l => (⟨true, true, true, m.value, m⟩, { x with senders := l, sent := x.sent + 1, received := x.received + 1 })
 | [], [] => if x.closed then ({ gzero with ready := true }, x) else (gzero, x)
/-- What a method gives back, and the pipe behind it. -/
def Does (g : Nat) (F : List Piece) (r : Value) (y : PipeM) : Ending → World → Prop := fun e w' => e = .returned r ∧ SL w' (PipeP g y :: F)
section
variable {w : World} {F : List Piece} {g : Nat} {x : PipeM}
theorem sl_ready (s : Bool) (H : SL w (PipeP g x :: F)) : Calls Tryz.prog 107 #[.pointer (some ⟨g, 0, none⟩), .bool s] w fun e w' => e = .returned (.bool (readyF x s)) ∧ SL w' (PipeP g x :: F) := by
 obtain ⟨S, _, h⟩ := H.on
 exact (pipe_ready h s).mono (fun e w' q => ⟨q.1, H.later q.2⟩)
set_option maxRecDepth 100000 in
set_option maxHeartbeats 400000 in
theorem recv_no (hr : readyF x false = false) (H : SL w (PipeP g x :: F)) : Calls Tryz.prog 196 #[.pointer (some ⟨g, 0, none⟩)] w (Does g F gzero.agg x) := by
 unfold gzero GotM.agg wzero Does
 dsimp only
 go_enter Tryz.func196, Tryz.ntmps196
 go_wp2_with fail
 have H1 := (H.alloc (.cells #[.pointer (some ⟨g, 0, none⟩)] 176)).alloc (.cells #[.bool false, .bool false, .bool false, .int .i64 0, .int .i64 0, .int .i64 0, .int .i64 0] 227)
 rw [size_alloc] at H1
 obtain ⟨pb, hpb⟩ : ∃ b, w.heap.size = b := ⟨_, rfl⟩
 obtain ⟨r, hrb⟩ : ∃ b, pb + 1 = b := ⟨_, rfl⟩
 rw [hpb, hrb] at H1 ⊢
 clear hpb hrb
 refine (sl_ready false H1.up2).mono ?_
 rw [hr]
 clear hr
 rintro e w1 ⟨rfl, H2⟩
 obtain ⟨r0, r1, r2, r3, r4, r5, r6, rf⟩ := box7 H2.at1
 have rl := lt_of_block H2.at1
 go_wp2_with fail
 refine bodyPost_ret (v := .agg #[.bool false, .bool false, .bool false, .int .i64 0, .int .i64 0, .int .i64 0, .int .i64 0]) (by simp [results, Tryz.results196, go_sem, r0, r1, r2, r3, r4, r5, r6, rl]) rfl ⟨rfl, (?_ : SL _ (any r :: PipeP g x :: F)).tl⟩
 repeat (first | with_reducible refine SL.scr ?_ _ _ | with_reducible refine SL.allocd ?_ _ | with_reducible exact H2.up1.toAny.drop2)
theorem sl_len (H : SL w (PipeP g x :: F)) : Calls Tryz.prog 156 #[.pointer (some ⟨g, 0, none⟩)] w fun e w' => e = .returned (.int .i64 x.buf.length) ∧ w = w' := by
 obtain ⟨S, _, h⟩ := H.on
 exact pipe_len h
set_option maxRecDepth 100000 in
set_option maxHeartbeats 400000 in
theorem recv_closed (hc : x.closed = true) (hb : x.buf = []) (hs : x.senders = []) (H : SL w (PipeP g x :: F)) : Calls Tryz.prog 196 #[.pointer (some ⟨g, 0, none⟩)] w (Does g F ({ gzero with ready := true } : GotM).agg x) := by
 unfold Does
 have hr : readyF x false = true := by unfold readyF; simp [hc]
 unfold gzero GotM.agg wzero
 dsimp only
 clear hc
 have HX := Lib.hid (⟨hb, hs⟩ : _ ∧ _)
 have hbl : x.buf.length = _ := congrArg List.length hb
 clear hb hs
 go_enter Tryz.func196, Tryz.ntmps196
 go_wp2_with fail
 have H1 := (H.alloc (.cells #[.pointer (some ⟨g, 0, none⟩)] 176)).alloc (.cells #[.bool false, .bool false, .bool false, .int .i64 0, .int .i64 0, .int .i64 0, .int .i64 0] 227)
 rw [size_alloc] at H1
 obtain ⟨pb, hpb⟩ : ∃ b, w.heap.size = b := ⟨_, rfl⟩
 obtain ⟨r, hrb⟩ : ∃ b, pb + 1 = b := ⟨_, rfl⟩
 rw [hpb, hrb] at H1 ⊢
 clear hpb hrb
 refine (sl_ready false H1.up2).mono ?_
 rw [hr]
 clear hr
 rintro e w1 ⟨rfl, H2⟩
 obtain ⟨r0, r1, r2, r3, r4, r5, r6, rf⟩ := box7 H2.at1
 obtain ⟨p0, pf⟩ := box1 H2.at2
 have rl := lt_of_block H2.at1
 have pl := lt_of_block H2.at2
 obtain ⟨n1, n2⟩ := H2.ne 1 2 (by decide) rfl rfl
 go_wp2_with fail
 have H3 := (H2.alloc (.cells #[.bool true, .bool false, .bool false, .int .i64 0, .int .i64 0, .int .i64 0, .int .i64 0] 227)).up1
 obtain ⟨gb, hgb⟩ : ∃ b, w1.heap.size = b := ⟨_, rfl⟩
 obtain ⟨w2, hw2⟩ : ∃ w2, w1.alloc (.cells #[.bool true, .bool false, .bool false, .int .i64 0, .int .i64 0, .int .i64 0, .int .i64 0] 227) = w2 := ⟨_, rfl⟩
 rw [hw2, hgb] at H3
 rw [hw2, hgb]
 clear hw2 hgb r0 r1 r2 r3 r4 r5 r6 rf p0 pf rl pl n1 n2
 obtain ⟨g0, g1, g2, g3, g4, g5, g6, gf⟩ := box7 H3.at1
 obtain ⟨r0, r1, r2, r3, r4, r5, r6, rf⟩ := box7 H3.at2
 obtain ⟨p0, pf⟩ := box1 H3.at3
 have gl := lt_of_block H3.at1
 have rl := lt_of_block H3.at2
 have pl := lt_of_block H3.at3
 obtain ⟨n1, n2⟩ := H3.ne 1 2 (by decide) rfl rfl
 obtain ⟨n3, n4⟩ := H3.ne 1 3 (by decide) rfl rfl
 obtain ⟨n5, n6⟩ := H3.ne 2 3 (by decide) rfl rfl
 have K1 := sl_len H3
 rw [hbl] at K1
 clear hbl
 simp only [List.length_nil, List.length_cons] at K1
 refine K1.mono ?_
 rintro e w' ⟨rfl, rfl⟩
 clear K1
 obtain ⟨S, hS, rgb, sp, rp, R, P, Q, hq⟩ := H3.on
 obtain ⟨c0, c1, c2, c3, c4, c5, cf⟩ := pipe_cells hq.row
 have cl := lt_of_block hq.row
 go_wp2_with fail
 have K2 := pew_len hq.snd
 rw [HX.out.2] at K2
 simp only [List.length_nil, List.length_cons] at K2
 refine K2.mono ?_
 rintro e w' ⟨rfl, rfl⟩
 clear K2
 go_wp2_with fail
 refine bodyPost_ret (v := .agg #[.bool true, .bool false, .bool false, .int .i64 0, .int .i64 0, .int .i64 0, .int .i64 0]) (by simp [results, Tryz.results196, go_sem, r0, r1, r2, r3, r4, r5, r6, rl]) rfl ⟨rfl, (?_ : SL _ (any r :: PipeP g _ :: F)).tl⟩
 repeat (first | with_reducible refine SL.scr ?_ _ _ | with_reducible refine SL.allocd ?_ _ | with_reducible exact H3.up2.toAny.drop3.drop2)
set_option maxRecDepth 100000 in
set_option maxHeartbeats 400000 in
theorem recv_none {a : Int} {L : List Int} (hb : x.buf = a :: L) (hs : x.senders = []) (hn : Cnt x) (H : SL w (PipeP g x :: F)) : Calls Tryz.prog 196 #[.pointer (some ⟨g, 0, none⟩)] w (Does g F (⟨true, true, false, a, wzero⟩ : GotM).agg { x with buf := L, received := x.received + 1 }) := by
 unfold Does
 have hr : readyF x false = true := by unfold readyF; simp [hb]
 unfold GotM.agg wzero
 dsimp only
 have HX := Lib.hid (⟨hb, hs⟩ : _ ∧ _)
 have hbl : x.buf.length = _ := congrArg List.length hb
 clear hb hs
 go_enter Tryz.func196, Tryz.ntmps196
 go_wp2_with fail
 have H1 := (H.alloc (.cells #[.pointer (some ⟨g, 0, none⟩)] 176)).alloc (.cells #[.bool false, .bool false, .bool false, .int .i64 0, .int .i64 0, .int .i64 0, .int .i64 0] 227)
 rw [size_alloc] at H1
 obtain ⟨pb, hpb⟩ : ∃ b, w.heap.size = b := ⟨_, rfl⟩
 obtain ⟨r, hrb⟩ : ∃ b, pb + 1 = b := ⟨_, rfl⟩
 rw [hpb, hrb] at H1 ⊢
 clear hpb hrb
 refine (sl_ready false H1.up2).mono ?_
 rw [hr]
 clear hr
 rintro e w1 ⟨rfl, H2⟩
 obtain ⟨r0, r1, r2, r3, r4, r5, r6, rf⟩ := box7 H2.at1
 obtain ⟨p0, pf⟩ := box1 H2.at2
 have rl := lt_of_block H2.at1
 have pl := lt_of_block H2.at2
 obtain ⟨n1, n2⟩ := H2.ne 1 2 (by decide) rfl rfl
 go_wp2_with fail
 have H3 := (H2.alloc (.cells #[.bool true, .bool false, .bool false, .int .i64 0, .int .i64 0, .int .i64 0, .int .i64 0] 227)).up1
 obtain ⟨gb, hgb⟩ : ∃ b, w1.heap.size = b := ⟨_, rfl⟩
 obtain ⟨w2, hw2⟩ : ∃ w2, w1.alloc (.cells #[.bool true, .bool false, .bool false, .int .i64 0, .int .i64 0, .int .i64 0, .int .i64 0] 227) = w2 := ⟨_, rfl⟩
 rw [hw2, hgb] at H3
 rw [hw2, hgb]
 clear hw2 hgb r0 r1 r2 r3 r4 r5 r6 rf p0 pf rl pl n1 n2
 obtain ⟨g0, g1, g2, g3, g4, g5, g6, gf⟩ := box7 H3.at1
 obtain ⟨r0, r1, r2, r3, r4, r5, r6, rf⟩ := box7 H3.at2
 obtain ⟨p0, pf⟩ := box1 H3.at3
 have gl := lt_of_block H3.at1
 have rl := lt_of_block H3.at2
 have pl := lt_of_block H3.at3
 obtain ⟨n1, n2⟩ := H3.ne 1 2 (by decide) rfl rfl
 obtain ⟨n3, n4⟩ := H3.ne 1 3 (by decide) rfl rfl
 obtain ⟨n5, n6⟩ := H3.ne 2 3 (by decide) rfl rfl
 have K1 := sl_len H3
 rw [hbl] at K1
 clear hbl
 simp only [List.length_nil, List.length_cons] at K1
 refine K1.mono ?_
 rintro e w' ⟨rfl, rfl⟩
 clear K1
 go_wp2_with fail
 have H3' : SL w2 (PipeP g x :: row pb _ _ :: row gb _ _ :: row r _ _ :: F) := H3.up3.dn1
 refine (sl_recv1 (fun S h hp hg pS gS ne => recv1_none h HX.out.1 HX.out.2 hn hp hg pS gS ne) H3').mono ?_
 rintro e w3 ⟨rfl, H4⟩
 clear g0 g1 g2 g3 g4 g5 g6 gf r0 r1 r2 r3 r4 r5 r6 rf p0 pf gl rl pl
 obtain ⟨g0, g1, g2, g3, g4, g5, g6, gf⟩ := box7 H4.at2
 obtain ⟨r0, r1, r2, r3, r4, r5, r6, rf⟩ := box7 H4.at3
 have gl := lt_of_block H4.at2
 have rl := lt_of_block H4.at3
 go_wp2_with fail
 refine bodyPost_ret (v := .agg #[.bool true, .bool true, .bool false, .int .i64 a, .int .i64 0, .int .i64 0, .int .i64 0]) (by simp [results, Tryz.results196, go_sem, r0, r1, r2, r3, r4, r5, r6, rl]) rfl ⟨rfl, (?_ : SL _ (any r :: PipeP g _ :: F)).tl⟩
 repeat (first | with_reducible refine SL.scr ?_ _ _ | with_reducible refine SL.allocd ?_ _ | with_reducible exact H4.up3.toAny.drop3.drop2)
set_option maxRecDepth 100000 in
set_option maxHeartbeats 400000 in
theorem recv_woke {a : Int} {L : List Int} {m : Wtr} {l : List Wtr} (hb : x.buf = a :: L) (hs : x.senders = m :: l) (hl : l.length < 1000000) (hz : L.length < x.size) (hn : Cnt x) (H : SL w (PipeP g x :: F)) : Calls Tryz.prog 196 #[.pointer (some ⟨g, 0, none⟩)] w (Does g F (⟨true, true, true, a, m⟩ : GotM).agg { x with buf := L ++ [m.value], senders := l, sent := x.sent + 1, received := x.received + 1 }) := by
 unfold Does
 have hr : readyF x false = true := by unfold readyF; simp [hb]
 obtain ⟨mg, mc, mv⟩ := m
 unfold GotM.agg
 dsimp only
 have HX := Lib.hid (⟨hb, hs⟩ : _ ∧ _)
 have hbl : x.buf.length = _ := congrArg List.length hb
 clear hb hs
 go_enter Tryz.func196, Tryz.ntmps196
 go_wp2_with fail
 have H1 := (H.alloc (.cells #[.pointer (some ⟨g, 0, none⟩)] 176)).alloc (.cells #[.bool false, .bool false, .bool false, .int .i64 0, .int .i64 0, .int .i64 0, .int .i64 0] 227)
 rw [size_alloc] at H1
 obtain ⟨pb, hpb⟩ : ∃ b, w.heap.size = b := ⟨_, rfl⟩
 obtain ⟨r, hrb⟩ : ∃ b, pb + 1 = b := ⟨_, rfl⟩
 rw [hpb, hrb] at H1 ⊢
 clear hpb hrb
 refine (sl_ready false H1.up2).mono ?_
 rw [hr]
 clear hr
 rintro e w1 ⟨rfl, H2⟩
 obtain ⟨r0, r1, r2, r3, r4, r5, r6, rf⟩ := box7 H2.at1
 obtain ⟨p0, pf⟩ := box1 H2.at2
 have rl := lt_of_block H2.at1
 have pl := lt_of_block H2.at2
 obtain ⟨n1, n2⟩ := H2.ne 1 2 (by decide) rfl rfl
 go_wp2_with fail
 have H3 := (H2.alloc (.cells #[.bool true, .bool false, .bool false, .int .i64 0, .int .i64 0, .int .i64 0, .int .i64 0] 227)).up1
 obtain ⟨gb, hgb⟩ : ∃ b, w1.heap.size = b := ⟨_, rfl⟩
 obtain ⟨w2, hw2⟩ : ∃ w2, w1.alloc (.cells #[.bool true, .bool false, .bool false, .int .i64 0, .int .i64 0, .int .i64 0, .int .i64 0] 227) = w2 := ⟨_, rfl⟩
 rw [hw2, hgb] at H3
 rw [hw2, hgb]
 clear hw2 hgb r0 r1 r2 r3 r4 r5 r6 rf p0 pf rl pl n1 n2
 obtain ⟨g0, g1, g2, g3, g4, g5, g6, gf⟩ := box7 H3.at1
 obtain ⟨r0, r1, r2, r3, r4, r5, r6, rf⟩ := box7 H3.at2
 obtain ⟨p0, pf⟩ := box1 H3.at3
 have gl := lt_of_block H3.at1
 have rl := lt_of_block H3.at2
 have pl := lt_of_block H3.at3
 obtain ⟨n1, n2⟩ := H3.ne 1 2 (by decide) rfl rfl
 obtain ⟨n3, n4⟩ := H3.ne 1 3 (by decide) rfl rfl
 obtain ⟨n5, n6⟩ := H3.ne 2 3 (by decide) rfl rfl
 have K1 := sl_len H3
 rw [hbl] at K1
 clear hbl
 simp only [List.length_nil, List.length_cons] at K1
 refine K1.mono ?_
 rintro e w' ⟨rfl, rfl⟩
 clear K1
 go_wp2_with fail
 have H3' : SL w2 (PipeP g x :: row pb _ _ :: row gb _ _ :: row r _ _ :: F) := H3.up3.dn1
 refine (sl_recv1 (fun S h hp hg pS gS ne => recv1_woke h HX.out.1 HX.out.2 hl hz hn hp hg pS gS ne) H3').mono ?_
 rintro e w3 ⟨rfl, H4⟩
 clear g0 g1 g2 g3 g4 g5 g6 gf r0 r1 r2 r3 r4 r5 r6 rf p0 pf gl rl pl
 obtain ⟨g0, g1, g2, g3, g4, g5, g6, gf⟩ := box7 H4.at2
 obtain ⟨r0, r1, r2, r3, r4, r5, r6, rf⟩ := box7 H4.at3
 have gl := lt_of_block H4.at2
 have rl := lt_of_block H4.at3
 go_wp2_with fail
 refine bodyPost_ret (v := .agg #[.bool true, .bool true, .bool true, .int .i64 a, .int .i64 mg, .int .i64 mc, .int .i64 mv]) (by simp [results, Tryz.results196, go_sem, r0, r1, r2, r3, r4, r5, r6, rl]) rfl ⟨rfl, (?_ : SL _ (any r :: PipeP g _ :: F)).tl⟩
 repeat (first | with_reducible refine SL.scr ?_ _ _ | with_reducible refine SL.allocd ?_ _ | with_reducible exact H4.up3.toAny.drop3.drop2)
set_option maxRecDepth 100000 in
set_option maxHeartbeats 400000 in
theorem recv_direct {m : Wtr} {l : List Wtr} (hb : x.buf = []) (hs : x.senders = m :: l) (hl : l.length < 1000000) (hn : Cnt x) (H : SL w (PipeP g x :: F)) : Calls Tryz.prog 196 #[.pointer (some ⟨g, 0, none⟩)] w (Does g F (⟨true, true, true, m.value, m⟩ : GotM).agg { x with senders := l, sent := x.sent + 1, received := x.received + 1 }) := by
 unfold Does
 have hr : readyF x false = true := by unfold readyF; simp [hs]
 obtain ⟨mg, mc, mv⟩ := m
 unfold GotM.agg
 dsimp only
 have HX := Lib.hid (⟨hb, hs⟩ : _ ∧ _)
 have hbl : x.buf.length = _ := congrArg List.length hb
 clear hb hs
 go_enter Tryz.func196, Tryz.ntmps196
 go_wp2_with fail
 have H1 := (H.alloc (.cells #[.pointer (some ⟨g, 0, none⟩)] 176)).alloc (.cells #[.bool false, .bool false, .bool false, .int .i64 0, .int .i64 0, .int .i64 0, .int .i64 0] 227)
 rw [size_alloc] at H1
 obtain ⟨pb, hpb⟩ : ∃ b, w.heap.size = b := ⟨_, rfl⟩
 obtain ⟨r, hrb⟩ : ∃ b, pb + 1 = b := ⟨_, rfl⟩
 rw [hpb, hrb] at H1 ⊢
 clear hpb hrb
 refine (sl_ready false H1.up2).mono ?_
 rw [hr]
 clear hr
 rintro e w1 ⟨rfl, H2⟩
 obtain ⟨r0, r1, r2, r3, r4, r5, r6, rf⟩ := box7 H2.at1
 obtain ⟨p0, pf⟩ := box1 H2.at2
 have rl := lt_of_block H2.at1
 have pl := lt_of_block H2.at2
 obtain ⟨n1, n2⟩ := H2.ne 1 2 (by decide) rfl rfl
 go_wp2_with fail
 have H3 := (H2.alloc (.cells #[.bool true, .bool false, .bool false, .int .i64 0, .int .i64 0, .int .i64 0, .int .i64 0] 227)).up1
 obtain ⟨gb, hgb⟩ : ∃ b, w1.heap.size = b := ⟨_, rfl⟩
 obtain ⟨w2, hw2⟩ : ∃ w2, w1.alloc (.cells #[.bool true, .bool false, .bool false, .int .i64 0, .int .i64 0, .int .i64 0, .int .i64 0] 227) = w2 := ⟨_, rfl⟩
 rw [hw2, hgb] at H3
 rw [hw2, hgb]
 clear hw2 hgb r0 r1 r2 r3 r4 r5 r6 rf p0 pf rl pl n1 n2
 obtain ⟨g0, g1, g2, g3, g4, g5, g6, gf⟩ := box7 H3.at1
 obtain ⟨r0, r1, r2, r3, r4, r5, r6, rf⟩ := box7 H3.at2
 obtain ⟨p0, pf⟩ := box1 H3.at3
 have gl := lt_of_block H3.at1
 have rl := lt_of_block H3.at2
 have pl := lt_of_block H3.at3
 obtain ⟨n1, n2⟩ := H3.ne 1 2 (by decide) rfl rfl
 obtain ⟨n3, n4⟩ := H3.ne 1 3 (by decide) rfl rfl
 obtain ⟨n5, n6⟩ := H3.ne 2 3 (by decide) rfl rfl
 have K1 := sl_len H3
 rw [hbl] at K1
 clear hbl
 simp only [List.length_nil, List.length_cons] at K1
 refine K1.mono ?_
 rintro e w' ⟨rfl, rfl⟩
 clear K1
 obtain ⟨S, hS, rgb, sp, rp, R, P, Q, hq⟩ := H3.on
 obtain ⟨c0, c1, c2, c3, c4, c5, cf⟩ := pipe_cells hq.row
 have cl := lt_of_block hq.row
 go_wp2_with fail
 have K2 := pew_len hq.snd
 rw [HX.out.2] at K2
 simp only [List.length_nil, List.length_cons] at K2
 refine K2.mono ?_
 rintro e w' ⟨rfl, rfl⟩
 clear K2
 go_wp2_with fail
 have H3' : SL w2 (PipeP g x :: row pb _ _ :: row gb _ _ :: row r _ _ :: F) := H3.up3.dn1
 refine (sl_recv1 (fun S h hp hg pS gS ne => recv1_direct h HX.out.2 hl hn hp hg pS gS ne) H3').mono ?_
 rintro e w3 ⟨rfl, H4⟩
 clear g0 g1 g2 g3 g4 g5 g6 gf r0 r1 r2 r3 r4 r5 r6 rf p0 pf gl rl pl
 obtain ⟨g0, g1, g2, g3, g4, g5, g6, gf⟩ := box7 H4.at2
 obtain ⟨r0, r1, r2, r3, r4, r5, r6, rf⟩ := box7 H4.at3
 have gl := lt_of_block H4.at2
 have rl := lt_of_block H4.at3
 go_wp2_with fail
 refine bodyPost_ret (v := .agg #[.bool true, .bool true, .bool true, .int .i64 mv, .int .i64 mg, .int .i64 mc, .int .i64 mv]) (by simp [results, Tryz.results196, go_sem, r0, r1, r2, r3, r4, r5, r6, rl]) rfl ⟨rfl, (?_ : SL _ (any r :: PipeP g _ :: F)).tl⟩
 repeat (first | with_reducible refine SL.scr ?_ _ _ | with_reducible refine SL.allocd ?_ _ | with_reducible exact H4.up3.toAny.drop3.drop2)
theorem sl_recv (hl : x.senders.length ≤ 1000000) (hz : x.buf.length ≤ x.size) (hn : Cnt x) (H : SL w (PipeP g x :: F)) :
  Calls Tryz.prog 196 #[.pointer (some ⟨g, 0, none⟩)] w (Does g F (recvF x).1.agg (recvF x).2) := by
 rcases hb : x.buf with _ | ⟨a, L⟩
 ·rcases hs : x.senders with _ | ⟨m, l⟩
  ·by_cases hc : x.closed = true
   ·rw [show recvF x = ({ gzero with ready := true }, x) by unfold recvF; rw [hb, hs]; simp [hc]]
    exact recv_closed hc hb hs H
   ·rw [show recvF x = (gzero, x) by unfold recvF; rw [hb, hs]; simp [hc]]
    exact recv_no (by unfold readyF; simp [hc, hb, hs]) H
  ·rw [show recvF x = (⟨true, true, true, m.value, m⟩, { x with senders := l, sent := x.sent + 1, received := x.received + 1 }) by unfold recvF; rw [hb, hs]]
   exact recv_direct hb hs (by rw [hs] at hl; simp at hl; omega) hn H
 ·rcases hs : x.senders with _ | ⟨m, l⟩
  ·rw [show recvF x = (⟨true, true, false, a, wzero⟩, { x with buf := L, received := x.received + 1 }) by unfold recvF; rw [hb, hs]]
   exact recv_none hb hs hn H
  ·rw [show recvF x = (⟨true, true, true, a, m⟩, { x with buf := L ++ [m.value], senders := l, sent := x.sent + 1, received := x.received + 1 }) by unfold recvF; rw [hb, hs]]
   exact recv_woke hb hs (by rw [hs] at hl; simp at hl; omega) (by rw [hb] at hz; simp at hz; omega) hn H
end
set_option maxRecDepth 100000 in
set_option maxHeartbeats 400000 in
theorem pipe_recv_nil (w : World) : Calls Tryz.prog 196 #[.pointer none] w fun e w' => e = .returned gzero.agg ∧ Frm Nil w w' := by
 unfold gzero GotM.agg wzero
 dsimp only
 have H := SL.start w
 go_enter Tryz.func196, Tryz.ntmps196
 go_wp2_with fail
 have H1 := (H.alloc (.cells #[.pointer none] 176)).alloc (.cells #[.bool false, .bool false, .bool false, .int .i64 0, .int .i64 0, .int .i64 0, .int .i64 0] 227)
 rw [size_alloc] at H1
 obtain ⟨pb, hpb⟩ : ∃ b, w.heap.size = b := ⟨_, rfl⟩
 obtain ⟨r, hrb⟩ : ∃ b, pb + 1 = b := ⟨_, rfl⟩
 rw [hpb, hrb] at H1 ⊢
 clear hpb hrb
 refine (pipe_ready_nil false _).mono ?_
 rintro e w1 ⟨rfl, f1⟩
 have H2 := H1.later f1
 obtain ⟨r0, r1, r2, r3, r4, r5, r6, rf⟩ := box7 H2.at0
 have rl := lt_of_block H2.at0
 go_wp2_with fail
 refine bodyPost_ret (v := .agg #[.bool false, .bool false, .bool false, .int .i64 0, .int .i64 0, .int .i64 0, .int .i64 0]) (by simp [results, Tryz.results196, go_sem, r0, r1, r2, r3, r4, r5, r6, rl]) rfl ⟨rfl, SL.old (?_ : SL _ (any r :: Old w :: [])).tl⟩
 repeat (first | with_reducible refine SL.scr ?_ _ _ | with_reducible refine SL.allocd ?_ _ | with_reducible exact H2.toAny.drop1)
end Go.Proofs.YtchkaaeoffmjnaaGreatDoor
namespace Go.Proofs.YtchkaaeoffmjnaaGreatDoor
set_option linter.unusedVariables false
set_option linter.unusedSimpArgs false
open Go.RowKit
theorem wtr_at {w : World} {a : Option Addr} {n : Nat} {L : List Wtr} (h : Rd w 3 a n (L.flatMap Wtr.cells)) (k : Nat) (hk : k < L.length) : ∃ b off, a = some ⟨b, off, none⟩ ∧
  w.cell? ⟨b, off + k * 3, none⟩ = some (.int .i64 L[k].g) ∧ w.cell? ⟨b, off + k * 3 + 1, none⟩ = some (.int .i64 L[k].case_) ∧ w.cell? ⟨b, off + k * 3 + 2, none⟩ = some (.int .i64 L[k].value) := by
 have hl := h.1
 rw [flat_length Wtr.cells 3 (fun _ => rfl)] at hl
 obtain ⟨b, off, rfl, hc⟩ := h.2.2 (by omega)
 have key : ∀ j (hj : j < 3), ∀ u, (L[k].cells)[j]? = some u → w.cell? ⟨b, off + k * 3 + j, none⟩ = some u := fun j hj u hu => by
  rw [Nat.add_assoc]
  exact hc (k * 3 + j) u (by rw [flat_get Wtr.cells 3 (fun _ => rfl) L k j hj hk]; exact hu)
 exact ⟨b, off, rfl, key 0 (by omega) _ rfl, key 1 (by omega) _ rfl, key 2 (by omega) _ rfl⟩
theorem any_take {α : Type} (p : α → Bool) (L : List α) (k : Nat) (h : k < L.length) : (L.take (k + 1)).any p = ((L.take k).any p || p L[k]) := by
 rw [List.take_succ_eq_append_getElem h, List.any_append]
 simp
section
variable {w : World} {F : List Piece} {g : Nat} {x : PipeM}
theorem alone1 {b : Nat} {i : Int} (m : Wtr) (hb : w.heap[b]? = some (.cells #[.int .i64 i] 3 (0, 0))) : Calls Tryz.prog 217 #[m.agg, .pointer (some ⟨b, 0, none⟩)] w fun e w' => e = .returned (.bool (m.g == i)) ∧ Frm Nil w w' := by
 obtain ⟨c0, cf⟩ := box1 hb
 have bl := lt_of_block hb
 obtain ⟨mg, mc, mv⟩ := m
 unfold Wtr.agg
 dsimp only
 go_enter Tryz.func217, Tryz.ntmps217
 go_wp2_with fail
 try go_quiet (fail)
 go_wp2_with fail
 go_ret
 exact ⟨rfl, (by repeat (first | with_reducible exact Frm.refl _ _ | apply Frm.drewN | apply Frm.drew | apply Frm.alloc))⟩
theorem alone2 {b ob : Nat} {i : Int} (m : Wtr) (hb : w.heap[b]? = some (.cells #[.int .i64 i] 3 (0, 0))) (ho : w.heap[ob]? = some (.cells #[.func (.func 217) #[] #[.pointer (some ⟨b, 0, none⟩)]] 302 (0, 0))) :
  Calls Tryz.prog 219 #[m.agg, .pointer (some ⟨ob, 0, none⟩)] w fun e w' => e = .returned (.bool (!(m.g == i))) ∧ Frm Nil w w' := by
 obtain ⟨c0, cf⟩ := box1 ho
 have bl := lt_of_block ho
 have K := fun w' (f : Frm Nil w w') => alone1 m (f.blk hb id)
 have HK := Lib.hid K
 clear K
 obtain ⟨mg, mc, mv⟩ := m
 unfold Wtr.agg at HK ⊢
 dsimp only at HK ⊢
 go_enter Tryz.func219, Tryz.ntmps219
 go_wp2_with fail
 refine (HK.out _ ((Frm.refl _ _).alloc _)).mono ?_
 rintro e w1 ⟨rfl, f1⟩
 go_wp2_with fail
 go_ret
 exact ⟨rfl, ((Frm.refl Nil w).alloc _).then f1⟩
set_option maxHeartbeats 400000 in
theorem wtr_index {a : Option Addr} {n cap fn : Nat} {L : List Wtr} {cv : Value} (p : Wtr → Bool) (he : Enters Tryz.prog fn) (hn : n = L.length) (hr : Rd w 3 a n (L.flatMap Wtr.cells))
  (hf : ∀ m w', Frm Nil w w' → Calls Tryz.prog fn #[m.agg, cv] w' fun e w'' => e = .returned (.bool (p m)) ∧ Frm Nil w' w'') :
  Calls Tryz.prog 227 #[.slice a n cap, .func (.func fn) #[] #[cv]] w fun e w' => (∃ i : Int, e = .returned (.int .i64 i) ∧ (decide (0 ≤ i) = L.any p)) ∧ Frm Nil w w' := by
 subst hn
 have hm := hr.2.1
 unfold maxLen at hm
 have HF := Lib.hid hf
 clear hf
 unfold Enters at he
 go_enter Tryz.func227, Tryz.ntmps227
 go_wp2_with fail
 go_loopw [8] (fun i wr => ∃ k : Nat, k ≤ L.length ∧ i = .int .i64 k ∧ Frm Nil w wr ∧ Hid ((L.take k).any p = false)) (fun i _ => L.length - (intOf i).toNat)
 case atStart => exact ⟨0, Nat.zero_le _, rfl, Frm.refl _ _, Lib.hid rfl⟩
 case round =>
  obtain ⟨k, hk, rfl, hfr, hno⟩ := hrel
  by_cases hlt : k < L.length
  ·obtain ⟨b, off, rfl, d0, d1, d2⟩ := wtr_at (hr.nil hfr) k hlt
   have ht := any_take p L k hlt
   rw [hno.out] at ht
   obtain ⟨m, hm⟩ : ∃ m, L[k] = m := ⟨_, rfl⟩
   rw [hm] at ht d0 d1 d2
   have HM := Lib.hid hm
   have HT := Lib.hid ht
   clear hm ht
   have K := HF.out m wr hfr
   obtain ⟨pm, hpm⟩ : ∃ pm, p m = pm := ⟨_, rfl⟩
   rw [hpm] at K
   have HP := Lib.hid hpm
   clear hpm
   obtain ⟨mg, mc, mv⟩ := m
   unfold Wtr.agg at K
   dsimp only at K d0 d1 d2
   have HK := Lib.hid K
   clear K
   go_wp2_with fail
   refine HK.out.mono ?_
   rintro e w1 ⟨rfl, f1⟩
   cases pm
   ·go_wp2_with fail
    go_roundw
    case rel => exact ⟨k + 1, by omega, by go_num, hfr.then f1, Lib.hid (by rw [HT.out, HP.out]; rfl)⟩
    case measure => simp [intOf]; omega
   ·go_wp2_with fail
    go_ret
    refine ⟨⟨k, rfl, ?_⟩, hfr.then f1⟩
    have : L.any p = true := List.any_eq_true.2 ⟨L[k], List.getElem_mem hlt, by rw [HM.out]; exact HP.out⟩
    rw [this]
    simp
  ·have hkn : k = L.length := by omega
   have hno' := hno.out
   rw [hkn, List.take_length] at hno'
   have HN := Lib.hid hno'
   clear hno' hkn
   go_wp2_with fail
   go_ret
   exact ⟨⟨-1, rfl, by rw [HN.out]; rfl⟩, hfr⟩
set_option maxHeartbeats 400000 in
theorem wtr_contains {a : Option Addr} {n cap fn : Nat} {L : List Wtr} {cv : Value} (p : Wtr → Bool) (he : Enters Tryz.prog fn) (hn : n = L.length) (hr : Rd w 3 a n (L.flatMap Wtr.cells))
  (hf : ∀ m w', Frm Nil w w' → Calls Tryz.prog fn #[m.agg, cv] w' fun e w'' => e = .returned (.bool (p m)) ∧ Frm Nil w' w'') :
  Calls Tryz.prog 218 #[.slice a n cap, .func (.func fn) #[] #[cv]] w fun e w' => e = .returned (.bool (L.any p)) ∧ Frm Nil w w' := by
 subst hn
 have K := wtr_index (cap := cap) p he rfl hr hf
 have HK := Lib.hid K
 clear K hf he
 go_enter Tryz.func218, Tryz.ntmps218
 go_wp2_with fail
 refine HK.out.mono ?_
 rintro e w1 ⟨⟨i, rfl, hi⟩, f1⟩
 have HI := Lib.hid hi
 clear hi
 go_wp2_with fail
 go_ret
 exact ⟨ret_bool HI.out, f1⟩
def aloneF (x : PipeM) (s : Bool) (i : Int) : Bool := decide (0 < (if s then x.senders else x.receivers).length) && (!x.closed && (decide (x.size = 0) && !((if s then x.senders else x.receivers).any (fun m => !(m.g == i)))))
theorem sl_waiting (s : Bool) (hs : x.senders.length ≤ 100000) (hr : x.receivers.length ≤ 100000) (H : SL w (PipeP g x :: F)) : Calls Tryz.prog 201 #[.pointer (some ⟨g, 0, none⟩), .bool s] w (Wtrs w (if s then x.senders else x.receivers)) := by
 obtain ⟨S, _, h⟩ := H.on
 exact pipe_waiting h s hs hr
theorem sl_cap (H : SL w (PipeP g x :: F)) : Calls Tryz.prog 157 #[.pointer (some ⟨g, 0, none⟩)] w fun e w' => e = .returned (.int .i64 x.size) ∧ w = w' := by
 obtain ⟨S, _, h⟩ := H.on
 exact pipe_cap h
set_option maxRecDepth 100000 in
set_option maxHeartbeats 400000 in
theorem sl_alone (s : Bool) (i : Int) (hs : x.senders.length ≤ 100000) (hr : x.receivers.length ≤ 100000) (H : SL w (PipeP g x :: F)) :
  Calls Tryz.prog 200 #[.pointer (some ⟨g, 0, none⟩), .bool s, .int .i64 i] w fun e w' => e = .returned (.bool (aloneF x s i)) ∧ SL w' (PipeP g x :: F) := by
 unfold aloneF
 obtain ⟨cl, hcl⟩ : ∃ cl, x.closed = cl := ⟨_, rfl⟩
 obtain ⟨z, hz⟩ : ∃ z, x.size = z := ⟨_, rfl⟩
 obtain ⟨L, hL⟩ : ∃ L, (if s then x.senders else x.receivers) = L := ⟨_, rfl⟩
 rw [hcl, hz, hL]
 have HC := Lib.hid hcl
 have HZ := Lib.hid hz
 have HL := Lib.hid hL
 clear hcl hz hL
 go_enter Tryz.func200, Tryz.ntmps200
 go_wp2_with fail
 have H1 := (H.alloc (.cells #[.int .i64 i] 3)).alloc (.cells #[.func (.func 217) #[] #[.pointer (some ⟨w.heap.size, 0, none⟩)]] 302)
 rw [size_alloc] at H1
 obtain ⟨gb, hgb⟩ : ∃ b, w.heap.size = b := ⟨_, rfl⟩
 obtain ⟨ob, hob⟩ : ∃ b, gb + 1 = b := ⟨_, rfl⟩
 rw [hgb, hob] at H1
 rw [hgb, hob]
 clear hgb hob
 have H1' := H1.up2
 have K := sl_waiting s hs hr H1'
 rw [HL.out] at K
 have HK := Lib.hid K
 clear K
 refine HK.out.mono ?_
 rintro e w1 ⟨a, cap, rfl, hrd, hnew, f1⟩
 have H2 := H1'.later f1
 clear HK H1 H1' hnew f1
 have hm := hrd.2.1
 unfold maxLen at hm
 obtain ⟨S, hS, rgb, sp, rp, R, P, Q, hq⟩ := H2.on
 obtain ⟨c0, c1, c2, c3, c4, c5, cf⟩ := pipe_cells hq.row
 rw [HC.out] at c3
 have gl := lt_of_block hq.row
 obtain ⟨n, hn⟩ : ∃ n, L.length = n := ⟨_, rfl⟩
 rw [hn]
 rw [hn] at hrd hm
 have K2 := fun w' (f : Frm Nil w1 w') => sl_cap (H2.later f)
 rw [HZ.out] at K2
 have K3 := fun w' (f : Frm Nil w1 w') => wtr_contains (w := w') (cap := cap) (cv := .pointer (some ⟨ob, 0, none⟩)) (fun m => !(m.g == i)) (enters Tryz.func219 (by kernel_rfl) (by kernel_rfl)) hn.symm (hrd.nil f) (fun m w'' f' => alone2 m (f'.blk (f.blk H2.at2 id) id) (f'.blk (f.blk H2.at1 id) id))
 have HK2 := Lib.hid K2
 have HK3 := Lib.hid K3
 have HN := Lib.hid hn
 clear K2 K3 hn hq
 by_cases h0 : 0 < n
 ·have hb0 : decide (0 < (n : Int)) = true := by simpa using h0
  have hb0' : decide (0 < n) = true := by simpa using h0
  cases cl with
  | true =>
   go_wp2_with fail
   go_ret
   exact ⟨ret_bool (by rw [HN.out, hb0']; rfl), by repeat (first | with_reducible refine SL.drewN ?_ _ | with_reducible refine SL.drew ?_ | with_reducible exact H2.drop1.drop1)⟩
  | false =>
   by_cases hz : z = 0
   ·have hbz : ((z : Int) == 0) = true := by simp [hz]
    have hbz' : decide (z = 0) = true := by simp [hz]
    have hi : (z : Int) = 0 := by simp [hz]
    clear hz
    go_wp2_with fail
    refine (HK2.out _ (by repeat (first | with_reducible exact Frm.refl _ _ | apply Frm.drewN | apply Frm.drew | apply Frm.alloc))).mono ?_
    rintro e w' ⟨rfl, rfl⟩
    go_wp2_with fail
    refine (HK3.out _ (by repeat (first | with_reducible exact Frm.refl _ _ | apply Frm.drewN | apply Frm.drew | apply Frm.alloc))).mono ?_
    rintro e w' ⟨rfl, f2⟩
    go_wp2_with fail
    go_ret
    refine ⟨ret_bool (by rw [HN.out, hb0', hbz']; rfl), ?_⟩
    have H3 := H2.later f2
    repeat (first | with_reducible refine SL.drewN ?_ _ | with_reducible refine SL.drew ?_ | with_reducible exact H3.drop1.drop1)
   ·have hbz : ((z : Int) == 0) = false := by simp; omega
    have hbz' : decide (z = 0) = false := by simp [hz]
    go_wp2_with fail
    refine (HK2.out _ (by repeat (first | with_reducible exact Frm.refl _ _ | apply Frm.drewN | apply Frm.drew | apply Frm.alloc))).mono ?_
    rintro e w' ⟨rfl, rfl⟩
    go_wp2_with fail
    go_ret
    exact ⟨ret_bool (by rw [HN.out, hb0', hbz']; rfl), by repeat (first | with_reducible refine SL.drewN ?_ _ | with_reducible refine SL.drew ?_ | with_reducible exact H2.drop1.drop1)⟩
 ·have hb0 : decide (0 < (n : Int)) = false := by simpa using h0
  have hb0' : decide (0 < n) = false := by simpa using h0
  go_wp2_with fail
  go_ret
  exact ⟨ret_bool (by rw [HN.out, hb0']; rfl), by repeat (first | with_reducible refine SL.drewN ?_ _ | with_reducible refine SL.drew ?_ | with_reducible exact H2.drop1.drop1)⟩
end
end Go.Proofs.YtchkaaeoffmjnaaGreatDoor
namespace Go.Proofs.YtchkaaeoffmjnaaGreatDoor
set_option linter.unusedVariables false
set_option linter.unusedSimpArgs false
open Go.RowKit
def RingP (g size : Nat) (L : List Int) : Piece := ofAt (fun w S => RingAt w S g size L) RingAt.move RingAt.mono
def PewP (g : Nat) (L : List Wtr) : Piece := ofAt (fun w S => PewAt w S g L) PewAt.move PewAt.mono
/-- A slice that may be read: n elements of sz cells. -/
def RdP (a : Option Addr) (n sz : Nat) (xs : List Value) : Piece where
 on S w := Rd w sz a n xs ∧ ∀ b o, a = some ⟨b, o, none⟩ → 0 < n → S b
 move := by
  rintro S w w' ⟨h1, h2⟩ s
  refine ⟨⟨h1.1, h1.2.1, fun hn => ?_⟩, h2⟩
  obtain ⟨b, off, ha, hc⟩ := h1.2.2 hn
  exact ⟨b, off, ha, fun i u hu => (World.cell?_of_block (w := w) (s.block b (h2 b off ha hn))).trans (hc i u hu)⟩
 mono h k := ⟨h.1, fun b o hb hn => k b (h.2 b o hb hn)⟩
theorem SL.rd {w : World} {F : List Piece} {a : Option Addr} {n sz : Nat} {xs : List Value} (h : SL w (RdP a n sz xs :: F)) : Rd w sz a n xs := by
 obtain ⟨S, _, h⟩ := h.on
 exact h.1
theorem SL.rdNew {w w' : World} {F : List Piece} {a : Option Addr} {n sz : Nat} {xs : List Value} (h : SL w F) (hr : Rd w' sz a n xs) (hs : 0 < sz) (hn : ∀ b o, a = some ⟨b, o, none⟩ → w.heap.size ≤ b) (f : Frm Nil w w') : SL w' (RdP a n sz xs :: F) := by
 refine h.new (M := [RdP a n sz xs]) f ⟨_, fun _ h => h, ⟨hr, fun b o hb hn' => .inr ⟨hn b o hb, ?_⟩⟩, trivial⟩
 obtain ⟨b', off, ha, hc⟩ := hr.2.2 hn'
 rw [hb] at ha
 injection ha with ha
 injection ha with ha1 ha2
 subst ha1
 have hl : 0 < xs.length := by
  rw [hr.1]
  exact Nat.mul_pos hn' hs
 exact World.block_lt_of_cell? w' _ (hc 0 _ (List.getElem?_eq_getElem hl))
theorem SL.rdNil {w : World} {F : List Piece} (sz : Nat) (h : SL w F) : SL w (RdP none 0 sz [] :: F) :=
 ⟨fun _ => False, fun _ h => h.elim, ⟨⟨by simp, Nat.zero_le _, fun h => absurd h (Nat.lt_irrefl 0)⟩, fun b o hb => by cases hb⟩, h.mono (fun k hk => ⟨hk, id⟩)⟩
/-- A slice of waiters comes back, a piece of its own. -/
theorem Wtrs.sl {w w' : World} {F : List Piece} {L : List Wtr} {e : Ending} (h : Wtrs w L e w') (H : SL w F) : ∃ a cap, e = .returned (.slice a L.length cap) ∧ SL w' (RdP a L.length 3 (L.flatMap Wtr.cells) :: F) := by
 obtain ⟨a, cap, rfl, h1, h2, h3⟩ := h
 exact ⟨a, cap, rfl, H.rdNew h1 (by decide) h2 h3⟩
section
variable {w : World} {F : List Piece} {g : Nat} {x : PipeM}
theorem pipe_open (H : SL w (PipeP g x :: F)) : ∃ rb sp rp, SL w (row g #[.pointer (some ⟨rb, 0, none⟩), .pointer (some ⟨sp, 0, none⟩), .pointer (some ⟨rp, 0, none⟩), .bool x.closed, .int .i64 x.sent, .int .i64 x.received] 223 :: RingP rb x.size x.buf :: PewP sp x.senders :: PewP rp x.receivers :: F) := by
 obtain ⟨T, h1, ⟨rb, sp, rp, R, P, Q, h⟩, h2⟩ := H
 have h0 := h.bound
 have hg := lt_of_block h.row
 refine ⟨rb, sp, rp, fun k => k = g, fun k hk => by rw [hk]; exact hg, ⟨rfl, h.row⟩, R, fun k hk => ⟨h1 k (h.subR k hk).1, (h.subR k hk).2⟩, h.ring, P, fun k hk => ⟨⟨h1 k (h.subP k hk).1, (h.subP k hk).2⟩, fun hr => h.rp_ k hr hk⟩, h.snd, Q, fun k hk => ⟨⟨⟨h1 k (h.subQ k hk).1, (h.subQ k hk).2⟩, fun hr => h.rq_ k hr hk⟩, fun hp => h.pq_ k hp hk⟩, h.rcv, h2.mono (fun k hk => ⟨⟨⟨⟨hk.1, fun e => hk.2 (by rw [e]; exact h.own)⟩, fun e => hk.2 (h.subR k e).1⟩, fun e => hk.2 (h.subP k e).1⟩, fun e => hk.2 (h.subQ k e).1⟩)⟩
theorem pipe_shut {rb sp rp : Nat} (H : SL w (row g #[.pointer (some ⟨rb, 0, none⟩), .pointer (some ⟨sp, 0, none⟩), .pointer (some ⟨rp, 0, none⟩), .bool x.closed, .int .i64 x.sent, .int .i64 x.received] 223 :: RingP rb x.size x.buf :: PewP sp x.senders :: PewP rp x.receivers :: F)) : SL w (PipeP g x :: F) := by
 obtain ⟨T, h1, ⟨hT, hrow⟩, R, hR1, hR, P, hP1, hP, Q, hQ1, hQ, hF⟩ := H
 refine ⟨fun k => T k ∨ R k ∨ P k ∨ Q k, fun k hk => ?_, ⟨rb, sp, rp, R, P, Q, hrow, .inl hT, hR, hP, hQ, fun k hk => ⟨.inr (.inl hk), ?_⟩, fun k hk => ⟨.inr (.inr (.inl hk)), ?_⟩, fun k hk => ⟨.inr (.inr (.inr hk)), ?_⟩, fun k hk hp => (hP1 k hp).2 hk, fun k hk hq => (hQ1 k hq).1.2 hk, fun k hp hq => (hQ1 k hq).2 hp⟩, hF.mono (fun k hk => ⟨hk.1.1.1.1, fun h => ?_⟩)⟩
 ·rcases hk with h | h | h | h
  ·exact h1 k h
  ·exact (hR1 k h).1
  ·exact (hP1 k h).1.1
  ·exact (hQ1 k h).1.1.1
 ·intro e
  subst e
  exact (hR1 _ hk).2 hT
 ·intro e
  subst e
  exact (hP1 _ hk).1.2 hT
 ·intro e
  subst e
  exact (hQ1 _ hk).1.1.2 hT
 ·rcases h with h | h | h | h
  ·exact hk.1.1.1.2 h
  ·exact hk.1.1.2 h
  ·exact hk.1.2 h
  ·exact hk.2 h
theorem sl_pew {rb sp rp : Nat} {t : Bool} {i j : Int} (s : Bool) (H : SL w (row g #[.pointer (some ⟨rb, 0, none⟩), .pointer (some ⟨sp, 0, none⟩), .pointer (some ⟨rp, 0, none⟩), .bool t, .int .i64 i, .int .i64 j] 223 :: F)) :
  Calls Tryz.prog 154 #[.pointer (some ⟨g, 0, none⟩), .bool s] w fun e w' => e = .returned (.pointer (some ⟨if s then sp else rp, 0, none⟩)) ∧ w = w' := by
 obtain ⟨c0, c1, c2, c3, c4, c5, cf⟩ := pipe_cells H.at0
 cases s
 all_goals
  go_enter Tryz.func154, Tryz.ntmps154
  go_wp2
  go_ret
  exact ⟨rfl, rfl⟩
theorem sl_pew_new (H : SL w F) : Calls Tryz.prog 168 #[] w fun e w' => ∃ p, e = .returned (.pointer (some ⟨p, 0, none⟩)) ∧ SL w' (PewP p [] :: F) := by
 refine (pew_new w).mono ?_
 rintro e w' ⟨p, rfl, h1, f1⟩
 exact ⟨p, rfl, H.new (M := [PewP p []]) f1 ⟨_, fun _ h => h, h1, trivial⟩⟩
theorem sl_pew_add {p : Nat} {L : List Wtr} (hL : L.length ≤ 1024) (m : Wtr) (H : SL w (PewP p L :: F)) :
  Calls Tryz.prog 199 #[.pointer (some ⟨p, 0, none⟩), m.agg] w fun e w' => e = .returned (.int .i64 (addF L m).1) ∧ SL w' (PewP p (addF L m).2 :: F) := by
 unfold addF
 by_cases h1 : m.g < 0 ∨ m.case_ < -1
 ·rw [if_pos h1]
  refine (pew_add_arg _ m h1 w).mono ?_
  rintro e w' ⟨rfl, f⟩
  exact ⟨rfl, H.later f⟩
 ·rw [if_neg h1]
  by_cases h2 : L.length = 1024
  ·rw [if_pos h2]
   obtain ⟨S, _, h⟩ := H.on
   refine (pew_add_full h h2 m (by omega) (by omega)).mono ?_
   rintro e w' ⟨rfl, f⟩
   exact ⟨rfl, H.later f⟩
  ·rw [if_neg h2]
   obtain ⟨S, h, _, hG⟩ := H.call
   refine (pew_add_ok h (by omega) m (by omega) (by omega)).mono ?_
   rintro e w' ⟨rfl, h3, f⟩
   exact ⟨rfl, hG w' [PewP p (L ++ [m])] f ⟨_, fun _ h => h, h3, trivial⟩⟩
def waitF (x : PipeM) (s : Bool) (m : Wtr) : Int × PipeM :=
 if readyF x s && !aloneF x (!s) m.g then (7, x)
 else if s then ((addF x.senders m).1, { x with senders := (addF x.senders m).2 }) else ((addF x.receivers m).1, { x with receivers := (addF x.receivers m).2 })
set_option maxRecDepth 100000 in
set_option maxHeartbeats 400000 in
theorem sl_wait (s : Bool) (m : Wtr) (hs : x.senders.length ≤ 1024) (hr : x.receivers.length ≤ 1024) (H : SL w (PipeP g x :: F)) :
  Calls Tryz.prog 160 #[.pointer (some ⟨g, 0, none⟩), .bool s, m.agg] w fun e w' => e = .returned (.int .i64 (waitF x s m).1) ∧ SL w' (PipeP g (waitF x s m).2 :: F) := by
 have K1 := fun F' w' (H : SL w' (PipeP g x :: F')) => sl_ready s H
 have K2 := fun F' w' (H : SL w' (PipeP g x :: F')) => sl_alone (!s) m.g (Nat.le_trans hs (by decide)) (Nat.le_trans hr (by decide)) H
 obtain ⟨R, hR⟩ : ∃ R, waitF x s m = R := ⟨_, rfl⟩
 rw [hR]
 unfold waitF at hR
 obtain ⟨rd, hrd⟩ : ∃ rd, readyF x s = rd := ⟨_, rfl⟩
 obtain ⟨al, hal⟩ : ∃ al, aloneF x (!s) m.g = al := ⟨_, rfl⟩
 rw [hrd] at K1
 rw [hal] at K2
 rw [hrd, hal] at hR
 have HR := Lib.hid hR
 clear hR
 have HK1 := Lib.hid K1
 have HK2 := Lib.hid K2
 clear hrd hal K1 K2
 obtain ⟨mg, mc, mv⟩ := m
 have HA := Lib.hid (fun p (L : List Wtr) (hL : L.length ≤ 1024) F' w' (H : SL w' (PewP p L :: F')) => sl_pew_add hL ⟨mg, mc, mv⟩ H)
 unfold Wtr.agg at HA ⊢
 dsimp only at HK2 HA ⊢
 go_enter Tryz.func160, Tryz.ntmps160
 go_wp2_with fail
 have H1 := (H.alloc (.cells #[.int .i64 mg, .int .i64 mc, .int .i64 mv] 225)).up1
 obtain ⟨b, hb⟩ : ∃ b, w.heap.size = b := ⟨_, rfl⟩
 rw [hb] at H1 ⊢
 clear hb
 refine (HK1.out _ _ H1).mono ?_
 rintro e w1 ⟨rfl, H2⟩
 obtain ⟨b0, b1, b2, bf⟩ := pew_cells H2.at1
 have bl := lt_of_block H2.at1
 have fin : ∀ (s : Bool) w2, SL w2 (PipeP g x :: row b #[.int .i64 mg, .int .i64 mc, .int .i64 mv] 225 :: F) → ∃ (q : Nat) (r : Int × PipeM), r = (if s then ((addF x.senders ⟨mg, mc, mv⟩).1, { x with senders := (addF x.senders ⟨mg, mc, mv⟩).2 }) else ((addF x.receivers ⟨mg, mc, mv⟩).1, { x with receivers := (addF x.receivers ⟨mg, mc, mv⟩).2 })) ∧ ∀ w2', Frm Nil w2 w2' → Calls Tryz.prog 154 #[.pointer (some ⟨g, 0, none⟩), .bool s] w2' (fun e w' => e = .returned (.pointer (some ⟨q, 0, none⟩)) ∧ w2' = w') ∧ Calls Tryz.prog 199 #[.pointer (some ⟨q, 0, none⟩), .agg #[.int .i64 mg, .int .i64 mc, .int .i64 mv]] w2' fun e w' => e = .returned (.int .i64 r.1) ∧ SL w' (PipeP g r.2 :: row b #[.int .i64 mg, .int .i64 mc, .int .i64 mv] 225 :: F) := by
  intro s w2 H2
  obtain ⟨rb, sp, rp, H3⟩ := pipe_open H2
  cases s
  ·refine ⟨rp, ((addF x.receivers ⟨mg, mc, mv⟩).1, { x with receivers := (addF x.receivers ⟨mg, mc, mv⟩).2 }), rfl, fun w2' f => ⟨sl_pew false (H3.later f), (HA.out rp x.receivers hr _ _ (H3.later f).up3).mono ?_⟩⟩
   rintro e w' ⟨rfl, H4⟩
   exact ⟨rfl, (pipe_shut (x := { x with receivers := (addF x.receivers ⟨mg, mc, mv⟩).2 }) H4.dn3)⟩
  ·refine ⟨sp, ((addF x.senders ⟨mg, mc, mv⟩).1, { x with senders := (addF x.senders ⟨mg, mc, mv⟩).2 }), rfl, fun w2' f => ⟨sl_pew true (H3.later f), (HA.out sp x.senders hs _ _ (H3.later f).up2).mono ?_⟩⟩
   rintro e w' ⟨rfl, H4⟩
   exact ⟨rfl, (pipe_shut (x := { x with senders := (addF x.senders ⟨mg, mc, mv⟩).2 }) H4.dn2)⟩
 have FIN := Lib.hid fin
 clear fin HA
 cases rd with
 | false =>
  go_wp2_with fail
  obtain ⟨q, ⟨r1, r2⟩, hq, k1⟩ := FIN.out s _ H2
  have HQ := Lib.hid hq
  clear hq
  have HK4 := Lib.hid k1
  clear k1
  go_region_held3 (fun w' => w'.cell? ⟨b, 0, none⟩ = some (.int .i64 mg) ∧ w'.cell? ⟨b, 1, none⟩ = some (.int .i64 mc) ∧ w'.cell? ⟨b, 2, none⟩ = some (.int .i64 mv)) (first | go_keep | (go_split_ands; refine ⟨?_, ?_, ?_⟩ <;> assumption)) (first | (go_at_call 154; refine (HK4.out _ (by repeat (first | with_reducible exact Frm.refl _ _ | apply Frm.drewN | apply Frm.drew | apply Frm.alloc))).1.mono ?_; rintro e w' ⟨rfl, rfl⟩) | (go_at_call 199; refine (HK4.out _ (by repeat (first | with_reducible exact Frm.refl _ _ | apply Frm.drewN | apply Frm.drew | apply Frm.alloc))).2.mono ?_; rintro e w3 ⟨rfl, H5⟩; obtain ⟨b0', b1', b2', bf'⟩ := pew_cells H5.at1))
  all_goals
   go_wp2_with fail
   go_ret
   have hR := HR.out
   rw [if_neg (by simp), ← HQ.out] at hR
   subst hR
   refine ⟨rfl, ?_⟩
   repeat (first | with_reducible refine SL.drewN ?_ _ | with_reducible refine SL.drew ?_ | with_reducible exact H5.drop1)
 | true =>
  go_wp2_with fail
  refine (HK2.out _ _ H2).mono ?_
  rintro e w2 ⟨rfl, H2⟩
  clear b0 b1 b2 bf bl
  obtain ⟨b0, b1, b2, bf⟩ := pew_cells H2.at1
  have bl := lt_of_block H2.at1
  cases al with
  | false =>
   go_wp2_with fail
   go_ret
   have hR := HR.out
   rw [if_pos (by simp)] at hR
   subst hR
   exact ⟨rfl, H2.drop1⟩
  | true =>
   go_wp2_with fail
   obtain ⟨q, ⟨r1, r2⟩, hq, k1⟩ := FIN.out s _ H2
   have HQ := Lib.hid hq
   clear hq
   have HK4 := Lib.hid k1
   clear k1
   go_region_held3 (fun w' => w'.cell? ⟨b, 0, none⟩ = some (.int .i64 mg) ∧ w'.cell? ⟨b, 1, none⟩ = some (.int .i64 mc) ∧ w'.cell? ⟨b, 2, none⟩ = some (.int .i64 mv)) (first | go_keep | (go_split_ands; refine ⟨?_, ?_, ?_⟩ <;> assumption)) (first | (go_at_call 154; refine (HK4.out _ (by repeat (first | with_reducible exact Frm.refl _ _ | apply Frm.drewN | apply Frm.drew | apply Frm.alloc))).1.mono ?_; rintro e w' ⟨rfl, rfl⟩) | (go_at_call 199; refine (HK4.out _ (by repeat (first | with_reducible exact Frm.refl _ _ | apply Frm.drewN | apply Frm.drew | apply Frm.alloc))).2.mono ?_; rintro e w3 ⟨rfl, H5⟩; obtain ⟨b0', b1', b2', bf'⟩ := pew_cells H5.at1))
   all_goals
    go_wp2_with fail
    go_ret
    have hR := HR.out
    rw [if_neg (by simp), ← HQ.out] at hR
    subst hR
    refine ⟨rfl, ?_⟩
    repeat (first | with_reducible refine SL.drewN ?_ _ | with_reducible refine SL.drew ?_ | with_reducible exact H5.drop1)
def closeF (x : PipeM) : (List Wtr × List Wtr × Int) × PipeM :=
 if x.closed then (([], [], 90), x) else ((x.receivers, x.senders, 0), { x with closed := true, senders := [], receivers := [] })
set_option maxRecDepth 100000 in
set_option maxHeartbeats 400000 in
theorem sl_close (hs : x.senders.length ≤ 1024) (hr : x.receivers.length ≤ 1024) (H : SL w (PipeP g x :: F)) :
  Calls Tryz.prog 162 #[.pointer (some ⟨g, 0, none⟩)] w fun e w' => ∃ a c b d, e = .returned (.tuple #[.slice a (closeF x).1.1.length c, .slice b (closeF x).1.2.1.length d, .int .i64 (closeF x).1.2.2]) ∧
   SL w' (RdP a (closeF x).1.1.length 3 ((closeF x).1.1.flatMap Wtr.cells) :: RdP b (closeF x).1.2.1.length 3 ((closeF x).1.2.1.flatMap Wtr.cells) :: PipeP g (closeF x).2 :: F) := by
 unfold closeF
 by_cases hc : x.closed = true
 ·rw [if_pos hc]
  obtain ⟨rb, sp, rp, H1⟩ := pipe_open H
  obtain ⟨c0, c1, c2, c3, c4, c5, cf⟩ := pipe_cells H1.at0
  rw [hc] at c3
  have gl := lt_of_block H1.at0
  have HC := Lib.hid hc
  clear hc
  go_enter Tryz.func162, Tryz.ntmps162
  go_wp2_with fail
  go_ret3
  refine ⟨none, 0, none, 0, rfl, SL.rdNil 3 (SL.rdNil 3 ?_)⟩
  repeat (first | with_reducible refine SL.drewN ?_ _ | with_reducible refine SL.drew ?_ | with_reducible exact H)
 ·rw [if_neg hc]
  have hc' : x.closed = false := by simpa using hc
  obtain ⟨rb, sp, rp, H1⟩ := pipe_open H
  obtain ⟨c0, c1, c2, c3, c4, c5, cf⟩ := pipe_cells H1.at0
  rw [hc'] at c3
  have gl := lt_of_block H1.at0
  have HC := Lib.hid hc'
  clear hc hc'
  go_enter Tryz.func162, Tryz.ntmps162
  go_wp2_with fail
  have H2 := H1.set 3 (.bool true)
  dsimp [Array.setIfInBounds] at H2
  have H3 := pipe_shut (x := { x with closed := true }) H2
  clear H2 c0 c1 c2 c3 c4 c5 cf gl
  refine (sl_waiting (x := { x with closed := true }) false (Nat.le_trans hs (by decide)) (Nat.le_trans hr (by decide)) H3).mono ?_
  intro e w1 hW
  obtain ⟨a, c, rfl, H4⟩ := hW.sl H3
  clear hW
  go_wp2_with fail
  refine (sl_waiting (x := { x with closed := true }) true (Nat.le_trans hs (by decide)) (Nat.le_trans hr (by decide)) H4.up1).mono ?_
  intro e w2 hW
  obtain ⟨b, d, rfl, H5⟩ := hW.sl H4
  clear hW
  go_wp2_with fail
  refine (sl_pew_new H5).mono ?_
  rintro e w3 ⟨p1, rfl, H6⟩
  go_wp2_with fail
  refine (sl_pew_new H6).mono ?_
  rintro e w4 ⟨p2, rfl, H7⟩
  obtain ⟨rb', sp', rp', H8⟩ := pipe_open H7.up4
  obtain ⟨c0, c1, c2, c3, c4, c5, cf⟩ := pipe_cells H8.at0
  have gl := lt_of_block H8.at0
  go_wp2_with fail
  go_ret3
  have H9 := (H8.set 2 (.pointer (some ⟨p1, 0, none⟩))).set 1 (.pointer (some ⟨p2, 0, none⟩))
  dsimp [Array.setIfInBounds] at H9
  have H10 := pipe_shut (x := { x with closed := true, senders := [], receivers := [] }) (H9.drop2.drop2).dn1.dn1
  have H11 := H10.up1.up2
  exact ⟨a, c, b, d, rfl, H11⟩
end
end Go.Proofs.YtchkaaeoffmjnaaGreatDoor
namespace Go.Proofs.YtchkaaeoffmjnaaGreatDoor
set_option linter.unusedVariables false
set_option linter.unusedSimpArgs false
open Go.RowKit
theorem SL.slc {w : World} {F : List Piece} {te sz n : Nat} {v : Value} {xs : List Value} (h : SL w (Slc te sz v n xs :: F)) : ∃ a cap, v = .slice a n cap ∧ n ≤ cap ∧ cap ≤ maxLen ∧ Rd w sz a n xs := by
 obtain ⟨S, _, h1, _⟩ := h.on
 rcases h1.2 with ⟨rfl, rfl⟩ | ⟨g, cap, cur, rfl, _, _, h2, h3, _⟩
 ·exact ⟨none, 0, rfl, Nat.le_refl _, Nat.zero_le _, Rd.of_own h1⟩
 ·exact ⟨_, cap, rfl, h2, h3, Rd.of_own h1⟩
/-- A piece out of which a slice can be read. -/
def Reader (A : Piece) (sz : Nat) (a : Option Addr) (n : Nat) (xs : List Value) : Prop := ∀ (S : Nat → Prop) (w : World), A.on S w → Rd w sz a n xs
theorem Reader.slc {te sz n cap : Nat} {a : Option Addr} {xs : List Value} : Reader (Slc te sz (.slice a n cap) n xs) sz a n xs := fun S w h => Rd.of_own h.1
theorem Reader.rdp {sz n : Nat} {a : Option Addr} {xs : List Value} : Reader (RdP a n sz xs) sz a n xs := fun S w h => h.1
theorem Reader.old {w0 : World} {sz n : Nat} {a : Option Addr} {xs : List Value} (h : Rd w0 sz a n xs) : Reader (Old w0) sz a n xs := by
 intro S w ho
 refine ⟨h.1, h.2.1, fun hn => ?_⟩
 obtain ⟨b, off, ha, hc⟩ := h.2.2 hn
 refine ⟨b, off, ha, fun i u hu => ?_⟩
 have hx := hc i u hu
 exact (World.cell?_of_block (w := w0) (ho.2.2.2 b (World.block_lt_of_cell? w0 _ hx)).2).trans hx
theorem SL.read {w : World} {A : Piece} {F : List Piece} {sz n : Nat} {a : Option Addr} {xs : List Value} (h : SL w (A :: F)) (hr : Reader A sz a n xs) : Rd w sz a n xs := by
 obtain ⟨S, _, h1⟩ := h.on
 exact hr S w h1
section
variable {w : World} {F : List Piece}
end
end Go.Proofs.YtchkaaeoffmjnaaGreatDoor
namespace Go.Proofs.YtchkaaeoffmjnaaGreatDoor
set_option linter.unusedVariables false
set_option linter.unusedSimpArgs false
open Go.RowKit
def refL (h : Nat) (x : PipeM) (v : Value × Value × Value) : List Piece :=
 [row h #[.int .i64 x.size, v.1, v.2.1, v.2.2, .bool x.closed, .int .i64 x.sent, .int .i64 x.received] 259, Slc 3 1 v.1 x.buf.length (ints x.buf),
  Slc 255 3 v.2.1 x.senders.length (x.senders.flatMap Wtr.cells), Slc 255 3 v.2.2 x.receivers.length (x.receivers.flatMap Wtr.cells)]
/-- The reference's pipe. -/
def RefP (h : Nat) (x : PipeM) : Piece := exP fun v => all (refL h x v)
section
variable {w : World} {F : List Piece} {h : Nat} {x : PipeM}
end
end Go.Proofs.YtchkaaeoffmjnaaGreatDoor
namespace Go.Proofs.YtchkaaeoffmjnaaGreatDoor
set_option linter.unusedVariables false
set_option linter.unusedSimpArgs false
open Go.RowKit
section
variable {w : World} {F : List Piece} {h : Nat} {x : PipeM}
end
end Go.Proofs.YtchkaaeoffmjnaaGreatDoor
namespace Go.Proofs.YtchkaaeoffmjnaaGreatDoor
set_option linter.unusedVariables false
set_option linter.unusedSimpArgs false
open Go.RowKit
section
variable {w : World} {F : List Piece} {h : Nat} {x : PipeM}
end
end Go.Proofs.YtchkaaeoffmjnaaGreatDoor
namespace Go.Proofs.YtchkaaeoffmjnaaGreatDoor
set_option linter.unusedVariables false
set_option linter.unusedSimpArgs false
open Go.RowKit
def rwaitF (x : PipeM) (s : Bool) (m : Wtr) : Int × PipeM :=
 if x.closed || (if s then decide (x.buf.length < x.size) else decide (0 < x.buf.length)) || decide (0 < (without m.g (if s then x.receivers else x.senders)).length) then (7, x)
 else if m.g < 0 ∨ m.case_ < -1 then (1, x)
 else if s then (if 1024 ≤ x.senders.length then (5, x) else (0, { x with senders := x.senders ++ [m] }))
 else (if 1024 ≤ x.receivers.length then (5, x) else (0, { x with receivers := x.receivers ++ [m] }))
section
variable {w : World} {F : List Piece} {h : Nat} {x : PipeM}
end
end Go.Proofs.YtchkaaeoffmjnaaGreatDoor
namespace Go.Proofs.YtchkaaeoffmjnaaGreatDoor
set_option linter.unusedVariables false
set_option linter.unusedSimpArgs false
open Go.RowKit
structure Inv9 (n : Nat) (x : PipeM) : Prop where
 size : x.size ≤ 4
 buf : x.buf.length ≤ x.size
 snd : Fine x.senders
 rcv : Fine x.receivers
 s0 : 0 ≤ x.sent
 s1 : x.sent ≤ n
 r0 : 0 ≤ x.received
 r1 : x.received ≤ n
 cl : x.closed = true → x.senders = [] ∧ x.receivers = []
 re : x.receivers ≠ [] → x.buf = []
 se : x.senders ≠ [] → x.buf.length = x.size
 own : ∀ a ∈ x.senders, ∀ b ∈ x.receivers, a.g = b.g
theorem Fine.nil : Fine [] := ⟨by simp, by simp⟩
theorem Fine.tail {m : Wtr} {l : List Wtr} (h : Fine (m :: l)) : Fine l := ⟨by have := h.1; simp at this; omega, fun x hx => h.2 x (List.mem_cons_of_mem _ hx)⟩
theorem Inv9.empty {z : Nat} (h : z ≤ 4) : Inv9 0 (emptyM z) :=
 ⟨h, Nat.zero_le _, Fine.nil, Fine.nil, by simp [emptyM], by simp [emptyM], by simp [emptyM], by simp [emptyM], fun h => ⟨rfl, rfl⟩, fun h => rfl, fun h => absurd rfl h, fun a h => by simp [emptyM] at h⟩
theorem Inv9.more {n k : Nat} {x : PipeM} (h : Inv9 n x) (hk : n ≤ k) : Inv9 k x := { h with s1 := by have := h.s1; omega, r1 := by have := h.r1; omega }
theorem Inv9.send {n : Nat} {x : PipeM} (h : Inv9 n x) (v : Int) : Inv9 (n + 1) (sendF x v).2 := by
 unfold sendF
 by_cases hc : x.closed = true
 ·rw [if_pos hc]
  exact h.more (by omega)
 ·rw [if_neg hc]
  have s0 := h.s0; have s1 := h.s1; have r0 := h.r0; have r1 := h.r1
  rcases hr : x.receivers with _ | ⟨m, l⟩
  ·dsimp only
   by_cases hz : x.buf.length < x.size
   ·rw [if_pos hz]
    exact { h with buf := by simp; omega, rcv := Fine.nil, s0 := by dsimp only; omega, s1 := by dsimp only; omega, r1 := by dsimp only; omega, cl := fun hh => absurd hh hc, re := fun hh => absurd rfl hh, se := fun hh => by have := h.se hh; omega, own := fun a _ b hb => by cases hb }
   ·rw [if_neg hz]
    exact h.more (by omega)
  ·dsimp only
   have hre := h.re (by rw [hr]; simp)
   exact { h with rcv := by have := h.rcv; rw [hr] at this; exact this.tail, s0 := by dsimp only; omega, s1 := by dsimp only; omega, r0 := by dsimp only; omega, r1 := by dsimp only; omega, cl := fun hh => absurd hh hc, re := fun hh => hre, own := fun a ha b hb => h.own a ha b (by rw [hr]; exact List.mem_cons_of_mem _ hb) }
theorem Inv9.recv {n : Nat} {x : PipeM} (h : Inv9 n x) : Inv9 (n + 1) (recvF x).2 := by
 unfold recvF
 have s0 := h.s0; have s1 := h.s1; have r0 := h.r0; have r1 := h.r1
 rcases hb : x.buf with _ | ⟨a, L⟩
 ·rcases hs : x.senders with _ | ⟨m, l⟩
  ·dsimp only
   by_cases hc : x.closed = true
   ·rw [if_pos hc]
    exact h.more (by omega)
   ·rw [if_neg hc]
    exact h.more (by omega)
  ·have hc : ¬ x.closed = true := fun hh => by have := (h.cl hh).1; rw [hs] at this; cases this
   have hse := h.se (by rw [hs]; simp)
   rw [hb] at hse
   dsimp only
   exact { h with buf := by simp, re := fun _ => rfl, snd := by have := h.snd; rw [hs] at this; exact this.tail, s0 := by dsimp only; omega, s1 := by dsimp only; omega, r0 := by dsimp only; omega, r1 := by dsimp only; omega, cl := fun hh => absurd hh hc, se := fun hh => hse, own := fun c hc' b hb' => h.own c (by rw [hs]; exact List.mem_cons_of_mem _ hc') b hb' }
 ·have hr : x.receivers = [] := Classical.byContradiction fun hh => by have := h.re hh; rw [hb] at this; cases this
  have hbl := h.buf
  rw [hb] at hbl
  simp at hbl
  rcases hs : x.senders with _ | ⟨m, l⟩
  ·dsimp only
   exact { h with buf := by dsimp only; omega, snd := Fine.nil, s0 := s0, s1 := by dsimp only; omega, r0 := by dsimp only; omega, r1 := by dsimp only; omega, cl := fun hh => ⟨rfl, (h.cl hh).2⟩, re := fun hh => absurd hr hh, se := fun hh => absurd rfl hh, own := fun a ha => by cases ha }
  ·have hc : ¬ x.closed = true := fun hh => by have := (h.cl hh).1; rw [hs] at this; cases this
   have hse := h.se (by rw [hs]; simp)
   rw [hb] at hse
   simp at hse
   dsimp only
   exact { h with buf := by simp; omega, snd := by have := h.snd; rw [hs] at this; exact this.tail, s0 := by dsimp only; omega, s1 := by dsimp only; omega, r0 := by dsimp only; omega, r1 := by dsimp only; omega, cl := fun hh => absurd hh hc, re := fun hh => absurd hr hh, se := fun hh => by simp; omega, own := fun c hc' b hb' => h.own c (by rw [hs]; exact List.mem_cons_of_mem _ hc') b hb' }
theorem without_nil {g : Int} {L : List Wtr} : (¬ 0 < (without g L).length) ↔ ∀ b ∈ L, b.g = g := by
 unfold without
 rw [Nat.not_lt, Nat.le_zero_eq, List.length_eq_zero_iff, List.filter_eq_nil_iff]
 exact ⟨fun h b hb => by have := h b hb; simpa using this, fun h b hb => by simp [h b hb]⟩
theorem any_not {g : Int} {L : List Wtr} : (L.any (fun m => !(m.g == g))) = decide (0 < (without g L).length) := by
 rw [Bool.eq_iff_iff, decide_eq_true_iff, List.any_eq_true]
 constructor
 ·rintro ⟨b, hb, hn⟩
  apply Classical.byContradiction
  intro hh
  have := without_nil.1 hh b hb
  simp [this] at hn
 ·intro hh
  apply Classical.byContradiction
  intro hno
  refine absurd hh (without_nil.2 fun b hb => ?_)
  apply Classical.byContradiction
  intro hg
  exact hno ⟨b, hb, by simpa using hg⟩
theorem wait_eq {n : Nat} {x : PipeM} (h : Inv9 n x) (s : Bool) (m : Wtr) : waitF x s m = rwaitF x s m := by
 have key : (readyF x s && !aloneF x (!s) m.g) = (x.closed || (if s then decide (x.buf.length < x.size) else decide (0 < x.buf.length)) || decide (0 < (without m.g (if s then x.receivers else x.senders)).length)) := by
  have hb := h.buf
  unfold readyF aloneF
  cases s
  ·simp only [Bool.not_false, Bool.false_eq_true, if_false, if_true]
   rw [any_not]
   by_cases hc : x.closed = true
   ·simp [hc]
   ·have hc' : x.closed = false := by simpa using hc
    simp only [hc', Bool.not_false, Bool.true_and, Bool.false_or]
    by_cases h1 : 0 < x.buf.length
    ·have hz : ¬ x.size = 0 := by omega
     simp [h1, hz]
    ·by_cases h2 : 0 < x.senders.length
     ·have := h.se (by intro e; rw [e] at h2; simp at h2)
      have hz : x.size = 0 := by omega
      simp [h1, h2, hz]
     ·have hs : x.senders = [] := List.eq_nil_of_length_eq_zero (by omega)
      simp [hs, h1, without]
  ·simp only [Bool.not_true, Bool.false_eq_true, if_false, if_true]
   rw [any_not]
   by_cases hc : x.closed = true
   ·simp [hc]
   ·have hc' : x.closed = false := by simpa using hc
    simp only [hc', Bool.not_false, Bool.true_and, Bool.false_or]
    by_cases h1 : x.buf.length < x.size
    ·have hz : ¬ x.size = 0 := by omega
     simp [h1, hz]
    ·by_cases h2 : 0 < x.receivers.length
     ·have := h.re (by intro e; rw [e] at h2; simp at h2)
      have hz : x.size = 0 := by rw [this] at h1; simp at h1; omega
      simp [h1, h2, hz]
     ·have hs : x.receivers = [] := List.eq_nil_of_length_eq_zero (by omega)
      simp [hs, h1, without]
 unfold waitF rwaitF
 rw [key]
 by_cases hc : (x.closed || (if s then decide (x.buf.length < x.size) else decide (0 < x.buf.length)) || decide (0 < (without m.g (if s then x.receivers else x.senders)).length)) = true
 ·rw [if_pos hc, if_pos hc]
 ·rw [if_neg hc, if_neg hc]
  unfold addF
  have l1 := h.snd.1
  have l2 := h.rcv.1
  by_cases h1 : m.g < 0 ∨ m.case_ < -1
  ·cases s <;> simp [h1]
  ·cases s
   ·simp only [Bool.false_eq_true, if_false, if_neg h1]
    by_cases h2 : x.receivers.length = 1024
    ·rw [if_pos h2, if_pos (by omega)]
    ·rw [if_neg h2, if_neg (by omega)]
   ·simp only [if_true, if_neg h1]
    by_cases h2 : x.senders.length = 1024
    ·rw [if_pos h2, if_pos (by omega)]
    ·rw [if_neg h2, if_neg (by omega)]
theorem Inv9.wait {n : Nat} {x : PipeM} (h : Inv9 n x) (s : Bool) (m : Wtr) : Inv9 n (waitF x s m).2 := by
 rw [wait_eq h]
 unfold rwaitF
 have hb := h.buf
 by_cases hc : (x.closed || (if s then decide (x.buf.length < x.size) else decide (0 < x.buf.length)) || decide (0 < (without m.g (if s then x.receivers else x.senders)).length)) = true
 ·rw [if_pos hc]
  exact h
 ·rw [if_neg hc]
  by_cases h1 : m.g < 0 ∨ m.case_ < -1
  ·rw [if_pos h1]
   exact h
  ·rw [if_neg h1]
   cases s
   ·simp only [Bool.false_eq_true, if_false] at hc ⊢
    simp only [Bool.or_eq_true, decide_eq_true_iff, not_or] at hc
    obtain ⟨⟨c1, c2⟩, c3⟩ := hc
    by_cases h2 : 1024 ≤ x.receivers.length
    ·rw [if_pos h2]
     exact h
    ·rw [if_neg h2]
     exact { h with rcv := ⟨by simp; omega, fun y hy => (List.mem_append.1 hy).elim (fun hy => h.rcv.2 y hy) (fun hy => by simp at hy; subst hy; omega)⟩, cl := fun hh => absurd hh c1, re := fun _ => List.eq_nil_of_length_eq_zero (by dsimp only; omega), own := fun a ha b hb' => (List.mem_append.1 hb').elim (fun hb' => h.own a ha b hb') (fun hb' => by simp at hb'; subst hb'; exact without_nil.1 c3 a ha) }
   ·simp only [if_true] at hc ⊢
    simp only [Bool.or_eq_true, decide_eq_true_iff, not_or] at hc
    obtain ⟨⟨c1, c2⟩, c3⟩ := hc
    by_cases h2 : 1024 ≤ x.senders.length
    ·rw [if_pos h2]
     exact h
    ·rw [if_neg h2]
     exact { h with snd := ⟨by simp; omega, fun y hy => (List.mem_append.1 hy).elim (fun hy => h.snd.2 y hy) (fun hy => by simp at hy; subst hy; omega)⟩, cl := fun hh => absurd hh c1, se := fun _ => by dsimp only; omega, own := fun a ha b hb' => (List.mem_append.1 ha).elim (fun ha => h.own a ha b hb') (fun ha => by simp at ha; subst ha; exact (without_nil.1 c3 b hb').symm) }
theorem Inv9.close {n : Nat} {x : PipeM} (h : Inv9 n x) : Inv9 n (closeF x).2 := by
 unfold closeF
 by_cases hc : x.closed = true
 ·rw [if_pos hc]
  exact h
 ·rw [if_neg hc]
  exact { h with snd := Fine.nil, rcv := Fine.nil, cl := fun _ => ⟨rfl, rfl⟩, re := fun hh => absurd rfl hh, se := fun hh => absurd rfl hh, own := fun a ha => by cases ha }
theorem Inv9.drop {n : Nat} {x : PipeM} (h : Inv9 n x) (g : Int) : Inv9 n (dropM x g) := by
 have sub : ∀ {L : List Wtr} {a : Wtr}, a ∈ without g L → a ∈ L := fun ha => (List.mem_filter.1 ha).1
 have ne : ∀ {L : List Wtr}, without g L ≠ [] → L ≠ [] := fun hh e => hh (by rw [e]; rfl)
 exact { h with snd := h.snd.without g, rcv := h.rcv.without g, cl := fun hh => by obtain ⟨a, b⟩ := h.cl hh; exact ⟨by unfold dropM; dsimp only; rw [a]; rfl, by unfold dropM; dsimp only; rw [b]; rfl⟩, re := fun hh => h.re (ne hh), se := fun hh => h.se (ne hh), own := fun a ha b hb => h.own a (sub ha) b (sub hb) }
structure Step9 where
 what : Int
 w : Wtr
def Step9.cells (s : Step9) : List Value := [.int .i64 s.what, .int .i64 s.w.g, .int .i64 s.w.case_, .int .i64 s.w.value]
def Step9.agg (s : Step9) : Value := .agg #[.int .i64 s.what, .int .i64 s.w.g, .int .i64 s.w.case_, .int .i64 s.w.value]
def stepF (x : PipeM) (s : Step9) : PipeM :=
 if s.what = 0 ∨ s.what = 1 then (sendF x s.w.value).2
 else if s.what = 2 ∨ s.what = 3 then (recvF x).2
 else if s.what = 4 ∨ s.what = 5 then (waitF x (s.what == 4) s.w).2
 else if s.what = 6 then (closeF x).2
 else if s.what = 7 then dropM x s.w.g
 else x
theorem Inv9.step {n : Nat} {x : PipeM} (h : Inv9 n x) (s : Step9) : Inv9 (n + 1) (stepF x s) := by
 unfold stepF
 split
 ·exact h.send _
 split
 ·exact h.recv
 split
 ·exact (h.wait _ _).more (by omega)
 split
 ·exact h.close.more (by omega)
 split
 ·exact (h.drop _).more (by omega)
 ·exact h.more (by omega)
theorem Inv9.cnt {n : Nat} {x : PipeM} (h : Inv9 n x) (hn : n ≤ 1000000000) : Cnt x := ⟨h.s0, by have := h.s1; omega, h.r0, by have := h.r1; omega⟩
end Go.Proofs.YtchkaaeoffmjnaaGreatDoor
namespace Go.Proofs.YtchkaaeoffmjnaaGreatDoor
set_option linter.unusedVariables false
set_option linter.unusedSimpArgs false
open Go.RowKit
section
variable {w : World} {F : List Piece} {g h n : Nat} {x : PipeM}
theorem sl_send (v : Int) (hI : Inv9 n x) (hn : n ≤ 1000000) (H : SL w (PipeP g x :: F)) : Calls Tryz.prog 195 #[.pointer (some ⟨g, 0, none⟩), .int .i64 v] w fun e w' => e = .returned (.tuple #[(sendF x v).1.1.agg, .int .i64 (sendF x v).1.2]) ∧ SL w' (PipeP g (sendF x v).2 :: F) :=
 PipePost.sl (S := fun _ => False) (fun S h => pipe_send h (by have := hI.rcv.1; omega) (hI.cnt (by omega)) v) H
theorem sl_drop (i : Int) (hI : Inv9 n x) (H : SL w (PipeP g x :: F)) : Calls Tryz.prog 216 #[.pointer (some ⟨g, 0, none⟩), .int .i64 i] w fun e w' => e = .returned (.int .i64 (((x.senders.length : Int) - (without i x.senders).length) + ((x.receivers.length : Int) - (without i x.receivers).length))) ∧ SL w' (PipeP g (dropM x i) :: F) :=
 PipePost.sl (S := fun _ => False) (fun S h => pipe_drop h hI.snd hI.rcv i) H
theorem sl_new (z : Nat) (hz : z ≤ 4) (H : SL w F) : Calls Tryz.prog 112 #[.int .i64 z] w fun e w' => ∃ g, e = .returned (.tuple #[.pointer (some ⟨g, 0, none⟩), .int .i64 0]) ∧ SL w' (PipeP g (emptyM z) :: F) := by
 refine (pipe_new_ok z hz w).mono ?_
 rintro e w' ⟨g, rfl, h1, f1⟩
 exact ⟨g, rfl, H.new (M := [PipeP g (emptyM z)]) f1 ⟨_, fun _ h => h, h1, trivial⟩⟩
end
end Go.Proofs.YtchkaaeoffmjnaaGreatDoor
namespace Go.Proofs.YtchkaaeoffmjnaaGreatDoor
set_option linter.unusedVariables false
set_option linter.unusedSimpArgs false
open Go.RowKit
section
variable {w : World} {F : List Piece} {g h n : Nat} {x : PipeM}
end
end Go.Proofs.YtchkaaeoffmjnaaGreatDoor
namespace Go.Proofs.YtchkaaeoffmjnaaGreatDoor
set_option linter.unusedVariables false
set_option linter.unusedSimpArgs false
open Go.RowKit
def adr (o : Option Nat) : Value := .pointer (o.map fun g => ⟨g, 0, none⟩)
def pcs (gs : List (Option Nat)) : List Value := gs.map adr
def pieceO (P : Nat → PipeM → Piece) : Option Nat → PipeM → Piece
 | none, _ => emp
 | some g, x => P g x
/-- Pipes side by side; of none there is nothing. -/
def PsP (gs : List (Option Nat)) (M : List PipeM) : Piece := all (List.zipWith (pieceO PipeP) gs M)
def RsP (gs : List (Option Nat)) (M : List PipeM) : Piece := all (List.zipWith (pieceO RefP) gs M)
theorem SLs.take {w : World} : ∀ {L : List Piece} {S : Nat → Prop} (i : Nat) {A : Piece}, SLs w S L → L[i]? = some A → SLs w S (A :: L.set i emp)
 | [], _, i, _, _, h => by simp at h
 | B :: L, S, 0, A, h, hi => by
  simp at hi
  subst hi
  obtain ⟨T, h1, h2, h3⟩ := h
  exact ⟨T, h1, h2, fun _ => False, fun _ h => h.elim, trivial, h3.mono (fun k hk => ⟨hk, id⟩)⟩
 | B :: L, S, i + 1, A, h, hi => (SLs.congr (fun S' h' => SLs.take i h' (by simpa using hi)) h).swap
theorem SLs.put {w : World} : ∀ {L : List Piece} {S : Nat → Prop} (i : Nat) {A : Piece}, i < L.length → SLs w S (A :: L.set i emp) → SLs w S (L.set i A)
 | [], _, i, _, h, _ => absurd h (Nat.not_lt_zero i)
 | B :: L, S, 0, A, _, h => SLs.congr (fun S' h' => SLs.tl h') h
 | B :: L, S, i + 1, A, hi, h => SLs.congr (fun S' h' => SLs.put i (by simpa using hi) h') h.swap
section
variable {w : World} {F : List Piece} {gs : List (Option Nat)} {M : List PipeM} {P : Nat → PipeM → Piece}
theorem zip_get {i g : Nat} {x : PipeM} (hg : gs[i]? = some (some g)) (hx : M[i]? = some x) : (List.zipWith (pieceO P) gs M)[i]? = some (P g x) := by
 rw [List.getElem?_zipWith, hg, hx]
 rfl
theorem zip_set {i g : Nat} (hg : gs[i]? = some (some g)) (y : PipeM) : (List.zipWith (pieceO P) gs M).set i (P g y) = List.zipWith (pieceO P) gs (M.set i y) := by
 apply List.ext_getElem?
 intro j
 by_cases hj : i = j
 ·subst hj
  rw [List.getElem?_set_self', List.getElem?_zipWith, List.getElem?_zipWith, hg, List.getElem?_set_self']
  cases M[i]? <;> rfl
 ·rw [List.getElem?_set_ne hj, List.getElem?_zipWith, List.getElem?_zipWith, List.getElem?_set_ne hj]
theorem all_take {i g : Nat} {x : PipeM} (hg : gs[i]? = some (some g)) (hx : M[i]? = some x) (H : SL w (all (List.zipWith (pieceO P) gs M) :: F)) : SL w (P g x :: all ((List.zipWith (pieceO P) gs M).set i emp) :: F) := by
 have h := SL.all.1 H
 obtain ⟨T, t1, t2, t3⟩ := SLs.app.1 h
 have t4 := SLs.take i t2 (zip_get (P := P) hg hx)
 obtain ⟨U, u1, u2, u3⟩ := t4
 exact ⟨U, fun k hk => t1 k (u1 k hk), u2, fun k => T k ∧ ¬ U k, fun k hk => ⟨t1 k hk.1, hk.2⟩, u3, t3.mono (fun k hk => ⟨⟨hk.1, fun hu => hk.2 (u1 k hu)⟩, fun ht => hk.2 ht.1⟩)⟩
theorem all_put {i g : Nat} {x y : PipeM} (hg : gs[i]? = some (some g)) (hx : M[i]? = some x) (H : SL w (P g y :: all ((List.zipWith (pieceO P) gs M).set i emp) :: F)) : SL w (all (List.zipWith (pieceO P) gs (M.set i y)) :: F) := by
 obtain ⟨U, u1, u2, T, t1, t2, t3⟩ := H
 rw [← zip_set hg y]
 have hlen : i < (List.zipWith (pieceO P) gs M).length := by
  have := zip_get (P := P) hg hx
  exact (List.getElem?_eq_some_iff.1 this).1
 refine ⟨fun k => U k ∨ T k, fun k hk => hk.elim (u1 k) (fun h => (t1 k h).1), SLs.put i hlen ⟨U, fun k hk => .inl hk, u2, t2.mono (fun k hk => ⟨.inr hk, (t1 k hk).2⟩)⟩, t3.mono (fun k hk => ⟨hk.1.1, fun h => h.elim hk.1.2 hk.2⟩)⟩
theorem all_at {i g : Nat} {x : PipeM} (hg : gs[i]? = some (some g)) (hx : M[i]? = some x) (H : SL w (all (List.zipWith (pieceO P) gs M) :: F)) : ∃ S, (P g x).on S w := by
 obtain ⟨S, _, h⟩ := (all_take hg hx H).on
 exact ⟨S, h⟩
end
structure CaseM where
 send : Bool
 chan : Int
 value : Int
def CaseM.cells (c : CaseM) : List Value := [.bool c.send, .int .i64 c.chan, .int .i64 c.value]
def CaseM.agg (c : CaseM) : Value := .agg #[.bool c.send, .int .i64 c.chan, .int .i64 c.value]
theorem case_at {w : World} {a : Option Addr} {n : Nat} {L : List CaseM} (h : Rd w 3 a n (L.flatMap CaseM.cells)) (k : Nat) (hk : k < L.length) : ∃ b off, a = some ⟨b, off, none⟩ ∧
  w.cell? ⟨b, off + k * 3, none⟩ = some (.bool L[k].send) ∧ w.cell? ⟨b, off + k * 3 + 1, none⟩ = some (.int .i64 L[k].chan) ∧ w.cell? ⟨b, off + k * 3 + 2, none⟩ = some (.int .i64 L[k].value) := by
 have hl := h.1
 rw [flat_length CaseM.cells 3 (fun _ => rfl)] at hl
 obtain ⟨b, off, rfl, hc⟩ := h.2.2 (by omega)
 have key : ∀ j (hj : j < 3), ∀ u, (L[k].cells)[j]? = some u → w.cell? ⟨b, off + k * 3 + j, none⟩ = some u := fun j hj u hu => by
  rw [Nat.add_assoc]
  exact hc (k * 3 + j) u (by rw [flat_get CaseM.cells 3 (fun _ => rfl) L k j hj hk]; exact hu)
 exact ⟨b, off, rfl, key 0 (by omega) _ rfl, key 1 (by omega) _ rfl, key 2 (by omega) _ rfl⟩
/-- Whose address a name has. -/
def nm (gs : List (Option Nat)) (c : Int) : Option Nat := if 0 ≤ c ∧ c < gs.length then gs.getD c.toNat none else none
/-- Which pipe a name is; ok: which are there. -/
def posF (ok : List Bool) (c : Int) : Option Nat := if 0 ≤ c ∧ c < ok.length ∧ ok.getD c.toNat false = true then some c.toNat else none
def oks (gs : List (Option Nat)) : List Bool := gs.map Option.isSome
theorem nm_pos (gs : List (Option Nat)) (c : Int) : (posF (oks gs) c = none ∧ nm gs c = none) ∨ (∃ i g, posF (oks gs) c = some i ∧ nm gs c = some g ∧ gs[i]? = some (some g) ∧ c = i) := by
 unfold posF nm oks
 rw [List.length_map]
 by_cases h : 0 ≤ c ∧ c < gs.length
 ·rw [if_pos h]
  obtain ⟨i, rfl⟩ : ∃ i : Nat, c = i := ⟨c.toNat, by omega⟩
  have hi : i < gs.length := by omega
  rw [Int.toNat_natCast, List.getD_eq_getElem?_getD, List.getD_eq_getElem?_getD, List.getElem?_map, List.getElem?_eq_getElem hi]
  rcases hg : gs[i] with _ | g
  ·exact .inl ⟨by rw [if_neg (by simp)], rfl⟩
  ·exact .inr ⟨i, g, by rw [if_pos ⟨h.1, h.2, rfl⟩], rfl, by rw [List.getElem?_eq_getElem hi, hg], rfl⟩
 ·rw [if_neg h]
  exact .inl ⟨if_neg (fun q => h ⟨q.1, q.2.1⟩), rfl⟩
def readyC (ok : List Bool) (M : List PipeM) (c : CaseM) : Bool := match posF ok c.chan with | none => false | some i => readyF (M.getD i (emptyM 0)) c.send
def readyK (ok : List Bool) (M : List PipeM) (L : List CaseM) (k : Nat) : List Int := ((List.range k).filter (fun i : Nat => readyC ok M (L.getD i ⟨false, 0, 0⟩))).map (fun i : Nat => (i : Int))
def readyL (ok : List Bool) (M : List PipeM) (L : List CaseM) : List Int := readyK ok M L L.length
theorem readyK_succ (ok : List Bool) (M : List PipeM) (L : List CaseM) (k : Nat) (hk : k < L.length) : readyK ok M L (k + 1) = readyK ok M L k ++ if readyC ok M L[k] then [(k : Int)] else [] := by
 unfold readyK
 rw [List.range_succ, List.filter_append, List.map_append]
 congr 1
 have e : L.getD k ⟨false, 0, 0⟩ = L[k] := by rw [List.getD_eq_getElem?_getD, List.getElem?_eq_getElem hk]; rfl
 rw [List.filter_cons, e, List.filter_nil]
 split <;> rfl
theorem readyK_le (ok : List Bool) (M : List PipeM) (L : List CaseM) (k : Nat) : (readyK ok M L k).length ≤ k := by
 unfold readyK
 rw [List.length_map]
 exact Nat.le_trans (List.length_filter_le _ _) (by simp)
section
variable {w : World} {F : List Piece} {gs : List (Option Nat)} {M : List PipeM}
set_option maxHeartbeats 400000 in
theorem f_named {a : Option Addr} {n cap : Nat} (c : Int) (hn : n = gs.length) (h : Rd w 1 a n (pcs gs)) : Calls Tryz.prog 194 #[.slice a n cap, .int .i64 c] w fun e w' => e = .returned (adr (nm gs c)) ∧ w = w' := by
 obtain ⟨v, hv⟩ : ∃ v, nm gs c = v := ⟨_, rfl⟩
 rw [hv]
 unfold nm at hv
 subst hn
 by_cases h1 : c < 0
 ·rw [if_neg (by omega)] at hv
  subst hv
  go_enter Tryz.func194, Tryz.ntmps194
  go_wp2_with fail
  go_ret
  exact ⟨rfl, rfl⟩
 ·obtain ⟨k, rfl⟩ : ∃ k : Nat, c = k := ⟨c.toNat, by omega⟩
  by_cases h2 : k < gs.length
  ·rw [if_pos (by omega), Int.toNat_natCast] at hv
   obtain ⟨b, off, rfl, hc⟩ := h.2.2 (by omega)
   have h3 := hc k (adr v) (by unfold pcs; rw [List.getElem?_map, List.getElem?_eq_getElem h2]; rw [List.getD_eq_getElem?_getD, List.getElem?_eq_getElem h2] at hv; simp at hv; rw [hv]; rfl)
   have h4 := World.block_lt_of_cell? w _ h3
   dsimp only at h4
   unfold adr at h3 ⊢
   obtain ⟨q, hq⟩ : ∃ q, v.map (fun g => (⟨g, 0, none⟩ : Addr)) = q := ⟨_, rfl⟩
   rw [hq] at h3 ⊢
   clear hc hv hq
   have d1 : (k : Int) < (gs.length : Int) := by omega
   have d2 : ¬ (gs.length : Int) ≤ (k : Int) := by omega
   have d3 : (0 : Int) ≤ (k : Int) := by omega
   go_enter Tryz.func194, Tryz.ntmps194
   go_wp2_with fail
   go_ret
   exact ⟨rfl, rfl⟩
  ·rw [if_neg (by omega)] at hv
   subst hv
   have d2 : (gs.length : Int) ≤ (k : Int) := by omega
   go_enter Tryz.func194, Tryz.ntmps194
   go_wp2_with fail
   go_ret
   exact ⟨rfl, rfl⟩
theorem ps_ready (hM : M.length = gs.length) (c : Int) (s : Bool) (v : Int) (H : SL w (PsP gs M :: F)) : Calls Tryz.prog 107 #[adr (nm gs c), .bool s] w fun e w' => e = .returned (.bool (readyC (oks gs) M ⟨s, c, v⟩)) ∧ Frm Nil w w' := by
 unfold readyC
 rcases nm_pos gs c with ⟨h1, h2⟩ | ⟨i, g, h1, h2, h3, h4⟩
 ·dsimp only
  rw [h1, h2]
  exact pipe_ready_nil s w
 ·dsimp only
  rw [h1, h2]
  have hi : i < M.length := by rw [hM]; exact (List.getElem?_eq_some_iff.1 h3).1
  obtain ⟨S, hS⟩ := all_at (P := PipeP) h3 (List.getElem?_eq_getElem hi) H
  show Calls _ _ _ _ fun e w' => e = .returned (.bool (readyF (M.getD i (emptyM 0)) s)) ∧ Frm Nil w w'
  rw [List.getD_eq_getElem?_getD, List.getElem?_eq_getElem hi]
  exact pipe_ready hS s
end
end Go.Proofs.YtchkaaeoffmjnaaGreatDoor
namespace Go.Proofs.YtchkaaeoffmjnaaGreatDoor
set_option linter.unusedVariables false
set_option linter.unusedSimpArgs false
open Go.RowKit
section
variable {w : World} {F : List Piece} {gs : List (Option Nat)} {M : List PipeM}
set_option maxRecDepth 100000 in
set_option maxHeartbeats 1000000 in
theorem f_ready {A B : Piece} {a b : Option Addr} {ca cb n m : Nat} {L : List CaseM} (hM : M.length = gs.length) (hn : n = L.length) (hm : m = gs.length) (hA : Reader A 3 a n (L.flatMap CaseM.cells)) (hB : Reader B 1 b m (pcs gs)) (hL : L.length ≤ 100000) (H : SL w (PsP gs M :: A :: B :: F)) :
  Calls Tryz.prog 164 #[.slice a n ca, .slice b m cb] w fun e w' => ∃ v, e = .returned v ∧ SL w' (Slc 3 1 v (readyL (oks gs) M L).length (ints (readyL (oks gs) M L)) :: PsP gs M :: A :: B :: F) := by
 subst hn hm
 have HM := Lib.hid hM
 clear hM
 unfold readyL
 go_enter Tryz.func164, Tryz.ntmps164
 go_wp2_with fail
 go_loopw [5, 9] (fun v i wr => ∃ k : Nat, k ≤ L.length ∧ i = .int .i64 k ∧ SL wr (Slc 3 1 v (readyK (oks gs) M L k).length (ints (readyK (oks gs) M L k)) :: PsP gs M :: A :: B :: F)) (fun _ i _ => L.length - (intOf i).toNat)
 case atStart => exact ⟨0, Nat.zero_le _, rfl, SL.slcNil _ _ H⟩
 case round =>
  obtain ⟨k, hk, rfl, HR⟩ := hrel
  obtain ⟨va, vc, hv, hvl, hvm, _⟩ := HR.slc
  subst hv
  have hle := readyK_le (oks gs) M L k
  by_cases hlt : k < L.length
  ·obtain ⟨b1, o1, e1, d0, d1, d2⟩ := case_at (HR.up2.read hA) k hlt
   subst e1
   have hsc := readyK_succ (oks gs) M L k hlt
   obtain ⟨c, hc⟩ : ∃ c, L[k] = c := ⟨_, rfl⟩
   rw [hc] at d0 d1 d2 hsc
   clear hc
   obtain ⟨cs, cc, cv⟩ := c
   dsimp only at d0 d1 d2
   have k1 := fun w' (f : Frm Nil wr w') => f_named (cap := cb) cc rfl (((HR.later f).up3).read hB)
   have k2 := fun w' (f : Frm Nil wr w') => ps_ready HM.out cc cs cv ((HR.later f).up1)
   obtain ⟨pv, hpv⟩ : ∃ p, adr (nm gs cc) = p := ⟨_, rfl⟩
   obtain ⟨rb, hrb⟩ : ∃ r, readyC (oks gs) M ⟨cs, cc, cv⟩ = r := ⟨_, rfl⟩
   rw [hpv] at k1 k2
   rw [hrb] at k2 hsc
   have K1 := Lib.hid k1
   have K2 := Lib.hid k2
   have HSC := Lib.hid hsc
   clear k1 k2 hpv hrb hsc
   have dl : (k : Int) < (L.length : Int) := by omega
   go_wp2_with fail
   go_region_held3 (fun w' => w'.cell? ⟨b1, o1 + k * 3, none⟩ = some (.bool cs) ∧ w'.cell? ⟨b1, o1 + k * 3 + 1, none⟩ = some (.int .i64 cc)) (first | go_keep | (go_split_ands; refine ⟨?_, ?_⟩ <;> exact Frm.out (by assumption) (by assumption) (fun h => h))) (first | (go_at_call 194; (with_reducible refine (K1.out _ (by repeat (first | with_reducible exact Frm.refl _ _ | apply Frm.drewN | apply Frm.drew | apply Frm.alloc | (refine Frm.then ?_ (by assumption))))).mono ?_); rintro e w' ⟨rfl, rfl⟩) | (go_at_call 107; (with_reducible refine (K2.out _ (by repeat (first | with_reducible exact Frm.refl _ _ | apply Frm.drewN | apply Frm.drew | apply Frm.alloc | (refine Frm.then ?_ (by assumption))))).mono ?_); rintro e w' ⟨rfl, fq⟩))
   all_goals
    cases rb with
    | false =>
     go_wp2_with fail
     go_roundw
     case rel => exact ⟨k + 1, by omega, by go_num, by rw [HSC.out]; simp only [Bool.false_eq_true, if_false, List.append_nil]; exact HR.later (by repeat (first | with_reducible exact Frm.refl _ _ | apply Frm.drewN | apply Frm.drew | apply Frm.alloc | (refine Frm.then ?_ (by assumption))))⟩
     case measure => simp [intOf]; omega
    | true =>
     have HQ := HR.later (w' := w') (by repeat (first | with_reducible exact Frm.refl _ _ | apply Frm.drewN | apply Frm.drew | apply Frm.alloc | (refine Frm.then ?_ (by assumption))))
     go_wp2_with (at_builtin; go_must (refine sl_app rfl _ _ 40 _ 8 rfl Tryz.underlying40 infoInt rfl (by decide) (.slice va _ vc) _ _ [.int .i64 k] rfl rfl (by simp) rfl rfl HQ (by omega) (by decide) ?_); intro g c w1 H1 hs1)
     go_roundw
     case rel => exact ⟨k + 1, by omega, by go_num, by rw [HSC.out]; simp only [if_true]; rw [List.length_append, ints_append]; exact H1⟩
     case measure => simp [intOf]; omega
  ·have hkn : k = L.length := by omega
   rw [hkn] at HR
   rw [hkn]
   clear hkn hle hvl
   go_wp2_with fail
   go_ret
   exact ⟨_, rfl, HR⟩
end
end Go.Proofs.YtchkaaeoffmjnaaGreatDoor
