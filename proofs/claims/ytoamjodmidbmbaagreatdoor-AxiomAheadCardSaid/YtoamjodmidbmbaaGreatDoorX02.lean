/- Texts of the proof. -/
import Derived.Test.YtoamjodmidbmbaaGreatDoorX01
import Derived.Deep.RegionLaw
import Derived.Deep.QuietTactic
import Derived.Deep.RegionHeld3
set_option linter.unusedVariables false
set_option linter.unusedSimpArgs false
namespace Go.Proofs.YtoamjodmidbmbaaGreatDoor
open Go.RowKit
section
variable {w : World} {F : List Piece} {h : Nat} {x : PipeM}
set_option maxRecDepth 100000 in
set_option maxHeartbeats 400000 in
theorem r_recv_both {a : Int} {L : List Int} {m : Wtr} {l : List Wtr} (hb : x.buf = a :: L) (hs : x.senders = m :: l) (hl : l.length ≤ 100000) (hbl : L.length ≤ 4) (hn : Cnt x) (H : SL w (RefP h x :: F)) :
  Calls Tryz.prog 171 #[.pointer (some ⟨h, 0, none⟩)] w fun e w' => e = .returned (⟨true, true, true, a, m⟩ : GotM).agg ∧ SL w' (RefP h { x with buf := L ++ [m.value], senders := l, sent := x.sent + 1, received := x.received + 1 } :: F) := by
 obtain ⟨b1, b2, b3, b4⟩ := hn
 obtain ⟨rg, rc, rm⟩ := m
 unfold GotM.agg
 try unfold gzero
 try unfold wzero
 dsimp only
 obtain ⟨a1, c1, a2, c2, a3, c3, H1⟩ := ref_open H
 rw [hb, hs] at H1
 simp only [List.length_cons, List.length_nil] at H1
 have HB := Lib.hid hb
 have HS := Lib.hid hs
 clear hb hs
 have hcap1 : L.length + 1 ≤ c1 ∧ c1 ≤ maxLen := by
  obtain ⟨a, c, e, k1, k2, _⟩ := H1.up1.slc
  injection e with e1 e2 e3
  subst e3
  exact ⟨k1, k2⟩
 obtain ⟨bb, boff, e1, kk⟩ := Rd.int_at (xs := a :: L) (H1.up1.read Reader.slc) (by simp)
 subst e1
 have k0 := kk 0 (by simp)
 clear kk
 rw [Nat.add_zero, List.getD_cons_zero] at k0
 have hbl2 := World.block_lt_of_cell? w _ k0
 dsimp only at hbl2
 have hcap2 : l.length + 1 ≤ c2 ∧ c2 ≤ maxLen := by
  obtain ⟨a, c, e, k1, k2, _⟩ := H1.up2.slc
  injection e with e1 e2 e3
  subst e3
  exact ⟨k1, k2⟩
 obtain ⟨b, off, e2, d0, d1, d2⟩ := wtr_at (H1.up2.read Reader.slc) 0 (by simp)
 subst e2
 dsimp only [List.getElem_cons_zero] at d0 d1 d2
 rw [Nat.zero_mul, Nat.add_zero] at d0 d1 d2
 have hbl1 := World.block_lt_of_cell? w _ d0
 dsimp only at hbl1
 obtain ⟨r0, r1, r2, r3, r4, r5, r6, rf⟩ := box7 H1.at0
 have rl := lt_of_block H1.at0
 have H2 := (H1.alloc (.cells #[.bool false, .bool false, .bool false, .int .i64 0, .int .i64 0, .int .i64 0, .int .i64 0] 222)).alloc (.cells #[.bool true, .bool true, .bool true, .int .i64 a, .int .i64 rg, .int .i64 rc, .int .i64 rm] 222)
 rw [size_alloc] at H2
 have H0 := SL.slcNil 3 1 H2
 have hcut := (H0.up4.read Reader.slc).cut (k := 1) (d := 1) rfl (by simp) hcap1.1
 have hmax := hcap1.2
 unfold maxLen at hmax
 have q1 : (1 : Int) ≤ ((L.length + 1 : Nat) : Int) := by omega
 have q2 : ((L.length + 1 : Nat) : Int) ≤ (c1 : Int) := by omega
 have q3 : (1 : Int) ≤ (c1 : Int) := by omega
 have q4 : (((L.length + 1 : Nat) : Int) - 1).toNat = L.length := by omega
 rw [show (ints (a :: L)).drop 1 = ints L from rfl, Nat.add_sub_cancel] at hcut
 dsimp only [Option.map] at hcut
 have HH2 := Lib.hid H2
 clear H2
 go_enter Tryz.func171, Tryz.ntmps171
 go_wp2_with (first | (at_builtin; (refine sl_append rfl _ _ 67 _ 8 rfl Tryz.underlying67 infoInt rfl (by decide) (.slice none 0 0) 0 [] rfl _ _ _ _ rfl hcut (ints_one L) H0 (by omega) (by decide) ?_); intro v1 w1 K1 hs1; rw [Nat.zero_add, List.nil_append] at K1; obtain ⟨gb, hgb⟩ : ∃ b, w.heap.size + 1 = b := ⟨_, rfl⟩; obtain ⟨r, hrr⟩ : ∃ b, w.heap.size = b := ⟨_, rfl⟩; simp only [hgb] at K1 ⊢; simp only [hrr] at K1 ⊢; clear hgb hrr H0 hcut r0 r1 r2 r3 r4 r5 r6 rf rl; obtain ⟨va, vc, hv, _⟩ := K1.slc; subst hv; obtain ⟨g0, g1, g2, g3, g4, g5, g6, gf⟩ := box7 K1.at1; have gl := lt_of_block (K1.at 1 rfl); obtain ⟨q0, q1, q2, q3, q4, q5, q6, qf⟩ := box7 K1.at2; have ql := lt_of_block (K1.at 2 rfl); obtain ⟨r0, r1, r2, r3, r4, r5, r6, rf⟩ := box7 K1.at3; have rl := lt_of_block (K1.at 3 rfl); obtain ⟨ngq, nqg⟩ := K1.ne 1 2 (by decide) rfl rfl; obtain ⟨ngr, nrg⟩ := K1.ne 1 3 (by decide) rfl rfl; obtain ⟨nqr, nrq⟩ := K1.ne 2 3 (by decide) rfl rfl) | (at_builtin; go_must (refine sl_app rfl _ _ 67 _ 8 rfl Tryz.underlying67 infoInt rfl (by decide) (.slice va _ vc) _ _ [.int .i64 rm] rfl rfl (by simp) rfl rfl K1 (by omega) (by decide) ?_); intro g c w2 K2 hs2; obtain ⟨g0, g1, g2, g3, g4, g5, g6, gf⟩ := box7 K2.at1; have gl := lt_of_block (K2.at 1 rfl); obtain ⟨q0, q1, q2, q3, q4, q5, q6, qf⟩ := box7 K2.at2; have ql := lt_of_block (K2.at 2 rfl); obtain ⟨r0, r1, r2, r3, r4, r5, r6, rf⟩ := box7 K2.at3; have rl := lt_of_block (K2.at 3 rfl); obtain ⟨ngq, nqg⟩ := K2.ne 1 2 (by decide) rfl rfl; obtain ⟨ngr, nrg⟩ := K2.ne 1 3 (by decide) rfl rfl; obtain ⟨nqr, nrq⟩ := K2.ne 2 3 (by decide) rfl rfl))
 all_goals
  have K3 := (K2.up3.set 1 (.slice (some ⟨g, 0, none⟩) (L.length + 1) c)).set 6 (.int .i64 (x.received + 1))
  dsimp [Array.setIfInBounds] at K3
  refine (r_behind (m := ⟨rg, rc, rm⟩) (L := l) (by simp) (K3.up5.read Reader.slc) (by simpa using hcap2.1) hcap2.2 (by omega) K3).mono ?_
  rintro e w3 ⟨v', rfl, K4⟩
  obtain ⟨va', vc', hv', _⟩ := K4.slc
  subst hv'
  obtain ⟨r0, r1, r2, r3, r4, r5, r6, rf⟩ := box7 K4.at1
  have rl := lt_of_block (K4.at 1 rfl)
  obtain ⟨g0, g1, g2, g3, g4, g5, g6, gf⟩ := box7 K4.at3
  have gl := lt_of_block (K4.at 3 rfl)
  obtain ⟨q0, q1, q2, q3, q4, q5, q6, qf⟩ := box7 (K4.at 4 rfl)
  have ql := lt_of_block (K4.at 4 rfl)
  obtain ⟨nrg, ngr⟩ := K4.ne 1 3 (by decide) rfl rfl
  obtain ⟨nrq, nqr⟩ := K4.ne 1 4 (by decide) rfl rfl
  obtain ⟨ngq, nqg⟩ := K4.ne 3 4 (by decide) rfl rfl
  go_wp2_with fail
  have K5 := (K4.up1.set 2 (.slice va' l.length vc')).set 5 (.int .i64 (x.sent + 1))
  dsimp [Array.setIfInBounds] at K5
  have Kp := K5.pi [0, 2, 1, 7, 4] 8
  simp only [pl, nth, drL] at Kp
  refine bodyPost_ret (v := .agg #[.bool true, .bool true, .bool true, .int .i64 a, .int .i64 rg, .int .i64 rc, .int .i64 rm]) (by simp [results, Tryz.results171, go_sem, *]) rfl ⟨rfl, ?_⟩
  have K6 := (ref_shut' (x := { x with buf := L ++ [rm], senders := l, sent := x.sent + 1, received := x.received + 1 }) Kp (by simp) (ints_append L [rm]).symm rfl rfl rfl rfl).up1.toAny
  refine SL.tl (A := any r) ?_
  repeat (first | with_reducible refine SL.scr ?_ _ _ | with_reducible refine SL.allocd ?_ _ | with_reducible exact K6)
set_option maxRecDepth 100000 in
set_option maxHeartbeats 400000 in
theorem r_recv_buf {a : Int} {L : List Int} (hb : x.buf = a :: L) (hs : x.senders = []) (hbl : L.length ≤ 4) (hn : Cnt x) (H : SL w (RefP h x :: F)) :
  Calls Tryz.prog 171 #[.pointer (some ⟨h, 0, none⟩)] w fun e w' => e = .returned (⟨true, true, false, a, wzero⟩ : GotM).agg ∧ SL w' (RefP h { x with buf := L, received := x.received + 1 } :: F) := by
 obtain ⟨b1, b2, b3, b4⟩ := hn
 unfold GotM.agg
 try unfold gzero
 try unfold wzero
 dsimp only
 obtain ⟨a1, c1, a2, c2, a3, c3, H1⟩ := ref_open H
 rw [hb, hs] at H1
 simp only [List.length_cons, List.length_nil] at H1
 have HB := Lib.hid hb
 have HS := Lib.hid hs
 clear hb hs
 have hcap1 : L.length + 1 ≤ c1 ∧ c1 ≤ maxLen := by
  obtain ⟨a, c, e, k1, k2, _⟩ := H1.up1.slc
  injection e with e1 e2 e3
  subst e3
  exact ⟨k1, k2⟩
 obtain ⟨bb, boff, e1, kk⟩ := Rd.int_at (xs := a :: L) (H1.up1.read Reader.slc) (by simp)
 subst e1
 have k0 := kk 0 (by simp)
 clear kk
 rw [Nat.add_zero, List.getD_cons_zero] at k0
 have hbl2 := World.block_lt_of_cell? w _ k0
 dsimp only at hbl2
 obtain ⟨r0, r1, r2, r3, r4, r5, r6, rf⟩ := box7 H1.at0
 have rl := lt_of_block H1.at0
 have H2 := (H1.alloc (.cells #[.bool false, .bool false, .bool false, .int .i64 0, .int .i64 0, .int .i64 0, .int .i64 0] 222)).alloc (.cells #[.bool true, .bool true, .bool false, .int .i64 a, .int .i64 0, .int .i64 0, .int .i64 0] 222)
 rw [size_alloc] at H2
 have H0 := SL.slcNil 3 1 H2
 have hcut := (H0.up4.read Reader.slc).cut (k := 1) (d := 1) rfl (by simp) hcap1.1
 have hmax := hcap1.2
 unfold maxLen at hmax
 have q1 : (1 : Int) ≤ ((L.length + 1 : Nat) : Int) := by omega
 have q2 : ((L.length + 1 : Nat) : Int) ≤ (c1 : Int) := by omega
 have q3 : (1 : Int) ≤ (c1 : Int) := by omega
 have q4 : (((L.length + 1 : Nat) : Int) - 1).toNat = L.length := by omega
 rw [show (ints (a :: L)).drop 1 = ints L from rfl, Nat.add_sub_cancel] at hcut
 dsimp only [Option.map] at hcut
 have HH2 := Lib.hid H2
 clear H2
 go_enter Tryz.func171, Tryz.ntmps171
 go_wp2_with (at_builtin; (refine sl_append rfl _ _ 67 _ 8 rfl Tryz.underlying67 infoInt rfl (by decide) (.slice none 0 0) 0 [] rfl _ _ _ _ rfl hcut (ints_one L) H0 (by omega) (by decide) ?_); intro v1 w1 K1 hs1; rw [Nat.zero_add, List.nil_append] at K1; obtain ⟨gb, hgb⟩ : ∃ b, w.heap.size + 1 = b := ⟨_, rfl⟩; obtain ⟨r, hrr⟩ : ∃ b, w.heap.size = b := ⟨_, rfl⟩; simp only [hgb] at K1 ⊢; simp only [hrr] at K1 ⊢; clear hgb hrr H0 hcut r0 r1 r2 r3 r4 r5 r6 rf rl; obtain ⟨va, vc, hv, _⟩ := K1.slc; subst hv; obtain ⟨g0, g1, g2, g3, g4, g5, g6, gf⟩ := box7 K1.at1; have gl := lt_of_block (K1.at 1 rfl); obtain ⟨q0, q1, q2, q3, q4, q5, q6, qf⟩ := box7 K1.at2; have ql := lt_of_block (K1.at 2 rfl); obtain ⟨r0, r1, r2, r3, r4, r5, r6, rf⟩ := box7 K1.at3; have rl := lt_of_block (K1.at 3 rfl); obtain ⟨ngq, nqg⟩ := K1.ne 1 2 (by decide) rfl rfl; obtain ⟨ngr, nrg⟩ := K1.ne 1 3 (by decide) rfl rfl; obtain ⟨nqr, nrq⟩ := K1.ne 2 3 (by decide) rfl rfl)
 all_goals
  have K3 := (K1.up3.set 1 (.slice va L.length vc)).set 6 (.int .i64 (x.received + 1))
  dsimp [Array.setIfInBounds] at K3
  have Kp := K3.pi [0, 1, 5, 6, 3] 7
  simp only [pl, nth, drL] at Kp
  refine bodyPost_ret (v := .agg #[.bool true, .bool true, .bool false, .int .i64 a, .int .i64 0, .int .i64 0, .int .i64 0]) (by simp [results, Tryz.results171, go_sem, *]) rfl ⟨rfl, ?_⟩
  have K6 := (ref_shut' (x := { x with buf := L, received := x.received + 1 }) Kp rfl rfl (by rw [HS.out]; rfl) (by rw [HS.out]) rfl rfl).up1.toAny
  refine SL.tl (A := any r) ?_
  repeat (first | with_reducible refine SL.scr ?_ _ _ | with_reducible refine SL.allocd ?_ _ | with_reducible exact K6)
set_option maxRecDepth 100000 in
set_option maxHeartbeats 400000 in
theorem r_recv_send {m : Wtr} {l : List Wtr} (hb : x.buf = []) (hs : x.senders = m :: l) (hl : l.length ≤ 100000) (hn : Cnt x) (H : SL w (RefP h x :: F)) :
  Calls Tryz.prog 171 #[.pointer (some ⟨h, 0, none⟩)] w fun e w' => e = .returned (⟨true, true, true, m.value, m⟩ : GotM).agg ∧ SL w' (RefP h { x with senders := l, sent := x.sent + 1, received := x.received + 1 } :: F) := by
 obtain ⟨b1, b2, b3, b4⟩ := hn
 obtain ⟨rg, rc, rm⟩ := m
 unfold GotM.agg
 try unfold gzero
 try unfold wzero
 dsimp only
 obtain ⟨a1, c1, a2, c2, a3, c3, H1⟩ := ref_open H
 rw [hb, hs] at H1
 simp only [List.length_cons, List.length_nil] at H1
 have HB := Lib.hid hb
 have HS := Lib.hid hs
 clear hb hs
 have hcap2 : l.length + 1 ≤ c2 ∧ c2 ≤ maxLen := by
  obtain ⟨a, c, e, k1, k2, _⟩ := H1.up2.slc
  injection e with e1 e2 e3
  subst e3
  exact ⟨k1, k2⟩
 obtain ⟨b, off, e2, d0, d1, d2⟩ := wtr_at (H1.up2.read Reader.slc) 0 (by simp)
 subst e2
 dsimp only [List.getElem_cons_zero] at d0 d1 d2
 rw [Nat.zero_mul, Nat.add_zero] at d0 d1 d2
 have hbl1 := World.block_lt_of_cell? w _ d0
 dsimp only at hbl1
 obtain ⟨r0, r1, r2, r3, r4, r5, r6, rf⟩ := box7 H1.at0
 have rl := lt_of_block H1.at0
 have H1' := H1.set 6 (.int .i64 (x.received + 1))
 dsimp [Array.setIfInBounds] at H1'
 have H2 := (H1'.alloc (.cells #[.bool false, .bool false, .bool false, .int .i64 0, .int .i64 0, .int .i64 0, .int .i64 0] 222)).alloc (.cells #[.bool true, .bool true, .bool true, .int .i64 rm, .int .i64 rg, .int .i64 rc, .int .i64 rm] 222)
 rw [size_alloc, show (w.setCell ⟨h, 6, none⟩ (.int .i64 (x.received + 1))).heap.size = w.heap.size by simp [World.setCell]] at H2
 go_enter Tryz.func171, Tryz.ntmps171
 go_wp2_with fail
 obtain ⟨gb, hgb⟩ : ∃ b, w.heap.size + 1 = b := ⟨_, rfl⟩
 obtain ⟨r, hrr⟩ : ∃ b, w.heap.size = b := ⟨_, rfl⟩
 simp only [hgb] at H2 ⊢
 simp only [hrr] at H2 ⊢
 clear hgb hrr r0 r1 r2 r3 r4 r5 r6 rf rl
 have K3 := H2.up2
 refine (r_behind (m := ⟨rg, rc, rm⟩) (L := l) (by simp) (K3.up4.read Reader.slc) (by simpa using hcap2.1) hcap2.2 (by omega) K3).mono ?_
 rintro e w3 ⟨v', rfl, K4⟩
 obtain ⟨va', vc', hv', _⟩ := K4.slc
 subst hv'
 obtain ⟨r0, r1, r2, r3, r4, r5, r6, rf⟩ := box7 K4.at1
 have rl := lt_of_block (K4.at 1 rfl)
 obtain ⟨g0, g1, g2, g3, g4, g5, g6, gf⟩ := box7 K4.at2
 have gl := lt_of_block (K4.at 2 rfl)
 obtain ⟨q0, q1, q2, q3, q4, q5, q6, qf⟩ := box7 K4.at3
 have ql := lt_of_block (K4.at 3 rfl)
 obtain ⟨nrg, ngr⟩ := K4.ne 1 2 (by decide) rfl rfl
 obtain ⟨nrq, nqr⟩ := K4.ne 1 3 (by decide) rfl rfl
 obtain ⟨ngq, nqg⟩ := K4.ne 2 3 (by decide) rfl rfl
 go_wp2_with fail
 have K5 := (K4.up1.set 2 (.slice va' l.length vc')).set 5 (.int .i64 (x.sent + 1))
 dsimp [Array.setIfInBounds] at K5
 have Kp := K5.pi [0, 4, 1, 6, 3] 7
 simp only [pl, nth, drL] at Kp
 refine bodyPost_ret (v := .agg #[.bool true, .bool true, .bool true, .int .i64 rm, .int .i64 rg, .int .i64 rc, .int .i64 rm]) (by simp [results, Tryz.results171, go_sem, *]) rfl ⟨rfl, ?_⟩
 have K6 := (ref_shut' (x := { x with senders := l, sent := x.sent + 1, received := x.received + 1 }) Kp (by rw [HB.out]; rfl) (by rw [HB.out]) rfl rfl rfl rfl).up1.toAny
 refine SL.tl (A := any r) ?_
 repeat (first | with_reducible refine SL.scr ?_ _ _ | with_reducible refine SL.allocd ?_ _ | with_reducible exact K6)
set_option maxRecDepth 100000 in
set_option maxHeartbeats 400000 in
theorem r_recv_closed (hb : x.buf = []) (hs : x.senders = []) (hc : x.closed = true) (hn : Cnt x) (H : SL w (RefP h x :: F)) :
  Calls Tryz.prog 171 #[.pointer (some ⟨h, 0, none⟩)] w fun e w' => e = .returned ({ gzero with ready := true } : GotM).agg ∧ SL w' (RefP h x :: F) := by
 obtain ⟨b1, b2, b3, b4⟩ := hn
 unfold GotM.agg
 try unfold gzero
 try unfold wzero
 dsimp only
 obtain ⟨a1, c1, a2, c2, a3, c3, H1⟩ := ref_open H
 rw [hb, hs] at H1
 simp only [List.length_cons, List.length_nil] at H1
 have HB := Lib.hid hb
 have HS := Lib.hid hs
 clear hb hs
 rw [hc] at H1
 have HC := Lib.hid hc
 clear hc
 obtain ⟨r0, r1, r2, r3, r4, r5, r6, rf⟩ := box7 H1.at0
 have rl := lt_of_block H1.at0
 have H2 := (H1.alloc (.cells #[.bool false, .bool false, .bool false, .int .i64 0, .int .i64 0, .int .i64 0, .int .i64 0] 222)).alloc (.cells #[.bool true, .bool true, .bool false, .int .i64 0, .int .i64 0, .int .i64 0, .int .i64 0] 222)
 rw [size_alloc] at H2
 go_enter Tryz.func171, Tryz.ntmps171
 go_wp2_with fail
 refine bodyPost_ret (v := .agg #[.bool true, .bool false, .bool false, .int .i64 0, .int .i64 0, .int .i64 0, .int .i64 0]) (by simp [results, Tryz.results171, go_sem]) rfl ⟨rfl, (H.allocd _).allocd _⟩
set_option maxRecDepth 100000 in
set_option maxHeartbeats 400000 in
theorem r_recv_closed_no (hb : x.buf = []) (hs : x.senders = []) (hc : x.closed = false) (hn : Cnt x) (H : SL w (RefP h x :: F)) :
  Calls Tryz.prog 171 #[.pointer (some ⟨h, 0, none⟩)] w fun e w' => e = .returned (gzero : GotM).agg ∧ SL w' (RefP h x :: F) := by
 obtain ⟨b1, b2, b3, b4⟩ := hn
 unfold GotM.agg
 try unfold gzero
 try unfold wzero
 dsimp only
 obtain ⟨a1, c1, a2, c2, a3, c3, H1⟩ := ref_open H
 rw [hb, hs] at H1
 simp only [List.length_cons, List.length_nil] at H1
 have HB := Lib.hid hb
 have HS := Lib.hid hs
 clear hb hs
 rw [hc] at H1
 have HC := Lib.hid hc
 clear hc
 obtain ⟨r0, r1, r2, r3, r4, r5, r6, rf⟩ := box7 H1.at0
 have rl := lt_of_block H1.at0
 have H2 := (H1.alloc (.cells #[.bool false, .bool false, .bool false, .int .i64 0, .int .i64 0, .int .i64 0, .int .i64 0] 222)).alloc (.cells #[.bool true, .bool true, .bool false, .int .i64 0, .int .i64 0, .int .i64 0, .int .i64 0] 222)
 rw [size_alloc] at H2
 go_enter Tryz.func171, Tryz.ntmps171
 go_wp2_with fail
 refine bodyPost_ret (v := .agg #[.bool false, .bool false, .bool false, .int .i64 0, .int .i64 0, .int .i64 0, .int .i64 0]) (by simp [results, Tryz.results171, go_sem]) rfl ⟨rfl, (H.allocd _).allocd _⟩
end
def rwaitF (x : PipeM) (s : Bool) (m : Wtr) : Int × PipeM :=
 if x.closed || (if s then decide (x.buf.length < x.size) else decide (0 < x.buf.length)) || decide (0 < (without m.g (if s then x.receivers else x.senders)).length) then (7, x)
 else if m.g < 0 ∨ m.case_ < -1 then (1, x)
 else if s then (if 1024 ≤ x.senders.length then (5, x) else (0, { x with senders := x.senders ++ [m] }))
 else (if 1024 ≤ x.receivers.length then (5, x) else (0, { x with receivers := x.receivers ++ [m] }))
section
variable {w : World} {F : List Piece} {h : Nat} {x : PipeM}
theorem r_recv (hl : x.senders.length ≤ 100000) (hb : x.buf.length ≤ 4) (hn : Cnt x) (H : SL w (RefP h x :: F)) :
  Calls Tryz.prog 171 #[.pointer (some ⟨h, 0, none⟩)] w fun e w' => e = .returned (recvF x).1.agg ∧ SL w' (RefP h (recvF x).2 :: F) := by
 rcases hbb : x.buf with _ | ⟨a, L⟩
 ·rcases hs : x.senders with _ | ⟨m, l⟩
  ·by_cases hc : x.closed = true
   ·rw [show recvF x = ({ gzero with ready := true }, x) by unfold recvF; rw [hbb, hs]; simp [hc]]
    exact r_recv_closed hbb hs hc hn H
   ·rw [show recvF x = (gzero, x) by unfold recvF; rw [hbb, hs]; simp [hc]]
    exact r_recv_closed_no hbb hs (by simpa using hc) hn H
  ·rw [show recvF x = (⟨true, true, true, m.value, m⟩, { x with senders := l, sent := x.sent + 1, received := x.received + 1 }) by unfold recvF; rw [hbb, hs]]
   exact r_recv_send hbb hs (by rw [hs] at hl; simp at hl; omega) hn H
 ·rcases hs : x.senders with _ | ⟨m, l⟩
  ·rw [show recvF x = (⟨true, true, false, a, wzero⟩, { x with buf := L, received := x.received + 1 }) by unfold recvF; rw [hbb, hs]]
   exact r_recv_buf hbb hs (by rw [hbb] at hb; simp at hb; omega) hn H
  ·rw [show recvF x = (⟨true, true, true, a, m⟩, { x with buf := L ++ [m.value], senders := l, sent := x.sent + 1, received := x.received + 1 }) by unfold recvF; rw [hbb, hs]]
   exact r_recv_both hbb hs (by rw [hs] at hl; simp at hl; omega) (by rw [hbb] at hb; simp at hb; omega) hn H
set_option maxRecDepth 100000 in
set_option maxHeartbeats 1000000 in
theorem r_wait_true (m : Wtr) (hs : x.senders.length ≤ 1024) (hr : x.receivers.length ≤ 1024) (H : SL w (RefP h x :: F)) :
  Calls Tryz.prog 137 #[.pointer (some ⟨h, 0, none⟩), .bool true, m.agg] w fun e w' => e = .returned (.int .i64 (rwaitF x true m).1) ∧ SL w' (RefP h (rwaitF x true m).2 :: F) := by
 obtain ⟨R, hR⟩ : ∃ R, rwaitF x true m = R := ⟨_, rfl⟩
 rw [hR]
 unfold rwaitF at hR
 simp only [if_true, Bool.false_eq_true, if_false] at hR
 obtain ⟨mg, mc, mv⟩ := m
 unfold Wtr.agg
 dsimp only at hR ⊢
 obtain ⟨n1, hn1⟩ : ∃ n, x.buf.length = n := ⟨_, rfl⟩
 rw [hn1] at hR
 obtain ⟨cl, hcl⟩ : ∃ c, x.closed = c := ⟨_, rfl⟩
 rw [hcl] at hR
 have HR := Lib.hid hR
 clear hR
 obtain ⟨a1, c1, a2, c2, a3, c3, H1⟩ := ref_open H
 rw [hn1] at H1
 have H1c := H1
 rw [hcl] at H1c
 have HN := Lib.hid hn1
 have HC := Lib.hid hcl
 clear hn1 hcl
 have H2 := H1c.alloc (.cells #[.int .i64 mg, .int .i64 mc, .int .i64 mv] 200)
 obtain ⟨r0, r1, r2, r3, r4, r5, r6, rf⟩ := box7 H1c.at0
 have rl := lt_of_block H1c.at0
 have shut : ∀ w', SL w' (row h #[.int .i64 x.size, .slice a1 n1 c1, .slice a2 x.senders.length c2, .slice a3 x.receivers.length c3, .bool cl, .int .i64 x.sent, .int .i64 x.received] 204 :: Slc 3 1 (.slice a1 n1 c1) n1 (ints x.buf) :: Slc 200 3 (.slice a2 x.senders.length c2) x.senders.length (x.senders.flatMap Wtr.cells) :: Slc 200 3 (.slice a3 x.receivers.length c3) x.receivers.length (x.receivers.flatMap Wtr.cells) :: F) → SL w' (RefP h x :: F) := fun w' K => by
  rw [← HC.out, ← HN.out] at K
  exact ref_shut K
 have hb64 : n1 ≤ maxLen := by
  obtain ⟨a, c, e, k1, k2, _⟩ := H1.up1.slc
  exact Nat.le_trans k1 k2
 unfold maxLen at hb64
 cases cl with
 | true =>
  go_enter Tryz.func137, Tryz.ntmps137
  go_wp2_with fail
  go_quiet (fail)
  go_wp2_with fail
  go_ret
  have hR := HR.out
  rw [if_pos (by simp)] at hR
  subst hR
  exact ⟨rfl, (by repeat (first | with_reducible refine SL.drewN ?_ _ | with_reducible refine SL.drew ?_ | with_reducible refine SL.allocd ?_ _ | with_reducible exact H))⟩
 | false =>
  by_cases hroom : n1 < x.size
  ·have k1 : decide ((n1 : Int) < (x.size : Int)) = true := by simpa using hroom
   have k2 : decide (n1 < x.size) = true := by simpa using hroom
   go_enter Tryz.func137, Tryz.ntmps137
   go_wp2_with fail
   go_quiet (fail)
   go_wp2_with fail
   go_ret
   have hR := HR.out
   rw [if_pos (by simp [hroom])] at hR
   subst hR
   exact ⟨rfl, (by repeat (first | with_reducible refine SL.drewN ?_ _ | with_reducible refine SL.drew ?_ | with_reducible refine SL.allocd ?_ _ | with_reducible exact H))⟩
  ·have k1 : decide ((n1 : Int) < (x.size : Int)) = false := by simpa using hroom
   have k2 : decide (n1 < x.size) = false := by simpa using hroom
   have HRM := Lib.hid hroom
   clear hroom
   go_enter Tryz.func137, Tryz.ntmps137
   go_wp2_with fail
   obtain ⟨bx, hbx⟩ : ∃ b, w.heap.size = b := ⟨_, rfl⟩
   obtain ⟨w0, hw0⟩ : ∃ w0, w.alloc (.cells #[.int .i64 mg, .int .i64 mc, .int .i64 mv] 200) = w0 := ⟨_, rfl⟩
   rw [hw0, hbx] at H2
   simp only [hw0, hbx]
   clear hw0 hbx r0 r1 r2 r3 r4 r5 r6 rf rl
   obtain ⟨e0, e1, e2, ef⟩ := pew_cells H2.at0
   obtain ⟨r0, r1, r2, r3, r4, r5, r6, rf⟩ := box7 H2.at1
   have el := lt_of_block H2.at0
   have rl := lt_of_block H2.at1
   go_quiet (fail)
   go_wp2_with fail
   refine (r_without (L := x.receivers) mg rfl Reader.slc (by omega) (H2.drewN _).up4).mono ?_
   rintro e w1 ⟨v, rfl, H3⟩
   obtain ⟨va, vc, hv, hvc, hvm, _⟩ := H3.slc
   subst hv
   unfold maxLen at hvm
   have H4 := H3.tl.dn4
   obtain ⟨nw, hnw⟩ : ∃ n, (without mg x.receivers).length = n := ⟨_, rfl⟩
   rw [hnw] at hvc ⊢
   have HNW := Lib.hid hnw
   clear hnw H3 H2 e0 e1 e2 ef r0 r1 r2 r3 r4 r5 r6 rf el rl
   obtain ⟨e0, e1, e2, ef⟩ := pew_cells H4.at0
   obtain ⟨r0, r1, r2, r3, r4, r5, r6, rf⟩ := box7 H4.at1
   have el := lt_of_block H4.at0
   have rl := lt_of_block H4.at1
   obtain ⟨m1, m2⟩ := H4.ne 0 1 (by decide) rfl rfl
   by_cases hw : 0 < nw
   ·have k3 : decide (0 < (nw : Int)) = true := by simpa using hw
    have k4 : decide (0 < nw) = true := by simpa using hw
    go_wp2_with fail
    go_ret
    have hR := HR.out
    rw [if_pos (by rw [HNW.out]; simp [hw])] at hR
    subst hR
    exact ⟨rfl, shut _ H4.tl⟩
   ·have k3 : decide (0 < (nw : Int)) = false := by simpa using hw
    have k4 : decide (0 < nw) = false := by simpa using hw
    have hR := HR.out
    rw [if_neg (by rw [HNW.out]; simp [hw]; have := HRM.out; omega)] at hR
    by_cases h1 : mg < 0
    ·rw [if_pos (.inl h1)] at hR
     subst hR
     go_wp2_with fail
     go_ret
     exact ⟨rfl, shut _ H4.tl⟩
    ·by_cases h2 : mc < -1
     ·rw [if_pos (.inr h2)] at hR
      subst hR
      go_wp2_with fail
      go_ret
      exact ⟨rfl, shut _ H4.tl⟩
     ·rw [if_neg (by omega)] at hR
      by_cases h3 : 1024 ≤ x.senders.length
      ·rw [if_pos h3] at hR
       subst hR
       have k5 : decide (1024 ≤ (x.senders.length : Int)) = true := by simp; omega
       have k6 : (1024 : Int) ≤ (x.senders.length : Int) := by omega
       go_wp2_with fail
       go_ret
       exact ⟨rfl, shut _ H4.tl⟩
      ·rw [if_neg h3] at hR
       subst hR
       have k5 : ¬ (1024 : Int) ≤ (x.senders.length : Int) := by omega
       go_wp2_with fail
       go_region_law ((refine step_sl_append rfl _ _ 202 _ 24 (by rfl) Tryz.underlying202 infoW8 rfl (by decide) (.slice a2 x.senders.length c2) _ _ (by rfl) _ 1 1 [.int .i64 mg, .int .i64 mc, .int .i64 mv] (by rfl) (rd_new _ _ _ _ rfl) rfl ((H4.up3.drewN _).allocd _) (by omega) (by decide) ?_; intro v1 w2 H5 hs5; obtain ⟨va1, vc1, hv1, _⟩ := H5.slc; subst hv1; obtain ⟨e0', e1', e2', ef'⟩ := pew_cells H5.at1; obtain ⟨r0', r1', r2', r3', r4', r5', r6', rf'⟩ := box7 H5.at2))
       all_goals
        go_wp2_with fail
        go_ret
        have K := (H5.up2.set 2 (.slice va1 (x.senders.length + 1) vc1)).pi [0, 3, 1, 4] 5
        dsimp [Array.setIfInBounds] at K
        simp only [pl, nth, drL] at K
        exact ⟨rfl, ref_shut' (x := ⟨x.size, x.buf, x.senders ++ [⟨mg, mc, mv⟩], x.receivers, false, x.sent, x.received⟩) K HN.out.symm rfl (by simp) (by simp [List.flatMap_append, Wtr.cells]) rfl rfl⟩
set_option maxRecDepth 100000 in
set_option maxHeartbeats 1000000 in
theorem r_wait_false (m : Wtr) (hs : x.senders.length ≤ 1024) (hr : x.receivers.length ≤ 1024) (H : SL w (RefP h x :: F)) :
  Calls Tryz.prog 137 #[.pointer (some ⟨h, 0, none⟩), .bool false, m.agg] w fun e w' => e = .returned (.int .i64 (rwaitF x false m).1) ∧ SL w' (RefP h (rwaitF x false m).2 :: F) := by
 obtain ⟨R, hR⟩ : ∃ R, rwaitF x false m = R := ⟨_, rfl⟩
 rw [hR]
 unfold rwaitF at hR
 simp only [if_true, Bool.false_eq_true, if_false] at hR
 obtain ⟨mg, mc, mv⟩ := m
 unfold Wtr.agg
 dsimp only at hR ⊢
 obtain ⟨n1, hn1⟩ : ∃ n, x.buf.length = n := ⟨_, rfl⟩
 rw [hn1] at hR
 obtain ⟨cl, hcl⟩ : ∃ c, x.closed = c := ⟨_, rfl⟩
 rw [hcl] at hR
 have HR := Lib.hid hR
 clear hR
 obtain ⟨a1, c1, a2, c2, a3, c3, H1⟩ := ref_open H
 rw [hn1] at H1
 have H1c := H1
 rw [hcl] at H1c
 have HN := Lib.hid hn1
 have HC := Lib.hid hcl
 clear hn1 hcl
 have H2 := H1c.alloc (.cells #[.int .i64 mg, .int .i64 mc, .int .i64 mv] 200)
 obtain ⟨r0, r1, r2, r3, r4, r5, r6, rf⟩ := box7 H1c.at0
 have rl := lt_of_block H1c.at0
 have shut : ∀ w', SL w' (row h #[.int .i64 x.size, .slice a1 n1 c1, .slice a2 x.senders.length c2, .slice a3 x.receivers.length c3, .bool cl, .int .i64 x.sent, .int .i64 x.received] 204 :: Slc 3 1 (.slice a1 n1 c1) n1 (ints x.buf) :: Slc 200 3 (.slice a2 x.senders.length c2) x.senders.length (x.senders.flatMap Wtr.cells) :: Slc 200 3 (.slice a3 x.receivers.length c3) x.receivers.length (x.receivers.flatMap Wtr.cells) :: F) → SL w' (RefP h x :: F) := fun w' K => by
  rw [← HC.out, ← HN.out] at K
  exact ref_shut K
 have hb64 : n1 ≤ maxLen := by
  obtain ⟨a, c, e, k1, k2, _⟩ := H1.up1.slc
  exact Nat.le_trans k1 k2
 unfold maxLen at hb64
 cases cl with
 | true =>
  go_enter Tryz.func137, Tryz.ntmps137
  go_wp2_with fail
  go_ret
  have hR := HR.out
  rw [if_pos (by simp)] at hR
  subst hR
  exact ⟨rfl, (by repeat (first | with_reducible refine SL.drewN ?_ _ | with_reducible refine SL.drew ?_ | with_reducible refine SL.allocd ?_ _ | with_reducible exact H))⟩
 | false =>
  by_cases hroom : 0 < n1
  ·have k1 : decide (0 < (n1 : Int)) = true := by simpa using hroom
   have k2 : decide (0 < n1) = true := by simpa using hroom
   go_enter Tryz.func137, Tryz.ntmps137
   go_wp2_with fail
   go_ret
   have hR := HR.out
   rw [if_pos (by simp [hroom])] at hR
   subst hR
   exact ⟨rfl, (by repeat (first | with_reducible refine SL.drewN ?_ _ | with_reducible refine SL.drew ?_ | with_reducible refine SL.allocd ?_ _ | with_reducible exact H))⟩
  ·have k1 : decide (0 < (n1 : Int)) = false := by simpa using hroom
   have k2 : decide (0 < n1) = false := by simpa using hroom
   have HRM := Lib.hid hroom
   clear hroom
   go_enter Tryz.func137, Tryz.ntmps137
   go_wp2_with fail
   obtain ⟨bx, hbx⟩ : ∃ b, w.heap.size = b := ⟨_, rfl⟩
   obtain ⟨w0, hw0⟩ : ∃ w0, w.alloc (.cells #[.int .i64 mg, .int .i64 mc, .int .i64 mv] 200) = w0 := ⟨_, rfl⟩
   rw [hw0, hbx] at H2
   simp only [hw0, hbx]
   clear hw0 hbx r0 r1 r2 r3 r4 r5 r6 rf rl
   obtain ⟨e0, e1, e2, ef⟩ := pew_cells H2.at0
   obtain ⟨r0, r1, r2, r3, r4, r5, r6, rf⟩ := box7 H2.at1
   have el := lt_of_block H2.at0
   have rl := lt_of_block H2.at1
   refine (r_without (L := x.senders) mg rfl Reader.slc (by omega) (H2).up3).mono ?_
   rintro e w1 ⟨v, rfl, H3⟩
   obtain ⟨va, vc, hv, hvc, hvm, _⟩ := H3.slc
   subst hv
   unfold maxLen at hvm
   have H4 := H3.tl.dn3
   obtain ⟨nw, hnw⟩ : ∃ n, (without mg x.senders).length = n := ⟨_, rfl⟩
   rw [hnw] at hvc ⊢
   have HNW := Lib.hid hnw
   clear hnw H3 H2 e0 e1 e2 ef r0 r1 r2 r3 r4 r5 r6 rf el rl
   obtain ⟨e0, e1, e2, ef⟩ := pew_cells H4.at0
   obtain ⟨r0, r1, r2, r3, r4, r5, r6, rf⟩ := box7 H4.at1
   have el := lt_of_block H4.at0
   have rl := lt_of_block H4.at1
   obtain ⟨m1, m2⟩ := H4.ne 0 1 (by decide) rfl rfl
   by_cases hw : 0 < nw
   ·have k3 : decide (0 < (nw : Int)) = true := by simpa using hw
    have k4 : decide (0 < nw) = true := by simpa using hw
    go_wp2_with fail
    go_ret
    have hR := HR.out
    rw [if_pos (by rw [HNW.out]; simp [hw])] at hR
    subst hR
    exact ⟨rfl, shut _ H4.tl⟩
   ·have k3 : decide (0 < (nw : Int)) = false := by simpa using hw
    have k4 : decide (0 < nw) = false := by simpa using hw
    have hR := HR.out
    rw [if_neg (by rw [HNW.out]; simp [hw]; have := HRM.out; omega)] at hR
    by_cases h1 : mg < 0
    ·rw [if_pos (.inl h1)] at hR
     subst hR
     go_wp2_with fail
     go_ret
     exact ⟨rfl, shut _ H4.tl⟩
    ·by_cases h2 : mc < -1
     ·rw [if_pos (.inr h2)] at hR
      subst hR
      go_wp2_with fail
      go_ret
      exact ⟨rfl, shut _ H4.tl⟩
     ·rw [if_neg (by omega)] at hR
      by_cases h3 : 1024 ≤ x.receivers.length
      ·rw [if_pos h3] at hR
       subst hR
       have k5 : decide (1024 ≤ (x.receivers.length : Int)) = true := by simp; omega
       have k6 : (1024 : Int) ≤ (x.receivers.length : Int) := by omega
       go_wp2_with fail
       go_ret
       exact ⟨rfl, shut _ H4.tl⟩
      ·rw [if_neg h3] at hR
       subst hR
       have k5 : ¬ (1024 : Int) ≤ (x.receivers.length : Int) := by omega
       go_wp2_with fail
       go_region_law ((refine step_sl_append rfl _ _ 202 _ 24 (by rfl) Tryz.underlying202 infoW8 rfl (by decide) (.slice a3 x.receivers.length c3) _ _ (by rfl) _ 1 1 [.int .i64 mg, .int .i64 mc, .int .i64 mv] (by rfl) (rd_new _ _ _ _ rfl) rfl ((H4.up4.drewN _).allocd _) (by omega) (by decide) ?_; intro v1 w2 H5 hs5; obtain ⟨va1, vc1, hv1, _⟩ := H5.slc; subst hv1; obtain ⟨e0', e1', e2', ef'⟩ := pew_cells H5.at1; obtain ⟨r0', r1', r2', r3', r4', r5', r6', rf'⟩ := box7 H5.at2))
       all_goals
        go_wp2_with fail
        go_ret
        have K := (H5.up2.set 3 (.slice va1 (x.receivers.length + 1) vc1)).pi [0, 3, 4, 1] 5
        dsimp [Array.setIfInBounds] at K
        simp only [pl, nth, drL] at K
        exact ⟨rfl, ref_shut' (x := ⟨x.size, x.buf, x.senders, x.receivers ++ [⟨mg, mc, mv⟩], false, x.sent, x.received⟩) K HN.out.symm rfl rfl rfl (by simp) (by simp [List.flatMap_append, Wtr.cells])⟩
theorem r_wait (s : Bool) (m : Wtr) (hs : x.senders.length ≤ 1024) (hr : x.receivers.length ≤ 1024) (H : SL w (RefP h x :: F)) :
  Calls Tryz.prog 137 #[.pointer (some ⟨h, 0, none⟩), .bool s, m.agg] w fun e w' => e = .returned (.int .i64 (rwaitF x s m).1) ∧ SL w' (RefP h (rwaitF x s m).2 :: F) := by
 cases s
 ·exact r_wait_false m hs hr H
 ·exact r_wait_true m hs hr H
set_option maxRecDepth 100000 in
set_option maxHeartbeats 400000 in
theorem r_drop (i : Int) (hs : x.senders.length ≤ 1024) (hr : x.receivers.length ≤ 1024) (H : SL w (RefP h x :: F)) :
  Calls Tryz.prog 172 #[.pointer (some ⟨h, 0, none⟩), .int .i64 i] w fun e w' => e = .returned (.int .i64 (((x.senders.length : Int) - (without i x.senders).length) + ((x.receivers.length : Int) - (without i x.receivers).length))) ∧ SL w' (RefP h (dropM x i) :: F) := by
 obtain ⟨a1, c1, a2, c2, a3, c3, H1⟩ := ref_open H
 obtain ⟨r0, r1, r2, r3, r4, r5, r6, rf⟩ := box7 H1.at0
 have rl := lt_of_block H1.at0
 have w1 := without_le i x.senders
 have w2 := without_le i x.receivers
 go_enter Tryz.func172, Tryz.ntmps172
 go_wp2_with fail
 go_quiet (fail)
 go_wp2_with fail
 refine (r_without (L := x.senders) i rfl Reader.slc (by omega) (H1.drewN _).up2).mono ?_
 rintro e w3 ⟨v, rfl, H3⟩
 obtain ⟨va, vc, hv, _⟩ := H3.slc
 subst hv
 clear r0 r1 r2 r3 r4 r5 r6 rf rl
 obtain ⟨r0, r1, r2, r3, r4, r5, r6, rf⟩ := box7 H3.at2
 have rl := lt_of_block H3.at2
 go_wp2_with fail
 have H4 := H3.up2.set 2 (.slice va (without i x.senders).length vc)
 dsimp [Array.setIfInBounds] at H4
 refine (r_without (L := x.receivers) i rfl Reader.slc (by omega) H4.up4).mono ?_
 rintro e w4 ⟨v', rfl, H5⟩
 obtain ⟨va', vc', hv', _⟩ := H5.slc
 subst hv'
 clear r0 r1 r2 r3 r4 r5 r6 rf rl
 obtain ⟨r0, r1, r2, r3, r4, r5, r6, rf⟩ := box7 H5.at2
 have rl := lt_of_block H5.at2
 go_wp2_with fail
 have H6 := H5.up2.set 3 (.slice va' (without i x.receivers).length vc')
 dsimp [Array.setIfInBounds] at H6
 have H7 := H6.pi [0, 5, 3, 1] 6
 simp only [pl, nth, drL] at H7
 have H8 := ref_shut (x := dropM x i) H7
 go_quiet (fail)
 go_wp2_with fail
 go_ret
 refine ⟨ret_int (by omega), ?_⟩
 repeat (first | with_reducible refine SL.drewN ?_ _ | with_reducible exact H8)
theorem r_close (H : SL w (RefP h x :: F)) :
  Calls Tryz.prog 140 #[.pointer (some ⟨h, 0, none⟩)] w fun e w' => ∃ a c b d, e = .returned (.tuple #[.slice a (closeF x).1.1.length c, .slice b (closeF x).1.2.1.length d, .int .i64 (closeF x).1.2.2]) ∧
   SL w' (RdP a (closeF x).1.1.length 3 ((closeF x).1.1.flatMap Wtr.cells) :: RdP b (closeF x).1.2.1.length 3 ((closeF x).1.2.1.flatMap Wtr.cells) :: RefP h (closeF x).2 :: F) := by
 unfold closeF
 obtain ⟨a1, c1, a2, c2, a3, c3, H1⟩ := ref_open H
 obtain ⟨r0, r1, r2, r3, r4, r5, r6, rf⟩ := box7 H1.at0
 have rl := lt_of_block H1.at0
 by_cases hc : x.closed = true
 ·rw [if_pos hc]
  rw [hc] at r4
  have HC := Lib.hid hc
  clear hc
  go_enter Tryz.func140, Tryz.ntmps140
  go_wp2_with fail
  go_ret3
  exact ⟨none, 0, none, 0, rfl, SL.rdNil 3 (SL.rdNil 3 H)⟩
 ·rw [if_neg hc]
  have hc' : x.closed = false := by simpa using hc
  rw [hc'] at r4
  clear hc hc'
  go_enter Tryz.func140, Tryz.ntmps140
  go_wp2_with fail
  go_ret3
  have H2 := ((H1.set 4 (.bool true)).set 3 (.slice none 0 0)).set 2 (.slice none 0 0)
  dsimp [Array.setIfInBounds] at H2
  have H3 := ref_shut (x := { x with closed := true, senders := [], receivers := [] }) ((SL.slcNil 200 3 (SL.slcNil 200 3 H2)).pi [2, 3, 0, 1, 4, 5] 6)
  have H4 := SL.conv (B := RdP a2 x.senders.length 3 (x.senders.flatMap Wtr.cells)) H3.up1 (fun S _ h => ⟨Rd.of_own h.1, fun b o hb _ => h.2 b (by rw [hb]; rfl)⟩)
  have H5 := SL.conv (B := RdP a3 x.receivers.length 3 (x.receivers.flatMap Wtr.cells)) H4.up2 (fun S _ h => ⟨Rd.of_own h.1, fun b o hb _ => h.2 b (by rw [hb]; rfl)⟩)
  exact ⟨a3, c3, a2, c2, rfl, H5⟩
end
structure Inv9 (n : Nat) (x : PipeM) : Prop where
 size : x.size ≤ 4
 buf : x.buf.length ≤ x.size
 snd : Fine x.senders
 rcv : Fine x.receivers
 s0 : 0 ≤ x.sent
 s1 : x.sent ≤ n
 r0 : 0 ≤ x.received
 r1 : x.received ≤ n
 cl : x.closed = true → x.senders = [] ∧ x.receivers = []
 re : x.receivers ≠ [] → x.buf = []
 se : x.senders ≠ [] → x.buf.length = x.size
 own : ∀ a ∈ x.senders, ∀ b ∈ x.receivers, a.g = b.g
theorem Fine.nil : Fine [] := ⟨by simp, by simp⟩
theorem Fine.tail {m : Wtr} {l : List Wtr} (h : Fine (m :: l)) : Fine l := ⟨by have := h.1; simp at this; omega, fun x hx => h.2 x (List.mem_cons_of_mem _ hx)⟩
theorem Inv9.empty {z : Nat} (h : z ≤ 4) : Inv9 0 (emptyM z) :=
 ⟨h, Nat.zero_le _, Fine.nil, Fine.nil, by simp [emptyM], by simp [emptyM], by simp [emptyM], by simp [emptyM], fun h => ⟨rfl, rfl⟩, fun h => rfl, fun h => absurd rfl h, fun a h => by simp [emptyM] at h⟩
theorem Inv9.more {n k : Nat} {x : PipeM} (h : Inv9 n x) (hk : n ≤ k) : Inv9 k x := { h with s1 := by have := h.s1; omega, r1 := by have := h.r1; omega }
theorem Inv9.send {n : Nat} {x : PipeM} (h : Inv9 n x) (v : Int) : Inv9 (n + 1) (sendF x v).2 := by
 unfold sendF
 by_cases hc : x.closed = true
 ·rw [if_pos hc]
  exact h.more (by omega)
 ·rw [if_neg hc]
  have s0 := h.s0; have s1 := h.s1; have r0 := h.r0; have r1 := h.r1
  rcases hr : x.receivers with _ | ⟨m, l⟩
  ·dsimp only
   by_cases hz : x.buf.length < x.size
   ·rw [if_pos hz]
    exact { h with buf := by simp; omega, rcv := Fine.nil, s0 := by dsimp only; omega, s1 := by dsimp only; omega, r1 := by dsimp only; omega, cl := fun hh => absurd hh hc, re := fun hh => absurd rfl hh, se := fun hh => by have := h.se hh; omega, own := fun a _ b hb => by cases hb }
   ·rw [if_neg hz]
    exact h.more (by omega)
  ·dsimp only
   have hre := h.re (by rw [hr]; simp)
   exact { h with rcv := by have := h.rcv; rw [hr] at this; exact this.tail, s0 := by dsimp only; omega, s1 := by dsimp only; omega, r0 := by dsimp only; omega, r1 := by dsimp only; omega, cl := fun hh => absurd hh hc, re := fun hh => hre, own := fun a ha b hb => h.own a ha b (by rw [hr]; exact List.mem_cons_of_mem _ hb) }
theorem Inv9.recv {n : Nat} {x : PipeM} (h : Inv9 n x) : Inv9 (n + 1) (recvF x).2 := by
 unfold recvF
 have s0 := h.s0; have s1 := h.s1; have r0 := h.r0; have r1 := h.r1
 rcases hb : x.buf with _ | ⟨a, L⟩
 ·rcases hs : x.senders with _ | ⟨m, l⟩
  ·dsimp only
   by_cases hc : x.closed = true
   ·rw [if_pos hc]
    exact h.more (by omega)
   ·rw [if_neg hc]
    exact h.more (by omega)
  ·have hc : ¬ x.closed = true := fun hh => by have := (h.cl hh).1; rw [hs] at this; cases this
   have hse := h.se (by rw [hs]; simp)
   rw [hb] at hse
   dsimp only
   exact { h with buf := by simp, re := fun _ => rfl, snd := by have := h.snd; rw [hs] at this; exact this.tail, s0 := by dsimp only; omega, s1 := by dsimp only; omega, r0 := by dsimp only; omega, r1 := by dsimp only; omega, cl := fun hh => absurd hh hc, se := fun hh => hse, own := fun c hc' b hb' => h.own c (by rw [hs]; exact List.mem_cons_of_mem _ hc') b hb' }
 ·have hr : x.receivers = [] := Classical.byContradiction fun hh => by have := h.re hh; rw [hb] at this; cases this
  have hbl := h.buf
  rw [hb] at hbl
  simp at hbl
  rcases hs : x.senders with _ | ⟨m, l⟩
  ·dsimp only
   exact { h with buf := by dsimp only; omega, snd := Fine.nil, s0 := s0, s1 := by dsimp only; omega, r0 := by dsimp only; omega, r1 := by dsimp only; omega, cl := fun hh => ⟨rfl, (h.cl hh).2⟩, re := fun hh => absurd hr hh, se := fun hh => absurd rfl hh, own := fun a ha => by cases ha }
  ·have hc : ¬ x.closed = true := fun hh => by have := (h.cl hh).1; rw [hs] at this; cases this
   have hse := h.se (by rw [hs]; simp)
   rw [hb] at hse
   simp at hse
   dsimp only
   exact { h with buf := by simp; omega, snd := by have := h.snd; rw [hs] at this; exact this.tail, s0 := by dsimp only; omega, s1 := by dsimp only; omega, r0 := by dsimp only; omega, r1 := by dsimp only; omega, cl := fun hh => absurd hh hc, re := fun hh => absurd hr hh, se := fun hh => by simp; omega, own := fun c hc' b hb' => h.own c (by rw [hs]; exact List.mem_cons_of_mem _ hc') b hb' }
theorem without_nil {g : Int} {L : List Wtr} : (¬ 0 < (without g L).length) ↔ ∀ b ∈ L, b.g = g := by
 unfold without
 rw [Nat.not_lt, Nat.le_zero_eq, List.length_eq_zero_iff, List.filter_eq_nil_iff]
 exact ⟨fun h b hb => by have := h b hb; simpa using this, fun h b hb => by simp [h b hb]⟩
theorem any_not {g : Int} {L : List Wtr} : (L.any (fun m => !(m.g == g))) = decide (0 < (without g L).length) := by
 rw [Bool.eq_iff_iff, decide_eq_true_iff, List.any_eq_true]
 constructor
 ·rintro ⟨b, hb, hn⟩
  apply Classical.byContradiction
  intro hh
  have := without_nil.1 hh b hb
  simp [this] at hn
 ·intro hh
  apply Classical.byContradiction
  intro hno
  refine absurd hh (without_nil.2 fun b hb => ?_)
  apply Classical.byContradiction
  intro hg
  exact hno ⟨b, hb, by simpa using hg⟩
theorem wait_eq {n : Nat} {x : PipeM} (h : Inv9 n x) (s : Bool) (m : Wtr) : waitF x s m = rwaitF x s m := by
 have key : (readyF x s && !aloneF x (!s) m.g) = (x.closed || (if s then decide (x.buf.length < x.size) else decide (0 < x.buf.length)) || decide (0 < (without m.g (if s then x.receivers else x.senders)).length)) := by
  have hb := h.buf
  unfold readyF aloneF
  cases s
  ·simp only [Bool.not_false, Bool.false_eq_true, if_false, if_true]
   rw [any_not]
   by_cases hc : x.closed = true
   ·simp [hc]
   ·have hc' : x.closed = false := by simpa using hc
    simp only [hc', Bool.not_false, Bool.true_and, Bool.false_or]
    by_cases h1 : 0 < x.buf.length
    ·have hz : ¬ x.size = 0 := by omega
     simp [h1, hz]
    ·by_cases h2 : 0 < x.senders.length
     ·have := h.se (by intro e; rw [e] at h2; simp at h2)
      have hz : x.size = 0 := by omega
      simp [h1, h2, hz]
     ·have hs : x.senders = [] := List.eq_nil_of_length_eq_zero (by omega)
      simp [hs, h1, without]
  ·simp only [Bool.not_true, Bool.false_eq_true, if_false, if_true]
   rw [any_not]
   by_cases hc : x.closed = true
   ·simp [hc]
   ·have hc' : x.closed = false := by simpa using hc
    simp only [hc', Bool.not_false, Bool.true_and, Bool.false_or]
    by_cases h1 : x.buf.length < x.size
    ·have hz : ¬ x.size = 0 := by omega
     simp [h1, hz]
    ·by_cases h2 : 0 < x.receivers.length
     ·have := h.re (by intro e; rw [e] at h2; simp at h2)
      have hz : x.size = 0 := by rw [this] at h1; simp at h1; omega
      simp [h1, h2, hz]
     ·have hs : x.receivers = [] := List.eq_nil_of_length_eq_zero (by omega)
      simp [hs, h1, without]
 unfold waitF rwaitF
 rw [key]
 by_cases hc : (x.closed || (if s then decide (x.buf.length < x.size) else decide (0 < x.buf.length)) || decide (0 < (without m.g (if s then x.receivers else x.senders)).length)) = true
 ·rw [if_pos hc, if_pos hc]
 ·rw [if_neg hc, if_neg hc]
  unfold addF
  have l1 := h.snd.1
  have l2 := h.rcv.1
  by_cases h1 : m.g < 0 ∨ m.case_ < -1
  ·cases s <;> simp [h1]
  ·cases s
   ·simp only [Bool.false_eq_true, if_false, if_neg h1]
    by_cases h2 : x.receivers.length = 1024
    ·rw [if_pos h2, if_pos (by omega)]
    ·rw [if_neg h2, if_neg (by omega)]
   ·simp only [if_true, if_neg h1]
    by_cases h2 : x.senders.length = 1024
    ·rw [if_pos h2, if_pos (by omega)]
    ·rw [if_neg h2, if_neg (by omega)]
theorem Inv9.wait {n : Nat} {x : PipeM} (h : Inv9 n x) (s : Bool) (m : Wtr) : Inv9 n (waitF x s m).2 := by
 rw [wait_eq h]
 unfold rwaitF
 have hb := h.buf
 by_cases hc : (x.closed || (if s then decide (x.buf.length < x.size) else decide (0 < x.buf.length)) || decide (0 < (without m.g (if s then x.receivers else x.senders)).length)) = true
 ·rw [if_pos hc]
  exact h
 ·rw [if_neg hc]
  by_cases h1 : m.g < 0 ∨ m.case_ < -1
  ·rw [if_pos h1]
   exact h
  ·rw [if_neg h1]
   cases s
   ·simp only [Bool.false_eq_true, if_false] at hc ⊢
    simp only [Bool.or_eq_true, decide_eq_true_iff, not_or] at hc
    obtain ⟨⟨c1, c2⟩, c3⟩ := hc
    by_cases h2 : 1024 ≤ x.receivers.length
    ·rw [if_pos h2]
     exact h
    ·rw [if_neg h2]
     exact { h with rcv := ⟨by simp; omega, fun y hy => (List.mem_append.1 hy).elim (fun hy => h.rcv.2 y hy) (fun hy => by simp at hy; subst hy; omega)⟩, cl := fun hh => absurd hh c1, re := fun _ => List.eq_nil_of_length_eq_zero (by dsimp only; omega), own := fun a ha b hb' => (List.mem_append.1 hb').elim (fun hb' => h.own a ha b hb') (fun hb' => by simp at hb'; subst hb'; exact without_nil.1 c3 a ha) }
   ·simp only [if_true] at hc ⊢
    simp only [Bool.or_eq_true, decide_eq_true_iff, not_or] at hc
    obtain ⟨⟨c1, c2⟩, c3⟩ := hc
    by_cases h2 : 1024 ≤ x.senders.length
    ·rw [if_pos h2]
     exact h
    ·rw [if_neg h2]
     exact { h with snd := ⟨by simp; omega, fun y hy => (List.mem_append.1 hy).elim (fun hy => h.snd.2 y hy) (fun hy => by simp at hy; subst hy; omega)⟩, cl := fun hh => absurd hh c1, se := fun _ => by dsimp only; omega, own := fun a ha b hb' => (List.mem_append.1 ha).elim (fun ha => h.own a ha b hb') (fun ha => by simp at ha; subst ha; exact (without_nil.1 c3 b hb').symm) }
theorem Inv9.close {n : Nat} {x : PipeM} (h : Inv9 n x) : Inv9 n (closeF x).2 := by
 unfold closeF
 by_cases hc : x.closed = true
 ·rw [if_pos hc]
  exact h
 ·rw [if_neg hc]
  exact { h with snd := Fine.nil, rcv := Fine.nil, cl := fun _ => ⟨rfl, rfl⟩, re := fun hh => absurd rfl hh, se := fun hh => absurd rfl hh, own := fun a ha => by cases ha }
theorem Inv9.drop {n : Nat} {x : PipeM} (h : Inv9 n x) (g : Int) : Inv9 n (dropM x g) := by
 have sub : ∀ {L : List Wtr} {a : Wtr}, a ∈ without g L → a ∈ L := fun ha => (List.mem_filter.1 ha).1
 have ne : ∀ {L : List Wtr}, without g L ≠ [] → L ≠ [] := fun hh e => hh (by rw [e]; rfl)
 exact { h with snd := h.snd.without g, rcv := h.rcv.without g, cl := fun hh => by obtain ⟨a, b⟩ := h.cl hh; exact ⟨by unfold dropM; dsimp only; rw [a]; rfl, by unfold dropM; dsimp only; rw [b]; rfl⟩, re := fun hh => h.re (ne hh), se := fun hh => h.se (ne hh), own := fun a ha b hb => h.own a (sub ha) b (sub hb) }
structure Step9 where
 what : Int
 w : Wtr
def Step9.cells (s : Step9) : List Value := [.int .i64 s.what, .int .i64 s.w.g, .int .i64 s.w.case_, .int .i64 s.w.value]
def Step9.agg (s : Step9) : Value := .agg #[.int .i64 s.what, .int .i64 s.w.g, .int .i64 s.w.case_, .int .i64 s.w.value]
def stepF (x : PipeM) (s : Step9) : PipeM :=
 if s.what = 0 ∨ s.what = 1 then (sendF x s.w.value).2
 else if s.what = 2 ∨ s.what = 3 then (recvF x).2
 else if s.what = 4 ∨ s.what = 5 then (waitF x (s.what == 4) s.w).2
 else if s.what = 6 then (closeF x).2
 else if s.what = 7 then dropM x s.w.g
 else x
theorem Inv9.step {n : Nat} {x : PipeM} (h : Inv9 n x) (s : Step9) : Inv9 (n + 1) (stepF x s) := by
 unfold stepF
 split
 ·exact h.send _
 split
 ·exact h.recv
 split
 ·exact (h.wait _ _).more (by omega)
 split
 ·exact h.close.more (by omega)
 split
 ·exact (h.drop _).more (by omega)
 ·exact h.more (by omega)
theorem Inv9.cnt {n : Nat} {x : PipeM} (h : Inv9 n x) (hn : n ≤ 1000000000) : Cnt x := ⟨h.s0, by have := h.s1; omega, h.r0, by have := h.r1; omega⟩
section
variable {w : World} {F : List Piece} {g h n : Nat} {x : PipeM}
end
section
variable {w : World} {F : List Piece} {g h n : Nat} {x : PipeM}
set_option maxHeartbeats 400000 in
theorem r_ready_q (s : Bool) (H : SL w (RefP h x :: F)) : Calls Tryz.prog 135 #[.pointer (some ⟨h, 0, none⟩), .bool s] w fun e w' => e = .returned (.bool (readyF x s)) ∧ Frm Nil w w' := by
 obtain ⟨a1, c1, a2, c2, a3, c3, H1⟩ := ref_open H
 obtain ⟨r0, r1, r2, r3, r4, r5, r6, rf⟩ := box7 H1.at0
 have rl := lt_of_block H1.at0
 obtain ⟨R, hR⟩ : ∃ R, readyF x s = R := ⟨_, rfl⟩
 rw [hR]
 unfold readyF at hR
 obtain ⟨cl, hcl⟩ : ∃ cl, x.closed = cl := ⟨_, rfl⟩
 obtain ⟨n1, hn1⟩ : ∃ n, x.buf.length = n := ⟨_, rfl⟩
 obtain ⟨n2, hn2⟩ : ∃ n, x.senders.length = n := ⟨_, rfl⟩
 obtain ⟨n3, hn3⟩ : ∃ n, x.receivers.length = n := ⟨_, rfl⟩
 obtain ⟨z, hz⟩ : ∃ n, x.size = n := ⟨_, rfl⟩
 rw [hcl, hn1, hn2, hn3, hz] at hR
 rw [hcl] at r4
 rw [hn1] at r1
 rw [hn2] at r2
 rw [hn3] at r3
 rw [hz] at r0
 have HR := Lib.hid hR.symm
 clear hR hcl hn1 hn2 hn3 hz H1
 cases s
 ·simp only [Bool.false_eq_true, if_false] at HR
  go_enter Tryz.func135, Tryz.ntmps135
  cases cl with
  | true =>
   go_wp2_with fail
   skip
   go_ret
   exact ⟨ret_bool (by rw [HR.out]; rfl), (by repeat (first | with_reducible exact Frm.refl _ _ | apply Frm.drewN | apply Frm.drew | apply Frm.alloc))⟩
  | false =>
   by_cases h0 : 0 < (n2 : Int)
   ·have hb0 : decide (0 < (n2 : Int)) = true := by simpa using h0
    have hb0n : decide (0 < n2) = true := by simp; omega
    go_wp2_with fail
    skip
    go_ret
    exact ⟨ret_bool (by rw [HR.out]; simp; omega), (by repeat (first | with_reducible exact Frm.refl _ _ | apply Frm.drewN | apply Frm.drew | apply Frm.alloc))⟩
   ·have hb0 : decide (0 < (n2 : Int)) = false := by simpa using h0
    have hb0n : decide (0 < n2) = false := by simp; omega
    go_wp2_with fail
    skip
    go_ret
    exact ⟨ret_bool (by rw [HR.out, Bool.eq_iff_iff]; simp; try omega), (by repeat (first | with_reducible exact Frm.refl _ _ | apply Frm.drewN | apply Frm.drew | apply Frm.alloc))⟩
 ·simp only [if_true] at HR
  go_enter Tryz.func135, Tryz.ntmps135
  cases cl with
  | true =>
   go_wp2_with fail
   go_quiet (fail)
   go_wp2_with fail
   go_ret
   exact ⟨ret_bool (by rw [HR.out]; rfl), (by repeat (first | with_reducible exact Frm.refl _ _ | apply Frm.drewN | apply Frm.drew | apply Frm.alloc))⟩
  | false =>
   by_cases h0 : 0 < (n3 : Int)
   ·have hb0 : decide (0 < (n3 : Int)) = true := by simpa using h0
    have hb0n : decide (0 < n3) = true := by simp; omega
    go_wp2_with fail
    go_quiet (fail)
    go_wp2_with fail
    go_ret
    exact ⟨ret_bool (by rw [HR.out]; simp; omega), (by repeat (first | with_reducible exact Frm.refl _ _ | apply Frm.drewN | apply Frm.drew | apply Frm.alloc))⟩
   ·have hb0 : decide (0 < (n3 : Int)) = false := by simpa using h0
    have hb0n : decide (0 < n3) = false := by simp; omega
    by_cases h1 : (n1 : Int) < (z : Int)
    ·have hb1 : decide ((n1 : Int) < (z : Int)) = true := by simpa using h1
     have hb1n : decide (n1 < z) = true := by simp; omega
     go_wp2_with fail
     go_quiet (fail)
     go_wp2_with fail
     go_ret
     exact ⟨ret_bool (by rw [HR.out]; simp; omega), (by repeat (first | with_reducible exact Frm.refl _ _ | apply Frm.drewN | apply Frm.drew | apply Frm.alloc))⟩
    ·have hb1 : decide ((n1 : Int) < (z : Int)) = false := by simpa using h1
     have hb1n : decide (n1 < z) = false := by simp; omega
     go_wp2_with fail
     go_quiet (fail)
     go_wp2_with fail
     go_ret
     exact ⟨ret_bool (by rw [HR.out]; simp; omega), (by repeat (first | with_reducible exact Frm.refl _ _ | apply Frm.drewN | apply Frm.drew | apply Frm.alloc))⟩
end
def adr (o : Option Nat) : Value := .pointer (o.map fun g => ⟨g, 0, none⟩)
def pcs (gs : List (Option Nat)) : List Value := gs.map adr
def pieceO (P : Nat → PipeM → Piece) : Option Nat → PipeM → Piece
 | none, _ => emp
 | some g, x => P g x
def RsP (gs : List (Option Nat)) (M : List PipeM) : Piece := all (List.zipWith (pieceO RefP) gs M)
theorem SLs.take {w : World} : ∀ {L : List Piece} {S : Nat → Prop} (i : Nat) {A : Piece}, SLs w S L → L[i]? = some A → SLs w S (A :: L.set i emp)
 | [], _, i, _, _, h => by simp at h
 | B :: L, S, 0, A, h, hi => by
  simp at hi
  subst hi
  obtain ⟨T, h1, h2, h3⟩ := h
  exact ⟨T, h1, h2, fun _ => False, fun _ h => h.elim, trivial, h3.mono (fun k hk => ⟨hk, id⟩)⟩
 | B :: L, S, i + 1, A, h, hi => (SLs.congr (fun S' h' => SLs.take i h' (by simpa using hi)) h).swap
theorem SLs.put {w : World} : ∀ {L : List Piece} {S : Nat → Prop} (i : Nat) {A : Piece}, i < L.length → SLs w S (A :: L.set i emp) → SLs w S (L.set i A)
 | [], _, i, _, h, _ => absurd h (Nat.not_lt_zero i)
 | B :: L, S, 0, A, _, h => SLs.congr (fun S' h' => SLs.tl h') h
 | B :: L, S, i + 1, A, hi, h => SLs.congr (fun S' h' => SLs.put i (by simpa using hi) h') h.swap
section
variable {w : World} {F : List Piece} {gs : List (Option Nat)} {M : List PipeM} {P : Nat → PipeM → Piece}
theorem zip_get {i g : Nat} {x : PipeM} (hg : gs[i]? = some (some g)) (hx : M[i]? = some x) : (List.zipWith (pieceO P) gs M)[i]? = some (P g x) := by
 rw [List.getElem?_zipWith, hg, hx]
 rfl
theorem zip_set {i g : Nat} (hg : gs[i]? = some (some g)) (y : PipeM) : (List.zipWith (pieceO P) gs M).set i (P g y) = List.zipWith (pieceO P) gs (M.set i y) := by
 apply List.ext_getElem?
 intro j
 by_cases hj : i = j
 ·subst hj
  rw [List.getElem?_set_self', List.getElem?_zipWith, List.getElem?_zipWith, hg, List.getElem?_set_self']
  cases M[i]? <;> rfl
 ·rw [List.getElem?_set_ne hj, List.getElem?_zipWith, List.getElem?_zipWith, List.getElem?_set_ne hj]
theorem all_take {i g : Nat} {x : PipeM} (hg : gs[i]? = some (some g)) (hx : M[i]? = some x) (H : SL w (all (List.zipWith (pieceO P) gs M) :: F)) : SL w (P g x :: all ((List.zipWith (pieceO P) gs M).set i emp) :: F) := by
 have h := SL.all.1 H
 obtain ⟨T, t1, t2, t3⟩ := SLs.app.1 h
 have t4 := SLs.take i t2 (zip_get (P := P) hg hx)
 obtain ⟨U, u1, u2, u3⟩ := t4
 exact ⟨U, fun k hk => t1 k (u1 k hk), u2, fun k => T k ∧ ¬ U k, fun k hk => ⟨t1 k hk.1, hk.2⟩, u3, t3.mono (fun k hk => ⟨⟨hk.1, fun hu => hk.2 (u1 k hu)⟩, fun ht => hk.2 ht.1⟩)⟩
theorem all_put {i g : Nat} {x y : PipeM} (hg : gs[i]? = some (some g)) (hx : M[i]? = some x) (H : SL w (P g y :: all ((List.zipWith (pieceO P) gs M).set i emp) :: F)) : SL w (all (List.zipWith (pieceO P) gs (M.set i y)) :: F) := by
 obtain ⟨U, u1, u2, T, t1, t2, t3⟩ := H
 rw [← zip_set hg y]
 have hlen : i < (List.zipWith (pieceO P) gs M).length := by
  have := zip_get (P := P) hg hx
  exact (List.getElem?_eq_some_iff.1 this).1
 refine ⟨fun k => U k ∨ T k, fun k hk => hk.elim (u1 k) (fun h => (t1 k h).1), SLs.put i hlen ⟨U, fun k hk => .inl hk, u2, t2.mono (fun k hk => ⟨.inr hk, (t1 k hk).2⟩)⟩, t3.mono (fun k hk => ⟨hk.1.1, fun h => h.elim hk.1.2 hk.2⟩)⟩
end
structure CaseM where
 send : Bool
 chan : Int
 value : Int
def CaseM.cells (c : CaseM) : List Value := [.bool c.send, .int .i64 c.chan, .int .i64 c.value]
def CaseM.agg (c : CaseM) : Value := .agg #[.bool c.send, .int .i64 c.chan, .int .i64 c.value]
theorem case_at {w : World} {a : Option Addr} {n : Nat} {L : List CaseM} (h : Rd w 3 a n (L.flatMap CaseM.cells)) (k : Nat) (hk : k < L.length) : ∃ b off, a = some ⟨b, off, none⟩ ∧
  w.cell? ⟨b, off + k * 3, none⟩ = some (.bool L[k].send) ∧ w.cell? ⟨b, off + k * 3 + 1, none⟩ = some (.int .i64 L[k].chan) ∧ w.cell? ⟨b, off + k * 3 + 2, none⟩ = some (.int .i64 L[k].value) := by
 have hl := h.1
 rw [flat_length CaseM.cells 3 (fun _ => rfl)] at hl
 obtain ⟨b, off, rfl, hc⟩ := h.2.2 (by omega)
 have key : ∀ j (hj : j < 3), ∀ u, (L[k].cells)[j]? = some u → w.cell? ⟨b, off + k * 3 + j, none⟩ = some u := fun j hj u hu => by
  rw [Nat.add_assoc]
  exact hc (k * 3 + j) u (by rw [flat_get CaseM.cells 3 (fun _ => rfl) L k j hj hk]; exact hu)
 exact ⟨b, off, rfl, key 0 (by omega) _ rfl, key 1 (by omega) _ rfl, key 2 (by omega) _ rfl⟩
def nm (gs : List (Option Nat)) (c : Int) : Option Nat := if 0 ≤ c ∧ c < gs.length then gs.getD c.toNat none else none
def posF (ok : List Bool) (c : Int) : Option Nat := if 0 ≤ c ∧ c < ok.length ∧ ok.getD c.toNat false = true then some c.toNat else none
def oks (gs : List (Option Nat)) : List Bool := gs.map Option.isSome
theorem nm_pos (gs : List (Option Nat)) (c : Int) : (posF (oks gs) c = none ∧ nm gs c = none) ∨ (∃ i g, posF (oks gs) c = some i ∧ nm gs c = some g ∧ gs[i]? = some (some g) ∧ c = i) := by
 unfold posF nm oks
 rw [List.length_map]
 by_cases h : 0 ≤ c ∧ c < gs.length
 ·rw [if_pos h]
  obtain ⟨i, rfl⟩ : ∃ i : Nat, c = i := ⟨c.toNat, by omega⟩
  have hi : i < gs.length := by omega
  rw [Int.toNat_natCast, List.getD_eq_getElem?_getD, List.getD_eq_getElem?_getD, List.getElem?_map, List.getElem?_eq_getElem hi]
  rcases hg : gs[i] with _ | g
  ·exact .inl ⟨by rw [if_neg (by simp)], rfl⟩
  ·exact .inr ⟨i, g, by rw [if_pos ⟨h.1, h.2, rfl⟩], rfl, by rw [List.getElem?_eq_getElem hi, hg], rfl⟩
 ·rw [if_neg h]
  exact .inl ⟨if_neg (fun q => h ⟨q.1, q.2.1⟩), rfl⟩
def readyC (ok : List Bool) (M : List PipeM) (c : CaseM) : Bool := match posF ok c.chan with | none => false | some i => readyF (M.getD i (emptyM 0)) c.send
def readyK (ok : List Bool) (M : List PipeM) (L : List CaseM) (k : Nat) : List Int := ((List.range k).filter (fun i : Nat => readyC ok M (L.getD i ⟨false, 0, 0⟩))).map (fun i : Nat => (i : Int))
def readyL (ok : List Bool) (M : List PipeM) (L : List CaseM) : List Int := readyK ok M L L.length
theorem readyK_succ (ok : List Bool) (M : List PipeM) (L : List CaseM) (k : Nat) (hk : k < L.length) : readyK ok M L (k + 1) = readyK ok M L k ++ if readyC ok M L[k] then [(k : Int)] else [] := by
 unfold readyK
 rw [List.range_succ, List.filter_append, List.map_append]
 congr 1
 have e : L.getD k ⟨false, 0, 0⟩ = L[k] := by rw [List.getD_eq_getElem?_getD, List.getElem?_eq_getElem hk]; rfl
 rw [List.filter_cons, e, List.filter_nil]
 split <;> rfl
theorem readyK_le (ok : List Bool) (M : List PipeM) (L : List CaseM) (k : Nat) : (readyK ok M L k).length ≤ k := by
 unfold readyK
 rw [List.length_map]
 exact Nat.le_trans (List.length_filter_le _ _) (by simp)
section
variable {w : World} {F : List Piece} {gs : List (Option Nat)} {M : List PipeM}
end
section
variable {w : World} {F : List Piece} {gs : List (Option Nat)} {M : List PipeM}
set_option maxHeartbeats 400000 in
theorem r_named {a : Option Addr} {n cap : Nat} (c : Int) (hn : n = gs.length) (h : Rd w 1 a n (pcs gs)) : Calls Tryz.prog 133 #[.slice a n cap, .int .i64 c] w fun e w' => e = .returned (adr (nm gs c)) ∧ w = w' := by
 obtain ⟨v, hv⟩ : ∃ v, nm gs c = v := ⟨_, rfl⟩
 rw [hv]
 unfold nm at hv
 subst hn
 by_cases h1 : c < 0
 ·rw [if_neg (by omega)] at hv
  subst hv
  go_enter Tryz.func133, Tryz.ntmps133
  go_wp2_with fail
  go_ret
  exact ⟨rfl, rfl⟩
 ·obtain ⟨k, rfl⟩ : ∃ k : Nat, c = k := ⟨c.toNat, by omega⟩
  by_cases h2 : k < gs.length
  ·rw [if_pos (by omega), Int.toNat_natCast] at hv
   obtain ⟨b, off, rfl, hc⟩ := h.2.2 (by omega)
   have h3 := hc k (adr v) (by unfold pcs; rw [List.getElem?_map, List.getElem?_eq_getElem h2]; rw [List.getD_eq_getElem?_getD, List.getElem?_eq_getElem h2] at hv; simp at hv; rw [hv]; rfl)
   have h4 := World.block_lt_of_cell? w _ h3
   dsimp only at h4
   unfold adr at h3 ⊢
   obtain ⟨q, hq⟩ : ∃ q, v.map (fun g => (⟨g, 0, none⟩ : Addr)) = q := ⟨_, rfl⟩
   rw [hq] at h3 ⊢
   clear hc hv hq
   have d1 : (k : Int) < (gs.length : Int) := by omega
   have d2 : ¬ (gs.length : Int) ≤ (k : Int) := by omega
   have d3 : (0 : Int) ≤ (k : Int) := by omega
   go_enter Tryz.func133, Tryz.ntmps133
   go_wp2_with fail
   go_ret
   exact ⟨rfl, rfl⟩
  ·rw [if_neg (by omega)] at hv
   subst hv
   have d2 : (gs.length : Int) ≤ (k : Int) := by omega
   go_enter Tryz.func133, Tryz.ntmps133
   go_wp2_with fail
   go_ret
   exact ⟨rfl, rfl⟩
theorem rs_ready (hM : M.length = gs.length) {i g : Nat} (h3 : gs[i]? = some (some g)) (s : Bool) (H : SL w (RsP gs M :: F)) : Calls Tryz.prog 135 #[.pointer (some ⟨g, 0, none⟩), .bool s] w fun e w' => e = .returned (.bool (readyF (M.getD i (emptyM 0)) s)) ∧ Frm Nil w w' := by
 have hi : i < M.length := by rw [hM]; exact (List.getElem?_eq_some_iff.1 h3).1
 have H' := all_take (P := RefP) h3 (List.getElem?_eq_getElem hi) H
 rw [List.getD_eq_getElem?_getD, List.getElem?_eq_getElem hi]
 exact r_ready_q s H'
set_option maxRecDepth 100000 in
set_option maxHeartbeats 1000000 in
theorem r_ready10 {A B : Piece} {a b : Option Addr} {ca cb n m : Nat} {L : List CaseM} (hM : M.length = gs.length) (hn : n = L.length) (hm : m = gs.length) (hA : Reader A 3 a n (L.flatMap CaseM.cells)) (hB : Reader B 1 b m (pcs gs)) (hL : L.length ≤ 100000) (H : SL w (RsP gs M :: A :: B :: F)) :
  Calls Tryz.prog 142 #[.slice a n ca, .slice b m cb] w fun e w' => ∃ v, e = .returned v ∧ SL w' (Slc 3 1 v (readyL (oks gs) M L).length (ints (readyL (oks gs) M L)) :: RsP gs M :: A :: B :: F) := by
 subst hn hm
 have HM := Lib.hid hM
 clear hM
 unfold readyL
 go_enter Tryz.func142, Tryz.ntmps142
 go_wp2_with fail
 go_loopw [5, 11] (fun v i wr => ∃ k : Nat, k ≤ L.length ∧ i = .int .i64 k ∧ SL wr (Slc 3 1 v (readyK (oks gs) M L k).length (ints (readyK (oks gs) M L k)) :: RsP gs M :: A :: B :: F)) (fun _ i _ => L.length - (intOf i).toNat)
 case atStart => exact ⟨0, Nat.zero_le _, rfl, SL.slcNil _ _ H⟩
 case round =>
  obtain ⟨k, hk, rfl, HR⟩ := hrel
  obtain ⟨va, vc, hv, hvl, hvm, _⟩ := HR.slc
  subst hv
  have hle := readyK_le (oks gs) M L k
  by_cases hlt : k < L.length
  ·obtain ⟨b1, o1, e1, d0, d1, d2⟩ := case_at (HR.up2.read hA) k hlt
   subst e1
   have hsc := readyK_succ (oks gs) M L k hlt
   obtain ⟨c, hc⟩ : ∃ c, L[k] = c := ⟨_, rfl⟩
   rw [hc] at d0 d1 d2 hsc
   clear hc
   obtain ⟨cs, cc, cv⟩ := c
   dsimp only at d0 d1 d2
   have k1 := fun w' (f : Frm Nil wr w') => r_named (cap := cb) cc rfl (((HR.later f).up3).read hB)
   have dl : (k : Int) < (L.length : Int) := by omega
   have HB := (HR.alloc (.cells #[.bool cs, .int .i64 cc, .int .i64 cv] 162)).up1
   rcases nm_pos gs cc with ⟨h1, h2⟩ | ⟨i, g, h1, h2, h3, h4⟩
   ·have e1 : readyC (oks gs) M ⟨cs, cc, cv⟩ = false := by unfold readyC; dsimp only; rw [h1]
    rw [h2] at k1
    rw [e1] at hsc
    unfold adr at k1
    dsimp only [Option.map] at k1
    have K1 := Lib.hid k1
    have HSC := Lib.hid hsc
    clear k1 hsc h1 h2 e1
    go_wp2_with fail
    refine (K1.out _ (by repeat (first | with_reducible exact Frm.refl _ _ | apply Frm.drewN | apply Frm.drew | apply Frm.alloc | (refine Frm.then ?_ (by assumption))))).mono ?_
    rintro e w' ⟨rfl, rfl⟩
    go_wp2_with fail
    go_roundw
    case rel => exact ⟨k + 1, by omega, by go_num, by rw [HSC.out]; simp only [Bool.false_eq_true, if_false, List.append_nil]; exact HR.later (by repeat (first | with_reducible exact Frm.refl _ _ | apply Frm.drewN | apply Frm.drew | apply Frm.alloc | (refine Frm.then ?_ (by assumption))))⟩
    case measure => simp [intOf]; omega
   ·have k2 := fun w' (f : Frm Nil wr w') => rs_ready HM.out h3 cs (HR.later f).up1
    have e1 : readyC (oks gs) M ⟨cs, cc, cv⟩ = readyF (M.getD i (emptyM 0)) cs := by unfold readyC; dsimp only; rw [h1]
    rw [h2] at k1
    rw [e1] at hsc
    unfold adr at k1
    dsimp only [Option.map] at k1
    obtain ⟨rb, hrb⟩ : ∃ r, readyF (M.getD i (emptyM 0)) cs = r := ⟨_, rfl⟩
    rw [hrb] at k2 hsc
    have K1 := Lib.hid k1
    have K2 := Lib.hid k2
    have HSC := Lib.hid hsc
    clear k1 k2 hrb hsc h1 h2 h3 h4 e1
    cases rb with
    | false =>
     go_wp2_with fail
     refine (K1.out _ (by repeat (first | with_reducible exact Frm.refl _ _ | apply Frm.drewN | apply Frm.drew | apply Frm.alloc | (refine Frm.then ?_ (by assumption))))).mono ?_
     rintro e w' ⟨rfl, rfl⟩
     go_wp2_with fail
     refine (K2.out _ (by repeat (first | with_reducible exact Frm.refl _ _ | apply Frm.drewN | apply Frm.drew | apply Frm.alloc | (refine Frm.then ?_ (by assumption))))).mono ?_
     rintro e w' ⟨rfl, fq⟩
     go_wp2_with fail
     go_roundw
     case rel => exact ⟨k + 1, by omega, by go_num, by rw [HSC.out]; simp only [Bool.false_eq_true, if_false, List.append_nil]; exact HR.later (by repeat (first | with_reducible exact Frm.refl _ _ | apply Frm.drewN | apply Frm.drew | apply Frm.alloc | (refine Frm.then ?_ (by assumption))))⟩
     case measure => simp [intOf]; omega
    | true =>
     go_wp2_with fail
     refine (K1.out _ (by repeat (first | with_reducible exact Frm.refl _ _ | apply Frm.drewN | apply Frm.drew | apply Frm.alloc | (refine Frm.then ?_ (by assumption))))).mono ?_
     rintro e w' ⟨rfl, rfl⟩
     go_wp2_with fail
     refine (K2.out _ (by repeat (first | with_reducible exact Frm.refl _ _ | apply Frm.drewN | apply Frm.drew | apply Frm.alloc | (refine Frm.then ?_ (by assumption))))).mono ?_
     rintro e w' ⟨rfl, fq⟩
     have HQ := HR.later (w' := w') (by repeat (first | with_reducible exact Frm.refl _ _ | apply Frm.drewN | apply Frm.drew | apply Frm.alloc | (refine Frm.then ?_ (by assumption))))
     go_wp2_with (at_builtin; go_must (refine sl_app rfl _ _ 67 _ 8 rfl Tryz.underlying67 infoInt rfl (by decide) (.slice va _ vc) _ _ [.int .i64 k] rfl rfl (by simp) rfl rfl HQ (by omega) (by decide) ?_); intro g c w1 H1 hs1)
     go_roundw
     case rel => exact ⟨k + 1, by omega, by go_num, by rw [HSC.out]; simp only [if_true]; rw [List.length_append, ints_append]; exact H1⟩
     case measure => simp [intOf]; omega
  ·have hkn : k = L.length := by omega
   rw [hkn] at HR
   rw [hkn]
   clear hkn hle hvl
   go_wp2_with fail
   go_ret
   exact ⟨_, rfl, HR⟩
end
def AllInv (n : Nat) (M : List PipeM) : Prop := ∀ x ∈ M, Inv9 n x
theorem AllInv.more {n k : Nat} {M : List PipeM} (h : AllInv n M) (hk : n ≤ k) : AllInv k M := fun x hx => (h x hx).more hk
theorem AllInv.set {n : Nat} {M : List PipeM} (h : AllInv n M) {y : PipeM} (hy : Inv9 n y) (i : Nat) : AllInv n (M.set i y) := fun x hx => (List.mem_or_eq_of_mem_set hx).elim (h x) (fun e => by rw [e]; exact hy)
theorem AllInv.get {n : Nat} {M : List PipeM} (h : AllInv n M) {i : Nat} (hi : i < M.length) : Inv9 n (M.getD i (emptyM 0)) := by
 rw [List.getD_eq_getElem?_getD, List.getElem?_eq_getElem hi]
 exact h _ (List.getElem_mem hi)
def tryF (ok : List Bool) (M : List PipeM) (c : CaseM) : (GotM × Int) × List PipeM :=
 match posF ok c.chan with
 | none => ((gzero, 0), M)
 | some i => if c.send then ((sendF (M.getD i (emptyM 0)) c.value).1, M.set i (sendF (M.getD i (emptyM 0)) c.value).2) else (((recvF (M.getD i (emptyM 0))).1, 0), M.set i (recvF (M.getD i (emptyM 0))).2)
theorem tryF_len (ok : List Bool) (M : List PipeM) (c : CaseM) : (tryF ok M c).2.length = M.length := by
 unfold tryF
 split
 ·rfl
 ·split <;> simp
theorem pos_lt {ok : List Bool} {c : Int} {i : Nat} (h : posF ok c = some i) : i < ok.length := by
 unfold posF at h
 split at h
 ·injection h with h
  omega
 ·cases h
theorem AllInv.try {n : Nat} {M : List PipeM} {ok : List Bool} (h : AllInv n M) (hM : M.length = ok.length) (c : CaseM) : AllInv (n + 1) (tryF ok M c).2 := by
 unfold tryF
 split
 ·exact h.more (by omega)
 ·rename_i i hi
  have hi' := pos_lt hi
  split
  ·exact (h.more (Nat.le_succ n)).set ((h.get (by omega)).send _) i
  ·exact (h.more (Nat.le_succ n)).set ((h.get (by omega)).recv) i
def parkK (ok : List Bool) (g : Int) (L : List CaseM) (M : List PipeM) : Nat → Int × List PipeM
 | 0 => (0, M)
 | k + 1 =>
  match posF ok (L.getD k ⟨false, 0, 0⟩).chan with
  | none => parkK ok g L M k
  | some i =>
   let r := waitF ((parkK ok g L M k).2.getD i (emptyM 0)) (L.getD k ⟨false, 0, 0⟩).send ⟨g, k, (L.getD k ⟨false, 0, 0⟩).value⟩
   ((parkK ok g L M k).1 + (if r.1 = 0 then 1 else 0), (parkK ok g L M k).2.set i r.2)
theorem parkK_len (ok : List Bool) (g : Int) (L : List CaseM) (M : List PipeM) (k : Nat) : (parkK ok g L M k).2.length = M.length := by
 induction k with
 | zero => rfl
 | succ k ih =>
  unfold parkK
  split
  ·exact ih
  ·simp [ih]
theorem AllInv.park {n : Nat} {M : List PipeM} {ok : List Bool} (h : AllInv n M) (hM : M.length = ok.length) (g : Int) (L : List CaseM) (k : Nat) : AllInv n (parkK ok g L M k).2 := by
 induction k with
 | zero => exact h
 | succ k ih =>
  unfold parkK
  split
  ·exact ih
  ·rename_i i hi
   have hi' := pos_lt hi
   have hl := parkK_len ok g L M k
   exact ih.set ((ih.get (by omega)).wait _ _) i
theorem parkK_bd (ok : List Bool) (g : Int) (L : List CaseM) (M : List PipeM) (k : Nat) : 0 ≤ (parkK ok g L M k).1 ∧ (parkK ok g L M k).1 ≤ k := by
 induction k with
 | zero => exact ⟨Int.le_refl _, Int.le_refl _⟩
 | succ k ih =>
  unfold parkK
  split
  ·omega
  ·dsimp only
   split <;> omega
def parkF (ok : List Bool) (g : Int) (L : List CaseM) (M : List PipeM) : (Int × Int) × List PipeM :=
 if g < 0 ∨ 4 < L.length then ((0, 1), M)
 else if 0 < (readyL ok M L).length then ((0, 7), M)
 else (((parkK ok g L M L.length).1, 0), (parkK ok g L M L.length).2)
theorem parkF_len (ok : List Bool) (g : Int) (L : List CaseM) (M : List PipeM) : (parkF ok g L M).2.length = M.length := by
 unfold parkF
 split
 ·rfl
 ·split
  ·rfl
  ·exact parkK_len ok g L M L.length
theorem AllInv.parkF {n : Nat} {M : List PipeM} {ok : List Bool} (h : AllInv n M) (hM : M.length = ok.length) (g : Int) (L : List CaseM) : AllInv n (parkF ok g L M).2 := by
 unfold Go.Proofs.YtoamjodmidbmbaaGreatDoor.parkF
 split
 ·exact h
 ·split
  ·exact h
  ·exact h.park hM g L _
def dropN (x : PipeM) (g : Int) : Int := ((x.senders.length : Int) - (without g x.senders).length) + ((x.receivers.length : Int) - (without g x.receivers).length)
def leaveM (g : Int) (M : List PipeM) (k : Nat) : List PipeM := (M.take k).map (fun x => dropM x g) ++ M.drop k
def leaveN (ok : List Bool) (g : Int) (M : List PipeM) : Nat → Int
 | 0 => 0
 | k + 1 => leaveN ok g M k + (if ok.getD k false then dropN (M.getD k (emptyM 0)) g else 0)
def leaveF (ok : List Bool) (g : Int) (M : List PipeM) : Int × List PipeM := (leaveN ok g M M.length, M.map (fun x => dropM x g))
theorem leaveM_at (g : Int) (M : List PipeM) (k : Nat) (hk : k < M.length) : (leaveM g M k)[k]? = some M[k] := by
 unfold leaveM
 rw [List.getElem?_append_right (by simp; omega)]
 simp
 rw [show k - min k M.length = 0 by omega, Nat.add_zero, List.getElem?_eq_getElem hk]
theorem leaveM_succ (g : Int) (M : List PipeM) (k : Nat) (hk : k < M.length) : (leaveM g M k).set k (dropM M[k] g) = leaveM g M (k + 1) := by
 unfold leaveM
 rw [List.set_append_right _ _ (by simp; omega), List.length_map, List.length_take, Nat.min_eq_left (Nat.le_of_lt hk), Nat.sub_self, List.drop_eq_getElem_cons hk, List.set_cons_zero, List.take_succ_eq_append_getElem hk, List.map_append]
 simp
theorem leaveM_all (g : Int) (M : List PipeM) : leaveM g M M.length = M.map (fun x => dropM x g) := by
 unfold leaveM
 simp
theorem AllInv.leave {n : Nat} {M : List PipeM} (h : AllInv n M) (g : Int) : AllInv n (M.map (fun x => dropM x g)) := fun x hx => by
 obtain ⟨y, hy, rfl⟩ := List.mem_map.1 hx
 exact (h y hy).drop g
theorem dropN_bd {n : Nat} (x : PipeM) (g : Int) (h : Inv9 n x) : 0 ≤ dropN x g ∧ dropN x g ≤ 2048 := by
 have := without_le g x.senders
 have := without_le g x.receivers
 have := h.snd.1
 have := h.rcv.1
 unfold dropN
 omega
theorem leaveN_bd {n : Nat} (ok : List Bool) (g : Int) {M : List PipeM} (h : AllInv n M) (k : Nat) (hk : k ≤ M.length) : 0 ≤ leaveN ok g M k ∧ leaveN ok g M k ≤ 2048 * k := by
 induction k with
 | zero => exact ⟨Int.le_refl _, Int.le_refl _⟩
 | succ k ih =>
  have ih := ih (by omega)
  have hb := dropN_bd (M.getD k (emptyM 0)) g (h.get (show k < M.length by omega))
  unfold leaveN
  split <;> omega
theorem zip_none {P : Nat → PipeM → Piece} {gs : List (Option Nat)} {M : List PipeM} {i : Nat} (hg : gs[i]? = some none) (y : PipeM) : List.zipWith (pieceO P) gs (M.set i y) = List.zipWith (pieceO P) gs M := by
 apply List.ext_getElem?
 intro j
 rw [List.getElem?_zipWith, List.getElem?_zipWith]
 by_cases hj : i = j
 ·subst hj
  rw [hg, List.getElem?_set_self']
  cases M[i]? <;> rfl
 ·rw [List.getElem?_set_ne hj]
end Go.Proofs.YtoamjodmidbmbaaGreatDoor
namespace Go.Proofs.YtoamjodmidbmbaaGreatDoor
structure Ev where
 kind : Int
 g : Int
 chan : Int
 case_ : Int
 value : Int
 mate : Int
 send : Bool
 ok : Bool
 deriving DecidableEq
def Ev.cells (e : Ev) : List Value := [.int .i64 e.kind, .int .i64 e.g, .int .i64 e.chan, .int .i64 e.case_, .int .i64 e.value, .int .i64 e.mate, .bool e.send, .bool e.ok]
def Ev.agg (e : Ev) : Value := .agg #[.int .i64 e.kind, .int .i64 e.g, .int .i64 e.chan, .int .i64 e.case_, .int .i64 e.value, .int .i64 e.mate, .bool e.send, .bool e.ok]
def inn (a b n : Int) : Bool := decide (a ≤ n) && decide (n ≤ b)
structure Shp where
 c0 : Int
 c1 : Int
 k0 : Int
 k1 : Int
 v0 : Int
 v1 : Int
 m0 : Int
 m1 : Int
 send : Bool
 ok : Bool
def shapeF (k : Int) : Shp :=
 if k = 1 then ⟨-1, -1, -1, -1, 0, 7, 0, 511, false, false⟩
 else if k = 2 then ⟨0, 511, -1, -1, 0, 4, -1, -1, false, false⟩
 else if k = 3 then ⟨0, 511, -1, 3, 0, 99, -1, 511, true, false⟩
 else if k = 4 then ⟨0, 511, -1, 3, 0, 99, -1, 511, false, true⟩
 else if k = 5 then ⟨0, 511, -1, -1, -1, -1, -1, -1, false, false⟩
 else if k = 6 then ⟨-1, 511, -1, 4, 0, 99, -1, -1, true, false⟩
 else if k = 7 then ⟨0, 511, -1, 3, 0, 99, 0, 511, true, true⟩
 else if k = 9 ∨ k = 10 then ⟨-1, -1, -1, -1, 0, 7, -1, -1, false, false⟩
 else ⟨-1, -1, -1, -1, -1, -1, -1, -1, false, false⟩
def oddF (e : Ev) : Bool :=
 if e.kind = 3 then !e.send
 else if e.kind = 4 then !e.ok && (e.value != 0 || e.mate != -1)
 else if e.kind = 6 then (!e.send && e.value != 0) || (decide (0 ≤ e.case_) && (decide (0 ≤ e.chan) || e.send))
 else if e.kind = 7 then (e.send && !e.ok) || (!e.ok && e.value != 0)
 else false
def entF (e : Ev) : Int :=
 if e.kind < 1 ∨ 13 < e.kind then 1
 else if (((((((((if e.kind = 13 then inn (-1) (-1) e.g else inn 0 511 e.g) && ((shapeF e.kind).send || !e.send)) && ((shapeF e.kind).ok || !e.ok)) && !oddF e) && inn (shapeF e.kind).c0 (shapeF e.kind).c1 e.chan) && inn (shapeF e.kind).k0 (shapeF e.kind).k1 e.case_) && inn (shapeF e.kind).v0 (shapeF e.kind).v1 e.value) && inn (shapeF e.kind).m0 (shapeF e.kind).m1 e.mate)) = true then 0 else 4
def okF (e : Ev) : Bool :=
 if e.kind = 1 then e.chan == -1 && e.case_ == -1 && inn 0 7 e.value && inn 0 511 e.mate && (!e.send && !e.ok)
 else if e.kind = 2 then inn 0 511 e.chan && e.case_ == -1 && inn 0 4 e.value && e.mate == -1 && (!e.send && !e.ok)
 else if e.kind = 3 then inn 0 511 e.chan && inn (-1) 3 e.case_ && inn 0 99 e.value && (e.mate == -1 || inn 0 511 e.mate) && e.send && !e.ok
 else if e.kind = 4 then inn 0 511 e.chan && inn (-1) 3 e.case_ && inn 0 99 e.value && (e.mate == -1 || inn 0 511 e.mate) && !e.send && (e.ok || (e.value == 0 && e.mate == -1))
 else if e.kind = 5 then inn 0 511 e.chan && e.case_ == -1 && e.value == -1 && e.mate == -1 && (!e.send && !e.ok)
 else if e.kind = 6 then ((e.case_ == -1 && (e.chan == -1 || inn 0 511 e.chan) && ((e.send && inn 0 99 e.value) || (!e.send && e.value == 0))) || (inn 0 4 e.case_ && e.chan == -1 && !e.send && e.value == 0)) && e.mate == -1 && !e.ok
 else if e.kind = 7 then inn 0 511 e.chan && inn (-1) 3 e.case_ && inn 0 99 e.value && inn 0 511 e.mate && (e.ok || (!e.send && e.value == 0))
 else if e.kind = 9 ∨ e.kind = 10 then e.chan == -1 && e.case_ == -1 && inn 0 7 e.value && e.mate == -1 && (!e.send && !e.ok)
 else e.chan == -1 && e.case_ == -1 && e.value == -1 && e.mate == -1 && (!e.send && !e.ok)
def ref12 (e : Ev) : Int :=
 if e.kind < 1 ∨ 13 < e.kind then 1
 else if (okF e && (if e.kind = 13 then e.g == -1 else inn 0 511 e.g)) = true then 0 else 4
set_option maxHeartbeats 4000000 in
theorem ent_ref (e : Ev) : entF e = ref12 e := by
 obtain ⟨kind, g, chan, case_, value, mate, send, ok⟩ := e
 unfold entF ref12
 by_cases h : kind < 1 ∨ 13 < kind
 ·rw [if_pos h, if_pos h]
 ·rw [if_neg h, if_neg h]
  congr 1
  have hk : kind = 1 ∨ kind = 2 ∨ kind = 3 ∨ kind = 4 ∨ kind = 5 ∨ kind = 6 ∨ kind = 7 ∨ kind = 8 ∨ kind = 9 ∨ kind = 10 ∨ kind = 11 ∨ kind = 12 ∨ kind = 13 := by omega
  clear h
  rcases hk with rfl | rfl | rfl | rfl | rfl | rfl | rfl | rfl | rfl | rfl | rfl | rfl | rfl <;> cases send <;> cases ok <;> simp [okF, shapeF, oddF, inn] <;> omega
end Go.Proofs.YtoamjodmidbmbaaGreatDoor
