/- The reference of layer 9: Recv. -/
import Derived.Test.YtlccpbdpfamekaaRefD
namespace Go.Proofs.Ytlccpbdpfamekaa
set_option linter.unusedVariables false
set_option linter.unusedSimpArgs false
open Go.RowKit

section
variable {w : World} {F : List Piece} {h : Nat} {x : PipeM}

set_option maxRecDepth 100000 in
set_option maxHeartbeats 400000 in
theorem r_recv_both {a : Int} {L : List Int} {m : Wtr} {l : List Wtr} (hb : x.buf = a :: L) (hs : x.senders = m :: l) (hl : l.length ≤ 100000) (hbl : L.length ≤ 4) (hn : Cnt x) (H : SL w (RefP h x :: F)) :
    Calls Try.prog 44 #[.pointer (some ⟨h, 0, none⟩)] w fun e w' => e = .returned (⟨true, true, true, a, m⟩ : GotM).agg ∧ SL w' (RefP h { x with buf := L ++ [m.value], senders := l, sent := x.sent + 1, received := x.received + 1 } :: F) := by
  obtain ⟨b1, b2, b3, b4⟩ := hn
  obtain ⟨rg, rc, rm⟩ := m
  unfold GotM.agg
  try unfold gzero
  try unfold wzero
  dsimp only
  obtain ⟨a1, c1, a2, c2, a3, c3, H1⟩ := ref_open H
  rw [hb, hs] at H1
  simp only [List.length_cons, List.length_nil] at H1
  have HB := Lib.hid hb
  have HS := Lib.hid hs
  clear hb hs
  have hcap1 : L.length + 1 ≤ c1 ∧ c1 ≤ maxLen := by
    obtain ⟨a, c, e, k1, k2, _⟩ := H1.up1.slc
    injection e with e1 e2 e3
    subst e3
    exact ⟨k1, k2⟩
  obtain ⟨bb, boff, e1, kk⟩ := Rd.int_at (xs := a :: L) (H1.up1.read Reader.slc) (by simp)
  subst e1
  have k0 := kk 0 (by simp)
  clear kk
  rw [Nat.add_zero, List.getD_cons_zero] at k0
  have hbl2 := World.block_lt_of_cell? w _ k0
  dsimp only at hbl2
  have hcap2 : l.length + 1 ≤ c2 ∧ c2 ≤ maxLen := by
    obtain ⟨a, c, e, k1, k2, _⟩ := H1.up2.slc
    injection e with e1 e2 e3
    subst e3
    exact ⟨k1, k2⟩
  obtain ⟨b, off, e2, d0, d1, d2⟩ := wtr_at (H1.up2.read Reader.slc) 0 (by simp)
  subst e2
  dsimp only [List.getElem_cons_zero] at d0 d1 d2
  rw [Nat.zero_mul, Nat.add_zero] at d0 d1 d2
  have hbl1 := World.block_lt_of_cell? w _ d0
  dsimp only at hbl1
  obtain ⟨r0, r1, r2, r3, r4, r5, r6, rf⟩ := box7 H1.at0
  have rl := lt_of_block H1.at0
  have H2 := (H1.alloc (.cells #[.bool false, .bool false, .bool false, .int .i64 0, .int .i64 0, .int .i64 0, .int .i64 0] 93)).alloc (.cells #[.bool true, .bool true, .bool true, .int .i64 a, .int .i64 rg, .int .i64 rc, .int .i64 rm] 93)
  rw [size_alloc] at H2
  have H0 := SL.slcNil 3 1 H2
  have hcut := (H0.up4.read Reader.slc).cut (k := 1) (d := 1) rfl (by simp) hcap1.1
  have hmax := hcap1.2
  unfold maxLen at hmax
  have q1 : (1 : Int) ≤ ((L.length + 1 : Nat) : Int) := by omega
  have q2 : ((L.length + 1 : Nat) : Int) ≤ (c1 : Int) := by omega
  have q3 : (1 : Int) ≤ (c1 : Int) := by omega
  have q4 : (((L.length + 1 : Nat) : Int) - 1).toNat = L.length := by omega
  rw [show (ints (a :: L)).drop 1 = ints L from rfl, Nat.add_sub_cancel] at hcut
  dsimp only [Option.map] at hcut
  have HH2 := Lib.hid H2
  clear H2
  go_enter Try.func44, Try.ntmps44
  go_wp2_with (first | (at_builtin; (refine sl_append rfl _ _ 42 _ 8 rfl Try.underlying42 infoInt rfl (by decide) (.slice none 0 0) 0 [] rfl _ _ _ _ rfl hcut (ints_one L) H0 (by omega) (by decide) ?_); intro v1 w1 K1 hs1; rw [Nat.zero_add, List.nil_append] at K1; obtain ⟨gb, hgb⟩ : ∃ b, w.heap.size + 1 = b := ⟨_, rfl⟩; obtain ⟨r, hrr⟩ : ∃ b, w.heap.size = b := ⟨_, rfl⟩; simp only [hgb] at K1 ⊢; simp only [hrr] at K1 ⊢; clear hgb hrr H0 hcut r0 r1 r2 r3 r4 r5 r6 rf rl; obtain ⟨va, vc, hv, _⟩ := K1.slc; subst hv; obtain ⟨g0, g1, g2, g3, g4, g5, g6, gf⟩ := box7 K1.at1; have gl := lt_of_block (K1.at 1 rfl); obtain ⟨q0, q1, q2, q3, q4, q5, q6, qf⟩ := box7 K1.at2; have ql := lt_of_block (K1.at 2 rfl); obtain ⟨r0, r1, r2, r3, r4, r5, r6, rf⟩ := box7 K1.at3; have rl := lt_of_block (K1.at 3 rfl); obtain ⟨ngq, nqg⟩ := K1.ne 1 2 (by decide) rfl rfl; obtain ⟨ngr, nrg⟩ := K1.ne 1 3 (by decide) rfl rfl; obtain ⟨nqr, nrq⟩ := K1.ne 2 3 (by decide) rfl rfl) | (at_builtin; go_must (refine sl_app rfl _ _ 42 _ 8 rfl Try.underlying42 infoInt rfl (by decide) (.slice va _ vc) _ _ [.int .i64 rm] rfl rfl (by simp) rfl rfl K1 (by omega) (by decide) ?_); intro g c w2 K2 hs2; obtain ⟨g0, g1, g2, g3, g4, g5, g6, gf⟩ := box7 K2.at1; have gl := lt_of_block (K2.at 1 rfl); obtain ⟨q0, q1, q2, q3, q4, q5, q6, qf⟩ := box7 K2.at2; have ql := lt_of_block (K2.at 2 rfl); obtain ⟨r0, r1, r2, r3, r4, r5, r6, rf⟩ := box7 K2.at3; have rl := lt_of_block (K2.at 3 rfl); obtain ⟨ngq, nqg⟩ := K2.ne 1 2 (by decide) rfl rfl; obtain ⟨ngr, nrg⟩ := K2.ne 1 3 (by decide) rfl rfl; obtain ⟨nqr, nrq⟩ := K2.ne 2 3 (by decide) rfl rfl))
  all_goals
    have K3 := (K2.up3.set 1 (.slice (some ⟨g, 0, none⟩) (L.length + 1) c)).set 6 (.int .i64 (x.received + 1))
    dsimp [Array.setIfInBounds] at K3
    refine (r_behind (m := ⟨rg, rc, rm⟩) (L := l) (by simp) (K3.up5.read Reader.slc) (by simpa using hcap2.1) hcap2.2 (by omega) K3).mono ?_
    rintro e w3 ⟨v', rfl, K4⟩
    obtain ⟨va', vc', hv', _⟩ := K4.slc
    subst hv'
    obtain ⟨r0, r1, r2, r3, r4, r5, r6, rf⟩ := box7 K4.at1
    have rl := lt_of_block (K4.at 1 rfl)
    obtain ⟨g0, g1, g2, g3, g4, g5, g6, gf⟩ := box7 K4.at3
    have gl := lt_of_block (K4.at 3 rfl)
    obtain ⟨q0, q1, q2, q3, q4, q5, q6, qf⟩ := box7 (K4.at 4 rfl)
    have ql := lt_of_block (K4.at 4 rfl)
    obtain ⟨nrg, ngr⟩ := K4.ne 1 3 (by decide) rfl rfl
    obtain ⟨nrq, nqr⟩ := K4.ne 1 4 (by decide) rfl rfl
    obtain ⟨ngq, nqg⟩ := K4.ne 3 4 (by decide) rfl rfl
    go_wp2_with fail
    have K5 := (K4.up1.set 2 (.slice va' l.length vc')).set 5 (.int .i64 (x.sent + 1))
    dsimp [Array.setIfInBounds] at K5
    have Kp := K5.pick [0, 2, 1, 7, 4] 8 (by decide)
    simp only [pk, nth, List.map_cons, List.map_nil, List.drop_succ_cons, List.drop_zero, List.cons_append, List.nil_append] at Kp
    refine bodyPost_ret (v := .agg #[.bool true, .bool true, .bool true, .int .i64 a, .int .i64 rg, .int .i64 rc, .int .i64 rm]) (by simp [results, Try.results44, go_sem, *]) rfl ⟨rfl, ?_⟩
    have K6 := (ref_shut' (x := { x with buf := L ++ [rm], senders := l, sent := x.sent + 1, received := x.received + 1 }) Kp (by simp) (ints_append L [rm]).symm rfl rfl rfl rfl).up1.toAny
    refine SL.tl (A := any r) ?_
    repeat (first | with_reducible refine SL.scr ?_ _ _ | with_reducible refine SL.allocd ?_ _ | with_reducible exact K6)

set_option maxRecDepth 100000 in
set_option maxHeartbeats 400000 in
theorem r_recv_buf {a : Int} {L : List Int} (hb : x.buf = a :: L) (hs : x.senders = []) (hbl : L.length ≤ 4) (hn : Cnt x) (H : SL w (RefP h x :: F)) :
    Calls Try.prog 44 #[.pointer (some ⟨h, 0, none⟩)] w fun e w' => e = .returned (⟨true, true, false, a, wzero⟩ : GotM).agg ∧ SL w' (RefP h { x with buf := L, received := x.received + 1 } :: F) := by
  obtain ⟨b1, b2, b3, b4⟩ := hn
  unfold GotM.agg
  try unfold gzero
  try unfold wzero
  dsimp only
  obtain ⟨a1, c1, a2, c2, a3, c3, H1⟩ := ref_open H
  rw [hb, hs] at H1
  simp only [List.length_cons, List.length_nil] at H1
  have HB := Lib.hid hb
  have HS := Lib.hid hs
  clear hb hs
  have hcap1 : L.length + 1 ≤ c1 ∧ c1 ≤ maxLen := by
    obtain ⟨a, c, e, k1, k2, _⟩ := H1.up1.slc
    injection e with e1 e2 e3
    subst e3
    exact ⟨k1, k2⟩
  obtain ⟨bb, boff, e1, kk⟩ := Rd.int_at (xs := a :: L) (H1.up1.read Reader.slc) (by simp)
  subst e1
  have k0 := kk 0 (by simp)
  clear kk
  rw [Nat.add_zero, List.getD_cons_zero] at k0
  have hbl2 := World.block_lt_of_cell? w _ k0
  dsimp only at hbl2
  obtain ⟨r0, r1, r2, r3, r4, r5, r6, rf⟩ := box7 H1.at0
  have rl := lt_of_block H1.at0
  have H2 := (H1.alloc (.cells #[.bool false, .bool false, .bool false, .int .i64 0, .int .i64 0, .int .i64 0, .int .i64 0] 93)).alloc (.cells #[.bool true, .bool true, .bool false, .int .i64 a, .int .i64 0, .int .i64 0, .int .i64 0] 93)
  rw [size_alloc] at H2
  have H0 := SL.slcNil 3 1 H2
  have hcut := (H0.up4.read Reader.slc).cut (k := 1) (d := 1) rfl (by simp) hcap1.1
  have hmax := hcap1.2
  unfold maxLen at hmax
  have q1 : (1 : Int) ≤ ((L.length + 1 : Nat) : Int) := by omega
  have q2 : ((L.length + 1 : Nat) : Int) ≤ (c1 : Int) := by omega
  have q3 : (1 : Int) ≤ (c1 : Int) := by omega
  have q4 : (((L.length + 1 : Nat) : Int) - 1).toNat = L.length := by omega
  rw [show (ints (a :: L)).drop 1 = ints L from rfl, Nat.add_sub_cancel] at hcut
  dsimp only [Option.map] at hcut
  have HH2 := Lib.hid H2
  clear H2
  go_enter Try.func44, Try.ntmps44
  go_wp2_with (at_builtin; (refine sl_append rfl _ _ 42 _ 8 rfl Try.underlying42 infoInt rfl (by decide) (.slice none 0 0) 0 [] rfl _ _ _ _ rfl hcut (ints_one L) H0 (by omega) (by decide) ?_); intro v1 w1 K1 hs1; rw [Nat.zero_add, List.nil_append] at K1; obtain ⟨gb, hgb⟩ : ∃ b, w.heap.size + 1 = b := ⟨_, rfl⟩; obtain ⟨r, hrr⟩ : ∃ b, w.heap.size = b := ⟨_, rfl⟩; simp only [hgb] at K1 ⊢; simp only [hrr] at K1 ⊢; clear hgb hrr H0 hcut r0 r1 r2 r3 r4 r5 r6 rf rl; obtain ⟨va, vc, hv, _⟩ := K1.slc; subst hv; obtain ⟨g0, g1, g2, g3, g4, g5, g6, gf⟩ := box7 K1.at1; have gl := lt_of_block (K1.at 1 rfl); obtain ⟨q0, q1, q2, q3, q4, q5, q6, qf⟩ := box7 K1.at2; have ql := lt_of_block (K1.at 2 rfl); obtain ⟨r0, r1, r2, r3, r4, r5, r6, rf⟩ := box7 K1.at3; have rl := lt_of_block (K1.at 3 rfl); obtain ⟨ngq, nqg⟩ := K1.ne 1 2 (by decide) rfl rfl; obtain ⟨ngr, nrg⟩ := K1.ne 1 3 (by decide) rfl rfl; obtain ⟨nqr, nrq⟩ := K1.ne 2 3 (by decide) rfl rfl)
  all_goals
    have K3 := (K1.up3.set 1 (.slice va L.length vc)).set 6 (.int .i64 (x.received + 1))
    dsimp [Array.setIfInBounds] at K3
    have Kp := K3.pick [0, 1, 5, 6, 3] 7 (by decide)
    simp only [pk, nth, List.map_cons, List.map_nil, List.drop_succ_cons, List.drop_zero, List.cons_append, List.nil_append] at Kp
    refine bodyPost_ret (v := .agg #[.bool true, .bool true, .bool false, .int .i64 a, .int .i64 0, .int .i64 0, .int .i64 0]) (by simp [results, Try.results44, go_sem, *]) rfl ⟨rfl, ?_⟩
    have K6 := (ref_shut' (x := { x with buf := L, received := x.received + 1 }) Kp rfl rfl (by rw [HS.out]; rfl) (by rw [HS.out]) rfl rfl).up1.toAny
    refine SL.tl (A := any r) ?_
    repeat (first | with_reducible refine SL.scr ?_ _ _ | with_reducible refine SL.allocd ?_ _ | with_reducible exact K6)

set_option maxRecDepth 100000 in
set_option maxHeartbeats 400000 in
theorem r_recv_send {m : Wtr} {l : List Wtr} (hb : x.buf = []) (hs : x.senders = m :: l) (hl : l.length ≤ 100000) (hn : Cnt x) (H : SL w (RefP h x :: F)) :
    Calls Try.prog 44 #[.pointer (some ⟨h, 0, none⟩)] w fun e w' => e = .returned (⟨true, true, true, m.value, m⟩ : GotM).agg ∧ SL w' (RefP h { x with senders := l, sent := x.sent + 1, received := x.received + 1 } :: F) := by
  obtain ⟨b1, b2, b3, b4⟩ := hn
  obtain ⟨rg, rc, rm⟩ := m
  unfold GotM.agg
  try unfold gzero
  try unfold wzero
  dsimp only
  obtain ⟨a1, c1, a2, c2, a3, c3, H1⟩ := ref_open H
  rw [hb, hs] at H1
  simp only [List.length_cons, List.length_nil] at H1
  have HB := Lib.hid hb
  have HS := Lib.hid hs
  clear hb hs
  have hcap2 : l.length + 1 ≤ c2 ∧ c2 ≤ maxLen := by
    obtain ⟨a, c, e, k1, k2, _⟩ := H1.up2.slc
    injection e with e1 e2 e3
    subst e3
    exact ⟨k1, k2⟩
  obtain ⟨b, off, e2, d0, d1, d2⟩ := wtr_at (H1.up2.read Reader.slc) 0 (by simp)
  subst e2
  dsimp only [List.getElem_cons_zero] at d0 d1 d2
  rw [Nat.zero_mul, Nat.add_zero] at d0 d1 d2
  have hbl1 := World.block_lt_of_cell? w _ d0
  dsimp only at hbl1
  obtain ⟨r0, r1, r2, r3, r4, r5, r6, rf⟩ := box7 H1.at0
  have rl := lt_of_block H1.at0
  have H1' := H1.set 6 (.int .i64 (x.received + 1))
  dsimp [Array.setIfInBounds] at H1'
  have H2 := (H1'.alloc (.cells #[.bool false, .bool false, .bool false, .int .i64 0, .int .i64 0, .int .i64 0, .int .i64 0] 93)).alloc (.cells #[.bool true, .bool true, .bool true, .int .i64 rm, .int .i64 rg, .int .i64 rc, .int .i64 rm] 93)
  rw [size_alloc, show (w.setCell ⟨h, 6, none⟩ (.int .i64 (x.received + 1))).heap.size = w.heap.size by simp [World.setCell]] at H2
  go_enter Try.func44, Try.ntmps44
  go_wp2_with fail
  obtain ⟨gb, hgb⟩ : ∃ b, w.heap.size + 1 = b := ⟨_, rfl⟩
  obtain ⟨r, hrr⟩ : ∃ b, w.heap.size = b := ⟨_, rfl⟩
  simp only [hgb] at H2 ⊢
  simp only [hrr] at H2 ⊢
  clear hgb hrr r0 r1 r2 r3 r4 r5 r6 rf rl
  have K3 := H2.up2
  refine (r_behind (m := ⟨rg, rc, rm⟩) (L := l) (by simp) (K3.up4.read Reader.slc) (by simpa using hcap2.1) hcap2.2 (by omega) K3).mono ?_
  rintro e w3 ⟨v', rfl, K4⟩
  obtain ⟨va', vc', hv', _⟩ := K4.slc
  subst hv'
  obtain ⟨r0, r1, r2, r3, r4, r5, r6, rf⟩ := box7 K4.at1
  have rl := lt_of_block (K4.at 1 rfl)
  obtain ⟨g0, g1, g2, g3, g4, g5, g6, gf⟩ := box7 K4.at2
  have gl := lt_of_block (K4.at 2 rfl)
  obtain ⟨q0, q1, q2, q3, q4, q5, q6, qf⟩ := box7 K4.at3
  have ql := lt_of_block (K4.at 3 rfl)
  obtain ⟨nrg, ngr⟩ := K4.ne 1 2 (by decide) rfl rfl
  obtain ⟨nrq, nqr⟩ := K4.ne 1 3 (by decide) rfl rfl
  obtain ⟨ngq, nqg⟩ := K4.ne 2 3 (by decide) rfl rfl
  go_wp2_with fail
  have K5 := (K4.up1.set 2 (.slice va' l.length vc')).set 5 (.int .i64 (x.sent + 1))
  dsimp [Array.setIfInBounds] at K5
  have Kp := K5.pick [0, 4, 1, 6, 3] 7 (by decide)
  simp only [pk, nth, List.map_cons, List.map_nil, List.drop_succ_cons, List.drop_zero, List.cons_append, List.nil_append] at Kp
  refine bodyPost_ret (v := .agg #[.bool true, .bool true, .bool true, .int .i64 rm, .int .i64 rg, .int .i64 rc, .int .i64 rm]) (by simp [results, Try.results44, go_sem, *]) rfl ⟨rfl, ?_⟩
  have K6 := (ref_shut' (x := { x with senders := l, sent := x.sent + 1, received := x.received + 1 }) Kp (by rw [HB.out]; rfl) (by rw [HB.out]) rfl rfl rfl rfl).up1.toAny
  refine SL.tl (A := any r) ?_
  repeat (first | with_reducible refine SL.scr ?_ _ _ | with_reducible refine SL.allocd ?_ _ | with_reducible exact K6)

set_option maxRecDepth 100000 in
set_option maxHeartbeats 400000 in
theorem r_recv_closed (hb : x.buf = []) (hs : x.senders = []) (hc : x.closed = true) (hn : Cnt x) (H : SL w (RefP h x :: F)) :
    Calls Try.prog 44 #[.pointer (some ⟨h, 0, none⟩)] w fun e w' => e = .returned ({ gzero with ready := true } : GotM).agg ∧ SL w' (RefP h x :: F) := by
  obtain ⟨b1, b2, b3, b4⟩ := hn
  unfold GotM.agg
  try unfold gzero
  try unfold wzero
  dsimp only
  obtain ⟨a1, c1, a2, c2, a3, c3, H1⟩ := ref_open H
  rw [hb, hs] at H1
  simp only [List.length_cons, List.length_nil] at H1
  have HB := Lib.hid hb
  have HS := Lib.hid hs
  clear hb hs
  rw [hc] at H1
  have HC := Lib.hid hc
  clear hc
  obtain ⟨r0, r1, r2, r3, r4, r5, r6, rf⟩ := box7 H1.at0
  have rl := lt_of_block H1.at0
  have H2 := (H1.alloc (.cells #[.bool false, .bool false, .bool false, .int .i64 0, .int .i64 0, .int .i64 0, .int .i64 0] 93)).alloc (.cells #[.bool true, .bool true, .bool false, .int .i64 0, .int .i64 0, .int .i64 0, .int .i64 0] 93)
  rw [size_alloc] at H2
  go_enter Try.func44, Try.ntmps44
  go_wp2_with fail
  refine bodyPost_ret (v := .agg #[.bool true, .bool false, .bool false, .int .i64 0, .int .i64 0, .int .i64 0, .int .i64 0]) (by simp [results, Try.results44, go_sem]) rfl ⟨rfl, (H.allocd _).allocd _⟩

set_option maxRecDepth 100000 in
set_option maxHeartbeats 400000 in
theorem r_recv_closed_no (hb : x.buf = []) (hs : x.senders = []) (hc : x.closed = false) (hn : Cnt x) (H : SL w (RefP h x :: F)) :
    Calls Try.prog 44 #[.pointer (some ⟨h, 0, none⟩)] w fun e w' => e = .returned (gzero : GotM).agg ∧ SL w' (RefP h x :: F) := by
  obtain ⟨b1, b2, b3, b4⟩ := hn
  unfold GotM.agg
  try unfold gzero
  try unfold wzero
  dsimp only
  obtain ⟨a1, c1, a2, c2, a3, c3, H1⟩ := ref_open H
  rw [hb, hs] at H1
  simp only [List.length_cons, List.length_nil] at H1
  have HB := Lib.hid hb
  have HS := Lib.hid hs
  clear hb hs
  rw [hc] at H1
  have HC := Lib.hid hc
  clear hc
  obtain ⟨r0, r1, r2, r3, r4, r5, r6, rf⟩ := box7 H1.at0
  have rl := lt_of_block H1.at0
  have H2 := (H1.alloc (.cells #[.bool false, .bool false, .bool false, .int .i64 0, .int .i64 0, .int .i64 0, .int .i64 0] 93)).alloc (.cells #[.bool true, .bool true, .bool false, .int .i64 0, .int .i64 0, .int .i64 0, .int .i64 0] 93)
  rw [size_alloc] at H2
  go_enter Try.func44, Try.ntmps44
  go_wp2_with fail
  refine bodyPost_ret (v := .agg #[.bool false, .bool false, .bool false, .int .i64 0, .int .i64 0, .int .i64 0, .int .i64 0]) (by simp [results, Try.results44, go_sem]) rfl ⟨rfl, (H.allocd _).allocd _⟩

end

end Go.Proofs.Ytlccpbdpfamekaa

