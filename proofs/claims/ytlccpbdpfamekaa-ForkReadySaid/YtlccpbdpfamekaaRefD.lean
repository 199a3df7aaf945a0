/- The reference of layer 9: Send, Recv. -/
import Derived.Test.YtlccpbdpfamekaaRefC
namespace Go.Proofs.Ytlccpbdpfamekaa
set_option linter.unusedVariables false
set_option linter.unusedSimpArgs false
open Go.RowKit

section
variable {w : World} {F : List Piece} {h : Nat} {x : PipeM}

set_option maxRecDepth 100000 in
set_option maxHeartbeats 400000 in
theorem r_send (v : Int) (hl : x.receivers.length ≤ 100000) (hb : x.buf.length ≤ 4) (hn : Cnt x) (H : SL w (RefP h x :: F)) :
    Calls Try.prog 42 #[.pointer (some ⟨h, 0, none⟩), .int .i64 v] w fun e w' => e = .returned (.tuple #[(sendF x v).1.1.agg, .int .i64 (sendF x v).1.2]) ∧ SL w' (RefP h (sendF x v).2 :: F) := by
  obtain ⟨R, hR⟩ : ∃ R, sendF x v = R := ⟨_, rfl⟩
  rw [hR]
  obtain ⟨⟨⟨ry, ro, rw_, rv, ⟨rg, rc, rm⟩⟩, re⟩, ry2⟩ := R
  unfold GotM.agg
  dsimp only
  unfold sendF at hR
  obtain ⟨b1, b2, b3, b4⟩ := hn
  obtain ⟨a1, c1, a2, c2, a3, c3, H1⟩ := ref_open H
  obtain ⟨r0, r1, r2, r3, r4, r5, r6, rf⟩ := box7 H1.at0
  have rl := lt_of_block H1.at0
  by_cases hc : x.closed = true
  · rw [if_pos hc] at hR
    rw [hc] at r4
    have HC := Lib.hid hc
    simp only [Prod.mk.injEq, gzero, wzero, GotM.mk.injEq, Wtr.mk.injEq] at hR
    obtain ⟨⟨⟨rfl, rfl, rfl, rfl, rfl, rfl, rfl⟩, rfl⟩, rfl⟩ := hR
    clear hc
    go_enter Try.func42, Try.ntmps42
    go_wp2_with fail
    refine bodyPost_ret (v := .tuple #[.agg #[.bool false, .bool false, .bool false, .int .i64 0, .int .i64 0, .int .i64 0, .int .i64 0], .int .i64 90]) (by simp [results, Try.results42, go_sem]) rfl ⟨rfl, H.allocd _⟩
  · rw [if_neg hc] at hR
    have hc' : x.closed = false := by simpa using hc
    rw [hc'] at r4
    have HC := Lib.hid hc'
    clear hc hc'
    rcases hr : x.receivers with _ | ⟨m, l⟩
    · rw [hr] at hR
      dsimp only at hR
      rw [hr] at r3
      dsimp only [List.length_nil] at r3
      by_cases hz : x.buf.length < x.size
      · rw [if_pos hz] at hR
        simp only [Prod.mk.injEq, gzero, wzero, GotM.mk.injEq, Wtr.mk.injEq] at hR
        obtain ⟨⟨⟨rfl, rfl, rfl, rfl, rfl, rfl, rfl⟩, rfl⟩, hy⟩ := hR
        have HY := Lib.hid hy
        have HRR := Lib.hid hr
        obtain ⟨n1, hn1⟩ : ∃ n, x.buf.length = n := ⟨_, rfl⟩
        rw [hn1] at hz
        rw [hn1] at r1 H1 hb
        have hd : decide ((n1 : Int) < (x.size : Int)) = true := by simpa using hz
        have hd' : decide (n1 < x.size) = true := by simpa using hz
        have HN := Lib.hid hn1
        clear hy hr hn1
        go_enter Try.func42, Try.ntmps42
        go_wp2_with fail
        have H2 := H1.alloc (.cells #[.bool false, .bool false, .bool false, .int .i64 0, .int .i64 0, .int .i64 0, .int .i64 0] 93)
        obtain ⟨r, hrr⟩ : ∃ r, w.heap.size = r := ⟨_, rfl⟩
        obtain ⟨w0, hw0⟩ : ∃ w0, w.alloc (.cells #[.bool false, .bool false, .bool false, .int .i64 0, .int .i64 0, .int .i64 0, .int .i64 0] 93) = w0 := ⟨_, rfl⟩
        rw [hw0, hrr] at H2
        rw [hw0, hrr]
        clear hw0 hrr r0 r1 r2 r3 r4 r5 r6 rf rl
        obtain ⟨q0, q1, q2, q3, q4, q5, q6, qf⟩ := box7 H2.at0
        obtain ⟨r0, r1, r2, r3, r4, r5, r6, rf⟩ := box7 H2.at1
        have ql := lt_of_block H2.at0
        have rl := lt_of_block H2.at1
        obtain ⟨n_1, n_2⟩ := H2.ne 0 1 (by decide) rfl rfl
        go_quiet (fail)
        go_wp2_with (at_builtin; go_must (refine sl_app rfl _ _ 42 _ 8 rfl Try.underlying42 infoInt rfl (by decide) (.slice a1 n1 c1) _ _ [.int .i64 v] rfl rfl (by simp) rfl rfl (H2.up2.drewN _) (by omega) (by decide) ?_); intro g c w1 H3 hs1; obtain ⟨q0, q1, q2, q3, q4, q5, q6, qf⟩ := box7 H3.at1; obtain ⟨r0, r1, r2, r3, r4, r5, r6, rf⟩ := box7 H3.at2; have ql := lt_of_block H3.at1; have rl := lt_of_block H3.at2)
        refine bodyPost_ret (v := .tuple #[.agg #[.bool true, .bool false, .bool false, .int .i64 0, .int .i64 0, .int .i64 0, .int .i64 0], .int .i64 0]) (by simp [results, Try.results42, go_sem, q0, q1, q2, q3, q4, q5, q6, ql, n_1, n_2]) rfl ⟨rfl, ?_⟩
        rw [← HY.out]
        have H4 := ((H3.up2.set 1 (.slice (some ⟨g, 0, none⟩) (n1 + 1) c)).set 5 (.int .i64 (x.sent + 1))).up2.toAny
        dsimp [Array.setIfInBounds] at H4
        have H5 := (ref_shut' (x := { x with buf := x.buf ++ [v], receivers := [], sent := x.sent + 1 }) H4.dn4 (by simp [HN.out]) (ints_append x.buf [v]).symm rfl rfl (by rw [HRR.out]) (by rw [HRR.out])).up1
        refine SL.tl (A := any r) ?_
        repeat (first | with_reducible refine SL.scr ?_ _ _ | with_reducible refine SL.allocd ?_ _ | with_reducible exact H5)
      · rw [if_neg hz] at hR
        simp only [Prod.mk.injEq, gzero, wzero, GotM.mk.injEq, Wtr.mk.injEq] at hR
        obtain ⟨⟨⟨rfl, rfl, rfl, rfl, rfl, rfl, rfl⟩, rfl⟩, rfl⟩ := hR
        obtain ⟨n1, hn1⟩ : ∃ n, x.buf.length = n := ⟨_, rfl⟩
        rw [hn1] at hz
        rw [hn1] at r1 H1
        have hd : decide ((n1 : Int) < (x.size : Int)) = false := by simpa using hz
        have hd' : decide (n1 < x.size) = false := by simpa using hz
        have HN := Lib.hid hn1
        clear hr hn1
        go_enter Try.func42, Try.ntmps42
        go_wp2_with fail
        have H2 := H1.alloc (.cells #[.bool false, .bool false, .bool false, .int .i64 0, .int .i64 0, .int .i64 0, .int .i64 0] 93)
        obtain ⟨r, hrr⟩ : ∃ r, w.heap.size = r := ⟨_, rfl⟩
        obtain ⟨w0, hw0⟩ : ∃ w0, w.alloc (.cells #[.bool false, .bool false, .bool false, .int .i64 0, .int .i64 0, .int .i64 0, .int .i64 0] 93) = w0 := ⟨_, rfl⟩
        rw [hw0, hrr] at H2
        rw [hw0, hrr]
        clear hw0 hrr r0 r1 r2 r3 r4 r5 r6 rf rl
        obtain ⟨q0, q1, q2, q3, q4, q5, q6, qf⟩ := box7 H2.at0
        obtain ⟨r0, r1, r2, r3, r4, r5, r6, rf⟩ := box7 H2.at1
        have ql := lt_of_block H2.at0
        have rl := lt_of_block H2.at1
        obtain ⟨n_1, n_2⟩ := H2.ne 0 1 (by decide) rfl rfl
        go_quiet (fail)
        go_wp2_with fail
        refine bodyPost_ret (v := .tuple #[.agg #[.bool false, .bool false, .bool false, .int .i64 0, .int .i64 0, .int .i64 0, .int .i64 0], .int .i64 0]) (by simp [results, Try.results42, go_sem, q0, q1, q2, q3, q4, q5, q6, ql, n_1, n_2]) rfl ⟨rfl, ?_⟩
        have H5 := (ref_shut' (x := x) H2.toAny.dn4 HN.out.symm rfl rfl rfl rfl rfl).up1
        refine SL.tl (A := any r) ?_
        repeat (first | with_reducible refine SL.scr ?_ _ _ | with_reducible refine SL.drewN ?_ _ | with_reducible exact H5)
    · rw [hr] at hR
      dsimp only at hR
      simp only [Prod.mk.injEq, GotM.mk.injEq] at hR
      obtain ⟨⟨⟨rfl, rfl, rfl, rfl, hm⟩, rfl⟩, hy⟩ := hR
      subst hm
      have HY := Lib.hid hy
      clear r0 r1 r2 r3 r4 r5 r6 rf rl
      rw [hr] at H1 hl
      simp only [List.length_cons] at hl
      have hcap : (l.length + 1) ≤ c3 ∧ c3 ≤ maxLen := by
        obtain ⟨a, c, e, k1, k2, _⟩ := H1.up3.slc
        injection e with e1 e2 e3
        subst e3
        exact ⟨k1, k2⟩
      have HRR := Lib.hid hr
      clear hr hy
      obtain ⟨b, off, e3, d0, d1, d2⟩ := wtr_at (H1.up3.read Reader.slc) 0 (by simp)
      subst e3
      dsimp only [List.getElem_cons_zero] at d0 d1 d2
      rw [Nat.zero_mul, Nat.add_zero] at d0 d1 d2
      have H2 := H1.alloc (.cells #[.bool false, .bool false, .bool false, .int .i64 0, .int .i64 0, .int .i64 0, .int .i64 0] 93)
      have hbl := World.block_lt_of_cell? w _ d0
      dsimp only at hbl
      simp only [List.length_cons] at H1
      obtain ⟨r0, r1, r2, r3, r4, r5, r6, rf⟩ := box7 H1.at0
      rw [HC.out] at r4
      have rl := lt_of_block H1.at0
      go_enter Try.func42, Try.ntmps42
      go_wp2_with fail
      have H3 := H2.alloc (.cells #[.int .i64 rg, .int .i64 rc, .int .i64 rm] 91)
      rw [size_alloc] at H3
      obtain ⟨r, hrr⟩ : ∃ r, w.heap.size = r := ⟨_, rfl⟩
      obtain ⟨bx, hbx⟩ : ∃ b, r + 1 = b := ⟨_, rfl⟩
      rw [hrr, hbx] at H3
      rw [hrr, hbx]
      clear hrr hbx H2 H1 r0 r1 r2 r3 r4 r5 r6 rf rl
      refine (r_behind (m := ⟨rg, rc, rm⟩) (L := l) (by simp) (H3.up5.read Reader.slc) (by simpa using hcap.1) hcap.2 (by omega) H3).mono ?_
      rintro e w1 ⟨v', rfl, H4⟩
      obtain ⟨va, vc, hv, _⟩ := H4.slc
      subst hv
      obtain ⟨e0, e1, e2, ef⟩ := pew_cells (H4.at1)
      obtain ⟨q0, q1, q2, q3, q4, q5, q6, qf⟩ := box7 H4.at2
      obtain ⟨r0, r1, r2, r3, r4, r5, r6, rf⟩ := box7 H4.at3
      have el := lt_of_block H4.at1
      have ql := lt_of_block H4.at2
      have rl := lt_of_block H4.at3
      obtain ⟨m1, m2⟩ := H4.ne 1 2 (by decide) rfl rfl
      obtain ⟨m3, m4⟩ := H4.ne 1 3 (by decide) rfl rfl
      obtain ⟨m5, m6⟩ := H4.ne 2 3 (by decide) rfl rfl
      go_wp2_with fail
      refine bodyPost_ret (v := .tuple #[.agg #[.bool true, .bool false, .bool true, .int .i64 0, .int .i64 rg, .int .i64 rc, .int .i64 rm], .int .i64 0]) (by simp [results, Try.results42, go_sem, q0, q1, q2, q3, q4, q5, q6, ql, m1, m2, m3, m4, m5, m6]) rfl ⟨rfl, ?_⟩
      rw [← HY.out]
      have H5 := ((H4.up3.set 3 (.slice va l.length vc)).set 5 (.int .i64 (x.sent + 1))).set 6 (.int .i64 (x.received + 1))
      dsimp [Array.setIfInBounds] at H5
      have Hp := H5.pick [0, 4, 5, 1, 3] 7 (by decide)
      simp only [pk, nth, List.map_cons, List.map_nil, List.drop_succ_cons, List.drop_zero, List.cons_append, List.nil_append] at Hp
      have H6 := (ref_shut (x := { x with receivers := l, sent := x.sent + 1, received := x.received + 1 }) Hp).up1.toAny
      refine SL.tl (A := any r) ?_
      repeat (first | with_reducible refine SL.scr ?_ _ _ | with_reducible refine SL.allocd ?_ _ | with_reducible exact H6)
end

end Go.Proofs.Ytlccpbdpfamekaa
