/- The reference of layer 9: Recv whole, Wait, Close, Drop. -/
import Derived.Test.YtlccpbdpfamekaaRefE
import Derived.Deep.RegionLaw
namespace Go.Proofs.Ytlccpbdpfamekaa
set_option linter.unusedVariables false
set_option linter.unusedSimpArgs false
open Go.RowKit

def rwaitF (x : PipeM) (s : Bool) (m : Wtr) : Int × PipeM :=
  if x.closed || (if s then decide (x.buf.length < x.size) else decide (0 < x.buf.length)) || decide (0 < (without m.g (if s then x.receivers else x.senders)).length) then (7, x)
  else if m.g < 0 ∨ m.case_ < -1 then (1, x)
  else if s then (if 1024 ≤ x.senders.length then (5, x) else (0, { x with senders := x.senders ++ [m] }))
  else (if 1024 ≤ x.receivers.length then (5, x) else (0, { x with receivers := x.receivers ++ [m] }))

section
variable {w : World} {F : List Piece} {h : Nat} {x : PipeM}

theorem r_recv (hl : x.senders.length ≤ 100000) (hb : x.buf.length ≤ 4) (hn : Cnt x) (H : SL w (RefP h x :: F)) :
    Calls Try.prog 44 #[.pointer (some ⟨h, 0, none⟩)] w fun e w' => e = .returned (recvF x).1.agg ∧ SL w' (RefP h (recvF x).2 :: F) := by
  rcases hbb : x.buf with _ | ⟨a, L⟩
  · rcases hs : x.senders with _ | ⟨m, l⟩
    · by_cases hc : x.closed = true
      · rw [show recvF x = ({ gzero with ready := true }, x) by unfold recvF; rw [hbb, hs]; simp [hc]]
        exact r_recv_closed hbb hs hc hn H
      · rw [show recvF x = (gzero, x) by unfold recvF; rw [hbb, hs]; simp [hc]]
        exact r_recv_closed_no hbb hs (by simpa using hc) hn H
    · rw [show recvF x = (⟨true, true, true, m.value, m⟩, { x with senders := l, sent := x.sent + 1, received := x.received + 1 }) by unfold recvF; rw [hbb, hs]]
      exact r_recv_send hbb hs (by rw [hs] at hl; simp at hl; omega) hn H
  · rcases hs : x.senders with _ | ⟨m, l⟩
    · rw [show recvF x = (⟨true, true, false, a, wzero⟩, { x with buf := L, received := x.received + 1 }) by unfold recvF; rw [hbb, hs]]
      exact r_recv_buf hbb hs (by rw [hbb] at hb; simp at hb; omega) hn H
    · rw [show recvF x = (⟨true, true, true, a, m⟩, { x with buf := L ++ [m.value], senders := l, sent := x.sent + 1, received := x.received + 1 }) by unfold recvF; rw [hbb, hs]]
      exact r_recv_both hbb hs (by rw [hs] at hl; simp at hl; omega) (by rw [hbb] at hb; simp at hb; omega) hn H

set_option maxRecDepth 100000 in
set_option maxHeartbeats 1000000 in
theorem r_wait_true (m : Wtr) (hs : x.senders.length ≤ 1024) (hr : x.receivers.length ≤ 1024) (H : SL w (RefP h x :: F)) :
    Calls Try.prog 45 #[.pointer (some ⟨h, 0, none⟩), .bool true, m.agg] w fun e w' => e = .returned (.int .i64 (rwaitF x true m).1) ∧ SL w' (RefP h (rwaitF x true m).2 :: F) := by
  obtain ⟨R, hR⟩ : ∃ R, rwaitF x true m = R := ⟨_, rfl⟩
  rw [hR]
  unfold rwaitF at hR
  simp only [if_true, Bool.false_eq_true, if_false] at hR
  obtain ⟨mg, mc, mv⟩ := m
  unfold Wtr.agg
  dsimp only at hR ⊢
  obtain ⟨n1, hn1⟩ : ∃ n, x.buf.length = n := ⟨_, rfl⟩
  rw [hn1] at hR
  obtain ⟨cl, hcl⟩ : ∃ c, x.closed = c := ⟨_, rfl⟩
  rw [hcl] at hR
  have HR := Lib.hid hR
  clear hR
  obtain ⟨a1, c1, a2, c2, a3, c3, H1⟩ := ref_open H
  rw [hn1] at H1
  have H1c := H1
  rw [hcl] at H1c
  have HN := Lib.hid hn1
  have HC := Lib.hid hcl
  clear hn1 hcl
  have H2 := H1c.alloc (.cells #[.int .i64 mg, .int .i64 mc, .int .i64 mv] 91)
  obtain ⟨r0, r1, r2, r3, r4, r5, r6, rf⟩ := box7 H1c.at0
  have rl := lt_of_block H1c.at0
  have shut : ∀ w', SL w' (row h #[.int .i64 x.size, .slice a1 n1 c1, .slice a2 x.senders.length c2, .slice a3 x.receivers.length c3, .bool cl, .int .i64 x.sent, .int .i64 x.received] 45 :: Slc 3 1 (.slice a1 n1 c1) n1 (ints x.buf) :: Slc 91 3 (.slice a2 x.senders.length c2) x.senders.length (x.senders.flatMap Wtr.cells) :: Slc 91 3 (.slice a3 x.receivers.length c3) x.receivers.length (x.receivers.flatMap Wtr.cells) :: F) → SL w' (RefP h x :: F) := fun w' K => by
    rw [← HC.out, ← HN.out] at K
    exact ref_shut K
  have hb64 : n1 ≤ maxLen := by
    obtain ⟨a, c, e, k1, k2, _⟩ := H1.up1.slc
    exact Nat.le_trans k1 k2
  unfold maxLen at hb64
  cases cl with
  | true =>
    go_enter Try.func45, Try.ntmps45
    go_wp2_with fail
    go_quiet (fail)
    go_wp2_with fail
    go_ret
    have hR := HR.out
    rw [if_pos (by simp)] at hR
    subst hR
    exact ⟨rfl, (by repeat (first | with_reducible refine SL.drewN ?_ _ | with_reducible refine SL.drew ?_ | with_reducible refine SL.allocd ?_ _ | with_reducible exact H))⟩
  | false =>
    by_cases hroom : n1 < x.size
    · have k1 : decide ((n1 : Int) < (x.size : Int)) = true := by simpa using hroom
      have k2 : decide (n1 < x.size) = true := by simpa using hroom
      go_enter Try.func45, Try.ntmps45
      go_wp2_with fail
      go_quiet (fail)
      go_wp2_with fail
      go_ret
      have hR := HR.out
      rw [if_pos (by simp [hroom])] at hR
      subst hR
      exact ⟨rfl, (by repeat (first | with_reducible refine SL.drewN ?_ _ | with_reducible refine SL.drew ?_ | with_reducible refine SL.allocd ?_ _ | with_reducible exact H))⟩
    · have k1 : decide ((n1 : Int) < (x.size : Int)) = false := by simpa using hroom
      have k2 : decide (n1 < x.size) = false := by simpa using hroom
      have HRM := Lib.hid hroom
      clear hroom
      go_enter Try.func45, Try.ntmps45
      go_wp2_with fail
      obtain ⟨bx, hbx⟩ : ∃ b, w.heap.size = b := ⟨_, rfl⟩
      obtain ⟨w0, hw0⟩ : ∃ w0, w.alloc (.cells #[.int .i64 mg, .int .i64 mc, .int .i64 mv] 91) = w0 := ⟨_, rfl⟩
      rw [hw0, hbx] at H2
      simp only [hw0, hbx]
      clear hw0 hbx r0 r1 r2 r3 r4 r5 r6 rf rl
      obtain ⟨e0, e1, e2, ef⟩ := pew_cells H2.at0
      obtain ⟨r0, r1, r2, r3, r4, r5, r6, rf⟩ := box7 H2.at1
      have el := lt_of_block H2.at0
      have rl := lt_of_block H2.at1
      go_quiet (fail)
      go_wp2_with fail
      refine (r_without (L := x.receivers) mg rfl Reader.slc (by omega) (H2.drewN _).up4).mono ?_
      rintro e w1 ⟨v, rfl, H3⟩
      obtain ⟨va, vc, hv, hvc, hvm, _⟩ := H3.slc
      subst hv
      unfold maxLen at hvm
      have H4 := H3.tl.dn4
      obtain ⟨nw, hnw⟩ : ∃ n, (without mg x.receivers).length = n := ⟨_, rfl⟩
      rw [hnw] at hvc ⊢
      have HNW := Lib.hid hnw
      clear hnw H3 H2 e0 e1 e2 ef r0 r1 r2 r3 r4 r5 r6 rf el rl
      obtain ⟨e0, e1, e2, ef⟩ := pew_cells H4.at0
      obtain ⟨r0, r1, r2, r3, r4, r5, r6, rf⟩ := box7 H4.at1
      have el := lt_of_block H4.at0
      have rl := lt_of_block H4.at1
      obtain ⟨m1, m2⟩ := H4.ne 0 1 (by decide) rfl rfl
      by_cases hw : 0 < nw
      · have k3 : decide (0 < (nw : Int)) = true := by simpa using hw
        have k4 : decide (0 < nw) = true := by simpa using hw
        go_wp2_with fail
        go_ret
        have hR := HR.out
        rw [if_pos (by rw [HNW.out]; simp [hw])] at hR
        subst hR
        exact ⟨rfl, shut _ H4.tl⟩
      · have k3 : decide (0 < (nw : Int)) = false := by simpa using hw
        have k4 : decide (0 < nw) = false := by simpa using hw
        have hR := HR.out
        rw [if_neg (by rw [HNW.out]; simp [hw]; have := HRM.out; omega)] at hR
        by_cases h1 : mg < 0
        · rw [if_pos (.inl h1)] at hR
          subst hR
          go_wp2_with fail
          go_ret
          exact ⟨rfl, shut _ H4.tl⟩
        · by_cases h2 : mc < -1
          · rw [if_pos (.inr h2)] at hR
            subst hR
            go_wp2_with fail
            go_ret
            exact ⟨rfl, shut _ H4.tl⟩
          · rw [if_neg (by omega)] at hR
            by_cases h3 : 1024 ≤ x.senders.length
            · rw [if_pos h3] at hR
              subst hR
              have k5 : decide (1024 ≤ (x.senders.length : Int)) = true := by simp; omega
              have k6 : (1024 : Int) ≤ (x.senders.length : Int) := by omega
              go_wp2_with fail
              go_ret
              exact ⟨rfl, shut _ H4.tl⟩
            · rw [if_neg h3] at hR
              subst hR
              have k5 : ¬ (1024 : Int) ≤ (x.senders.length : Int) := by omega
              go_wp2_with fail
              go_region_law ((refine step_sl_append rfl _ _ 43 _ 24 (by rfl) Try.underlying43 infoW8 rfl (by decide) (.slice a2 x.senders.length c2) _ _ (by rfl) _ 1 1 [.int .i64 mg, .int .i64 mc, .int .i64 mv] (by rfl) (rd_new _ _ _ _ rfl) rfl ((H4.up3.drewN _).allocd _) (by omega) (by decide) ?_; intro v1 w2 H5 hs5; obtain ⟨va1, vc1, hv1, _⟩ := H5.slc; subst hv1; obtain ⟨e0', e1', e2', ef'⟩ := pew_cells H5.at1; obtain ⟨r0', r1', r2', r3', r4', r5', r6', rf'⟩ := box7 H5.at2))
              all_goals
                go_wp2_with fail
                go_ret
                have K := (H5.up2.set 2 (.slice va1 (x.senders.length + 1) vc1)).pick [0, 3, 1, 4] 5 (by decide)
                dsimp [Array.setIfInBounds] at K
                simp only [pk, nth, List.map_cons, List.map_nil, List.drop_succ_cons, List.drop_zero, List.cons_append, List.nil_append] at K
                exact ⟨rfl, ref_shut' (x := ⟨x.size, x.buf, x.senders ++ [⟨mg, mc, mv⟩], x.receivers, false, x.sent, x.received⟩) K HN.out.symm rfl (by simp) (by simp [List.flatMap_append, Wtr.cells]) rfl rfl⟩

set_option maxRecDepth 100000 in
set_option maxHeartbeats 1000000 in
theorem r_wait_false (m : Wtr) (hs : x.senders.length ≤ 1024) (hr : x.receivers.length ≤ 1024) (H : SL w (RefP h x :: F)) :
    Calls Try.prog 45 #[.pointer (some ⟨h, 0, none⟩), .bool false, m.agg] w fun e w' => e = .returned (.int .i64 (rwaitF x false m).1) ∧ SL w' (RefP h (rwaitF x false m).2 :: F) := by
  obtain ⟨R, hR⟩ : ∃ R, rwaitF x false m = R := ⟨_, rfl⟩
  rw [hR]
  unfold rwaitF at hR
  simp only [if_true, Bool.false_eq_true, if_false] at hR
  obtain ⟨mg, mc, mv⟩ := m
  unfold Wtr.agg
  dsimp only at hR ⊢
  obtain ⟨n1, hn1⟩ : ∃ n, x.buf.length = n := ⟨_, rfl⟩
  rw [hn1] at hR
  obtain ⟨cl, hcl⟩ : ∃ c, x.closed = c := ⟨_, rfl⟩
  rw [hcl] at hR
  have HR := Lib.hid hR
  clear hR
  obtain ⟨a1, c1, a2, c2, a3, c3, H1⟩ := ref_open H
  rw [hn1] at H1
  have H1c := H1
  rw [hcl] at H1c
  have HN := Lib.hid hn1
  have HC := Lib.hid hcl
  clear hn1 hcl
  have H2 := H1c.alloc (.cells #[.int .i64 mg, .int .i64 mc, .int .i64 mv] 91)
  obtain ⟨r0, r1, r2, r3, r4, r5, r6, rf⟩ := box7 H1c.at0
  have rl := lt_of_block H1c.at0
  have shut : ∀ w', SL w' (row h #[.int .i64 x.size, .slice a1 n1 c1, .slice a2 x.senders.length c2, .slice a3 x.receivers.length c3, .bool cl, .int .i64 x.sent, .int .i64 x.received] 45 :: Slc 3 1 (.slice a1 n1 c1) n1 (ints x.buf) :: Slc 91 3 (.slice a2 x.senders.length c2) x.senders.length (x.senders.flatMap Wtr.cells) :: Slc 91 3 (.slice a3 x.receivers.length c3) x.receivers.length (x.receivers.flatMap Wtr.cells) :: F) → SL w' (RefP h x :: F) := fun w' K => by
    rw [← HC.out, ← HN.out] at K
    exact ref_shut K
  have hb64 : n1 ≤ maxLen := by
    obtain ⟨a, c, e, k1, k2, _⟩ := H1.up1.slc
    exact Nat.le_trans k1 k2
  unfold maxLen at hb64
  cases cl with
  | true =>
    go_enter Try.func45, Try.ntmps45
    go_wp2_with fail
    go_ret
    have hR := HR.out
    rw [if_pos (by simp)] at hR
    subst hR
    exact ⟨rfl, (by repeat (first | with_reducible refine SL.drewN ?_ _ | with_reducible refine SL.drew ?_ | with_reducible refine SL.allocd ?_ _ | with_reducible exact H))⟩
  | false =>
    by_cases hroom : 0 < n1
    · have k1 : decide (0 < (n1 : Int)) = true := by simpa using hroom
      have k2 : decide (0 < n1) = true := by simpa using hroom
      go_enter Try.func45, Try.ntmps45
      go_wp2_with fail
      go_ret
      have hR := HR.out
      rw [if_pos (by simp [hroom])] at hR
      subst hR
      exact ⟨rfl, (by repeat (first | with_reducible refine SL.drewN ?_ _ | with_reducible refine SL.drew ?_ | with_reducible refine SL.allocd ?_ _ | with_reducible exact H))⟩
    · have k1 : decide (0 < (n1 : Int)) = false := by simpa using hroom
      have k2 : decide (0 < n1) = false := by simpa using hroom
      have HRM := Lib.hid hroom
      clear hroom
      go_enter Try.func45, Try.ntmps45
      go_wp2_with fail
      obtain ⟨bx, hbx⟩ : ∃ b, w.heap.size = b := ⟨_, rfl⟩
      obtain ⟨w0, hw0⟩ : ∃ w0, w.alloc (.cells #[.int .i64 mg, .int .i64 mc, .int .i64 mv] 91) = w0 := ⟨_, rfl⟩
      rw [hw0, hbx] at H2
      simp only [hw0, hbx]
      clear hw0 hbx r0 r1 r2 r3 r4 r5 r6 rf rl
      obtain ⟨e0, e1, e2, ef⟩ := pew_cells H2.at0
      obtain ⟨r0, r1, r2, r3, r4, r5, r6, rf⟩ := box7 H2.at1
      have el := lt_of_block H2.at0
      have rl := lt_of_block H2.at1
      refine (r_without (L := x.senders) mg rfl Reader.slc (by omega) (H2).up3).mono ?_
      rintro e w1 ⟨v, rfl, H3⟩
      obtain ⟨va, vc, hv, hvc, hvm, _⟩ := H3.slc
      subst hv
      unfold maxLen at hvm
      have H4 := H3.tl.dn3
      obtain ⟨nw, hnw⟩ : ∃ n, (without mg x.senders).length = n := ⟨_, rfl⟩
      rw [hnw] at hvc ⊢
      have HNW := Lib.hid hnw
      clear hnw H3 H2 e0 e1 e2 ef r0 r1 r2 r3 r4 r5 r6 rf el rl
      obtain ⟨e0, e1, e2, ef⟩ := pew_cells H4.at0
      obtain ⟨r0, r1, r2, r3, r4, r5, r6, rf⟩ := box7 H4.at1
      have el := lt_of_block H4.at0
      have rl := lt_of_block H4.at1
      obtain ⟨m1, m2⟩ := H4.ne 0 1 (by decide) rfl rfl
      by_cases hw : 0 < nw
      · have k3 : decide (0 < (nw : Int)) = true := by simpa using hw
        have k4 : decide (0 < nw) = true := by simpa using hw
        go_wp2_with fail
        go_ret
        have hR := HR.out
        rw [if_pos (by rw [HNW.out]; simp [hw])] at hR
        subst hR
        exact ⟨rfl, shut _ H4.tl⟩
      · have k3 : decide (0 < (nw : Int)) = false := by simpa using hw
        have k4 : decide (0 < nw) = false := by simpa using hw
        have hR := HR.out
        rw [if_neg (by rw [HNW.out]; simp [hw]; have := HRM.out; omega)] at hR
        by_cases h1 : mg < 0
        · rw [if_pos (.inl h1)] at hR
          subst hR
          go_wp2_with fail
          go_ret
          exact ⟨rfl, shut _ H4.tl⟩
        · by_cases h2 : mc < -1
          · rw [if_pos (.inr h2)] at hR
            subst hR
            go_wp2_with fail
            go_ret
            exact ⟨rfl, shut _ H4.tl⟩
          · rw [if_neg (by omega)] at hR
            by_cases h3 : 1024 ≤ x.receivers.length
            · rw [if_pos h3] at hR
              subst hR
              have k5 : decide (1024 ≤ (x.receivers.length : Int)) = true := by simp; omega
              have k6 : (1024 : Int) ≤ (x.receivers.length : Int) := by omega
              go_wp2_with fail
              go_ret
              exact ⟨rfl, shut _ H4.tl⟩
            · rw [if_neg h3] at hR
              subst hR
              have k5 : ¬ (1024 : Int) ≤ (x.receivers.length : Int) := by omega
              go_wp2_with fail
              go_region_law ((refine step_sl_append rfl _ _ 43 _ 24 (by rfl) Try.underlying43 infoW8 rfl (by decide) (.slice a3 x.receivers.length c3) _ _ (by rfl) _ 1 1 [.int .i64 mg, .int .i64 mc, .int .i64 mv] (by rfl) (rd_new _ _ _ _ rfl) rfl ((H4.up4.drewN _).allocd _) (by omega) (by decide) ?_; intro v1 w2 H5 hs5; obtain ⟨va1, vc1, hv1, _⟩ := H5.slc; subst hv1; obtain ⟨e0', e1', e2', ef'⟩ := pew_cells H5.at1; obtain ⟨r0', r1', r2', r3', r4', r5', r6', rf'⟩ := box7 H5.at2))
              all_goals
                go_wp2_with fail
                go_ret
                have K := (H5.up2.set 3 (.slice va1 (x.receivers.length + 1) vc1)).pick [0, 3, 4, 1] 5 (by decide)
                dsimp [Array.setIfInBounds] at K
                simp only [pk, nth, List.map_cons, List.map_nil, List.drop_succ_cons, List.drop_zero, List.cons_append, List.nil_append] at K
                exact ⟨rfl, ref_shut' (x := ⟨x.size, x.buf, x.senders, x.receivers ++ [⟨mg, mc, mv⟩], false, x.sent, x.received⟩) K HN.out.symm rfl rfl rfl (by simp) (by simp [List.flatMap_append, Wtr.cells])⟩

theorem r_wait (s : Bool) (m : Wtr) (hs : x.senders.length ≤ 1024) (hr : x.receivers.length ≤ 1024) (H : SL w (RefP h x :: F)) :
    Calls Try.prog 45 #[.pointer (some ⟨h, 0, none⟩), .bool s, m.agg] w fun e w' => e = .returned (.int .i64 (rwaitF x s m).1) ∧ SL w' (RefP h (rwaitF x s m).2 :: F) := by
  cases s
  · exact r_wait_false m hs hr H
  · exact r_wait_true m hs hr H

set_option maxRecDepth 100000 in
set_option maxHeartbeats 400000 in
theorem r_drop (i : Int) (hs : x.senders.length ≤ 1024) (hr : x.receivers.length ≤ 1024) (H : SL w (RefP h x :: F)) :
    Calls Try.prog 48 #[.pointer (some ⟨h, 0, none⟩), .int .i64 i] w fun e w' => e = .returned (.int .i64 (((x.senders.length : Int) - (without i x.senders).length) + ((x.receivers.length : Int) - (without i x.receivers).length))) ∧ SL w' (RefP h (dropM x i) :: F) := by
  obtain ⟨a1, c1, a2, c2, a3, c3, H1⟩ := ref_open H
  obtain ⟨r0, r1, r2, r3, r4, r5, r6, rf⟩ := box7 H1.at0
  have rl := lt_of_block H1.at0
  have w1 := without_le i x.senders
  have w2 := without_le i x.receivers
  go_enter Try.func48, Try.ntmps48
  go_wp2_with fail
  go_quiet (fail)
  go_wp2_with fail
  refine (r_without (L := x.senders) i rfl Reader.slc (by omega) (H1.drewN _).up2).mono ?_
  rintro e w3 ⟨v, rfl, H3⟩
  obtain ⟨va, vc, hv, _⟩ := H3.slc
  subst hv
  clear r0 r1 r2 r3 r4 r5 r6 rf rl
  obtain ⟨r0, r1, r2, r3, r4, r5, r6, rf⟩ := box7 H3.at2
  have rl := lt_of_block H3.at2
  go_wp2_with fail
  have H4 := H3.up2.set 2 (.slice va (without i x.senders).length vc)
  dsimp [Array.setIfInBounds] at H4
  refine (r_without (L := x.receivers) i rfl Reader.slc (by omega) H4.up4).mono ?_
  rintro e w4 ⟨v', rfl, H5⟩
  obtain ⟨va', vc', hv', _⟩ := H5.slc
  subst hv'
  clear r0 r1 r2 r3 r4 r5 r6 rf rl
  obtain ⟨r0, r1, r2, r3, r4, r5, r6, rf⟩ := box7 H5.at2
  have rl := lt_of_block H5.at2
  go_wp2_with fail
  have H6 := H5.up2.set 3 (.slice va' (without i x.receivers).length vc')
  dsimp [Array.setIfInBounds] at H6
  have H7 := H6.pick [0, 5, 3, 1] 6 (by decide)
  simp only [pk, nth, List.map_cons, List.map_nil, List.drop_succ_cons, List.drop_zero, List.cons_append, List.nil_append] at H7
  have H8 := ref_shut (x := dropM x i) H7
  go_quiet (fail)
  go_wp2_with fail
  go_ret
  refine ⟨ret_int (by omega), ?_⟩
  repeat (first | with_reducible refine SL.drewN ?_ _ | with_reducible exact H8)

theorem r_close (H : SL w (RefP h x :: F)) :
    Calls Try.prog 47 #[.pointer (some ⟨h, 0, none⟩)] w fun e w' => ∃ a c b d, e = .returned (.tuple #[.slice a (closeF x).1.1.length c, .slice b (closeF x).1.2.1.length d, .int .i64 (closeF x).1.2.2]) ∧
      SL w' (RdP a (closeF x).1.1.length 3 ((closeF x).1.1.flatMap Wtr.cells) :: RdP b (closeF x).1.2.1.length 3 ((closeF x).1.2.1.flatMap Wtr.cells) :: RefP h (closeF x).2 :: F) := by
  unfold closeF
  obtain ⟨a1, c1, a2, c2, a3, c3, H1⟩ := ref_open H
  obtain ⟨r0, r1, r2, r3, r4, r5, r6, rf⟩ := box7 H1.at0
  have rl := lt_of_block H1.at0
  by_cases hc : x.closed = true
  · rw [if_pos hc]
    rw [hc] at r4
    have HC := Lib.hid hc
    clear hc
    go_enter Try.func47, Try.ntmps47
    go_wp2_with fail
    go_ret3
    exact ⟨none, 0, none, 0, rfl, SL.rdNil 3 (SL.rdNil 3 H)⟩
  · rw [if_neg hc]
    have hc' : x.closed = false := by simpa using hc
    rw [hc'] at r4
    clear hc hc'
    go_enter Try.func47, Try.ntmps47
    go_wp2_with fail
    go_ret3
    have H2 := ((H1.set 4 (.bool true)).set 3 (.slice none 0 0)).set 2 (.slice none 0 0)
    dsimp [Array.setIfInBounds] at H2
    have H3 := ref_shut (x := { x with closed := true, senders := [], receivers := [] }) ((SL.slcNil 91 3 (SL.slcNil 91 3 H2)).pick [2, 3, 0, 1, 4, 5] 6 (by decide))
    have H4 := SL.conv (B := RdP a2 x.senders.length 3 (x.senders.flatMap Wtr.cells)) H3.up1 (fun S _ h => ⟨Rd.of_own h.1, fun b o hb _ => h.2 b (by rw [hb]; rfl)⟩)
    have H5 := SL.conv (B := RdP a3 x.receivers.length 3 (x.receivers.flatMap Wtr.cells)) H4.up2 (fun S _ h => ⟨Rd.of_own h.1, fun b o hb _ => h.2 b (by rw [hb]; rfl)⟩)
    exact ⟨a3, c3, a2, c2, rfl, H5⟩
end

end Go.Proofs.Ytlccpbdpfamekaa

