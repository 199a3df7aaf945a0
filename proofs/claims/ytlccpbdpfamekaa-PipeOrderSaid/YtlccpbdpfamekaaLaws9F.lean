/- Layer 9: PipeOrder. -/
import Derived.Test.YtlccpbdpfamekaaLaws9C
import Derived.Deep.DeepCutAuto
import Derived.Deep.CutBlock
import Derived.Deep.RegionHeld3
namespace Go.Proofs.Ytlccpbdpfamekaa
set_option linter.unusedVariables false
set_option linter.unusedSimpArgs false
open Go.RowKit

/-- What was sent, and received, so far. -/
structure Ord (x : PipeM) (S R : List Int) : Prop where
  all : S = R ++ x.buf
  sent : x.sent = S.length
  received : x.received = R.length

theorem Ord.same {x y : PipeM} {S R : List Int} (h : Ord x S R) (h1 : y.buf = x.buf) (h2 : y.sent = x.sent) (h3 : y.received = x.received) : Ord y S R :=
  ⟨by rw [h1]; exact h.all, by rw [h2]; exact h.sent, by rw [h3]; exact h.received⟩

theorem Ord.get {x : PipeM} {S R : List Int} (h : Ord x S R) (i : Nat) (hi : i < R.length) : S.getD i 0 = R.getD i 0 := by
  rw [h.all, List.getD_eq_getElem?_getD, List.getD_eq_getElem?_getD, List.getElem?_append_left hi]

theorem Ord.diff {x : PipeM} {S R : List Int} (h : Ord x S R) : x.sent - x.received = x.buf.length ∧ x.received ≤ x.sent := by
  have h1 := congrArg List.length h.all
  have h2 := h.sent
  have h3 := h.received
  simp at h1
  omega

theorem wait_keeps (x : PipeM) (s : Bool) (m : Wtr) : (waitF x s m).2.buf = x.buf ∧ (waitF x s m).2.sent = x.sent ∧ (waitF x s m).2.received = x.received := by
  unfold waitF
  split
  · exact ⟨rfl, rfl, rfl⟩
  · split <;> exact ⟨rfl, rfl, rfl⟩

theorem close_keeps (x : PipeM) : (closeF x).2.buf = x.buf ∧ (closeF x).2.sent = x.sent ∧ (closeF x).2.received = x.received := by
  unfold closeF
  split <;> exact ⟨rfl, rfl, rfl⟩

section
variable {w : World} {F : List Piece} {g h n : Nat} {x : PipeM}


set_option maxRecDepth 100000 in
set_option maxHeartbeats 8000000 in
theorem pipeOrder_walk (size : Int) (hsz : (Lit.int .i64 size).wf = true) {v : Value} {L : List Step9} (hl : ArgSteps9 w v L) :
    Calls Try.prog 5 #[.int .i64 size, v] w fun e w' => e = .returned (.bool true) ∧ Frm Nil w w' := by
  obtain ⟨a, cap, rfl, hrd⟩ := hl
  clear hsz
  have hm := hrd.2.1
  unfold maxLen at hm
  have H := SL.start w
  have HO : Reader (Old w) 4 a L.length (L.flatMap Step9.cells) := Reader.old hrd
  by_cases hz : size < 0 ∨ 4 < size
  · have K1 := pipe_new_bad size hz
    have HK1 := Lib.hid K1
    clear K1 hz
    go_enter Try.func5, Try.ntmps5
    go_wp2_with fail
    refine (HK1.out _).mono ?_
    rintro e w1 ⟨rfl, rfl⟩
    go_wp2_with fail
    refine (l_hands H).mono ?_
    rintro e w2 ⟨rfl, H2⟩
    go_wp2_with fail
    go_ret
    exact ⟨rfl, SL.old H2⟩
  · obtain ⟨z, rfl⟩ : ∃ z : Nat, size = z := ⟨size.toNat, by omega⟩
    have hz4 : z ≤ 4 := by omega
    clear hz
    go_enter Try.func5, Try.ntmps5
    go_wp2_with fail
    refine (sl_new z hz4 H).mono ?_
    rintro e w1 ⟨g, rfl, H1⟩
    obtain ⟨n, hn⟩ : ∃ n, L.length = n := ⟨_, rfl⟩
    rw [hn] at HO hm
    rw [hn]
    by_cases hL : 300 < n
    · have d1 : decide (300 < (n : Int)) = true := by simp; omega
      have d2 : decide (300 < n) = true := by simp; omega
      have d3 : (300 : Int) < (n : Int) := by omega
      have HN := Lib.hid hn
      clear hn
      go_wp2_with fail
      refine (l_hands H1).mono ?_
      rintro e w3 ⟨rfl, H3⟩
      go_wp2_with fail
      go_ret
      exact ⟨rfl, SL.old H3.tl⟩
    · have d1 : decide (300 < (n : Int)) = false := by simp; omega
      have d2 : decide (300 < n) = false := by simp; omega
      have d3 : ¬ (300 : Int) < (n : Int) := by omega
      have HN := Lib.hid hn
      clear hn
      go_wp2_with fail
      go_loopw [7, 8, 43] (fun s7 s8 i wr => ∃ (k : Nat) (x : PipeM) (S R : List Int), k ≤ n ∧ i = .int .i64 k ∧ Hid (Inv9 k x) ∧ Hid (Ord x S R) ∧ SL wr [Slc 3 1 s7 S.length (ints S), Slc 3 1 s8 R.length (ints R), PipeP g x, Old w]) (fun _ _ i _ => n - (intOf i).toNat)
      case atStart => exact ⟨0, emptyM z, [], [], Nat.zero_le _, rfl, Lib.hid (Inv9.empty hz4), Lib.hid ⟨rfl, rfl, rfl⟩, SL.slcNil _ _ (SL.slcNil _ _ H1)⟩
      case round =>
        obtain ⟨k, x, S, R, hk, rfl, HI, HOR, HR⟩ := hrel
        obtain ⟨a7, c7, e7, h7, h7', _⟩ := HR.slc
        obtain ⟨a8, c8, e8, h8, h8', _⟩ := HR.up1.slc
        subst e7 e8
        have hSl : S.length ≤ k := by have := HOR.out.sent; have := HI.out.s1; omega
        have hRl : R.length ≤ k := by have := HOR.out.received; have := HI.out.r1; omega
        by_cases hlt : k < n
        · have hlt' : k < L.length := by rw [HN.out]; exact hlt
          have hrr := HR.up3.read HO
          rw [← HN.out] at hrr
          obtain ⟨b, off, e0, d4, d5, d6, d7⟩ := step9_at hrr k hlt'
          subst e0
          obtain ⟨sk, hsk⟩ : ∃ sk, L[k] = sk := ⟨_, rfl⟩
          rw [hsk] at d4 d5 d6 d7
          clear hsk hrr
          obtain ⟨sw, ⟨sg, sc, sv⟩⟩ := sk
          dsimp only at d4 d5 d6 d7
          have hs1 := HI.out.snd.1
          have hr1 := HI.out.rcv.1
          have K1 := fun (w' : World) (F : List Piece) (H : SL w' (PipeP g x :: F)) => sl_send sv HI.out (by omega) H
          have K2 := fun (w' : World) (F : List Piece) (H : SL w' (PipeP g x :: F)) => sl_recv (by omega) HI.out.buf (HI.out.cnt (by omega)) H
          have K3 := fun (s : Bool) (w' : World) (F : List Piece) (H : SL w' (PipeP g x :: F)) => sl_wait s ⟨sg, sc, sv⟩ hs1 hr1 H
          have K4 := fun (w' : World) (F : List Piece) (H : SL w' (PipeP g x :: F)) => sl_close hs1 hr1 H
          have K5 := fun (w' : World) (F : List Piece) (H : SL w' (PipeP g x :: F)) => sl_drop sg HI.out H
          have HK1 := Lib.hid K1
          have HK2 := Lib.hid K2
          have HK3 := Lib.hid K3
          have HK4 := Lib.hid K4
          have HK5 := Lib.hid K5
          clear K1 K2 K3 K4 K5
          go_upto_block 2 with (fail)
          have HB := (HR.alloc (.cells #[.int .i64 sw, .int .i64 sg, .int .i64 sc, .int .i64 sv] 34)).up3
          obtain ⟨bx, hbx⟩ : ∃ b, wr.heap.size = b := ⟨_, rfl⟩
          obtain ⟨w0, hw0⟩ : ∃ w0, wr.alloc (.cells #[.int .i64 sw, .int .i64 sg, .int .i64 sc, .int .i64 sv] 34) = w0 := ⟨_, rfl⟩
          rw [hbx, hw0] at HB
          simp only [hbx, hw0]
          clear hbx hw0 d4 d5 d6 d7
          obtain ⟨b0, b1, b2, b3, bf⟩ := box4 HB.at1
          have bl := lt_of_block HB.at1
          go_cut [7, 8] (fun s7 s8 wx => ∃ (y : PipeM) (S R : List Int), Hid (Inv9 (k + 1) y) ∧ Hid (Ord y S R) ∧ SL wx [Slc 3 1 s7 S.length (ints S), Slc 3 1 s8 R.length (ints R), PipeP g y, Old w])
          case first =>
            have K1 := HK1.out
            have K2 := HK2.out
            have K3 := HK3.out
            have K4 := HK4.out
            have K5 := HK5.out
            clear HK1 HK2 HK3 HK4 HK5
            by_cases hsw : sw < 0 ∨ 7 < sw
            · have hsw' := hsw
              have e0 : (sw == 0) = false := by simp; omega
              have e1 : (sw == 1) = false := by simp; omega
              have e2 : (sw == 2) = false := by simp; omega
              have e3 : (sw == 3) = false := by simp; omega
              have e4 : (sw == 4) = false := by simp; omega
              have e5 : (sw == 5) = false := by simp; omega
              have e6 : (sw == 6) = false := by simp; omega
              have e7 : (sw == 7) = false := by simp; omega
              clear hsw
              go_wp2_with fail
              go_meet
              exact ⟨x, S, R, Lib.hid (HI.out.more (by omega)), HOR, HB.pick [2, 3, 0, 4] 5 (by decide)⟩
            · have hsw2 : sw = 0 ∨ sw = 1 ∨ sw = 2 ∨ sw = 3 ∨ sw = 4 ∨ sw = 5 ∨ sw = 6 ∨ sw = 7 := by omega
              clear hsw
              rcases hsw2 with hsw | hsw | hsw | hsw | hsw | hsw | hsw | hsw
              · subst hsw
                by_cases hc : x.closed = true
                · have q1 := K1
                  rw [show sendF x sv = ((gzero, 90), x) by unfold sendF; rw [if_pos hc]] at q1
                  unfold gzero GotM.agg wzero at q1
                  dsimp only at q1
                  have Q1 := Lib.hid q1
                  clear q1 K1 hc
                  go_wp2_with fail
                  refine (Q1.out _ _ HB).mono ?_
                  rintro e w1 ⟨rfl, H1⟩
                  go_wp2_with fail
                  go_meet
                  exact ⟨x, S, R, Lib.hid (HI.out.more (by omega)), HOR, (H1.allocd _).pick [2, 3, 0, 4] 5 (by decide)⟩
                · rcases hr : x.receivers with _ | ⟨m, l⟩
                  · by_cases hz : x.buf.length < x.size
                    · have q1 := K1
                      rw [show sendF x sv = ((⟨true, false, false, 0, wzero⟩, 0), { x with buf := x.buf ++ [sv], sent := x.sent + 1 }) by unfold sendF; rw [if_neg hc, hr]; simp [hz]] at q1
                      have hi2 := HI.out.send sv
                      rw [show sendF x sv = ((⟨true, false, false, 0, wzero⟩, 0), { x with buf := x.buf ++ [sv], sent := x.sent + 1 }) by unfold sendF; rw [if_neg hc, hr]; simp [hz]] at hi2
                      have ho2 : Ord { x with buf := x.buf ++ [sv], sent := x.sent + 1 } (S ++ [sv]) R := ⟨by rw [HOR.out.all, List.append_assoc], by simp [HOR.out.sent], HOR.out.received⟩
                      unfold GotM.agg wzero at q1
                      dsimp only at q1 hi2
                      have Q1 := Lib.hid q1
                      have HI2 := Lib.hid hi2
                      have HO2 := Lib.hid ho2
                      clear q1 K1 hc hz hr hi2 ho2
                      go_wp2_with fail
                      refine (Q1.out _ _ HB).mono ?_
                      rintro e w1 ⟨rfl, H1⟩
                      obtain ⟨b0, b1, b2, b3, bf⟩ := box4 H1.at1
                      have bl := lt_of_block H1.at1
                      have H1b := H1.alloc (.cells #[.bool true, .bool false, .bool false, .int .i64 0, .int .i64 0, .int .i64 0, .int .i64 0] 49)
                      go_wp2_with (at_builtin; go_must (refine sl_app rfl _ _ 42 _ 8 rfl Try.underlying42 infoInt rfl (by decide) (.slice a7 S.length c7) _ _ [.int .i64 sv] rfl rfl (by simp) rfl rfl H1b.up3 (by omega) (by decide) ?_); intro gg cc w2 H2 hs2; obtain ⟨g0, g1, g2, g3, g4, g5, g6, gf⟩ := box7 H2.at1; have gl := lt_of_block H2.at1)
                      go_meet
                      exact ⟨_, S ++ [sv], R, HI2, HO2, by have Hp := H2.pick [0, 4, 2, 5] 6 (by decide); rw [List.length_append, ints_append]; exact Hp⟩
                    · have q1 := K1
                      rw [show sendF x sv = ((gzero, 0), x) by unfold sendF; rw [if_neg hc, hr]; simp [hz]] at q1
                      unfold gzero GotM.agg wzero at q1
                      dsimp only at q1
                      have Q1 := Lib.hid q1
                      clear q1 K1 hc hz hr
                      go_wp2_with fail
                      refine (Q1.out _ _ HB).mono ?_
                      rintro e w1 ⟨rfl, H1⟩
                      go_wp2_with fail
                      go_meet
                      exact ⟨x, S, R, Lib.hid (HI.out.more (by omega)), HOR, (H1.allocd _).pick [2, 3, 0, 4] 5 (by decide)⟩
                  · have q1 := K1
                    rw [show sendF x sv = ((⟨true, false, true, 0, m⟩, 0), { x with receivers := l, sent := x.sent + 1, received := x.received + 1 }) by unfold sendF; rw [if_neg hc, hr]] at q1
                    have hi2 := HI.out.send sv
                    rw [show sendF x sv = ((⟨true, false, true, 0, m⟩, 0), { x with receivers := l, sent := x.sent + 1, received := x.received + 1 }) by unfold sendF; rw [if_neg hc, hr]] at hi2
                    have hbe := HI.out.re (by rw [hr]; simp)
                    have ho2 : Ord { x with receivers := l, sent := x.sent + 1, received := x.received + 1 } (S ++ [sv]) (R ++ [sv]) := ⟨by rw [HOR.out.all, hbe]; simp, by simp [HOR.out.sent], by simp [HOR.out.received]⟩
                    obtain ⟨mg, mc, mv⟩ := m
                    unfold GotM.agg at q1
                    dsimp only at q1 hi2
                    have Q1 := Lib.hid q1
                    have HI2 := Lib.hid hi2
                    have HO2 := Lib.hid ho2
                    clear q1 K1 hc hr hi2 ho2 hbe
                    go_wp2_with fail
                    refine (Q1.out _ _ HB).mono ?_
                    rintro e w1 ⟨rfl, H1⟩
                    obtain ⟨b0, b1, b2, b3, bf⟩ := box4 H1.at1
                    have bl := lt_of_block H1.at1
                    have H1b := H1.alloc (.cells #[.bool true, .bool false, .bool true, .int .i64 0, .int .i64 mg, .int .i64 mc, .int .i64 mv] 49)
                    go_wp2_with (first | (at_builtin; (refine sl_app rfl _ _ 42 _ 8 rfl Try.underlying42 infoInt rfl (by decide) (.slice a7 S.length c7) _ _ [.int .i64 sv] rfl rfl (by simp) rfl rfl H1b.up3 (by omega) (by decide) ?_); intro gg cc w2 H2 hs2; obtain ⟨g0, g1, g2, g3, g4, g5, g6, gf⟩ := box7 H2.at1; have gl := lt_of_block H2.at1; obtain ⟨b0, b1, b2, b3, bf⟩ := box4 H2.at3; have bl := lt_of_block H2.at3) | (at_builtin; go_must (refine sl_app rfl _ _ 42 _ 8 rfl Try.underlying42 infoInt rfl (by decide) (.slice a8 R.length c8) _ _ [.int .i64 sv] rfl rfl (by simp) rfl rfl H2.up4 (by omega) (by decide) ?_); intro gg2 cc2 w3 H3 hs3))
                    go_meet
                    exact ⟨_, S ++ [sv], R ++ [sv], HI2, HO2, by have Hp := H3.pick [1, 0, 3, 5] 6 (by decide); rw [List.length_append, ints_append, List.length_append, ints_append]; exact Hp⟩
              · subst hsw
                by_cases hc : x.closed = true
                · have q1 := K1
                  rw [show sendF x sv = ((gzero, 90), x) by unfold sendF; rw [if_pos hc]] at q1
                  unfold gzero GotM.agg wzero at q1
                  dsimp only at q1
                  have Q1 := Lib.hid q1
                  clear q1 K1 hc
                  go_wp2_with fail
                  refine (Q1.out _ _ HB).mono ?_
                  rintro e w1 ⟨rfl, H1⟩
                  go_wp2_with fail
                  go_meet
                  exact ⟨x, S, R, Lib.hid (HI.out.more (by omega)), HOR, (H1.allocd _).pick [2, 3, 0, 4] 5 (by decide)⟩
                · rcases hr : x.receivers with _ | ⟨m, l⟩
                  · by_cases hz : x.buf.length < x.size
                    · have q1 := K1
                      rw [show sendF x sv = ((⟨true, false, false, 0, wzero⟩, 0), { x with buf := x.buf ++ [sv], sent := x.sent + 1 }) by unfold sendF; rw [if_neg hc, hr]; simp [hz]] at q1
                      have hi2 := HI.out.send sv
                      rw [show sendF x sv = ((⟨true, false, false, 0, wzero⟩, 0), { x with buf := x.buf ++ [sv], sent := x.sent + 1 }) by unfold sendF; rw [if_neg hc, hr]; simp [hz]] at hi2
                      have ho2 : Ord { x with buf := x.buf ++ [sv], sent := x.sent + 1 } (S ++ [sv]) R := ⟨by rw [HOR.out.all, List.append_assoc], by simp [HOR.out.sent], HOR.out.received⟩
                      unfold GotM.agg wzero at q1
                      dsimp only at q1 hi2
                      have Q1 := Lib.hid q1
                      have HI2 := Lib.hid hi2
                      have HO2 := Lib.hid ho2
                      clear q1 K1 hc hz hr hi2 ho2
                      go_wp2_with fail
                      refine (Q1.out _ _ HB).mono ?_
                      rintro e w1 ⟨rfl, H1⟩
                      obtain ⟨b0, b1, b2, b3, bf⟩ := box4 H1.at1
                      have bl := lt_of_block H1.at1
                      have H1b := H1.alloc (.cells #[.bool true, .bool false, .bool false, .int .i64 0, .int .i64 0, .int .i64 0, .int .i64 0] 49)
                      go_wp2_with (at_builtin; go_must (refine sl_app rfl _ _ 42 _ 8 rfl Try.underlying42 infoInt rfl (by decide) (.slice a7 S.length c7) _ _ [.int .i64 sv] rfl rfl (by simp) rfl rfl H1b.up3 (by omega) (by decide) ?_); intro gg cc w2 H2 hs2; obtain ⟨g0, g1, g2, g3, g4, g5, g6, gf⟩ := box7 H2.at1; have gl := lt_of_block H2.at1)
                      go_meet
                      exact ⟨_, S ++ [sv], R, HI2, HO2, by have Hp := H2.pick [0, 4, 2, 5] 6 (by decide); rw [List.length_append, ints_append]; exact Hp⟩
                    · have q1 := K1
                      rw [show sendF x sv = ((gzero, 0), x) by unfold sendF; rw [if_neg hc, hr]; simp [hz]] at q1
                      unfold gzero GotM.agg wzero at q1
                      dsimp only at q1
                      have Q1 := Lib.hid q1
                      clear q1 K1 hc hz hr
                      go_wp2_with fail
                      refine (Q1.out _ _ HB).mono ?_
                      rintro e w1 ⟨rfl, H1⟩
                      go_wp2_with fail
                      go_meet
                      exact ⟨x, S, R, Lib.hid (HI.out.more (by omega)), HOR, (H1.allocd _).pick [2, 3, 0, 4] 5 (by decide)⟩
                  · have q1 := K1
                    rw [show sendF x sv = ((⟨true, false, true, 0, m⟩, 0), { x with receivers := l, sent := x.sent + 1, received := x.received + 1 }) by unfold sendF; rw [if_neg hc, hr]] at q1
                    have hi2 := HI.out.send sv
                    rw [show sendF x sv = ((⟨true, false, true, 0, m⟩, 0), { x with receivers := l, sent := x.sent + 1, received := x.received + 1 }) by unfold sendF; rw [if_neg hc, hr]] at hi2
                    have hbe := HI.out.re (by rw [hr]; simp)
                    have ho2 : Ord { x with receivers := l, sent := x.sent + 1, received := x.received + 1 } (S ++ [sv]) (R ++ [sv]) := ⟨by rw [HOR.out.all, hbe]; simp, by simp [HOR.out.sent], by simp [HOR.out.received]⟩
                    obtain ⟨mg, mc, mv⟩ := m
                    unfold GotM.agg at q1
                    dsimp only at q1 hi2
                    have Q1 := Lib.hid q1
                    have HI2 := Lib.hid hi2
                    have HO2 := Lib.hid ho2
                    clear q1 K1 hc hr hi2 ho2 hbe
                    go_wp2_with fail
                    refine (Q1.out _ _ HB).mono ?_
                    rintro e w1 ⟨rfl, H1⟩
                    obtain ⟨b0, b1, b2, b3, bf⟩ := box4 H1.at1
                    have bl := lt_of_block H1.at1
                    have H1b := H1.alloc (.cells #[.bool true, .bool false, .bool true, .int .i64 0, .int .i64 mg, .int .i64 mc, .int .i64 mv] 49)
                    go_wp2_with (first | (at_builtin; (refine sl_app rfl _ _ 42 _ 8 rfl Try.underlying42 infoInt rfl (by decide) (.slice a7 S.length c7) _ _ [.int .i64 sv] rfl rfl (by simp) rfl rfl H1b.up3 (by omega) (by decide) ?_); intro gg cc w2 H2 hs2; obtain ⟨g0, g1, g2, g3, g4, g5, g6, gf⟩ := box7 H2.at1; have gl := lt_of_block H2.at1; obtain ⟨b0, b1, b2, b3, bf⟩ := box4 H2.at3; have bl := lt_of_block H2.at3) | (at_builtin; go_must (refine sl_app rfl _ _ 42 _ 8 rfl Try.underlying42 infoInt rfl (by decide) (.slice a8 R.length c8) _ _ [.int .i64 sv] rfl rfl (by simp) rfl rfl H2.up4 (by omega) (by decide) ?_); intro gg2 cc2 w3 H3 hs3))
                    go_meet
                    exact ⟨_, S ++ [sv], R ++ [sv], HI2, HO2, by have Hp := H3.pick [1, 0, 3, 5] 6 (by decide); rw [List.length_append, ints_append, List.length_append, ints_append]; exact Hp⟩
              · subst hsw
                rcases hb : x.buf with _ | ⟨a, L⟩
                · rcases hs : x.senders with _ | ⟨m, l⟩
                  · by_cases hc : x.closed = true
                    · have q1 := K2
                      rw [show recvF x = ({ gzero with ready := true }, x) by unfold recvF; rw [hb, hs]; simp [hc]] at q1
                      have hi2 := HI.out.recv
                      rw [show recvF x = ({ gzero with ready := true }, x) by unfold recvF; rw [hb, hs]; simp [hc]] at hi2
                      have ho2 : Ord x (S) (R) := HOR.out
                      unfold gzero wzero at q1
                      unfold Does GotM.agg at q1
                      dsimp only at q1 hi2
                      have Q1 := Lib.hid q1
                      have HI2 := Lib.hid hi2
                      have HO2 := Lib.hid ho2
                      clear q1 K2 hi2 ho2 hb hs hc
                      go_wp2_with fail
                      refine (Q1.out _ _ HB).mono ?_
                      rintro e w1 ⟨rfl, H1⟩
                      have H1b := H1.alloc (.cells #[.bool true, .bool false, .bool false, .int .i64 0, .int .i64 0, .int .i64 0, .int .i64 0] 49)
                      go_wp2_with fail
                      go_meet
                      exact ⟨_, S, R, HI2, HO2, H1b.pick [3, 4, 1, 5] 6 (by decide)⟩
                    · have q1 := K2
                      rw [show recvF x = (gzero, x) by unfold recvF; rw [hb, hs]; simp [hc]] at q1
                      have hi2 := HI.out.recv
                      rw [show recvF x = (gzero, x) by unfold recvF; rw [hb, hs]; simp [hc]] at hi2
                      have ho2 : Ord x (S) (R) := HOR.out
                      unfold gzero wzero at q1
                      unfold Does GotM.agg at q1
                      dsimp only at q1 hi2
                      have Q1 := Lib.hid q1
                      have HI2 := Lib.hid hi2
                      have HO2 := Lib.hid ho2
                      clear q1 K2 hi2 ho2 hb hs hc
                      go_wp2_with fail
                      refine (Q1.out _ _ HB).mono ?_
                      rintro e w1 ⟨rfl, H1⟩
                      have H1b := H1.alloc (.cells #[.bool false, .bool false, .bool false, .int .i64 0, .int .i64 0, .int .i64 0, .int .i64 0] 49)
                      go_wp2_with fail
                      go_meet
                      exact ⟨_, S, R, HI2, HO2, H1b.pick [3, 4, 1, 5] 6 (by decide)⟩
                  · have q1 := K2
                    rw [show recvF x = (⟨true, true, true, m.value, m⟩, { x with senders := l, sent := x.sent + 1, received := x.received + 1 }) by unfold recvF; rw [hb, hs]] at q1
                    have hi2 := HI.out.recv
                    rw [show recvF x = (⟨true, true, true, m.value, m⟩, { x with senders := l, sent := x.sent + 1, received := x.received + 1 }) by unfold recvF; rw [hb, hs]] at hi2
                    have ho2 : Ord { x with senders := l, sent := x.sent + 1, received := x.received + 1 } (S ++ [m.value]) (R ++ [m.value]) := ⟨by rw [HOR.out.all]; show _ = _ ++ x.buf; rw [hb]; simp, by simp [HOR.out.sent], by simp [HOR.out.received]⟩
                    obtain ⟨mg, mc, mv⟩ := m
                    unfold Does GotM.agg at q1
                    dsimp only at q1 hi2
                    have Q1 := Lib.hid q1
                    have HI2 := Lib.hid hi2
                    have HO2 := Lib.hid ho2
                    clear q1 K2 hi2 ho2 hb hs
                    go_wp2_with fail
                    refine (Q1.out _ _ HB).mono ?_
                    rintro e w1 ⟨rfl, H1⟩
                    have H1b := H1.alloc (.cells #[.bool true, .bool true, .bool true, .int .i64 mv, .int .i64 mg, .int .i64 mc, .int .i64 mv] 49)
                    go_wp2_with (first | (at_builtin; (refine sl_app rfl _ _ 42 _ 8 rfl Try.underlying42 infoInt rfl (by decide) (.slice a8 R.length c8) _ _ [.int .i64 mv] rfl rfl (by simp) rfl rfl H1b.up4 (by omega) (by decide) ?_); intro gg cc w2 H2 hs2; obtain ⟨g0, g1, g2, g3, g4, g5, g6, gf⟩ := box7 H2.at1; have gl := lt_of_block H2.at1) | (at_builtin; go_must (refine sl_app rfl _ _ 42 _ 8 rfl Try.underlying42 infoInt rfl (by decide) (.slice a7 S.length c7) _ _ [.int .i64 mv] rfl rfl (by simp) rfl rfl H2.up4 (by omega) (by decide) ?_); intro gg2 cc2 w3 H3 hs3))
                    go_meet
                    exact ⟨_, S ++ [mv], R ++ [mv], HI2, HO2, by have Hp := H3.pick [0, 1, 3, 5] 6 (by decide); rw [List.length_append, ints_append, List.length_append, ints_append]; exact Hp⟩
                · rcases hs : x.senders with _ | ⟨m, l⟩
                  · have q1 := K2
                    rw [show recvF x = (⟨true, true, false, a, wzero⟩, { x with buf := L, received := x.received + 1 }) by unfold recvF; rw [hb, hs]] at q1
                    have hi2 := HI.out.recv
                    rw [show recvF x = (⟨true, true, false, a, wzero⟩, { x with buf := L, received := x.received + 1 }) by unfold recvF; rw [hb, hs]] at hi2
                    have ho2 : Ord { x with buf := L, received := x.received + 1 } (S) (R ++ [a]) := ⟨by rw [HOR.out.all, hb]; simp, HOR.out.sent, by simp [HOR.out.received]⟩
                    unfold wzero at q1
                    unfold Does GotM.agg at q1
                    dsimp only at q1 hi2
                    have Q1 := Lib.hid q1
                    have HI2 := Lib.hid hi2
                    have HO2 := Lib.hid ho2
                    clear q1 K2 hi2 ho2 hb hs
                    go_wp2_with fail
                    refine (Q1.out _ _ HB).mono ?_
                    rintro e w1 ⟨rfl, H1⟩
                    have H1b := H1.alloc (.cells #[.bool true, .bool true, .bool false, .int .i64 a, .int .i64 0, .int .i64 0, .int .i64 0] 49)
                    go_wp2_with (at_builtin; (refine sl_app rfl _ _ 42 _ 8 rfl Try.underlying42 infoInt rfl (by decide) (.slice a8 R.length c8) _ _ [.int .i64 a] rfl rfl (by simp) rfl rfl H1b.up4 (by omega) (by decide) ?_); intro gg cc w2 H2 hs2; obtain ⟨g0, g1, g2, g3, g4, g5, g6, gf⟩ := box7 H2.at1; have gl := lt_of_block H2.at1)
                    go_meet
                    exact ⟨_, S, R ++ [a], HI2, HO2, by have Hp := H2.pick [4, 0, 2, 5] 6 (by decide); rw [List.length_append, ints_append]; exact Hp⟩
                  · have q1 := K2
                    rw [show recvF x = (⟨true, true, true, a, m⟩, { x with buf := L ++ [m.value], senders := l, sent := x.sent + 1, received := x.received + 1 }) by unfold recvF; rw [hb, hs]] at q1
                    have hi2 := HI.out.recv
                    rw [show recvF x = (⟨true, true, true, a, m⟩, { x with buf := L ++ [m.value], senders := l, sent := x.sent + 1, received := x.received + 1 }) by unfold recvF; rw [hb, hs]] at hi2
                    have ho2 : Ord { x with buf := L ++ [m.value], senders := l, sent := x.sent + 1, received := x.received + 1 } (S ++ [m.value]) (R ++ [a]) := ⟨by rw [HOR.out.all, hb]; simp, by simp [HOR.out.sent], by simp [HOR.out.received]⟩
                    obtain ⟨mg, mc, mv⟩ := m
                    unfold Does GotM.agg at q1
                    dsimp only at q1 hi2
                    have Q1 := Lib.hid q1
                    have HI2 := Lib.hid hi2
                    have HO2 := Lib.hid ho2
                    clear q1 K2 hi2 ho2 hb hs
                    go_wp2_with fail
                    refine (Q1.out _ _ HB).mono ?_
                    rintro e w1 ⟨rfl, H1⟩
                    have H1b := H1.alloc (.cells #[.bool true, .bool true, .bool true, .int .i64 a, .int .i64 mg, .int .i64 mc, .int .i64 mv] 49)
                    go_wp2_with (first | (at_builtin; (refine sl_app rfl _ _ 42 _ 8 rfl Try.underlying42 infoInt rfl (by decide) (.slice a8 R.length c8) _ _ [.int .i64 a] rfl rfl (by simp) rfl rfl H1b.up4 (by omega) (by decide) ?_); intro gg cc w2 H2 hs2; obtain ⟨g0, g1, g2, g3, g4, g5, g6, gf⟩ := box7 H2.at1; have gl := lt_of_block H2.at1) | (at_builtin; go_must (refine sl_app rfl _ _ 42 _ 8 rfl Try.underlying42 infoInt rfl (by decide) (.slice a7 S.length c7) _ _ [.int .i64 mv] rfl rfl (by simp) rfl rfl H2.up4 (by omega) (by decide) ?_); intro gg2 cc2 w3 H3 hs3))
                    go_meet
                    exact ⟨_, S ++ [mv], R ++ [a], HI2, HO2, by have Hp := H3.pick [0, 1, 3, 5] 6 (by decide); rw [List.length_append, ints_append, List.length_append, ints_append]; exact Hp⟩
              · subst hsw
                rcases hb : x.buf with _ | ⟨a, L⟩
                · rcases hs : x.senders with _ | ⟨m, l⟩
                  · by_cases hc : x.closed = true
                    · have q1 := K2
                      rw [show recvF x = ({ gzero with ready := true }, x) by unfold recvF; rw [hb, hs]; simp [hc]] at q1
                      have hi2 := HI.out.recv
                      rw [show recvF x = ({ gzero with ready := true }, x) by unfold recvF; rw [hb, hs]; simp [hc]] at hi2
                      have ho2 : Ord x (S) (R) := HOR.out
                      unfold gzero wzero at q1
                      unfold Does GotM.agg at q1
                      dsimp only at q1 hi2
                      have Q1 := Lib.hid q1
                      have HI2 := Lib.hid hi2
                      have HO2 := Lib.hid ho2
                      clear q1 K2 hi2 ho2 hb hs hc
                      go_wp2_with fail
                      refine (Q1.out _ _ HB).mono ?_
                      rintro e w1 ⟨rfl, H1⟩
                      have H1b := H1.alloc (.cells #[.bool true, .bool false, .bool false, .int .i64 0, .int .i64 0, .int .i64 0, .int .i64 0] 49)
                      go_wp2_with fail
                      go_meet
                      exact ⟨_, S, R, HI2, HO2, H1b.pick [3, 4, 1, 5] 6 (by decide)⟩
                    · have q1 := K2
                      rw [show recvF x = (gzero, x) by unfold recvF; rw [hb, hs]; simp [hc]] at q1
                      have hi2 := HI.out.recv
                      rw [show recvF x = (gzero, x) by unfold recvF; rw [hb, hs]; simp [hc]] at hi2
                      have ho2 : Ord x (S) (R) := HOR.out
                      unfold gzero wzero at q1
                      unfold Does GotM.agg at q1
                      dsimp only at q1 hi2
                      have Q1 := Lib.hid q1
                      have HI2 := Lib.hid hi2
                      have HO2 := Lib.hid ho2
                      clear q1 K2 hi2 ho2 hb hs hc
                      go_wp2_with fail
                      refine (Q1.out _ _ HB).mono ?_
                      rintro e w1 ⟨rfl, H1⟩
                      have H1b := H1.alloc (.cells #[.bool false, .bool false, .bool false, .int .i64 0, .int .i64 0, .int .i64 0, .int .i64 0] 49)
                      go_wp2_with fail
                      go_meet
                      exact ⟨_, S, R, HI2, HO2, H1b.pick [3, 4, 1, 5] 6 (by decide)⟩
                  · have q1 := K2
                    rw [show recvF x = (⟨true, true, true, m.value, m⟩, { x with senders := l, sent := x.sent + 1, received := x.received + 1 }) by unfold recvF; rw [hb, hs]] at q1
                    have hi2 := HI.out.recv
                    rw [show recvF x = (⟨true, true, true, m.value, m⟩, { x with senders := l, sent := x.sent + 1, received := x.received + 1 }) by unfold recvF; rw [hb, hs]] at hi2
                    have ho2 : Ord { x with senders := l, sent := x.sent + 1, received := x.received + 1 } (S ++ [m.value]) (R ++ [m.value]) := ⟨by rw [HOR.out.all]; show _ = _ ++ x.buf; rw [hb]; simp, by simp [HOR.out.sent], by simp [HOR.out.received]⟩
                    obtain ⟨mg, mc, mv⟩ := m
                    unfold Does GotM.agg at q1
                    dsimp only at q1 hi2
                    have Q1 := Lib.hid q1
                    have HI2 := Lib.hid hi2
                    have HO2 := Lib.hid ho2
                    clear q1 K2 hi2 ho2 hb hs
                    go_wp2_with fail
                    refine (Q1.out _ _ HB).mono ?_
                    rintro e w1 ⟨rfl, H1⟩
                    have H1b := H1.alloc (.cells #[.bool true, .bool true, .bool true, .int .i64 mv, .int .i64 mg, .int .i64 mc, .int .i64 mv] 49)
                    go_wp2_with (first | (at_builtin; (refine sl_app rfl _ _ 42 _ 8 rfl Try.underlying42 infoInt rfl (by decide) (.slice a8 R.length c8) _ _ [.int .i64 mv] rfl rfl (by simp) rfl rfl H1b.up4 (by omega) (by decide) ?_); intro gg cc w2 H2 hs2; obtain ⟨g0, g1, g2, g3, g4, g5, g6, gf⟩ := box7 H2.at1; have gl := lt_of_block H2.at1) | (at_builtin; go_must (refine sl_app rfl _ _ 42 _ 8 rfl Try.underlying42 infoInt rfl (by decide) (.slice a7 S.length c7) _ _ [.int .i64 mv] rfl rfl (by simp) rfl rfl H2.up4 (by omega) (by decide) ?_); intro gg2 cc2 w3 H3 hs3))
                    go_meet
                    exact ⟨_, S ++ [mv], R ++ [mv], HI2, HO2, by have Hp := H3.pick [0, 1, 3, 5] 6 (by decide); rw [List.length_append, ints_append, List.length_append, ints_append]; exact Hp⟩
                · rcases hs : x.senders with _ | ⟨m, l⟩
                  · have q1 := K2
                    rw [show recvF x = (⟨true, true, false, a, wzero⟩, { x with buf := L, received := x.received + 1 }) by unfold recvF; rw [hb, hs]] at q1
                    have hi2 := HI.out.recv
                    rw [show recvF x = (⟨true, true, false, a, wzero⟩, { x with buf := L, received := x.received + 1 }) by unfold recvF; rw [hb, hs]] at hi2
                    have ho2 : Ord { x with buf := L, received := x.received + 1 } (S) (R ++ [a]) := ⟨by rw [HOR.out.all, hb]; simp, HOR.out.sent, by simp [HOR.out.received]⟩
                    unfold wzero at q1
                    unfold Does GotM.agg at q1
                    dsimp only at q1 hi2
                    have Q1 := Lib.hid q1
                    have HI2 := Lib.hid hi2
                    have HO2 := Lib.hid ho2
                    clear q1 K2 hi2 ho2 hb hs
                    go_wp2_with fail
                    refine (Q1.out _ _ HB).mono ?_
                    rintro e w1 ⟨rfl, H1⟩
                    have H1b := H1.alloc (.cells #[.bool true, .bool true, .bool false, .int .i64 a, .int .i64 0, .int .i64 0, .int .i64 0] 49)
                    go_wp2_with (at_builtin; (refine sl_app rfl _ _ 42 _ 8 rfl Try.underlying42 infoInt rfl (by decide) (.slice a8 R.length c8) _ _ [.int .i64 a] rfl rfl (by simp) rfl rfl H1b.up4 (by omega) (by decide) ?_); intro gg cc w2 H2 hs2; obtain ⟨g0, g1, g2, g3, g4, g5, g6, gf⟩ := box7 H2.at1; have gl := lt_of_block H2.at1)
                    go_meet
                    exact ⟨_, S, R ++ [a], HI2, HO2, by have Hp := H2.pick [4, 0, 2, 5] 6 (by decide); rw [List.length_append, ints_append]; exact Hp⟩
                  · have q1 := K2
                    rw [show recvF x = (⟨true, true, true, a, m⟩, { x with buf := L ++ [m.value], senders := l, sent := x.sent + 1, received := x.received + 1 }) by unfold recvF; rw [hb, hs]] at q1
                    have hi2 := HI.out.recv
                    rw [show recvF x = (⟨true, true, true, a, m⟩, { x with buf := L ++ [m.value], senders := l, sent := x.sent + 1, received := x.received + 1 }) by unfold recvF; rw [hb, hs]] at hi2
                    have ho2 : Ord { x with buf := L ++ [m.value], senders := l, sent := x.sent + 1, received := x.received + 1 } (S ++ [m.value]) (R ++ [a]) := ⟨by rw [HOR.out.all, hb]; simp, by simp [HOR.out.sent], by simp [HOR.out.received]⟩
                    obtain ⟨mg, mc, mv⟩ := m
                    unfold Does GotM.agg at q1
                    dsimp only at q1 hi2
                    have Q1 := Lib.hid q1
                    have HI2 := Lib.hid hi2
                    have HO2 := Lib.hid ho2
                    clear q1 K2 hi2 ho2 hb hs
                    go_wp2_with fail
                    refine (Q1.out _ _ HB).mono ?_
                    rintro e w1 ⟨rfl, H1⟩
                    have H1b := H1.alloc (.cells #[.bool true, .bool true, .bool true, .int .i64 a, .int .i64 mg, .int .i64 mc, .int .i64 mv] 49)
                    go_wp2_with (first | (at_builtin; (refine sl_app rfl _ _ 42 _ 8 rfl Try.underlying42 infoInt rfl (by decide) (.slice a8 R.length c8) _ _ [.int .i64 a] rfl rfl (by simp) rfl rfl H1b.up4 (by omega) (by decide) ?_); intro gg cc w2 H2 hs2; obtain ⟨g0, g1, g2, g3, g4, g5, g6, gf⟩ := box7 H2.at1; have gl := lt_of_block H2.at1) | (at_builtin; go_must (refine sl_app rfl _ _ 42 _ 8 rfl Try.underlying42 infoInt rfl (by decide) (.slice a7 S.length c7) _ _ [.int .i64 mv] rfl rfl (by simp) rfl rfl H2.up4 (by omega) (by decide) ?_); intro gg2 cc2 w3 H3 hs3))
                    go_meet
                    exact ⟨_, S ++ [mv], R ++ [a], HI2, HO2, by have Hp := H3.pick [0, 1, 3, 5] 6 (by decide); rw [List.length_append, ints_append, List.length_append, ints_append]; exact Hp⟩
              · subst hsw
                have q1 := K3
                have hi2 := HI.out.wait true ⟨sg, sc, sv⟩
                have ho2 := HOR.out.same (wait_keeps x true ⟨sg, sc, sv⟩).1 (wait_keeps x true ⟨sg, sc, sv⟩).2.1 (wait_keeps x true ⟨sg, sc, sv⟩).2.2
                replace q1 := q1 true
                obtain ⟨⟨re, y⟩, hy⟩ : ∃ r, waitF x true ⟨sg, sc, sv⟩ = r := ⟨_, rfl⟩
                rw [hy] at q1 hi2 ho2
                unfold Wtr.agg at q1
                dsimp only at q1 hi2 ho2
                have Q1 := Lib.hid q1
                have HI2 := Lib.hid (hi2.more (Nat.le_succ k))
                have HO2 := Lib.hid ho2
                clear q1 K3 hi2 ho2 hy
                go_wp2_with fail
                refine (Q1.out _ _ HB).mono ?_
                rintro e w1 ⟨rfl, H1⟩
                go_wp2_with fail
                go_meet
                exact ⟨y, S, R, HI2, HO2, H1.pick [2, 3, 0, 4] 5 (by decide)⟩
              · subst hsw
                have q1 := K3
                have hi2 := HI.out.wait false ⟨sg, sc, sv⟩
                have ho2 := HOR.out.same (wait_keeps x false ⟨sg, sc, sv⟩).1 (wait_keeps x false ⟨sg, sc, sv⟩).2.1 (wait_keeps x false ⟨sg, sc, sv⟩).2.2
                replace q1 := q1 false
                obtain ⟨⟨re, y⟩, hy⟩ : ∃ r, waitF x false ⟨sg, sc, sv⟩ = r := ⟨_, rfl⟩
                rw [hy] at q1 hi2 ho2
                unfold Wtr.agg at q1
                dsimp only at q1 hi2 ho2
                have Q1 := Lib.hid q1
                have HI2 := Lib.hid (hi2.more (Nat.le_succ k))
                have HO2 := Lib.hid ho2
                clear q1 K3 hi2 ho2 hy
                go_wp2_with fail
                refine (Q1.out _ _ HB).mono ?_
                rintro e w1 ⟨rfl, H1⟩
                go_wp2_with fail
                go_meet
                exact ⟨y, S, R, HI2, HO2, H1.pick [2, 3, 0, 4] 5 (by decide)⟩
              · subst hsw
                have q1 := K4
                have hi2 := HI.out.close
                have ho2 := HOR.out.same (close_keeps x).1 (close_keeps x).2.1 (close_keeps x).2.2
                obtain ⟨⟨⟨L1, L2, re⟩, y⟩, hy⟩ : ∃ r, closeF x = r := ⟨_, rfl⟩
                rw [hy] at q1 hi2 ho2
                dsimp only at q1 hi2 ho2
                have Q1 := Lib.hid q1
                have HI2 := Lib.hid (hi2.more (Nat.le_succ k))
                have HO2 := Lib.hid ho2
                clear q1 K4 hi2 ho2 hy
                go_wp2_with fail
                refine (Q1.out _ _ HB).mono ?_
                rintro e w1 ⟨q1, q2, q3, q4, rfl, H1⟩
                go_wp2_with fail
                go_meet
                exact ⟨y, S, R, HI2, HO2, H1.pick [4, 5, 2, 6] 7 (by decide)⟩
              · subst hsw
                have q1 := K5
                have hi2 := HI.out.drop sg
                have ho2 : Ord (dropM x sg) S R := HOR.out.same rfl rfl rfl
                obtain ⟨y, hy⟩ : ∃ r, dropM x sg = r := ⟨_, rfl⟩
                obtain ⟨rr, hrr⟩ : ∃ r, ((x.senders.length : Int) - (without sg x.senders).length) + ((x.receivers.length : Int) - (without sg x.receivers).length) = r := ⟨_, rfl⟩
                rw [hy] at q1 hi2 ho2
                rw [hrr] at q1
                have Q1 := Lib.hid q1
                have HI2 := Lib.hid (hi2.more (Nat.le_succ k))
                have HO2 := Lib.hid ho2
                clear q1 K5 hi2 ho2 hy hrr
                go_wp2_with fail
                refine (Q1.out _ _ HB).mono ?_
                rintro e w1 ⟨rfl, H1⟩
                go_wp2_with fail
                go_meet
                exact ⟨y, S, R, HI2, HO2, H1.pick [2, 3, 0, 4] 5 (by decide)⟩
          case rest =>
            obtain ⟨y, S', R', HI2, HO2, HX⟩ := hcut
            obtain ⟨a7', c7', e7', h7', h7'', _⟩ := HX.slc
            obtain ⟨a8', c8', e8', h8', h8'', _⟩ := HX.up1.slc
            subst e7' e8'
            have os := HO2.out.sent
            have orr := HO2.out.received
            obtain ⟨od, oe⟩ := HO2.out.diff
            have KC := fun w' (H : SL w' (PipeP g y :: [Slc 3 1 (.slice a7' S'.length c7') S'.length (ints S'), Slc 3 1 (.slice a8' R'.length c8') R'.length (ints R'), Old w])) => sl_counts H
            have KL := fun w' H => sl_len (w := w') (g := g) (x := y) (F := [Slc 3 1 (.slice a7' S'.length c7') S'.length (ints S'), Slc 3 1 (.slice a8' R'.length c8') R'.length (ints R'), Old w]) H
            obtain ⟨nb, hnb⟩ : ∃ n, y.buf.length = n := ⟨_, rfl⟩
            rw [hnb] at KL od
            rw [os, orr] at KC
            have os1 := HI2.out.s1
            have or1 := HI2.out.r1
            rw [os] at os1
            rw [orr] at or1
            rw [os, orr] at od oe
            have HKC := Lib.hid KC
            have HKL := Lib.hid KL
            clear KC KL os orr hnb
            go_wp2_with fail
            refine (HKC.out _ HX.up2).mono ?_
            rintro e w4 ⟨rfl, H4⟩
            go_wp2_with fail
            refine (HKL.out _ H4).mono ?_
            rintro e w5 ⟨rfl, rfl⟩
            go_wp2_with fail
            go_loopw [151] (fun i wr => ∃ j : Nat, j ≤ R'.length ∧ i = .int .i64 j ∧ SL wr (PipeP g y :: [Slc 3 1 (.slice a7' S'.length c7') S'.length (ints S'), Slc 3 1 (.slice a8' R'.length c8') R'.length (ints R'), Old w])) (fun i _ => R'.length - (intOf i).toNat)
            case atStart => exact ⟨0, Nat.zero_le _, rfl, H4⟩
            case round =>
              obtain ⟨j, hj, rfl, HJ⟩ := hrel
              by_cases hjl : j < R'.length
              · obtain ⟨p1, o1, q1, cc1⟩ := Rd.int_at (xs := S') (HJ.up1.read Reader.slc) (by omega)
                obtain ⟨p2, o2, q2, cc2⟩ := Rd.int_at (xs := R') (HJ.up2.read Reader.slc) (by omega)
                have g1 := cc1 j (by omega)
                have g2 := cc2 j hjl
                rw [HO2.out.get j hjl] at g1
                subst q1 q2
                clear cc1 cc2
                obtain ⟨u, hu⟩ : ∃ u, R'.getD j 0 = u := ⟨_, rfl⟩
                rw [hu] at g1 g2
                clear hu
                have z1 : (j : Int) < (S'.length : Int) := by omega
                have z2 : (j : Int) < (R'.length : Int) := by omega
                have z3 : (0 : Int) ≤ (j : Int) := by omega
                go_wp2_with fail
                go_quiet (fail)
                go_wp2_with fail
                go_roundw
                case rel => exact ⟨j + 1, by omega, by go_num, HJ.drewN _⟩
                case measure => simp [intOf]; omega
              · go_wp2_with fail
                go_roundw
                case rel => exact ⟨k + 1, y, S', R', by omega, by go_num, HI2, HO2, HJ.pick [1, 2, 0, 3] 4 (by decide)⟩
                case measure => simp [intOf]; omega
        · go_wp2_with fail
          refine (l_hands HR).mono ?_
          rintro e w3 ⟨rfl, H3⟩
          go_wp2_with fail
          go_ret
          exact ⟨rfl, SL.old H3.tl.tl.tl⟩
end

end Go.Proofs.Ytlccpbdpfamekaa

