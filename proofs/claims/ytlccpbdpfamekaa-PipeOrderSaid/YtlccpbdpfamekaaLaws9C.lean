/- Layer 9: PipeReady. -/
import Derived.Test.YtlccpbdpfamekaaLaws9B
namespace Go.Proofs.Ytlccpbdpfamekaa
set_option linter.unusedVariables false
set_option linter.unusedSimpArgs false
open Go.RowKit

section
variable {w : World} {F : List Piece} {g h n : Nat} {x : PipeM}

theorem sl_counts (H : SL w (PipeP g x :: F)) : Calls Try.prog 19 #[.pointer (some ⟨g, 0, none⟩)] w fun e w' => e = .returned (.tuple #[.int .i64 x.sent, .int .i64 x.received]) ∧ SL w' (PipeP g x :: F) := by
  obtain ⟨S, _, h⟩ := H.on
  exact (pipe_counts h).mono (fun e w' q => ⟨q.1, H.later q.2⟩)

theorem sl_closed (H : SL w (PipeP g x :: F)) : Calls Try.prog 18 #[.pointer (some ⟨g, 0, none⟩)] w fun e w' => e = .returned (.bool x.closed) ∧ SL w' (PipeP g x :: F) := by
  obtain ⟨S, _, h⟩ := H.on
  exact (pipe_closed h).mono (fun e w' q => ⟨q.1, H.later q.2⟩)

theorem send_idle (hr : readyF x true = false) (v : Int) : sendF x v = ((gzero, 0), x) := by
  unfold readyF at hr
  simp only [if_true, Bool.or_eq_false_iff, decide_eq_false_iff_not] at hr
  obtain ⟨⟨h1, h2⟩, h3⟩ := hr
  unfold sendF
  rw [if_neg (by simp [h1])]
  have : x.receivers = [] := List.eq_nil_of_length_eq_zero (by omega)
  rw [this]
  simp [h3]

theorem recv_idle (hr : readyF x false = false) : recvF x = (gzero, x) := by
  unfold readyF at hr
  simp only [Bool.false_eq_true, if_false, Bool.or_eq_false_iff, decide_eq_false_iff_not] at hr
  obtain ⟨⟨h1, h2⟩, h3⟩ := hr
  have e1 : x.senders = [] := List.eq_nil_of_length_eq_zero (by omega)
  have e2 : x.buf = [] := List.eq_nil_of_length_eq_zero (by omega)
  unfold recvF
  rw [e1, e2]
  simp [h1]

set_option maxRecDepth 100000 in
set_option maxHeartbeats 4000000 in
theorem pipeReady_walk (size : Int) (hsz : (Lit.int .i64 size).wf = true) {v : Value} {L : List Step9} (hl : ArgSteps9 w v L) (u : Int) (hu : (Lit.int .i64 u).wf = true) :
    Calls Try.prog 7 #[.int .i64 size, v, .int .i64 u] w fun e w' => e = .returned (.bool true) ∧ Frm Nil w w' := by
  obtain ⟨a, cap, rfl, hrd⟩ := hl
  clear hsz hu
  have hm := hrd.2.1
  unfold maxLen at hm
  have H := SL.start w
  have HO : Reader (Old w) 4 a L.length (L.flatMap Step9.cells) := Reader.old hrd
  by_cases hz : size < 0 ∨ 4 < size
  · have K1 := pipe_new_bad size hz
    have K2 := fun w (H : SL w [Old w]) => r_new_bad (w := w) size hz H
    have HK1 := Lib.hid K1
    have HK2 := Lib.hid K2
    clear K1 K2 hz
    go_enter Try.func7, Try.ntmps7
    go_wp2_with fail
    refine (HK1.out _).mono ?_
    rintro e w1 ⟨rfl, rfl⟩
    go_wp2_with fail
    refine (HK2.out _ H).mono ?_
    rintro e w1 ⟨rfl, H1⟩
    go_wp2_with fail
    refine (l_hands H1).mono ?_
    rintro e w2 ⟨rfl, H2⟩
    go_wp2_with fail
    go_ret
    exact ⟨rfl, SL.old H2⟩
  · obtain ⟨z, rfl⟩ : ∃ z : Nat, size = z := ⟨size.toNat, by omega⟩
    have hz4 : z ≤ 4 := by omega
    clear hz
    go_enter Try.func7, Try.ntmps7
    go_wp2_with fail
    refine (sl_new z hz4 H).mono ?_
    rintro e w1 ⟨g, rfl, H1⟩
    go_wp2_with fail
    refine (r_new z hz4 H1).mono ?_
    rintro e w2 ⟨h, rfl, H2⟩
    obtain ⟨n, hn⟩ : ∃ n, L.length = n := ⟨_, rfl⟩
    rw [hn] at HO hm
    rw [hn]
    by_cases hL : 200 < n
    · have d1 : decide (200 < (n : Int)) = true := by simp; omega
      have d2 : decide (200 < n) = true := by simp; omega
      have d3 : (200 : Int) < (n : Int) := by omega
      have HN := Lib.hid hn
      clear hn
      go_wp2_with fail
      refine (l_hands H2).mono ?_
      rintro e w3 ⟨rfl, H3⟩
      go_wp2_with fail
      go_ret
      exact ⟨rfl, SL.old H3.tl.tl⟩
    · have d1 : decide (200 < (n : Int)) = false := by simp; omega
      have d2 : decide (200 < n) = false := by simp; omega
      have d3 : ¬ (200 : Int) < (n : Int) := by omega
      have HN := Lib.hid hn
      clear hn
      go_wp2_with fail
      go_loopw [59] (fun i wr => ∃ (k : Nat) (x : PipeM), k ≤ n ∧ i = .int .i64 k ∧ Inv9 k x ∧ SL wr (PipeP g x :: RefP h x :: [Old w])) (fun i _ => n - (intOf i).toNat)
      case atStart => exact ⟨0, emptyM z, Nat.zero_le _, rfl, Inv9.empty hz4, H2.up1⟩
      case round =>
        obtain ⟨k, x, hk, rfl, hI, HR⟩ := hrel
        by_cases hlt : k < n
        · have hlt' : k < L.length := by rw [HN.out]; exact hlt
          have hrr := HR.up2.read HO
          rw [← HN.out] at hrr
          obtain ⟨b, off, e0, d4, d5, d6, d7⟩ := step9_at hrr k hlt'
          subst e0
          obtain ⟨sk, hsk⟩ : ∃ sk, L[k] = sk := ⟨_, rfl⟩
          rw [hsk] at d4 d5 d6 d7
          clear hsk hrr
          have K1 := fun (w' : World) (F : List Piece) (H : SL w' (PipeP g x :: RefP h x :: F)) => l_does sk hI (by omega) H
          have hI1 := hI.step sk
          obtain ⟨y, hy⟩ : ∃ y, stepF x sk = y := ⟨_, rfl⟩
          rw [hy] at K1 hI1
          clear hy hI
          obtain ⟨sw, ⟨sg, sc, sv⟩⟩ := sk
          unfold Step9.agg at K1
          dsimp only at K1 d4 d5 d6 d7
          have HK1 := Lib.hid K1
          have HI := Lib.hid hI1
          clear K1 hI1
          go_wp2_with fail
          refine (HK1.out _ _ (HR.allocd _)).mono ?_
          rintro e w3 ⟨rfl, H3⟩
          have k1 := fun (w' : World) (F : List Piece) (H : SL w' (PipeP g y :: F)) => sl_ready true H
          have k2 := fun (w' : World) (F : List Piece) (H : SL w' (PipeP g y :: F)) => sl_ready false H
          have ks : ∀ b1, readyF y true = b1 → b1 = false → ∀ (w' : World) (F : List Piece), SL w' (PipeP g y :: F) → Calls Try.prog 23 #[.pointer (some ⟨g, 0, none⟩), .int .i64 u] w' fun e w'' => e = .returned (.tuple #[gzero.agg, .int .i64 0]) ∧ SL w'' (PipeP g y :: F) := by
            intro b1 e1 e2 w' F H
            have q := sl_send u HI.out (by omega) H
            rw [send_idle (e1.trans e2)] at q
            exact q
          have kr : ∀ b2, readyF y false = b2 → b2 = false → ∀ (w' : World) (F : List Piece), SL w' (PipeP g y :: F) → Calls Try.prog 24 #[.pointer (some ⟨g, 0, none⟩)] w' fun e w'' => e = .returned gzero.agg ∧ SL w'' (PipeP g y :: F) := by
            intro b2 e1 e2 w' F H
            have q := sl_recv (by have := HI.out.snd.1; omega) HI.out.buf (HI.out.cnt (by omega)) H
            rw [recv_idle (e1.trans e2)] at q
            exact q
          obtain ⟨b1, hb1⟩ : ∃ b, readyF y true = b := ⟨_, rfl⟩
          obtain ⟨b2, hb2⟩ : ∃ b, readyF y false = b := ⟨_, rfl⟩
          rw [hb1] at k1
          rw [hb2] at k2
          have KS := Lib.hid (ks b1 hb1)
          have KR := Lib.hid (kr b2 hb2)
          unfold gzero GotM.agg wzero at KS KR
          dsimp only at KS KR
          have KQ1 := Lib.hid k1
          have KQ2 := Lib.hid k2
          clear k1 k2 ks kr hb1 hb2
          go_wp2_with fail
          refine (KQ1.out _ _ H3).mono ?_
          rintro e w3' ⟨rfl, H3'⟩
          go_wp2_with fail
          refine (KQ2.out _ _ H3').mono ?_
          rintro e w3'' ⟨rfl, H3''⟩
          go_wp2_with fail
          refine (sl_counts H3'').mono ?_
          rintro e w4 ⟨rfl, H4⟩
          cases b1 with
          | false => cases b2 with
            | false =>
              go_wp2_with fail
              refine (KS.out trivial _ _ H4).mono ?_
              rintro e w5 ⟨rfl, H5⟩
              go_wp2_with fail
              have H5b := (H5.alloc (.cells #[.bool false, .bool false, .bool false, .int .i64 0, .int .i64 0, .int .i64 0, .int .i64 0] 49)).up1
              obtain ⟨gb, hgb⟩ : ∃ b, w5.heap.size = b := ⟨_, rfl⟩
              rw [hgb] at H5b
              simp only [hgb]
              clear hgb
              refine (sl_counts H5b).mono ?_
              rintro e w6 ⟨rfl, H6⟩
              obtain ⟨s0, s1, s2, s3, s4, s5, s6, sf⟩ := box7 H6.at1
              have sl := lt_of_block H6.at1
              go_wp2_with fail
              refine (KR.out trivial _ _ H6).mono ?_
              rintro e w7 ⟨rfl, H7⟩
              go_wp2_with fail
              have H7b := (H7.alloc (.cells #[.bool false, .bool false, .bool false, .int .i64 0, .int .i64 0, .int .i64 0, .int .i64 0] 49)).up1
              obtain ⟨gc, hgb⟩ : ∃ b, w7.heap.size = b := ⟨_, rfl⟩
              rw [hgb] at H7b
              simp only [hgb]
              clear hgb
              refine (sl_counts H7b).mono ?_
              rintro e w8 ⟨rfl, H8⟩
              obtain ⟨r0, r1, r2, r3, r4, r5, r6, rf⟩ := box7 H8.at1
              have rl := lt_of_block H8.at1
              go_wp2_with fail
              go_roundw
              case rel => exact ⟨k + 1, y, by omega, by go_num, HI.out, H8.drop1.drop1⟩
              case measure => simp [intOf]; omega

            | true =>
              go_wp2_with fail
              refine (KS.out trivial _ _ H4).mono ?_
              rintro e w5 ⟨rfl, H5⟩
              go_wp2_with fail
              have H5b := (H5.alloc (.cells #[.bool false, .bool false, .bool false, .int .i64 0, .int .i64 0, .int .i64 0, .int .i64 0] 49)).up1
              obtain ⟨gb, hgb⟩ : ∃ b, w5.heap.size = b := ⟨_, rfl⟩
              rw [hgb] at H5b
              simp only [hgb]
              clear hgb
              refine (sl_counts H5b).mono ?_
              rintro e w6 ⟨rfl, H6⟩
              obtain ⟨s0, s1, s2, s3, s4, s5, s6, sf⟩ := box7 H6.at1
              have sl := lt_of_block H6.at1
              go_wp2_with fail
              go_roundw
              case rel => exact ⟨k + 1, y, by omega, by go_num, HI.out, H6.drop1⟩
              case measure => simp [intOf]; omega

          | true => cases b2 with
            | false =>
              go_wp2_with fail
              refine (KR.out trivial _ _ H4).mono ?_
              rintro e w7 ⟨rfl, H7⟩
              go_wp2_with fail
              have H7b := (H7.alloc (.cells #[.bool false, .bool false, .bool false, .int .i64 0, .int .i64 0, .int .i64 0, .int .i64 0] 49)).up1
              obtain ⟨gc, hgb⟩ : ∃ b, w7.heap.size = b := ⟨_, rfl⟩
              rw [hgb] at H7b
              simp only [hgb]
              clear hgb
              refine (sl_counts H7b).mono ?_
              rintro e w8 ⟨rfl, H8⟩
              obtain ⟨r0, r1, r2, r3, r4, r5, r6, rf⟩ := box7 H8.at1
              have rl := lt_of_block H8.at1
              go_wp2_with fail
              go_roundw
              case rel => exact ⟨k + 1, y, by omega, by go_num, HI.out, H8.drop1⟩
              case measure => simp [intOf]; omega

            | true =>
              go_wp2_with fail
              go_roundw
              case rel => exact ⟨k + 1, y, by omega, by go_num, HI.out, H4⟩
              case measure => simp [intOf]; omega

        · go_wp2_with fail
          refine (l_hands HR).mono ?_
          rintro e w3 ⟨rfl, H3⟩
          go_wp2_with fail
          go_ret
          exact ⟨rfl, SL.old H3.tl.tl⟩
end

end Go.Proofs.Ytlccpbdpfamekaa

