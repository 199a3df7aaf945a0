/- Layer 9: PipeStill. -/
import Derived.Test.YtlccpbdpfamekaaLaws9C
namespace Go.Proofs.Ytlccpbdpfamekaa
set_option linter.unusedVariables false
set_option linter.unusedSimpArgs false
open Go.RowKit

section
variable {w : World} {F : List Piece} {g h n : Nat} {x : PipeM}

set_option maxRecDepth 100000 in
set_option maxHeartbeats 4000000 in
theorem pipeStill_walk (size : Int) (hsz : (Lit.int .i64 size).wf = true) {v : Value} {L : List Step9} (hl : ArgSteps9 w v L) :
    Calls Try.prog 3 #[.int .i64 size, v] w fun e w' => e = .returned (.bool true) ∧ Frm Nil w w' := by
  obtain ⟨a, cap, rfl, hrd⟩ := hl
  clear hsz
  have hm := hrd.2.1
  unfold maxLen at hm
  have H := SL.start w
  have HO : Reader (Old w) 4 a L.length (L.flatMap Step9.cells) := Reader.old hrd
  by_cases hz : size < 0 ∨ 4 < size
  · have K1 := pipe_new_bad size hz
    have HK1 := Lib.hid K1
    clear K1 hz
    go_enter Try.func3, Try.ntmps3
    go_wp2_with fail
    refine (HK1.out _).mono ?_
    rintro e w1 ⟨rfl, rfl⟩
    go_wp2_with fail
    refine (l_hands H).mono ?_
    rintro e w2 ⟨rfl, H2⟩
    go_wp2_with fail
    go_ret
    exact ⟨rfl, SL.old H2⟩
  · obtain ⟨z, rfl⟩ : ∃ z : Nat, size = z := ⟨size.toNat, by omega⟩
    have hz4 : z ≤ 4 := by omega
    clear hz
    go_enter Try.func3, Try.ntmps3
    go_wp2_with fail
    refine (sl_new z hz4 H).mono ?_
    rintro e w1 ⟨g, rfl, H1⟩
    obtain ⟨n, hn⟩ : ∃ n, L.length = n := ⟨_, rfl⟩
    rw [hn] at HO hm
    rw [hn]
    by_cases hL : 300 < n
    · have d1 : decide (300 < (n : Int)) = true := by simp; omega
      have d2 : decide (300 < n) = true := by simp; omega
      have d3 : (300 : Int) < (n : Int) := by omega
      have HN := Lib.hid hn
      clear hn
      go_wp2_with fail
      refine (l_hands H1).mono ?_
      rintro e w3 ⟨rfl, H3⟩
      go_wp2_with fail
      go_ret
      exact ⟨rfl, SL.old H3.tl⟩
    · have d1 : decide (300 < (n : Int)) = false := by simp; omega
      have d2 : decide (300 < n) = false := by simp; omega
      have d3 : ¬ (300 : Int) < (n : Int) := by omega
      have HN := Lib.hid hn
      clear hn
      go_wp2_with fail
      refine (r_new z hz4 H1).mono ?_
      rintro e w2 ⟨h, rfl, H2⟩
      go_wp2_with fail
      go_loopw [48] (fun i wr => ∃ (k : Nat) (x : PipeM), k ≤ n ∧ i = .int .i64 k ∧ Inv9 k x ∧ SL wr (PipeP g x :: RefP h x :: [Old w])) (fun i _ => n - (intOf i).toNat)
      case atStart => exact ⟨0, emptyM z, Nat.zero_le _, rfl, Inv9.empty hz4, H2.up1⟩
      case round =>
        obtain ⟨k, x, hk, rfl, hI, HR⟩ := hrel
        by_cases hlt : k < n
        · have hlt' : k < L.length := by rw [HN.out]; exact hlt
          have hrr := HR.up2.read HO
          rw [← HN.out] at hrr
          obtain ⟨b, off, e0, d4, d5, d6, d7⟩ := step9_at hrr k hlt'
          subst e0
          obtain ⟨sk, hsk⟩ : ∃ sk, L[k] = sk := ⟨_, rfl⟩
          rw [hsk] at d4 d5 d6 d7
          clear hsk hrr
          have K1 := fun (w' : World) (F : List Piece) (H : SL w' (PipeP g x :: RefP h x :: F)) => l_does sk hI (by omega) H
          have hI1 := hI.step sk
          obtain ⟨y, hy⟩ : ∃ y, stepF x sk = y := ⟨_, rfl⟩
          rw [hy] at K1 hI1
          clear hy hI
          obtain ⟨sw, ⟨sg, sc, sv⟩⟩ := sk
          unfold Step9.agg at K1
          dsimp only at K1 d4 d5 d6 d7
          have HK1 := Lib.hid K1
          have HI := Lib.hid hI1
          clear K1 hI1
          go_wp2_with fail
          refine (HK1.out _ _ (HR.allocd _)).mono ?_
          rintro e w3 ⟨rfl, H3⟩
          have lb1 : y.senders.length ≤ 100000 := by have := HI.out.snd.1; omega
          have lb2 : y.receivers.length ≤ 100000 := by have := HI.out.rcv.1; omega
          have kw1 := fun (w' : World) (F : List Piece) (H : SL w' (PipeP g y :: F)) => sl_waiting true lb1 lb2 H
          have kw2 := fun (w' : World) (F : List Piece) (H : SL w' (PipeP g y :: F)) => sl_waiting false lb1 lb2 H
          simp only [if_true, Bool.false_eq_true, if_false] at kw1 kw2
          have kl := fun (w' : World) (F : List Piece) (H : SL w' (PipeP g y :: F)) => sl_len H
          have kp := fun (w' : World) (F : List Piece) (H : SL w' (PipeP g y :: F)) => sl_cap H
          have kd := fun (w' : World) (F : List Piece) (H : SL w' (PipeP g y :: F)) => sl_closed H
          obtain ⟨ns, hns⟩ : ∃ n, y.senders.length = n := ⟨_, rfl⟩
          obtain ⟨nr, hnr⟩ : ∃ n, y.receivers.length = n := ⟨_, rfl⟩
          obtain ⟨nb, hnb⟩ : ∃ n, y.buf.length = n := ⟨_, rfl⟩
          obtain ⟨zz, hzz⟩ : ∃ n, y.size = n := ⟨_, rfl⟩
          obtain ⟨cl, hcl⟩ : ∃ c, y.closed = c := ⟨_, rfl⟩
          have f1 : 0 < nr → nb = 0 := fun hh => by
            have := HI.out.re (by intro e; rw [e] at hnr; simp at hnr; omega)
            rw [this] at hnb
            simpa using hnb.symm
          have f2 : 0 < ns → nb = zz := fun hh => by
            have := HI.out.se (by intro e; rw [e] at hns; simp at hns; omega)
            omega
          have f3 : cl = true → ns = 0 ∧ nr = 0 := fun hh => by
            have := HI.out.cl (hcl.trans hh)
            rw [this.1] at hns
            rw [this.2] at hnr
            exact ⟨by simpa using hns.symm, by simpa using hnr.symm⟩
          rw [hnb] at kl
          rw [hzz] at kp
          rw [hcl] at kd
          rw [hns] at lb1
          rw [hnr] at lb2
          have KW1 := Lib.hid kw1
          have KW2 := Lib.hid kw2
          have KL := Lib.hid kl
          have KP := Lib.hid kp
          have KD := Lib.hid kd
          have HNS := Lib.hid hns
          have HNR := Lib.hid hnr
          clear kw1 kw2 kl kp kd hns hnr hnb hzz hcl
          go_wp2_with fail
          refine (KW1.out _ _ H3).mono ?_
          rintro e w4 ⟨ax, cx, rfl, _, _, fq⟩
          rw [HNS.out]
          have H4 := H3.later fq
          clear fq
          go_wp2_with fail
          refine (KW2.out _ _ H4).mono ?_
          rintro e w5 ⟨ax', cx', rfl, _, _, fq⟩
          rw [HNR.out]
          have H5 := H4.later fq
          clear fq
          by_cases hnr : 0 < nr
          · by_cases hns : 0 < ns
            · have e1 := f1 hnr
              have e2 := f2 hns
              cases cl with
              | true => have := f3 rfl; omega
              | false =>
                subst e1
                subst e2
                clear f1 f2 f3
                have qnr : decide (0 < (nr : Int)) = true := by simp; omega
                have qnr' : decide (0 < nr) = true := by simp; omega
                have qns : decide (0 < (ns : Int)) = true := by simp; omega
                have qns' : decide (0 < ns) = true := by simp; omega
                go_wp2_with fail
                refine (KW1.out _ _ H5).mono ?_
                intro e w6 hW
                obtain ⟨a1, c1, rfl, H6⟩ := hW.sl H5
                clear hW
                rw [HNS.out] at H6
                rw [HNS.out]
                have lm1 := H6.rd.2.1
                unfold maxLen at lm1
                go_wp2_with fail
                go_loopw [71] (fun i wr => ∃ j : Nat, j ≤ ns ∧ i = .int .i64 j ∧ SL wr (PipeP g y :: RefP h y :: Old w :: [RdP a1 ns 3 (y.senders.flatMap Wtr.cells)])) (fun i _ => ns - (intOf i).toNat)
                case atStart => exact ⟨0, Nat.zero_le _, rfl, H6.dn3⟩
                case round =>
                  obtain ⟨j, hj, rfl, HJ⟩ := hrel
                  by_cases hjl : j < ns
                  · obtain ⟨p1, o1, q1, x0, x1, x2⟩ := wtr_at (HJ.up3.rd) j (by rw [HNS.out]; exact hjl)
                    subst q1
                    obtain ⟨m1, hm1⟩ : ∃ m, y.senders[j]'(by rw [HNS.out]; exact hjl) = m := ⟨_, rfl⟩
                    rw [hm1] at x0 x1 x2
                    have hin : m1 ∈ y.senders := by rw [← hm1]; exact List.getElem_mem _
                    have HIN := Lib.hid hin
                    clear hm1 hin
                    obtain ⟨mg, mc, mv⟩ := m1
                    dsimp only at x0 x1 x2
                    go_wp2_with fail
                    have HJb := (HJ.alloc (.cells #[.int .i64 mg, .int .i64 mc, .int .i64 mv] 32)).dn4
                    obtain ⟨bx, hbx⟩ : ∃ b, wr.heap.size = b := ⟨_, rfl⟩
                    rw [hbx] at HJb
                    simp only [hbx]
                    clear hbx x0 x1 x2
                    refine (KW2.out _ _ HJb).mono ?_
                    intro e w7 hW
                    obtain ⟨a2, c2, rfl, H7⟩ := hW.sl HJb
                    clear hW
                    rw [HNR.out] at H7
                    rw [HNR.out]
                    have lm2 := H7.rd.2.1
                    unfold maxLen at lm2
                    go_wp2_with fail
                    go_loopw [78] (fun i wr => ∃ l : Nat, l ≤ nr ∧ i = .int .i64 l ∧ SL wr (RdP a2 nr 3 (y.receivers.flatMap Wtr.cells) :: PipeP g y :: RefP h y :: Old w :: RdP (some ⟨p1, o1, none⟩) ns 3 (y.senders.flatMap Wtr.cells) :: [row bx #[.int .i64 mg, .int .i64 mc, .int .i64 mv] 32])) (fun i _ => nr - (intOf i).toNat)
                    case atStart => exact ⟨0, Nat.zero_le _, rfl, H7⟩
                    case round =>
                      obtain ⟨l, hl2, rfl, HL⟩ := hrel
                      by_cases hll : l < nr
                      · obtain ⟨p2, o2, q2, z0, z1, z2⟩ := wtr_at (HL.rd) l (by rw [HNR.out]; exact hll)
                        subst q2
                        obtain ⟨m2, hm2⟩ : ∃ m, y.receivers[l]'(by rw [HNR.out]; exact hll) = m := ⟨_, rfl⟩
                        rw [hm2] at z0 z1 z2
                        have hin2 : m2 ∈ y.receivers := by rw [← hm2]; exact List.getElem_mem _
                        have heq := HI.out.own _ HIN.out _ hin2
                        clear hm2 hin2
                        obtain ⟨ng, nc, nv⟩ := m2
                        dsimp only at z0 z1 z2 heq
                        obtain ⟨x0, x1, x2, xf⟩ := pew_cells (HL.at 5 rfl)
                        have xl := lt_of_block (HL.at 5 rfl)
                        subst heq
                        go_wp2_with fail
                        go_roundw
                        case rel => exact ⟨l + 1, by omega, by go_num, HL.allocd _⟩
                        case measure => simp [intOf]; omega
                      · go_wp2_with fail
                        go_roundw
                        case rel => exact ⟨j + 1, by omega, by go_num, HL.pick [1, 2, 3, 4] 6 (by decide)⟩
                        case measure => simp [intOf]; omega
                  · have q9 : ¬ (j : Int) < (ns : Int) := by omega
                    go_wp2_with fail
                    refine (KL.out _ _ HJ).mono ?_
                    rintro e w' ⟨rfl, rfl⟩
                    go_wp2_with fail
                    refine (KL.out _ _ HJ).mono ?_
                    rintro e w' ⟨rfl, rfl⟩
                    go_wp2_with fail
                    refine (KP.out _ _ HJ).mono ?_
                    rintro e w' ⟨rfl, rfl⟩
                    go_wp2_with fail
                    refine (KD.out _ _ HJ).mono ?_
                    rintro e w9 ⟨rfl, H9⟩
                    go_wp2_with fail
                    go_roundw
                    case rel => exact ⟨k + 1, y, by omega, by go_num, HI.out, H9.pick [0, 1, 2] 4 (by decide)⟩
                    case measure => simp [intOf]; omega
            · have e1 := f1 hnr
              cases cl with
              | true => have := f3 rfl; omega
              | false =>
                subst e1
                clear f1 f2 f3
                have qnr : decide (0 < (nr : Int)) = true := by simp; omega
                have qnr' : decide (0 < nr) = true := by simp; omega
                have qns : decide (0 < (ns : Int)) = false := by simp; omega
                have qns' : decide (0 < ns) = false := by simp; omega
                go_wp2_with fail
                refine (KL.out _ _ H5).mono ?_
                rintro e w' ⟨rfl, rfl⟩
                go_wp2_with fail
                refine (KD.out _ _ H5).mono ?_
                rintro e w9 ⟨rfl, H9⟩
                go_wp2_with fail
                go_roundw
                case rel => exact ⟨k + 1, y, by omega, by go_num, HI.out, H9.pick [0, 1, 2] 3 (by decide)⟩
                case measure => simp [intOf]; omega
          · by_cases hns : 0 < ns
            · have e2 := f2 hns
              cases cl with
              | true => have := f3 rfl; omega
              | false =>
                subst e2
                clear f1 f2 f3
                have qnr : decide (0 < (nr : Int)) = false := by simp; omega
                have qnr' : decide (0 < nr) = false := by simp; omega
                have qns : decide (0 < (ns : Int)) = true := by simp; omega
                have qns' : decide (0 < ns) = true := by simp; omega
                go_wp2_with fail
                refine (KL.out _ _ H5).mono ?_
                rintro e w' ⟨rfl, rfl⟩
                go_wp2_with fail
                refine (KP.out _ _ H5).mono ?_
                rintro e w' ⟨rfl, rfl⟩
                go_wp2_with fail
                refine (KD.out _ _ H5).mono ?_
                rintro e w9 ⟨rfl, H9⟩
                go_wp2_with fail
                go_roundw
                case rel => exact ⟨k + 1, y, by omega, by go_num, HI.out, H9.pick [0, 1, 2] 3 (by decide)⟩
                case measure => simp [intOf]; omega
            · obtain rfl : ns = 0 := by omega
              obtain rfl : nr = 0 := by omega
              clear f1 f2 f3 hns hnr
              cases cl
              all_goals
                go_wp2_with fail
                refine (KD.out _ _ H5).mono ?_
                rintro e w9 ⟨rfl, H9⟩
                go_wp2_with fail
                go_roundw
                case rel => exact ⟨k + 1, y, by omega, by go_num, HI.out, H9.pick [0, 1, 2] 3 (by decide)⟩
                case measure => simp [intOf]; omega
        · go_wp2_with fail
          refine (l_hands HR).mono ?_
          rintro e w3 ⟨rfl, H3⟩
          go_wp2_with fail
          go_ret
          exact ⟨rfl, SL.old H3.tl.tl⟩
end

end Go.Proofs.Ytlccpbdpfamekaa

