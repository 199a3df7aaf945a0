/- Layer 9: PipeSteps. -/
import Derived.Test.YtlccpbdpfamekaaLaws9C
import Derived.Deep.DrawnRows
namespace Go.Proofs.Ytlccpbdpfamekaa
set_option linter.unusedVariables false
set_option linter.unusedSimpArgs false
open Go.RowKit

section
variable {w : World} {F : List Piece} {g h n : Nat} {x : PipeM}

set_option maxHeartbeats 400000 in
theorem r_ready_q (s : Bool) (H : SL w (RefP h x :: F)) : Calls Try.prog 21 #[.pointer (some ⟨h, 0, none⟩), .bool s] w fun e w' => e = .returned (.bool (readyF x s)) ∧ Frm Nil w w' := by
  obtain ⟨a1, c1, a2, c2, a3, c3, H1⟩ := ref_open H
  obtain ⟨r0, r1, r2, r3, r4, r5, r6, rf⟩ := box7 H1.at0
  have rl := lt_of_block H1.at0
  obtain ⟨R, hR⟩ : ∃ R, readyF x s = R := ⟨_, rfl⟩
  rw [hR]
  unfold readyF at hR
  obtain ⟨cl, hcl⟩ : ∃ cl, x.closed = cl := ⟨_, rfl⟩
  obtain ⟨n1, hn1⟩ : ∃ n, x.buf.length = n := ⟨_, rfl⟩
  obtain ⟨n2, hn2⟩ : ∃ n, x.senders.length = n := ⟨_, rfl⟩
  obtain ⟨n3, hn3⟩ : ∃ n, x.receivers.length = n := ⟨_, rfl⟩
  obtain ⟨z, hz⟩ : ∃ n, x.size = n := ⟨_, rfl⟩
  rw [hcl, hn1, hn2, hn3, hz] at hR
  rw [hcl] at r4
  rw [hn1] at r1
  rw [hn2] at r2
  rw [hn3] at r3
  rw [hz] at r0
  have HR := Lib.hid hR.symm
  clear hR hcl hn1 hn2 hn3 hz H1
  cases s
  · simp only [Bool.false_eq_true, if_false] at HR
    go_enter Try.func21, Try.ntmps21
    cases cl with
    | true =>
      go_wp2_with fail
      skip
      go_ret
      exact ⟨ret_bool (by rw [HR.out]; rfl), (by repeat (first | with_reducible exact Frm.refl _ _ | apply Frm.drewN | apply Frm.drew | apply Frm.alloc))⟩
    | false =>
      by_cases h0 : 0 < (n2 : Int)
      · have hb0 : decide (0 < (n2 : Int)) = true := by simpa using h0
        have hb0n : decide (0 < n2) = true := by simp; omega
        go_wp2_with fail
        skip
        go_ret
        exact ⟨ret_bool (by rw [HR.out]; simp; omega), (by repeat (first | with_reducible exact Frm.refl _ _ | apply Frm.drewN | apply Frm.drew | apply Frm.alloc))⟩
      · have hb0 : decide (0 < (n2 : Int)) = false := by simpa using h0
        have hb0n : decide (0 < n2) = false := by simp; omega
        go_wp2_with fail
        skip
        go_ret
        exact ⟨ret_bool (by rw [HR.out, Bool.eq_iff_iff]; simp; try omega), (by repeat (first | with_reducible exact Frm.refl _ _ | apply Frm.drewN | apply Frm.drew | apply Frm.alloc))⟩
  · simp only [if_true] at HR
    go_enter Try.func21, Try.ntmps21
    cases cl with
    | true =>
      go_wp2_with fail
      go_quiet (fail)
      go_wp2_with fail
      go_ret
      exact ⟨ret_bool (by rw [HR.out]; rfl), (by repeat (first | with_reducible exact Frm.refl _ _ | apply Frm.drewN | apply Frm.drew | apply Frm.alloc))⟩
    | false =>
      by_cases h0 : 0 < (n3 : Int)
      · have hb0 : decide (0 < (n3 : Int)) = true := by simpa using h0
        have hb0n : decide (0 < n3) = true := by simp; omega
        go_wp2_with fail
        go_quiet (fail)
        go_wp2_with fail
        go_ret
        exact ⟨ret_bool (by rw [HR.out]; simp; omega), (by repeat (first | with_reducible exact Frm.refl _ _ | apply Frm.drewN | apply Frm.drew | apply Frm.alloc))⟩
      · have hb0 : decide (0 < (n3 : Int)) = false := by simpa using h0
        have hb0n : decide (0 < n3) = false := by simp; omega
        by_cases h1 : (n1 : Int) < (z : Int)
        · have hb1 : decide ((n1 : Int) < (z : Int)) = true := by simpa using h1
          have hb1n : decide (n1 < z) = true := by simp; omega
          go_wp2_with fail
          go_quiet (fail)
          go_wp2_with fail
          go_ret
          exact ⟨ret_bool (by rw [HR.out]; simp; omega), (by repeat (first | with_reducible exact Frm.refl _ _ | apply Frm.drewN | apply Frm.drew | apply Frm.alloc))⟩
        · have hb1 : decide ((n1 : Int) < (z : Int)) = false := by simpa using h1
          have hb1n : decide (n1 < z) = false := by simp; omega
          go_wp2_with fail
          go_quiet (fail)
          go_wp2_with fail
          go_ret
          exact ⟨ret_bool (by rw [HR.out]; simp; omega), (by repeat (first | with_reducible exact Frm.refl _ _ | apply Frm.drewN | apply Frm.drew | apply Frm.alloc))⟩

set_option maxRecDepth 100000 in
set_option maxHeartbeats 400000 in
theorem l_same_q {a b : Option Addr} {ca cb : Nat} {L : List Wtr} {n : Nat} (hn : n = L.length) (hA : Rd w 3 a n (L.flatMap Wtr.cells)) (hB : Rd w 3 b n (L.flatMap Wtr.cells)) :
    Calls Try.prog 22 #[.slice a n ca, .slice b n cb] w fun e w' => e = .returned (.bool true) ∧ Frm Nil w w' := by
  subst hn
  have hm := hA.2.1
  unfold maxLen at hm
  go_enter Try.func22, Try.ntmps22
  go_wp2_with fail
  go_loopw [13] (fun j wr => ∃ k : Nat, k ≤ L.length ∧ j = .int .i64 k ∧ Frm Nil w wr) (fun j _ => L.length - (intOf j).toNat)
  case atStart => exact ⟨0, Nat.zero_le _, rfl, Frm.refl _ _⟩
  case round =>
    obtain ⟨k, hk, rfl, HR⟩ := hrel
    by_cases hlt : k < L.length
    · obtain ⟨b1, o1, e1, d0, d1, d2⟩ := wtr_at (hA.nil HR) k hlt
      obtain ⟨b2, o2, e2, c0, c1, c2⟩ := wtr_at (hB.nil HR) k hlt
      subst e1 e2
      obtain ⟨m, hm⟩ : ∃ m, L[k] = m := ⟨_, rfl⟩
      rw [hm] at d0 d1 d2 c0 c1 c2
      clear hm
      have K := l_ref m
      obtain ⟨mg, mc, mv⟩ := m
      unfold Wtr.agg at K
      dsimp only at d0 d1 d2 c0 c1 c2 K
      have HK := Lib.hid K
      clear K
      go_wp2_with fail
      go_region_held3 (fun w' => w'.cell? ⟨b1, o1 + k * 3, none⟩ = some (.int .i64 mg) ∧ w'.cell? ⟨b1, o1 + k * 3 + 1, none⟩ = some (.int .i64 mc) ∧ w'.cell? ⟨b1, o1 + k * 3 + 2, none⟩ = some (.int .i64 mv) ∧ w'.cell? ⟨b2, o2 + k * 3, none⟩ = some (.int .i64 mg) ∧ w'.cell? ⟨b2, o2 + k * 3 + 1, none⟩ = some (.int .i64 mc) ∧ w'.cell? ⟨b2, o2 + k * 3 + 2, none⟩ = some (.int .i64 mv)) (first | go_keep | (go_split_ands; refine ⟨?_, ?_, ?_, ?_, ?_, ?_⟩ <;> exact Frm.out (by assumption) (by assumption) (fun h => h))) ((go_at_call 46; refine (HK.out _).mono ?_; rintro e w1 ⟨rfl, f1⟩))
      all_goals
        go_wp2_with fail
        go_roundw
        case rel => exact ⟨k + 1, by omega, by go_num, (HR.drewN 1).then f1⟩
        case measure => simp [intOf]; omega
    · go_wp2_with fail
      go_ret
      exact ⟨rfl, HR⟩

theorem stepF_size (x : PipeM) (s : Step9) : (stepF x s).size = x.size := by
  unfold stepF sendF recvF waitF closeF dropM
  split
  · split
    · rfl
    · split
      · rfl
      · split <;> rfl
  split
  · split
    · rfl
    · rfl
    · rfl
    · split <;> rfl
  split
  · split
    · rfl
    · split <;> rfl
  split
  · split <;> rfl
  split <;> rfl

attribute [local go_sem ↓] Go.wp_at_zero Go.wp_at_succ

set_option maxRecDepth 100000 in
set_option maxHeartbeats 4000000 in
theorem pipeSteps_walk (size : Int) (hsz : (Lit.int .i64 size).wf = true) {v : Value} {L : List Step9} (hl : ArgSteps9 w v L) :
    Calls Try.prog 4 #[.int .i64 size, v] w fun e w' => e = .returned (.bool true) ∧ Frm Nil w w' := by
  obtain ⟨a, cap, rfl, hrd⟩ := hl
  clear hsz
  have hm := hrd.2.1
  unfold maxLen at hm
  have H := SL.start w
  have HO : Reader (Old w) 4 a L.length (L.flatMap Step9.cells) := Reader.old hrd
  by_cases hz : size < 0 ∨ 4 < size
  · have K1 := pipe_new_bad size hz
    have K2 := fun w (H : SL w [Old w]) => r_new_bad (w := w) size hz H
    have HK1 := Lib.hid K1
    have HK2 := Lib.hid K2
    clear K1 K2 hz
    go_enter Try.func4, Try.ntmps4
    go_wp2_with fail
    refine (HK1.out _).mono ?_
    rintro e w1 ⟨rfl, rfl⟩
    go_wp2_with fail
    refine (HK2.out _ H).mono ?_
    rintro e w1 ⟨rfl, H1⟩
    go_wp2_with fail
    refine (l_hands H1).mono ?_
    rintro e w2 ⟨rfl, H2⟩
    go_wp2_with fail
    go_ret
    exact ⟨rfl, SL.old H2⟩
  · obtain ⟨z, rfl⟩ : ∃ z : Nat, size = z := ⟨size.toNat, by omega⟩
    have hz4 : z ≤ 4 := by omega
    clear hz
    go_enter Try.func4, Try.ntmps4
    go_wp2_with fail
    refine (sl_new z hz4 H).mono ?_
    rintro e w1 ⟨g, rfl, H1⟩
    go_wp2_with fail
    refine (r_new z hz4 H1).mono ?_
    rintro e w2 ⟨h, rfl, H2⟩
    obtain ⟨n, hn⟩ : ∃ n, L.length = n := ⟨_, rfl⟩
    rw [hn] at HO hm
    rw [hn]
    by_cases hL : 300 < n
    · have d1 : decide (300 < (n : Int)) = true := by simp; omega
      have d2 : decide (300 < n) = true := by simp; omega
      have d3 : (300 : Int) < (n : Int) := by omega
      have HN := Lib.hid hn
      clear hn
      go_wp2_with fail
      refine (l_hands H2).mono ?_
      rintro e w3 ⟨rfl, H3⟩
      go_wp2_with fail
      go_ret
      exact ⟨rfl, SL.old H3.tl.tl⟩
    · have d1 : decide (300 < (n : Int)) = false := by simp; omega
      have d2 : decide (300 < n) = false := by simp; omega
      have d3 : ¬ (300 : Int) < (n : Int) := by omega
      have HN := Lib.hid hn
      clear hn
      go_wp2_with fail
      go_loopw [43] (fun i wr => ∃ (k : Nat) (x : PipeM), k ≤ n ∧ i = .int .i64 k ∧ Inv9 k x ∧ Hid (x.size = z) ∧ SL wr (PipeP g x :: RefP h x :: [Old w])) (fun i _ => n - (intOf i).toNat)
      case atStart => exact ⟨0, emptyM z, Nat.zero_le _, rfl, Inv9.empty hz4, Lib.hid rfl, H2.up1⟩
      case round =>
        obtain ⟨k, x, hk, rfl, hI, hxz, HR⟩ := hrel
        by_cases hlt : k < n
        · have hlt' : k < L.length := by rw [HN.out]; exact hlt
          have hrr := HR.up2.read HO
          rw [← HN.out] at hrr
          obtain ⟨b, off, e0, d4, d5, d6, d7⟩ := step9_at hrr k hlt'
          subst e0
          obtain ⟨sk, hsk⟩ : ∃ sk, L[k] = sk := ⟨_, rfl⟩
          rw [hsk] at d4 d5 d6 d7
          clear hsk hrr
          have K1 := fun (w' : World) (F : List Piece) (H : SL w' (PipeP g x :: RefP h x :: F)) => l_does sk hI (by omega) H
          have hI1 := hI.step sk
          have hyz := (stepF_size x sk).trans hxz.out
          obtain ⟨y, hy⟩ : ∃ y, stepF x sk = y := ⟨_, rfl⟩
          rw [hy] at K1 hI1 hyz
          clear hy hI
          obtain ⟨sw, ⟨sg, sc, sv⟩⟩ := sk
          unfold Step9.agg at K1
          dsimp only at K1 d4 d5 d6 d7
          have HK1 := Lib.hid K1
          have HI := Lib.hid hI1
          have HYZ := Lib.hid hyz
          clear K1 hI1 hyz
          go_wp2_with fail
          refine (HK1.out _ _ (HR.allocd _)).mono ?_
          rintro e w3 ⟨rfl, H3⟩
          go_wp2_with fail
          refine (sl_counts H3).mono ?_
          rintro e w4 ⟨rfl, H4⟩
          obtain ⟨a1, c1, a2, c2, a3, c3, H5⟩ := ref_open H4.up1
          obtain ⟨r0, r1, r2, r3, r4, r5, r6, rf⟩ := box7 H5.at0
          have rl := lt_of_block H5.at0
          have KL := Lib.hid (fun w' (f : Frm Nil w4 w') => sl_len (H4.later f))
          have kc := fun w' (f : Frm Nil w4 w') => sl_cap (H4.later f)
          rw [HYZ.out] at kc
          have KC := Lib.hid kc
          have KD := Lib.hid (fun w' (f : Frm Nil w4 w') => (H4.later f).on.elim (fun S h => pipe_closed h.2))
          have KR := Lib.hid (fun (s : Bool) w' (f : Frm Nil w4 w') => (H4.later f).on.elim (fun S h => pipe_ready h.2 s))
          have KQ := Lib.hid (fun (s : Bool) w' (f : Frm Nil w4 w') => r_ready_q s (H4.later f).up1)
          have lb1 : y.senders.length ≤ 100000 := by have := HI.out.snd.1; omega
          have lb2 : y.receivers.length ≤ 100000 := by have := HI.out.rcv.1; omega
          have KW1 := Lib.hid (fun w' (f : Frm Nil w4 w') => sl_waiting true lb1 lb2 (H4.later f))
          have KW2 := Lib.hid (fun w' (f : Frm Nil w4 w') => sl_waiting false lb1 lb2 (H4.later f))
          simp only [if_true, Bool.false_eq_true, if_false] at KW1 KW2
          have KB1 := Lib.hid (fun w' (f : Frm Nil w4 w') => ((H5.later f).up2.read Reader.slc))
          have KB2 := Lib.hid (fun w' (f : Frm Nil w4 w') => ((H5.later f).up3.read Reader.slc))
          have lm1 := (KB1.out _ (Frm.refl _ _)).2.1
          have lm2 := (KB2.out _ (Frm.refl _ _)).2.1
          unfold maxLen at lm1 lm2
          clear kc
          have KS1 := Lib.hid (fun a c w' (hr : Rd w' 3 a y.senders.length (y.senders.flatMap Wtr.cells)) (f : Frm Nil w4 w') => l_same_q (ca := c) (cb := c2) (L := y.senders) rfl hr (KB1.out w' f))
          have KS2 := Lib.hid (fun a c w' (hr : Rd w' 3 a y.receivers.length (y.receivers.flatMap Wtr.cells)) (f : Frm Nil w4 w') => l_same_q (ca := c) (cb := c3) (L := y.receivers) rfl hr (KB2.out w' f))
          go_wp2_with fail
          simp only [List.append_eq, List.cons_append, List.nil_append]
          go_region_held3 (fun w' => w'.cell? ⟨h, 5, none⟩ = some (.int .i64 y.sent) ∧ w'.cell? ⟨h, 6, none⟩ = some (.int .i64 y.received) ∧ w'.cell? ⟨h, 1, none⟩ = some (.slice a1 y.buf.length c1) ∧ w'.cell? ⟨h, 4, none⟩ = some (.bool y.closed) ∧ w'.cell? ⟨h, 2, none⟩ = some (.slice a2 y.senders.length c2) ∧ w'.cell? ⟨h, 3, none⟩ = some (.slice a3 y.receivers.length c3)) (first | go_keep | (go_split_ands; refine ⟨?_, ?_, ?_, ?_, ?_, ?_⟩ <;> exact Frm.out (by assumption) (by assumption) (fun h => h))) (first | (go_at_call 16; (with_reducible refine (KL.out _ (by repeat (first | with_reducible exact Frm.refl _ _ | apply Frm.drewN | apply Frm.drew | apply Frm.alloc | (refine Frm.then ?_ (by assumption))))).mono ?_); rintro e w' ⟨rfl, rfl⟩) | (go_at_call 17; (with_reducible refine (KC.out _ (by repeat (first | with_reducible exact Frm.refl _ _ | apply Frm.drewN | apply Frm.drew | apply Frm.alloc | (refine Frm.then ?_ (by assumption))))).mono ?_); rintro e w' ⟨rfl, rfl⟩) | (go_at_call 18; (with_reducible refine (KD.out _ (by repeat (first | with_reducible exact Frm.refl _ _ | apply Frm.drewN | apply Frm.drew | apply Frm.alloc | (refine Frm.then ?_ (by assumption))))).mono ?_); rintro e w' ⟨rfl, fq⟩) | (go_at_call 20; (with_reducible refine (KR.out _ _ (by repeat (first | with_reducible exact Frm.refl _ _ | apply Frm.drewN | apply Frm.drew | apply Frm.alloc | (refine Frm.then ?_ (by assumption))))).mono ?_); rintro e w' ⟨rfl, fq⟩) | (go_at_call 21; (with_reducible refine (KQ.out _ _ (by repeat (first | with_reducible exact Frm.refl _ _ | apply Frm.drewN | apply Frm.drew | apply Frm.alloc | (refine Frm.then ?_ (by assumption))))).mono ?_); rintro e w' ⟨rfl, fq⟩) | (go_at_call 15; (with_reducible refine (KW1.out _ (by repeat (first | with_reducible exact Frm.refl _ _ | apply Frm.drewN | apply Frm.drew | apply Frm.alloc | (refine Frm.then ?_ (by assumption))))).mono ?_); rintro e w' ⟨aq, cq, rfl, hq, _, fq⟩) | (go_at_call 15; (with_reducible refine (KW2.out _ (by repeat (first | with_reducible exact Frm.refl _ _ | apply Frm.drewN | apply Frm.drew | apply Frm.alloc | (refine Frm.then ?_ (by assumption))))).mono ?_); rintro e w' ⟨aq, cq, rfl, hq, _, fq⟩) | (go_at_call 22; (with_reducible refine (KS1.out _ _ _ (by assumption) (by repeat (first | with_reducible exact Frm.refl _ _ | apply Frm.drewN | apply Frm.drew | apply Frm.alloc | (refine Frm.then ?_ (by assumption))))).mono ?_); rintro e w' ⟨rfl, fq⟩) | (go_at_call 22; (with_reducible refine (KS2.out _ _ _ (by assumption) (by repeat (first | with_reducible exact Frm.refl _ _ | apply Frm.drewN | apply Frm.drew | apply Frm.alloc | (refine Frm.then ?_ (by assumption))))).mono ?_); rintro e w' ⟨rfl, fq⟩))
          all_goals
            go_wp2_with fail
            go_roundw
            case rel => exact ⟨k + 1, y, by omega, by go_num, HI.out, HYZ, H4.later (by repeat (first | with_reducible exact Frm.refl _ _ | apply Frm.drewN | apply Frm.drew | apply Frm.alloc | (refine Frm.then ?_ (by assumption))))⟩
            case measure => simp [intOf]; omega
        · go_wp2_with fail
          refine (l_hands HR).mono ?_
          rintro e w3 ⟨rfl, H3⟩
          go_wp2_with fail
          go_ret
          exact ⟨rfl, SL.old H3.tl.tl⟩
end

end Go.Proofs.Ytlccpbdpfamekaa
