/- Layer 9: calls that leave all alone (as in the text of PipeSteps), for layer 10. -/
import Derived.Test.YtlccpbdpfamekaaLaws9A
namespace Go.Proofs.Ytlccpbdpfamekaa
set_option linter.unusedVariables false
set_option linter.unusedSimpArgs false
open Go.RowKit

section
variable {w : World} {F : List Piece} {g h n : Nat} {x : PipeM}

set_option maxHeartbeats 400000 in
theorem r_ready_q (s : Bool) (H : SL w (RefP h x :: F)) : Calls Try.prog 21 #[.pointer (some ⟨h, 0, none⟩), .bool s] w fun e w' => e = .returned (.bool (readyF x s)) ∧ Frm Nil w w' := by
  obtain ⟨a1, c1, a2, c2, a3, c3, H1⟩ := ref_open H
  obtain ⟨r0, r1, r2, r3, r4, r5, r6, rf⟩ := box7 H1.at0
  have rl := lt_of_block H1.at0
  obtain ⟨R, hR⟩ : ∃ R, readyF x s = R := ⟨_, rfl⟩
  rw [hR]
  unfold readyF at hR
  obtain ⟨cl, hcl⟩ : ∃ cl, x.closed = cl := ⟨_, rfl⟩
  obtain ⟨n1, hn1⟩ : ∃ n, x.buf.length = n := ⟨_, rfl⟩
  obtain ⟨n2, hn2⟩ : ∃ n, x.senders.length = n := ⟨_, rfl⟩
  obtain ⟨n3, hn3⟩ : ∃ n, x.receivers.length = n := ⟨_, rfl⟩
  obtain ⟨z, hz⟩ : ∃ n, x.size = n := ⟨_, rfl⟩
  rw [hcl, hn1, hn2, hn3, hz] at hR
  rw [hcl] at r4
  rw [hn1] at r1
  rw [hn2] at r2
  rw [hn3] at r3
  rw [hz] at r0
  have HR := Lib.hid hR.symm
  clear hR hcl hn1 hn2 hn3 hz H1
  cases s
  · simp only [Bool.false_eq_true, if_false] at HR
    go_enter Try.func21, Try.ntmps21
    cases cl with
    | true =>
      go_wp2_with fail
      skip
      go_ret
      exact ⟨ret_bool (by rw [HR.out]; rfl), (by repeat (first | with_reducible exact Frm.refl _ _ | apply Frm.drewN | apply Frm.drew | apply Frm.alloc))⟩
    | false =>
      by_cases h0 : 0 < (n2 : Int)
      · have hb0 : decide (0 < (n2 : Int)) = true := by simpa using h0
        have hb0n : decide (0 < n2) = true := by simp; omega
        go_wp2_with fail
        skip
        go_ret
        exact ⟨ret_bool (by rw [HR.out]; simp; omega), (by repeat (first | with_reducible exact Frm.refl _ _ | apply Frm.drewN | apply Frm.drew | apply Frm.alloc))⟩
      · have hb0 : decide (0 < (n2 : Int)) = false := by simpa using h0
        have hb0n : decide (0 < n2) = false := by simp; omega
        go_wp2_with fail
        skip
        go_ret
        exact ⟨ret_bool (by rw [HR.out, Bool.eq_iff_iff]; simp; try omega), (by repeat (first | with_reducible exact Frm.refl _ _ | apply Frm.drewN | apply Frm.drew | apply Frm.alloc))⟩
  · simp only [if_true] at HR
    go_enter Try.func21, Try.ntmps21
    cases cl with
    | true =>
      go_wp2_with fail
      go_quiet (fail)
      go_wp2_with fail
      go_ret
      exact ⟨ret_bool (by rw [HR.out]; rfl), (by repeat (first | with_reducible exact Frm.refl _ _ | apply Frm.drewN | apply Frm.drew | apply Frm.alloc))⟩
    | false =>
      by_cases h0 : 0 < (n3 : Int)
      · have hb0 : decide (0 < (n3 : Int)) = true := by simpa using h0
        have hb0n : decide (0 < n3) = true := by simp; omega
        go_wp2_with fail
        go_quiet (fail)
        go_wp2_with fail
        go_ret
        exact ⟨ret_bool (by rw [HR.out]; simp; omega), (by repeat (first | with_reducible exact Frm.refl _ _ | apply Frm.drewN | apply Frm.drew | apply Frm.alloc))⟩
      · have hb0 : decide (0 < (n3 : Int)) = false := by simpa using h0
        have hb0n : decide (0 < n3) = false := by simp; omega
        by_cases h1 : (n1 : Int) < (z : Int)
        · have hb1 : decide ((n1 : Int) < (z : Int)) = true := by simpa using h1
          have hb1n : decide (n1 < z) = true := by simp; omega
          go_wp2_with fail
          go_quiet (fail)
          go_wp2_with fail
          go_ret
          exact ⟨ret_bool (by rw [HR.out]; simp; omega), (by repeat (first | with_reducible exact Frm.refl _ _ | apply Frm.drewN | apply Frm.drew | apply Frm.alloc))⟩
        · have hb1 : decide ((n1 : Int) < (z : Int)) = false := by simpa using h1
          have hb1n : decide (n1 < z) = false := by simp; omega
          go_wp2_with fail
          go_quiet (fail)
          go_wp2_with fail
          go_ret
          exact ⟨ret_bool (by rw [HR.out]; simp; omega), (by repeat (first | with_reducible exact Frm.refl _ _ | apply Frm.drewN | apply Frm.drew | apply Frm.alloc))⟩

set_option maxRecDepth 100000 in
set_option maxHeartbeats 400000 in
theorem l_same_q {a b : Option Addr} {ca cb : Nat} {L : List Wtr} {n : Nat} (hn : n = L.length) (hA : Rd w 3 a n (L.flatMap Wtr.cells)) (hB : Rd w 3 b n (L.flatMap Wtr.cells)) :
    Calls Try.prog 22 #[.slice a n ca, .slice b n cb] w fun e w' => e = .returned (.bool true) ∧ Frm Nil w w' := by
  subst hn
  have hm := hA.2.1
  unfold maxLen at hm
  go_enter Try.func22, Try.ntmps22
  go_wp2_with fail
  go_loopw [13] (fun j wr => ∃ k : Nat, k ≤ L.length ∧ j = .int .i64 k ∧ Frm Nil w wr) (fun j _ => L.length - (intOf j).toNat)
  case atStart => exact ⟨0, Nat.zero_le _, rfl, Frm.refl _ _⟩
  case round =>
    obtain ⟨k, hk, rfl, HR⟩ := hrel
    by_cases hlt : k < L.length
    · obtain ⟨b1, o1, e1, d0, d1, d2⟩ := wtr_at (hA.nil HR) k hlt
      obtain ⟨b2, o2, e2, c0, c1, c2⟩ := wtr_at (hB.nil HR) k hlt
      subst e1 e2
      obtain ⟨m, hm⟩ : ∃ m, L[k] = m := ⟨_, rfl⟩
      rw [hm] at d0 d1 d2 c0 c1 c2
      clear hm
      have K := l_ref m
      obtain ⟨mg, mc, mv⟩ := m
      unfold Wtr.agg at K
      dsimp only at d0 d1 d2 c0 c1 c2 K
      have HK := Lib.hid K
      clear K
      go_wp2_with fail
      go_region_held3 (fun w' => w'.cell? ⟨b1, o1 + k * 3, none⟩ = some (.int .i64 mg) ∧ w'.cell? ⟨b1, o1 + k * 3 + 1, none⟩ = some (.int .i64 mc) ∧ w'.cell? ⟨b1, o1 + k * 3 + 2, none⟩ = some (.int .i64 mv) ∧ w'.cell? ⟨b2, o2 + k * 3, none⟩ = some (.int .i64 mg) ∧ w'.cell? ⟨b2, o2 + k * 3 + 1, none⟩ = some (.int .i64 mc) ∧ w'.cell? ⟨b2, o2 + k * 3 + 2, none⟩ = some (.int .i64 mv)) (first | go_keep | (go_split_ands; refine ⟨?_, ?_, ?_, ?_, ?_, ?_⟩ <;> exact Frm.out (by assumption) (by assumption) (fun h => h))) ((go_at_call 46; refine (HK.out _).mono ?_; rintro e w1 ⟨rfl, f1⟩))
      all_goals
        go_wp2_with fail
        go_roundw
        case rel => exact ⟨k + 1, by omega, by go_num, (HR.drewN 1).then f1⟩
        case measure => simp [intOf]; omega
    · go_wp2_with fail
      go_ret
      exact ⟨rfl, HR⟩

end

end Go.Proofs.Ytlccpbdpfamekaa
