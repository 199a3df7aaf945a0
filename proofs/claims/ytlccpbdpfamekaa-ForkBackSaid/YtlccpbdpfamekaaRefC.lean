/- The reference of layer 9: New, Ready, Send, Close, Drop. -/
import Derived.Test.YtlccpbdpfamekaaRefB
namespace Go.Proofs.Ytlccpbdpfamekaa
set_option linter.unusedVariables false
set_option linter.unusedSimpArgs false
open Go.RowKit

def refL (h : Nat) (x : PipeM) (v : Value × Value × Value) : List Piece :=
  [row h #[.int .i64 x.size, v.1, v.2.1, v.2.2, .bool x.closed, .int .i64 x.sent, .int .i64 x.received] 45, Slc 3 1 v.1 x.buf.length (ints x.buf),
    Slc 91 3 v.2.1 x.senders.length (x.senders.flatMap Wtr.cells), Slc 91 3 v.2.2 x.receivers.length (x.receivers.flatMap Wtr.cells)]

/-- The reference's pipe. -/
def RefP (h : Nat) (x : PipeM) : Piece := exP fun v => all (refL h x v)

section
variable {w : World} {F : List Piece} {h : Nat} {x : PipeM}

theorem ref_open (H : SL w (RefP h x :: F)) : ∃ a1 c1 a2 c2 a3 c3, SL w (row h #[.int .i64 x.size, .slice a1 x.buf.length c1, .slice a2 x.senders.length c2, .slice a3 x.receivers.length c3, .bool x.closed, .int .i64 x.sent, .int .i64 x.received] 45 ::
    Slc 3 1 (.slice a1 x.buf.length c1) x.buf.length (ints x.buf) :: Slc 91 3 (.slice a2 x.senders.length c2) x.senders.length (x.senders.flatMap Wtr.cells) :: Slc 91 3 (.slice a3 x.receivers.length c3) x.receivers.length (x.receivers.flatMap Wtr.cells) :: F) := by
  obtain ⟨⟨v1, v2, v3⟩, H⟩ := SL.exP.1 H
  have H := SL.all.1 H
  obtain ⟨a1, c1, h1, _⟩ := H.up1.slc
  obtain ⟨a2, c2, h2, _⟩ := H.up2.slc
  obtain ⟨a3, c3, h3, _⟩ := H.up3.slc
  dsimp only at h1 h2 h3
  subst h1 h2 h3
  exact ⟨a1, c1, a2, c2, a3, c3, H⟩

theorem ref_shut {v1 v2 v3 : Value} (H : SL w (row h #[.int .i64 x.size, v1, v2, v3, .bool x.closed, .int .i64 x.sent, .int .i64 x.received] 45 ::
    Slc 3 1 v1 x.buf.length (ints x.buf) :: Slc 91 3 v2 x.senders.length (x.senders.flatMap Wtr.cells) :: Slc 91 3 v3 x.receivers.length (x.receivers.flatMap Wtr.cells) :: F)) : SL w (RefP h x :: F) :=
  SL.exP.2 ⟨(v1, v2, v3), SL.all.2 H⟩

theorem ref_shut' {v1 v2 v3 : Value} {n1 n2 n3 : Nat} {l1 l2 l3 : List Value} (H : SL w (row h #[.int .i64 x.size, v1, v2, v3, .bool x.closed, .int .i64 x.sent, .int .i64 x.received] 45 ::
    Slc 3 1 v1 n1 l1 :: Slc 91 3 v2 n2 l2 :: Slc 91 3 v3 n3 l3 :: F))
    (e1 : n1 = x.buf.length) (e2 : l1 = ints x.buf) (e3 : n2 = x.senders.length) (e4 : l2 = x.senders.flatMap Wtr.cells) (e5 : n3 = x.receivers.length) (e6 : l3 = x.receivers.flatMap Wtr.cells) : SL w (RefP h x :: F) := by
  subst e1 e2 e3 e4 e5 e6
  exact ref_shut H

set_option maxHeartbeats 400000 in
theorem r_new_bad (n : Int) (hn : n < 0 ∨ 4 < n) (H : SL w F) : Calls Try.prog 13 #[.int .i64 n] w fun e w' => e = .returned (.tuple #[.pointer none, .int .i64 1]) ∧ SL w' F := by
  rcases hn with hn | hn
  all_goals
    go_enter Try.func13, Try.ntmps13
    go_wp2
    go_ret2
    exact ⟨rfl, H⟩

set_option maxHeartbeats 400000 in
theorem r_new (n : Nat) (hn : n ≤ 4) (H : SL w F) : Calls Try.prog 13 #[.int .i64 n] w fun e w' => ∃ h, e = .returned (.tuple #[.pointer (some ⟨h, 0, none⟩), .int .i64 0]) ∧ SL w' (RefP h (emptyM n) :: F) := by
  go_enter Try.func13, Try.ntmps13
  go_wp2
  go_ret2
  refine ⟨w.heap.size, rfl, ?_⟩
  have H1 := SL.slcNil 3 1 (SL.slcNil 91 3 (SL.slcNil 91 3 H))
  exact ref_shut (x := emptyM n) (H1.alloc _)

set_option maxHeartbeats 400000 in
theorem r_ready (s : Bool) (H : SL w (RefP h x :: F)) : Calls Try.prog 21 #[.pointer (some ⟨h, 0, none⟩), .bool s] w fun e w' => e = .returned (.bool (readyF x s)) ∧ SL w' (RefP h x :: F) := by
  obtain ⟨a1, c1, a2, c2, a3, c3, H1⟩ := ref_open H
  obtain ⟨r0, r1, r2, r3, r4, r5, r6, rf⟩ := box7 H1.at0
  have rl := lt_of_block H1.at0
  obtain ⟨R, hR⟩ : ∃ R, readyF x s = R := ⟨_, rfl⟩
  rw [hR]
  unfold readyF at hR
  obtain ⟨cl, hcl⟩ : ∃ cl, x.closed = cl := ⟨_, rfl⟩
  obtain ⟨n1, hn1⟩ : ∃ n, x.buf.length = n := ⟨_, rfl⟩
  obtain ⟨n2, hn2⟩ : ∃ n, x.senders.length = n := ⟨_, rfl⟩
  obtain ⟨n3, hn3⟩ : ∃ n, x.receivers.length = n := ⟨_, rfl⟩
  obtain ⟨z, hz⟩ : ∃ n, x.size = n := ⟨_, rfl⟩
  rw [hcl, hn1, hn2, hn3, hz] at hR
  rw [hcl] at r4
  rw [hn1] at r1
  rw [hn2] at r2
  rw [hn3] at r3
  rw [hz] at r0
  have HR := Lib.hid hR.symm
  clear hR hcl hn1 hn2 hn3 hz H1
  cases s
  · simp only [Bool.false_eq_true, if_false] at HR
    go_enter Try.func21, Try.ntmps21
    cases cl with
    | true =>
      go_wp2_with fail
      skip
      go_ret
      exact ⟨ret_bool (by rw [HR.out]; rfl), (by repeat (first | with_reducible refine SL.drewN ?_ _ | with_reducible refine SL.drew ?_ | with_reducible exact H))⟩
    | false =>
      by_cases h0 : 0 < (n2 : Int)
      · have hb0 : decide (0 < (n2 : Int)) = true := by simpa using h0
        have hb0n : decide (0 < n2) = true := by simp; omega
        go_wp2_with fail
        skip
        go_ret
        exact ⟨ret_bool (by rw [HR.out]; simp; omega), (by repeat (first | with_reducible refine SL.drewN ?_ _ | with_reducible refine SL.drew ?_ | with_reducible exact H))⟩
      · have hb0 : decide (0 < (n2 : Int)) = false := by simpa using h0
        have hb0n : decide (0 < n2) = false := by simp; omega
        go_wp2_with fail
        skip
        go_ret
        exact ⟨ret_bool (by rw [HR.out, Bool.eq_iff_iff]; simp; try omega), (by repeat (first | with_reducible refine SL.drewN ?_ _ | with_reducible refine SL.drew ?_ | with_reducible exact H))⟩
  · simp only [if_true] at HR
    go_enter Try.func21, Try.ntmps21
    cases cl with
    | true =>
      go_wp2_with fail
      go_quiet (fail)
      go_wp2_with fail
      go_ret
      exact ⟨ret_bool (by rw [HR.out]; rfl), (by repeat (first | with_reducible refine SL.drewN ?_ _ | with_reducible refine SL.drew ?_ | with_reducible exact H))⟩
    | false =>
      by_cases h0 : 0 < (n3 : Int)
      · have hb0 : decide (0 < (n3 : Int)) = true := by simpa using h0
        have hb0n : decide (0 < n3) = true := by simp; omega
        go_wp2_with fail
        go_quiet (fail)
        go_wp2_with fail
        go_ret
        exact ⟨ret_bool (by rw [HR.out]; simp; omega), (by repeat (first | with_reducible refine SL.drewN ?_ _ | with_reducible refine SL.drew ?_ | with_reducible exact H))⟩
      · have hb0 : decide (0 < (n3 : Int)) = false := by simpa using h0
        have hb0n : decide (0 < n3) = false := by simp; omega
        by_cases h1 : (n1 : Int) < (z : Int)
        · have hb1 : decide ((n1 : Int) < (z : Int)) = true := by simpa using h1
          have hb1n : decide (n1 < z) = true := by simp; omega
          go_wp2_with fail
          go_quiet (fail)
          go_wp2_with fail
          go_ret
          exact ⟨ret_bool (by rw [HR.out]; simp; omega), (by repeat (first | with_reducible refine SL.drewN ?_ _ | with_reducible refine SL.drew ?_ | with_reducible exact H))⟩
        · have hb1 : decide ((n1 : Int) < (z : Int)) = false := by simpa using h1
          have hb1n : decide (n1 < z) = false := by simp; omega
          go_wp2_with fail
          go_quiet (fail)
          go_wp2_with fail
          go_ret
          exact ⟨ret_bool (by rw [HR.out]; simp; omega), (by repeat (first | with_reducible refine SL.drewN ?_ _ | with_reducible refine SL.drew ?_ | with_reducible exact H))⟩
end

end Go.Proofs.Ytlccpbdpfamekaa
