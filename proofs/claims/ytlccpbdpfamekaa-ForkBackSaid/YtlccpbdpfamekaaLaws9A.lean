/- Layer 9: the law's small case (hands), and what all laws use. -/
import Derived.Test.YtlccpbdpfamekaaDoesB
namespace Go.Proofs.Ytlccpbdpfamekaa
set_option linter.unusedVariables false
set_option linter.unusedSimpArgs false
open Go.RowKit

section
variable {w : World} {F : List Piece} {g h n : Nat} {x : PipeM}

theorem sl_new (z : Nat) (hz : z ≤ 4) (H : SL w F) : Calls Try.prog 11 #[.int .i64 z] w fun e w' => ∃ g, e = .returned (.tuple #[.pointer (some ⟨g, 0, none⟩), .int .i64 0]) ∧ SL w' (PipeP g (emptyM z) :: F) := by
  refine (pipe_new_ok z hz w).mono ?_
  rintro e w' ⟨g, rfl, h1, f1⟩
  exact ⟨g, rfl, H.new (M := [PipeP g (emptyM z)]) f1 ⟨_, fun _ h => h, h1, trivial⟩⟩

theorem sl_send0 (v : Int) (hl : x.receivers.length ≤ 1000000) (hn : Cnt x) (H : SL w (PipeP g x :: F)) : Calls Try.prog 23 #[.pointer (some ⟨g, 0, none⟩), .int .i64 v] w fun e w' => e = .returned (.tuple #[(sendF x v).1.1.agg, .int .i64 (sendF x v).1.2]) ∧ SL w' (PipeP g (sendF x v).2 :: F) :=
  PipePost.sl (S := fun _ => False) (fun S h => pipe_send h hl hn v) H

set_option maxRecDepth 100000 in
set_option maxHeartbeats 1000000 in
theorem l_hands (H : SL w F) : Calls Try.prog 12 #[] w fun e w' => e = .returned (.bool true) ∧ SL w' F := by
  have k0 := fun F' w' (H : SL w' F') => sl_new 1 (by decide) H
  have k1 := fun g F' w' (H : SL w' (PipeP g (emptyM 1) :: F')) => sl_send0 5 (by decide) (by unfold Cnt emptyM; decide) H
  rw [show sendF (emptyM 1) 5 = ((⟨true, false, false, 0, wzero⟩, 0), ⟨1, [5], [], [], false, 1, 0⟩) from rfl] at k1
  have k2 := fun g F' w' (H : SL w' (PipeP g ⟨1, [5], [], [], false, 1, 0⟩ :: F')) => sl_send0 6 (by decide) (by unfold Cnt; decide) H
  rw [show sendF ⟨1, [5], [], [], false, 1, 0⟩ 6 = ((gzero, 0), ⟨1, [5], [], [], false, 1, 0⟩) from rfl] at k2
  have k3 := fun g F' w' (H : SL w' (PipeP g ⟨1, [5], [], [], false, 1, 0⟩ :: F')) => sl_wait true ⟨1, -1, 6⟩ (by decide) (by decide) H
  rw [show waitF ⟨1, [5], [], [], false, 1, 0⟩ true ⟨1, -1, 6⟩ = (0, ⟨1, [5], [⟨1, -1, 6⟩], [], false, 1, 0⟩) from rfl] at k3
  have k4 := fun g F' w' (H : SL w' (PipeP g ⟨1, [5], [⟨1, -1, 6⟩], [], false, 1, 0⟩ :: F')) => sl_recv (by decide) (by decide) (by unfold Cnt; decide) H
  rw [show recvF ⟨1, [5], [⟨1, -1, 6⟩], [], false, 1, 0⟩ = (⟨true, true, true, 5, ⟨1, -1, 6⟩⟩, ⟨1, [6], [], [], false, 2, 1⟩) from rfl] at k4
  have k5 := fun g F' w' (H : SL w' (PipeP g ⟨1, [6], [], [], false, 2, 1⟩ :: F')) => sl_recv (by decide) (by decide) (by unfold Cnt; decide) H
  rw [show recvF ⟨1, [6], [], [], false, 2, 1⟩ = (⟨true, true, false, 6, wzero⟩, ⟨1, [], [], [], false, 2, 2⟩) from rfl] at k5
  unfold Does at k4 k5
  unfold GotM.agg at k1 k2 k4 k5
  unfold gzero at k2
  unfold Wtr.agg at k3
  unfold wzero at k1 k2 k5
  dsimp only at k1 k2 k3 k4 k5
  have K0 := Lib.hid k0
  have K1 := Lib.hid k1
  have K2 := Lib.hid k2
  have K3 := Lib.hid k3
  have K4 := Lib.hid k4
  have K5 := Lib.hid k5
  clear k0 k1 k2 k3 k4 k5
  go_enter Try.func12, Try.ntmps12
  go_wp2_with fail
  refine (K0.out _ _ H).mono ?_
  rintro e w1 ⟨p, rfl, H1⟩
  go_wp2_with fail
  refine (K1.out _ _ _ H1).mono ?_
  rintro e w2 ⟨rfl, H2⟩
  go_wp2_with fail
  have H2' := (H2.alloc (.cells #[.bool true, .bool false, .bool false, .int .i64 0, .int .i64 0, .int .i64 0, .int .i64 0] 49)).up1
  obtain ⟨b3, hb⟩ : ∃ b, w2.heap.size = b := ⟨_, rfl⟩
  rw [hb] at H2'
  simp only [hb]
  clear hb
  refine (K2.out _ _ _ H2').mono ?_
  rintro e w3 ⟨rfl, H3⟩
  go_wp2_with fail
  have H3' := (H3.alloc (.cells #[.bool false, .bool false, .bool false, .int .i64 0, .int .i64 0, .int .i64 0, .int .i64 0] 49)).up1
  obtain ⟨b5, hb⟩ : ∃ b, w3.heap.size = b := ⟨_, rfl⟩
  rw [hb] at H3'
  simp only [hb]
  clear hb
  refine (K3.out _ _ _ H3').mono ?_
  rintro e w4 ⟨rfl, H4⟩
  go_wp2_with fail
  refine (K4.out _ _ _ H4).mono ?_
  rintro e w5 ⟨rfl, H5⟩
  go_wp2_with fail
  have H5' := (H5.alloc (.cells #[.bool true, .bool true, .bool true, .int .i64 5, .int .i64 1, .int .i64 (-1), .int .i64 6] 49)).up1
  obtain ⟨b8, hb⟩ : ∃ b, w5.heap.size = b := ⟨_, rfl⟩
  rw [hb] at H5'
  simp only [hb]
  clear hb
  refine (K5.out _ _ _ H5').mono ?_
  rintro e w6 ⟨rfl, H6⟩
  have q1 := box7 H6.at1
  have q2 := box7 H6.at2
  have q3 := box7 H6.at3
  obtain ⟨c0, c1, c2, c3, c4, c5, c6, cf⟩ := q1
  obtain ⟨d0, d1, d2, d3, d4, d5, d6, df⟩ := q2
  obtain ⟨e0, e1, e2, e3, e4, e5, e6, ef⟩ := q3
  have l1 := lt_of_block H6.at1
  have l2 := lt_of_block H6.at2
  have l3 := lt_of_block H6.at3
  go_wp2_with fail
  go_ret
  exact ⟨rfl, (H6.allocd _).tl.tl.tl.tl⟩
end

end Go.Proofs.Ytlccpbdpfamekaa
