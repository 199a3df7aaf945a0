/- Layer 9: a step, by the program and by the reference alike. -/
import Derived.Test.YtlccpbdpfamekaaDoesA
import Derived.Test.YtlccpbdpfamekaaPlainP
import Derived.Deep.RegionHeld3
namespace Go.Proofs.Ytlccpbdpfamekaa
set_option linter.unusedVariables false
set_option linter.unusedSimpArgs false
open Go.RowKit

theorem box4 {w : World} {g : Nat} {a b c d : Value} {t : Nat} (k : w.heap[g]? = some (.cells #[a, b, c, d] t (0, 0))) :
    w.cell? ⟨g, 0, none⟩ = some a ∧ w.cell? ⟨g, 1, none⟩ = some b ∧ w.cell? ⟨g, 2, none⟩ = some c ∧ w.cell? ⟨g, 3, none⟩ = some d ∧ (∀ i, w.frozen? ⟨g, i, none⟩ = false) :=
  ⟨row_cell k 0 rfl, row_cell k 1 rfl, row_cell k 2 rfl, row_cell k 3 rfl, row_free k⟩

section
variable {w : World} {F : List Piece} {g h n : Nat} {x : PipeM}

theorem sl_send (v : Int) (hI : Inv9 n x) (hn : n ≤ 1000000) (H : SL w (PipeP g x :: F)) : Calls Try.prog 23 #[.pointer (some ⟨g, 0, none⟩), .int .i64 v] w fun e w' => e = .returned (.tuple #[(sendF x v).1.1.agg, .int .i64 (sendF x v).1.2]) ∧ SL w' (PipeP g (sendF x v).2 :: F) :=
  PipePost.sl (S := fun _ => False) (fun S h => pipe_send h (by have := hI.rcv.1; omega) (hI.cnt (by omega)) v) H

theorem sl_drop (i : Int) (hI : Inv9 n x) (H : SL w (PipeP g x :: F)) : Calls Try.prog 27 #[.pointer (some ⟨g, 0, none⟩), .int .i64 i] w fun e w' => e = .returned (.int .i64 (((x.senders.length : Int) - (without i x.senders).length) + ((x.receivers.length : Int) - (without i x.receivers).length))) ∧ SL w' (PipeP g (dropM x i) :: F) :=
  PipePost.sl (S := fun _ => False) (fun S h => pipe_drop h hI.snd hI.rcv i) H

set_option maxRecDepth 100000 in
set_option maxHeartbeats 1000000 in
theorem does0 (m : Wtr) (hI : Inv9 n x) (hn : n ≤ 1000000) (H : SL w (PipeP g x :: RefP h x :: F)) :
    Calls Try.prog 14 #[.pointer (some ⟨g, 0, none⟩), .pointer (some ⟨h, 0, none⟩), .agg #[.int .i64 0, .int .i64 m.g, .int .i64 m.case_, .int .i64 m.value]] w fun e w' => e = .returned (.bool true) ∧ SL w' (PipeP g (sendF x m.value).2 :: RefP h (sendF x m.value).2 :: F) := by
  have K1 := fun F' w' (H : SL w' (PipeP g x :: F')) => sl_send m.value hI hn H
  have K2 := fun F' w' (H : SL w' (RefP h x :: F')) => r_send m.value (by have := hI.rcv.1; omega) (by have := hI.buf; have := hI.size; omega) (hI.cnt (by omega)) H
  obtain ⟨R, hR⟩ : ∃ R, sendF x m.value = R := ⟨_, rfl⟩
  rw [hR] at K1 K2
  rw [hR]
  clear hR
  have K3 := l_got R.1.1
  obtain ⟨mg, mc, mv⟩ := m
  obtain ⟨⟨⟨y1, y2, y3, y4, ⟨zg, zc, zv⟩⟩, ye⟩, y⟩ := R
  unfold GotM.agg at K1 K2 K3
  dsimp only at K1 K2 K3 ⊢
  have HK1 := Lib.hid K1
  have HK2 := Lib.hid K2
  have HK3 := Lib.hid K3
  clear K1 K2 K3 hI
  go_enter Try.func14, Try.ntmps14
  go_wp2_with fail
  have H1 := H.alloc (.cells #[.int .i64 0, .int .i64 mg, .int .i64 mc, .int .i64 mv] 34)
  obtain ⟨b, hb⟩ : ∃ b, w.heap.size = b := ⟨_, rfl⟩
  obtain ⟨w0, hw0⟩ : ∃ w0, w.alloc (.cells #[.int .i64 0, .int .i64 mg, .int .i64 mc, .int .i64 mv] 34) = w0 := ⟨_, rfl⟩
  rw [hw0, hb] at H1
  simp only [hw0, hb]
  clear hb hw0
  obtain ⟨b0, b1, b2, b3, bf⟩ := box4 H1.at0
  have bl := lt_of_block H1.at0
  refine (HK1.out _ _ H1.up1).mono ?_
  rintro e w1 ⟨rfl, H2⟩
  clear b0 b1 b2 b3 bf bl
  obtain ⟨b0, b1, b2, b3, bf⟩ := box4 H2.at1
  have bl := lt_of_block H2.at1
  go_wp2_with fail
  have H2' := H2.alloc (.cells #[.bool y1, .bool y2, .bool y3, .int .i64 y4, .int .i64 zg, .int .i64 zc, .int .i64 zv] 49)
  obtain ⟨gb, hgb⟩ : ∃ b, w1.heap.size = b := ⟨_, rfl⟩
  rw [hgb] at H2'
  simp only [hgb]
  clear hgb
  refine (HK2.out _ _ H2'.up3).mono ?_
  rintro e w2 ⟨rfl, H3⟩
  go_wp2_with fail
  have H4 := H3.alloc (.cells #[.bool y1, .bool y2, .bool y3, .int .i64 y4, .int .i64 zg, .int .i64 zc, .int .i64 zv] 93)
  obtain ⟨rb, hrb⟩ : ∃ b, w2.heap.size = b := ⟨_, rfl⟩
  obtain ⟨w3, hw3⟩ : ∃ w3, w2.alloc (.cells #[.bool y1, .bool y2, .bool y3, .int .i64 y4, .int .i64 zg, .int .i64 zc, .int .i64 zv] 93) = w3 := ⟨_, rfl⟩
  rw [hrb, hw3] at H4
  simp only [hrb, hw3]
  clear hrb hw3
  obtain ⟨r0, r1, r2, r3, r4, r5, r6, rf⟩ := box7 H4.at0
  obtain ⟨g0, g1, g2, g3, g4, g5, g6, gf⟩ := box7 H4.at2
  have rl := lt_of_block H4.at0
  have gl := lt_of_block H4.at2
  go_region_held3 (fun w' => w'.cell? ⟨rb, 0, none⟩ = some (.bool y1) ∧ w'.cell? ⟨rb, 1, none⟩ = some (.bool y2) ∧ w'.cell? ⟨rb, 2, none⟩ = some (.bool y3) ∧ w'.cell? ⟨rb, 3, none⟩ = some (.int .i64 y4) ∧ w'.cell? ⟨rb, 4, none⟩ = some (.int .i64 zg) ∧ w'.cell? ⟨rb, 5, none⟩ = some (.int .i64 zc) ∧ w'.cell? ⟨rb, 6, none⟩ = some (.int .i64 zv) ∧ w'.cell? ⟨gb, 0, none⟩ = some (.bool y1) ∧ w'.cell? ⟨gb, 1, none⟩ = some (.bool y2) ∧ w'.cell? ⟨gb, 2, none⟩ = some (.bool y3) ∧ w'.cell? ⟨gb, 3, none⟩ = some (.int .i64 y4) ∧ w'.cell? ⟨gb, 4, none⟩ = some (.int .i64 zg) ∧ w'.cell? ⟨gb, 5, none⟩ = some (.int .i64 zc) ∧ w'.cell? ⟨gb, 6, none⟩ = some (.int .i64 zv)) (first | go_keep | (go_split_ands; refine ⟨?_, ?_, ?_, ?_, ?_, ?_, ?_, ?_, ?_, ?_, ?_, ?_, ?_, ?_⟩ <;> exact Frm.out (by assumption) (by assumption) (fun h => h))) ((go_at_call 43; refine (HK3.out _).mono ?_; rintro e w4 ⟨rfl, f4⟩))
  all_goals
    go_wp2_with fail
    go_ret
    have H5 := H4.later (((Frm.refl Nil w3).drewN 1).then f4)
    have H6 := H5.pick [3, 1] 5 (by decide)
    simp only [pk, nth, List.map_cons, List.map_nil, List.drop_succ_cons, List.drop_zero, List.cons_append, List.nil_append] at H6
    exact ⟨rfl, (by repeat (first | with_reducible refine SL.drewN ?_ _ | with_reducible refine SL.drew ?_ | with_reducible refine SL.allocd ?_ _ | with_reducible exact H6))⟩

set_option maxRecDepth 100000 in
set_option maxHeartbeats 1000000 in
theorem does1 (m : Wtr) (hI : Inv9 n x) (hn : n ≤ 1000000) (H : SL w (PipeP g x :: RefP h x :: F)) :
    Calls Try.prog 14 #[.pointer (some ⟨g, 0, none⟩), .pointer (some ⟨h, 0, none⟩), .agg #[.int .i64 1, .int .i64 m.g, .int .i64 m.case_, .int .i64 m.value]] w fun e w' => e = .returned (.bool true) ∧ SL w' (PipeP g (sendF x m.value).2 :: RefP h (sendF x m.value).2 :: F) := by
  have K1 := fun F' w' (H : SL w' (PipeP g x :: F')) => sl_send m.value hI hn H
  have K2 := fun F' w' (H : SL w' (RefP h x :: F')) => r_send m.value (by have := hI.rcv.1; omega) (by have := hI.buf; have := hI.size; omega) (hI.cnt (by omega)) H
  obtain ⟨R, hR⟩ : ∃ R, sendF x m.value = R := ⟨_, rfl⟩
  rw [hR] at K1 K2
  rw [hR]
  clear hR
  have K3 := l_got R.1.1
  obtain ⟨mg, mc, mv⟩ := m
  obtain ⟨⟨⟨y1, y2, y3, y4, ⟨zg, zc, zv⟩⟩, ye⟩, y⟩ := R
  unfold GotM.agg at K1 K2 K3
  dsimp only at K1 K2 K3 ⊢
  have HK1 := Lib.hid K1
  have HK2 := Lib.hid K2
  have HK3 := Lib.hid K3
  clear K1 K2 K3 hI
  go_enter Try.func14, Try.ntmps14
  go_wp2_with fail
  have H1 := H.alloc (.cells #[.int .i64 1, .int .i64 mg, .int .i64 mc, .int .i64 mv] 34)
  obtain ⟨b, hb⟩ : ∃ b, w.heap.size = b := ⟨_, rfl⟩
  obtain ⟨w0, hw0⟩ : ∃ w0, w.alloc (.cells #[.int .i64 1, .int .i64 mg, .int .i64 mc, .int .i64 mv] 34) = w0 := ⟨_, rfl⟩
  rw [hw0, hb] at H1
  simp only [hw0, hb]
  clear hb hw0
  obtain ⟨b0, b1, b2, b3, bf⟩ := box4 H1.at0
  have bl := lt_of_block H1.at0
  refine (HK1.out _ _ H1.up1).mono ?_
  rintro e w1 ⟨rfl, H2⟩
  clear b0 b1 b2 b3 bf bl
  obtain ⟨b0, b1, b2, b3, bf⟩ := box4 H2.at1
  have bl := lt_of_block H2.at1
  go_wp2_with fail
  have H2' := H2.alloc (.cells #[.bool y1, .bool y2, .bool y3, .int .i64 y4, .int .i64 zg, .int .i64 zc, .int .i64 zv] 49)
  obtain ⟨gb, hgb⟩ : ∃ b, w1.heap.size = b := ⟨_, rfl⟩
  rw [hgb] at H2'
  simp only [hgb]
  clear hgb
  refine (HK2.out _ _ H2'.up3).mono ?_
  rintro e w2 ⟨rfl, H3⟩
  go_wp2_with fail
  have H4 := H3.alloc (.cells #[.bool y1, .bool y2, .bool y3, .int .i64 y4, .int .i64 zg, .int .i64 zc, .int .i64 zv] 93)
  obtain ⟨rb, hrb⟩ : ∃ b, w2.heap.size = b := ⟨_, rfl⟩
  obtain ⟨w3, hw3⟩ : ∃ w3, w2.alloc (.cells #[.bool y1, .bool y2, .bool y3, .int .i64 y4, .int .i64 zg, .int .i64 zc, .int .i64 zv] 93) = w3 := ⟨_, rfl⟩
  rw [hrb, hw3] at H4
  simp only [hrb, hw3]
  clear hrb hw3
  obtain ⟨r0, r1, r2, r3, r4, r5, r6, rf⟩ := box7 H4.at0
  obtain ⟨g0, g1, g2, g3, g4, g5, g6, gf⟩ := box7 H4.at2
  have rl := lt_of_block H4.at0
  have gl := lt_of_block H4.at2
  go_region_held3 (fun w' => w'.cell? ⟨rb, 0, none⟩ = some (.bool y1) ∧ w'.cell? ⟨rb, 1, none⟩ = some (.bool y2) ∧ w'.cell? ⟨rb, 2, none⟩ = some (.bool y3) ∧ w'.cell? ⟨rb, 3, none⟩ = some (.int .i64 y4) ∧ w'.cell? ⟨rb, 4, none⟩ = some (.int .i64 zg) ∧ w'.cell? ⟨rb, 5, none⟩ = some (.int .i64 zc) ∧ w'.cell? ⟨rb, 6, none⟩ = some (.int .i64 zv) ∧ w'.cell? ⟨gb, 0, none⟩ = some (.bool y1) ∧ w'.cell? ⟨gb, 1, none⟩ = some (.bool y2) ∧ w'.cell? ⟨gb, 2, none⟩ = some (.bool y3) ∧ w'.cell? ⟨gb, 3, none⟩ = some (.int .i64 y4) ∧ w'.cell? ⟨gb, 4, none⟩ = some (.int .i64 zg) ∧ w'.cell? ⟨gb, 5, none⟩ = some (.int .i64 zc) ∧ w'.cell? ⟨gb, 6, none⟩ = some (.int .i64 zv)) (first | go_keep | (go_split_ands; refine ⟨?_, ?_, ?_, ?_, ?_, ?_, ?_, ?_, ?_, ?_, ?_, ?_, ?_, ?_⟩ <;> exact Frm.out (by assumption) (by assumption) (fun h => h))) ((go_at_call 43; refine (HK3.out _).mono ?_; rintro e w4 ⟨rfl, f4⟩))
  all_goals
    go_wp2_with fail
    go_ret
    have H5 := H4.later (((Frm.refl Nil w3).drewN 1).then f4)
    have H6 := H5.pick [3, 1] 5 (by decide)
    simp only [pk, nth, List.map_cons, List.map_nil, List.drop_succ_cons, List.drop_zero, List.cons_append, List.nil_append] at H6
    exact ⟨rfl, (by repeat (first | with_reducible refine SL.drewN ?_ _ | with_reducible refine SL.drew ?_ | with_reducible refine SL.allocd ?_ _ | with_reducible exact H6))⟩

set_option maxRecDepth 100000 in
set_option maxHeartbeats 1000000 in
theorem does2 (m : Wtr) (hI : Inv9 n x) (hn : n ≤ 1000000) (H : SL w (PipeP g x :: RefP h x :: F)) :
    Calls Try.prog 14 #[.pointer (some ⟨g, 0, none⟩), .pointer (some ⟨h, 0, none⟩), .agg #[.int .i64 2, .int .i64 m.g, .int .i64 m.case_, .int .i64 m.value]] w fun e w' => e = .returned (.bool true) ∧ SL w' (PipeP g (recvF x).2 :: RefP h (recvF x).2 :: F) := by
  have K1 := fun F' w' (H : SL w' (PipeP g x :: F')) => sl_recv (by have := hI.snd.1; omega) hI.buf (hI.cnt (by omega)) H
  have K2 := fun F' w' (H : SL w' (RefP h x :: F')) => r_recv (by have := hI.snd.1; omega) (by have := hI.buf; have := hI.size; omega) (hI.cnt (by omega)) H
  obtain ⟨R, hR⟩ : ∃ R, recvF x = R := ⟨_, rfl⟩
  rw [hR] at K1 K2
  rw [hR]
  clear hR
  unfold Does at K1
  have K3 := l_got R.1
  obtain ⟨mg, mc, mv⟩ := m
  obtain ⟨⟨y1, y2, y3, y4, ⟨zg, zc, zv⟩⟩, y⟩ := R
  unfold GotM.agg at K1 K2 K3
  dsimp only at K1 K2 K3 ⊢
  have HK1 := Lib.hid K1
  have HK2 := Lib.hid K2
  have HK3 := Lib.hid K3
  clear K1 K2 K3 hI
  go_enter Try.func14, Try.ntmps14
  go_wp2_with fail
  have H1 := H.alloc (.cells #[.int .i64 2, .int .i64 mg, .int .i64 mc, .int .i64 mv] 34)
  obtain ⟨b, hb⟩ : ∃ b, w.heap.size = b := ⟨_, rfl⟩
  obtain ⟨w0, hw0⟩ : ∃ w0, w.alloc (.cells #[.int .i64 2, .int .i64 mg, .int .i64 mc, .int .i64 mv] 34) = w0 := ⟨_, rfl⟩
  rw [hw0, hb] at H1
  simp only [hw0, hb]
  clear hb hw0
  obtain ⟨b0, b1, b2, b3, bf⟩ := box4 H1.at0
  have bl := lt_of_block H1.at0
  refine (HK1.out _ _ H1.up1).mono ?_
  rintro e w1 ⟨rfl, H2⟩
  go_wp2_with fail
  refine (HK3.out _).mono ?_
  rintro e w2 ⟨rfl, f2⟩
  go_wp2_with fail
  refine (HK2.out _ _ (H2.later f2).up2).mono ?_
  rintro e w3 ⟨rfl, H3⟩
  go_wp2_with fail
  go_ret
  have H6 := H3.pick [1, 0] 3 (by decide)
  simp only [pk, nth, List.map_cons, List.map_nil, List.drop_succ_cons, List.drop_zero, List.cons_append, List.nil_append] at H6
  exact ⟨rfl, H6⟩

set_option maxRecDepth 100000 in
set_option maxHeartbeats 1000000 in
theorem does3 (m : Wtr) (hI : Inv9 n x) (hn : n ≤ 1000000) (H : SL w (PipeP g x :: RefP h x :: F)) :
    Calls Try.prog 14 #[.pointer (some ⟨g, 0, none⟩), .pointer (some ⟨h, 0, none⟩), .agg #[.int .i64 3, .int .i64 m.g, .int .i64 m.case_, .int .i64 m.value]] w fun e w' => e = .returned (.bool true) ∧ SL w' (PipeP g (recvF x).2 :: RefP h (recvF x).2 :: F) := by
  have K1 := fun F' w' (H : SL w' (PipeP g x :: F')) => sl_recv (by have := hI.snd.1; omega) hI.buf (hI.cnt (by omega)) H
  have K2 := fun F' w' (H : SL w' (RefP h x :: F')) => r_recv (by have := hI.snd.1; omega) (by have := hI.buf; have := hI.size; omega) (hI.cnt (by omega)) H
  obtain ⟨R, hR⟩ : ∃ R, recvF x = R := ⟨_, rfl⟩
  rw [hR] at K1 K2
  rw [hR]
  clear hR
  unfold Does at K1
  have K3 := l_got R.1
  obtain ⟨mg, mc, mv⟩ := m
  obtain ⟨⟨y1, y2, y3, y4, ⟨zg, zc, zv⟩⟩, y⟩ := R
  unfold GotM.agg at K1 K2 K3
  dsimp only at K1 K2 K3 ⊢
  have HK1 := Lib.hid K1
  have HK2 := Lib.hid K2
  have HK3 := Lib.hid K3
  clear K1 K2 K3 hI
  go_enter Try.func14, Try.ntmps14
  go_wp2_with fail
  have H1 := H.alloc (.cells #[.int .i64 3, .int .i64 mg, .int .i64 mc, .int .i64 mv] 34)
  obtain ⟨b, hb⟩ : ∃ b, w.heap.size = b := ⟨_, rfl⟩
  obtain ⟨w0, hw0⟩ : ∃ w0, w.alloc (.cells #[.int .i64 3, .int .i64 mg, .int .i64 mc, .int .i64 mv] 34) = w0 := ⟨_, rfl⟩
  rw [hw0, hb] at H1
  simp only [hw0, hb]
  clear hb hw0
  obtain ⟨b0, b1, b2, b3, bf⟩ := box4 H1.at0
  have bl := lt_of_block H1.at0
  refine (HK1.out _ _ H1.up1).mono ?_
  rintro e w1 ⟨rfl, H2⟩
  go_wp2_with fail
  refine (HK3.out _).mono ?_
  rintro e w2 ⟨rfl, f2⟩
  go_wp2_with fail
  refine (HK2.out _ _ (H2.later f2).up2).mono ?_
  rintro e w3 ⟨rfl, H3⟩
  go_wp2_with fail
  go_ret
  have H6 := H3.pick [1, 0] 3 (by decide)
  simp only [pk, nth, List.map_cons, List.map_nil, List.drop_succ_cons, List.drop_zero, List.cons_append, List.nil_append] at H6
  exact ⟨rfl, H6⟩

set_option maxRecDepth 100000 in
set_option maxHeartbeats 1000000 in
theorem does4 (m : Wtr) (hI : Inv9 n x) (hn : n ≤ 1000000) (H : SL w (PipeP g x :: RefP h x :: F)) :
    Calls Try.prog 14 #[.pointer (some ⟨g, 0, none⟩), .pointer (some ⟨h, 0, none⟩), .agg #[.int .i64 4, .int .i64 m.g, .int .i64 m.case_, .int .i64 m.value]] w fun e w' => e = .returned (.bool true) ∧ SL w' (PipeP g (waitF x true m).2 :: RefP h (waitF x true m).2 :: F) := by
  have K1 := fun F' w' (H : SL w' (PipeP g x :: F')) => sl_wait true m hI.snd.1 hI.rcv.1 H
  have K2 := fun F' w' (H : SL w' (RefP h x :: F')) => r_wait true m hI.snd.1 hI.rcv.1 H
  rw [← wait_eq hI] at K2
  obtain ⟨R, hR⟩ : ∃ R, waitF x true m = R := ⟨_, rfl⟩
  rw [hR] at K1 K2
  rw [hR]
  clear hR
  have K3 := l_ref m
  obtain ⟨mg, mc, mv⟩ := m
  obtain ⟨ye, y⟩ := R
  unfold Wtr.agg at K1 K2 K3
  dsimp only at K1 K2 K3 ⊢
  have HK1 := Lib.hid K1
  have HK2 := Lib.hid K2
  have HK3 := Lib.hid K3
  clear K1 K2 K3 hI
  go_enter Try.func14, Try.ntmps14
  go_wp2_with fail
  have H1 := H.alloc (.cells #[.int .i64 4, .int .i64 mg, .int .i64 mc, .int .i64 mv] 34)
  obtain ⟨b, hb⟩ : ∃ b, w.heap.size = b := ⟨_, rfl⟩
  obtain ⟨w0, hw0⟩ : ∃ w0, w.alloc (.cells #[.int .i64 4, .int .i64 mg, .int .i64 mc, .int .i64 mv] 34) = w0 := ⟨_, rfl⟩
  rw [hw0, hb] at H1
  simp only [hw0, hb]
  clear hb hw0
  obtain ⟨b0, b1, b2, b3, bf⟩ := box4 H1.at0
  have bl := lt_of_block H1.at0
  go_region_held3 (fun w' => w'.cell? ⟨b, 0, none⟩ = some (.int .i64 4) ∧ w'.cell? ⟨b, 1, none⟩ = some (.int .i64 mg) ∧ w'.cell? ⟨b, 2, none⟩ = some (.int .i64 mc) ∧ w'.cell? ⟨b, 3, none⟩ = some (.int .i64 mv)) (first | go_keep | (go_split_ands; refine ⟨?_, ?_, ?_, ?_⟩ <;> assumption) | (go_split_ands; refine ⟨?_, ?_, ?_, ?_⟩ <;> exact Frm.out (by assumption) (by assumption) (fun h => h))) (first | (go_at_call 25; refine (HK1.out _ _ H1.up1.drew).mono ?_; rintro e w1 ⟨rfl, H2⟩; obtain ⟨b0', b1', b2', b3', bf'⟩ := box4 H2.at1) | (go_at_call 46; refine (HK3.out _).mono ?_; rintro e w2 ⟨rfl, f2⟩; have H3 := H2.later f2) | (go_at_call 45; refine (HK2.out _ _ H3.up2).mono ?_; rintro e w3 ⟨rfl, H4⟩; obtain ⟨b0'', b1'', b2'', b3'', bf''⟩ := box4 H4.at2))
  all_goals
    go_wp2_with fail
    go_ret
    have H6 := H4.pick [1, 0] 3 (by decide)
    simp only [pk, nth, List.map_cons, List.map_nil, List.drop_succ_cons, List.drop_zero, List.cons_append, List.nil_append] at H6
    exact ⟨rfl, (by repeat (first | with_reducible refine SL.drewN ?_ _ | with_reducible refine SL.drew ?_ | with_reducible refine SL.allocd ?_ _ | with_reducible exact H6))⟩

set_option maxRecDepth 100000 in
set_option maxHeartbeats 1000000 in
theorem does5 (m : Wtr) (hI : Inv9 n x) (hn : n ≤ 1000000) (H : SL w (PipeP g x :: RefP h x :: F)) :
    Calls Try.prog 14 #[.pointer (some ⟨g, 0, none⟩), .pointer (some ⟨h, 0, none⟩), .agg #[.int .i64 5, .int .i64 m.g, .int .i64 m.case_, .int .i64 m.value]] w fun e w' => e = .returned (.bool true) ∧ SL w' (PipeP g (waitF x false m).2 :: RefP h (waitF x false m).2 :: F) := by
  have K1 := fun F' w' (H : SL w' (PipeP g x :: F')) => sl_wait false m hI.snd.1 hI.rcv.1 H
  have K2 := fun F' w' (H : SL w' (RefP h x :: F')) => r_wait false m hI.snd.1 hI.rcv.1 H
  rw [← wait_eq hI] at K2
  obtain ⟨R, hR⟩ : ∃ R, waitF x false m = R := ⟨_, rfl⟩
  rw [hR] at K1 K2
  rw [hR]
  clear hR
  have K3 := l_ref m
  obtain ⟨mg, mc, mv⟩ := m
  obtain ⟨ye, y⟩ := R
  unfold Wtr.agg at K1 K2 K3
  dsimp only at K1 K2 K3 ⊢
  have HK1 := Lib.hid K1
  have HK2 := Lib.hid K2
  have HK3 := Lib.hid K3
  clear K1 K2 K3 hI
  go_enter Try.func14, Try.ntmps14
  go_wp2_with fail
  have H1 := H.alloc (.cells #[.int .i64 5, .int .i64 mg, .int .i64 mc, .int .i64 mv] 34)
  obtain ⟨b, hb⟩ : ∃ b, w.heap.size = b := ⟨_, rfl⟩
  obtain ⟨w0, hw0⟩ : ∃ w0, w.alloc (.cells #[.int .i64 5, .int .i64 mg, .int .i64 mc, .int .i64 mv] 34) = w0 := ⟨_, rfl⟩
  rw [hw0, hb] at H1
  simp only [hw0, hb]
  clear hb hw0
  obtain ⟨b0, b1, b2, b3, bf⟩ := box4 H1.at0
  have bl := lt_of_block H1.at0
  go_region_held3 (fun w' => w'.cell? ⟨b, 0, none⟩ = some (.int .i64 5) ∧ w'.cell? ⟨b, 1, none⟩ = some (.int .i64 mg) ∧ w'.cell? ⟨b, 2, none⟩ = some (.int .i64 mc) ∧ w'.cell? ⟨b, 3, none⟩ = some (.int .i64 mv)) (first | go_keep | (go_split_ands; refine ⟨?_, ?_, ?_, ?_⟩ <;> assumption) | (go_split_ands; refine ⟨?_, ?_, ?_, ?_⟩ <;> exact Frm.out (by assumption) (by assumption) (fun h => h))) (first | (go_at_call 25; refine (HK1.out _ _ H1.up1.drew).mono ?_; rintro e w1 ⟨rfl, H2⟩; obtain ⟨b0', b1', b2', b3', bf'⟩ := box4 H2.at1) | (go_at_call 46; refine (HK3.out _).mono ?_; rintro e w2 ⟨rfl, f2⟩; have H3 := H2.later f2) | (go_at_call 45; refine (HK2.out _ _ H3.up2).mono ?_; rintro e w3 ⟨rfl, H4⟩; obtain ⟨b0'', b1'', b2'', b3'', bf''⟩ := box4 H4.at2))
  all_goals
    go_wp2_with fail
    go_ret
    have H6 := H4.pick [1, 0] 3 (by decide)
    simp only [pk, nth, List.map_cons, List.map_nil, List.drop_succ_cons, List.drop_zero, List.cons_append, List.nil_append] at H6
    exact ⟨rfl, (by repeat (first | with_reducible refine SL.drewN ?_ _ | with_reducible refine SL.drew ?_ | with_reducible refine SL.allocd ?_ _ | with_reducible exact H6))⟩

set_option maxRecDepth 100000 in
set_option maxHeartbeats 1000000 in
theorem does6 (m : Wtr) (hI : Inv9 n x) (hn : n ≤ 1000000) (H : SL w (PipeP g x :: RefP h x :: F)) :
    Calls Try.prog 14 #[.pointer (some ⟨g, 0, none⟩), .pointer (some ⟨h, 0, none⟩), .agg #[.int .i64 6, .int .i64 m.g, .int .i64 m.case_, .int .i64 m.value]] w fun e w' => e = .returned (.bool true) ∧ SL w' (PipeP g (closeF x).2 :: RefP h (closeF x).2 :: F) := by
  have K1 := fun F' w' (H : SL w' (PipeP g x :: F')) => sl_close hI.snd.1 hI.rcv.1 H
  have K2 := fun F' w' (H : SL w' (RefP h x :: F')) => r_close H
  obtain ⟨R, hR⟩ : ∃ R, closeF x = R := ⟨_, rfl⟩
  rw [hR] at K1 K2
  rw [hR]
  clear hR
  obtain ⟨mg, mc, mv⟩ := m
  obtain ⟨⟨L1, L2, ye⟩, y⟩ := R
  dsimp only at K1 K2 ⊢
  have HK1 := Lib.hid K1
  have HK2 := Lib.hid K2
  clear K1 K2 hI
  go_enter Try.func14, Try.ntmps14
  go_wp2_with fail
  have H1 := H.alloc (.cells #[.int .i64 6, .int .i64 mg, .int .i64 mc, .int .i64 mv] 34)
  obtain ⟨b, hb⟩ : ∃ b, w.heap.size = b := ⟨_, rfl⟩
  obtain ⟨w0, hw0⟩ : ∃ w0, w.alloc (.cells #[.int .i64 6, .int .i64 mg, .int .i64 mc, .int .i64 mv] 34) = w0 := ⟨_, rfl⟩
  rw [hw0, hb] at H1
  simp only [hw0, hb]
  clear hb hw0
  obtain ⟨b0, b1, b2, b3, bf⟩ := box4 H1.at0
  have bl := lt_of_block H1.at0
  refine (HK1.out _ _ H1.up1).mono ?_
  rintro e w1 ⟨a1, c1, a2, c2, rfl, H2⟩
  go_wp2_with fail
  refine (HK2.out _ _ H2.up4).mono ?_
  rintro e w2 ⟨a3, c3, a4, c4, rfl, H3⟩
  go_wp2_with fail
  refine (l_same rfl Reader.rdp Reader.rdp H3.up3).mono ?_
  rintro e w3 ⟨rfl, H4⟩
  go_wp2_with fail
  refine (l_same rfl Reader.rdp Reader.rdp H4.up4.up3.up1).mono ?_
  rintro e w4 ⟨rfl, H5⟩
  go_wp2_with fail
  go_ret
  have H6 := H5.pick [5, 4] 7 (by decide)
  simp only [pk, nth, List.map_cons, List.map_nil, List.drop_succ_cons, List.drop_zero, List.cons_append, List.nil_append] at H6
  exact ⟨rfl, H6⟩

set_option maxRecDepth 100000 in
set_option maxHeartbeats 1000000 in
theorem does7 (m : Wtr) (hI : Inv9 n x) (hn : n ≤ 1000000) (H : SL w (PipeP g x :: RefP h x :: F)) :
    Calls Try.prog 14 #[.pointer (some ⟨g, 0, none⟩), .pointer (some ⟨h, 0, none⟩), .agg #[.int .i64 7, .int .i64 m.g, .int .i64 m.case_, .int .i64 m.value]] w fun e w' => e = .returned (.bool true) ∧ SL w' (PipeP g (dropM x m.g) :: RefP h (dropM x m.g) :: F) := by
  have K1 := fun F' w' (H : SL w' (PipeP g x :: F')) => sl_drop m.g hI H
  have K2 := fun F' w' (H : SL w' (RefP h x :: F')) => r_drop m.g hI.snd.1 hI.rcv.1 H
  obtain ⟨R, hR⟩ : ∃ R, ((x.senders.length : Int) - (without m.g x.senders).length) + ((x.receivers.length : Int) - (without m.g x.receivers).length) = R := ⟨_, rfl⟩
  rw [hR] at K1 K2
  clear hR
  obtain ⟨y, hy⟩ : ∃ y, dropM x m.g = y := ⟨_, rfl⟩
  rw [hy] at K1 K2
  rw [hy]
  clear hy
  obtain ⟨mg, mc, mv⟩ := m
  dsimp only at K1 K2 ⊢
  have HK1 := Lib.hid K1
  have HK2 := Lib.hid K2
  clear K1 K2 hI
  go_enter Try.func14, Try.ntmps14
  go_wp2_with fail
  have H1 := H.alloc (.cells #[.int .i64 7, .int .i64 mg, .int .i64 mc, .int .i64 mv] 34)
  obtain ⟨b, hb⟩ : ∃ b, w.heap.size = b := ⟨_, rfl⟩
  obtain ⟨w0, hw0⟩ : ∃ w0, w.alloc (.cells #[.int .i64 7, .int .i64 mg, .int .i64 mc, .int .i64 mv] 34) = w0 := ⟨_, rfl⟩
  rw [hw0, hb] at H1
  simp only [hw0, hb]
  clear hb hw0
  obtain ⟨b0, b1, b2, b3, bf⟩ := box4 H1.at0
  have bl := lt_of_block H1.at0
  go_region_held3 (fun w' => w'.cell? ⟨b, 0, none⟩ = some (.int .i64 7) ∧ w'.cell? ⟨b, 1, none⟩ = some (.int .i64 mg) ∧ w'.cell? ⟨b, 2, none⟩ = some (.int .i64 mc) ∧ w'.cell? ⟨b, 3, none⟩ = some (.int .i64 mv)) (first | go_keep | (go_split_ands; refine ⟨?_, ?_, ?_, ?_⟩ <;> assumption) | (go_split_ands; refine ⟨?_, ?_, ?_, ?_⟩ <;> exact Frm.out (by assumption) (by assumption) (fun h => h))) (first | (go_at_call 27; refine (HK1.out _ _ H1.up1.drew).mono ?_; rintro e w1 ⟨rfl, H2⟩; obtain ⟨b0', b1', b2', b3', bf'⟩ := box4 H2.at1) | (go_at_call 48; refine (HK2.out _ _ H2.up2).mono ?_; rintro e w3 ⟨rfl, H4⟩; obtain ⟨b0'', b1'', b2'', b3'', bf''⟩ := box4 H4.at2))
  all_goals
    go_wp2_with fail
    go_ret
    have H6 := H4.pick [1, 0] 3 (by decide)
    simp only [pk, nth, List.map_cons, List.map_nil, List.drop_succ_cons, List.drop_zero, List.cons_append, List.nil_append] at H6
    exact ⟨rfl, (by repeat (first | with_reducible refine SL.drewN ?_ _ | with_reducible refine SL.drew ?_ | with_reducible refine SL.allocd ?_ _ | with_reducible exact H6))⟩

set_option maxRecDepth 100000 in
set_option maxHeartbeats 1000000 in
theorem does_else (a : Int) (ha : a < 0 ∨ 7 < a) (m : Wtr) (H : SL w (PipeP g x :: RefP h x :: F)) :
    Calls Try.prog 14 #[.pointer (some ⟨g, 0, none⟩), .pointer (some ⟨h, 0, none⟩), .agg #[.int .i64 a, .int .i64 m.g, .int .i64 m.case_, .int .i64 m.value]] w fun e w' => e = .returned (.bool true) ∧ SL w' (PipeP g x :: RefP h x :: F) := by
  have e0 : (a == 0) = false := by simp; omega
  have e1 : (a == 1) = false := by simp; omega
  have e2 : (a == 2) = false := by simp; omega
  have e3 : (a == 3) = false := by simp; omega
  have e4 : (a == 4) = false := by simp; omega
  have e5 : (a == 5) = false := by simp; omega
  have e6 : (a == 6) = false := by simp; omega
  have e7 : (a == 7) = false := by simp; omega
  obtain ⟨mg, mc, mv⟩ := m
  clear ha
  dsimp only
  go_enter Try.func14, Try.ntmps14
  go_wp2_with fail
  go_ret
  exact ⟨rfl, H.allocd _⟩

theorem l_does (s : Step9) (hI : Inv9 n x) (hn : n ≤ 1000000) (H : SL w (PipeP g x :: RefP h x :: F)) :
    Calls Try.prog 14 #[.pointer (some ⟨g, 0, none⟩), .pointer (some ⟨h, 0, none⟩), s.agg] w fun e w' => e = .returned (.bool true) ∧ SL w' (PipeP g (stepF x s) :: RefP h (stepF x s) :: F) := by
  obtain ⟨a, m⟩ := s
  unfold Step9.agg stepF
  dsimp only
  by_cases ha : a < 0 ∨ 7 < a
  · rw [if_neg (by omega), if_neg (by omega), if_neg (by omega), if_neg (by omega), if_neg (by omega)]
    exact does_else a ha m H
  · have : a = 0 ∨ a = 1 ∨ a = 2 ∨ a = 3 ∨ a = 4 ∨ a = 5 ∨ a = 6 ∨ a = 7 := by omega
    rcases this with rfl | rfl | rfl | rfl | rfl | rfl | rfl | rfl
    · exact does0 m hI hn H
    · exact does1 m hI hn H
    · exact does2 m hI hn H
    · exact does3 m hI hn H
    · exact does4 m hI hn H
    · exact does5 m hI hn H
    · exact does6 m hI hn H
    · exact does7 m hI hn H
end

end Go.Proofs.Ytlccpbdpfamekaa
