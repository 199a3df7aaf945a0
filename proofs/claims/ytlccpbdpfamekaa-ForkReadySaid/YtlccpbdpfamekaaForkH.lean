/- Layer 10: the law's words: Ints, one, pipes. -/
import Derived.Test.YtlccpbdpfamekaaForkG
import Derived.Test.YtlccpbdpfamekaaForkD
namespace Go.Proofs.Ytlccpbdpfamekaa
set_option linter.unusedVariables false
set_option linter.unusedSimpArgs false
open Go.RowKit

theorem Reader.row {g n sz : Nat} {xs : List Value} {t : TypeId} (h : xs.length = n * sz) (hn : n ≤ maxLen) : Reader (row g xs.toArray t) sz (some ⟨g, 0, none⟩) n xs := by
  intro S w hw
  refine ⟨h, hn, fun _ => ⟨g, 0, rfl, fun i u hu => ?_⟩⟩
  rw [Nat.zero_add]
  exact row_cell hw.2 i (by simpa using hu)

section
variable {w : World} {F : List Piece} {gs hs : List (Option Nat)} {M : List PipeM}

set_option maxRecDepth 100000 in
set_option maxHeartbeats 1000000 in
theorem l_ints {a b : Option Addr} {ca cb n m : Nat} {xs : List Int} (hn : n = xs.length) (hm : m = xs.length) (hA : Rd w 1 a n (ints xs)) (hB : Rd w 1 b m (ints xs)) :
    Calls Try.prog 33 #[.slice a n ca, .slice b m cb] w fun e w' => e = .returned (.bool true) ∧ Frm Nil w w' := by
  subst hn
  subst hm
  have hm := hA.2.1
  unfold maxLen at hm
  go_enter Try.func33, Try.ntmps33
  go_wp2_with fail
  go_loopw [8] (fun i wr => ∃ k : Nat, k ≤ xs.length ∧ i = .int .i64 k ∧ Frm Nil w wr) (fun i _ => xs.length - (intOf i).toNat)
  case atStart => exact ⟨0, Nat.zero_le _, rfl, Frm.refl _ _⟩
  case round =>
    obtain ⟨k, hk, rfl, HR⟩ := hrel
    by_cases hlt : k < xs.length
    · obtain ⟨b1, o1, e1, d1⟩ := Rd.int_at (hA.nil HR) (by omega)
      obtain ⟨b2, o2, e2, d2⟩ := Rd.int_at (hB.nil HR) (by omega)
      have g1 := d1 k hlt
      have g2 := d2 k hlt
      subst e1 e2
      clear d1 d2
      obtain ⟨u, hu⟩ : ∃ u, xs.getD k 0 = u := ⟨_, rfl⟩
      rw [hu] at g1 g2
      clear hu
      have z1 : (k : Int) < (xs.length : Int) := by omega
      have z2 : ¬ (xs.length : Int) ≤ (k : Int) := by omega
      have z3 : decide ((xs.length : Int) ≤ (k : Int)) = false := by simp; omega
      have z4 : decide (xs.length ≤ k) = false := by simp; omega
      have z5 : (0 : Int) ≤ (k : Int) := by omega
      go_wp2_with fail
      try go_quiet (fail)
      go_wp2_with fail
      go_roundw
      case rel => exact ⟨k + 1, by omega, by go_num, by repeat (first | with_reducible exact HR | apply Frm.drewN | apply Frm.drew | apply Frm.alloc)⟩
      case measure => simp [intOf]; omega
    · go_wp2_with fail
      go_ret
      exact ⟨rfl, HR⟩

theorem ps_two {g h : Nat} {x y : PipeM} (H : SL w (PipeP g x :: PipeP h y :: F)) : SL w (PsP [some g, some h] [x, y] :: F) := SL.all.2 H

set_option maxRecDepth 100000 in
set_option maxHeartbeats 4000000 in
theorem l_one (H : SL w F) : Calls Try.prog 29 #[] w fun e w' => e = .returned (.bool true) ∧ SL w' F := by
  have k0 := fun F' w' (H : SL w' F') => sl_new 1 (by decide) H
  have k1 := fun F' w' (H : SL w' F') => sl_new 0 (by decide) H
  have k2 := fun g F' w' (H : SL w' (PipeP g (emptyM 1) :: F')) => sl_send0 7 (by decide) (by unfold Cnt emptyM; decide) H
  rw [show sendF (emptyM 1) 7 = ((⟨true, false, false, 0, wzero⟩, 0), ⟨1, [7], [], [], false, 1, 0⟩) from rfl] at k2
  unfold GotM.agg wzero at k2
  dsimp only at k2
  have K0 := Lib.hid k0
  have K1 := Lib.hid k1
  have K2 := Lib.hid k2
  clear k0 k1 k2
  have hI0 : AllInv 1 [(⟨1, [7], [], [], false, 1, 0⟩ : PipeM), emptyM 0] := by
    intro x hx
    simp only [List.mem_cons, List.not_mem_nil, or_false] at hx
    rcases hx with rfl | rfl
    · exact (Inv9.empty (z := 1) (by decide)).send 7
    · exact (Inv9.empty (z := 0) (by decide)).more (by decide)
  have hI1 : AllInv 2 [(⟨1, [], [], [], false, 1, 1⟩ : PipeM), emptyM 0] := by
    intro x hx
    simp only [List.mem_cons, List.not_mem_nil, or_false] at hx
    rcases hx with rfl | rfl
    · exact ((Inv9.empty (z := 1) (by decide)).send 7).recv
    · exact (Inv9.empty (z := 0) (by decide)).more (by decide)
  have HI0 := Lib.hid hI0
  have HI1 := Lib.hid hI1
  clear hI0 hI1
  go_enter Try.func29, Try.ntmps29
  go_wp2_with fail
  refine (K0.out _ _ H).mono ?_
  rintro e w1 ⟨p, rfl, H1⟩
  go_wp2_with fail
  refine (K1.out _ _ H1).mono ?_
  rintro e w2 ⟨q, rfl, H2⟩
  go_wp2_with fail
  refine (K2.out _ _ _ H2.up1).mono ?_
  rintro e w3 ⟨rfl, H3⟩
  go_wp2_with fail
  have H4 := (H3.alloc (.cells #[.bool false, .int .i64 0, .int .i64 0, .bool true, .int .i64 1, .int .i64 5] 67)).alloc (.cells #[.pointer (some ⟨p, 0, none⟩), .pointer (some ⟨q, 0, none⟩)] 23)
  rw [size_alloc] at H4
  obtain ⟨lb, hlb⟩ : ∃ b, w3.heap.size = b := ⟨_, rfl⟩
  obtain ⟨pb, hpb⟩ : ∃ b, lb + 1 = b := ⟨_, rfl⟩
  obtain ⟨W, hW⟩ : ∃ W, (w3.alloc (.cells #[.bool false, .int .i64 0, .int .i64 0, .bool true, .int .i64 1, .int .i64 5] 67)).alloc (.cells #[.pointer (some ⟨p, 0, none⟩), .pointer (some ⟨q, 0, none⟩)] 23) = W := ⟨_, rfl⟩
  rw [hlb, hpb, hW] at H4
  simp only [hW, hlb, hpb]
  clear hW hlb hpb
  have H5 := H4.pick [2, 3, 1, 0] 4 (by decide)
  simp only [pk, nth, List.map_cons, List.map_nil, List.drop_succ_cons, List.drop_zero, List.cons_append, List.nil_append] at H5
  have H6 := ps_two H5
  clear H5 H4 H3 H2 H1
  have RA : Reader (row lb #[.bool false, .int .i64 0, .int .i64 0, .bool true, .int .i64 1, .int .i64 5] 67) 3 (some ⟨lb, 0, none⟩) 2 ([⟨false, 0, 0⟩, ⟨true, 1, 5⟩].flatMap CaseM.cells) := Reader.row (xs := [⟨false, 0, 0⟩, ⟨true, 1, 5⟩].flatMap CaseM.cells) rfl (by decide)
  have RB : Reader (row pb #[.pointer (some ⟨p, 0, none⟩), .pointer (some ⟨q, 0, none⟩)] 23) 1 (some ⟨pb, 0, none⟩) 2 (pcs [some p, some q]) := Reader.row (xs := pcs [some p, some q]) rfl (show 2 ≤ maxLen by decide)
  have HRA := Lib.hid RA
  have HRB := Lib.hid RB
  have er : readyL (oks [some p, some q]) [(⟨1, [7], [], [], false, 1, 0⟩ : PipeM), emptyM 0] [⟨false, 0, 0⟩, ⟨true, 1, 5⟩] = [0] := rfl
  have et : tryF (oks [some p, some q]) [(⟨1, [7], [], [], false, 1, 0⟩ : PipeM), emptyM 0] ⟨false, 0, 0⟩ = ((⟨true, true, false, 7, wzero⟩, 0), [⟨1, [], [], [], false, 1, 1⟩, emptyM 0]) := rfl
  have ep : parkF (oks [some p, some q]) 3 [⟨false, 0, 0⟩, ⟨true, 1, 5⟩] [(⟨1, [], [], [], false, 1, 1⟩ : PipeM), emptyM 0] = ((2, 0), [⟨1, [], [], [⟨3, 0, 0⟩], false, 1, 1⟩, ⟨0, [], [⟨3, 1, 5⟩], [], false, 0, 0⟩]) := rfl
  have el : leaveF (oks [some p, some q]) 3 [(⟨1, [], [], [⟨3, 0, 0⟩], false, 1, 1⟩ : PipeM), ⟨0, [], [⟨3, 1, 5⟩], [], false, 0, 0⟩] = (2, [⟨1, [], [], [], false, 1, 1⟩, ⟨0, [], [], [], false, 0, 0⟩]) := rfl
  have q1 := f_ready (ca := 2) (cb := 2) (gs := [some p, some q]) rfl rfl rfl RA RB (by decide) H6
  rw [er] at q1
  have Q1 := Lib.hid q1
  have q2 := fun (w' : World) (F' : List Piece) (H : SL w' (PsP [some p, some q] _ :: _ :: F')) => f_try (cb := 2) (gs := [some p, some q]) ⟨false, 0, 0⟩ rfl rfl RB HI0.out (by decide) H
  rw [et] at q2
  unfold GotM.agg CaseM.agg wzero at q2
  dsimp only at q2
  have Q2 := Lib.hid q2
  have hI2 : AllInv 2 (parkF (oks [some p, some q]) 3 [⟨false, 0, 0⟩, ⟨true, 1, 5⟩] [(⟨1, [], [], [], false, 1, 1⟩ : PipeM), emptyM 0]).2 := HI1.out.parkF rfl 3 _
  rw [ep] at hI2
  have q3 := fun (w' : World) (F' : List Piece) (H : SL w' (PsP [some p, some q] [(⟨1, [], [], [], false, 1, 1⟩ : PipeM), emptyM 0] :: _ :: _ :: F')) => f_park (ca := 2) (cb := 2) (gs := [some p, some q]) 3 rfl rfl rfl RA RB HI1.out (by decide) H
  rw [ep] at q3
  have Q3 := Lib.hid q3
  have q4 := fun (w' : World) (F' : List Piece) (H : SL w' (PsP [some p, some q] [(⟨1, [], [], [⟨3, 0, 0⟩], false, 1, 1⟩ : PipeM), ⟨0, [], [⟨3, 1, 5⟩], [], false, 0, 0⟩] :: _ :: F')) => f_leave (cb := 2) (gs := [some p, some q]) 3 rfl rfl RB hI2 (show 2 ≤ 1000000 by decide) H
  rw [el] at q4
  have Q4 := Lib.hid q4
  clear q1 q2 q3 q4 er et ep el hI2 RA RB HI0 HI1
  refine Q1.out.mono ?_
  rintro e w4 ⟨v, rfl, H7⟩
  obtain ⟨va, vc, hv, hvc, hvm, _⟩ := H7.slc
  subst hv
  clear hvc
  have lbr := H7.at 2 rfl
  have d0 := row_cell lbr 0 rfl
  have d1 := row_cell lbr 1 rfl
  have d2 := row_cell lbr 2 rfl
  have dl := lt_of_block lbr
  clear lbr
  go_wp2_with fail
  refine (Q2.out _ _ (H7.pick [1, 3, 2, 0] 4 (by decide))).mono ?_
  rintro e w5 ⟨rfl, H8⟩
  simp only [pk, nth, List.map_cons, List.map_nil, List.drop_succ_cons, List.drop_zero, List.cons_append, List.nil_append] at H8
  go_wp2_with fail
  have H9 := H8.alloc (.cells #[.bool true, .bool true, .bool false, .int .i64 7, .int .i64 0, .int .i64 0, .int .i64 0] 49)
  obtain ⟨gb, hgb⟩ : ∃ b, w5.heap.size = b := ⟨_, rfl⟩
  rw [hgb] at H9
  simp only [hgb]
  clear hgb
  refine (Q3.out _ _ (H9.pick [1, 3, 2, 0, 4] 5 (by decide))).mono ?_
  rintro e w6 ⟨rfl, H10⟩
  simp only [pk, nth, List.map_cons, List.map_nil, List.drop_succ_cons, List.drop_zero, List.cons_append, List.nil_append] at H10
  have g0 := H10.at 3 rfl
  obtain ⟨z0, z1, z2, z3, z4, z5, z6, zf⟩ := box7 g0
  have zl := lt_of_block g0
  clear g0
  go_wp2_with fail
  have H11 := H10.alloc (.cells #[.int .i64 0] 3)
  obtain ⟨sb, hsb⟩ : ∃ b, w6.heap.size = b := ⟨_, rfl⟩
  rw [hsb] at H11
  simp only [hsb]
  clear hsb z0 z1 z2 z3 z4 z5 z6 zf zl
  refine (l_ints (xs := [0]) rfl rfl (H11.up5.read Reader.slc) (H11.read (Reader.row (xs := ints [0]) rfl (show 1 ≤ maxLen by decide)))).mono ?_
  rintro e w7 ⟨rfl, f7⟩
  have H12 := H11.later f7
  have g0 := H12.at 4 rfl
  obtain ⟨z0, z1, z2, z3, z4, z5, z6, zf⟩ := box7 g0
  have zl := lt_of_block g0
  clear g0
  go_wp2_with fail
  refine (Q4.out _ _ (H12.pick [1, 3] 6 (by decide))).mono ?_
  rintro e w8 ⟨rfl, H13⟩
  go_wp2_with fail
  go_ret
  exact ⟨rfl, H13.tl.tl⟩
end

end Go.Proofs.Ytlccpbdpfamekaa
