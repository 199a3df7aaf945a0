/- Layer 10: ForkSteps. -/
import Derived.Test.YtlccpbdpfamekaaForkL
namespace Go.Proofs.Ytlccpbdpfamekaa
set_option linter.unusedVariables false
set_option linter.unusedSimpArgs false
open Go.RowKit

section
variable {w : World}

set_option maxRecDepth 100000 in
set_option maxHeartbeats 8000000 in
theorem forkSteps_walk {v u : Value} {zs : List Int} {L : List ActR} (hz : ArgInts w v zs) (hl : ArgActs w u L) :
    Calls Try.prog 8 #[v, u] w fun e w' => e = .returned (.bool true) ∧ Frm Nil w w' := by
  obtain ⟨za, zc, rfl, hzr⟩ := hz
  obtain ⟨a, cap, rfl, hrd, hin⟩ := hl
  have hm := hrd.2.1
  unfold maxLen at hm
  have H := SL.start w
  have HZ : Reader (Old w) 1 za zs.length (ints zs) := Reader.old hzr
  have HO : Reader (Old w) 6 a L.length (L.flatMap ActR.cells) := Reader.old hrd
  have HD : ∀ x ∈ L, Reader (Old w) 3 x.la x.a.l.length (x.a.l.flatMap CaseM.cells) := fun x hx => Reader.old (hin x hx)
  have kl := fun (w' : World) (F : List Piece) (H : SL w' (Old w :: F)) => l_large (cap := cap) (H.read HO)
  have hbig : largeF L = false → L.length ≤ 150 ∧ ∀ x ∈ L, x.a.l.length ≤ 50 := fun hb => by
    unfold largeF at hb
    rw [Bool.or_eq_false_iff] at hb
    refine ⟨by simpa using hb.2, fun x hx => ?_⟩
    have := List.any_eq_false.1 hb.1 x hx
    simpa using this
  have HBIG := Lib.hid hbig
  have HHD := Lib.hid HD
  obtain ⟨big, hbb⟩ : ∃ b, largeF L = b := ⟨_, rfl⟩
  rw [hbb] at kl
  have HBB := Lib.hid hbb
  have KL := Lib.hid kl
  clear kl hbig HD hbb hin hrd hzr
  obtain ⟨n, hn⟩ : ∃ n, zs.length = n := ⟨_, rfl⟩
  obtain ⟨m, hml⟩ : ∃ m, L.length = m := ⟨_, rfl⟩
  rw [hml] at HO hm KL ⊢
  rw [hn] at HZ ⊢
  have HN := Lib.hid hn
  have HML := Lib.hid hml
  clear hn hml
  by_cases h20 : 20 < n
  · have d1 : decide (20 < (n : Int)) = true := by simp; omega
    have d2 : decide (20 < n) = true := by simp; omega
    go_enter Try.func8, Try.ntmps8
    go_wp2_with fail
    refine (l_one H).mono ?_
    rintro e w1 ⟨rfl, H1⟩
    go_wp2_with fail
    go_ret
    exact ⟨rfl, SL.old H1⟩
  · have d1 : decide (20 < (n : Int)) = false := by simp; omega
    have d2 : decide (20 < n) = false := by simp; omega
    cases big with
    | true =>
      go_enter Try.func8, Try.ntmps8
      go_wp2_with fail
      refine (KL.out _ _ H).mono ?_
      rintro e w1 ⟨rfl, f1⟩
      go_wp2_with fail
      refine (l_one (H.later f1)).mono ?_
      rintro e w2 ⟨rfl, H2⟩
      go_wp2_with fail
      go_ret
      exact ⟨rfl, SL.old H2⟩
    | false =>
      obtain ⟨h150, h50⟩ := HBIG.out HBB.out
      rw [HML.out] at h150
      have H50 := Lib.hid h50
      clear h50 HBIG HBB
      go_enter Try.func8, Try.ntmps8
      go_wp2_with fail
      refine (KL.out _ _ H).mono ?_
      rintro e w1 ⟨rfl, f1⟩
      have H1 := H.later f1
      clear f1 KL
      go_wp2_with fail
      refine (l_pipes HN.out.symm HZ (by rw [HN.out]; omega) H1).mono ?_
      rintro e w2 ⟨v, rfl, ⟨pa, pc, qa, qc, gs, hs, M, rfl, hg, hh, hM, ho, hI, H2⟩⟩
      go_wp2_with fail
      have H3 := H2.alloc (.cells #[.slice pa n pc, .slice qa n qc] 64)
      obtain ⟨bx, hbx⟩ : ∃ b, w2.heap.size = b := ⟨_, rfl⟩
      obtain ⟨w3, hw3⟩ : ∃ w3, w2.alloc (.cells #[.slice pa n pc, .slice qa n qc] 64) = w3 := ⟨_, rfl⟩
      rw [hbx, hw3] at H3
      simp only [hbx, hw3]
      clear hbx hw3 H1 H2
      have HG := Lib.hid hg
      have HH := Lib.hid hh
      have HOK := Lib.hid ho
      have MM := Lib.hid (And.intro hM hI)
      clear hg hh hM ho hI
      have HA : Reader (Slc 23 1 (.slice pa n pc) n (pcs gs)) 1 pa n (pcs gs) := Reader.slc
      have HB : Reader (Slc 28 1 (.slice qa n qc) n (pcs hs)) 1 qa n (pcs hs) := Reader.slc
      go_wp2_with fail
      go_loopw [20] (fun i wr => ∃ (k : Nat) (M : List PipeM), k ≤ m ∧ i = .int .i64 k ∧ Hid (M.length = n ∧ AllInv k M) ∧ SL wr (blk bx (.cells #[.slice pa n pc, .slice qa n qc] 64 (0, 0)) :: PsP gs M :: RsP hs M :: Slc 23 1 (.slice pa n pc) n (pcs gs) :: Slc 28 1 (.slice qa n qc) n (pcs hs) :: [Old w])) (fun i _ => m - (intOf i).toNat)
      case atStart => exact ⟨0, M, Nat.zero_le _, rfl, MM, H3⟩
      case round =>
        clear H3 MM
        obtain ⟨k, M, hk, rfl, MI, HR⟩ := hrel
        by_cases hlt : k < m
        · obtain ⟨x0, x1, xf⟩ := box2 (HR.at 0 rfl)
          have xl0 := lt_of_block (HR.at 0 rfl)
          have hlt' : k < L.length := by rw [HML.out]; exact hlt
          have hrr := HR.up5.read HO
          obtain ⟨b, off, e0, d3, d4, d5, d6, d7, d8⟩ := act_at hrr k hlt'
          have hin : L[k] ∈ L := List.getElem_mem hlt'
          have hxl := H50.out _ hin
          have hxd := HHD.out _ hin
          subst e0
          obtain ⟨x, hx⟩ : ∃ x, L[k] = x := ⟨_, rfl⟩
          rw [hx] at d3 d4 d5 d6 d7 d8 hxl hxd
          obtain ⟨⟨xw, xg, ⟨xs, xc, xv⟩, xl⟩, la, lc⟩ := x
          dsimp only at d3 d4 d5 d6 d7 d8 hxl hxd
          clear hrr hin hx
          have k1 := fun (w' : World) (F : List Piece) (H : SL w' (PsP gs M :: RsP hs M :: _ :: _ :: Old w :: F)) => l_acts (ca := pc) (cb := qc) (lc := lc) HG.out HH.out MI.out.1 HOK.out MI.out.2 (by omega) HA HB hxd (by omega) (by omega) xw xg ⟨xs, xc, xv⟩ H
          have hM1 := (actF_len (oks gs) M ⟨xw, xg, ⟨xs, xc, xv⟩, xl⟩).trans MI.out.1
          have hI1 := AllInv.act MI.out.2 (ok := oks gs) (by unfold oks; rw [List.length_map, MI.out.1, HG.out]) ⟨xw, xg, ⟨xs, xc, xv⟩, xl⟩
          obtain ⟨Y, hY⟩ : ∃ Y, actF (oks gs) M ⟨xw, xg, ⟨xs, xc, xv⟩, xl⟩ = Y := ⟨_, rfl⟩
          rw [hY] at k1 hM1 hI1
          dsimp only at k1
          have MY := Lib.hid (And.intro hM1 hI1)
          have K1 := Lib.hid k1
          clear hY hM1 hI1 k1
          have k2 := fun (w' : World) (F : List Piece) (H : SL w' (PsP gs Y :: RsP hs Y :: _ :: _ :: F)) => l_alike (ca := pc) (cb := qc) HG.out HH.out MY.out.1 HOK.out MY.out.2 HA HB (by omega) H
          have k3 := fun (w' : World) (F : List Piece) (H : SL w' (PsP gs Y :: Old w :: _ :: F)) => f_ready (ca := lc) (cb := pc) (MY.out.1.trans HG.out.symm) rfl HG.out.symm hxd HA (by omega) H
          have k4 := fun (w' : World) (F : List Piece) (H : SL w' (RsP hs Y :: Old w :: _ :: F)) => r_ready10 (ca := lc) (cb := qc) (MY.out.1.trans HH.out.symm) rfl HH.out.symm hxd HB (by omega) H
          rw [← HOK.out] at k4
          obtain ⟨Z, hZ⟩ : ∃ Z, readyL (oks gs) Y xl = Z := ⟨_, rfl⟩
          rw [hZ] at k3 k4
          have K2 := Lib.hid k2
          have K3 := Lib.hid k3
          have K4 := Lib.hid k4
          clear k2 k3 k4 hZ hxd hxl
          go_wp2_with fail
          have H4 := HR.alloc (.cells #[.int .i64 xw, .int .i64 xg, .bool xs, .int .i64 xc, .int .i64 xv, .slice la xl.length lc] 70)
          clear x0 x1 xf xl0
          obtain ⟨ba, hba⟩ : ∃ b, wr.heap.size = b := ⟨_, rfl⟩
          obtain ⟨w4, hw4⟩ : ∃ w4, wr.alloc (.cells #[.int .i64 xw, .int .i64 xg, .bool xs, .int .i64 xc, .int .i64 xv, .slice la xl.length lc] 70) = w4 := ⟨_, rfl⟩
          rw [hba, hw4] at H4
          simp only [hba, hw4]
          clear hba hw4 d3 d4 d5 d6 d7 d8
          obtain ⟨a0, a1, a2, a3, a4, a5, af⟩ := pipe_cells (H4.at 0 rfl)
          obtain ⟨x0, x1, xf⟩ := box2 (H4.at 1 rfl)
          have al := lt_of_block (H4.at 0 rfl)
          have xl0 := lt_of_block (H4.at 1 rfl)
          go_wp2_with fail
          have H4p := H4.pick [2, 3, 4, 5, 6, 0, 1] 7 (by decide)
          simp only [pk, nth, List.map_cons, List.map_nil, List.drop_succ_cons, List.drop_zero, List.cons_append, List.nil_append] at H4p
          go_region_held3 (fun w' => w'.cell? ⟨ba, 0, none⟩ = some (.int .i64 xw) ∧ w'.cell? ⟨ba, 1, none⟩ = some (.int .i64 xg) ∧ w'.cell? ⟨ba, 2, none⟩ = some (.bool xs) ∧ w'.cell? ⟨ba, 3, none⟩ = some (.int .i64 xc) ∧ w'.cell? ⟨ba, 4, none⟩ = some (.int .i64 xv) ∧ w'.cell? ⟨ba, 5, none⟩ = some (.slice la xl.length lc) ∧ w'.cell? ⟨bx, 0, none⟩ = some (.slice pa n pc) ∧ w'.cell? ⟨bx, 1, none⟩ = some (.slice qa n qc)) (first | go_keep | (go_split_ands; refine ⟨?_, ?_, ?_, ?_, ?_, ?_, ?_, ?_⟩ <;> assumption)) (first | (go_at_call 31; ((first | (with_reducible refine (K1.out _ _ H4p).mono ?_) | (with_reducible refine (K1.out _ _ H4p.drew).mono ?_) | (with_reducible refine (K1.out _ _ (H4p.drewN _)).mono ?_)); rintro e w5 ⟨rfl, H5⟩; obtain ⟨a0', a1', a2', a3', a4', a5', af'⟩ := pipe_cells (H5.at 5 rfl); obtain ⟨x0', x1', xf'⟩ := box2 (H5.at 6 rfl))) | (go_at_call 32; ((first | (with_reducible refine (K2.out _ _ H5).mono ?_) | (with_reducible refine (K2.out _ _ H5.drew).mono ?_) | (with_reducible refine (K2.out _ _ (H5.drewN _)).mono ?_)); rintro e w6 ⟨rfl, H6⟩; have H6p := H6.pick [0, 4, 2, 1, 3, 5, 6] 7 (by decide); simp only [pk, nth, List.map_cons, List.map_nil, List.drop_succ_cons, List.drop_zero, List.cons_append, List.nil_append] at H6p; obtain ⟨a0'', a1'', a2'', a3'', a4'', a5'', af''⟩ := pipe_cells (H6.at 5 rfl); obtain ⟨x0'', x1'', xf''⟩ := box2 (H6.at 6 rfl))) | (go_at_call 34; ((first | (with_reducible refine (K3.out _ _ H6p).mono ?_) | (with_reducible refine (K3.out _ _ H6p.drew).mono ?_) | (with_reducible refine (K3.out _ _ (H6p.drewN _)).mono ?_)); rintro e w7 ⟨v1, rfl, H7⟩; obtain ⟨v1, c1, rfl, r1⟩ := H7.slcRd; clear r1; have H7p := H7.pick [4, 2, 5, 0, 1, 3, 6, 7] 8 (by decide); simp only [pk, nth, List.map_cons, List.map_nil, List.drop_succ_cons, List.drop_zero, List.cons_append, List.nil_append] at H7p; obtain ⟨a0_3, a1_3, a2_3, a3_3, a4_3, a5_3, af_3⟩ := pipe_cells (H7.at 6 rfl); obtain ⟨x0_3, x1_3, xf_3⟩ := box2 (H7.at 7 rfl))) | (go_at_call 35; ((first | (with_reducible refine (K4.out _ _ H7p).mono ?_) | (with_reducible refine (K4.out _ _ H7p.drew).mono ?_) | (with_reducible refine (K4.out _ _ (H7p.drewN _)).mono ?_)); rintro e w8 ⟨v2, rfl, H8⟩; obtain ⟨v2, c2, rfl, r2⟩ := H8.slcRd; clear r2; obtain ⟨a0_4, a1_4, a2_4, a3_4, a4_4, a5_4, af_4⟩ := pipe_cells (H8.at 7 rfl); obtain ⟨x0_4, x1_4, xf_4⟩ := box2 (H8.at 8 rfl))) | (go_at_call 33; (refine (l_ints (xs := Z) rfl rfl (H8.up4.read Reader.slc) (H8.read Reader.slc)).mono ?_); rintro e w9 ⟨rfl, f9⟩; have H9 := H8.later f9; obtain ⟨a0_5, a1_5, a2_5, a3_5, a4_5, a5_5, af_5⟩ := pipe_cells (H9.at 7 rfl); obtain ⟨x0_5, x1_5, xf_5⟩ := box2 (H9.at 8 rfl)))
          all_goals
            go_wp2_with fail
            go_roundw
            case rel =>
              have H10 := H9.pick [8, 5, 1, 6, 3, 2] 9 (by decide)
              simp only [pk, nth, List.map_cons, List.map_nil, List.drop_succ_cons, List.drop_zero, List.cons_append, List.nil_append] at H10
              exact ⟨k + 1, Y, by omega, by go_num, MY, (by repeat (first | with_reducible refine SL.drewN ?_ _ | with_reducible refine SL.drew ?_ | with_reducible refine SL.allocd ?_ _ | with_reducible exact H10))⟩
            case measure => simp [intOf]; omega
        · have hkm : k = m := by omega
          clear hlt
          go_wp2_with fail
          refine (l_one HR).mono ?_
          rintro e w5 ⟨rfl, H5⟩
          go_wp2_with fail
          go_ret
          exact ⟨rfl, SL.old H5.tl.tl.tl.tl.tl⟩
end

end Go.Proofs.Ytlccpbdpfamekaa

