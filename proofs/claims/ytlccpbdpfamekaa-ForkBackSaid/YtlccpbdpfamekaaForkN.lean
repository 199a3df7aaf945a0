/- Layer 10: ForkBack. -/
import Derived.Test.YtlccpbdpfamekaaForkL
namespace Go.Proofs.Ytlccpbdpfamekaa
set_option linter.unusedVariables false
set_option linter.unusedSimpArgs false
open Go.RowKit

section
variable {w : World}

set_option maxRecDepth 100000 in
set_option maxHeartbeats 8000000 in
theorem forkBack_walk {v u : Value} {zs : List Int} {L : List ActR} (hz : ArgInts w v zs) (hl : ArgActs w u L) (gx : Int) (hgx : (Lit.int .i64 gx).wf = true) :
    Calls Try.prog 9 #[v, u, .int .i64 gx] w fun e w' => e = .returned (.bool true) ∧ Frm Nil w w' := by
  clear hgx
  obtain ⟨za, zc, rfl, hzr⟩ := hz
  obtain ⟨a, cap, rfl, hrd, hin⟩ := hl
  have hm := hrd.2.1
  unfold maxLen at hm
  have H := SL.start w
  have HZ : Reader (Old w) 1 za zs.length (ints zs) := Reader.old hzr
  have HO : Reader (Old w) 6 a L.length (L.flatMap ActR.cells) := Reader.old hrd
  have HD : ∀ x ∈ L, Reader (Old w) 3 x.la x.a.l.length (x.a.l.flatMap CaseM.cells) := fun x hx => Reader.old (hin x hx)
  have kl := fun (w' : World) (F : List Piece) (H : SL w' (Old w :: F)) => l_large (cap := cap) (H.read HO)
  have hbig : largeF L = false → L.length ≤ 150 ∧ ∀ x ∈ L, x.a.l.length ≤ 50 := fun hb => by
    unfold largeF at hb
    rw [Bool.or_eq_false_iff] at hb
    refine ⟨by simpa using hb.2, fun x hx => ?_⟩
    have := List.any_eq_false.1 hb.1 x hx
    simpa using this
  have HBIG := Lib.hid hbig
  have HHD := Lib.hid HD
  obtain ⟨big, hbb⟩ : ∃ b, largeF L = b := ⟨_, rfl⟩
  rw [hbb] at kl
  have HBB := Lib.hid hbb
  have KL := Lib.hid kl
  clear kl hbig HD hbb hin hrd hzr
  obtain ⟨n, hn⟩ : ∃ n, zs.length = n := ⟨_, rfl⟩
  obtain ⟨m, hml⟩ : ∃ m, L.length = m := ⟨_, rfl⟩
  rw [hml] at HO hm KL ⊢
  rw [hn] at HZ ⊢
  have HN := Lib.hid hn
  have HML := Lib.hid hml
  clear hn hml
  by_cases h20 : 20 < n
  · have d1 : decide (20 < (n : Int)) = true := by simp; omega
    have d2 : decide (20 < n) = true := by simp; omega
    go_enter Try.func9, Try.ntmps9
    go_wp2_with fail
    refine (l_one H).mono ?_
    rintro e w1 ⟨rfl, H1⟩
    go_wp2_with fail
    go_ret
    exact ⟨rfl, SL.old H1⟩
  · have d1 : decide (20 < (n : Int)) = false := by simp; omega
    have d2 : decide (20 < n) = false := by simp; omega
    cases big with
    | true =>
      go_enter Try.func9, Try.ntmps9
      go_wp2_with fail
      refine (KL.out _ _ H).mono ?_
      rintro e w1 ⟨rfl, f1⟩
      go_wp2_with fail
      refine (l_one (H.later f1)).mono ?_
      rintro e w2 ⟨rfl, H2⟩
      go_wp2_with fail
      go_ret
      exact ⟨rfl, SL.old H2⟩
    | false =>
      obtain ⟨h150, h50⟩ := HBIG.out HBB.out
      rw [HML.out] at h150
      have H50 := Lib.hid h50
      clear h50 HBIG HBB
      go_enter Try.func9, Try.ntmps9
      go_wp2_with fail
      refine (KL.out _ _ H).mono ?_
      rintro e w1 ⟨rfl, f1⟩
      have H1 := H.later f1
      clear f1 KL
      go_wp2_with fail
      refine (l_pipes HN.out.symm HZ (by rw [HN.out]; omega) H1).mono ?_
      rintro e w2 ⟨v, rfl, ⟨pa, pc, qa, qc, gs, hs, M, rfl, hg, hh, hM, ho, hI, H2⟩⟩
      go_wp2_with fail
      have H3 := H2.alloc (.cells #[.slice pa n pc, .slice qa n qc] 64)
      obtain ⟨bx, hbx⟩ : ∃ b, w2.heap.size = b := ⟨_, rfl⟩
      obtain ⟨w3, hw3⟩ : ∃ w3, w2.alloc (.cells #[.slice pa n pc, .slice qa n qc] 64) = w3 := ⟨_, rfl⟩
      rw [hbx, hw3] at H3
      simp only [hbx, hw3]
      clear hbx hw3 H1 H2
      have HG := Lib.hid hg
      have HH := Lib.hid hh
      have HOK := Lib.hid ho
      have MM := Lib.hid (And.intro hM hI)
      clear hg hh hM ho hI
      have HA : Reader (Slc 23 1 (.slice pa n pc) n (pcs gs)) 1 pa n (pcs gs) := Reader.slc
      have HB : Reader (Slc 28 1 (.slice qa n qc) n (pcs hs)) 1 qa n (pcs hs) := Reader.slc
      go_wp2_with fail
      go_loopw [27] (fun i wr => ∃ (k : Nat) (M : List PipeM), k ≤ m ∧ i = .int .i64 k ∧ Hid (M.length = n ∧ AllInv k M) ∧ SL wr (blk bx (.cells #[.slice pa n pc, .slice qa n qc] 64 (0, 0)) :: PsP gs M :: RsP hs M :: Slc 23 1 (.slice pa n pc) n (pcs gs) :: Slc 28 1 (.slice qa n qc) n (pcs hs) :: [Old w])) (fun i _ => m - (intOf i).toNat)
      case atStart => exact ⟨0, M, Nat.zero_le _, rfl, MM, H3⟩
      case round =>
        clear H3 MM
        obtain ⟨k, M, hk, rfl, MI, HR⟩ := hrel
        by_cases hlt : k < m
        · obtain ⟨x0, x1, xf⟩ := box2 (HR.at 0 rfl)
          have xl0 := lt_of_block (HR.at 0 rfl)
          have hlt' : k < L.length := by rw [HML.out]; exact hlt
          have hrr := HR.up5.read HO
          obtain ⟨b, off, e0, d3, d4, d5, d6, d7, d8⟩ := act_at hrr k hlt'
          have hin : L[k] ∈ L := List.getElem_mem hlt'
          have hxl := H50.out _ hin
          have hxd := HHD.out _ hin
          subst e0
          obtain ⟨x, hx⟩ : ∃ x, L[k] = x := ⟨_, rfl⟩
          rw [hx] at d3 d4 d5 d6 d7 d8 hxl hxd
          obtain ⟨⟨xw, xg, ⟨xs, xc, xv⟩, xl⟩, la, lc⟩ := x
          dsimp only at d3 d4 d5 d6 d7 d8 hxl hxd
          clear hrr hin hx
          have k1 := fun (w' : World) (F : List Piece) (H : SL w' (PsP gs M :: RsP hs M :: _ :: _ :: Old w :: F)) => l_acts (ca := pc) (cb := qc) (lc := lc) HG.out HH.out MI.out.1 HOK.out MI.out.2 (by omega) HA HB hxd (by omega) (by omega) xw xg ⟨xs, xc, xv⟩ H
          have hM1 := (actF_len (oks gs) M ⟨xw, xg, ⟨xs, xc, xv⟩, xl⟩).trans MI.out.1
          have hI1 := AllInv.act MI.out.2 (ok := oks gs) (by unfold oks; rw [List.length_map, MI.out.1, HG.out]) ⟨xw, xg, ⟨xs, xc, xv⟩, xl⟩
          obtain ⟨Y, hY⟩ : ∃ Y, actF (oks gs) M ⟨xw, xg, ⟨xs, xc, xv⟩, xl⟩ = Y := ⟨_, rfl⟩
          rw [hY] at k1 hM1 hI1
          dsimp only at k1
          have MY := Lib.hid (And.intro hM1 hI1)
          have K1 := Lib.hid k1
          clear hY hM1 hI1 k1
          go_wp2_with fail
          have H4 := HR.alloc (.cells #[.int .i64 xw, .int .i64 xg, .bool xs, .int .i64 xc, .int .i64 xv, .slice la xl.length lc] 70)
          clear x0 x1 xf xl0
          obtain ⟨ba, hba⟩ : ∃ b, wr.heap.size = b := ⟨_, rfl⟩
          obtain ⟨w4, hw4⟩ : ∃ w4, wr.alloc (.cells #[.int .i64 xw, .int .i64 xg, .bool xs, .int .i64 xc, .int .i64 xv, .slice la xl.length lc] 70) = w4 := ⟨_, rfl⟩
          rw [hba, hw4] at H4
          simp only [hba, hw4]
          clear hba hw4 d3 d4 d5 d6 d7 d8
          obtain ⟨a0, a1, a2, a3, a4, a5, af⟩ := pipe_cells (H4.at 0 rfl)
          obtain ⟨x0, x1, xf⟩ := box2 (H4.at 1 rfl)
          have al := lt_of_block (H4.at 0 rfl)
          have xl0 := lt_of_block (H4.at 1 rfl)
          go_wp2_with fail
          have H4p := H4.pick [2, 3, 4, 5, 6, 0, 1] 7 (by decide)
          simp only [pk, nth, List.map_cons, List.map_nil, List.drop_succ_cons, List.drop_zero, List.cons_append, List.nil_append] at H4p
          refine (K1.out _ _ H4p).mono ?_
          rintro e w5 ⟨rfl, H5⟩
          clear a0 a1 a2 a3 a4 a5 af x0 x1 xf al xl0
          go_wp2_with fail
          go_roundw
          case rel =>
            have H10 := H5.pick [6, 0, 1, 2, 3, 4] 7 (by decide)
            simp only [pk, nth, List.map_cons, List.map_nil, List.drop_succ_cons, List.drop_zero, List.cons_append, List.nil_append] at H10
            exact ⟨k + 1, Y, by omega, by go_num, MY, (by repeat (first | with_reducible refine SL.drewN ?_ _ | with_reducible refine SL.drew ?_ | with_reducible refine SL.allocd ?_ _ | with_reducible exact H10))⟩
          case measure => simp [intOf]; omega
        · have hkm : m = k := by omega
          clear hlt
          subst hkm
          obtain ⟨x0, x1, xf⟩ := box2 (HR.at 0 rfl)
          have xl0 := lt_of_block (HR.at 0 rfl)
          have k5 := fun (w' : World) (F : List Piece) (H : SL w' (PsP gs M :: _ :: F)) => f_leave (cb := pc) gx (MI.out.1.trans HG.out.symm) HG.out.symm HA MI.out.2 (by rw [HG.out]; omega) H
          have k6 := fun (w' : World) (F : List Piece) (H : SL w' (RsP hs M :: _ :: F)) => r_leave (cb := qc) gx (MI.out.1.trans HH.out.symm) HH.out.symm HB MI.out.2 (by rw [HH.out]; omega) H
          rw [← HOK.out] at k6
          have hag := leave_again gx M
          have hln : (M.map (fun x => dropM x gx)).length = M.length := List.length_map _
          have hiv := MI.out.2.leave gx
          rw [MI.out.1] at hln
          obtain ⟨⟨ln, N⟩, hN⟩ : ∃ R, leaveF (oks gs) gx M = R := ⟨_, rfl⟩
          rw [hN] at k5 k6
          unfold leaveF at hN
          have hN2 := congrArg Prod.snd hN
          dsimp only at hN2 k5 k6
          rw [hN2] at hag hln hiv
          clear hN hN2
          have NI := Lib.hid (And.intro hln (And.intro hiv hag))
          have K5 := Lib.hid k5
          have K6 := Lib.hid k6
          clear k5 k6 hln hiv hag MI
          go_wp2_with fail
          have Ha := HR.pick [1, 3, 0, 2, 4, 5] 6 (by decide)
          simp only [pk, nth, List.map_cons, List.map_nil, List.drop_succ_cons, List.drop_zero, List.cons_append, List.nil_append] at Ha
          refine (K5.out _ _ Ha).mono ?_
          rintro e w5 ⟨rfl, Hb⟩
          clear x0 x1 xf xl0
          obtain ⟨x0, x1, xf⟩ := box2 (Hb.at 2 rfl)
          have xl0 := lt_of_block (Hb.at 2 rfl)
          go_wp2_with fail
          have Hc := Hb.pick [3, 4, 2, 0, 1, 5] 6 (by decide)
          simp only [pk, nth, List.map_cons, List.map_nil, List.drop_succ_cons, List.drop_zero, List.cons_append, List.nil_append] at Hc
          refine (K6.out _ _ Hc).mono ?_
          rintro e w6 ⟨rfl, Hd⟩
          have He := Hd.pick [2, 3, 0, 4, 1, 5] 6 (by decide)
          simp only [pk, nth, List.map_cons, List.map_nil, List.drop_succ_cons, List.drop_zero, List.cons_append, List.nil_append] at He
          clear x0 x1 xf xl0 Ha Hb Hc Hd K5 K6 HR
          go_wp2_with fail
          go_loopw [45] (fun i wr => ∃ k : Nat, k ≤ m ∧ i = .int .i64 k ∧ SL wr (blk bx (.cells #[.slice pa n pc, .slice qa n qc] 64 (0, 0)) :: PsP gs N :: RsP hs N :: Slc 23 1 (.slice pa n pc) n (pcs gs) :: Slc 28 1 (.slice qa n qc) n (pcs hs) :: [Old w])) (fun i _ => m - (intOf i).toNat)
          case atStart => exact ⟨0, Nat.zero_le _, rfl, He⟩
          case round =>
            clear He
            obtain ⟨k, hk, rfl, HR⟩ := hrel
            by_cases hlt : k < m
            · obtain ⟨x0, x1, xf⟩ := box2 (HR.at 0 rfl)
              have xl0 := lt_of_block (HR.at 0 rfl)
              have hlt' : k < L.length := by rw [HML.out]; exact hlt
              have hrr := HR.up5.read HO
              obtain ⟨b, off, e0, d3, d4, d5, d6, d7, d8⟩ := act_at hrr k hlt'
              have hin : L[k] ∈ L := List.getElem_mem hlt'
              have hxl := H50.out _ hin
              have hxd := HHD.out _ hin
              subst e0
              obtain ⟨x, hx⟩ : ∃ x, L[k] = x := ⟨_, rfl⟩
              rw [hx] at d3 d4 d5 d6 d7 d8 hxl hxd
              obtain ⟨⟨xw, xg, ⟨xs, xc, xv⟩, xl⟩, la, lc⟩ := x
              dsimp only at d3 d4 d5 d6 d7 d8 hxl hxd
              clear hrr hin hx
              have hokl : N.length = (oks gs).length := by unfold oks; rw [List.length_map, NI.out.1, HG.out]
              have k3 := fun (w' : World) (F : List Piece) (H : SL w' (PsP gs N :: Old w :: _ :: F)) => f_ready (ca := lc) (cb := pc) (NI.out.1.trans HG.out.symm) rfl HG.out.symm hxd HA (by omega) H
              have k4 := fun (w' : World) (F : List Piece) (H : SL w' (PsP gs N :: Old w :: _ :: F)) => f_park (ca := lc) (cb := pc) gx (NI.out.1.trans HG.out.symm) rfl HG.out.symm hxd HA NI.out.2.1 (by omega) H
              have k2 := fun (w' : World) (F : List Piece) (H : SL w' (PsP gs N :: RsP hs N :: _ :: _ :: F)) => l_alike (ca := pc) (cb := qc) HG.out HH.out NI.out.1 HOK.out NI.out.2.1 HA HB (by omega) H
              have hsay := parkF_says (oks gs) gx xl N
              have hlv := parkF_leave (oks gs) gx xl N hokl NI.out.2.2
              have hPl := parkF_len (oks gs) gx xl N
              have hPI := AllInv.parkF NI.out.2.1 hokl gx xl
              obtain ⟨⟨⟨pn, pe⟩, Pm⟩, hP⟩ : ∃ R, parkF (oks gs) gx xl N = R := ⟨_, rfl⟩
              rw [hP] at k4 hsay hlv hPl hPI
              dsimp only at k4 hsay hlv hPl hPI
              have k6 := fun (w' : World) (F : List Piece) (H : SL w' (PsP gs Pm :: _ :: F)) => f_leave (cb := pc) gx ((hPl.trans NI.out.1).trans HG.out.symm) HG.out.symm HA hPI (by rw [HG.out]; omega) H
              rw [hlv] at k6
              dsimp only at k6
              obtain ⟨Z, hZ⟩ : ∃ Z, readyL (oks gs) N xl = Z := ⟨_, rfl⟩
              rw [hZ] at k3 hsay
              have K2 := Lib.hid k2
              have K3 := Lib.hid k3
              have K4 := Lib.hid k4
              have K6 := Lib.hid k6
              clear k2 k3 k4 k6 hP hlv hPl hPI hokl hZ hxd hxl
              go_wp2_with fail
              have H4 := HR.alloc (.cells #[.int .i64 xw, .int .i64 xg, .bool xs, .int .i64 xc, .int .i64 xv, .slice la xl.length lc] 70)
              clear x0 x1 xf xl0
              obtain ⟨ba, hba⟩ : ∃ b, wr.heap.size = b := ⟨_, rfl⟩
              obtain ⟨w4, hw4⟩ : ∃ w4, wr.alloc (.cells #[.int .i64 xw, .int .i64 xg, .bool xs, .int .i64 xc, .int .i64 xv, .slice la xl.length lc] 70) = w4 := ⟨_, rfl⟩
              rw [hba, hw4] at H4
              simp only [hba, hw4]
              clear hba hw4 d3 d4 d5 d6 d7 d8
              obtain ⟨a0, a1, a2, a3, a4, a5, af⟩ := pipe_cells (H4.at 0 rfl)
              obtain ⟨x0, x1, xf⟩ := box2 (H4.at 1 rfl)
              have al := lt_of_block (H4.at 0 rfl)
              have xl0 := lt_of_block (H4.at 1 rfl)
              go_wp2_with fail
              have H4p := H4.pick [2, 6, 4, 0, 1, 3, 5] 7 (by decide)
              simp only [pk, nth, List.map_cons, List.map_nil, List.drop_succ_cons, List.drop_zero, List.cons_append, List.nil_append] at H4p
              refine (K3.out _ _ H4p).mono ?_
              rintro e w5 ⟨v1, rfl, H5⟩
              obtain ⟨v1, c1, rfl, r1⟩ := H5.slcRd
              clear r1
              clear a0 a1 a2 a3 a4 a5 af x0 x1 xf al xl0
              obtain ⟨a0, a1, a2, a3, a4, a5, af⟩ := pipe_cells (H5.at 4 rfl)
              obtain ⟨x0, x1, xf⟩ := box2 (H5.at 5 rfl)
              have al := lt_of_block (H5.at 4 rfl)
              have xl0 := lt_of_block (H5.at 5 rfl)
              go_wp2_with fail
              have H5p := H5.pick [1, 2, 3, 0, 4, 5, 6, 7] 8 (by decide)
              simp only [pk, nth, List.map_cons, List.map_nil, List.drop_succ_cons, List.drop_zero, List.cons_append, List.nil_append] at H5p
              refine (K4.out _ _ H5p).mono ?_
              rintro e w6 ⟨rfl, H6⟩
              rcases hsay with ⟨hs1, hs2⟩ | ⟨hs1, hs2⟩
              · subst hs1
                have e1 : decide ((0 : Int) < (Z.length : Int)) = false := decide_eq_false (by omega)
                have e2 : decide (0 < Z.length) = false := decide_eq_false (by omega)
                clear a0 a1 a2 a3 a4 a5 af x0 x1 xf al xl0
                obtain ⟨a0, a1, a2, a3, a4, a5, af⟩ := pipe_cells (H6.at 4 rfl)
                obtain ⟨x0, x1, xf⟩ := box2 (H6.at 5 rfl)
                have al := lt_of_block (H6.at 4 rfl)
                have xl0 := lt_of_block (H6.at 5 rfl)
                go_wp2_with fail
                have H6p := H6.pick [0, 2, 1, 3, 4, 5, 6, 7] 8 (by decide)
                simp only [pk, nth, List.map_cons, List.map_nil, List.drop_succ_cons, List.drop_zero, List.cons_append, List.nil_append] at H6p
                refine (K6.out _ _ H6p).mono ?_
                rintro e w7 ⟨rfl, H7⟩
                clear a0 a1 a2 a3 a4 a5 af x0 x1 xf al xl0
                obtain ⟨a0, a1, a2, a3, a4, a5, af⟩ := pipe_cells (H7.at 4 rfl)
                obtain ⟨x0, x1, xf⟩ := box2 (H7.at 5 rfl)
                have al := lt_of_block (H7.at 4 rfl)
                have xl0 := lt_of_block (H7.at 5 rfl)
                go_wp2_with fail
                have H7p := H7.pick [0, 6, 1, 7, 2, 3, 4, 5] 8 (by decide)
                simp only [pk, nth, List.map_cons, List.map_nil, List.drop_succ_cons, List.drop_zero, List.cons_append, List.nil_append] at H7p
                refine (K2.out _ _ H7p).mono ?_
                rintro e w8 ⟨rfl, H8⟩
                clear a0 a1 a2 a3 a4 a5 af x0 x1 xf al xl0
                obtain ⟨a0, a1, a2, a3, a4, a5, af⟩ := pipe_cells (H8.at 6 rfl)
                obtain ⟨x0, x1, xf⟩ := box2 (H8.at 7 rfl)
                have al := lt_of_block (H8.at 6 rfl)
                have xl0 := lt_of_block (H8.at 7 rfl)
                go_wp2_with fail
                have H8p := H8.pick [0, 4, 2, 1, 3, 5, 6, 7] 8 (by decide)
                simp only [pk, nth, List.map_cons, List.map_nil, List.drop_succ_cons, List.drop_zero, List.cons_append, List.nil_append] at H8p
                refine (K3.out _ _ H8p).mono ?_
                rintro e w9 ⟨v2, rfl, H9⟩
                obtain ⟨v2, c2, rfl, r2⟩ := H9.slcRd
                clear r2
                clear a0 a1 a2 a3 a4 a5 af x0 x1 xf al xl0
                obtain ⟨a0, a1, a2, a3, a4, a5, af⟩ := pipe_cells (H9.at 7 rfl)
                obtain ⟨x0, x1, xf⟩ := box2 (H9.at 8 rfl)
                have al := lt_of_block (H9.at 7 rfl)
                have xl0 := lt_of_block (H9.at 8 rfl)
                go_wp2_with fail
                refine (l_ints (xs := Z) rfl rfl (H9.read Reader.slc) (H9.up6.read Reader.slc)).mono ?_
                rintro e w10 ⟨rfl, f10⟩
                have H10 := H9.later f10
                go_wp2_with fail
                go_roundw
                case rel =>
                  have H11 := H10.pick [8, 1, 4, 3, 5, 2] 9 (by decide)
                  simp only [pk, nth, List.map_cons, List.map_nil, List.drop_succ_cons, List.drop_zero, List.cons_append, List.nil_append] at H11
                  exact ⟨k + 1, by omega, by go_num, (by repeat (first | with_reducible refine SL.drewN ?_ _ | with_reducible refine SL.drew ?_ | with_reducible refine SL.allocd ?_ _ | with_reducible exact H11))⟩
                case measure => simp [intOf]; omega
              · subst hs2
                have e1 : (pe == 0) = false := by simp; omega
                have e2 : decide (pe = 0) = false := by simp; omega
                clear a0 a1 a2 a3 a4 a5 af x0 x1 xf al xl0
                obtain ⟨a0, a1, a2, a3, a4, a5, af⟩ := pipe_cells (H6.at 4 rfl)
                obtain ⟨x0, x1, xf⟩ := box2 (H6.at 5 rfl)
                have al := lt_of_block (H6.at 4 rfl)
                have xl0 := lt_of_block (H6.at 5 rfl)
                go_wp2_with fail
                have H6p := H6.pick [0, 2, 1, 3, 4, 5, 6, 7] 8 (by decide)
                simp only [pk, nth, List.map_cons, List.map_nil, List.drop_succ_cons, List.drop_zero, List.cons_append, List.nil_append] at H6p
                refine (K6.out _ _ H6p).mono ?_
                rintro e w7 ⟨rfl, H7⟩
                clear a0 a1 a2 a3 a4 a5 af x0 x1 xf al xl0
                obtain ⟨a0, a1, a2, a3, a4, a5, af⟩ := pipe_cells (H7.at 4 rfl)
                obtain ⟨x0, x1, xf⟩ := box2 (H7.at 5 rfl)
                have al := lt_of_block (H7.at 4 rfl)
                have xl0 := lt_of_block (H7.at 5 rfl)
                go_wp2_with fail
                have H7p := H7.pick [0, 6, 1, 7, 2, 3, 4, 5] 8 (by decide)
                simp only [pk, nth, List.map_cons, List.map_nil, List.drop_succ_cons, List.drop_zero, List.cons_append, List.nil_append] at H7p
                refine (K2.out _ _ H7p).mono ?_
                rintro e w8 ⟨rfl, H8⟩
                clear a0 a1 a2 a3 a4 a5 af x0 x1 xf al xl0
                obtain ⟨a0, a1, a2, a3, a4, a5, af⟩ := pipe_cells (H8.at 6 rfl)
                obtain ⟨x0, x1, xf⟩ := box2 (H8.at 7 rfl)
                have al := lt_of_block (H8.at 6 rfl)
                have xl0 := lt_of_block (H8.at 7 rfl)
                go_wp2_with fail
                have H8p := H8.pick [0, 4, 2, 1, 3, 5, 6, 7] 8 (by decide)
                simp only [pk, nth, List.map_cons, List.map_nil, List.drop_succ_cons, List.drop_zero, List.cons_append, List.nil_append] at H8p
                refine (K3.out _ _ H8p).mono ?_
                rintro e w9 ⟨v2, rfl, H9⟩
                obtain ⟨v2, c2, rfl, r2⟩ := H9.slcRd
                clear r2
                clear a0 a1 a2 a3 a4 a5 af x0 x1 xf al xl0
                obtain ⟨a0, a1, a2, a3, a4, a5, af⟩ := pipe_cells (H9.at 7 rfl)
                obtain ⟨x0, x1, xf⟩ := box2 (H9.at 8 rfl)
                have al := lt_of_block (H9.at 7 rfl)
                have xl0 := lt_of_block (H9.at 8 rfl)
                go_wp2_with fail
                refine (l_ints (xs := Z) rfl rfl (H9.read Reader.slc) (H9.up6.read Reader.slc)).mono ?_
                rintro e w10 ⟨rfl, f10⟩
                have H10 := H9.later f10
                go_wp2_with fail
                go_roundw
                case rel =>
                  have H11 := H10.pick [8, 1, 4, 3, 5, 2] 9 (by decide)
                  simp only [pk, nth, List.map_cons, List.map_nil, List.drop_succ_cons, List.drop_zero, List.cons_append, List.nil_append] at H11
                  exact ⟨k + 1, by omega, by go_num, (by repeat (first | with_reducible refine SL.drewN ?_ _ | with_reducible refine SL.drew ?_ | with_reducible refine SL.allocd ?_ _ | with_reducible exact H11))⟩
                case measure => simp [intOf]; omega
            · have hkm : m = k := by omega
              clear hlt
              go_wp2_with fail
              refine (l_one HR).mono ?_
              rintro e w5 ⟨rfl, H5⟩
              go_wp2_with fail
              go_ret
              exact ⟨rfl, SL.old H5.tl.tl.tl.tl.tl⟩
end

end Go.Proofs.Ytlccpbdpfamekaa

