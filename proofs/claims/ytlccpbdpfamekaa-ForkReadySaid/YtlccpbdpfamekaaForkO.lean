/- Layer 10: ForkReady. -/
import Derived.Test.YtlccpbdpfamekaaForkL
namespace Go.Proofs.Ytlccpbdpfamekaa
set_option linter.unusedVariables false
set_option linter.unusedSimpArgs false
open Go.RowKit

theorem readyL_one (ok : List Bool) (M : List PipeM) (c : CaseM) : (readyL ok M [c]).length = if readyC ok M c then 1 else 0 := by
  unfold readyL
  have h := readyK_succ ok M [c] 0 (by simp)
  rw [show [c].length = 0 + 1 from rfl, h]
  have h0 : readyK ok M [c] 0 = [] := rfl
  rw [h0]
  show (List.length ([] ++ if readyC ok M c then [(((0 : Nat)) : Int)] else [])) = _
  cases readyC ok M c <;> rfl

section
variable {w : World}

set_option maxRecDepth 100000 in
set_option maxHeartbeats 8000000 in
theorem forkReady_walk {v u t : Value} {zs : List Int} {L : List ActR} {cx : CaseM} (hz : ArgInts w v zs) (hl : ArgActs w u L) (hc : ArgCase t cx) :
    Calls Try.prog 10 #[v, u, t] w fun e w' => e = .returned (.bool true) ∧ Frm Nil w w' := by
  unfold ArgCase at hc
  subst hc
  obtain ⟨cs, cc, cv⟩ := cx
  unfold CaseM.agg
  dsimp only
  obtain ⟨za, zc, rfl, hzr⟩ := hz
  obtain ⟨a, cap, rfl, hrd, hin⟩ := hl
  have hm := hrd.2.1
  unfold maxLen at hm
  have H := SL.start w
  have HZ : Reader (Old w) 1 za zs.length (ints zs) := Reader.old hzr
  have HO : Reader (Old w) 6 a L.length (L.flatMap ActR.cells) := Reader.old hrd
  have HD : ∀ x ∈ L, Reader (Old w) 3 x.la x.a.l.length (x.a.l.flatMap CaseM.cells) := fun x hx => Reader.old (hin x hx)
  have kl := fun (w' : World) (F : List Piece) (H : SL w' (Old w :: F)) => l_large (cap := cap) (H.read HO)
  have hbig : largeF L = false → L.length ≤ 150 ∧ ∀ x ∈ L, x.a.l.length ≤ 50 := fun hb => by
    unfold largeF at hb
    rw [Bool.or_eq_false_iff] at hb
    refine ⟨by simpa using hb.2, fun x hx => ?_⟩
    have := List.any_eq_false.1 hb.1 x hx
    simpa using this
  have HBIG := Lib.hid hbig
  have HHD := Lib.hid HD
  obtain ⟨big, hbb⟩ : ∃ b, largeF L = b := ⟨_, rfl⟩
  rw [hbb] at kl
  have HBB := Lib.hid hbb
  have KL := Lib.hid kl
  clear kl hbig HD hbb hin hrd hzr
  obtain ⟨n, hn⟩ : ∃ n, zs.length = n := ⟨_, rfl⟩
  obtain ⟨m, hml⟩ : ∃ m, L.length = m := ⟨_, rfl⟩
  rw [hml] at HO hm KL ⊢
  rw [hn] at HZ ⊢
  have HN := Lib.hid hn
  have HML := Lib.hid hml
  clear hn hml
  by_cases h20 : 20 < n
  · have d1 : decide (20 < (n : Int)) = true := by simp; omega
    have d2 : decide (20 < n) = true := by simp; omega
    go_enter Try.func10, Try.ntmps10
    go_wp2_with fail
    refine (l_one (H.alloc (.cells #[.bool cs, .int .i64 cc, .int .i64 cv] 67))).mono ?_
    rintro e w1 ⟨rfl, H1⟩
    go_wp2_with fail
    go_ret
    exact ⟨rfl, SL.old H1.tl⟩
  · have d1 : decide (20 < (n : Int)) = false := by simp; omega
    have d2 : decide (20 < n) = false := by simp; omega
    cases big with
    | true =>
      go_enter Try.func10, Try.ntmps10
      go_wp2_with fail
      refine (KL.out _ _ (H.alloc (.cells #[.bool cs, .int .i64 cc, .int .i64 cv] 67)).up1).mono ?_
      rintro e w1 ⟨rfl, f1⟩
      go_wp2_with fail
      refine (l_one ((H.alloc (.cells #[.bool cs, .int .i64 cc, .int .i64 cv] 67)).later f1)).mono ?_
      rintro e w2 ⟨rfl, H2⟩
      go_wp2_with fail
      go_ret
      exact ⟨rfl, SL.old H2.tl⟩
    | false =>
      obtain ⟨h150, h50⟩ := HBIG.out HBB.out
      rw [HML.out] at h150
      have H50 := Lib.hid h50
      clear h50 HBIG HBB
      go_enter Try.func10, Try.ntmps10
      go_wp2_with fail
      refine (KL.out _ _ (H.alloc (.cells #[.bool cs, .int .i64 cc, .int .i64 cv] 67)).up1).mono ?_
      rintro e w1 ⟨rfl, f1⟩
      have H1 := (H.alloc (.cells #[.bool cs, .int .i64 cc, .int .i64 cv] 67)).later f1
      obtain ⟨bc, hbc⟩ : ∃ b, w.heap.size = b := ⟨_, rfl⟩
      rw [hbc] at H1
      simp only [hbc]
      clear f1 KL hbc
      go_wp2_with fail
      refine (l_pipes HN.out.symm HZ (by rw [HN.out]; omega) H1.up1).mono ?_
      rintro e w2 ⟨v, rfl, ⟨pa, pc, qa, qc, gs, hs, M, rfl, hg, hh, hM, ho, hI, H2⟩⟩
      go_wp2_with fail
      have H3 := H2.alloc (.cells #[.slice pa n pc, .slice qa n qc] 64)
      obtain ⟨bx, hbx⟩ : ∃ b, w2.heap.size = b := ⟨_, rfl⟩
      obtain ⟨w3, hw3⟩ : ∃ w3, w2.alloc (.cells #[.slice pa n pc, .slice qa n qc] 64) = w3 := ⟨_, rfl⟩
      rw [hbx, hw3] at H3
      simp only [hbx, hw3]
      clear hbx hw3 H1 H2
      have HG := Lib.hid hg
      have HH := Lib.hid hh
      have HOK := Lib.hid ho
      have MM := Lib.hid (And.intro hM hI)
      clear hg hh hM ho hI
      have HA : Reader (Slc 23 1 (.slice pa n pc) n (pcs gs)) 1 pa n (pcs gs) := Reader.slc
      have HB : Reader (Slc 28 1 (.slice qa n qc) n (pcs hs)) 1 qa n (pcs hs) := Reader.slc
      go_wp2_with fail
      go_loopw [25] (fun i wr => ∃ (k : Nat) (M : List PipeM), k ≤ m ∧ i = .int .i64 k ∧ Hid (M.length = n ∧ AllInv k M) ∧ SL wr (blk bx (.cells #[.slice pa n pc, .slice qa n qc] 64 (0, 0)) :: PsP gs M :: RsP hs M :: Slc 23 1 (.slice pa n pc) n (pcs gs) :: Slc 28 1 (.slice qa n qc) n (pcs hs) :: Old w :: [blk bc (.cells #[.bool cs, .int .i64 cc, .int .i64 cv] 67 (0, 0))])) (fun i _ => m - (intOf i).toNat)
      case atStart => exact ⟨0, M, Nat.zero_le _, rfl, MM, H3⟩
      case round =>
        clear H3 MM
        obtain ⟨k, M, hk, rfl, MI, HR⟩ := hrel
        by_cases hlt : k < m
        · obtain ⟨x0, x1, xf⟩ := box2 (HR.at 0 rfl)
          have xl0 := lt_of_block (HR.at 0 rfl)
          have hlt' : k < L.length := by rw [HML.out]; exact hlt
          have hrr := HR.up5.read HO
          obtain ⟨b, off, e0, d3, d4, d5, d6, d7, d8⟩ := act_at hrr k hlt'
          have hin : L[k] ∈ L := List.getElem_mem hlt'
          have hxl := H50.out _ hin
          have hxd := HHD.out _ hin
          subst e0
          obtain ⟨x, hx⟩ : ∃ x, L[k] = x := ⟨_, rfl⟩
          rw [hx] at d3 d4 d5 d6 d7 d8 hxl hxd
          obtain ⟨⟨xw, xg, ⟨xs, xc, xv⟩, xl⟩, la, lc⟩ := x
          dsimp only at d3 d4 d5 d6 d7 d8 hxl hxd
          clear hrr hin hx
          have k1 := fun (w' : World) (F : List Piece) (H : SL w' (PsP gs M :: RsP hs M :: _ :: _ :: Old w :: F)) => l_acts (ca := pc) (cb := qc) (lc := lc) HG.out HH.out MI.out.1 HOK.out MI.out.2 (by omega) HA HB hxd (by omega) (by omega) xw xg ⟨xs, xc, xv⟩ H
          have hM1 := (actF_len (oks gs) M ⟨xw, xg, ⟨xs, xc, xv⟩, xl⟩).trans MI.out.1
          have hI1 := AllInv.act MI.out.2 (ok := oks gs) (by unfold oks; rw [List.length_map, MI.out.1, HG.out]) ⟨xw, xg, ⟨xs, xc, xv⟩, xl⟩
          obtain ⟨Y, hY⟩ : ∃ Y, actF (oks gs) M ⟨xw, xg, ⟨xs, xc, xv⟩, xl⟩ = Y := ⟨_, rfl⟩
          rw [hY] at k1 hM1 hI1
          dsimp only at k1
          have MY := Lib.hid (And.intro hM1 hI1)
          have K1 := Lib.hid k1
          clear hY hM1 hI1 k1
          go_wp2_with fail
          have H4 := HR.alloc (.cells #[.int .i64 xw, .int .i64 xg, .bool xs, .int .i64 xc, .int .i64 xv, .slice la xl.length lc] 70)
          clear x0 x1 xf xl0
          obtain ⟨ba, hba⟩ : ∃ b, wr.heap.size = b := ⟨_, rfl⟩
          obtain ⟨w4, hw4⟩ : ∃ w4, wr.alloc (.cells #[.int .i64 xw, .int .i64 xg, .bool xs, .int .i64 xc, .int .i64 xv, .slice la xl.length lc] 70) = w4 := ⟨_, rfl⟩
          rw [hba, hw4] at H4
          simp only [hba, hw4]
          clear hba hw4 d3 d4 d5 d6 d7 d8
          obtain ⟨a0, a1, a2, a3, a4, a5, af⟩ := pipe_cells (H4.at 0 rfl)
          obtain ⟨x0, x1, xf⟩ := box2 (H4.at 1 rfl)
          have al := lt_of_block (H4.at 0 rfl)
          have xl0 := lt_of_block (H4.at 1 rfl)
          go_wp2_with fail
          have H4p := H4.pick [2, 3, 4, 5, 6, 0, 1, 7] 8 (by decide)
          simp only [pk, nth, List.map_cons, List.map_nil, List.drop_succ_cons, List.drop_zero, List.cons_append, List.nil_append] at H4p
          refine (K1.out _ _ H4p).mono ?_
          rintro e w5 ⟨rfl, H5⟩
          clear a0 a1 a2 a3 a4 a5 af x0 x1 xf al xl0
          go_wp2_with fail
          go_roundw
          case rel =>
            have H10 := H5.pick [6, 0, 1, 2, 3, 4, 7] 8 (by decide)
            simp only [pk, nth, List.map_cons, List.map_nil, List.drop_succ_cons, List.drop_zero, List.cons_append, List.nil_append] at H10
            exact ⟨k + 1, Y, by omega, by go_num, MY, (by repeat (first | with_reducible refine SL.drewN ?_ _ | with_reducible refine SL.drew ?_ | with_reducible refine SL.allocd ?_ _ | with_reducible exact H10))⟩
          case measure => simp [intOf]; omega
        · have hkm : m = k := by omega
          clear hlt
          subst hkm
          obtain ⟨x0, x1, xf⟩ := box2 (HR.at 0 rfl)
          have xl0 := lt_of_block (HR.at 0 rfl)
          have c0 := row_cell (HR.at 6 rfl) 0 rfl
          have c1 := row_cell (HR.at 6 rfl) 1 rfl
          have c2 := row_cell (HR.at 6 rfl) 2 rfl
          have cl := lt_of_block (HR.at 6 rfl)
          have hz := readyL_one (oks gs) M ⟨cs, cc, cv⟩
          have hsay := try_says (oks gs) M ⟨cs, cc, cv⟩
          have k3 := fun (lb : Nat) (w' : World) (F : List Piece) (H : SL w' (PsP gs M :: blk lb (.cells #[.bool cs, .int .i64 cc, .int .i64 cv] 67 (0, 0)) :: _ :: F)) => f_ready (ca := 1) (cb := pc) (n := 1) (L := [⟨cs, cc, cv⟩]) (MI.out.1.trans HG.out.symm) rfl HG.out.symm (Reader.row (xs := [(⟨cs, cc, cv⟩ : CaseM)].flatMap CaseM.cells) rfl (show 1 ≤ maxLen by decide)) HA (by simp) H
          have k4 := fun (w' : World) (F : List Piece) (H : SL w' (PsP gs M :: _ :: F)) => f_try (cb := pc) ⟨cs, cc, cv⟩ (MI.out.1.trans HG.out.symm) HG.out.symm HA MI.out.2 (by omega) H
          obtain ⟨⟨⟨⟨y1, y2, y3, y4, ⟨zg, zc, zv⟩⟩, ye⟩, Y⟩, hR⟩ : ∃ R, tryF (oks gs) M ⟨cs, cc, cv⟩ = R := ⟨_, rfl⟩
          rw [hR] at k4 hsay
          unfold GotM.agg CaseM.agg at k4
          dsimp only at k4 hsay
          obtain ⟨Z, hZ⟩ : ∃ Z, readyL (oks gs) M [⟨cs, cc, cv⟩] = Z := ⟨_, rfl⟩
          rw [hZ] at k3 hz
          obtain ⟨rb, hrb⟩ : ∃ rb, readyC (oks gs) M ⟨cs, cc, cv⟩ = rb := ⟨_, rfl⟩
          rw [hrb] at hz hsay
          have K3 := Lib.hid k3
          have K4 := Lib.hid k4
          clear k3 k4 hR hZ hrb
          go_wp2_with fail
          have H4 := HR.alloc (.cells #[.bool cs, .int .i64 cc, .int .i64 cv] 67)
          obtain ⟨lb, hlb⟩ : ∃ b, wr.heap.size = b := ⟨_, rfl⟩
          obtain ⟨w4, hw4⟩ : ∃ w4, wr.alloc (.cells #[.bool cs, .int .i64 cc, .int .i64 cv] 67) = w4 := ⟨_, rfl⟩
          rw [hlb, hw4] at H4
          simp only [hlb, hw4]
          clear hlb hw4 x0 x1 xf xl0 c0 c1 c2 cl
          have H4p := H4.pick [2, 0, 4, 1, 3, 5, 6, 7] 8 (by decide)
          simp only [pk, nth, List.map_cons, List.map_nil, List.drop_succ_cons, List.drop_zero, List.cons_append, List.nil_append] at H4p
          refine (K3.out _ _ _ H4p).mono ?_
          rintro e w5 ⟨v1, rfl, H5⟩
          obtain ⟨v1, sc1, rfl, r1⟩ := H5.slcRd
          clear r1
          obtain ⟨hs1, hs2⟩ := hsay
          rcases hs2 with rfl | ⟨rfl, rfl, rfl⟩
          · have e90 : ((0 : Int) == 90) = false := rfl
            rw [e90, Bool.or_false] at hs1
            subst hs1
            clear e90
            cases y1
            · have hzz : Z.length = 0 := hz
              have e1 : ((Z.length : Int) == 1) = false := by simp; omega
              have e2 : decide ((Z.length : Int) = 1) = false := by simp; omega
              have e3 : decide (Z.length = 1) = false := by simp; omega
              clear hzz hz
              obtain ⟨x0, x1, xf⟩ := box2 (H5.at 4 rfl)
              have xl0 := lt_of_block (H5.at 4 rfl)
              have c0 := row_cell (H5.at 8 rfl) 0 rfl
              have c1 := row_cell (H5.at 8 rfl) 1 rfl
              have c2 := row_cell (H5.at 8 rfl) 2 rfl
              have cl := lt_of_block (H5.at 8 rfl)
              go_wp2_with fail
              have H5p := H5.pick [1, 3, 0, 2, 4, 5, 6, 7, 8] 9 (by decide)
              simp only [pk, nth, List.map_cons, List.map_nil, List.drop_succ_cons, List.drop_zero, List.cons_append, List.nil_append] at H5p
              refine (K4.out _ _ H5p).mono ?_
              rintro e w6 ⟨rfl, H6⟩
              clear x0 x1 xf xl0 c0 c1 c2 cl
              have c0 := row_cell (H6.at 8 rfl) 0 rfl
              have cl := lt_of_block (H6.at 8 rfl)
              go_wp2_with fail
              refine (l_one (H6.allocd _)).mono ?_
              rintro e w7 ⟨rfl, H7⟩
              go_wp2_with fail
              go_ret
              exact ⟨rfl, SL.old (F := []) (H7.pick [7] 9 (by decide))⟩
            · have hzz : Z.length = 1 := hz
              have e1 : ((Z.length : Int) == 1) = true := by simp; omega
              have e2 : decide ((Z.length : Int) = 1) = true := by simp; omega
              have e3 : decide (Z.length = 1) = true := by simp; omega
              clear hzz hz
              obtain ⟨x0, x1, xf⟩ := box2 (H5.at 4 rfl)
              have xl0 := lt_of_block (H5.at 4 rfl)
              have c0 := row_cell (H5.at 8 rfl) 0 rfl
              have c1 := row_cell (H5.at 8 rfl) 1 rfl
              have c2 := row_cell (H5.at 8 rfl) 2 rfl
              have cl := lt_of_block (H5.at 8 rfl)
              go_wp2_with fail
              have H5p := H5.pick [1, 3, 0, 2, 4, 5, 6, 7, 8] 9 (by decide)
              simp only [pk, nth, List.map_cons, List.map_nil, List.drop_succ_cons, List.drop_zero, List.cons_append, List.nil_append] at H5p
              refine (K4.out _ _ H5p).mono ?_
              rintro e w6 ⟨rfl, H6⟩
              clear x0 x1 xf xl0 c0 c1 c2 cl
              have c0 := row_cell (H6.at 8 rfl) 0 rfl
              have cl := lt_of_block (H6.at 8 rfl)
              go_wp2_with fail
              refine (l_one (H6.allocd _)).mono ?_
              rintro e w7 ⟨rfl, H7⟩
              go_wp2_with fail
              go_ret
              exact ⟨rfl, SL.old (F := []) (H7.pick [7] 9 (by decide))⟩
          · have hb : rb = true := by rw [← hs1]; rfl
            subst hb
            have hzz : Z.length = 1 := hz
            have e1 : ((Z.length : Int) == 1) = true := by simp; omega
            have e2 : decide ((Z.length : Int) = 1) = true := by simp; omega
            have e3 : decide (Z.length = 1) = true := by simp; omega
            clear hzz hz
            obtain ⟨x0, x1, xf⟩ := box2 (H5.at 4 rfl)
            have xl0 := lt_of_block (H5.at 4 rfl)
            have c0 := row_cell (H5.at 8 rfl) 0 rfl
            have c1 := row_cell (H5.at 8 rfl) 1 rfl
            have c2 := row_cell (H5.at 8 rfl) 2 rfl
            have cl := lt_of_block (H5.at 8 rfl)
            go_wp2_with fail
            have H5p := H5.pick [1, 3, 0, 2, 4, 5, 6, 7, 8] 9 (by decide)
            simp only [pk, nth, List.map_cons, List.map_nil, List.drop_succ_cons, List.drop_zero, List.cons_append, List.nil_append] at H5p
            refine (K4.out _ _ H5p).mono ?_
            rintro e w6 ⟨rfl, H6⟩
            clear x0 x1 xf xl0 c0 c1 c2 cl
            have c0 := row_cell (H6.at 8 rfl) 0 rfl
            have cl := lt_of_block (H6.at 8 rfl)
            go_wp2_with fail
            refine (l_one (H6.allocd _)).mono ?_
            rintro e w7 ⟨rfl, H7⟩
            go_wp2_with fail
            go_ret
            exact ⟨rfl, SL.old (F := []) (H7.pick [7] 9 (by decide))⟩
end

end Go.Proofs.Ytlccpbdpfamekaa

