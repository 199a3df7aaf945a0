/- Layer 10: all pipes say the same (alike). -/
import Derived.Test.YtlccpbdpfamekaaForkI
namespace Go.Proofs.Ytlccpbdpfamekaa
set_option linter.unusedVariables false
set_option linter.unusedSimpArgs false
open Go.RowKit

section
variable {w : World} {F : List Piece} {gs hs : List (Option Nat)} {M : List PipeM}

set_option maxHeartbeats 400000 in
theorem l_ref10 (m : Wtr) (w : World) : Calls Try.prog 64 #[m.agg] w fun e w' => e = .returned m.agg ∧ Frm Nil w w' := by
  obtain ⟨mg, mc, mv⟩ := m
  unfold Wtr.agg
  dsimp only
  go_enter Try.func64, Try.ntmps64
  go_wp2_with fail
  refine bodyPost_ret (v := .agg #[.int .i64 mg, .int .i64 mc, .int .i64 mv]) (by simp [results, Try.results64, go_sem]) rfl ⟨rfl, ?_⟩
  exact ((Frm.refl _ _).alloc _).alloc _


theorem oks_both (h : oks gs = oks hs) {k g : Nat} (hk : k < gs.length) (hk' : k < hs.length) (hg : gs[k] = some g) : ∃ a, hs[k] = some a := by
  have := congrArg (fun l : List Bool => l[k]?) h
  unfold oks at this
  simp only [List.getElem?_map, List.getElem?_eq_getElem hk, List.getElem?_eq_getElem hk', Option.map_some, Option.some.injEq, hg] at this
  exact Option.isSome_iff_exists.1 this.symm

set_option maxRecDepth 100000 in
set_option maxHeartbeats 4000000 in
theorem l_alike {A B : Piece} {a b : Option Addr} {ca cb n k0 : Nat} (hg : gs.length = n) (hh : hs.length = n) (hM : M.length = n) (ho : oks gs = oks hs) (hI : AllInv k0 M) (hA : Reader A 1 a n (pcs gs)) (hB : Reader B 1 b n (pcs hs)) (hn : n ≤ 1000) (H : SL w (PsP gs M :: RsP hs M :: A :: B :: F)) :
    Calls Try.prog 32 #[.agg #[.slice a n ca, .slice b n cb]] w fun e w' => e = .returned (.bool true) ∧ SL w' (PsP gs M :: RsP hs M :: A :: B :: F) := by
  have HG := Lib.hid hg
  have HH := Lib.hid hh
  have HM := Lib.hid hM
  have HOK := Lib.hid ho
  have HI := Lib.hid hI
  clear hg hh hM ho hI
  have H1 := H.alloc (.cells #[.slice a n ca, .slice b n cb] 64)
  go_enter Try.func32, Try.ntmps32
  obtain ⟨bx, hbx⟩ : ∃ b, w.heap.size = b := ⟨_, rfl⟩
  rw [hbx] at H1
  have HBX := Lib.hid hbx
  clear hbx
  go_wp2_with fail
  simp only [HBX.out]
  go_loopw [13] (fun i wr => ∃ k : Nat, k ≤ n ∧ i = .int .i64 k ∧ SL wr (row bx #[.slice a n ca, .slice b n cb] 64 :: PsP gs M :: RsP hs M :: A :: B :: F)) (fun i _ => n - (intOf i).toNat)
  case atStart => exact ⟨0, Nat.zero_le _, rfl, H1⟩
  case round =>
    obtain ⟨k, hk, rfl, HR⟩ := hrel
    by_cases hlt : k < n
    · have hkg : k < gs.length := by rw [HG.out]; exact hlt
      have hkh : k < hs.length := by rw [HH.out]; exact hlt
      have hkM : k < M.length := by rw [HM.out]; exact hlt
      obtain ⟨b1, o1, e1, d0⟩ := pcs_at (HR.up3.read hA) k hkg
      obtain ⟨b2, o2, e2, d1⟩ := pcs_at (HR.up4.read hB) k hkh
      subst e1 e2
      obtain ⟨x0, x1, xf⟩ := box2 HR.at0
      have xl := lt_of_block HR.at0
      have dl : (k : Int) < (n : Int) := by omega
      have dl0 : (0 : Int) ≤ (k : Int) := by omega
      rcases hgk : gs[k] with _ | g
      · rw [hgk] at d0
        unfold adr at d0
        dsimp only [Option.map] at d0
        clear hgk
        go_wp2_with fail
        go_roundw
        case rel => exact ⟨k + 1, by omega, by go_num, HR⟩
        case measure => simp [intOf]; omega
      · obtain ⟨h, hhk⟩ := oks_both HOK.out hkg hkh hgk
        rw [hgk] at d0
        rw [hhk] at d1
        unfold adr at d0 d1
        dsimp only [Option.map] at d0 d1
        have h3 : gs[k]? = some (some g) := by rw [List.getElem?_eq_getElem hkg, hgk]
        have h4 : hs[k]? = some (some h) := by rw [List.getElem?_eq_getElem hkh, hhk]
        have hMg : M.length = gs.length := by rw [HM.out, HG.out]
        have hMh : M.length = hs.length := by rw [HM.out, HH.out]
        have hx := HI.out.get hkM
        have lb1 : (M.getD k (emptyM 0)).senders.length ≤ 100000 := by have := hx.snd.1; omega
        have lb2 : (M.getD k (emptyM 0)).receivers.length ≤ 100000 := by have := hx.rcv.1; omega
        have kw1 := fun w' (f : Frm Nil wr w') => sl_waiting true lb1 lb2 (take_ps hMg h3 (HR.later f).up1)
        have kw2 := fun w' (f : Frm Nil wr w') => sl_waiting false lb1 lb2 (take_ps hMg h3 (HR.later f).up1)
        have kl := fun w' (f : Frm Nil wr w') => sl_len (take_ps hMg h3 (HR.later f).up1)
        have kd := fun w' (f : Frm Nil wr w') => (take_ps hMg h3 (HR.later f).up1).on.elim (fun S h => pipe_closed h.2)
        have TR := Lib.hid (fun w' (f : Frm Nil wr w') => ref_open (take_rs hMh h4 (HR.later f).up2))
        obtain ⟨y, hy⟩ : ∃ y, M.getD k (emptyM 0) = y := ⟨_, rfl⟩
        rw [hy] at kw1 kw2 kl kd TR lb1 lb2
        simp only [if_true, Bool.false_eq_true, if_false] at kw1 kw2
        have KW1 := Lib.hid kw1
        have KW2 := Lib.hid kw2
        have KD := Lib.hid kd
        clear kw1 kw2 kd hx hy hgk hhk h3 h4 hMg hMh hkg hkh hkM
        have HX := Lib.hid HR
        go_wp2_with fail
        refine (KW1.out _ (Frm.refl _ _)).mono ?_
        rintro e w4 ⟨aa, ac, rfl, hra, hna, f4⟩
        obtain ⟨x0', x1', xf'⟩ := box2 (HR.later f4).at0
        go_wp2_with fail
        refine (KW2.out _ f4).mono ?_
        rintro e w5 ⟨ab, bc, rfl, hrb, hnb, f5⟩
        have fw5 : Frm Nil wr w5 := f4.then f5
        obtain ⟨a1, c1, a2, c2, a3, c3, Hr⟩ := TR.out _ fw5
        have hrA := hra.nil f5
        have hsS := Hr.up2.read Reader.slc
        have hsR := Hr.up3.read Reader.slc
        obtain ⟨r0, r1, r2, r3, r4, r5, r6, rf⟩ := box7 Hr.at0
        have rl := lt_of_block Hr.at0
        obtain ⟨nb, hnb'⟩ : ∃ n, y.buf.length = n := ⟨_, rfl⟩
        obtain ⟨ns, hns'⟩ : ∃ n, y.senders.length = n := ⟨_, rfl⟩
        obtain ⟨nr, hnr'⟩ : ∃ n, y.receivers.length = n := ⟨_, rfl⟩
        rw [hnb'] at kl r1
        rw [hns'] at r2 lb1 hrA hsS
        rw [hnr'] at r3 lb2 hrb hsR
        rw [hns', hnr']
        have KL := Lib.hid kl
        have HNns := Lib.hid hns'
        have HNnr := Lib.hid hnr'
        have HRA := Lib.hid hrA
        have HRB := Lib.hid hrb
        have HSS := Lib.hid hsS
        have HSR := Lib.hid hsR
        have HR2 := Lib.hid r2
        have HR3 := Lib.hid r3
        have FW5 := Lib.hid fw5
        clear kl hnb' hns' hnr' hra hna hnb hrA hrb hsS hsR x0 x1 xf x0' x1' xf' d0 d1
        go_wp2_with fail
        go_region_held3 (fun w' => w'.cell? ⟨h, 1, none⟩ = some (.slice a1 nb c1) ∧ w'.cell? ⟨h, 4, none⟩ = some (.bool y.closed) ∧ w'.cell? ⟨h, 2, none⟩ = some (.slice a2 ns c2) ∧ w'.cell? ⟨h, 3, none⟩ = some (.slice a3 nr c3)) (first | go_keep | (go_split_ands; refine ⟨?_, ?_, ?_, ?_⟩ <;> exact Frm.out (by assumption) (by assumption) (fun h => h))) (first | (go_at_call 16; (with_reducible refine (KL.out _ (by repeat (first | with_reducible exact Frm.refl _ _ | with_reducible assumption | apply Frm.drewN | apply Frm.drew | apply Frm.alloc | (refine Frm.then ?_ (by assumption))))).mono ?_); rintro e w' ⟨rfl, rfl⟩) | (go_at_call 18; (with_reducible refine (KD.out _ (by repeat (first | with_reducible exact Frm.refl _ _ | with_reducible assumption | apply Frm.drewN | apply Frm.drew | apply Frm.alloc | (refine Frm.then ?_ (by assumption))))).mono ?_); rintro e w' ⟨rfl, fq⟩))
        all_goals
          go_wp2_with fail
          go_loopw [68] (fun i wq => ∃ j : Nat, j ≤ ns ∧ i = .int .i64 j ∧ Frm Nil w5 wq) (fun i _ => ns - (intOf i).toNat)
          case atStart => exact ⟨0, Nat.zero_le _, rfl, (by repeat (first | with_reducible exact Frm.refl _ _ | with_reducible assumption | apply Frm.drewN | apply Frm.drew | apply Frm.alloc | (refine Frm.then ?_ (by assumption))))⟩
          case round =>
            obtain ⟨j, hj, rfl, FQ⟩ := hrel
            by_cases hjl : j < ns
            · obtain ⟨b1, o1, q1, x0, x1, x2⟩ := wtr_at (HRA.out.nil FQ) j (by rw [HNns.out]; exact hjl)
              obtain ⟨b2, o2, q2, z0, z1, z2⟩ := wtr_at (HSS.out.nil FQ) j (by rw [HNns.out]; exact hjl)
              subst q1 q2
              have rr := FQ.out HR2.out id
              obtain ⟨mm, hmm⟩ : ∃ m, y.senders[j]'(by rw [HNns.out]; exact hjl) = m := ⟨_, rfl⟩
              rw [hmm] at x0 x1 x2 z0 z1 z2
              clear hmm
              have K := l_ref10 mm
              obtain ⟨mg, mc, mv⟩ := mm
              unfold Wtr.agg at K
              dsimp only at x0 x1 x2 z0 z1 z2 K
              have HK := Lib.hid K
              clear K
              have jl : (j : Int) < (ns : Int) := by omega
              have jl0 : (0 : Int) ≤ (j : Int) := by omega
              go_wp2_with fail
              go_region_held3 (fun w' => w'.cell? ⟨b1, o1 + j * 3, none⟩ = some (.int .i64 mg) ∧ w'.cell? ⟨b1, o1 + j * 3 + 1, none⟩ = some (.int .i64 mc) ∧ w'.cell? ⟨b1, o1 + j * 3 + 2, none⟩ = some (.int .i64 mv) ∧ w'.cell? ⟨h, 2, none⟩ = some (.slice (some ⟨b2, o2, none⟩) ns c2) ∧ w'.cell? ⟨b2, o2 + j * 3, none⟩ = some (.int .i64 mg) ∧ w'.cell? ⟨b2, o2 + j * 3 + 1, none⟩ = some (.int .i64 mc) ∧ w'.cell? ⟨b2, o2 + j * 3 + 2, none⟩ = some (.int .i64 mv)) (first | go_keep | (go_split_ands; refine ⟨?_, ?_, ?_, ?_, ?_, ?_, ?_⟩ <;> exact Frm.out (by assumption) (by assumption) (fun h => h))) ((go_at_call 64; (with_reducible refine (HK.out _).mono ?_); rintro e w8 ⟨rfl, f8⟩))
              all_goals
                go_wp2_with fail
                go_roundw
                case rel => exact ⟨j + 1, by omega, by go_num, (FQ.drewN 1).then f8⟩
                case measure => simp [intOf]; omega
            · have FQ1 := FQ
              go_wp2_with fail
              clear hjl
              go_loopw [87] (fun i wq => ∃ j : Nat, j ≤ nr ∧ i = .int .i64 j ∧ Frm Nil w5 wq) (fun i _ => nr - (intOf i).toNat)
              case atStart => exact ⟨0, Nat.zero_le _, rfl, (by repeat (first | with_reducible exact Frm.refl _ _ | with_reducible assumption | apply Frm.drewN | apply Frm.drew | apply Frm.alloc | (refine Frm.then ?_ (by assumption))))⟩
              case round =>
                obtain ⟨j, hj, rfl, FQ⟩ := hrel
                by_cases hjl : j < nr
                · obtain ⟨b1, o1, q1, x0, x1, x2⟩ := wtr_at (HRB.out.nil FQ) j (by rw [HNnr.out]; exact hjl)
                  obtain ⟨b2, o2, q2, z0, z1, z2⟩ := wtr_at (HSR.out.nil FQ) j (by rw [HNnr.out]; exact hjl)
                  subst q1 q2
                  have rr := FQ.out HR3.out id
                  obtain ⟨mm, hmm⟩ : ∃ m, y.receivers[j]'(by rw [HNnr.out]; exact hjl) = m := ⟨_, rfl⟩
                  rw [hmm] at x0 x1 x2 z0 z1 z2
                  clear hmm
                  have K := l_ref10 mm
                  obtain ⟨mg, mc, mv⟩ := mm
                  unfold Wtr.agg at K
                  dsimp only at x0 x1 x2 z0 z1 z2 K
                  have HK := Lib.hid K
                  clear K
                  have jl : (j : Int) < (nr : Int) := by omega
                  have jl0 : (0 : Int) ≤ (j : Int) := by omega
                  go_wp2_with fail
                  go_region_held3 (fun w' => w'.cell? ⟨b1, o1 + j * 3, none⟩ = some (.int .i64 mg) ∧ w'.cell? ⟨b1, o1 + j * 3 + 1, none⟩ = some (.int .i64 mc) ∧ w'.cell? ⟨b1, o1 + j * 3 + 2, none⟩ = some (.int .i64 mv) ∧ w'.cell? ⟨h, 3, none⟩ = some (.slice (some ⟨b2, o2, none⟩) nr c3) ∧ w'.cell? ⟨b2, o2 + j * 3, none⟩ = some (.int .i64 mg) ∧ w'.cell? ⟨b2, o2 + j * 3 + 1, none⟩ = some (.int .i64 mc) ∧ w'.cell? ⟨b2, o2 + j * 3 + 2, none⟩ = some (.int .i64 mv)) (first | go_keep | (go_split_ands; refine ⟨?_, ?_, ?_, ?_, ?_, ?_, ?_⟩ <;> exact Frm.out (by assumption) (by assumption) (fun h => h))) ((go_at_call 64; (with_reducible refine (HK.out _).mono ?_); rintro e w8 ⟨rfl, f8⟩))
                  all_goals
                    go_wp2_with fail
                    go_roundw
                    case rel => exact ⟨j + 1, by omega, by go_num, (FQ.drewN 1).then f8⟩
                    case measure => simp [intOf]; omega
                · go_wp2_with fail
                  go_roundw
                  case rel => exact ⟨k + 1, by omega, by go_num, HX.out.later (FW5.out.then FQ)⟩
                  case measure => simp [intOf]; omega


    · go_wp2_with fail
      go_ret
      exact ⟨rfl, HR.tl⟩
end

end Go.Proofs.Ytlccpbdpfamekaa

