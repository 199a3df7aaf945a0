/- Layer 10, fork: Park, by the program and by the reference. -/
import Derived.Test.YtlccpbdpfamekaaForkF
namespace Go.Proofs.Ytlccpbdpfamekaa
set_option linter.unusedVariables false
set_option linter.unusedSimpArgs false
open Go.RowKit

section
variable {w : World} {F : List Piece} {gs : List (Option Nat)} {M : List PipeM}

theorem parkK_succ (ok : List Bool) (g : Int) (L : List CaseM) (M : List PipeM) (k : Nat) (hk : k < L.length) : parkK ok g L M (k + 1) = (match posF ok L[k].chan with
    | none => parkK ok g L M k
    | some i => ((parkK ok g L M k).1 + (if (waitF ((parkK ok g L M k).2.getD i (emptyM 0)) L[k].send ⟨g, k, L[k].value⟩).1 = 0 then 1 else 0), (parkK ok g L M k).2.set i (waitF ((parkK ok g L M k).2.getD i (emptyM 0)) L[k].send ⟨g, k, L[k].value⟩).2)) := by
  have hgd : L.getD k ⟨false, 0, 0⟩ = L[k] := by rw [List.getD_eq_getElem?_getD, List.getElem?_eq_getElem hk]; rfl
  rw [← hgd]
  rfl

theorem ps_wait {n i g : Nat} {s : Bool} {m : Wtr} (hM : M.length = gs.length) (h3 : gs[i]? = some (some g)) (hx : Inv9 n (M.getD i (emptyM 0))) (H : SL w (PsP gs M :: F)) :
    Calls Try.prog 25 #[.pointer (some ⟨g, 0, none⟩), .bool s, m.agg] w fun e w' => e = .returned (.int .i64 (waitF (M.getD i (emptyM 0)) s m).1) ∧ SL w' (PsP gs (M.set i (waitF (M.getD i (emptyM 0)) s m).2) :: F) := by
  refine (sl_wait s m hx.snd.1 hx.rcv.1 (take_ps hM h3 H)).mono ?_
  rintro e w' ⟨rfl, H1⟩
  exact ⟨rfl, put_ps hM h3 H1⟩

theorem rs_wait {n i g : Nat} {s : Bool} {m : Wtr} (hM : M.length = gs.length) (h3 : gs[i]? = some (some g)) (hx : Inv9 n (M.getD i (emptyM 0))) (H : SL w (RsP gs M :: F)) :
    Calls Try.prog 45 #[.pointer (some ⟨g, 0, none⟩), .bool s, m.agg] w fun e w' => e = .returned (.int .i64 (waitF (M.getD i (emptyM 0)) s m).1) ∧ SL w' (RsP gs (M.set i (waitF (M.getD i (emptyM 0)) s m).2) :: F) := by
  rw [wait_eq hx]
  refine (r_wait s m hx.snd.1 hx.rcv.1 (take_rs hM h3 H)).mono ?_
  rintro e w' ⟨rfl, H1⟩
  exact ⟨rfl, put_rs hM h3 H1⟩

set_option maxRecDepth 100000 in
set_option maxHeartbeats 1000000 in
theorem f_park {A B : Piece} {a b : Option Addr} {ca cb n m k0 : Nat} {L : List CaseM} (g : Int) (hM : M.length = gs.length) (hn : n = L.length) (hm : m = gs.length) (hA : Reader A 3 a n (L.flatMap CaseM.cells)) (hB : Reader B 1 b m (pcs gs)) (hI : AllInv k0 M) (hL : L.length ≤ 100000) (H : SL w (PsP gs M :: A :: B :: F)) :
    Calls Try.prog 38 #[.int .i64 g, .slice a n ca, .slice b m cb] w fun e w' => e = .returned (.tuple #[.int .i64 (parkF (oks gs) g L M).1.1, .int .i64 (parkF (oks gs) g L M).1.2]) ∧ SL w' (PsP gs (parkF (oks gs) g L M).2 :: A :: B :: F) := by
  subst hn hm
  have hok : M.length = (oks gs).length := by unfold oks; rw [List.length_map]; exact hM
  have HP := Lib.hid (fun k => AllInv.park hI hok g L k)
  have HML := Lib.hid (fun k => (parkK_len (oks gs) g L M k).trans hM)
  have HBD := Lib.hid (fun k => parkK_bd (oks gs) g L M k)
  have KR := Lib.hid (f_ready (ca := ca) (cb := cb) hM rfl rfl hA hB hL H)
  obtain ⟨R, hR⟩ : ∃ R, parkF (oks gs) g L M = R := ⟨_, rfl⟩
  rw [hR]
  obtain ⟨⟨rn, re⟩, rM⟩ := R
  unfold parkF at hR
  clear hM hok hI
  by_cases hg : g < 0
  · rw [if_pos (.inl hg)] at hR
    simp only [Prod.mk.injEq] at hR
    obtain ⟨⟨rfl, rfl⟩, rfl⟩ := hR
    go_enter Try.func38, Try.ntmps38
    go_wp2_with fail
    go_ret2
    exact ⟨rfl, H⟩
  · by_cases hl : 4 < L.length
    · rw [if_pos (.inr hl)] at hR
      simp only [Prod.mk.injEq] at hR
      obtain ⟨⟨rfl, rfl⟩, rfl⟩ := hR
      have d1 : (4 : Int) < (L.length : Int) := by omega
      have d2 : decide ((4 : Int) < (L.length : Int)) = true := by simp; omega
      go_enter Try.func38, Try.ntmps38
      go_wp2_with fail
      go_ret2
      exact ⟨rfl, H⟩
    · rw [if_neg (by omega)] at hR
      have d1 : ¬ (4 : Int) < (L.length : Int) := by omega
      have d2 : decide ((4 : Int) < (L.length : Int)) = false := by simp; omega
      obtain ⟨nr, hnr⟩ : ∃ n, (readyL (oks gs) M L).length = n := ⟨_, rfl⟩
      rw [hnr] at hR KR
      have HNR := Lib.hid hnr
      clear hnr
      by_cases h0 : 0 < nr
      · rw [if_pos h0] at hR
        simp only [Prod.mk.injEq] at hR
        obtain ⟨⟨rfl, rfl⟩, rfl⟩ := hR
        have q1 : decide (0 < (nr : Int)) = true := by simpa using h0
        have q2 : decide (0 < nr) = true := by simpa using h0
        go_enter Try.func38, Try.ntmps38
        go_wp2_with fail
        refine KR.out.mono ?_
        rintro e w1 ⟨v, rfl, H1⟩
        obtain ⟨va, vc, hv, hvc, hvm, _⟩ := H1.slc
        subst hv
        unfold maxLen at hvm
        go_wp2_with fail
        go_ret2
        exact ⟨rfl, H1.tl⟩
      · rw [if_neg h0] at hR
        simp only [Prod.mk.injEq] at hR
        obtain ⟨⟨hR1, rfl⟩, hR2⟩ := hR
        have HR1 := Lib.hid hR1
        have HR2 := Lib.hid hR2
        have q1 : decide (0 < (nr : Int)) = false := by simpa using h0
        have q2 : decide (0 < nr) = false := by simpa using h0
        clear hR1 hR2
        go_enter Try.func38, Try.ntmps38
        go_wp2_with fail
        refine KR.out.mono ?_
        rintro e w1 ⟨v, rfl, H1⟩
        obtain ⟨va, vc, hv, hvc, hvm, _⟩ := H1.slc
        subst hv
        unfold maxLen at hvm
        have H1' := H1.tl
        clear H1 hvc
        go_wp2_with fail
        go_loopw [8, 26] (fun s i wr => ∃ k : Nat, k ≤ L.length ∧ i = .int .i64 k ∧ s = .int .i64 (parkK (oks gs) g L M k).1 ∧ SL wr (PsP gs (parkK (oks gs) g L M k).2 :: A :: B :: F)) (fun _ i _ => L.length - (intOf i).toNat)
        case atStart => exact ⟨0, Nat.zero_le _, rfl, rfl, H1'⟩
        case round =>
          obtain ⟨k, hk, rfl, rfl, HR⟩ := hrel
          have bd := HBD.out k
          by_cases hlt : k < L.length
          · obtain ⟨b1, o1, e1, d3, d4, d5⟩ := case_at (HR.up1.read hA) k hlt
            subst e1
            have hs := parkK_succ (oks gs) g L M k hlt
            obtain ⟨c, hc⟩ : ∃ c, L[k] = c := ⟨_, rfl⟩
            rw [hc] at d3 d4 d5 hs
            clear hc
            obtain ⟨cs, cc, cv⟩ := c
            dsimp only at d3 d4 d5 hs
            have hPk := HP.out k
            have hMk := HML.out k
            obtain ⟨⟨nk, Mk⟩, hMM⟩ : ∃ r, parkK (oks gs) g L M k = r := ⟨_, rfl⟩
            obtain ⟨r2, hr2⟩ : ∃ r, parkK (oks gs) g L M (k + 1) = r := ⟨_, rfl⟩
            rw [hMM] at HR hs bd hPk hMk
            rw [hMM]
            rw [hr2] at hs
            dsimp only at HR hs bd hPk hMk ⊢
            have HR2' := Lib.hid hr2
            have k1 := fun (w' : World) (h : Rd w' 1 b gs.length (pcs gs)) => f_named (cap := cb) cc rfl h
            have HX := (HR.alloc (.cells #[.bool cs, .int .i64 cc, .int .i64 cv] 67)).up1
            have dl : (k : Int) < (L.length : Int) := by omega
            have dk : (0 : Int) ≤ (k : Int) := by omega
            rcases nm_pos gs cc with ⟨h1, h2⟩ | ⟨i, ga, h1, h2, h3, h4⟩
            · rw [h1] at hs
              rw [h2] at k1
              unfold adr at k1
              dsimp only [Option.map] at k1 hs
              have K1 := Lib.hid k1
              have HS := Lib.hid hs
              clear k1 hs h1 h2 hr2 hMM hPk hMk
              go_wp2_with fail
              refine (K1.out _ (HX.up3.read hB)).mono ?_
              rintro e w' ⟨rfl, rfl⟩
              go_wp2_with fail
              go_roundw
              case rel => exact ⟨k + 1, by omega, by go_num, by rw [HR2'.out, HS.out], by rw [HR2'.out, HS.out]; exact HX.drop1⟩
              case measure => simp [intOf]; omega
            · rw [h1] at hs
              rw [h2] at k1
              unfold adr at k1
              dsimp only [Option.map] at k1 hs
              have hi : i < Mk.length := by rw [hMk]; exact (List.getElem?_eq_some_iff.1 h3).1
              have k2 := fun (w' : World) (F' : List Piece) (H : SL w' (PsP gs Mk :: F')) => ps_wait (s := cs) (m := ⟨g, k, cv⟩) hMk h3 (hPk.get hi) H
              obtain ⟨⟨we, wy⟩, hwe⟩ : ∃ r, waitF (Mk.getD i (emptyM 0)) cs ⟨g, k, cv⟩ = r := ⟨_, rfl⟩
              rw [hwe] at k2 hs
              unfold Wtr.agg at k2
              dsimp only at k2 hs
              have K1 := Lib.hid k1
              have K2 := Lib.hid k2
              have HS := Lib.hid hs
              clear k1 k2 hs h1 h2 h3 h4 hr2 hMM hPk hMk hwe hi
              go_wp2_with fail
              refine (K1.out _ (HX.up3.read hB)).mono ?_
              rintro e w' ⟨rfl, rfl⟩
              go_wp2_with fail
              refine (K2.out _ _ HX).mono ?_
              rintro e w2 ⟨rfl, H2⟩
              by_cases hwz : we = 0
              · have hs2 := HS.out
                rw [if_pos hwz] at hs2
                subst hwz
                have b3 : 0 ≤ nk + 1 := by omega
                have b4 : nk + 1 ≤ 4096000000000 := by omega
                have HS2 := Lib.hid hs2
                clear hs2 HS
                go_wp2_with fail
                go_roundw
                case rel => exact ⟨k + 1, by omega, by go_num, by rw [HR2'.out, HS2.out], by rw [HR2'.out, HS2.out]; exact H2.drop1⟩
                case measure => simp [intOf]; omega
              · have hs2 := HS.out
                rw [if_neg hwz] at hs2
                have b3 : (we == 0) = false := by simpa using hwz
                have HS2 := Lib.hid hs2
                clear hs2 HS hwz
                go_wp2_with fail
                go_roundw
                case rel => exact ⟨k + 1, by omega, by go_num, by rw [HR2'.out, HS2.out, Int.add_zero], by rw [HR2'.out, HS2.out]; exact H2.drop1⟩
                case measure => simp [intOf]; omega
          · have hkn : k = L.length := by omega
            have HK := Lib.hid hkn
            obtain ⟨nk, hnk⟩ : ∃ r, (parkK (oks gs) g L M k).1 = r := ⟨_, rfl⟩
            rw [hnk]
            have HNK := Lib.hid hnk
            clear hkn hnk
            go_wp2_with fail
            go_ret2
            have e1 : nk = rn := by rw [← HNK.out, HK.out]; exact HR1.out
            have e2 : (parkK (oks gs) g L M k).2 = rM := by rw [HK.out]; exact HR2.out
            rw [e1]
            rw [e2] at HR
            exact ⟨rfl, HR⟩

set_option maxRecDepth 100000 in
set_option maxHeartbeats 1000000 in
theorem r_park {A B : Piece} {a b : Option Addr} {ca cb n m k0 : Nat} {L : List CaseM} (g : Int) (hM : M.length = gs.length) (hn : n = L.length) (hm : m = gs.length) (hA : Reader A 3 a n (L.flatMap CaseM.cells)) (hB : Reader B 1 b m (pcs gs)) (hI : AllInv k0 M) (hL : L.length ≤ 100000) (H : SL w (RsP gs M :: A :: B :: F)) :
    Calls Try.prog 66 #[.int .i64 g, .slice a n ca, .slice b m cb] w fun e w' => e = .returned (.tuple #[.int .i64 (parkF (oks gs) g L M).1.1, .int .i64 (parkF (oks gs) g L M).1.2]) ∧ SL w' (RsP gs (parkF (oks gs) g L M).2 :: A :: B :: F) := by
  subst hn hm
  have hok : M.length = (oks gs).length := by unfold oks; rw [List.length_map]; exact hM
  have HP := Lib.hid (fun k => AllInv.park hI hok g L k)
  have HML := Lib.hid (fun k => (parkK_len (oks gs) g L M k).trans hM)
  have HBD := Lib.hid (fun k => parkK_bd (oks gs) g L M k)
  have KR := Lib.hid (r_ready10 (ca := ca) (cb := cb) hM rfl rfl hA hB hL H)
  obtain ⟨R, hR⟩ : ∃ R, parkF (oks gs) g L M = R := ⟨_, rfl⟩
  rw [hR]
  obtain ⟨⟨rn, re⟩, rM⟩ := R
  unfold parkF at hR
  clear hM hok hI
  by_cases hg : g < 0
  · rw [if_pos (.inl hg)] at hR
    simp only [Prod.mk.injEq] at hR
    obtain ⟨⟨rfl, rfl⟩, rfl⟩ := hR
    go_enter Try.func66, Try.ntmps66
    go_wp2_with fail
    go_ret2
    exact ⟨rfl, H⟩
  · by_cases hl : 4 < L.length
    · rw [if_pos (.inr hl)] at hR
      simp only [Prod.mk.injEq] at hR
      obtain ⟨⟨rfl, rfl⟩, rfl⟩ := hR
      have d1 : (4 : Int) < (L.length : Int) := by omega
      have d2 : decide ((4 : Int) < (L.length : Int)) = true := by simp; omega
      go_enter Try.func66, Try.ntmps66
      go_wp2_with fail
      go_ret2
      exact ⟨rfl, H⟩
    · rw [if_neg (by omega)] at hR
      have d1 : ¬ (4 : Int) < (L.length : Int) := by omega
      have d2 : decide ((4 : Int) < (L.length : Int)) = false := by simp; omega
      obtain ⟨nr, hnr⟩ : ∃ n, (readyL (oks gs) M L).length = n := ⟨_, rfl⟩
      rw [hnr] at hR KR
      have HNR := Lib.hid hnr
      clear hnr
      by_cases h0 : 0 < nr
      · rw [if_pos h0] at hR
        simp only [Prod.mk.injEq] at hR
        obtain ⟨⟨rfl, rfl⟩, rfl⟩ := hR
        have q1 : decide (0 < (nr : Int)) = true := by simpa using h0
        have q2 : decide (0 < nr) = true := by simpa using h0
        go_enter Try.func66, Try.ntmps66
        go_wp2_with fail
        refine KR.out.mono ?_
        rintro e w1 ⟨v, rfl, H1⟩
        obtain ⟨va, vc, hv, hvc, hvm, _⟩ := H1.slc
        subst hv
        unfold maxLen at hvm
        go_wp2_with fail
        go_ret2
        exact ⟨rfl, H1.tl⟩
      · rw [if_neg h0] at hR
        simp only [Prod.mk.injEq] at hR
        obtain ⟨⟨hR1, rfl⟩, hR2⟩ := hR
        have HR1 := Lib.hid hR1
        have HR2 := Lib.hid hR2
        have q1 : decide (0 < (nr : Int)) = false := by simpa using h0
        have q2 : decide (0 < nr) = false := by simpa using h0
        clear hR1 hR2
        go_enter Try.func66, Try.ntmps66
        go_wp2_with fail
        refine KR.out.mono ?_
        rintro e w1 ⟨v, rfl, H1⟩
        obtain ⟨va, vc, hv, hvc, hvm, _⟩ := H1.slc
        subst hv
        unfold maxLen at hvm
        have H1' := H1.tl
        clear H1 hvc
        go_wp2_with fail
        go_loopw [8, 26] (fun s i wr => ∃ k : Nat, k ≤ L.length ∧ i = .int .i64 k ∧ s = .int .i64 (parkK (oks gs) g L M k).1 ∧ SL wr (RsP gs (parkK (oks gs) g L M k).2 :: A :: B :: F)) (fun _ i _ => L.length - (intOf i).toNat)
        case atStart => exact ⟨0, Nat.zero_le _, rfl, rfl, H1'⟩
        case round =>
          obtain ⟨k, hk, rfl, rfl, HR⟩ := hrel
          have bd := HBD.out k
          by_cases hlt : k < L.length
          · obtain ⟨b1, o1, e1, d3, d4, d5⟩ := case_at (HR.up1.read hA) k hlt
            subst e1
            have hs := parkK_succ (oks gs) g L M k hlt
            obtain ⟨c, hc⟩ : ∃ c, L[k] = c := ⟨_, rfl⟩
            rw [hc] at d3 d4 d5 hs
            clear hc
            obtain ⟨cs, cc, cv⟩ := c
            dsimp only at d3 d4 d5 hs
            have hPk := HP.out k
            have hMk := HML.out k
            obtain ⟨⟨nk, Mk⟩, hMM⟩ : ∃ r, parkK (oks gs) g L M k = r := ⟨_, rfl⟩
            obtain ⟨r2, hr2⟩ : ∃ r, parkK (oks gs) g L M (k + 1) = r := ⟨_, rfl⟩
            rw [hMM] at HR hs bd hPk hMk
            rw [hMM]
            rw [hr2] at hs
            dsimp only at HR hs bd hPk hMk ⊢
            have HR2' := Lib.hid hr2
            have k1 := fun (w' : World) (h : Rd w' 1 b gs.length (pcs gs)) => r_named (cap := cb) cc rfl h
            have HX := (HR.alloc (.cells #[.bool cs, .int .i64 cc, .int .i64 cv] 67)).up1
            have dl : (k : Int) < (L.length : Int) := by omega
            have dk : (0 : Int) ≤ (k : Int) := by omega
            rcases nm_pos gs cc with ⟨h1, h2⟩ | ⟨i, ga, h1, h2, h3, h4⟩
            · rw [h1] at hs
              rw [h2] at k1
              unfold adr at k1
              dsimp only [Option.map] at k1 hs
              have K1 := Lib.hid k1
              have HS := Lib.hid hs
              clear k1 hs h1 h2 hr2 hMM hPk hMk
              go_wp2_with fail
              refine (K1.out _ (HX.up3.read hB)).mono ?_
              rintro e w' ⟨rfl, rfl⟩
              go_wp2_with fail
              go_roundw
              case rel => exact ⟨k + 1, by omega, by go_num, by rw [HR2'.out, HS.out], by rw [HR2'.out, HS.out]; exact HX.drop1⟩
              case measure => simp [intOf]; omega
            · rw [h1] at hs
              rw [h2] at k1
              unfold adr at k1
              dsimp only [Option.map] at k1 hs
              have hi : i < Mk.length := by rw [hMk]; exact (List.getElem?_eq_some_iff.1 h3).1
              have k2 := fun (w' : World) (F' : List Piece) (H : SL w' (RsP gs Mk :: F')) => rs_wait (s := cs) (m := ⟨g, k, cv⟩) hMk h3 (hPk.get hi) H
              obtain ⟨⟨we, wy⟩, hwe⟩ : ∃ r, waitF (Mk.getD i (emptyM 0)) cs ⟨g, k, cv⟩ = r := ⟨_, rfl⟩
              rw [hwe] at k2 hs
              unfold Wtr.agg at k2
              dsimp only at k2 hs
              have K1 := Lib.hid k1
              have K2 := Lib.hid k2
              have HS := Lib.hid hs
              clear k1 k2 hs h1 h2 h3 h4 hr2 hMM hPk hMk hwe hi
              go_wp2_with fail
              refine (K1.out _ (HX.up3.read hB)).mono ?_
              rintro e w' ⟨rfl, rfl⟩
              go_wp2_with fail
              refine (K2.out _ _ HX).mono ?_
              rintro e w2 ⟨rfl, H2⟩
              by_cases hwz : we = 0
              · have hs2 := HS.out
                rw [if_pos hwz] at hs2
                subst hwz
                have b3 : 0 ≤ nk + 1 := by omega
                have b4 : nk + 1 ≤ 4096000000000 := by omega
                have HS2 := Lib.hid hs2
                clear hs2 HS
                go_wp2_with fail
                go_roundw
                case rel => exact ⟨k + 1, by omega, by go_num, by rw [HR2'.out, HS2.out], by rw [HR2'.out, HS2.out]; exact H2.drop1⟩
                case measure => simp [intOf]; omega
              · have hs2 := HS.out
                rw [if_neg hwz] at hs2
                have b3 : (we == 0) = false := by simpa using hwz
                have HS2 := Lib.hid hs2
                clear hs2 HS hwz
                go_wp2_with fail
                go_roundw
                case rel => exact ⟨k + 1, by omega, by go_num, by rw [HR2'.out, HS2.out, Int.add_zero], by rw [HR2'.out, HS2.out]; exact H2.drop1⟩
                case measure => simp [intOf]; omega
          · have hkn : k = L.length := by omega
            have HK := Lib.hid hkn
            obtain ⟨nk, hnk⟩ : ∃ r, (parkK (oks gs) g L M k).1 = r := ⟨_, rfl⟩
            rw [hnk]
            have HNK := Lib.hid hnk
            clear hkn hnk
            go_wp2_with fail
            go_ret2
            have e1 : nk = rn := by rw [← HNK.out, HK.out]; exact HR1.out
            have e2 : (parkK (oks gs) g L M k).2 = rM := by rw [HK.out]; exact HR2.out
            rw [e1]
            rw [e2] at HR
            exact ⟨rfl, HR⟩
end

end Go.Proofs.Ytlccpbdpfamekaa

