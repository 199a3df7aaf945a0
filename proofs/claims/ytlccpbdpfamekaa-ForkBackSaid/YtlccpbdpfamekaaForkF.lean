/- Layer 10, fork: Leave and Park, by the program and by the reference. -/
import Derived.Test.YtlccpbdpfamekaaForkE
namespace Go.Proofs.Ytlccpbdpfamekaa
set_option linter.unusedVariables false
set_option linter.unusedSimpArgs false
open Go.RowKit

section
variable {w : World} {F : List Piece} {gs : List (Option Nat)} {M : List PipeM}

/-- The cell of a slice of pipes. -/
theorem pcs_at {a : Option Addr} {n : Nat} (h : Rd w 1 a n (pcs gs)) (k : Nat) (hk : k < gs.length) : ∃ b off, a = some ⟨b, off, none⟩ ∧ w.cell? ⟨b, off + k, none⟩ = some (adr gs[k]) := by
  have hl := h.1
  unfold pcs at hl
  rw [List.length_map] at hl
  obtain ⟨b, off, ha, hc⟩ := h.2.2 (by omega)
  exact ⟨b, off, ha, hc k _ (by unfold pcs; rw [List.getElem?_map, List.getElem?_eq_getElem hk]; rfl)⟩

theorem oks_at {k : Nat} (hk : k < gs.length) : (oks gs).getD k false = gs[k].isSome := by
  unfold oks
  rw [List.getD_eq_getElem?_getD, List.getElem?_map, List.getElem?_eq_getElem hk]
  rfl

/-- One pipe, or none, drops a goroutine. -/
theorem ps_drop {n : Nat} (hM : M.length = gs.length) (hI : AllInv n M) (g : Int) (k : Nat) (hk : k < gs.length) (H : SL w (PsP gs (leaveM g M k) :: F)) :
    Calls Try.prog 27 #[adr gs[k], .int .i64 g] w fun e w' => e = .returned (.int .i64 (if (oks gs).getD k false then dropN (M.getD k (emptyM 0)) g else 0)) ∧ SL w' (PsP gs (leaveM g M (k + 1)) :: F) := by
  have hkM : k < M.length := by omega
  have hat := leaveM_at g M k hkM
  rw [oks_at hk, ← leaveM_succ g M k hkM]
  rcases hg : gs[k] with _ | a
  · refine (pipe_drop_nil g w).mono ?_
    rintro e w' ⟨rfl, f⟩
    refine ⟨rfl, ?_⟩
    have e0 : gs[k]? = some none := by rw [List.getElem?_eq_getElem hk, hg]
    unfold PsP
    rw [zip_none e0]
    exact H.later f
  · have e0 : gs[k]? = some (some a) := by rw [List.getElem?_eq_getElem hk, hg]
    have H1 := all_take (P := PipeP) e0 hat H
    have hx : Inv9 n M[k] := hI _ (List.getElem_mem hkM)
    refine (sl_drop g hx H1).mono ?_
    rintro e w' ⟨rfl, H2⟩
    refine ⟨?_, all_put (P := PipeP) e0 hat H2⟩
    rw [List.getD_eq_getElem?_getD, List.getElem?_eq_getElem hkM]
    rfl

theorem rs_drop {n : Nat} (hM : M.length = gs.length) (hI : AllInv n M) (g : Int) (k a : Nat) (hk : k < gs.length) (hg : gs[k] = some a) (H : SL w (RsP gs (leaveM g M k) :: F)) :
    Calls Try.prog 48 #[.pointer (some ⟨a, 0, none⟩), .int .i64 g] w fun e w' => e = .returned (.int .i64 (dropN (M.getD k (emptyM 0)) g)) ∧ SL w' (RsP gs (leaveM g M (k + 1)) :: F) := by
  have hkM : k < M.length := by omega
  have hat := leaveM_at g M k hkM
  rw [← leaveM_succ g M k hkM]
  have e0 : gs[k]? = some (some a) := by rw [List.getElem?_eq_getElem hk, hg]
  have H1 := all_take (P := RefP) e0 hat H
  have hx : Inv9 n M[k] := hI _ (List.getElem_mem hkM)
  refine (r_drop g hx.snd.1 hx.rcv.1 H1).mono ?_
  rintro e w' ⟨rfl, H2⟩
  refine ⟨?_, all_put (P := RefP) e0 hat H2⟩
  rw [List.getD_eq_getElem?_getD, List.getElem?_eq_getElem hkM]
  rfl

theorem rs_skip (hM : M.length = gs.length) (g : Int) (k : Nat) (hk : k < gs.length) (hg : gs[k] = none) (H : SL w (RsP gs (leaveM g M k) :: F)) : SL w (RsP gs (leaveM g M (k + 1)) :: F) := by
  rw [← leaveM_succ g M k (by omega)]
  have e0 : gs[k]? = some none := by rw [List.getElem?_eq_getElem hk, hg]
  unfold RsP
  rw [zip_none e0]
  exact H

set_option maxRecDepth 100000 in
set_option maxHeartbeats 1000000 in
theorem f_leave {B : Piece} {b : Option Addr} {cb m n : Nat} (g : Int) (hM : M.length = gs.length) (hm : m = gs.length) (hB : Reader B 1 b m (pcs gs)) (hI : AllInv n M) (hl : gs.length ≤ 1000000) (H : SL w (PsP gs M :: B :: F)) :
    Calls Try.prog 36 #[.int .i64 g, .slice b m cb] w fun e w' => e = .returned (.int .i64 (leaveF (oks gs) g M).1) ∧ SL w' (PsP gs (leaveF (oks gs) g M).2 :: B :: F) := by
  subst hm
  have HM := Lib.hid hM
  have HI := Lib.hid hI
  have hbd := fun k (hk : k ≤ gs.length) => leaveN_bd (oks gs) g hI k (by omega)
  have HBD := Lib.hid hbd
  clear hM hI hbd
  go_enter Try.func36, Try.ntmps36
  go_wp2_with fail
  go_loopw [5, 9] (fun s i wr => ∃ k : Nat, k ≤ gs.length ∧ i = .int .i64 k ∧ s = .int .i64 (leaveN (oks gs) g M k) ∧ SL wr (PsP gs (leaveM g M k) :: B :: F)) (fun _ i _ => gs.length - (intOf i).toNat)
  case atStart => exact ⟨0, Nat.zero_le _, rfl, rfl, H⟩
  case round =>
    obtain ⟨k, hk, rfl, rfl, HR⟩ := hrel
    have bd := HBD.out k hk
    by_cases hlt : k < gs.length
    · obtain ⟨b1, o1, e1, d0⟩ := pcs_at (HR.up1.read hB) k hlt
      subst e1
      have bd2 := HBD.out (k + 1) hlt
      have hs : leaveN (oks gs) g M (k + 1) = leaveN (oks gs) g M k + (if (oks gs).getD k false then dropN (M.getD k (emptyM 0)) g else 0) := rfl
      have k1 := fun (w' : World) (F' : List Piece) (H : SL w' (PsP gs (leaveM g M k) :: F')) => ps_drop HM.out HI.out g k hlt H
      obtain ⟨dn, hdn⟩ : ∃ d, (if (oks gs).getD k false then dropN (M.getD k (emptyM 0)) g else 0) = d := ⟨_, rfl⟩
      rw [hdn] at k1 hs
      obtain ⟨ls, hls⟩ : ∃ d, leaveN (oks gs) g M k = d := ⟨_, rfl⟩
      obtain ⟨ls2, hls2⟩ : ∃ d, leaveN (oks gs) g M (k + 1) = d := ⟨_, rfl⟩
      rw [hls, hls2] at hs
      rw [hls2] at bd2
      rw [hls] at bd ⊢
      unfold adr at k1 d0
      obtain ⟨q, hq⟩ : ∃ q, gs[k].map (fun g => (⟨g, 0, none⟩ : Addr)) = q := ⟨_, rfl⟩
      rw [hq] at k1 d0
      have K1 := Lib.hid k1
      have HS := Lib.hid hs
      have HL2 := Lib.hid hls2
      have b3 : 0 ≤ ls + dn := by omega
      have b4 : ls + dn ≤ 4096000000000 := by omega
      have b5 : 0 ≤ ls := by omega
      have b6 : ls ≤ 4096000000000 := by omega
      clear k1 hs hls hls2 hq hdn
      have dl : (k : Int) < (gs.length : Int) := by omega
      go_wp2_with fail
      refine (K1.out _ _ HR).mono ?_
      rintro e w1 ⟨rfl, H1⟩
      go_wp2_with fail
      go_roundw
      case rel => exact ⟨k + 1, by omega, by go_num, by rw [HL2.out, HS.out], H1⟩
      case measure => simp [intOf]; omega
    · have hkn : k = gs.length := by omega
      have HK := Lib.hid hkn
      clear hkn
      obtain ⟨ls, hls⟩ : ∃ d, leaveN (oks gs) g M k = d := ⟨_, rfl⟩
      rw [hls] at bd ⊢
      have HLS := Lib.hid hls
      clear hls
      go_wp2_with fail
      go_ret
      have hkn := HK.out
      refine ⟨ret_int ?_, ?_⟩
      · unfold leaveF
        rw [HM.out, ← hkn]
        exact HLS.out.symm
      · unfold leaveF
        rw [← leaveM_all, HM.out, ← hkn]
        exact HR

set_option maxRecDepth 100000 in
set_option maxHeartbeats 1000000 in
theorem r_leave {B : Piece} {b : Option Addr} {cb m n : Nat} (g : Int) (hM : M.length = gs.length) (hm : m = gs.length) (hB : Reader B 1 b m (pcs gs)) (hI : AllInv n M) (hl : gs.length ≤ 1000000) (H : SL w (RsP gs M :: B :: F)) :
    Calls Try.prog 37 #[.int .i64 g, .slice b m cb] w fun e w' => e = .returned (.int .i64 (leaveF (oks gs) g M).1) ∧ SL w' (RsP gs (leaveF (oks gs) g M).2 :: B :: F) := by
  subst hm
  have HM := Lib.hid hM
  have HI := Lib.hid hI
  have hbd := fun k (hk : k ≤ gs.length) => leaveN_bd (oks gs) g hI k (by omega)
  have HBD := Lib.hid hbd
  clear hM hI hbd
  go_enter Try.func37, Try.ntmps37
  go_wp2_with fail
  go_loopw [5, 10] (fun s i wr => ∃ k : Nat, k ≤ gs.length ∧ i = .int .i64 k ∧ s = .int .i64 (leaveN (oks gs) g M k) ∧ SL wr (RsP gs (leaveM g M k) :: B :: F)) (fun _ i _ => gs.length - (intOf i).toNat)
  case atStart => exact ⟨0, Nat.zero_le _, rfl, rfl, H⟩
  case round =>
    obtain ⟨k, hk, rfl, rfl, HR⟩ := hrel
    have bd := HBD.out k hk
    by_cases hlt : k < gs.length
    · obtain ⟨b1, o1, e1, d0⟩ := pcs_at (HR.up1.read hB) k hlt
      subst e1
      have bd2 := HBD.out (k + 1) hlt
      have hs : leaveN (oks gs) g M (k + 1) = leaveN (oks gs) g M k + (if (oks gs).getD k false then dropN (M.getD k (emptyM 0)) g else 0) := rfl
      rw [oks_at hlt] at hs
      obtain ⟨ls, hls⟩ : ∃ d, leaveN (oks gs) g M k = d := ⟨_, rfl⟩
      obtain ⟨ls2, hls2⟩ : ∃ d, leaveN (oks gs) g M (k + 1) = d := ⟨_, rfl⟩
      rw [hls, hls2] at hs
      rw [hls2] at bd2
      rw [hls] at bd ⊢
      have HL2 := Lib.hid hls2
      have b5 : 0 ≤ ls := by omega
      have b6 : ls ≤ 4096000000000 := by omega
      have dl : (k : Int) < (gs.length : Int) := by omega
      rcases hg : gs[k] with _ | a
      · rw [hg] at d0 hs
        simp only [Option.isSome_none, Bool.false_eq_true, if_false, Int.add_zero] at hs
        unfold adr at d0
        dsimp only [Option.map] at d0
        have HQ := rs_skip HM.out g k hlt hg HR
        have HS := Lib.hid hs
        clear hs hls hls2 hg
        go_wp2_with fail
        go_roundw
        case rel => exact ⟨k + 1, by omega, by go_num, by rw [HL2.out, HS.out], HQ⟩
        case measure => simp [intOf]; omega
      · rw [hg] at d0 hs
        simp only [Option.isSome_some, if_true] at hs
        unfold adr at d0
        dsimp only [Option.map] at d0
        have k1 := fun (w' : World) (F' : List Piece) (H : SL w' (RsP gs (leaveM g M k) :: F')) => rs_drop HM.out HI.out g k a hlt hg H
        obtain ⟨dn, hdn⟩ : ∃ d, dropN (M.getD k (emptyM 0)) g = d := ⟨_, rfl⟩
        rw [hdn] at k1 hs
        have K1 := Lib.hid k1
        have HS := Lib.hid hs
        have b3 : 0 ≤ ls + dn := by omega
        have b4 : ls + dn ≤ 4096000000000 := by omega
        clear k1 hs hls hls2 hg hdn
        go_wp2_with fail
        refine (K1.out _ _ HR).mono ?_
        rintro e w1 ⟨rfl, H1⟩
        go_wp2_with fail
        go_roundw
        case rel => exact ⟨k + 1, by omega, by go_num, by rw [HL2.out, HS.out], H1⟩
        case measure => simp [intOf]; omega
    · have hkn : k = gs.length := by omega
      have HK := Lib.hid hkn
      clear hkn
      obtain ⟨ls, hls⟩ : ∃ d, leaveN (oks gs) g M k = d := ⟨_, rfl⟩
      rw [hls] at bd ⊢
      have HLS := Lib.hid hls
      clear hls
      go_wp2_with fail
      go_ret
      have hkn := HK.out
      refine ⟨ret_int ?_, ?_⟩
      · unfold leaveF
        rw [HM.out, ← hkn]
        exact HLS.out.symm
      · unfold leaveF
        rw [← leaveM_all, HM.out, ← hkn]
        exact HR
end

end Go.Proofs.Ytlccpbdpfamekaa
