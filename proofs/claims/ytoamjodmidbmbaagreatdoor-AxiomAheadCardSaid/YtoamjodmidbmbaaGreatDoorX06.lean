/- Texts of the proof. -/
import Derived.Test.YtoamjodmidbmbaaGreatDoorX05
import Derived.Test.YtoamjodmidbmbaaGreatDoorX03
set_option linter.unusedVariables false
set_option linter.unusedSimpArgs false
namespace Go.Proofs.YtoamjodmidbmbaaGreatDoor
open Go.RowKit
section
variable {w : World} {F : List Piece} {gs : List (Option Nat)} {M : List PipeM}
theorem pcs_at {a : Option Addr} {n : Nat} (h : Rd w 1 a n (pcs gs)) (k : Nat) (hk : k < gs.length) : ∃ b off, a = some ⟨b, off, none⟩ ∧ w.cell? ⟨b, off + k, none⟩ = some (adr gs[k]) := by
 have hl := h.1
 unfold pcs at hl
 rw [List.length_map] at hl
 obtain ⟨b, off, ha, hc⟩ := h.2.2 (by omega)
 exact ⟨b, off, ha, hc k _ (by unfold pcs; rw [List.getElem?_map, List.getElem?_eq_getElem hk]; rfl)⟩
theorem oks_at {k : Nat} (hk : k < gs.length) : (oks gs).getD k false = gs[k].isSome := by
 unfold oks
 rw [List.getD_eq_getElem?_getD, List.getElem?_map, List.getElem?_eq_getElem hk]
 rfl
theorem rs_drop {n : Nat} (hM : M.length = gs.length) (hI : AllInv n M) (g : Int) (k a : Nat) (hk : k < gs.length) (hg : gs[k] = some a) (H : SL w (RsP gs (leaveM g M k) :: F)) :
  Calls Tryz.prog 172 #[.pointer (some ⟨a, 0, none⟩), .int .i64 g] w fun e w' => e = .returned (.int .i64 (dropN (M.getD k (emptyM 0)) g)) ∧ SL w' (RsP gs (leaveM g M (k + 1)) :: F) := by
 have hkM : k < M.length := by omega
 have hat := leaveM_at g M k hkM
 rw [← leaveM_succ g M k hkM]
 have e0 : gs[k]? = some (some a) := by rw [List.getElem?_eq_getElem hk, hg]
 have H1 := all_take (P := RefP) e0 hat H
 have hx : Inv9 n M[k] := hI _ (List.getElem_mem hkM)
 refine (r_drop g hx.snd.1 hx.rcv.1 H1).mono ?_
 rintro e w' ⟨rfl, H2⟩
 refine ⟨?_, all_put (P := RefP) e0 hat H2⟩
 rw [List.getD_eq_getElem?_getD, List.getElem?_eq_getElem hkM]
 rfl
theorem rs_skip (hM : M.length = gs.length) (g : Int) (k : Nat) (hk : k < gs.length) (hg : gs[k] = none) (H : SL w (RsP gs (leaveM g M k) :: F)) : SL w (RsP gs (leaveM g M (k + 1)) :: F) := by
 rw [← leaveM_succ g M k (by omega)]
 have e0 : gs[k]? = some none := by rw [List.getElem?_eq_getElem hk, hg]
 unfold RsP
 rw [zip_none e0]
 exact H
set_option maxRecDepth 100000 in
set_option maxHeartbeats 1000000 in
theorem r_leave {B : Piece} {b : Option Addr} {cb m n : Nat} (g : Int) (hM : M.length = gs.length) (hm : m = gs.length) (hB : Reader B 1 b m (pcs gs)) (hI : AllInv n M) (hl : gs.length ≤ 1000000) (H : SL w (RsP gs M :: B :: F)) :
  Calls Tryz.prog 163 #[.int .i64 g, .slice b m cb] w fun e w' => e = .returned (.int .i64 (leaveF (oks gs) g M).1) ∧ SL w' (RsP gs (leaveF (oks gs) g M).2 :: B :: F) := by
 subst hm
 have HM := Lib.hid hM
 have HI := Lib.hid hI
 have hbd := fun k (hk : k ≤ gs.length) => leaveN_bd (oks gs) g hI k (by omega)
 have HBD := Lib.hid hbd
 clear hM hI hbd
 go_enter Tryz.func163, Tryz.ntmps163
 go_wp2_with fail
 go_loopw [5, 10] (fun s i wr => ∃ k : Nat, k ≤ gs.length ∧ i = .int .i64 k ∧ s = .int .i64 (leaveN (oks gs) g M k) ∧ SL wr (RsP gs (leaveM g M k) :: B :: F)) (fun _ i _ => gs.length - (intOf i).toNat)
 case atStart => exact ⟨0, Nat.zero_le _, rfl, rfl, H⟩
 case round =>
  obtain ⟨k, hk, rfl, rfl, HR⟩ := hrel
  have bd := HBD.out k hk
  by_cases hlt : k < gs.length
  ·obtain ⟨b1, o1, e1, d0⟩ := pcs_at (HR.up1.read hB) k hlt
   subst e1
   have bd2 := HBD.out (k + 1) hlt
   have hs : leaveN (oks gs) g M (k + 1) = leaveN (oks gs) g M k + (if (oks gs).getD k false then dropN (M.getD k (emptyM 0)) g else 0) := rfl
   rw [oks_at hlt] at hs
   obtain ⟨ls, hls⟩ : ∃ d, leaveN (oks gs) g M k = d := ⟨_, rfl⟩
   obtain ⟨ls2, hls2⟩ : ∃ d, leaveN (oks gs) g M (k + 1) = d := ⟨_, rfl⟩
   rw [hls, hls2] at hs
   rw [hls2] at bd2
   rw [hls] at bd ⊢
   have HL2 := Lib.hid hls2
   have b5 : 0 ≤ ls := by omega
   have b6 : ls ≤ 4096000000000 := by omega
   have dl : (k : Int) < (gs.length : Int) := by omega
   rcases hg : gs[k] with _ | a
   ·rw [hg] at d0 hs
    simp only [Option.isSome_none, Bool.false_eq_true, if_false, Int.add_zero] at hs
    unfold adr at d0
    dsimp only [Option.map] at d0
    have HQ := rs_skip HM.out g k hlt hg HR
    have HS := Lib.hid hs
    clear hs hls hls2 hg
    go_wp2_with fail
    go_roundw
    case rel => exact ⟨k + 1, by omega, by go_num, by rw [HL2.out, HS.out], HQ⟩
    case measure => simp [intOf]; omega
   ·rw [hg] at d0 hs
    simp only [Option.isSome_some, if_true] at hs
    unfold adr at d0
    dsimp only [Option.map] at d0
    have k1 := fun (w' : World) (F' : List Piece) (H : SL w' (RsP gs (leaveM g M k) :: F')) => rs_drop HM.out HI.out g k a hlt hg H
    obtain ⟨dn, hdn⟩ : ∃ d, dropN (M.getD k (emptyM 0)) g = d := ⟨_, rfl⟩
    rw [hdn] at k1 hs
    have K1 := Lib.hid k1
    have HS := Lib.hid hs
    have b3 : 0 ≤ ls + dn := by omega
    have b4 : ls + dn ≤ 4096000000000 := by omega
    clear k1 hs hls hls2 hg hdn
    go_wp2_with fail
    refine (K1.out _ _ HR).mono ?_
    rintro e w1 ⟨rfl, H1⟩
    go_wp2_with fail
    go_roundw
    case rel => exact ⟨k + 1, by omega, by go_num, by rw [HL2.out, HS.out], H1⟩
    case measure => simp [intOf]; omega
  ·have hkn : k = gs.length := by omega
   have HK := Lib.hid hkn
   clear hkn
   obtain ⟨ls, hls⟩ : ∃ d, leaveN (oks gs) g M k = d := ⟨_, rfl⟩
   rw [hls] at bd ⊢
   have HLS := Lib.hid hls
   clear hls
   go_wp2_with fail
   go_ret
   have hkn := HK.out
   refine ⟨ret_int ?_, ?_⟩
   ·unfold leaveF
    rw [HM.out, ← hkn]
    exact HLS.out.symm
   ·unfold leaveF
    rw [← leaveM_all, HM.out, ← hkn]
    exact HR
end
section
variable {w : World} {F : List Piece} {gs : List (Option Nat)} {M : List PipeM}
theorem parkK_succ (ok : List Bool) (g : Int) (L : List CaseM) (M : List PipeM) (k : Nat) (hk : k < L.length) : parkK ok g L M (k + 1) = (match posF ok L[k].chan with
  | none => parkK ok g L M k
  | some i => ((parkK ok g L M k).1 + (if (waitF ((parkK ok g L M k).2.getD i (emptyM 0)) L[k].send ⟨g, k, L[k].value⟩).1 = 0 then 1 else 0), (parkK ok g L M k).2.set i (waitF ((parkK ok g L M k).2.getD i (emptyM 0)) L[k].send ⟨g, k, L[k].value⟩).2)) := by
 have hgd : L.getD k ⟨false, 0, 0⟩ = L[k] := by rw [List.getD_eq_getElem?_getD, List.getElem?_eq_getElem hk]; rfl
 rw [← hgd]
 rfl
theorem rs_wait {n i g : Nat} {s : Bool} {m : Wtr} (hM : M.length = gs.length) (h3 : gs[i]? = some (some g)) (hx : Inv9 n (M.getD i (emptyM 0))) (H : SL w (RsP gs M :: F)) :
  Calls Tryz.prog 137 #[.pointer (some ⟨g, 0, none⟩), .bool s, m.agg] w fun e w' => e = .returned (.int .i64 (waitF (M.getD i (emptyM 0)) s m).1) ∧ SL w' (RsP gs (M.set i (waitF (M.getD i (emptyM 0)) s m).2) :: F) := by
 rw [wait_eq hx]
 refine (r_wait s m hx.snd.1 hx.rcv.1 (take_rs hM h3 H)).mono ?_
 rintro e w' ⟨rfl, H1⟩
 exact ⟨rfl, put_rs hM h3 H1⟩
set_option maxRecDepth 100000 in
set_option maxHeartbeats 1000000 in
theorem r_park {A B : Piece} {a b : Option Addr} {ca cb n m k0 : Nat} {L : List CaseM} (g : Int) (hM : M.length = gs.length) (hn : n = L.length) (hm : m = gs.length) (hA : Reader A 3 a n (L.flatMap CaseM.cells)) (hB : Reader B 1 b m (pcs gs)) (hI : AllInv k0 M) (hL : L.length ≤ 100000) (H : SL w (RsP gs M :: A :: B :: F)) :
  Calls Tryz.prog 144 #[.int .i64 g, .slice a n ca, .slice b m cb] w fun e w' => e = .returned (.tuple #[.int .i64 (parkF (oks gs) g L M).1.1, .int .i64 (parkF (oks gs) g L M).1.2]) ∧ SL w' (RsP gs (parkF (oks gs) g L M).2 :: A :: B :: F) := by
 subst hn hm
 have hok : M.length = (oks gs).length := by unfold oks; rw [List.length_map]; exact hM
 have HP := Lib.hid (fun k => AllInv.park hI hok g L k)
 have HML := Lib.hid (fun k => (parkK_len (oks gs) g L M k).trans hM)
 have HBD := Lib.hid (fun k => parkK_bd (oks gs) g L M k)
 have KR := Lib.hid (r_ready10 (ca := ca) (cb := cb) hM rfl rfl hA hB hL H)
 obtain ⟨R, hR⟩ : ∃ R, parkF (oks gs) g L M = R := ⟨_, rfl⟩
 rw [hR]
 obtain ⟨⟨rn, re⟩, rM⟩ := R
 unfold parkF at hR
 clear hM hok hI
 by_cases hg : g < 0
 ·rw [if_pos (.inl hg)] at hR
  simp only [Prod.mk.injEq] at hR
  obtain ⟨⟨rfl, rfl⟩, rfl⟩ := hR
  go_enter Tryz.func144, Tryz.ntmps144
  go_wp2_with fail
  go_ret2
  exact ⟨rfl, H⟩
 ·by_cases hl : 4 < L.length
  ·rw [if_pos (.inr hl)] at hR
   simp only [Prod.mk.injEq] at hR
   obtain ⟨⟨rfl, rfl⟩, rfl⟩ := hR
   have d1 : (4 : Int) < (L.length : Int) := by omega
   have d2 : decide ((4 : Int) < (L.length : Int)) = true := by simp; omega
   go_enter Tryz.func144, Tryz.ntmps144
   go_wp2_with fail
   go_ret2
   exact ⟨rfl, H⟩
  ·rw [if_neg (by omega)] at hR
   have d1 : ¬ (4 : Int) < (L.length : Int) := by omega
   have d2 : decide ((4 : Int) < (L.length : Int)) = false := by simp; omega
   obtain ⟨nr, hnr⟩ : ∃ n, (readyL (oks gs) M L).length = n := ⟨_, rfl⟩
   rw [hnr] at hR KR
   have HNR := Lib.hid hnr
   clear hnr
   by_cases h0 : 0 < nr
   ·rw [if_pos h0] at hR
    simp only [Prod.mk.injEq] at hR
    obtain ⟨⟨rfl, rfl⟩, rfl⟩ := hR
    have q1 : decide (0 < (nr : Int)) = true := by simpa using h0
    have q2 : decide (0 < nr) = true := by simpa using h0
    go_enter Tryz.func144, Tryz.ntmps144
    go_wp2_with fail
    refine KR.out.mono ?_
    rintro e w1 ⟨v, rfl, H1⟩
    obtain ⟨va, vc, hv, hvc, hvm, _⟩ := H1.slc
    subst hv
    unfold maxLen at hvm
    go_wp2_with fail
    go_ret2
    exact ⟨rfl, H1.tl⟩
   ·rw [if_neg h0] at hR
    simp only [Prod.mk.injEq] at hR
    obtain ⟨⟨hR1, rfl⟩, hR2⟩ := hR
    have HR1 := Lib.hid hR1
    have HR2 := Lib.hid hR2
    have q1 : decide (0 < (nr : Int)) = false := by simpa using h0
    have q2 : decide (0 < nr) = false := by simpa using h0
    clear hR1 hR2
    go_enter Tryz.func144, Tryz.ntmps144
    go_wp2_with fail
    refine KR.out.mono ?_
    rintro e w1 ⟨v, rfl, H1⟩
    obtain ⟨va, vc, hv, hvc, hvm, _⟩ := H1.slc
    subst hv
    unfold maxLen at hvm
    have H1' := H1.tl
    clear H1 hvc
    go_wp2_with fail
    go_loopw [8, 26] (fun s i wr => ∃ k : Nat, k ≤ L.length ∧ i = .int .i64 k ∧ s = .int .i64 (parkK (oks gs) g L M k).1 ∧ SL wr (RsP gs (parkK (oks gs) g L M k).2 :: A :: B :: F)) (fun _ i _ => L.length - (intOf i).toNat)
    case atStart => exact ⟨0, Nat.zero_le _, rfl, rfl, H1'⟩
    case round =>
     obtain ⟨k, hk, rfl, rfl, HR⟩ := hrel
     have bd := HBD.out k
     by_cases hlt : k < L.length
     ·obtain ⟨b1, o1, e1, d3, d4, d5⟩ := case_at (HR.up1.read hA) k hlt
      subst e1
      have hs := parkK_succ (oks gs) g L M k hlt
      obtain ⟨c, hc⟩ : ∃ c, L[k] = c := ⟨_, rfl⟩
      rw [hc] at d3 d4 d5 hs
      clear hc
      obtain ⟨cs, cc, cv⟩ := c
      dsimp only at d3 d4 d5 hs
      have hPk := HP.out k
      have hMk := HML.out k
      obtain ⟨⟨nk, Mk⟩, hMM⟩ : ∃ r, parkK (oks gs) g L M k = r := ⟨_, rfl⟩
      obtain ⟨r2, hr2⟩ : ∃ r, parkK (oks gs) g L M (k + 1) = r := ⟨_, rfl⟩
      rw [hMM] at HR hs bd hPk hMk
      rw [hMM]
      rw [hr2] at hs
      dsimp only at HR hs bd hPk hMk ⊢
      have HR2' := Lib.hid hr2
      have k1 := fun (w' : World) (h : Rd w' 1 b gs.length (pcs gs)) => r_named (cap := cb) cc rfl h
      have HX := (HR.alloc (.cells #[.bool cs, .int .i64 cc, .int .i64 cv] 162)).up1
      have dl : (k : Int) < (L.length : Int) := by omega
      have dk : (0 : Int) ≤ (k : Int) := by omega
      rcases nm_pos gs cc with ⟨h1, h2⟩ | ⟨i, ga, h1, h2, h3, h4⟩
      ·rw [h1] at hs
       rw [h2] at k1
       unfold adr at k1
       dsimp only [Option.map] at k1 hs
       have K1 := Lib.hid k1
       have HS := Lib.hid hs
       clear k1 hs h1 h2 hr2 hMM hPk hMk
       go_wp2_with fail
       refine (K1.out _ (HX.up3.read hB)).mono ?_
       rintro e w' ⟨rfl, rfl⟩
       go_wp2_with fail
       go_roundw
       case rel => exact ⟨k + 1, by omega, by go_num, by rw [HR2'.out, HS.out], by rw [HR2'.out, HS.out]; exact HX.drop1⟩
       case measure => simp [intOf]; omega
      ·rw [h1] at hs
       rw [h2] at k1
       unfold adr at k1
       dsimp only [Option.map] at k1 hs
       have hi : i < Mk.length := by rw [hMk]; exact (List.getElem?_eq_some_iff.1 h3).1
       have k2 := fun (w' : World) (F' : List Piece) (H : SL w' (RsP gs Mk :: F')) => rs_wait (s := cs) (m := ⟨g, k, cv⟩) hMk h3 (hPk.get hi) H
       obtain ⟨⟨we, wy⟩, hwe⟩ : ∃ r, waitF (Mk.getD i (emptyM 0)) cs ⟨g, k, cv⟩ = r := ⟨_, rfl⟩
       rw [hwe] at k2 hs
       unfold Wtr.agg at k2
       dsimp only at k2 hs
       have K1 := Lib.hid k1
       have K2 := Lib.hid k2
       have HS := Lib.hid hs
       clear k1 k2 hs h1 h2 h3 h4 hr2 hMM hPk hMk hwe hi
       go_wp2_with fail
       refine (K1.out _ (HX.up3.read hB)).mono ?_
       rintro e w' ⟨rfl, rfl⟩
       go_wp2_with fail
       refine (K2.out _ _ HX).mono ?_
       rintro e w2 ⟨rfl, H2⟩
       by_cases hwz : we = 0
       ·have hs2 := HS.out
        rw [if_pos hwz] at hs2
        subst hwz
        have b3 : 0 ≤ nk + 1 := by omega
        have b4 : nk + 1 ≤ 4096000000000 := by omega
        have HS2 := Lib.hid hs2
        clear hs2 HS
        go_wp2_with fail
        go_roundw
        case rel => exact ⟨k + 1, by omega, by go_num, by rw [HR2'.out, HS2.out], by rw [HR2'.out, HS2.out]; exact H2.drop1⟩
        case measure => simp [intOf]; omega
       ·have hs2 := HS.out
        rw [if_neg hwz] at hs2
        have b3 : (we == 0) = false := by simpa using hwz
        have HS2 := Lib.hid hs2
        clear hs2 HS hwz
        go_wp2_with fail
        go_roundw
        case rel => exact ⟨k + 1, by omega, by go_num, by rw [HR2'.out, HS2.out, Int.add_zero], by rw [HR2'.out, HS2.out]; exact H2.drop1⟩
        case measure => simp [intOf]; omega
     ·have hkn : k = L.length := by omega
      have HK := Lib.hid hkn
      obtain ⟨nk, hnk⟩ : ∃ r, (parkK (oks gs) g L M k).1 = r := ⟨_, rfl⟩
      rw [hnk]
      have HNK := Lib.hid hnk
      clear hkn hnk
      go_wp2_with fail
      go_ret2
      have e1 : nk = rn := by rw [← HNK.out, HK.out]; exact HR1.out
      have e2 : (parkK (oks gs) g L M k).2 = rM := by rw [HK.out]; exact HR2.out
      rw [e1]
      rw [e2] at HR
      exact ⟨rfl, HR⟩
end
structure OpX where
 op : OpM
 ca : Option Addr
 cc : Nat
structure ProgX where
 ops : List OpX
 pa : Option Addr
 pc : Nat
def OpX.cells (o : OpX) : List Value := [.int .i64 o.op.kind, .int .i64 o.op.a, .int .i64 o.op.b, .slice o.ca o.op.cases.length o.cc, .bool o.op.dflt]
def progsM (X : List ProgX) : List (List OpM) := X.map (fun p => p.ops.map (·.op))
structure ScrA (A : Piece) (b off : Nat) (X : List ProgX) : Prop where
 prog : ∀ (S : Nat → Prop) (w : World), A.on S w → ∀ (k : Nat) (p : ProgX), X[k]? = some p → w.cell? ⟨b, off + k * 1, none⟩ = some (.slice p.pa p.ops.length p.pc)
 some_ : ∀ (k : Nat) (p : ProgX), X[k]? = some p → 0 < p.ops.length → ∃ b2 o2, p.pa = some ⟨b2, o2, none⟩
 op : ∀ (S : Nat → Prop) (w : World), A.on S w → ∀ (k : Nat) (p : ProgX), X[k]? = some p → ∀ b2 o2, p.pa = some ⟨b2, o2, none⟩ → ∀ (j : Nat) (o : OpX), p.ops[j]? = some o → ∀ (i : Nat) (v : Value), o.cells[i]? = some v → w.cell? ⟨b2, o2 + j * 5 + i, none⟩ = some v
 cap : ∀ (k : Nat) (p : ProgX), X[k]? = some p → p.ops.length ≤ p.pc
 case : ∀ (k : Nat) (p : ProgX), X[k]? = some p → ∀ (j : Nat) (o : OpX), p.ops[j]? = some o → Reader A 3 o.ca o.op.cases.length (o.op.cases.flatMap CaseM.cells) ∧ o.op.cases.length ≤ o.cc
def IntA (A : Piece) (b off : Nat) (xs : List Int) : Prop := ∀ (S : Nat → Prop) (w : World), A.on S w → ∀ (j : Nat) (x : Int), xs[j]? = some x → w.cell? ⟨b, off + j * 1, none⟩ = some (.int .i64 x)
section
variable {w : World} {L F : List Piece} {A : Piece} {b off : Nat} {X : List ProgX} {p : ProgX} {o : OpX} {v : Value} {K : Value → Prop} {xs : List Int} {x : Int}
theorem SL.ldP (H : SL w L) (i : Nat) (hi : L[i]? = some A) (hX : ScrA A b off X) (k : Nat) (hk : X[k]? = some p) (h : K (.slice p.pa p.ops.length p.pc)) : Ld w ⟨b, off + k * 1, none⟩ K := by
 obtain ⟨T, _, hT⟩ := SLs.at i H hi
 exact Ld.by (hX.prog T w hT k p hk) h
theorem LdC.P (i : Nat) (hi : L[i]? = some A) (hX : ScrA A b off X) (k : Nat) (hk : X[k]? = some p) (h : K (.slice p.pa p.ops.length p.pc)) : LdC (fun w => SL w L) ⟨b, off + k * 1, none⟩ K :=
 LdC.by (fun w H => by
  obtain ⟨T, _, hT⟩ := SLs.at i H hi
  exact hX.prog T w hT k p hk) h
theorem SL.ldO {b2 o2 : Nat} (H : SL w L) (n : Nat) (hi : L[n]? = some A) (hX : ScrA A b off X) (k : Nat) (hk : X[k]? = some p) (hp : p.pa = some ⟨b2, o2, none⟩) (j i : Nat) (hj : p.ops[j]? = some o) (hv : o.cells[i]? = some v) (h : K v) : Ld w ⟨b2, o2 + j * 5 + i, none⟩ K := by
 obtain ⟨T, _, hT⟩ := SLs.at n H hi
 exact Ld.by (hX.op T w hT k p hk b2 o2 hp j o hj i v hv) h
theorem LdC.O {b2 o2 : Nat} (n : Nat) (hi : L[n]? = some A) (hX : ScrA A b off X) (k : Nat) (hk : X[k]? = some p) (hp : p.pa = some ⟨b2, o2, none⟩) (j i : Nat) (hj : p.ops[j]? = some o) (hv : o.cells[i]? = some v) (h : K v) : LdC (fun w => SL w L) ⟨b2, o2 + j * 5 + i, none⟩ K :=
 LdC.by (fun w H => by
  obtain ⟨T, _, hT⟩ := SLs.at n H hi
  exact hX.op T w hT k p hk b2 o2 hp j o hj i v hv) h
theorem LdC.I (i : Nat) (hi : L[i]? = some A) (hX : IntA A b off xs) (j : Nat) (hj : xs[j]? = some x) (h : K (.int .i64 x)) : LdC (fun w => SL w L) ⟨b, off + j * 1, none⟩ K :=
 LdC.by (fun w H => by
  obtain ⟨T, _, hT⟩ := SLs.at i H hi
  exact hX T w hT j x hj) h
end
def OnesP (tc te c : Nat) (L : List One) : Piece := ofAt (fun w S => OnesAt tc te w S c L) OnesAt.move OnesAt.mono
abbrev RCrewP (c : Nat) (L : List One) : Piece := OnesP 154 192 c L
section
variable {P : Program} {w : World} {F L : List Piece} {A B : Piece} {f : FuncId} {args : Array Value} {r : Value}
theorem SL.quiet (H : SL w L) (h : Calls P f args w fun e w' => e = .returned r ∧ Frm Nil w w') : Calls P f args w fun e w' => e = .returned r ∧ SL w' L :=
 h.mono fun e w' q => ⟨q.1, H.later q.2⟩
end
section
variable {w : World} {F : List Piece} {c : Nat} {L : List One} {g pr : Int}
theorem OnesP.at {tc te : Nat} (H : SL w (OnesP tc te c L :: F)) : ∃ S, OnesAt tc te w S c L := by
 obtain ⟨S, _, h⟩ := H.on
 exact ⟨S, h⟩
end
section
variable {w : World} {F : List Piece} {c : Nat} {L : List One} {g pr : Int}
theorem rcrew_sl {f : FuncId} {args : Array Value} {r : Value} {L' : List One} (h : ∀ S, RefAt w S c L → Calls Tryz.prog f args w (RefPost S c w r L')) (H : SL w (RCrewP c L :: F)) : Calls Tryz.prog f args w fun e w' => e = .returned r ∧ SL w' (RCrewP c L' :: F) := by
 obtain ⟨S, h1, h2, h3⟩ := H.call
 refine (h S h1).mono ?_
 rintro e w' ⟨q1, q2, q3⟩
 exact ⟨q1, h3 w' [RCrewP c L'] q3 ⟨_, fun _ h => h, q2, trivial⟩⟩
theorem q_over (H : SL w (RCrewP c L :: F)) : Calls Tryz.prog 110 #[.pointer (some ⟨c, 0, none⟩)] w fun e w' => e = .returned (.int .i64 (overF L)) ∧ SL w' (RCrewP c L :: F) := by
 obtain ⟨S, h⟩ := OnesP.at H
 exact H.quiet (rover_any h)
theorem q_turn (hp : Small L 100000000) (g fr to : Int) (hft : (fr = 0 ∧ to = 0) ∨ (fr = 0 ∧ to = 1) ∨ (fr = 1 ∧ to = 0) ∨ (fr = 0 ∧ to = 2)) (H : SL w (RCrewP c L :: F)) : Calls Tryz.prog 138 #[.pointer (some ⟨c, 0, none⟩), .int .i64 g, .int .i64 fr, .int .i64 to] w fun e w' => e = .returned (.int .i64 (turnF L g fr to (byOf fr to)).1) ∧ SL w' (RCrewP c (turnF L g fr to (byOf fr to)).2 :: F) :=
 rcrew_sl (fun S h => rturn_any h hp g fr to hft) H
theorem q_spawn (hL : L.length ≤ 512) (pr : Int) (H : SL w (RCrewP c L :: F)) : Calls Tryz.prog 100 #[.pointer (some ⟨c, 0, none⟩), .int .i64 pr] w fun e w' => e = .returned (.tuple #[.int .i64 (spawnF L pr).1.1, .int .i64 (spawnF L pr).1.2]) ∧ SL w' (RCrewP c (spawnF L pr).2 :: F) :=
 rcrew_sl (fun S h => rspawn_any h hL pr) H
theorem q_able (hL : L.length ≤ 512) (H : SL w (RCrewP c L :: F)) : Calls Tryz.prog 132 #[.pointer (some ⟨c, 0, none⟩)] w fun e w' => ∃ a cap, e = .returned (.slice a (ableF L).length cap) ∧ Rd w' 1 a (ableF L).length (ints (ableF L)) ∧ SL w' (RCrewP c L :: F) := by
 obtain ⟨S, h⟩ := OnesP.at H
 refine (rable_any h hL).mono ?_
 rintro e w' ⟨a, cap, n, rfl, h1, h2⟩
 have hn := h1.int
 subst hn
 exact ⟨a, cap, rfl, h1, H.later h2⟩
end
def rlCells (t m : Int) (vp vl vd : Value) (hb crb : Nat) (chv : Value) (name : List Int) (tv : Value) (pan : Bool) : Array Value :=
 ([.int .i64 t, .int .i64 m, vp, vl, vd, .pointer (some ⟨hb, 0, none⟩), .pointer (some ⟨crb, 0, none⟩), chv] ++ (ints name ++ [tv, .bool pan])).toArray
structure ScrV where
 t : Int
 m : Int
 vp : Value
 vl : Value
 vd : Value
def RlP (lb : Nat) (s : ScrV) (x : LmM) : Piece := exP fun (y : Nat × Nat × Value × Value × List Nat) => andP (y.2.2.2.2.length = x.M.length ∧ x.name.length = 8)
 (all [row lb (rlCells s.t s.m s.vp s.vl s.vd y.1 y.2.1 y.2.2.1 x.name y.2.2.2.1 x.pan) 122, row y.1 #[s.vl, s.vd, .int .i64 (x.p : Int), .int .i64 (x.d : Int)] 166, RCrewP y.2.1 x.crew,
  Slc 193 1 y.2.2.1 y.2.2.2.2.length (pcs (y.2.2.2.2.map some)), RsP (y.2.2.2.2.map some) x.M, Slc 53 8 y.2.2.2.1 x.tr.length (x.tr.flatMap Ev.cells)])
theorem RlP.iff {w : World} {F : List Piece} {lb : Nat} {s : ScrV} {x : LmM} : SL w (RlP lb s x :: F) ↔ ∃ (hb crb : Nat) (chv tv : Value) (ps : List Nat), (ps.length = x.M.length ∧ x.name.length = 8) ∧
  SL w (row lb (rlCells s.t s.m s.vp s.vl s.vd hb crb chv x.name tv x.pan) 122 :: row hb #[s.vl, s.vd, .int .i64 (x.p : Int), .int .i64 (x.d : Int)] 166 :: RCrewP crb x.crew ::
   Slc 193 1 chv ps.length (pcs (ps.map some)) :: RsP (ps.map some) x.M :: Slc 53 8 tv x.tr.length (x.tr.flatMap Ev.cells) :: F) := by
 constructor
 ·intro h
  obtain ⟨⟨hb, crb, chv, tv, ps⟩, h⟩ := SL.exP.1 h
  obtain ⟨h1, h⟩ := SL.andP.1 h
  exact ⟨hb, crb, chv, tv, ps, h1, SL.all.1 h⟩
 ·rintro ⟨hb, crb, chv, tv, ps, h1, h⟩
  exact SL.exP.2 ⟨(hb, crb, chv, tv, ps), SL.andP.2 ⟨h1, SL.all.2 h⟩⟩
theorem eight {l : List Int} (h : l.length = 8) : ∃ n0 n1 n2 n3 n4 n5 n6 n7, l = [n0, n1, n2, n3, n4, n5, n6, n7] := by
 match l, h with
 | [n0, n1, n2, n3, n4, n5, n6, n7], _ => exact ⟨_, _, _, _, _, _, _, _, rfl⟩
theorem evs_snoc (l : List Ev) (e : Ev) : l.flatMap Ev.cells ++ e.cells = (l ++ [e]).flatMap Ev.cells := by simp
theorem note_back {w : World} {F : List Piece} {A1 A2 A3 A4 A5 : Piece} {te : Nat} {v : Value} {tr : List Ev} (e : Ev) (H : SL w (A1 :: A2 :: A3 :: A4 :: A5 :: Slc te 8 v (tr.length + 1) (tr.flatMap Ev.cells ++ e.cells) :: F)) :
  SL w (A1 :: A2 :: A3 :: A4 :: A5 :: Slc te 8 v (tr ++ [e]).length ((tr ++ [e]).flatMap Ev.cells) :: F) := by
 rw [← evs_snoc, List.length_append, List.length_singleton]
 exact H
theorem rl_pan {K : World → Prop} {w : World} {F : List Piece} {lb : Nat} {s : ScrV} {x : LmM} (H : SL w (RlP lb s x :: F)) (k : ∀ w', SL w' (RlP lb s { x with pan := true } :: F) → K w') : St w ⟨lb, 17, none⟩ (.bool true) K := by
 obtain ⟨hb, crb, chv, tv, ps, ⟨hl, h8⟩, H⟩ := RlP.iff.1 H
 obtain ⟨p, d, crew, M, name, tr, pan⟩ := x
 obtain ⟨n0, n1, n2, n3, n4, n5, n6, n7, rfl⟩ := eight h8
 exact H.st0 (cs' := rlCells s.t s.m s.vp s.vl s.vd hb crb chv [n0, n1, n2, n3, n4, n5, n6, n7] tv true) rfl rfl rfl (fun w' H' => k w' (RlP.iff.2 ⟨hb, crb, chv, tv, ps, ⟨hl, h8⟩, H'⟩))
theorem ones_open {w : World} {F : List Piece} {tc te c : Nat} {L : List One} (H : SL w (OnesP tc te c L :: F)) : ∃ v, SL w (row c #[v] tc :: Slc te 3 v L.length (L.flatMap One.cells) :: F) := by
 obtain ⟨T, h1, ⟨v, k1, k2, k3, k4⟩, h2⟩ := H
 refine ⟨v, fun k => k = c, fun k hk => by rw [hk]; exact lt_of_block k1, ⟨rfl, k1⟩, fun k => v.ownBlock = some k, fun k hk => ⟨h1 k (k4 k hk).1, (k4 k hk).2⟩, ⟨k2, fun k hk => hk⟩, h2.mono (fun k hk => ⟨⟨hk.1, fun e => hk.2 (by rw [e]; exact k3)⟩, fun e => hk.2 (k4 k e).1⟩)⟩
theorem ones_shut {w : World} {F : List Piece} {tc te c : Nat} {L : List One} {v : Value} (H : SL w (row c #[v] tc :: Slc te 3 v L.length (L.flatMap One.cells) :: F)) : SL w (OnesP tc te c L :: F) := by
 obtain ⟨T, h1, ⟨hT, hrow⟩, U, hU, ⟨hs, hown⟩, h2⟩ := H
 refine ⟨fun k => T k ∨ U k, fun k hk => hk.elim (h1 k) (fun h => (hU k h).1), ⟨v, hrow, hs, .inl hT, fun k hk => ⟨.inr (hown k hk), fun e => (hU k (hown k hk)).2 (by rw [e]; exact hT)⟩⟩, h2.mono (fun k hk => ⟨hk.1.1, fun h => h.elim hk.1.2 hk.2⟩)⟩
theorem ones_at {L : List One} {k : Nat} {o : One} (h : L[k]? = some o) (i : Nat) (hi : i < 3) : (L.flatMap One.cells)[k * 3 + i]? = o.cells[i]? := by
 obtain ⟨hk, rfl⟩ := List.getElem?_eq_some_iff.1 h
 exact flat_get One.cells 3 One.cells_length L k i hi hk
def exitX : OpX := ⟨exitOp, none, 0⟩
end Go.Proofs.YtoamjodmidbmbaaGreatDoor
namespace Go.Proofs.YtoamjodmidbmbaaGreatDoor
open Go.RowKit
set_option maxRecDepth 100000
theorem r_bare {w : World} {F : List Piece} (H : SL w F) (k g : Int) : Calls Tryz.prog 104 #[.int .i64 k, .int .i64 g] w fun o w' => o = .returned (bareE k g).agg ∧ SL w' F := by
 refine calls_d (args := [_, _]) Tryz.func104 rfl ?_
 refine ⟨Nw.as ev0C 53 rfl H fun b4 w H => ?_⟩
 refine ⟨Mn.pure (.agg #[.int .i64 k, .int .i64 g, .int .i64 (-1), .int .i64 (-1), .int .i64 (-1), .int .i64 (-1), .bool false, .bool false]) (by kernel_rfl) ?_⟩
 refine SL.stEv H rfl rfl fun w H => ?_
 refine retC H 0 rfl rfl (by rfl) (by kernel_rfl) (by kernel_rfl) ?_
 exact ⟨rfl, H.tl⟩
theorem r_note {w : World} {F : List Piece} {lb : Nat} {s : ScrV} {x : LmM} (ht : x.tr.length ≤ 1000000) (e : Ev) (H : SL w (RlP lb s x :: F)) : Calls Tryz.prog 103 #[.pointer (some ⟨lb, 0, none⟩), e.agg] w fun o w' => o = .returned (.tuple #[]) ∧ SL w' (RlP lb s (noteL x e) :: F) := by
 obtain ⟨hb, crb, chv, tv, ps, ⟨hl, h8⟩, H⟩ := RlP.iff.1 H
 obtain ⟨t, m, vp, vl, vd⟩ := s
 obtain ⟨p, d, crew, M, name, tr, pan⟩ := x
 obtain ⟨n0, n1, n2, n3, n4, n5, n6, n7, rfl⟩ := eight h8
 obtain ⟨ta, tc, rfl⟩ := SL.slcForm H.up5
 dsimp only at H hl
 obtain ⟨kind, g, chan, case_, value, mate, send, ok⟩ := e
 dsimp only at ht
 refine calls_d (args := [_, _]) Tryz.func103 rfl ?_
 refine ⟨Nw.as #[.int .i64 kind, .int .i64 g, .int .i64 chan, .int .i64 case_, .int .i64 value, .int .i64 mate, .bool send, .bool ok] 53 rfl H fun b3 w H => ?_⟩
 refine ⟨Drw.of [(0, true), (1, true), (2, true), (3, true), (4, true), (5, true), (6, false), (7, false), (8, true), (9, true), (10, false)] (by kernel_rfl) mixed (fun w => SL w _) (H.drew.pi [0, 1, 2, 3, 4, 5] 7) ?_⟩
 replace H := H.drew
 refine LdC.i 1 rfl (v := .slice ta tr.length tc) rfl (LdC.i 0 rfl (v := .int .i64 kind) rfl (LdC.i 0 rfl (v := .int .i64 g) rfl (LdC.i 0 rfl (v := .int .i64 chan) rfl (LdC.i 0 rfl (v := .int .i64 case_) rfl (LdC.i 0 rfl (v := .int .i64 value) rfl (LdC.i 0 rfl (v := .int .i64 mate) rfl (LdC.i 0 rfl (v := .bool send) rfl (LdC.i 0 rfl (v := .bool ok) rfl (Mn.new (fun b => .slice (some ⟨b, 0, none⟩) 1 1) #[.int .i64 kind, .int .i64 g, .int .i64 chan, .int .i64 case_, .int .i64 value, .int .i64 mate, .bool send, .bool ok] 53 (by kernel_rfl) H fun b10 w H => ?_)))))))))
 refine ⟨.inr (H.pi [1, 2, 3, 4, 5, 6] 8), ?_⟩
 refine SL.appS H.up7 (.tmp 8) (.tmp 10) 22 (.agg #[.int .i64 0, .int .i64 0, .int .i64 0, .int .i64 0, .int .i64 0, .int .i64 0, .bool false, .bool false]) 56 (by rfl) (by kernel_rfl) (by kernel_rfl) (by rfl) (by decide) (by rfl) (some ⟨b10, 0, none⟩) 1 1 [.int .i64 kind, .int .i64 g, .int .i64 chan, .int .i64 case_, .int .i64 value, .int .i64 mate, .bool send, .bool ok] (by rfl) (H.rdRow 0 rfl (by rfl) (by decide)) (by rfl) (by omega) (by decide) (by decide) fun g1 c1 w H => ?_
 refine ⟨.inr (H.pi [2, 3, 4, 5, 6, 7] 8), ?_⟩
 refine H.st3 (cs' := #[.int .i64 t, .int .i64 m, vp, vl, vd, .pointer (some ⟨hb, 0, none⟩), .pointer (some ⟨crb, 0, none⟩), chv, .int .i64 n0, .int .i64 n1, .int .i64 n2, .int .i64 n3, .int .i64 n4, .int .i64 n5, .int .i64 n6, .int .i64 n7, .slice (some ⟨g1, 0, none⟩) (tr.length + 1) c1, .bool pan]) rfl rfl rfl fun w H => ?_
 refine ⟨.inl rfl, ?_⟩
 refine ret0 rfl ?_
 have q := H.pi [3, 4, 5, 6, 7, 0] 8
 simp only [pl, nth, drL] at q
 exact ⟨rfl, RlP.iff.2 ⟨hb, crb, chv, _, ps, ⟨hl, rfl⟩, note_back ⟨kind, g, chan, case_, value, mate, send, ok⟩ q⟩⟩
theorem r_panics {w : World} {F : List Piece} {lb : Nat} {s : ScrV} {x : LmM} (ht : x.tr.length ≤ 1000000) (g : Int) (H : SL w (RlP lb s x :: F)) : Calls Tryz.prog 139 #[.pointer (some ⟨lb, 0, none⟩), .int .i64 g] w fun o w' => o = .returned (.tuple #[]) ∧ SL w' (RlP lb s (panicL x g) :: F) := by
 refine calls_d (args := [_, _]) Tryz.func139 rfl ?_
 refine ⟨Cl.s (r_bare H 12 g) fun w H => ?_⟩
 have h1 := H
 refine Cl.s (r_note (s := s) (x := x) (ht) ⟨12, g, -1, -1, -1, -1, false, false⟩ h1) fun w H => ?_
 refine ⟨rl_pan H fun w H => ?_⟩
 refine ret0 rfl ?_
 exact ⟨rfl, H⟩
theorem r_verdict {w : World} {F : List Piece} {lb : Nat} {s : ScrM} {x : LmM} {t m : Int} {vp vd : Value} {vla : Option Addr} {vlc : Nat} {plz : List Int} (hpl : s.plan = plz) (H : SL w (RlP lb ⟨t, m, vp, .slice vla plz.length vlc, vd⟩ x :: F)) : Calls Tryz.prog 65 #[.pointer (some ⟨lb, 0, none⟩)] w fun o w' => o = .returned (.int .i64 (verL s x)) ∧ SL w' (RlP lb ⟨t, m, vp, .slice vla plz.length vlc, vd⟩ x :: F) := by
 obtain ⟨hb, crb, chv, tv, ps, ⟨hl, h8⟩, H⟩ := RlP.iff.1 H
 obtain ⟨p, d, crew, M, name, tr, pan⟩ := x
 obtain ⟨n0, n1, n2, n3, n4, n5, n6, n7, rfl⟩ := eight h8
 obtain ⟨ta, tc, rfl⟩ := SL.slcForm H.up5
 dsimp only at H hl
 refine calls_d (args := [_]) Tryz.func65 rfl ?_
 refine ⟨⟨H.ldi 0 rfl (v := .bool pan) rfl ?_⟩⟩
 refine BB.k ?_
 cases pan
 ·refine Cn.no (⟨H.ldi 0 rfl (v := .pointer (some ⟨crb, 0, none⟩)) rfl ?_⟩)
  have h1 := H.pi [2, 0, 1, 3, 4, 5] 6
  simp only [pl, nth, drL] at h1
  refine Cl.s (q_over h1) fun w H => ?_
  replace H := H.pi [1, 2, 0, 3, 4, 5] 6
  simp only [pl, nth, drL] at H
  refine ⟨BB.vr fun q1 e1 => ?_⟩
  cases q1
  ·have h1 := bne_eq_false_iff_eq.1 e1
   refine Cn.no (⟨Drw.of [(0, true), (1, true), (2, true), (3, true), (4, true), (5, true), (6, true), (7, true), (8, true), (9, true), (10, true), (11, true), (12, true), (13, true), (14, true), (15, true)] (by kernel_rfl) mixed (fun w => SL w _) H.drew ?_⟩)
   replace H := H.drew
   refine LdC.i 0 rfl (v := .pointer (some ⟨hb, 0, none⟩)) rfl (LdC.i 1 rfl (v := .int .i64 ↑p) rfl (LdC.i 0 rfl (v := .pointer (some ⟨hb, 0, none⟩)) rfl (LdC.i 1 rfl (v := .slice vla plz.length vlc) rfl (BB.vr fun q2 e2 => ?_))))
   cases q2
   ·have h2 := of_decide_eq_false e2
    refine Cn.no (⟨ret1 (.int .i64 0) rfl (by rfl) ?_⟩)
    have q := H.pi [0, 1, 2, 3, 4, 5] 6
    simp only [pl, nth, drL] at q
    have hc : verL s ⟨p, d, crew, M, [n0, n1, n2, n3, n4, n5, n6, n7], tr, false⟩ = 0 := by unfold verL; rw [hpl]; first | (simp [*]; done) | (simp [*]; omega)
    rw [hc]
    exact ⟨rfl, RlP.iff.2 ⟨hb, crb, chv, _, ps, ⟨hl, rfl⟩, q⟩⟩
   have h2 := of_decide_eq_true e2
   refine Cn.yes (⟨ret1 (.int .i64 4) rfl (by rfl) ?_⟩)
   have q := H.pi [0, 1, 2, 3, 4, 5] 6
   simp only [pl, nth, drL] at q
   have hc : verL s ⟨p, d, crew, M, [n0, n1, n2, n3, n4, n5, n6, n7], tr, false⟩ = 4 := by unfold verL; rw [hpl]; first | (simp [*]; done) | (simp [*]; omega)
   rw [hc]
   exact ⟨rfl, RlP.iff.2 ⟨hb, crb, chv, _, ps, ⟨hl, rfl⟩, q⟩⟩
  have h1 := bne_iff_ne.1 e1
  refine Cn.yes (⟨ret1 (.int .i64 (overF crew)) rfl (by rfl) ?_⟩)
  have q := H.pi [0, 1, 2, 3, 4, 5] 6
  simp only [pl, nth, drL] at q
  have hc : verL s ⟨p, d, crew, M, [n0, n1, n2, n3, n4, n5, n6, n7], tr, false⟩ = (overF crew) := by unfold verL; rw [hpl]; first | (simp [*]; done) | (simp [*]; omega)
  rw [hc]
  exact ⟨rfl, RlP.iff.2 ⟨hb, crb, chv, _, ps, ⟨hl, rfl⟩, q⟩⟩
 refine Cn.yes (⟨ret1 (.int .i64 3) rfl (by rfl) ?_⟩)
 have q := H.pi [0, 1, 2, 3, 4, 5] 6
 simp only [pl, nth, drL] at q
 have hc : verL s ⟨p, d, crew, M, [n0, n1, n2, n3, n4, n5, n6, n7], tr, true⟩ = 3 := by unfold verL; rw [hpl]; first | (simp [*]; done) | (simp [*]; omega)
 rw [hc]
 exact ⟨rfl, RlP.iff.2 ⟨hb, crb, chv, _, ps, ⟨hl, rfl⟩, q⟩⟩
theorem r_who {w : World} {F : List Piece} {A : Piece} {lb : Nat} {s : ScrM} {x : LmM} {t m : Int} {vp vd : Value} {bl ol vlc : Nat} {plz : List Int} (hpl : s.plan = plz) (hL : IntA A bl ol plz) (hp : x.p < plz.length) (hge : ∀ z ∈ plz, -1 ≤ z) (hcl : x.crew.length ≤ 512) (hab : 0 < (ableF x.crew).length)
  (H : SL w (RlP lb ⟨t, m, vp, .slice (some ⟨bl, ol, none⟩) plz.length vlc, vd⟩ x :: A :: F)) : Calls Tryz.prog 101 #[.pointer (some ⟨lb, 0, none⟩)] w fun o w' => o = .returned (.int .i64 (whoL s x)) ∧ SL w' (RlP lb ⟨t, m, vp, .slice (some ⟨bl, ol, none⟩) plz.length vlc, vd⟩ x :: A :: F) := by
 obtain ⟨hb, crb, chv, tv, ps, ⟨hl, h8⟩, H⟩ := RlP.iff.1 H
 obtain ⟨p, d, crew, M, name, tr, pan⟩ := x
 obtain ⟨n0, n1, n2, n3, n4, n5, n6, n7, rfl⟩ := eight h8
 obtain ⟨ta, tc, rfl⟩ := SL.slcForm H.up5
 dsimp only at H hl
 dsimp only at hp hcl hab
 obtain ⟨z, hz⟩ : ∃ z, plz[p]? = some z := ⟨_, get_of hp⟩
 have hz1 := hge z (List.mem_of_getElem? hz)
 refine calls_d (args := [_]) Tryz.func101 rfl ?_
 refine ⟨⟨Drw.of [(0, true), (1, true), (2, true), (3, true), (4, true), (5, true), (6, true), (7, true), (8, true), (9, true), (10, true), (11, true), (12, true), (13, true), (14, true), (15, true), (16, true)] (by kernel_rfl) mixed (fun w => SL w _) H.drew ?_⟩⟩
 replace H := H.drew
 refine LdC.i 0 rfl (v := .pointer (some ⟨hb, 0, none⟩)) rfl (LdC.i 1 rfl (v := .slice (some ⟨bl, ol, none⟩) plz.length vlc) rfl (LdC.i 0 rfl (v := .pointer (some ⟨hb, 0, none⟩)) rfl (LdC.i 1 rfl (v := .int .i64 ↑p) rfl (Ix.at p 1 (by kernel_rfl) (rfl) (hp) ?_))))
 refine LdC.I 6 rfl hL p hz (⟨BB.vr fun q1 e1 => ?_⟩)
 cases q1
 ·have h1 := neq_of e1
  refine Cn.no (⟨H.ldi 0 rfl (v := .pointer (some ⟨crb, 0, none⟩)) rfl ?_⟩)
  have h1 := H.pi [2, 0, 1, 3, 4, 5, 6] 7
  simp only [pl, nth, drL] at h1
  refine Cl.b (q_able hcl h1) ?_
  rintro _ w ⟨aa, ac, rfl, hr, H⟩
  refine ⟨_, rfl, ?_⟩
  replace H := H.pi [1, 2, 0, 3, 4, 5, 6] 7
  simp only [pl, nth, drL] at H
  have hob := Rd.int_at hr hab
  obtain ⟨ab, ao, rfl, hcell⟩ := hob
  have hcell' : ∀ j, j < (ableF crew).length → w.cell? ⟨ab, ao + j * 1, none⟩ = some (.int .i64 ((ableF crew).getD j 0)) := fun j hj => by rw [Nat.mul_one]; exact hcell j hj
  have hjl : z.toNat % (ableF crew).length < (ableF crew).length := Nat.mod_lt _ hab
  have hzm : (z % ((ableF crew).length : Int)) = ((z.toNat % (ableF crew).length : Nat) : Int) := by obtain ⟨k, rfl⟩ := Int.eq_ofNat_of_zero_le (show 0 ≤ z by omega); simp
  refine ⟨Mn.rem (.tmp 29) (.tmp 31) 3 3 (by rfl) z (↑((ableF crew).length)) (by rfl) (by rfl) ((by omega)) ((by omega)) (z % (↑((ableF crew).length))) (rfl) ?_⟩
  refine Ix.at (z.toNat % (ableF crew).length) 1 (by kernel_rfl) (hzm) (hjl) ?_
  refine Ld.by (hcell' _ hjl) (ret1 (.int .i64 ((ableF crew).getD (z.toNat % (ableF crew).length) 0)) rfl (by rfl) ?_)
  have q := H.pi [0, 1, 2, 3, 4, 5, 6] 7
  simp only [pl, nth, drL] at q
  have hc : whoL s ⟨p, d, crew, M, [n0, n1, n2, n3, n4, n5, n6, n7], tr, pan⟩ = ((ableF crew).getD (z.toNat % (ableF crew).length) 0) := by unfold whoL; rw [hpl]; simp only [List.getD_eq_getElem?_getD, hz, Option.getD_some]; rw [if_neg (by assumption)]
  rw [hc]
  exact ⟨rfl, RlP.iff.2 ⟨hb, crb, chv, _, ps, ⟨hl, rfl⟩, q⟩⟩
 have h1 := eq_of_beq e1
 refine Cn.yes (⟨ret1 (.int .i64 (-1)) rfl (by rfl) ?_⟩)
 have q := H.pi [0, 1, 2, 3, 4, 5, 6] 7
 simp only [pl, nth, drL] at q
 have hc : whoL s ⟨p, d, crew, M, [n0, n1, n2, n3, n4, n5, n6, n7], tr, pan⟩ = -1 := by unfold whoL; rw [hpl]; simp only [List.getD_eq_getElem?_getD, hz, Option.getD_some]; rw [if_pos (by assumption)]
 rw [hc]
 exact ⟨rfl, RlP.iff.2 ⟨hb, crb, chv, _, ps, ⟨hl, rfl⟩, q⟩⟩
theorem r_op {w : World} {F : List Piece} {A : Piece} {lb : Nat} {s : ScrM} {x : LmM} {t m : Int} {vl vd : Value} {pb po pc0 gk prn pln : Nat} {cst : Int} {Y : List ProgX} (hps : s.progs = progsM Y) (hX : ScrA A pb po Y) (hone : x.crew[gk]? = some ⟨prn, pln, cst⟩) (hprn : prn < Y.length)
  (H : SL w (RlP lb ⟨t, m, .slice (some ⟨pb, po, none⟩) Y.length pc0, vl, vd⟩ x :: A :: F)) : Calls Tryz.prog 105 #[.pointer (some ⟨lb, 0, none⟩), .int .i64 (gk : Int)] w fun o w' => ∃ ox : OpX, ox.op = opL s x gk ∧ (Reader A 3 ox.ca ox.op.cases.length (ox.op.cases.flatMap CaseM.cells) ∧ ox.op.cases.length ≤ ox.cc) ∧ o = .returned (.agg ox.cells.toArray) ∧
   SL w' (RlP lb ⟨t, m, .slice (some ⟨pb, po, none⟩) Y.length pc0, vl, vd⟩ x :: A :: F) := by
 obtain ⟨hb, crb, chv, tv, ps, ⟨hl, h8⟩, H⟩ := RlP.iff.1 H
 obtain ⟨p, d, crew, M, name, tr, pan⟩ := x
 obtain ⟨n0, n1, n2, n3, n4, n5, n6, n7, rfl⟩ := eight h8
 obtain ⟨ta, tc, rfl⟩ := SL.slcForm H.up5
 obtain ⟨ov, H⟩ := ones_open H.up2
 dsimp only at H hl hone
 have hgk : gk < crew.length := (List.getElem?_eq_some_iff.1 hone).1
 obtain ⟨oa, oc, rfl⟩ := SL.slcForm H.up1
 obtain ⟨ob, rfl⟩ := SL.slcAddr H.up1 (by omega)
 replace H := H.pi [2, 3, 0, 1, 4, 5, 6, 7] 8
 simp only [pl, nth, drL] at H
 obtain ⟨px, hY⟩ : ∃ px, Y[prn]? = some px := ⟨_, get_of hprn⟩
 have hpr : s.progs[prn]? = some (px.ops.map (·.op)) := by rw [hps]; unfold progsM; rw [List.getElem?_map, hY]; rfl
 have hsome := hX.some_ prn px hY
 obtain ⟨ops, pa, pc⟩ := px
 dsimp only at hpr hsome
 have hml : ((ops.map (·.op)).length : Int) = (ops.length : Int) := by rw [List.length_map]
 by_cases hpln : pln < ops.length
 ·obtain ⟨qb, qo, rfl⟩ := hsome (by omega)
  obtain ⟨ox, hox⟩ : ∃ ox, ops[pln]? = some ox := ⟨_, get_of hpln⟩
  refine calls_d (args := [_, _]) Tryz.func105 rfl ?_
  refine ⟨Nw.as #[.int .i64 0, .int .i64 0, .int .i64 0, .slice none 0 0, .bool false] 64 rfl H fun b4 w H => ?_⟩
  refine ⟨H.ldi 1 rfl (v := .pointer (some ⟨crb, 0, none⟩)) rfl ?_⟩
  refine H.ldi 3 rfl (v := .slice (some ⟨ob, 0, none⟩) crew.length oc) rfl (Ix.at0 gk 3 (by kernel_rfl) (rfl) (hgk) ?_)
  refine H.ldS 4 rfl (v := .int .i64 ↑prn) ((ones_at hone 0 (by decide)).trans rfl) (H.ldS 4 rfl (v := .int .i64 ↑pln) ((ones_at hone 1 (by decide)).trans rfl) (H.ldS 4 rfl (v := .int .i64 cst) ((ones_at hone 2 (by decide)).trans rfl) (Nw.as #[.int .i64 0, .int .i64 0, .int .i64 0] 192 rfl H fun b5 w H => ?_)))
  refine H.st0 (cs' := #[.int .i64 ↑prn, .int .i64 0, .int .i64 0]) rfl rfl rfl fun w H => ?_
  refine H.st0 (cs' := #[.int .i64 ↑prn, .int .i64 ↑pln, .int .i64 0]) rfl rfl rfl fun w H => ?_
  refine H.st0 (cs' := #[.int .i64 ↑prn, .int .i64 ↑pln, .int .i64 cst]) rfl rfl rfl fun w H => ?_
  refine ⟨Drw.of [(0, true), (1, true), (2, true), (3, true), (4, true), (5, true), (6, true), (7, true), (8, true), (9, true)] (by kernel_rfl) mixed (fun w => SL w _) H.drew ?_⟩
  replace H := H.drew
  refine LdC.i 2 rfl (v := .slice (some ⟨pb, po, none⟩) Y.length pc0) rfl (LdC.i 0 rfl (v := .int .i64 ↑prn) rfl (Ix.at prn 1 (by kernel_rfl) (rfl) (hprn) ?_))
  refine LdC.P 9 rfl hX prn hY (⟨H.ldi 0 rfl (v := .int .i64 ↑pln) rfl ?_⟩)
  refine BB.no (decide_eq_false (by dsimp only; omega)) (Cn.no (⟨H.ldi 0 rfl (v := .int .i64 ↑pln) rfl ?_⟩))
  refine Ix.at pln 5 (by kernel_rfl) (rfl) (hpln) ?_
  refine H.ldO 9 rfl hX prn hY rfl pln 0 hox (v := .int .i64 ox.op.kind) rfl (H.ldO 9 rfl hX prn hY rfl pln 1 hox (v := .int .i64 ox.op.a) rfl (H.ldO 9 rfl hX prn hY rfl pln 2 hox (v := .int .i64 ox.op.b) rfl (H.ldO 9 rfl hX prn hY rfl pln 3 hox (v := .slice ox.ca ox.op.cases.length ox.cc) rfl (H.ldO 9 rfl hX prn hY rfl pln 4 hox (v := .bool ox.op.dflt) rfl (H.st1 (cs' := #[.int .i64 ox.op.kind, .int .i64 0, .int .i64 0, .slice none 0 0, .bool false]) rfl rfl rfl fun w H => ?_)))))
  refine H.st1 (cs' := #[.int .i64 ox.op.kind, .int .i64 ox.op.a, .int .i64 0, .slice none 0 0, .bool false]) rfl rfl rfl fun w H => ?_
  refine H.st1 (cs' := #[.int .i64 ox.op.kind, .int .i64 ox.op.a, .int .i64 ox.op.b, .slice none 0 0, .bool false]) rfl rfl rfl fun w H => ?_
  refine H.st1 (cs' := #[.int .i64 ox.op.kind, .int .i64 ox.op.a, .int .i64 ox.op.b, .slice ox.ca ox.op.cases.length ox.cc, .bool false]) rfl rfl rfl fun w H => ?_
  refine H.st1 (cs' := #[.int .i64 ox.op.kind, .int .i64 ox.op.a, .int .i64 ox.op.b, .slice ox.ca ox.op.cases.length ox.cc, .bool ox.op.dflt]) rfl rfl rfl fun w H => ?_
  refine retC H 1 rfl rfl (by rfl) (by kernel_rfl) (by kernel_rfl) ?_
  have q := H.pi [4, 5, 2, 3, 6, 7, 8, 9] 10
  simp only [pl, nth, drL] at q
  have q2 := (ones_shut q).pi [1, 2, 0, 3, 4, 5, 6] 7
  simp only [pl, nth, drL] at q2
  exact ⟨ox, by unfold opL; simp only [Int.toNat_natCast, hone, hpr]; rw [if_neg (by simp only [List.length_map]; omega)]; simp [hox], hX.case prn _ hY pln ox hox, rfl, RlP.iff.2 ⟨hb, crb, chv, _, ps, ⟨hl, rfl⟩, q2⟩⟩
 refine calls_d (args := [_, _]) Tryz.func105 rfl ?_
 refine ⟨Nw.as #[.int .i64 0, .int .i64 0, .int .i64 0, .slice none 0 0, .bool false] 64 rfl H fun b4 w H => ?_⟩
 refine ⟨H.ldi 1 rfl (v := .pointer (some ⟨crb, 0, none⟩)) rfl ?_⟩
 refine H.ldi 3 rfl (v := .slice (some ⟨ob, 0, none⟩) crew.length oc) rfl (Ix.at0 gk 3 (by kernel_rfl) (rfl) (hgk) ?_)
 refine H.ldS 4 rfl (v := .int .i64 ↑prn) ((ones_at hone 0 (by decide)).trans rfl) (H.ldS 4 rfl (v := .int .i64 ↑pln) ((ones_at hone 1 (by decide)).trans rfl) (H.ldS 4 rfl (v := .int .i64 cst) ((ones_at hone 2 (by decide)).trans rfl) (Nw.as #[.int .i64 0, .int .i64 0, .int .i64 0] 192 rfl H fun b5 w H => ?_)))
 refine H.st0 (cs' := #[.int .i64 ↑prn, .int .i64 0, .int .i64 0]) rfl rfl rfl fun w H => ?_
 refine H.st0 (cs' := #[.int .i64 ↑prn, .int .i64 ↑pln, .int .i64 0]) rfl rfl rfl fun w H => ?_
 refine H.st0 (cs' := #[.int .i64 ↑prn, .int .i64 ↑pln, .int .i64 cst]) rfl rfl rfl fun w H => ?_
 refine ⟨Drw.of [(0, true), (1, true), (2, true), (3, true), (4, true), (5, true), (6, true), (7, true), (8, true), (9, true)] (by kernel_rfl) mixed (fun w => SL w _) H.drew ?_⟩
 replace H := H.drew
 refine LdC.i 2 rfl (v := .slice (some ⟨pb, po, none⟩) Y.length pc0) rfl (LdC.i 0 rfl (v := .int .i64 ↑prn) rfl (Ix.at prn 1 (by kernel_rfl) (rfl) (hprn) ?_))
 refine LdC.P 9 rfl hX prn hY (⟨H.ldi 0 rfl (v := .int .i64 ↑pln) rfl ?_⟩)
 refine BB.yes (decide_eq_true (by dsimp only; omega)) (Cn.yes (⟨Mn.pure (.agg #[.int .i64 9, .int .i64 0, .int .i64 0, .slice none 0 0, .bool false]) (by kernel_rfl) ?_⟩))
 refine H.st1 (cs' := #[.int .i64 9, .int .i64 0, .int .i64 0, .slice none 0 0, .bool false]) rfl rfl rfl fun w H => ?_
 refine H.st1 (cs' := #[.int .i64 9, .int .i64 0, .int .i64 0, .slice none 0 0, .bool false]) rfl rfl rfl fun w H => ?_
 refine H.st1 (cs' := #[.int .i64 9, .int .i64 0, .int .i64 0, .slice none 0 0, .bool false]) rfl rfl rfl fun w H => ?_
 refine H.st1 (cs' := #[.int .i64 9, .int .i64 0, .int .i64 0, .slice none 0 0, .bool false]) rfl rfl rfl fun w H => ?_
 refine H.st1 (cs' := #[.int .i64 9, .int .i64 0, .int .i64 0, .slice none 0 0, .bool false]) rfl rfl rfl fun w H => ?_
 refine retC H 1 rfl rfl (by rfl) (by kernel_rfl) (by kernel_rfl) ?_
 have q := H.pi [4, 5, 2, 3, 6, 7, 8, 9] 10
 simp only [pl, nth, drL] at q
 have q2 := (ones_shut q).pi [1, 2, 0, 3, 4, 5, 6] 7
 simp only [pl, nth, drL] at q2
 exact ⟨exitX, by unfold opL; simp only [Int.toNat_natCast, hone, hpr]; rw [if_pos (by simp only [List.length_map]; omega)]; rfl, ⟨fun _ _ _ => ⟨rfl, Nat.zero_le _, fun h => absurd h (Nat.lt_irrefl _)⟩, Nat.le_refl _⟩, rfl, RlP.iff.2 ⟨hb, crb, chv, _, ps, ⟨hl, rfl⟩, q2⟩⟩
end Go.Proofs.YtoamjodmidbmbaaGreatDoor
namespace Go.Proofs.YtoamjodmidbmbaaGreatDoor
def WtIn (n : Nat) (M : List PipeM) : Prop := ∀ y ∈ M, ∀ a, a ∈ y.senders ∨ a ∈ y.receivers → 0 ≤ a.g ∧ a.g < (n : Int)
structure Lk (np k : Nat) (x : LmM) : Prop where
 nm : NamesOk x.name x.M.length
 n8 : x.name.length = 8
 inv : AllInv k x.M
 sm : Small x.crew k
 cl : x.crew.length ≤ 512
 pr : ∀ o ∈ x.crew, 0 ≤ o.program ∧ o.program < (np : Int)
 tr : x.tr.length ≤ k
 wt : WtIn x.crew.length x.M
 ml : x.M.length ≤ k
structure OpOk (np : Nat) (o : OpM) : Prop where
 k0 : 1 ≤ o.kind
 k1 : o.kind ≤ 9
 a0 : 0 ≤ o.a
 a1 : o.a < 8
 pr : o.kind = 1 → o.a < (np : Int)
 b0 : 0 ≤ o.b
 b1 : o.b ≤ 99
 cap : o.kind = 2 → o.b ≤ 4
 bz : o.kind = 4 → o.b = 0
 cl : o.cases.length ≤ 4
 ch : ∀ c ∈ o.cases, 0 ≤ c.chan ∧ c.chan < 8
def ProgsOk (ps : List (List OpM)) : Prop := ∀ p ∈ ps, ∀ o ∈ p, OpOk ps.length o
theorem exitOk (np : Nat) (h : 1 ≤ np) : OpOk np exitOp := ⟨by decide, by decide, by decide, by decide, fun h => absurd h (by decide), by decide, by decide, fun h => absurd h (by decide), fun h => absurd h (by decide), by decide, fun c hc => absurd hc (by simp [exitOp])⟩
theorem opL_ok {s : ScrM} (hs : ProgsOk s.progs) (h1 : 1 ≤ s.progs.length) (x : LmM) (g : Int) : OpOk s.progs.length (opL s x g) := by
 unfold opL
 split
 ·exact exitOk _ h1
 ·split
  ·exact exitOk _ h1
  ·rename_i p hp
   split
   ·exact exitOk _ h1
   ·rw [List.getD_eq_getElem?_getD]
    cases ho : p[(_ : One).place.toNat]? with
    | none => exact exitOk _ h1
    | some o => exact hs p (List.mem_of_getElem? hp) o (List.mem_of_getElem? ho)
theorem Small.more {L : List One} {a b : Int} (h : Small L a) (hb : a ≤ b) : Small L b := fun x hx => ⟨(h x hx).1, by have := (h x hx).2; omega⟩
theorem turn_len (L : List One) (g fr to by_ : Int) : (turnF L g fr to by_).2.length = L.length := by
 unfold turnF
 split
 ·split
  ·rfl
  ·split
   ·rw [List.length_set]
   ·rfl
 ·rfl
theorem turn_mem {L : List One} {g fr to by_ : Int} {o : One} (h : o ∈ (turnF L g fr to by_).2) : o ∈ L ∨ ∃ z ∈ L, o = ⟨z.program, z.place + by_, to⟩ := by
 unfold turnF at h
 split at h
 ·split at h
  ·exact .inl h
  ·rename_i z hz
   split at h
   ·rcases List.mem_or_eq_of_mem_set h with h | h
    ·exact .inl h
    ·exact .inr ⟨z, List.mem_of_getElem? hz, h⟩
   ·exact .inl h
 ·exact .inl h
theorem byOf_01 (fr to : Int) : 0 ≤ byOf fr to ∧ byOf fr to ≤ 1 := by
 unfold byOf
 split <;> omega
namespace Lk
variable {np k j : Nat} {x : LmM}
theorem more (h : Lk np k x) (hk : k ≤ j) : Lk np j x := { h with inv := h.inv.more hk, sm := h.sm.more (by omega), tr := by have := h.tr; omega, ml := by have := h.ml; omega }
theorem note (h : Lk np k x) (e : Ev) : Lk np (k + 1) (noteL x e) := { h.more (Nat.le_succ k) with tr := by show (x.tr ++ [e]).length ≤ k + 1; have := h.tr; simp; omega }
theorem turn (h : Lk np k x) (g fr to : Int) : Lk np (k + 1) (turnL x g fr to) := by
 have hb := byOf_01 fr to
 refine { h.more (Nat.le_succ k) with sm := ?_, cl := ?_, pr := ?_, wt := ?_ }
 ·intro o ho
  rcases turn_mem ho with ho | ⟨z, hz, rfl⟩
  ·have := h.sm o ho
   omega
  ·have := h.sm z hz
   dsimp only
   omega
 ·show (turnF x.crew g fr to (byOf fr to)).2.length ≤ 512
  rw [turn_len]
  exact h.cl
 ·intro o ho
  rcases turn_mem ho with ho | ⟨z, hz, rfl⟩
  ·exact h.pr o ho
  ·exact h.pr z hz
 ·show WtIn (turnF x.crew g fr to (byOf fr to)).2.length x.M
  rw [turn_len]
  exact h.wt
theorem setM (h : Lk np k x) {M : List PipeM} (hl : M.length = x.M.length) (hi : AllInv j M) (hw : WtIn x.crew.length M) : Lk np (max k j) { x with M := M } :=
 { h.more (Nat.le_max_left k j) with nm := by show NamesOk x.name M.length; rw [hl]; exact h.nm, inv := hi.more (Nat.le_max_right k j), wt := hw, ml := by show M.length ≤ max k j; rw [hl]; exact Nat.le_trans h.ml (Nat.le_max_left k j) }
theorem pan (h : Lk np k x) (b : Bool) : Lk np k { x with pan := b } := { h with }
theorem pp (h : Lk np k x) (p : Nat) : Lk np k { x with p := p } := { h with }
theorem dd (h : Lk np k x) (d : Nat) : Lk np k { x with d := d } := { h with }
theorem panic (h : Lk np k x) (g : Int) : Lk np (k + 1) (panicL x g) := { h.note (bareE 12 g) with }
theorem drop (h : Lk np k x) (g : Int) : Lk np k { x with M := x.M.map (fun y => dropM y g) } := by
 refine { h with nm := ?_, inv := h.inv.leave g, wt := ?_, ml := by show (x.M.map (fun y => dropM y g)).length ≤ k; rw [List.length_map]; exact h.ml }
 ·show NamesOk x.name (x.M.map (fun y => dropM y g)).length
  rw [List.length_map]
  exact h.nm
 ·intro y hy a ha
  obtain ⟨z, hz, rfl⟩ := List.mem_map.1 hy
  exact h.wt z hz a (ha.imp (fun h => (List.mem_filter.1 h).1) (fun h => (List.mem_filter.1 h).1))
theorem wake (h : Lk np k x) (e : Ev) : Lk np (k + 1) (wakeL x e) := by
 have h1 := (h.drop e.g).turn e.g 1 0
 exact { h1 with tr := by show (x.tr ++ [e]).length ≤ k + 1; have := h.tr; simp; omega }
theorem wakes (h : Lk np k x) (g ch : Int) : ∀ (ws : List Wtr), Lk np (k + ws.length) (wakesL x g ch ws) := by
 intro ws
 induction ws generalizing x k with
 | nil => exact h
 | cons w ws ih =>
  unfold wakesL
  rw [List.length_cons]
  split
  ·exact (ih (h.wake _)).more (by omega)
  ·exact (ih h).more (by omega)
theorem sends (h : Lk np k x) : ∀ (ws : List Wtr), Lk np (k + 1) (sendersL x ws) := by
 intro ws
 induction ws with
 | nil => exact h.more (by omega)
 | cons w ws ih =>
  unfold sendersL
  split
  ·exact h.panic _
  ·exact ih
theorem ok_len (h : Lk np k x) : (okN x).length = 8 := by unfold okN; rw [List.length_map]; exact h.n8
theorem pipes_len (h : Lk np k x) : (pipesN x).length = 8 := by unfold pipesN; rw [List.length_map]; exact h.n8
end Lk
theorem pipesN_eq (x : LmM) : pipesN x = msN x.name x.M := rfl
theorem AllInv.named {k : Nat} {name : List Int} {M : List PipeM} (h : AllInv k M) : AllInv k (msN name M) := by
 intro y hy
 unfold msN at hy
 obtain ⟨n, _, rfl⟩ := List.mem_map.1 hy
 split
 ·rw [List.getD_eq_getElem?_getD]
  cases hm : M[n.toNat]? with
  | none => exact (Inv9.empty (by decide)).more (Nat.zero_le _)
  | some z => exact h z (List.mem_of_getElem? hm)
 ·exact (Inv9.empty (by decide)).more (Nat.zero_le _)
theorem WtIn.named {n : Nat} {name : List Int} {M : List PipeM} (h : WtIn n M) : WtIn n (msN name M) := by
 intro y hy
 unfold msN at hy
 obtain ⟨m, _, rfl⟩ := List.mem_map.1 hy
 have he : ∀ a, a ∈ (emptyM 0).senders ∨ a ∈ (emptyM 0).receivers → 0 ≤ a.g ∧ a.g < (n : Int) := fun a ha => by simp [emptyM] at ha
 split
 ·rw [List.getD_eq_getElem?_getD]
  cases hm : M[m.toNat]? with
  | none => exact he
  | some z => exact h z (List.mem_of_getElem? hm)
 ·exact he
theorem backN_len (name : List Int) (ys M : List PipeM) : (backN name ys M).length = M.length := by rw [← putN_back, putN_len]
theorem backN_mem : ∀ (name : List Int) (ys M : List PipeM) {y : PipeM}, y ∈ backN name ys M → y ∈ ys ∨ y ∈ M
 | [], _, _, y, h => by unfold backN at h; exact .inr h
 | n :: ns, [], M, y, h => by unfold backN at h; exact .inr h
 | n :: ns, z :: ys, M, y, h => by
  unfold backN at h
  rcases backN_mem ns ys _ h with h | h
  ·exact .inl (List.mem_cons_of_mem _ h)
  ·split at h
   ·rcases List.mem_or_eq_of_mem_set h with h | h
    ·exact .inr h
    ·exact .inl (h ▸ List.mem_cons_self)
   ·exact .inr h
theorem list_set_same {α : Type} (l : List α) (i : Nat) (d : α) : l.set i (l.getD i d) = l := by
 by_cases h : i < l.length
 ·rw [List.getD_eq_getElem?_getD, List.getElem?_eq_getElem h]
  exact List.set_getElem_self h
 ·exact List.set_eq_of_length_le (by omega)
theorem backN_self : ∀ (ns : List Int) (M : List PipeM), backN ns (msN ns M) M = M
 | [], M => by simp [msN, backN]
 | n :: ns, M => by
  show backN ns (msN ns M) (if 0 ≤ n then M.set n.toNat (if 0 ≤ n then M.getD n.toNat (emptyM 0) else emptyM 0) else M) = M
  by_cases h : 0 ≤ n
  ·rw [if_pos h, if_pos h, list_set_same]
   exact backN_self ns M
  ·rw [if_neg h]
   exact backN_self ns M
theorem backN_same {name : List Int} {M : List PipeM} {k : Nat} (h : NamesOk name k) : backN name (msN name M) M = M := backN_self name M
theorem Lk.back {np k j : Nat} {x : LmM} (h : Lk np k x) {ys : List PipeM} (hi : AllInv j ys) (hw : WtIn x.crew.length ys) (hk : k ≤ j) : Lk np j { x with M := backN x.name ys x.M } := by
 have := h.setM (M := backN x.name ys x.M) (j := j) (backN_len _ _ _) (fun y hy => (backN_mem _ _ _ hy).elim (fun h => hi y h) (fun hm => (h.inv y hm).more hk)) (fun y hy => (backN_mem _ _ _ hy).elim (fun h => hw y h) (fun hm => h.wt y hm))
 rwa [Nat.max_eq_right hk] at this
theorem WtIn.set {n : Nat} {M : List PipeM} (h : WtIn n M) {i : Nat} {y : PipeM} (hy : ∀ a, a ∈ y.senders ∨ a ∈ y.receivers → (a ∈ (M.getD i (emptyM 0)).senders ∨ a ∈ (M.getD i (emptyM 0)).receivers) ∨ (0 ≤ a.g ∧ a.g < (n : Int))) : WtIn n (M.set i y) := by
 intro z hz a ha
 rcases List.mem_or_eq_of_mem_set hz with hz | rfl
 ·exact h z hz a ha
 ·rcases hy a ha with hh | hh
  ·rw [List.getD_eq_getElem?_getD] at hh
   cases hm : M[i]? with
   | none => rw [hm] at hh; simp [emptyM] at hh
   | some u => rw [hm] at hh; exact h u (List.mem_of_getElem? hm) a hh
  ·exact hh
theorem send_wt (x : PipeM) (v : Int) (a : Wtr) (h : a ∈ (sendF x v).2.senders ∨ a ∈ (sendF x v).2.receivers) : a ∈ x.senders ∨ a ∈ x.receivers := by
 unfold sendF at h
 split at h
 ·exact h
 ·split at h
  ·rename_i m l hr
   rw [hr]
   exact h.imp id (fun h => List.mem_cons_of_mem _ h)
  ·split at h <;> exact h
theorem recv_wt (x : PipeM) (a : Wtr) (h : a ∈ (recvF x).2.senders ∨ a ∈ (recvF x).2.receivers) : a ∈ x.senders ∨ a ∈ x.receivers := by
 unfold recvF at h
 split at h
 ·rename_i m l _ hr
  rw [hr]
  exact h.imp (fun h => List.mem_cons_of_mem _ h) id
 ·exact h
 ·rename_i m l _ hr
  rw [hr]
  exact h.imp (fun h => List.mem_cons_of_mem _ h) id
 ·split at h <;> exact h
theorem wait_wt (x : PipeM) (s : Bool) (m a : Wtr) (h : a ∈ (waitF x s m).2.senders ∨ a ∈ (waitF x s m).2.receivers) : (a ∈ x.senders ∨ a ∈ x.receivers) ∨ a = m := by
 have hadd : ∀ (L : List Wtr), a ∈ (addF L m).2 → a ∈ L ∨ a = m := by
  intro L hL
  unfold addF at hL
  split at hL
  ·exact .inl hL
  ·split at hL
   ·exact .inl hL
   ·exact (List.mem_append.1 hL).imp id (fun h => by simpa using h)
 unfold waitF at h
 split at h
 ·exact .inl h
 ·split at h
  ·rcases h with h | h
   ·exact (hadd _ h).imp .inl id
   ·exact .inl (.inr h)
  ·rcases h with h | h
   ·exact .inl (.inl h)
   ·exact (hadd _ h).imp .inr id
theorem WtIn.try {n : Nat} {M : List PipeM} (h : WtIn n M) (ok : List Bool) (c : CaseM) : WtIn n (tryF ok M c).2 := by
 unfold tryF
 split
 ·exact h
 ·split
  ·exact h.set (fun a ha => .inl (send_wt _ _ _ ha))
  ·exact h.set (fun a ha => .inl (recv_wt _ _ ha))
theorem WtIn.park {n : Nat} {M : List PipeM} (h : WtIn n M) (ok : List Bool) {g : Int} (hg : 0 ≤ g ∧ g < (n : Int)) (L : List CaseM) : ∀ k, WtIn n (parkK ok g L M k).2
 | 0 => h
 | k + 1 => by
  have ih := WtIn.park h ok hg L k
  unfold parkK
  split
  ·exact ih
  ·exact ih.set (fun a ha => (wait_wt _ _ _ _ ha).imp id (fun e => by rw [e]; exact hg))
theorem WtIn.parkF {n : Nat} {M : List PipeM} (h : WtIn n M) (ok : List Bool) {g : Int} (hg : 0 ≤ g ∧ g < (n : Int)) (L : List CaseM) : WtIn n (parkF ok g L M).2 := by
 unfold Go.Proofs.YtoamjodmidbmbaaGreatDoor.parkF
 split
 ·exact h
 ·split
  ·exact h
  ·exact h.park ok hg L _
theorem ableF_in (L : List One) : ∀ k, ∀ g ∈ inF L 0 k, 0 ≤ g ∧ g < (k : Int)
 | 0, g, h => by simp [inF] at h
 | k + 1, g, h => by
  unfold inF at h
  rcases List.mem_append.1 h with h | h
  ·have := ableF_in L k g h
   omega
  ·split at h
   ·simp at h
   ·split at h
    ·simp at h
     omega
    ·simp at h
end Go.Proofs.YtoamjodmidbmbaaGreatDoor
namespace Go.Proofs.YtoamjodmidbmbaaGreatDoor
open Go.RowKit
section
variable {w : World} {F : List Piece} {lb : Nat} {x : LmM} {n0 n1 n2 n3 n4 n5 n6 n7 : Int} {t m : Int} {vp vl vd : Value}
theorem rl_open (hn : x.name = [n0, n1, n2, n3, n4, n5, n6, n7]) (H : SL w (RlP lb ⟨t, m, vp, vl, vd⟩ x :: F)) : ∃ (hb crb : Nat) (cha : Option Addr) (chc : Nat) (ta : Option Addr) (tc : Nat) (ps : List Nat), ps.length = x.M.length ∧
  SL w (row lb #[.int .i64 t, .int .i64 m, vp, vl, vd, .pointer (some ⟨hb, 0, none⟩), .pointer (some ⟨crb, 0, none⟩), .slice cha x.M.length chc, .int .i64 n0, .int .i64 n1, .int .i64 n2, .int .i64 n3, .int .i64 n4, .int .i64 n5, .int .i64 n6, .int .i64 n7, .slice ta x.tr.length tc, .bool x.pan] 122 ::
   row hb #[vl, vd, .int .i64 (x.p : Int), .int .i64 (x.d : Int)] 166 :: RCrewP crb x.crew ::
   Slc 193 1 (.slice cha x.M.length chc) x.M.length (pcs (ps.map some)) :: RsP (ps.map some) x.M :: Slc 53 8 (.slice ta x.tr.length tc) x.tr.length (x.tr.flatMap Ev.cells) :: F) := by
 obtain ⟨hb, crb, chv, tv, ps, ⟨hl, h8⟩, H⟩ := RlP.iff.1 H
 rw [hn] at H
 obtain ⟨ta, tc, rfl⟩ := SL.slcForm H.up5
 obtain ⟨cha, chc, rfl⟩ := SL.slcForm H.up3
 rw [hl] at H
 exact ⟨hb, crb, cha, chc, ta, tc, ps, hl, H⟩
theorem rl_shut {hb crb nc : Nat} {chv tv : Value} {ps : List Nat} (hl : ps.length = nc) (hnc : nc = x.M.length) (hn : x.name = [n0, n1, n2, n3, n4, n5, n6, n7]) (H : SL w (row lb #[.int .i64 t, .int .i64 m, vp, vl, vd, .pointer (some ⟨hb, 0, none⟩), .pointer (some ⟨crb, 0, none⟩), chv, .int .i64 n0, .int .i64 n1, .int .i64 n2, .int .i64 n3, .int .i64 n4, .int .i64 n5, .int .i64 n6, .int .i64 n7, tv, .bool x.pan] 122 ::
   row hb #[vl, vd, .int .i64 (x.p : Int), .int .i64 (x.d : Int)] 166 :: RCrewP crb x.crew ::
   Slc 193 1 chv nc (pcs (ps.map some)) :: RsP (ps.map some) x.M :: Slc 53 8 tv x.tr.length (x.tr.flatMap Ev.cells) :: F)) : SL w (RlP lb ⟨t, m, vp, vl, vd⟩ x :: F) := by
 subst hnc
 refine RlP.iff.2 ⟨hb, crb, chv, tv, ps, ⟨hl, by rw [hn]; rfl⟩, ?_⟩
 rw [hn, hl]
 exact H
end
theorem name_cell {n0 n1 n2 n3 n4 n5 n6 n7 : Int} {x : LmM} {a0 a1 a2 a3 a4 a5 a6 a7 tv pv : Value} (hn : x.name = [n0, n1, n2, n3, n4, n5, n6, n7]) (j : Nat) (hj : j < 8) :
  #[a0, a1, a2, a3, a4, a5, a6, a7, .int .i64 n0, .int .i64 n1, .int .i64 n2, .int .i64 n3, .int .i64 n4, .int .i64 n5, .int .i64 n6, .int .i64 n7, tv, pv][8 + j * 1]? = some (.int .i64 (numL x (j : Int))) := by
 unfold numL
 rw [hn, Int.toNat_natCast]
 match j, hj with
 | 0, _ | 1, _ | 2, _ | 3, _ | 4, _ | 5, _ | 6, _ | 7, _ => rfl
theorem numL_get {x : LmM} {j : Nat} (hj : j < x.name.length) : numL x (j : Int) = x.name[j] := by
 unfold numL
 rw [Int.toNat_natCast, List.getD_eq_getElem?_getD, List.getElem?_eq_getElem hj]
 rfl
section
variable {np k : Nat} {x : LmM} {ps : List Nat}
theorem Lk.nps (hk : Lk np k x) (hl : ps.length = x.M.length) : NamesOk x.name ps.length := by rw [hl]; exact hk.nm
theorem okN_eq (hk : Lk np k x) (hl : ps.length = x.M.length) : oks (gsN x.name ps) = okN x := okN_gs (hk.nps hl)
theorem gsN_at (hk : Lk np k x) {j : Nat} (hj : j < 8) : (gsN x.name ps)[j]? = some (if 0 ≤ numL x (j : Int) then ps[(numL x (j : Int)).toNat]? else none) := by
 have hj' : j < x.name.length := by rw [hk.n8]; exact hj
 unfold gsN
 rw [List.getElem?_map, List.getElem?_eq_getElem hj', numL_get hj']
 rfl
theorem msN_at (hk : Lk np k x) {j : Nat} (hj : j < 8) : (msN x.name x.M)[j]? = some (if 0 ≤ numL x (j : Int) then x.M.getD (numL x (j : Int)).toNat (emptyM 0) else emptyM 0) := by
 have hj' : j < x.name.length := by rw [hk.n8]; exact hj
 unfold msN
 rw [List.getElem?_map, List.getElem?_eq_getElem hj', numL_get hj']
 rfl
theorem num_lt (hk : Lk np k x) {j : Nat} (hj : j < 8) : numL x (j : Int) < (x.M.length : Int) := by
 have hj' : j < x.name.length := by rw [hk.n8]; exact hj
 rw [numL_get hj']
 exact hk.nm.lt _ (List.getElem_mem hj')
theorem num_or (hk : Lk np k x) (hl : ps.length = x.M.length) {j : Nat} (hj : j < 8) : (numL x (j : Int) < 0 ∧ nm (gsN x.name ps) j = none) ∨ ∃ i g : Nat, numL x (j : Int) = (i : Int) ∧ i < x.M.length ∧ (ps.map some)[i]? = some (some g) ∧ nm (gsN x.name ps) j = some g := by
 have h1 := gsN_at (ps := ps) hk hj
 have h2 := num_lt hk hj
 have h8 : (gsN x.name ps).length = 8 := by rw [gsN_len, hk.n8]
 have hnm : nm (gsN x.name ps) j = if 0 ≤ numL x (j : Int) then ps[(numL x (j : Int)).toNat]? else none := by
  unfold nm
  rw [if_pos (by omega), Int.toNat_natCast, List.getD_eq_getElem?_getD, h1]
  rfl
 by_cases h0 : 0 ≤ numL x (j : Int)
 ·obtain ⟨i, hi⟩ := Int.eq_ofNat_of_zero_le h0
  rw [hi] at h2 hnm
  have hip : i < ps.length := by omega
  refine .inr ⟨i, ps[i], hi, by omega, by rw [List.getElem?_map, List.getElem?_eq_getElem hip]; rfl, ?_⟩
  rw [hnm, if_pos (by omega), Int.toNat_natCast, List.getElem?_eq_getElem hip]
 ·rw [if_neg h0] at hnm
  exact .inl ⟨by omega, hnm⟩
theorem posF_num (hk : Lk np k x) {j : Nat} (hj : j < 8) : posF (okN x) (j : Int) = if 0 ≤ numL x (j : Int) then some j else none := by
 have hj' : j < x.name.length := by rw [hk.n8]; exact hj
 have ho : (okN x).getD j false = decide (0 ≤ numL x (j : Int)) := by
  unfold okN
  rw [List.getD_eq_getElem?_getD, List.getElem?_map, List.getElem?_eq_getElem hj', numL_get hj']
  rfl
 have h8 := hk.ok_len
 unfold posF
 rw [Int.toNat_natCast, ho]
 by_cases h0 : 0 ≤ numL x (j : Int)
 ·rw [if_pos h0, if_pos ⟨by omega, by omega, by simp [h0]⟩]
 ·rw [if_neg h0, if_neg (fun h => h0 (of_decide_eq_true h.2.2))]
theorem pipesN_at (hk : Lk np k x) {j : Nat} (hj : j < 8) : (pipesN x).getD j (emptyM 0) = if 0 ≤ numL x (j : Int) then x.M.getD (numL x (j : Int)).toNat (emptyM 0) else emptyM 0 := by
 rw [List.getD_eq_getElem?_getD, pipesN_eq, msN_at hk hj]
 rfl
theorem readyC_num (hk : Lk np k x) {j : Nat} (hj : j < 8) (s : Bool) (v : Int) : readyC (okN x) (pipesN x) ⟨s, j, v⟩ = if 0 ≤ numL x (j : Int) then readyF (x.M.getD (numL x (j : Int)).toNat (emptyM 0)) s else false := by
 unfold readyC
 dsimp only
 rw [posF_num hk hj]
 by_cases h0 : 0 ≤ numL x (j : Int)
 ·rw [if_pos h0, if_pos h0]
  dsimp only
  rw [pipesN_at hk hj, if_pos h0]
 ·rw [if_neg h0, if_neg h0]
end
section
variable {np k : Nat} {x : LmM} {ps : List Nat} {w : World} {F : List Piece} {A B : Piece} {a b : Option Addr} {ca cb : Nat}
theorem q_named {j : Nat} (hk : Lk np k x) (hB : Reader B 1 b 8 (pcs (gsN x.name ps))) (v : Option Nat) (hv : nm (gsN x.name ps) (j : Int) = v) (H : SL w (B :: F)) :
  Calls Tryz.prog 133 #[.slice b 8 cb, .int .i64 (j : Int)] w fun e w' => e = .returned (adr v) ∧ SL w' (B :: F) := by
 subst hv
 refine (r_named (gs := gsN x.name ps) (j : Int) (by rw [gsN_len, hk.n8]) (H.read hB)).mono ?_
 rintro e w' ⟨rfl, rfl⟩
 exact ⟨rfl, H⟩
theorem q_readyP {i g : Nat} (hl : ps.length = x.M.length) (h3 : (ps.map some)[i]? = some (some g)) (s : Bool) (H : SL w (RsP (ps.map some) x.M :: F)) :
  Calls Tryz.prog 135 #[.pointer (some ⟨g, 0, none⟩), .bool s] w fun e w' => e = .returned (.bool (readyF (x.M.getD i (emptyM 0)) s)) ∧ SL w' (RsP (ps.map some) x.M :: F) := by
 refine (rs_ready (by simp [hl]) h3 s H).mono ?_
 rintro e w' ⟨rfl, h⟩
 exact ⟨rfl, H.later h⟩
theorem q_wait {i g : Nat} (hk : Lk np k x) (hl : ps.length = x.M.length) (h3 : (ps.map some)[i]? = some (some g)) (s : Bool) (m : Wtr) (H : SL w (RsP (ps.map some) x.M :: F)) :
  Calls Tryz.prog 137 #[.pointer (some ⟨g, 0, none⟩), .bool s, m.agg] w fun e w' => e = .returned (.int .i64 (waitF (x.M.getD i (emptyM 0)) s m).1) ∧ SL w' (RsP (ps.map some) (x.M.set i (waitF (x.M.getD i (emptyM 0)) s m).2) :: F) :=
 rs_wait (n := k) (by simp [hl]) h3 (hk.inv.get (by have := (List.getElem?_eq_some_iff.1 h3).1; simp at this; omega)) H
theorem q_try (hk : Lk np k x) (hkb : k ≤ 1000000) (hl : ps.length = x.M.length) (c : CaseM) (hB : Reader B 1 b 8 (pcs (gsN x.name ps))) (H : SL w (RsP (ps.map some) x.M :: B :: F)) :
  Calls Tryz.prog 160 #[c.agg, .slice b 8 cb] w fun e w' => e = .returned (.tuple #[(tryF (okN x) (pipesN x) c).1.1.agg, .int .i64 (tryF (okN x) (pipesN x) c).1.2]) ∧ SL w' (RsP (ps.map some) (backN x.name (tryF (okN x) (pipesN x) c).2 x.M) :: B :: F) := by
 have h8 : (gsN x.name ps).length = 8 := by rw [gsN_len, hk.n8]
 have h1 := pipes_out (P := RefP) (F := B :: F) hl.symm (hk.nps hl) H
 have h2 := r_try (gs := gsN x.name ps) (M := msN x.name x.M) (cb := cb) c (by rw [msN_len, gsN_len]) h8.symm hB hk.inv.named hkb h1.up2.up1
 rw [okN_eq hk hl] at h2
 refine h2.mono ?_
 rintro e w' ⟨rfl, H'⟩
 refine ⟨rfl, ?_⟩
 exact pipes_back (P := RefP) hl.symm (hk.nps hl) (by rw [tryF_len]; exact msN_len _ _) H'.up2.dn1
theorem q_readies {L : List CaseM} (hk : Lk np k x) (hl : ps.length = x.M.length) (hL : L.length ≤ 100000) (hA : Reader A 3 a L.length (L.flatMap CaseM.cells)) (hB : Reader B 1 b 8 (pcs (gsN x.name ps))) (H : SL w (RsP (ps.map some) x.M :: A :: B :: F)) :
  Calls Tryz.prog 142 #[.slice a L.length ca, .slice b 8 cb] w fun e w' => ∃ a' c', e = .returned (.slice a' (readyL (okN x) (pipesN x) L).length c') ∧ SL w' (Slc 3 1 (.slice a' (readyL (okN x) (pipesN x) L).length c') (readyL (okN x) (pipesN x) L).length (ints (readyL (okN x) (pipesN x) L)) :: RsP (ps.map some) x.M :: A :: B :: F) := by
 have h8 : (gsN x.name ps).length = 8 := by rw [gsN_len, hk.n8]
 have h1 := pipes_out (P := RefP) (F := A :: B :: F) hl.symm (hk.nps hl) H
 have h2 := r_ready10 (gs := gsN x.name ps) (M := msN x.name x.M) (ca := ca) (cb := cb) (by rw [msN_len, gsN_len]) rfl h8.symm hA hB hL (h1.pi [0, 2, 3, 1] 4)
 rw [okN_eq hk hl] at h2
 refine h2.mono ?_
 rintro e w' ⟨v, rfl, H'⟩
 obtain ⟨a', c', rfl⟩ := SL.slcForm H'
 refine ⟨a', c', rfl, ?_⟩
 have h3 := H'.pi [1, 4, 0, 2, 3] 5
 have h4 := pipes_back (P := RefP) hl.symm (hk.nps hl) (by rw [msN_len]) h3
 have e : backN x.name (msN x.name x.M) x.M = x.M := backN_same hk.nm
 rw [e] at h4
 exact h4.swap
theorem q_park {L : List CaseM} (g : Int) (hk : Lk np k x) (hl : ps.length = x.M.length) (hL : L.length ≤ 100000) (hA : Reader A 3 a L.length (L.flatMap CaseM.cells)) (hB : Reader B 1 b 8 (pcs (gsN x.name ps))) (H : SL w (RsP (ps.map some) x.M :: A :: B :: F)) :
  Calls Tryz.prog 144 #[.int .i64 g, .slice a L.length ca, .slice b 8 cb] w fun e w' => e = .returned (.tuple #[.int .i64 (parkF (okN x) g L (pipesN x)).1.1, .int .i64 (parkF (okN x) g L (pipesN x)).1.2]) ∧ SL w' (RsP (ps.map some) (backN x.name (parkF (okN x) g L (pipesN x)).2 x.M) :: A :: B :: F) := by
 have h8 : (gsN x.name ps).length = 8 := by rw [gsN_len, hk.n8]
 have h1 := pipes_out (P := RefP) (F := A :: B :: F) hl.symm (hk.nps hl) H
 have h2 := r_park (gs := gsN x.name ps) (M := msN x.name x.M) (ca := ca) (cb := cb) g (by rw [msN_len, gsN_len]) rfl h8.symm hA hB hk.inv.named hL (h1.pi [0, 2, 3, 1] 4)
 rw [okN_eq hk hl] at h2
 refine h2.mono ?_
 rintro e w' ⟨rfl, H'⟩
 refine ⟨rfl, ?_⟩
 exact pipes_back (P := RefP) hl.symm (hk.nps hl) (by rw [parkF_len]; exact msN_len _ _) (H'.pi [0, 3, 1, 2] 4)
theorem q_leave (g : Int) (hk : Lk np k x) (hkb : k ≤ 1000000) (hl : ps.length = x.M.length) (hB : Reader B 1 b x.M.length (pcs (ps.map some))) (H : SL w (RsP (ps.map some) x.M :: B :: F)) :
  Calls Tryz.prog 163 #[.int .i64 g, .slice b x.M.length cb] w fun e w' => (∃ r, e = .returned (.int .i64 r)) ∧ SL w' (RsP (ps.map some) (x.M.map (fun y => dropM y g)) :: B :: F) := by
 refine (r_leave (gs := ps.map some) (cb := cb) g (by simp [hl]) (by simp [hl]) hB hk.inv (by have := hk.ml; simp [hl]; omega) H).mono ?_
 rintro e w' ⟨rfl, H'⟩
 exact ⟨⟨_, rfl⟩, H'⟩
theorem q_close {i g : Nat} (hl : ps.length = x.M.length) (h3 : (ps.map some)[i]? = some (some g)) (H : SL w (RsP (ps.map some) x.M :: F)) :
  Calls Tryz.prog 140 #[.pointer (some ⟨g, 0, none⟩)] w fun e w' => ∃ a c b d, e = .returned (.tuple #[.slice a (closeF (x.M.getD i (emptyM 0))).1.1.length c, .slice b (closeF (x.M.getD i (emptyM 0))).1.2.1.length d, .int .i64 (closeF (x.M.getD i (emptyM 0))).1.2.2]) ∧
   SL w' (RdP a (closeF (x.M.getD i (emptyM 0))).1.1.length 3 ((closeF (x.M.getD i (emptyM 0))).1.1.flatMap Wtr.cells) :: RdP b (closeF (x.M.getD i (emptyM 0))).1.2.1.length 3 ((closeF (x.M.getD i (emptyM 0))).1.2.1.flatMap Wtr.cells) :: RsP (ps.map some) (x.M.set i (closeF (x.M.getD i (emptyM 0))).2) :: F) := by
 have hM : x.M.length = (ps.map some).length := by simp [hl]
 refine (r_close (take_rs hM h3 H)).mono ?_
 rintro e w' ⟨a, c, b, d, rfl, H'⟩
 exact ⟨a, c, b, d, rfl, (put_rs hM h3 (H'.pi [2, 3, 0, 1] 4)).dn2⟩
end
end Go.Proofs.YtoamjodmidbmbaaGreatDoor
