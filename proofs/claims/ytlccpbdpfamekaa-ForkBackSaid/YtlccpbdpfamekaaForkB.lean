/- Layer 10, fork: which cases are ready, by the program and by the reference. -/
import Derived.Test.YtlccpbdpfamekaaForkA
namespace Go.Proofs.Ytlccpbdpfamekaa
set_option linter.unusedVariables false
set_option linter.unusedSimpArgs false
open Go.RowKit

section
variable {w : World} {F : List Piece} {gs : List (Option Nat)} {M : List PipeM}

set_option maxHeartbeats 400000 in
theorem r_named {a : Option Addr} {n cap : Nat} (c : Int) (hn : n = gs.length) (h : Rd w 1 a n (pcs gs)) : Calls Try.prog 65 #[.slice a n cap, .int .i64 c] w fun e w' => e = .returned (adr (nm gs c)) ∧ w = w' := by
  obtain ⟨v, hv⟩ : ∃ v, nm gs c = v := ⟨_, rfl⟩
  rw [hv]
  unfold nm at hv
  subst hn
  by_cases h1 : c < 0
  · rw [if_neg (by omega)] at hv
    subst hv
    go_enter Try.func65, Try.ntmps65
    go_wp2_with fail
    go_ret
    exact ⟨rfl, rfl⟩
  · obtain ⟨k, rfl⟩ : ∃ k : Nat, c = k := ⟨c.toNat, by omega⟩
    by_cases h2 : k < gs.length
    · rw [if_pos (by omega), Int.toNat_natCast] at hv
      obtain ⟨b, off, rfl, hc⟩ := h.2.2 (by omega)
      have h3 := hc k (adr v) (by unfold pcs; rw [List.getElem?_map, List.getElem?_eq_getElem h2]; rw [List.getD_eq_getElem?_getD, List.getElem?_eq_getElem h2] at hv; simp at hv; rw [hv]; rfl)
      have h4 := World.block_lt_of_cell? w _ h3
      dsimp only at h4
      unfold adr at h3 ⊢
      obtain ⟨q, hq⟩ : ∃ q, v.map (fun g => (⟨g, 0, none⟩ : Addr)) = q := ⟨_, rfl⟩
      rw [hq] at h3 ⊢
      clear hc hv hq
      have d1 : (k : Int) < (gs.length : Int) := by omega
      have d2 : ¬ (gs.length : Int) ≤ (k : Int) := by omega
      have d3 : (0 : Int) ≤ (k : Int) := by omega
      go_enter Try.func65, Try.ntmps65
      go_wp2_with fail
      go_ret
      exact ⟨rfl, rfl⟩
    · rw [if_neg (by omega)] at hv
      subst hv
      have d2 : (gs.length : Int) ≤ (k : Int) := by omega
      go_enter Try.func65, Try.ntmps65
      go_wp2_with fail
      go_ret
      exact ⟨rfl, rfl⟩


theorem rs_ready (hM : M.length = gs.length) {i g : Nat} (h3 : gs[i]? = some (some g)) (s : Bool) (H : SL w (RsP gs M :: F)) : Calls Try.prog 21 #[.pointer (some ⟨g, 0, none⟩), .bool s] w fun e w' => e = .returned (.bool (readyF (M.getD i (emptyM 0)) s)) ∧ Frm Nil w w' := by
  have hi : i < M.length := by rw [hM]; exact (List.getElem?_eq_some_iff.1 h3).1
  have H' := all_take (P := RefP) h3 (List.getElem?_eq_getElem hi) H
  rw [List.getD_eq_getElem?_getD, List.getElem?_eq_getElem hi]
  exact r_ready_q s H'

set_option maxRecDepth 100000 in
set_option maxHeartbeats 1000000 in
theorem f_ready {A B : Piece} {a b : Option Addr} {ca cb n m : Nat} {L : List CaseM} (hM : M.length = gs.length) (hn : n = L.length) (hm : m = gs.length) (hA : Reader A 3 a n (L.flatMap CaseM.cells)) (hB : Reader B 1 b m (pcs gs)) (hL : L.length ≤ 100000) (H : SL w (PsP gs M :: A :: B :: F)) :
    Calls Try.prog 34 #[.slice a n ca, .slice b m cb] w fun e w' => ∃ v, e = .returned v ∧ SL w' (Slc 3 1 v (readyL (oks gs) M L).length (ints (readyL (oks gs) M L)) :: PsP gs M :: A :: B :: F) := by
  subst hn hm
  have HM := Lib.hid hM
  clear hM
  unfold readyL
  go_enter Try.func34, Try.ntmps34
  go_wp2_with fail
  go_loopw [5, 9] (fun v i wr => ∃ k : Nat, k ≤ L.length ∧ i = .int .i64 k ∧ SL wr (Slc 3 1 v (readyK (oks gs) M L k).length (ints (readyK (oks gs) M L k)) :: PsP gs M :: A :: B :: F)) (fun _ i _ => L.length - (intOf i).toNat)
  case atStart => exact ⟨0, Nat.zero_le _, rfl, SL.slcNil _ _ H⟩
  case round =>
    obtain ⟨k, hk, rfl, HR⟩ := hrel
    obtain ⟨va, vc, hv, hvl, hvm, _⟩ := HR.slc
    subst hv
    have hle := readyK_le (oks gs) M L k
    by_cases hlt : k < L.length
    · obtain ⟨b1, o1, e1, d0, d1, d2⟩ := case_at (HR.up2.read hA) k hlt
      subst e1
      have hsc := readyK_succ (oks gs) M L k hlt
      obtain ⟨c, hc⟩ : ∃ c, L[k] = c := ⟨_, rfl⟩
      rw [hc] at d0 d1 d2 hsc
      clear hc
      obtain ⟨cs, cc, cv⟩ := c
      dsimp only at d0 d1 d2
      have k1 := fun w' (f : Frm Nil wr w') => f_named (cap := cb) cc rfl (((HR.later f).up3).read hB)
      have k2 := fun w' (f : Frm Nil wr w') => ps_ready HM.out cc cs cv ((HR.later f).up1)
      obtain ⟨pv, hpv⟩ : ∃ p, adr (nm gs cc) = p := ⟨_, rfl⟩
      obtain ⟨rb, hrb⟩ : ∃ r, readyC (oks gs) M ⟨cs, cc, cv⟩ = r := ⟨_, rfl⟩
      rw [hpv] at k1 k2
      rw [hrb] at k2 hsc
      have K1 := Lib.hid k1
      have K2 := Lib.hid k2
      have HSC := Lib.hid hsc
      clear k1 k2 hpv hrb hsc
      have dl : (k : Int) < (L.length : Int) := by omega
      go_wp2_with fail
      go_region_held3 (fun w' => w'.cell? ⟨b1, o1 + k * 3, none⟩ = some (.bool cs) ∧ w'.cell? ⟨b1, o1 + k * 3 + 1, none⟩ = some (.int .i64 cc)) (first | go_keep | (go_split_ands; refine ⟨?_, ?_⟩ <;> exact Frm.out (by assumption) (by assumption) (fun h => h))) (first | (go_at_call 67; (with_reducible refine (K1.out _ (by repeat (first | with_reducible exact Frm.refl _ _ | apply Frm.drewN | apply Frm.drew | apply Frm.alloc | (refine Frm.then ?_ (by assumption))))).mono ?_); rintro e w' ⟨rfl, rfl⟩) | (go_at_call 20; (with_reducible refine (K2.out _ (by repeat (first | with_reducible exact Frm.refl _ _ | apply Frm.drewN | apply Frm.drew | apply Frm.alloc | (refine Frm.then ?_ (by assumption))))).mono ?_); rintro e w' ⟨rfl, fq⟩))
      all_goals
        cases rb with
        | false =>
          go_wp2_with fail
          go_roundw
          case rel => exact ⟨k + 1, by omega, by go_num, by rw [HSC.out]; simp only [Bool.false_eq_true, if_false, List.append_nil]; exact HR.later (by repeat (first | with_reducible exact Frm.refl _ _ | apply Frm.drewN | apply Frm.drew | apply Frm.alloc | (refine Frm.then ?_ (by assumption))))⟩
          case measure => simp [intOf]; omega
        | true =>
          have HQ := HR.later (w' := w') (by repeat (first | with_reducible exact Frm.refl _ _ | apply Frm.drewN | apply Frm.drew | apply Frm.alloc | (refine Frm.then ?_ (by assumption))))
          go_wp2_with (at_builtin; go_must (refine sl_app rfl _ _ 42 _ 8 rfl Try.underlying42 infoInt rfl (by decide) (.slice va _ vc) _ _ [.int .i64 k] rfl rfl (by simp) rfl rfl HQ (by omega) (by decide) ?_); intro g c w1 H1 hs1)
          go_roundw
          case rel => exact ⟨k + 1, by omega, by go_num, by rw [HSC.out]; simp only [if_true]; rw [List.length_append, ints_append]; exact H1⟩
          case measure => simp [intOf]; omega
    · have hkn : k = L.length := by omega
      rw [hkn] at HR
      rw [hkn]
      clear hkn hle hvl
      go_wp2_with fail
      go_ret
      exact ⟨_, rfl, HR⟩

set_option maxRecDepth 100000 in
set_option maxHeartbeats 1000000 in
theorem r_ready10 {A B : Piece} {a b : Option Addr} {ca cb n m : Nat} {L : List CaseM} (hM : M.length = gs.length) (hn : n = L.length) (hm : m = gs.length) (hA : Reader A 3 a n (L.flatMap CaseM.cells)) (hB : Reader B 1 b m (pcs gs)) (hL : L.length ≤ 100000) (H : SL w (RsP gs M :: A :: B :: F)) :
    Calls Try.prog 35 #[.slice a n ca, .slice b m cb] w fun e w' => ∃ v, e = .returned v ∧ SL w' (Slc 3 1 v (readyL (oks gs) M L).length (ints (readyL (oks gs) M L)) :: RsP gs M :: A :: B :: F) := by
  subst hn hm
  have HM := Lib.hid hM
  clear hM
  unfold readyL
  go_enter Try.func35, Try.ntmps35
  go_wp2_with fail
  go_loopw [5, 11] (fun v i wr => ∃ k : Nat, k ≤ L.length ∧ i = .int .i64 k ∧ SL wr (Slc 3 1 v (readyK (oks gs) M L k).length (ints (readyK (oks gs) M L k)) :: RsP gs M :: A :: B :: F)) (fun _ i _ => L.length - (intOf i).toNat)
  case atStart => exact ⟨0, Nat.zero_le _, rfl, SL.slcNil _ _ H⟩
  case round =>
    obtain ⟨k, hk, rfl, HR⟩ := hrel
    obtain ⟨va, vc, hv, hvl, hvm, _⟩ := HR.slc
    subst hv
    have hle := readyK_le (oks gs) M L k
    by_cases hlt : k < L.length
    · obtain ⟨b1, o1, e1, d0, d1, d2⟩ := case_at (HR.up2.read hA) k hlt
      subst e1
      have hsc := readyK_succ (oks gs) M L k hlt
      obtain ⟨c, hc⟩ : ∃ c, L[k] = c := ⟨_, rfl⟩
      rw [hc] at d0 d1 d2 hsc
      clear hc
      obtain ⟨cs, cc, cv⟩ := c
      dsimp only at d0 d1 d2
      have k1 := fun w' (f : Frm Nil wr w') => r_named (cap := cb) cc rfl (((HR.later f).up3).read hB)
      have dl : (k : Int) < (L.length : Int) := by omega
      have HB := (HR.alloc (.cells #[.bool cs, .int .i64 cc, .int .i64 cv] 67)).up1
      rcases nm_pos gs cc with ⟨h1, h2⟩ | ⟨i, g, h1, h2, h3, h4⟩
      · have e1 : readyC (oks gs) M ⟨cs, cc, cv⟩ = false := by unfold readyC; dsimp only; rw [h1]
        rw [h2] at k1
        rw [e1] at hsc
        unfold adr at k1
        dsimp only [Option.map] at k1
        have K1 := Lib.hid k1
        have HSC := Lib.hid hsc
        clear k1 hsc h1 h2 e1
        go_wp2_with fail
        refine (K1.out _ (by repeat (first | with_reducible exact Frm.refl _ _ | apply Frm.drewN | apply Frm.drew | apply Frm.alloc | (refine Frm.then ?_ (by assumption))))).mono ?_
        rintro e w' ⟨rfl, rfl⟩
        go_wp2_with fail
        go_roundw
        case rel => exact ⟨k + 1, by omega, by go_num, by rw [HSC.out]; simp only [Bool.false_eq_true, if_false, List.append_nil]; exact HR.later (by repeat (first | with_reducible exact Frm.refl _ _ | apply Frm.drewN | apply Frm.drew | apply Frm.alloc | (refine Frm.then ?_ (by assumption))))⟩
        case measure => simp [intOf]; omega
      · have k2 := fun w' (f : Frm Nil wr w') => rs_ready HM.out h3 cs (HR.later f).up1
        have e1 : readyC (oks gs) M ⟨cs, cc, cv⟩ = readyF (M.getD i (emptyM 0)) cs := by unfold readyC; dsimp only; rw [h1]
        rw [h2] at k1
        rw [e1] at hsc
        unfold adr at k1
        dsimp only [Option.map] at k1
        obtain ⟨rb, hrb⟩ : ∃ r, readyF (M.getD i (emptyM 0)) cs = r := ⟨_, rfl⟩
        rw [hrb] at k2 hsc
        have K1 := Lib.hid k1
        have K2 := Lib.hid k2
        have HSC := Lib.hid hsc
        clear k1 k2 hrb hsc h1 h2 h3 h4 e1
        cases rb with
        | false =>
          go_wp2_with fail
          refine (K1.out _ (by repeat (first | with_reducible exact Frm.refl _ _ | apply Frm.drewN | apply Frm.drew | apply Frm.alloc | (refine Frm.then ?_ (by assumption))))).mono ?_
          rintro e w' ⟨rfl, rfl⟩
          go_wp2_with fail
          refine (K2.out _ (by repeat (first | with_reducible exact Frm.refl _ _ | apply Frm.drewN | apply Frm.drew | apply Frm.alloc | (refine Frm.then ?_ (by assumption))))).mono ?_
          rintro e w' ⟨rfl, fq⟩
          go_wp2_with fail
          go_roundw
          case rel => exact ⟨k + 1, by omega, by go_num, by rw [HSC.out]; simp only [Bool.false_eq_true, if_false, List.append_nil]; exact HR.later (by repeat (first | with_reducible exact Frm.refl _ _ | apply Frm.drewN | apply Frm.drew | apply Frm.alloc | (refine Frm.then ?_ (by assumption))))⟩
          case measure => simp [intOf]; omega
        | true =>
          go_wp2_with fail
          refine (K1.out _ (by repeat (first | with_reducible exact Frm.refl _ _ | apply Frm.drewN | apply Frm.drew | apply Frm.alloc | (refine Frm.then ?_ (by assumption))))).mono ?_
          rintro e w' ⟨rfl, rfl⟩
          go_wp2_with fail
          refine (K2.out _ (by repeat (first | with_reducible exact Frm.refl _ _ | apply Frm.drewN | apply Frm.drew | apply Frm.alloc | (refine Frm.then ?_ (by assumption))))).mono ?_
          rintro e w' ⟨rfl, fq⟩
          have HQ := HR.later (w' := w') (by repeat (first | with_reducible exact Frm.refl _ _ | apply Frm.drewN | apply Frm.drew | apply Frm.alloc | (refine Frm.then ?_ (by assumption))))
          go_wp2_with (at_builtin; go_must (refine sl_app rfl _ _ 42 _ 8 rfl Try.underlying42 infoInt rfl (by decide) (.slice va _ vc) _ _ [.int .i64 k] rfl rfl (by simp) rfl rfl HQ (by omega) (by decide) ?_); intro g c w1 H1 hs1)
          go_roundw
          case rel => exact ⟨k + 1, by omega, by go_num, by rw [HSC.out]; simp only [if_true]; rw [List.length_append, ints_append]; exact H1⟩
          case measure => simp [intOf]; omega
    · have hkn : k = L.length := by omega
      rw [hkn] at HR
      rw [hkn]
      clear hkn hle hvl
      go_wp2_with fail
      go_ret
      exact ⟨_, rfl, HR⟩
end

end Go.Proofs.Ytlccpbdpfamekaa

