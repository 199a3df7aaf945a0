/- Texts of the proof, several in one file: LawF. -/
import Derived.Test.YtcgajljbahbhdaaGreatR22
import Derived.Test.YtcgajljbahbhdaaGreatR24
namespace Go.Proofs.YtcgajljbahbhdaaGreat
set_option linter.unusedVariables false
set_option linter.unusedSimpArgs false
open Go.RowKit
set_option maxRecDepth 100000
section
variable {w : World} {F : List Piece} {A : Piece} {pa la da : Option Addr} {pc lc dc : Nat} {t m : Int} {X : List ProgX} {pl dr : List Int} {n : Nat}
theorem p_runN (hpn : pl.length = n) (hX : 0 < X.length → ∃ b off, pa = some ⟨b, off, none⟩ ∧ ScrA A b off X) (hL : Reader A 1 la pl.length (ints pl)) (hD : Reader A 1 da dr.length (ints dr)) (hck : checkE ⟨t, m, progsM X, pl, dr⟩ = 0) (H : SL w (A :: F)) : Calls Tryz.prog 12 #[.agg #[.int .i64 t, .int .i64 m, .slice pa X.length pc, .slice la n lc, .slice da dr.length dc]] w fun o w' => ∃ ka kc, o = .returned (.tuple #[.slice ka (runL ⟨t, m, progsM X, pl, dr⟩ (pl.length + 1)).tr.length kc, .int .i64 (verL ⟨t, m, progsM X, pl, dr⟩ (runL ⟨t, m, progsM X, pl, dr⟩ (pl.length + 1)))]) ∧ SL w' (Slc 36 8 (.slice ka (runL ⟨t, m, progsM X, pl, dr⟩ (pl.length + 1)).tr.length kc) (runL ⟨t, m, progsM X, pl, dr⟩ (pl.length + 1)).tr.length ((runL ⟨t, m, progsM X, pl, dr⟩ (pl.length + 1)).tr.flatMap Ev.cells) :: A :: F) := by
 subst hpn
 exact p_run hX hL hD hck H
theorem p_runN_no (hpn : pl.length = n) (hX : 0 < X.length → ∃ b off, pa = some ⟨b, off, none⟩ ∧ ScrA A b off X) (hL : Reader A 1 la pl.length (ints pl)) (hD : Reader A 1 da dr.length (ints dr)) (hck : checkE ⟨t, m, progsM X, pl, dr⟩ ≠ 0) (H : SL w (A :: F)) : Calls Tryz.prog 12 #[.agg #[.int .i64 t, .int .i64 m, .slice pa X.length pc, .slice la n lc, .slice da dr.length dc]] w fun o w' => o = .returned (.tuple #[.slice none 0 0, .int .i64 0]) ∧ SL w' (A :: F) := by
 subst hpn
 exact p_run_no hX hL hD hck H
end
set_option maxHeartbeats 2000000 in
theorem l_begins {w : World} {F : List Piece} {A : Piece} {pa la da : Option Addr} {pc lc dc : Nat} {t m : Int} {X : List ProgX} {pl dr : List Int} (hX : 0 < X.length → ∃ b off, pa = some ⟨b, off, none⟩ ∧ ScrA A b off X) (hL : Reader A 1 la pl.length (ints pl)) (hD : Reader A 1 da dr.length (ints dr)) (hlc : pl.length ≤ lc) (n : Int) (H : SL w (A :: F)) : Calls Tryz.prog 5 #[.agg #[.int .i64 t, .int .i64 m, .slice pa X.length pc, .slice la pl.length lc, .slice da dr.length dc], .int .i64 n] w fun o w' => o = .returned (.bool true) ∧ SL w' (A :: F) := by
 by_cases h0 : n < 0
 ·skip
  refine calls_den (args := [_, _]) Tryz.func5 rfl (Nat.le_of_ble_eq_true (by kernel_rfl)) (by kernel_rfl) ?_
  refine ⟨?_⟩
  refine Nw.as #[.int .i64 t, .int .i64 m, .slice pa X.length pc, .slice la pl.length lc, .slice da dr.length dc] 25 rfl H fun b2 w H => ?_
  refine ⟨?_⟩
  refine H.ldi 0 rfl (v := .int .i64 t) rfl ?_
  refine H.ldi 0 rfl (v := .int .i64 m) rfl ?_
  refine H.ldi 0 rfl (v := .slice pa X.length pc) rfl ?_
  refine H.ldi 0 rfl (v := .slice la pl.length lc) rfl ?_
  refine H.ldi 0 rfl (v := .slice da dr.length dc) rfl ?_
  have h1 := H.pick [1, 0] 2 (by decide)
  simp only [pk, nth, pkA, pkB, pkC, pkD, pkE, pkF] at h1
  refine Cl.by (by kernel_rfl) (l_large hX hL hD h1) ?_
  rintro _ w ⟨bl, rfl, H⟩
  refine ⟨_, rfl, ?_⟩
  replace H := H.pick [1, 0] 2 (by decide)
  simp only [pk, nth, pkA, pkB, pkC, pkD, pkE, pkF] at H
  refine BB.k ?_
  cases bl
  ·skip
   refine BB.yes (decide_eq_true (by omega)) ?_
   refine Cn.yes ?_
   refine ⟨?_⟩
   refine Cl.sl (by kernel_rfl) (l_hands H) fun w H => ?_
   refine BB.yes rfl ?_
   refine ret1 (fn := Tryz.f5) (.bool true) rfl (by rfl) ?_
   exact ⟨rfl, H.pick [1] 2 (by decide)⟩
  ·skip
   refine Cn.yes ?_
   refine ⟨?_⟩
   refine Cl.sl (by kernel_rfl) (l_hands H) fun w H => ?_
   refine BB.yes rfl ?_
   refine ret1 (fn := Tryz.f5) (.bool true) rfl (by rfl) ?_
   exact ⟨rfl, H.pick [1] 2 (by decide)⟩
 ·by_cases h9 : (pl.length : Int) < n
  ·skip
   refine calls_den (args := [_, _]) Tryz.func5 rfl (Nat.le_of_ble_eq_true (by kernel_rfl)) (by kernel_rfl) ?_
   refine ⟨?_⟩
   refine Nw.as #[.int .i64 t, .int .i64 m, .slice pa X.length pc, .slice la pl.length lc, .slice da dr.length dc] 25 rfl H fun b2 w H => ?_
   refine ⟨?_⟩
   refine H.ldi 0 rfl (v := .int .i64 t) rfl ?_
   refine H.ldi 0 rfl (v := .int .i64 m) rfl ?_
   refine H.ldi 0 rfl (v := .slice pa X.length pc) rfl ?_
   refine H.ldi 0 rfl (v := .slice la pl.length lc) rfl ?_
   refine H.ldi 0 rfl (v := .slice da dr.length dc) rfl ?_
   have h1 := H.pick [1, 0] 2 (by decide)
   simp only [pk, nth, pkA, pkB, pkC, pkD, pkE, pkF] at h1
   refine Cl.by (by kernel_rfl) (l_large hX hL hD h1) ?_
   rintro _ w ⟨bl, rfl, H⟩
   refine ⟨_, rfl, ?_⟩
   replace H := H.pick [1, 0] 2 (by decide)
   simp only [pk, nth, pkA, pkB, pkC, pkD, pkE, pkF] at H
   refine BB.k ?_
   cases bl
   ·skip
    refine BB.no (decide_eq_false (by omega)) ?_
    refine H.ldi 0 rfl (v := .slice la pl.length lc) rfl ?_
    refine BB.yes (decide_eq_true (by omega)) ?_
    refine Cn.yes ?_
    refine ⟨?_⟩
    refine Cl.sl (by kernel_rfl) (l_hands H) fun w H => ?_
    refine BB.yes rfl ?_
    refine ret1 (fn := Tryz.f5) (.bool true) rfl (by rfl) ?_
    exact ⟨rfl, H.pick [1] 2 (by decide)⟩
   ·skip
    refine Cn.yes ?_
    refine ⟨?_⟩
    refine Cl.sl (by kernel_rfl) (l_hands H) fun w H => ?_
    refine BB.yes rfl ?_
    refine ret1 (fn := Tryz.f5) (.bool true) rfl (by rfl) ?_
    exact ⟨rfl, H.pick [1] 2 (by decide)⟩
  ·obtain ⟨n, rfl⟩ := Int.eq_ofNat_of_zero_le (show 0 ≤ n by omega)
   have hpn : (pl.take n).length = n := by rw [List.length_take]; omega
   have hLn : Reader A 1 la (pl.take n).length (ints (pl.take n)) := by
    rw [hpn, ← ints_take]
    exact hL.take (by omega)
   by_cases hck : checkE ⟨t, m, progsM X, pl, dr⟩ = 0
   ·have hck2 : checkE ⟨t, m, progsM X, pl.take n, dr⟩ = 0 := check_take (s := ⟨t, m, progsM X, pl, dr⟩) hck
    have hpre : (runL ⟨t, m, progsM X, pl.take n, dr⟩ ((pl.take n).length + 1)).tr <+: (runL ⟨t, m, progsM X, pl, dr⟩ (pl.length + 1)).tr := run_begins (s := ⟨t, m, progsM X, pl, dr⟩) (by show n ≤ pl.length; omega)
    refine calls_den (args := [_, _]) Tryz.func5 rfl (Nat.le_of_ble_eq_true (by kernel_rfl)) (by kernel_rfl) ?_
    refine ⟨?_⟩
    refine Nw.as #[.int .i64 t, .int .i64 m, .slice pa X.length pc, .slice la pl.length lc, .slice da dr.length dc] 25 rfl H fun b2 w H => ?_
    refine ⟨?_⟩
    refine H.ldi 0 rfl (v := .int .i64 t) rfl ?_
    refine H.ldi 0 rfl (v := .int .i64 m) rfl ?_
    refine H.ldi 0 rfl (v := .slice pa X.length pc) rfl ?_
    refine H.ldi 0 rfl (v := .slice la pl.length lc) rfl ?_
    refine H.ldi 0 rfl (v := .slice da dr.length dc) rfl ?_
    have h1 := H.pick [1, 0] 2 (by decide)
    simp only [pk, nth, pkA, pkB, pkC, pkD, pkE, pkF] at h1
    refine Cl.by (by kernel_rfl) (l_large hX hL hD h1) ?_
    rintro _ w ⟨bl, rfl, H⟩
    refine ⟨_, rfl, ?_⟩
    replace H := H.pick [1, 0] 2 (by decide)
    simp only [pk, nth, pkA, pkB, pkC, pkD, pkE, pkF] at H
    refine BB.k ?_
    cases bl
    ·skip
     refine BB.no (decide_eq_false (by omega)) ?_
     refine H.ldi 0 rfl (v := .slice la pl.length lc) rfl ?_
     refine BB.no (decide_eq_false (by omega)) ?_
     refine Cn.no ?_
     refine ⟨?_⟩
     refine H.ldi 0 rfl (v := .int .i64 t) rfl ?_
     refine H.ldi 0 rfl (v := .int .i64 m) rfl ?_
     refine H.ldi 0 rfl (v := .slice pa X.length pc) rfl ?_
     refine H.ldi 0 rfl (v := .slice la pl.length lc) rfl ?_
     refine H.ldi 0 rfl (v := .slice da dr.length dc) rfl ?_
     have h1 := H.pick [1, 0] 2 (by decide)
     simp only [pk, nth, pkA, pkB, pkC, pkD, pkE, pkF] at h1
     refine Cl.by (by kernel_rfl) (p_run hX hL hD hck h1) ?_
     rintro _ w ⟨ka, kc, rfl, H⟩
     refine ⟨_, rfl, ?_⟩
     replace H := H.pick [0, 2, 1] 3 (by decide)
     simp only [pk, nth, pkA, pkB, pkC, pkD, pkE, pkF] at H
     refine ⟨?_⟩
     refine H.ldi 1 rfl (v := .int .i64 t) rfl ?_
     refine H.ldi 1 rfl (v := .int .i64 m) rfl ?_
     refine H.ldi 1 rfl (v := .slice pa X.length pc) rfl ?_
     refine H.ldi 1 rfl (v := .slice la pl.length lc) rfl ?_
     refine H.ldi 1 rfl (v := .slice da dr.length dc) rfl ?_
     refine Nw.as #[.int .i64 0, .int .i64 0, .slice none 0 0, .slice none 0 0, .slice none 0 0] 25 rfl H fun b7 w H => ?_
     refine H.st0 (cs' := #[.int .i64 t, .int .i64 0, .slice none 0 0, .slice none 0 0, .slice none 0 0]) rfl rfl rfl fun w H => ?_
     refine H.st0 (cs' := #[.int .i64 t, .int .i64 m, .slice none 0 0, .slice none 0 0, .slice none 0 0]) rfl rfl rfl fun w H => ?_
     refine H.st0 (cs' := #[.int .i64 t, .int .i64 m, .slice pa X.length pc, .slice none 0 0, .slice none 0 0]) rfl rfl rfl fun w H => ?_
     refine H.st0 (cs' := #[.int .i64 t, .int .i64 m, .slice pa X.length pc, .slice la pl.length lc, .slice none 0 0]) rfl rfl rfl fun w H => ?_
     refine H.st0 (cs' := #[.int .i64 t, .int .i64 m, .slice pa X.length pc, .slice la pl.length lc, .slice da dr.length dc]) rfl rfl rfl fun w H => ?_
     refine ⟨?_⟩
     refine H.ldi 2 rfl (v := .slice la pl.length lc) rfl ?_
     refine Mn.head (te := 3) (sz := 1) (c := lc) (.tmp 31) (.tmp 32) 23 (by rfl) (by kernel_rfl) (by kernel_rfl) n (by omega) (by rfl) (by rfl) ?_
     refine H.st0 (cs' := #[.int .i64 t, .int .i64 m, .slice pa X.length pc, .slice la n lc, .slice da dr.length dc]) rfl rfl rfl fun w H => ?_
     refine ⟨?_⟩
     refine H.ldi 0 rfl (v := .int .i64 t) rfl ?_
     refine H.ldi 0 rfl (v := .int .i64 m) rfl ?_
     refine H.ldi 0 rfl (v := .slice pa X.length pc) rfl ?_
     refine H.ldi 0 rfl (v := .slice la n lc) rfl ?_
     refine H.ldi 0 rfl (v := .slice da dr.length dc) rfl ?_
     have h1 := H.pick [3, 0, 1, 2] 4 (by decide)
     simp only [pk, nth, pkA, pkB, pkC, pkD, pkE, pkF] at h1
     refine Cl.by (by kernel_rfl) (p_runN hpn hX hLn hD hck2 h1) ?_
     rintro _ w ⟨ja, jc, rfl, H⟩
     refine ⟨_, rfl, ?_⟩
     replace H := H.pick [0, 2, 3, 4, 1] 5 (by decide)
     simp only [pk, nth, pkA, pkB, pkC, pkD, pkE, pkF] at H
     refine ⟨?_⟩
     refine H.ldi 3 rfl (v := .int .i64 t) rfl ?_
     refine H.ldi 3 rfl (v := .int .i64 m) rfl ?_
     refine H.ldi 3 rfl (v := .slice pa X.length pc) rfl ?_
     refine H.ldi 3 rfl (v := .slice la pl.length lc) rfl ?_
     refine H.ldi 3 rfl (v := .slice da dr.length dc) rfl ?_
     have h1 := H.pick [4, 0, 1, 2, 3] 5 (by decide)
     simp only [pk, nth, pkA, pkB, pkC, pkD, pkE, pkF] at h1
     refine Cl.sl (by kernel_rfl) (p_check hX hL hD h1) fun w H => ?_
     replace H := H.pick [1, 2, 3, 4, 0] 5 (by decide)
     simp only [pk, nth, pkA, pkB, pkC, pkD, pkE, pkF] at H
     rw [hck]
     refine BB.no rfl ?_
     refine Cn.no ?_
     refine ⟨?_⟩
     refine BB.yes (decide_eq_true (Int.ofNat_le.2 hpre.length_le)) ?_
     have hkc := SL.slcLe (H.up2)
     refine Mn.head (te := 36) (sz := 8) (c := kc) (.tmp 56) (.tmp 58) 28 (by rfl) (by kernel_rfl) (by kernel_rfl) ((runL ⟨t, m, progsM X, pl.take n, dr⟩ ((pl.take n).length + 1)).tr.length) (Nat.le_trans hpre.length_le hkc) (by rfl) (by rfl) ?_
     have h1 := H.pick [0, 2, 1, 3, 4] 5 (by decide)
     simp only [pk, nth, pkA, pkB, pkC, pkD, pkE, pkF] at h1
     refine Cl.sl (by kernel_rfl) (l_events (run_len hck2) Reader.slc (evs_take hpre ▸ Reader.slc.take hpre.length_le) h1) fun w H => ?_
     replace H := H.pick [0, 2, 1, 3, 4] 5 (by decide)
     simp only [pk, nth, pkA, pkB, pkC, pkD, pkE, pkF] at H
     refine BB.yes rfl ?_
     refine BB.yes (bne_iff_ne.2 (run_over ⟨t, m, progsM X, pl.take n, dr⟩)) ?_
     refine Cl.sl (by kernel_rfl) (l_hands H) fun w H => ?_
     refine BB.yes rfl ?_
     refine ret1 (fn := Tryz.f5) (.bool true) rfl (by rfl) ?_
     exact ⟨rfl, H.pick [4] 5 (by decide)⟩
    ·skip
     refine Cn.yes ?_
     refine ⟨?_⟩
     refine Cl.sl (by kernel_rfl) (l_hands H) fun w H => ?_
     refine BB.yes rfl ?_
     refine ret1 (fn := Tryz.f5) (.bool true) rfl (by rfl) ?_
     exact ⟨rfl, H.pick [1] 2 (by decide)⟩
   ·by_cases hck2 : checkE ⟨t, m, progsM X, pl.take n, dr⟩ = 0
    ·skip
     refine calls_den (args := [_, _]) Tryz.func5 rfl (Nat.le_of_ble_eq_true (by kernel_rfl)) (by kernel_rfl) ?_
     refine ⟨?_⟩
     refine Nw.as #[.int .i64 t, .int .i64 m, .slice pa X.length pc, .slice la pl.length lc, .slice da dr.length dc] 25 rfl H fun b2 w H => ?_
     refine ⟨?_⟩
     refine H.ldi 0 rfl (v := .int .i64 t) rfl ?_
     refine H.ldi 0 rfl (v := .int .i64 m) rfl ?_
     refine H.ldi 0 rfl (v := .slice pa X.length pc) rfl ?_
     refine H.ldi 0 rfl (v := .slice la pl.length lc) rfl ?_
     refine H.ldi 0 rfl (v := .slice da dr.length dc) rfl ?_
     have h1 := H.pick [1, 0] 2 (by decide)
     simp only [pk, nth, pkA, pkB, pkC, pkD, pkE, pkF] at h1
     refine Cl.by (by kernel_rfl) (l_large hX hL hD h1) ?_
     rintro _ w ⟨bl, rfl, H⟩
     refine ⟨_, rfl, ?_⟩
     replace H := H.pick [1, 0] 2 (by decide)
     simp only [pk, nth, pkA, pkB, pkC, pkD, pkE, pkF] at H
     refine BB.k ?_
     cases bl
     ·skip
      refine BB.no (decide_eq_false (by omega)) ?_
      refine H.ldi 0 rfl (v := .slice la pl.length lc) rfl ?_
      refine BB.no (decide_eq_false (by omega)) ?_
      refine Cn.no ?_
      refine ⟨?_⟩
      refine H.ldi 0 rfl (v := .int .i64 t) rfl ?_
      refine H.ldi 0 rfl (v := .int .i64 m) rfl ?_
      refine H.ldi 0 rfl (v := .slice pa X.length pc) rfl ?_
      refine H.ldi 0 rfl (v := .slice la pl.length lc) rfl ?_
      refine H.ldi 0 rfl (v := .slice da dr.length dc) rfl ?_
      have h1 := H.pick [1, 0] 2 (by decide)
      simp only [pk, nth, pkA, pkB, pkC, pkD, pkE, pkF] at h1
      refine Cl.sl (by kernel_rfl) (p_run_no hX hL hD hck h1) fun w H => ?_
      replace H := H.pick [1, 0] 2 (by decide)
      simp only [pk, nth, pkA, pkB, pkC, pkD, pkE, pkF] at H
      refine ⟨?_⟩
      refine H.ldi 0 rfl (v := .int .i64 t) rfl ?_
      refine H.ldi 0 rfl (v := .int .i64 m) rfl ?_
      refine H.ldi 0 rfl (v := .slice pa X.length pc) rfl ?_
      refine H.ldi 0 rfl (v := .slice la pl.length lc) rfl ?_
      refine H.ldi 0 rfl (v := .slice da dr.length dc) rfl ?_
      refine Nw.as #[.int .i64 0, .int .i64 0, .slice none 0 0, .slice none 0 0, .slice none 0 0] 25 rfl H fun b7 w H => ?_
      refine H.st0 (cs' := #[.int .i64 t, .int .i64 0, .slice none 0 0, .slice none 0 0, .slice none 0 0]) rfl rfl rfl fun w H => ?_
      refine H.st0 (cs' := #[.int .i64 t, .int .i64 m, .slice none 0 0, .slice none 0 0, .slice none 0 0]) rfl rfl rfl fun w H => ?_
      refine H.st0 (cs' := #[.int .i64 t, .int .i64 m, .slice pa X.length pc, .slice none 0 0, .slice none 0 0]) rfl rfl rfl fun w H => ?_
      refine H.st0 (cs' := #[.int .i64 t, .int .i64 m, .slice pa X.length pc, .slice la pl.length lc, .slice none 0 0]) rfl rfl rfl fun w H => ?_
      refine H.st0 (cs' := #[.int .i64 t, .int .i64 m, .slice pa X.length pc, .slice la pl.length lc, .slice da dr.length dc]) rfl rfl rfl fun w H => ?_
      refine ⟨?_⟩
      refine H.ldi 1 rfl (v := .slice la pl.length lc) rfl ?_
      refine Mn.head (te := 3) (sz := 1) (c := lc) (.tmp 31) (.tmp 32) 23 (by rfl) (by kernel_rfl) (by kernel_rfl) n (by omega) (by rfl) (by rfl) ?_
      refine H.st0 (cs' := #[.int .i64 t, .int .i64 m, .slice pa X.length pc, .slice la n lc, .slice da dr.length dc]) rfl rfl rfl fun w H => ?_
      refine ⟨?_⟩
      refine H.ldi 0 rfl (v := .int .i64 t) rfl ?_
      refine H.ldi 0 rfl (v := .int .i64 m) rfl ?_
      refine H.ldi 0 rfl (v := .slice pa X.length pc) rfl ?_
      refine H.ldi 0 rfl (v := .slice la n lc) rfl ?_
      refine H.ldi 0 rfl (v := .slice da dr.length dc) rfl ?_
      have h1 := H.pick [2, 0, 1] 3 (by decide)
      simp only [pk, nth, pkA, pkB, pkC, pkD, pkE, pkF] at h1
      refine Cl.by (by kernel_rfl) (p_runN hpn hX hLn hD hck2 h1) ?_
      rintro _ w ⟨ja, jc, rfl, H⟩
      refine ⟨_, rfl, ?_⟩
      replace H := H.pick [0, 2, 3, 1] 4 (by decide)
      simp only [pk, nth, pkA, pkB, pkC, pkD, pkE, pkF] at H
      refine ⟨?_⟩
      refine H.ldi 2 rfl (v := .int .i64 t) rfl ?_
      refine H.ldi 2 rfl (v := .int .i64 m) rfl ?_
      refine H.ldi 2 rfl (v := .slice pa X.length pc) rfl ?_
      refine H.ldi 2 rfl (v := .slice la pl.length lc) rfl ?_
      refine H.ldi 2 rfl (v := .slice da dr.length dc) rfl ?_
      have h1 := H.pick [3, 0, 1, 2] 4 (by decide)
      simp only [pk, nth, pkA, pkB, pkC, pkD, pkE, pkF] at h1
      refine Cl.sl (by kernel_rfl) (p_check hX hL hD h1) fun w H => ?_
      replace H := H.pick [1, 2, 3, 0] 4 (by decide)
      simp only [pk, nth, pkA, pkB, pkC, pkD, pkE, pkF] at H
      refine BB.yes (bne_iff_ne.2 hck) ?_
      refine Cn.yes ?_
      refine ⟨?_⟩
      refine BB.yes rfl ?_
      refine Cl.sl (by kernel_rfl) (l_hands H) fun w H => ?_
      refine BB.yes rfl ?_
      refine ret1 (fn := Tryz.f5) (.bool true) rfl (by rfl) ?_
      exact ⟨rfl, H.pick [3] 4 (by decide)⟩
     ·skip
      refine Cn.yes ?_
      refine ⟨?_⟩
      refine Cl.sl (by kernel_rfl) (l_hands H) fun w H => ?_
      refine BB.yes rfl ?_
      refine ret1 (fn := Tryz.f5) (.bool true) rfl (by rfl) ?_
      exact ⟨rfl, H.pick [1] 2 (by decide)⟩
    ·skip
     refine calls_den (args := [_, _]) Tryz.func5 rfl (Nat.le_of_ble_eq_true (by kernel_rfl)) (by kernel_rfl) ?_
     refine ⟨?_⟩
     refine Nw.as #[.int .i64 t, .int .i64 m, .slice pa X.length pc, .slice la pl.length lc, .slice da dr.length dc] 25 rfl H fun b2 w H => ?_
     refine ⟨?_⟩
     refine H.ldi 0 rfl (v := .int .i64 t) rfl ?_
     refine H.ldi 0 rfl (v := .int .i64 m) rfl ?_
     refine H.ldi 0 rfl (v := .slice pa X.length pc) rfl ?_
     refine H.ldi 0 rfl (v := .slice la pl.length lc) rfl ?_
     refine H.ldi 0 rfl (v := .slice da dr.length dc) rfl ?_
     have h1 := H.pick [1, 0] 2 (by decide)
     simp only [pk, nth, pkA, pkB, pkC, pkD, pkE, pkF] at h1
     refine Cl.by (by kernel_rfl) (l_large hX hL hD h1) ?_
     rintro _ w ⟨bl, rfl, H⟩
     refine ⟨_, rfl, ?_⟩
     replace H := H.pick [1, 0] 2 (by decide)
     simp only [pk, nth, pkA, pkB, pkC, pkD, pkE, pkF] at H
     refine BB.k ?_
     cases bl
     ·skip
      refine BB.no (decide_eq_false (by omega)) ?_
      refine H.ldi 0 rfl (v := .slice la pl.length lc) rfl ?_
      refine BB.no (decide_eq_false (by omega)) ?_
      refine Cn.no ?_
      refine ⟨?_⟩
      refine H.ldi 0 rfl (v := .int .i64 t) rfl ?_
      refine H.ldi 0 rfl (v := .int .i64 m) rfl ?_
      refine H.ldi 0 rfl (v := .slice pa X.length pc) rfl ?_
      refine H.ldi 0 rfl (v := .slice la pl.length lc) rfl ?_
      refine H.ldi 0 rfl (v := .slice da dr.length dc) rfl ?_
      have h1 := H.pick [1, 0] 2 (by decide)
      simp only [pk, nth, pkA, pkB, pkC, pkD, pkE, pkF] at h1
      refine Cl.sl (by kernel_rfl) (p_run_no hX hL hD hck h1) fun w H => ?_
      replace H := H.pick [1, 0] 2 (by decide)
      simp only [pk, nth, pkA, pkB, pkC, pkD, pkE, pkF] at H
      refine ⟨?_⟩
      refine H.ldi 0 rfl (v := .int .i64 t) rfl ?_
      refine H.ldi 0 rfl (v := .int .i64 m) rfl ?_
      refine H.ldi 0 rfl (v := .slice pa X.length pc) rfl ?_
      refine H.ldi 0 rfl (v := .slice la pl.length lc) rfl ?_
      refine H.ldi 0 rfl (v := .slice da dr.length dc) rfl ?_
      refine Nw.as #[.int .i64 0, .int .i64 0, .slice none 0 0, .slice none 0 0, .slice none 0 0] 25 rfl H fun b7 w H => ?_
      refine H.st0 (cs' := #[.int .i64 t, .int .i64 0, .slice none 0 0, .slice none 0 0, .slice none 0 0]) rfl rfl rfl fun w H => ?_
      refine H.st0 (cs' := #[.int .i64 t, .int .i64 m, .slice none 0 0, .slice none 0 0, .slice none 0 0]) rfl rfl rfl fun w H => ?_
      refine H.st0 (cs' := #[.int .i64 t, .int .i64 m, .slice pa X.length pc, .slice none 0 0, .slice none 0 0]) rfl rfl rfl fun w H => ?_
      refine H.st0 (cs' := #[.int .i64 t, .int .i64 m, .slice pa X.length pc, .slice la pl.length lc, .slice none 0 0]) rfl rfl rfl fun w H => ?_
      refine H.st0 (cs' := #[.int .i64 t, .int .i64 m, .slice pa X.length pc, .slice la pl.length lc, .slice da dr.length dc]) rfl rfl rfl fun w H => ?_
      refine ⟨?_⟩
      refine H.ldi 1 rfl (v := .slice la pl.length lc) rfl ?_
      refine Mn.head (te := 3) (sz := 1) (c := lc) (.tmp 31) (.tmp 32) 23 (by rfl) (by kernel_rfl) (by kernel_rfl) n (by omega) (by rfl) (by rfl) ?_
      refine H.st0 (cs' := #[.int .i64 t, .int .i64 m, .slice pa X.length pc, .slice la n lc, .slice da dr.length dc]) rfl rfl rfl fun w H => ?_
      refine ⟨?_⟩
      refine H.ldi 0 rfl (v := .int .i64 t) rfl ?_
      refine H.ldi 0 rfl (v := .int .i64 m) rfl ?_
      refine H.ldi 0 rfl (v := .slice pa X.length pc) rfl ?_
      refine H.ldi 0 rfl (v := .slice la n lc) rfl ?_
      refine H.ldi 0 rfl (v := .slice da dr.length dc) rfl ?_
      have h1 := H.pick [2, 0, 1] 3 (by decide)
      simp only [pk, nth, pkA, pkB, pkC, pkD, pkE, pkF] at h1
      refine Cl.sl (by kernel_rfl) (p_runN_no hpn hX hLn hD hck2 h1) fun w H => ?_
      replace H := H.pick [1, 2, 0] 3 (by decide)
      simp only [pk, nth, pkA, pkB, pkC, pkD, pkE, pkF] at H
      refine ⟨?_⟩
      refine H.ldi 1 rfl (v := .int .i64 t) rfl ?_
      refine H.ldi 1 rfl (v := .int .i64 m) rfl ?_
      refine H.ldi 1 rfl (v := .slice pa X.length pc) rfl ?_
      refine H.ldi 1 rfl (v := .slice la pl.length lc) rfl ?_
      refine H.ldi 1 rfl (v := .slice da dr.length dc) rfl ?_
      have h1 := H.pick [2, 0, 1] 3 (by decide)
      simp only [pk, nth, pkA, pkB, pkC, pkD, pkE, pkF] at h1
      refine Cl.sl (by kernel_rfl) (p_check hX hL hD h1) fun w H => ?_
      replace H := H.pick [1, 2, 0] 3 (by decide)
      simp only [pk, nth, pkA, pkB, pkC, pkD, pkE, pkF] at H
      refine BB.yes (bne_iff_ne.2 hck) ?_
      refine Cn.yes ?_
      refine ⟨?_⟩
      refine BB.yes rfl ?_
      refine Cl.sl (by kernel_rfl) (l_hands H) fun w H => ?_
      refine BB.yes rfl ?_
      refine ret1 (fn := Tryz.f5) (.bool true) rfl (by rfl) ?_
      exact ⟨rfl, H.pick [2] 3 (by decide)⟩
     ·skip
      refine Cn.yes ?_
      refine ⟨?_⟩
      refine Cl.sl (by kernel_rfl) (l_hands H) fun w H => ?_
      refine BB.yes rfl ?_
      refine ret1 (fn := Tryz.f5) (.bool true) rfl (by rfl) ?_
      exact ⟨rfl, H.pick [1] 2 (by decide)⟩
theorem loomBegins_walk {w : World} {v : Value} {s : ScrX} (y : ScrIn w v s) (n : Int) (hn : (Lit.int .i64 n).wf = true) : Calls Tryz.prog 5 #[v, .int .i64 n] w fun e w' => e = .returned (.bool true) ∧ Frm Nil w w' := by
 have hv := y.val
 subst hv
 refine (l_begins (F := []) (fun h => Old.scr y.progs h) (Old.rd y.plan) (Old.rd y.draws) y.planc n (SL.start w)).mono ?_
 rintro e w' ⟨rfl, H⟩
 exact ⟨rfl, H.old⟩
end Go.Proofs.YtcgajljbahbhdaaGreat
