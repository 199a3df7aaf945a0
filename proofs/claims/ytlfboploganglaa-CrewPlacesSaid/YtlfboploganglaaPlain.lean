/- The plain comparisons that statements share: what they answer. -/
import Derived.Test.YtlfboploganglaaBase
import Derived.Deep.QuietTactic
import Derived.BigQuiet
namespace Go.Proofs.Ytlfboploganglaa
set_option linter.unusedVariables false
set_option linter.unusedSimpArgs false
open Go.RowKit

theorem take_snoc (l : List Int) (k : Nat) (h : k < l.length) : l.take (k + 1) = l.take k ++ [l.getD k 0] := by
  rw [List.take_succ_eq_append_getElem h, List.getD_eq_getElem?_getD, List.getElem?_eq_getElem h]
  rfl

theorem ints_ne (xs ys : List Int) (k : Nat) (hx : k < xs.length) (hy : k < ys.length) (h : xs.getD k 0 ≠ ys.getD k 0) : decide (xs = ys) = false := by
  rw [decide_eq_false_iff_not]
  rintro rfl
  exact h rfl

set_option maxHeartbeats 400000 in
theorem ints_any (a b : Option Addr) (n m c d : Nat) (xs ys : List Int) (w : World) (ha : Rd w 1 a n (ints xs)) (hb : Rd w 1 b m (ints ys)) :
    Calls Try.prog 23 #[.slice a n c, .slice b m d] w fun e w' => e = .returned (.bool (decide (xs = ys))) ∧ Frm Nil w w' := by
  have hn := ha.2.1
  have hm := hb.2.1
  have la := ha.int
  have lb := hb.int
  unfold maxLen at hn hm
  have LA := Lib.hid la
  have LB := Lib.hid lb
  clear la lb
  go_enter Try.func23, Try.ntmps23
  go_wp2
  go_loopw [8] (fun i wr => ∃ k : Nat, k ≤ n ∧ k ≤ m ∧ i = .int .i64 k ∧ xs.take k = ys.take k ∧ ∃ j, wr = w.drewN j) (fun i _ => n - (intOf i).toNat)
  case atStart => exact ⟨0, Nat.zero_le _, Nat.zero_le _, rfl, by simp, 0, rfl⟩
  case round =>
    obtain ⟨k, hk, hkm, rfl, heq, j, rfl⟩ := hrel
    by_cases hlt : k < n
    · obtain ⟨b1, o1, rfl, hc1⟩ := ha.int_at (by omega)
      have h1 := hc1 k hlt
      by_cases hlm : k < m
      · obtain ⟨b2, o2, rfl, hc2⟩ := hb.int_at (by omega)
        have h2 := hc2 k hlm
        have HE := Lib.hid heq
        clear heq hc1 hc2
        have hg : decide ((m : Int) ≤ (k : Int)) = false := by simp; omega
        obtain ⟨x, hx⟩ : ∃ x, xs.getD k 0 = x := ⟨_, rfl⟩
        obtain ⟨y, hy⟩ : ∃ y, ys.getD k 0 = y := ⟨_, rfl⟩
        rw [hx] at h1
        rw [hy] at h2
        have HX := Lib.hid hx
        have HY := Lib.hid hy
        clear hx hy
        by_cases hv : x = y
        · have hb0 : (x != y) = false := by simp [hv]
          have HV := Lib.hid hv
          clear hv
          go_wp2
          go_quiet (fail)
          go_wp2
          go_roundw
          case rel => exact ⟨k + 1, by omega, by omega, by go_num, by rw [take_snoc xs k (by rw [LA.out]; exact hlt), take_snoc ys k (by rw [LB.out]; exact hlm), HX.out, HY.out, HV.out, HE.out], _, rfl⟩
          case measure => simp [intOf]; omega
        · have hb0 : (x != y) = true := by simp [hv]
          have HV := Lib.hid hv
          clear hv
          go_wp2
          go_quiet (fail)
          go_wp2
          go_ret
          exact ⟨ret_bool (ints_ne xs ys k (by rw [LA.out]; exact hlt) (by rw [LB.out]; exact hlm) (by rw [HX.out, HY.out]; exact HV.out)).symm, (by repeat (first | exact Frm.refl _ _ | apply Frm.drewN))⟩
      · have hg : decide ((m : Int) ≤ (k : Int)) = true := by simp; omega
        go_wp2
        go_quiet (fail)
        go_wp2
        go_ret
        exact ⟨ret_bool (by symm; rw [decide_eq_false_iff_not]; rintro rfl; have := LA.out; have := LB.out; omega), (by repeat (first | exact Frm.refl _ _ | apply Frm.drewN))⟩
    · go_wp2
      go_ret
      have e1 := LA.out
      have e2 := LB.out
      have hkn : k = n := by omega
      refine ⟨ret_bool ?_, (by repeat (first | exact Frm.refl _ _ | apply Frm.drewN))⟩
      rw [List.take_of_length_le (by omega)] at heq
      by_cases hnm : n = m
      · rw [List.take_of_length_le (by omega)] at heq
        simp [heq, hnm]
      · rw [show decide (xs = ys) = false by rw [decide_eq_false_iff_not]; rintro rfl; omega]
        simp; omega

end Go.Proofs.Ytlfboploganglaa
