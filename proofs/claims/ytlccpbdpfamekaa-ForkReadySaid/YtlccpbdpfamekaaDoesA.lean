/- Layer 9, the law's words: ref, got, same. -/
import Derived.Test.YtlccpbdpfamekaaRefF
import Derived.Deep.RegionHeld3
namespace Go.Proofs.Ytlccpbdpfamekaa
set_option linter.unusedVariables false
set_option linter.unusedSimpArgs false
open Go.RowKit

section
variable {w : World} {F : List Piece} {g h : Nat} {x : PipeM}

set_option maxHeartbeats 400000 in
theorem l_ref (m : Wtr) (w : World) : Calls Try.prog 46 #[m.agg] w fun e w' => e = .returned m.agg ∧ Frm Nil w w' := by
  obtain ⟨mg, mc, mv⟩ := m
  unfold Wtr.agg
  dsimp only
  go_enter Try.func46, Try.ntmps46
  go_wp2_with fail
  refine bodyPost_ret (v := .agg #[.int .i64 mg, .int .i64 mc, .int .i64 mv]) (by simp [results, Try.results46, go_sem]) rfl ⟨rfl, ?_⟩
  exact ((Frm.refl _ _).alloc _).alloc _

set_option maxHeartbeats 400000 in
theorem l_got (y : GotM) (w : World) : Calls Try.prog 43 #[y.agg] w fun e w' => e = .returned y.agg ∧ Frm Nil w w' := by
  have K := l_ref y.mate
  obtain ⟨y1, y2, y3, y4, ⟨mg, mc, mv⟩⟩ := y
  unfold GotM.agg
  unfold Wtr.agg at K
  dsimp only at K ⊢
  have HK := Lib.hid K
  clear K
  have H := SL.start w
  go_enter Try.func43, Try.ntmps43
  go_wp2_with fail
  have H1 := (H.alloc (.cells #[.bool y1, .bool y2, .bool y3, .int .i64 y4, .int .i64 mg, .int .i64 mc, .int .i64 mv] 49)).alloc (.cells #[.bool false, .bool false, .bool false, .int .i64 0, .int .i64 0, .int .i64 0, .int .i64 0] 93)
  rw [size_alloc] at H1
  obtain ⟨b, hb⟩ : ∃ b, w.heap.size = b := ⟨_, rfl⟩
  obtain ⟨r, hr⟩ : ∃ r, b + 1 = r := ⟨_, rfl⟩
  obtain ⟨W, hW⟩ : ∃ W, (w.alloc (.cells #[.bool y1, .bool y2, .bool y3, .int .i64 y4, .int .i64 mg, .int .i64 mc, .int .i64 mv] 49)).alloc (.cells #[.bool false, .bool false, .bool false, .int .i64 0, .int .i64 0, .int .i64 0, .int .i64 0] 93) = W := ⟨_, rfl⟩
  rw [hW, hb, hr] at H1
  rw [hW, hb, hr]
  clear hW hb hr
  obtain ⟨r0, r1, r2, r3, r4, r5, r6, rf⟩ := box7 H1.at0
  obtain ⟨b0, b1, b2, b3, b4, b5, b6, bf⟩ := box7 H1.at1
  have rl := lt_of_block H1.at0
  have bl := lt_of_block H1.at1
  obtain ⟨n1, n2⟩ := H1.ne 0 1 (by decide) rfl rfl
  go_region_held3 (fun w' => w'.cell? ⟨b, 0, none⟩ = some (.bool y1) ∧ w'.cell? ⟨b, 1, none⟩ = some (.bool y2) ∧ w'.cell? ⟨b, 2, none⟩ = some (.bool y3) ∧ w'.cell? ⟨b, 3, none⟩ = some (.int .i64 y4) ∧ w'.cell? ⟨b, 4, none⟩ = some (.int .i64 mg) ∧ w'.cell? ⟨b, 5, none⟩ = some (.int .i64 mc) ∧ w'.cell? ⟨b, 6, none⟩ = some (.int .i64 mv)) (first | go_keep | (go_split_ands; refine ⟨?_, ?_, ?_, ?_, ?_, ?_, ?_⟩ <;> exact Frm.out (by assumption) (by assumption) (fun h => h))) ((go_at_call 46; refine (HK.out _).mono ?_; rintro e w1 ⟨rfl, f1⟩; have H2 := H1.later ((Frm.refl Nil W).drewN 1 |>.then f1); obtain ⟨r0', r1', r2', r3', r4', r5', r6', rf'⟩ := box7 H2.at0; have rl' := lt_of_block H2.at0))
  all_goals
    go_wp2_with fail
    refine bodyPost_ret (v := .agg #[.bool y1, .bool y2, .bool y3, .int .i64 y4, .int .i64 mg, .int .i64 mc, .int .i64 mv]) (by simp [results, Try.results43, go_sem, r0', r1', r2', r3', r4', r5', r6', rl', n1, n2]) rfl ⟨rfl, SL.old (F := []) (SL.tl (A := any r) ?_)⟩
    repeat (first | with_reducible refine SL.scr ?_ _ _ | with_reducible refine SL.drewN ?_ _ | with_reducible refine SL.drew ?_ | with_reducible exact H2.drop1.toAny)

set_option maxRecDepth 100000 in
set_option maxHeartbeats 400000 in
theorem l_same {A B : Piece} {a b : Option Addr} {ca cb : Nat} {L : List Wtr} {n : Nat} (hn : n = L.length) (hA : Reader A 3 a n (L.flatMap Wtr.cells)) (hB : Reader B 3 b n (L.flatMap Wtr.cells)) (H : SL w (A :: B :: F)) :
    Calls Try.prog 22 #[.slice a n ca, .slice b n cb] w fun e w' => e = .returned (.bool true) ∧ SL w' (A :: B :: F) := by
  subst hn
  have hm := (H.read hA).2.1
  unfold maxLen at hm
  go_enter Try.func22, Try.ntmps22
  go_wp2_with fail
  go_loopw [13] (fun j wr => ∃ k : Nat, k ≤ L.length ∧ j = .int .i64 k ∧ SL wr (A :: B :: F)) (fun j _ => L.length - (intOf j).toNat)
  case atStart => exact ⟨0, Nat.zero_le _, rfl, H⟩
  case round =>
    obtain ⟨k, hk, rfl, HR⟩ := hrel
    by_cases hlt : k < L.length
    · obtain ⟨b1, o1, e1, d0, d1, d2⟩ := wtr_at (HR.read hA) k hlt
      obtain ⟨b2, o2, e2, c0, c1, c2⟩ := wtr_at (HR.up1.read hB) k hlt
      subst e1 e2
      obtain ⟨m, hm⟩ : ∃ m, L[k] = m := ⟨_, rfl⟩
      rw [hm] at d0 d1 d2 c0 c1 c2
      clear hm
      have K := l_ref m
      obtain ⟨mg, mc, mv⟩ := m
      unfold Wtr.agg at K
      dsimp only at d0 d1 d2 c0 c1 c2 K
      have HK := Lib.hid K
      clear K
      go_wp2_with fail
      go_region_held3 (fun w' => w'.cell? ⟨b1, o1 + k * 3, none⟩ = some (.int .i64 mg) ∧ w'.cell? ⟨b1, o1 + k * 3 + 1, none⟩ = some (.int .i64 mc) ∧ w'.cell? ⟨b1, o1 + k * 3 + 2, none⟩ = some (.int .i64 mv) ∧ w'.cell? ⟨b2, o2 + k * 3, none⟩ = some (.int .i64 mg) ∧ w'.cell? ⟨b2, o2 + k * 3 + 1, none⟩ = some (.int .i64 mc) ∧ w'.cell? ⟨b2, o2 + k * 3 + 2, none⟩ = some (.int .i64 mv)) (first | go_keep | (go_split_ands; refine ⟨?_, ?_, ?_, ?_, ?_, ?_⟩ <;> exact Frm.out (by assumption) (by assumption) (fun h => h))) ((go_at_call 46; refine (HK.out _).mono ?_; rintro e w1 ⟨rfl, f1⟩))
      all_goals
        go_wp2_with fail
        go_roundw
        case rel => exact ⟨k + 1, by omega, by go_num, HR.later (((Frm.refl Nil wr).drewN 1).then f1)⟩
        case measure => simp [intOf]; omega
    · go_wp2_with fail
      go_ret
      exact ⟨rfl, HR⟩
end

end Go.Proofs.Ytlccpbdpfamekaa
