/- Texts of the proof, several in one file: Loom10, Loom11, Loom12. -/
import Derived.Test.YtchkaaeoffmjnaaDoorE09
namespace Go.Proofs.YtchkaaeoffmjnaaDoor
set_option linter.unusedVariables false
set_option linter.unusedSimpArgs false
open Go.RowKit
set_option maxRecDepth 100000
theorem r_within04 {w : World} {F : List Piece} (n c np : Int) (H : SL w F) : Calls Tryd.prog 85 #[.int .i64 n, .int .u8 c, .int .i64 np] w fun o w' => o = .returned (.bool (withinF n c np)) ∧ SL w' F := by
 refine calls_den (args := [_, _, _]) Tryd.func85 rfl (Nat.le_of_ble_eq_true (by kernel_rfl)) (by kernel_rfl) ?_
 refine ⟨?_⟩
 refine ⟨?_⟩
 refine ⟨?_⟩
 refine ⟨?_⟩
 refine BB.vr fun q1 e1 => ?_
 cases q1
 ·skip
  have h1 := beq_eq_false_iff_ne.1 e1
  refine Cn.no ?_
  refine ⟨?_⟩
  refine BB.vr fun q2 e2 => ?_
  cases q2
  ·skip
   have h2 := beq_eq_false_iff_ne.1 e2
   refine Cn.no ?_
   refine ⟨?_⟩
   refine BB.vr fun q3 e3 => ?_
   cases q3
   ·skip
    have h3 := beq_eq_false_iff_ne.1 e3
    refine Cn.no ?_
    refine ⟨?_⟩
    refine BB.vr fun q4 e4 => ?_
    cases q4
    ·skip
     have h4 := beq_eq_false_iff_ne.1 e4
     refine Cn.no ?_
     refine ⟨?_⟩
     refine BB.vr fun q5 e5 => ?_
     cases q5
     ·skip
      have h5 := beq_eq_false_iff_ne.1 e5
      refine Cn.no ?_
      refine ⟨?_⟩
      refine BB.k ?_
      refine ret1 (fn := Tryd.f85) (.bool (n == 0)) rfl (by rfl) ?_
      have hc : withinF n c np = (n == 0) := by unfold withinF; first | (simp [*]; done) | (simp [*]; omega)
      rw [hc]
      exact ⟨rfl, H⟩
     ·skip
      have h5 := eq_of_beq e5
      refine Cn.yes ?_
      refine ⟨?_⟩
      refine BB.vr fun q6 e6 => ?_
      cases q6
      ·skip
       have h6 := of_decide_eq_false e6
       refine ret1 (fn := Tryd.f85) (.bool false) rfl (by rfl) ?_
       have hc : withinF n c np = (false) := by unfold withinF; first | (simp [*]; done) | (simp [*]; omega)
       rw [hc]
       exact ⟨rfl, H⟩
      ·skip
       have h6 := of_decide_eq_true e6
       refine BB.k ?_
       refine ret1 (fn := Tryd.f85) (.bool (decide (n ≤ 99))) rfl (by rfl) ?_
       have hc : withinF n c np = (decide (n ≤ 99)) := by unfold withinF; first | (simp [*]; done) | (simp [*]; omega)
       rw [hc]
       exact ⟨rfl, H⟩
    ·skip
     have h4 := eq_of_beq e4
     refine Cn.yes ?_
     refine ⟨?_⟩
     refine BB.vr fun q7 e7 => ?_
     cases q7
     ·skip
      have h7 := of_decide_eq_false e7
      refine ret1 (fn := Tryd.f85) (.bool false) rfl (by rfl) ?_
      have hc : withinF n c np = (false) := by unfold withinF; first | (simp [*]; done) | (simp [*]; omega)
      rw [hc]
      exact ⟨rfl, H⟩
     ·skip
      have h7 := of_decide_eq_true e7
      refine BB.k ?_
      refine ret1 (fn := Tryd.f85) (.bool (decide (n ≤ 4))) rfl (by rfl) ?_
      have hc : withinF n c np = (decide (n ≤ 4)) := by unfold withinF; first | (simp [*]; done) | (simp [*]; omega)
      rw [hc]
      exact ⟨rfl, H⟩
   ·skip
    have h3 := eq_of_beq e3
    refine Cn.yes ?_
    refine ⟨?_⟩
    refine BB.vr fun q8 e8 => ?_
    cases q8
    ·skip
     have h8 := of_decide_eq_false e8
     refine ret1 (fn := Tryd.f85) (.bool false) rfl (by rfl) ?_
     have hc : withinF n c np = (false) := by unfold withinF; first | (simp [*]; done) | (simp [*]; omega)
     rw [hc]
     exact ⟨rfl, H⟩
    ·skip
     have h8 := of_decide_eq_true e8
     refine BB.k ?_
     refine ret1 (fn := Tryd.f85) (.bool (decide (n < 8))) rfl (by rfl) ?_
     have hc : withinF n c np = (decide (n < 8)) := by unfold withinF; first | (simp [*]; done) | (simp [*]; omega)
     rw [hc]
     exact ⟨rfl, H⟩
  ·skip
   have h2 := eq_of_beq e2
   refine Cn.yes ?_
   refine Cn.yes ?_
   refine ⟨?_⟩
   refine BB.vr fun q9 e9 => ?_
   cases q9
   ·skip
    have h9 := of_decide_eq_false e9
    refine ret1 (fn := Tryd.f85) (.bool false) rfl (by rfl) ?_
    have hc : withinF n c np = (false) := by unfold withinF; first | (simp [*]; done) | (simp [*]; omega)
    rw [hc]
    exact ⟨rfl, H⟩
   ·skip
    have h9 := of_decide_eq_true e9
    refine BB.k ?_
    refine ret1 (fn := Tryd.f85) (.bool (decide (n < 8))) rfl (by rfl) ?_
    have hc : withinF n c np = (decide (n < 8)) := by unfold withinF; first | (simp [*]; done) | (simp [*]; omega)
    rw [hc]
    exact ⟨rfl, H⟩
 ·skip
  have h1 := eq_of_beq e1
  refine Cn.yes ?_
  refine ⟨?_⟩
  refine BB.vr fun q10 e10 => ?_
  cases q10
  ·skip
   have h10 := of_decide_eq_false e10
   refine ret1 (fn := Tryd.f85) (.bool false) rfl (by rfl) ?_
   have hc : withinF n c np = (false) := by unfold withinF; first | (simp [*]; done) | (simp [*]; omega)
   rw [hc]
   exact ⟨rfl, H⟩
  ·skip
   have h10 := of_decide_eq_true e10
   refine BB.k ?_
   refine ret1 (fn := Tryd.f85) (.bool (decide (n < np))) rfl (by rfl) ?_
   have hc : withinF n c np = (decide (n < np)) := by unfold withinF; first | (simp [*]; done) | (simp [*]; omega)
   rw [hc]
   exact ⟨rfl, H⟩
theorem r_row04 {w : World} {F : List Piece} {k : Int} (h1 : 1 ≤ k) (h9 : k ≤ 9) (H : SL w F) : Calls Tryd.prog 84 #[.int .i64 k] w fun o w' => ∃ c0 c1 : UInt8, o = .returned (.string { data := #[c0, c1] }) ∧ ((c0.toNat : Int), (c1.toNat : Int)) = rowF k ∧ SL w' F := by
 have hk : k = 1 ∨ k = 2 ∨ k = 3 ∨ k = 4 ∨ k = 5 ∨ k = 6 ∨ k = 7 ∨ k = 8 ∨ k = 9 := by omega
 rcases hk with rfl | rfl | rfl | rfl | rfl | rfl | rfl | rfl | rfl

 ·skip
  refine calls_den (args := [_]) Tryd.func84 rfl (Nat.le_of_ble_eq_true (by kernel_rfl)) (by kernel_rfl) ?_
  refine ⟨?_⟩
  refine ⟨?_⟩
  refine Mn.new (fun b => .slice (some ⟨b, 0, none⟩) 10 10) #[.string { data := #[] }, .string { data := #[112, 46] }, .string { data := #[99, 109] }, .string { data := #[99, 118] }, .string { data := #[99, 46] }, .string { data := #[99, 46] }, .string { data := #[46, 46] }, .string { data := #[120, 46] }, .string { data := #[120, 46] }, .string { data := #[46, 46] }] 9 (by kernel_rfl) H fun b3 w H => ?_
  refine Ix.at0 1 1 (by kernel_rfl) rfl (by decide) ?_
  refine H.ldi 0 rfl (v := .string { data := #[112, 46] }) rfl ?_
  refine ret1 (fn := Tryd.f84) (.string { data := #[112, 46] }) rfl (by rfl) ?_
  exact ⟨_, _, rfl, by decide, H.tl⟩
 ·skip
  refine calls_den (args := [_]) Tryd.func84 rfl (Nat.le_of_ble_eq_true (by kernel_rfl)) (by kernel_rfl) ?_
  refine ⟨?_⟩
  refine ⟨?_⟩
  refine Mn.new (fun b => .slice (some ⟨b, 0, none⟩) 10 10) #[.string { data := #[] }, .string { data := #[112, 46] }, .string { data := #[99, 109] }, .string { data := #[99, 118] }, .string { data := #[99, 46] }, .string { data := #[99, 46] }, .string { data := #[46, 46] }, .string { data := #[120, 46] }, .string { data := #[120, 46] }, .string { data := #[46, 46] }] 9 (by kernel_rfl) H fun b3 w H => ?_
  refine Ix.at0 2 1 (by kernel_rfl) rfl (by decide) ?_
  refine H.ldi 0 rfl (v := .string { data := #[99, 109] }) rfl ?_
  refine ret1 (fn := Tryd.f84) (.string { data := #[99, 109] }) rfl (by rfl) ?_
  exact ⟨_, _, rfl, by decide, H.tl⟩
 ·skip
  refine calls_den (args := [_]) Tryd.func84 rfl (Nat.le_of_ble_eq_true (by kernel_rfl)) (by kernel_rfl) ?_
  refine ⟨?_⟩
  refine ⟨?_⟩
  refine Mn.new (fun b => .slice (some ⟨b, 0, none⟩) 10 10) #[.string { data := #[] }, .string { data := #[112, 46] }, .string { data := #[99, 109] }, .string { data := #[99, 118] }, .string { data := #[99, 46] }, .string { data := #[99, 46] }, .string { data := #[46, 46] }, .string { data := #[120, 46] }, .string { data := #[120, 46] }, .string { data := #[46, 46] }] 9 (by kernel_rfl) H fun b3 w H => ?_
  refine Ix.at0 3 1 (by kernel_rfl) rfl (by decide) ?_
  refine H.ldi 0 rfl (v := .string { data := #[99, 118] }) rfl ?_
  refine ret1 (fn := Tryd.f84) (.string { data := #[99, 118] }) rfl (by rfl) ?_
  exact ⟨_, _, rfl, by decide, H.tl⟩
 ·skip
  refine calls_den (args := [_]) Tryd.func84 rfl (Nat.le_of_ble_eq_true (by kernel_rfl)) (by kernel_rfl) ?_
  refine ⟨?_⟩
  refine ⟨?_⟩
  refine Mn.new (fun b => .slice (some ⟨b, 0, none⟩) 10 10) #[.string { data := #[] }, .string { data := #[112, 46] }, .string { data := #[99, 109] }, .string { data := #[99, 118] }, .string { data := #[99, 46] }, .string { data := #[99, 46] }, .string { data := #[46, 46] }, .string { data := #[120, 46] }, .string { data := #[120, 46] }, .string { data := #[46, 46] }] 9 (by kernel_rfl) H fun b3 w H => ?_
  refine Ix.at0 4 1 (by kernel_rfl) rfl (by decide) ?_
  refine H.ldi 0 rfl (v := .string { data := #[99, 46] }) rfl ?_
  refine ret1 (fn := Tryd.f84) (.string { data := #[99, 46] }) rfl (by rfl) ?_
  exact ⟨_, _, rfl, by decide, H.tl⟩
 ·skip
  refine calls_den (args := [_]) Tryd.func84 rfl (Nat.le_of_ble_eq_true (by kernel_rfl)) (by kernel_rfl) ?_
  refine ⟨?_⟩
  refine ⟨?_⟩
  refine Mn.new (fun b => .slice (some ⟨b, 0, none⟩) 10 10) #[.string { data := #[] }, .string { data := #[112, 46] }, .string { data := #[99, 109] }, .string { data := #[99, 118] }, .string { data := #[99, 46] }, .string { data := #[99, 46] }, .string { data := #[46, 46] }, .string { data := #[120, 46] }, .string { data := #[120, 46] }, .string { data := #[46, 46] }] 9 (by kernel_rfl) H fun b3 w H => ?_
  refine Ix.at0 5 1 (by kernel_rfl) rfl (by decide) ?_
  refine H.ldi 0 rfl (v := .string { data := #[99, 46] }) rfl ?_
  refine ret1 (fn := Tryd.f84) (.string { data := #[99, 46] }) rfl (by rfl) ?_
  exact ⟨_, _, rfl, by decide, H.tl⟩
 ·skip
  refine calls_den (args := [_]) Tryd.func84 rfl (Nat.le_of_ble_eq_true (by kernel_rfl)) (by kernel_rfl) ?_
  refine ⟨?_⟩
  refine ⟨?_⟩
  refine Mn.new (fun b => .slice (some ⟨b, 0, none⟩) 10 10) #[.string { data := #[] }, .string { data := #[112, 46] }, .string { data := #[99, 109] }, .string { data := #[99, 118] }, .string { data := #[99, 46] }, .string { data := #[99, 46] }, .string { data := #[46, 46] }, .string { data := #[120, 46] }, .string { data := #[120, 46] }, .string { data := #[46, 46] }] 9 (by kernel_rfl) H fun b3 w H => ?_
  refine Ix.at0 6 1 (by kernel_rfl) rfl (by decide) ?_
  refine H.ldi 0 rfl (v := .string { data := #[46, 46] }) rfl ?_
  refine ret1 (fn := Tryd.f84) (.string { data := #[46, 46] }) rfl (by rfl) ?_
  exact ⟨_, _, rfl, by decide, H.tl⟩
 ·skip
  refine calls_den (args := [_]) Tryd.func84 rfl (Nat.le_of_ble_eq_true (by kernel_rfl)) (by kernel_rfl) ?_
  refine ⟨?_⟩
  refine ⟨?_⟩
  refine Mn.new (fun b => .slice (some ⟨b, 0, none⟩) 10 10) #[.string { data := #[] }, .string { data := #[112, 46] }, .string { data := #[99, 109] }, .string { data := #[99, 118] }, .string { data := #[99, 46] }, .string { data := #[99, 46] }, .string { data := #[46, 46] }, .string { data := #[120, 46] }, .string { data := #[120, 46] }, .string { data := #[46, 46] }] 9 (by kernel_rfl) H fun b3 w H => ?_
  refine Ix.at0 7 1 (by kernel_rfl) rfl (by decide) ?_
  refine H.ldi 0 rfl (v := .string { data := #[120, 46] }) rfl ?_
  refine ret1 (fn := Tryd.f84) (.string { data := #[120, 46] }) rfl (by rfl) ?_
  exact ⟨_, _, rfl, by decide, H.tl⟩
 ·skip
  refine calls_den (args := [_]) Tryd.func84 rfl (Nat.le_of_ble_eq_true (by kernel_rfl)) (by kernel_rfl) ?_
  refine ⟨?_⟩
  refine ⟨?_⟩
  refine Mn.new (fun b => .slice (some ⟨b, 0, none⟩) 10 10) #[.string { data := #[] }, .string { data := #[112, 46] }, .string { data := #[99, 109] }, .string { data := #[99, 118] }, .string { data := #[99, 46] }, .string { data := #[99, 46] }, .string { data := #[46, 46] }, .string { data := #[120, 46] }, .string { data := #[120, 46] }, .string { data := #[46, 46] }] 9 (by kernel_rfl) H fun b3 w H => ?_
  refine Ix.at0 8 1 (by kernel_rfl) rfl (by decide) ?_
  refine H.ldi 0 rfl (v := .string { data := #[120, 46] }) rfl ?_
  refine ret1 (fn := Tryd.f84) (.string { data := #[120, 46] }) rfl (by rfl) ?_
  exact ⟨_, _, rfl, by decide, H.tl⟩
 ·skip
  refine calls_den (args := [_]) Tryd.func84 rfl (Nat.le_of_ble_eq_true (by kernel_rfl)) (by kernel_rfl) ?_
  refine ⟨?_⟩
  refine ⟨?_⟩
  refine Mn.new (fun b => .slice (some ⟨b, 0, none⟩) 10 10) #[.string { data := #[] }, .string { data := #[112, 46] }, .string { data := #[99, 109] }, .string { data := #[99, 118] }, .string { data := #[99, 46] }, .string { data := #[99, 46] }, .string { data := #[46, 46] }, .string { data := #[120, 46] }, .string { data := #[120, 46] }, .string { data := #[46, 46] }] 9 (by kernel_rfl) H fun b3 w H => ?_
  refine Ix.at0 9 1 (by kernel_rfl) rfl (by decide) ?_
  refine H.ldi 0 rfl (v := .string { data := #[46, 46] }) rfl ?_
  refine ret1 (fn := Tryd.f84) (.string { data := #[46, 46] }) rfl (by rfl) ?_
  exact ⟨_, _, rfl, by decide, H.tl⟩
section
variable {np k a b : Int} {cs : List CaseM} {df : Bool}
theorem opE_w (h1 : ¬ (np < 1 ∨ 8 < np ∨ k < 1 ∨ 9 < k)) (h2 : ¬ 4 < cs.length) (h3 : ¬ (withinF a (rowF k).1 np = true ∧ withinF b (rowF k).2 np = true)) : opE np ⟨k, a, b, cs, df⟩ = 4 := by
 unfold opE
 rw [if_neg h1, if_neg h2, if_pos h3]
theorem opE_s (h1 : ¬ (np < 1 ∨ 8 < np ∨ k < 1 ∨ 9 < k)) (h2 : ¬ 4 < cs.length) (h4 : k ≠ 6 ∧ (cs.length ≠ 0 ∨ df = true)) : opE np ⟨k, a, b, cs, df⟩ = 4 := by
 unfold opE
 dsimp only
 rw [if_neg h1, if_neg h2]
 by_cases h3 : withinF a (rowF k).1 np = true ∧ withinF b (rowF k).2 np = true
 ·rw [if_neg (fun h => h h3), if_pos h4]
 ·rw [if_pos h3]
theorem opE_c (h1 : ¬ (np < 1 ∨ 8 < np ∨ k < 1 ∨ 9 < k)) (h2 : ¬ 4 < cs.length) (h5 : cs.all caseR = false) : opE np ⟨k, a, b, cs, df⟩ = 4 := by
 unfold opE
 dsimp only
 rw [if_neg h1, if_neg h2]
 by_cases h3 : withinF a (rowF k).1 np = true ∧ withinF b (rowF k).2 np = true
 ·rw [if_neg (fun h => h h3)]
  by_cases h4 : k ≠ 6 ∧ (cs.length ≠ 0 ∨ df = true)
  ·rw [if_pos h4]
  ·rw [if_neg h4, if_neg (by simp [h5])]
 ·rw [if_pos h3]
theorem opE_0 (h1 : ¬ (np < 1 ∨ 8 < np ∨ k < 1 ∨ 9 < k)) (h2 : ¬ 4 < cs.length) (h3 : withinF a (rowF k).1 np = true ∧ withinF b (rowF k).2 np = true) (h4 : ¬ (k ≠ 6 ∧ (cs.length ≠ 0 ∨ df = true))) (h5 : cs.all caseR = true) : opE np ⟨k, a, b, cs, df⟩ = 0 := by
 unfold opE
 rw [if_neg h1, if_neg h2, if_neg (fun h => h h3), if_neg h4, if_pos h5]
end
set_option maxHeartbeats 4000000 in
theorem r_check04 {w : World} {F : List Piece} {A : Piece} {ca : Option Addr} {cc : Nat} {ok oa ob np : Int} {cs : List CaseM} {df : Bool} (hA : Reader A 3 ca cs.length (cs.flatMap CaseM.cells)) (H : SL w (A :: F)) :
  Calls Tryd.prog 57 #[.agg #[.int .i64 ok, .int .i64 oa, .int .i64 ob, .slice ca cs.length cc, .bool df], .int .i64 np] w fun o w' => o = .returned (.int .i64 (opE np ⟨ok, oa, ob, cs, df⟩)) ∧ SL w' (A :: F) := by
 refine calls_den (args := [_, _]) Tryd.func57 rfl (Nat.le_of_ble_eq_true (by kernel_rfl)) (by kernel_rfl) ?_
 refine ⟨?_⟩
 refine Nw.as #[.int .i64 ok, .int .i64 oa, .int .i64 ob, .slice ca cs.length cc, .bool df] 41 rfl H fun b2 w H => ?_
 refine ⟨?_⟩
 refine BB.vr fun q1 e1 => ?_
 cases q1
 ·skip
  have h1 := of_decide_eq_false e1
  refine BB.vr fun q2 e2 => ?_
  cases q2
  ·skip
   have h2 := of_decide_eq_false e2
   refine H.ldi 0 rfl (v := .int .i64 ok) rfl ?_
   refine BB.vr fun q3 e3 => ?_
   cases q3
   ·skip
    have h3 := of_decide_eq_false e3
    refine H.ldi 0 rfl (v := .int .i64 ok) rfl ?_
    refine BB.vr fun q4 e4 => ?_
    cases q4
    ·skip
     have h4 := of_decide_eq_false e4
     refine Cn.no ?_
     refine ⟨?_⟩
     refine H.ldi 0 rfl (v := .slice ca cs.length cc) rfl ?_
     refine BB.vr fun q5 e5 => ?_
     cases q5
     ·skip
      have h5 := of_decide_eq_false e5
      refine Cn.no ?_
      refine ⟨?_⟩
      refine H.ldi 0 rfl (v := .int .i64 ok) rfl ?_
      refine Cl.by (by kernel_rfl) (r_row04 (by omega) (by omega) H) ?_
      rintro _ w ⟨c0, c1, rfl, hrow, H⟩
      refine ⟨_, rfl, ?_⟩
      refine ⟨?_⟩
      refine Drw.oft (.calm 0 (.calm 1 (.calm 2 (.calm 3 (.calm 4 (.act 5 true (.pure 6 (.pure 7 (.pure 8 (.pure 10 (.pure 11 (.pure 12 (.act 9 true (.act 13 true (.pure 14 (.pure 15 .nil)))))))))))))))) (by kernel_rfl) mixed (fun w => SL w _) H.drew ?_
      replace H := H.drew
      refine LdC.i 0 rfl (v := .int .i64 oa) rfl ?_
      refine MnC.pure (.int .u8 (c0.toNat : Int)) (fun _ => by kernel_rfl) ?_
      refine Cl.sl (by kernel_rfl) (r_within04 oa (c0.toNat : Int) np H) fun w H => ?_
      refine BB.vr fun q6 e6 => ?_
      refine ⟨.inl rfl, ?_⟩
      cases q6
      ·skip
       refine BB.yes rfl ?_
       refine Cn.yes ?_
       refine ⟨?_⟩
       refine ret1 (fn := Tryd.f57) (.int .i64 4) rfl (by rfl) ?_
       have hcc : opE np ⟨ok, oa, ob, cs, df⟩ = 4 := by exact opE_w (by omega) (by omega) (by rw [← hrow]; simp [*])
       rw [hcc]
       exact ⟨rfl, H.pick [1] 2 (by decide)⟩
      ·skip
       refine BB.no rfl ?_
       refine MnC.pure (.int .u8 (c1.toNat : Int)) (fun _ => by kernel_rfl) ?_
       refine H.ldi 0 rfl (v := .int .i64 ob) rfl ?_
       refine ⟨.inl rfl, ?_⟩
       refine Cl.sl (by kernel_rfl) (r_within04 ob (c1.toNat : Int) np H) fun w H => ?_
       refine BB.vr fun q7 e7 => ?_
       refine ⟨.inl rfl, ?_⟩
       cases q7
       ·skip
        refine BB.yes rfl ?_
        refine Cn.yes ?_
        refine ⟨?_⟩
        refine ret1 (fn := Tryd.f57) (.int .i64 4) rfl (by rfl) ?_
        have hcc : opE np ⟨ok, oa, ob, cs, df⟩ = 4 := by exact opE_w (by omega) (by omega) (by rw [← hrow]; simp [*])
        rw [hcc]
        exact ⟨rfl, H.pick [1] 2 (by decide)⟩
       ·skip
        refine BB.no rfl ?_
        refine Cn.no ?_
        refine ⟨?_⟩
        refine H.ldi 0 rfl (v := .int .i64 ok) rfl ?_
        refine BB.vr fun q8 e8 => ?_
        cases q8
        ·skip
         have h8 := bne_eq_false_iff_eq.1 e8
         refine Cn.no ?_
         refine ⟨?_⟩
         refine H.ldi 0 rfl (v := .slice ca cs.length cc) rfl ?_
         refine ⟨?_⟩
         refine den.loop (ι := Nat) [(4, 4), (7, 7), (63, 91)] (by kernel_rfl) (fun j => [(63, .int .i64 ↑j)]) (fun j w => (j ≤ cs.length ∧ (cs.take j).all caseR = true) ∧ SL w (row b2 #[.int .i64 ok, .int .i64 oa, .int .i64 ob, .slice ca cs.length cc, .bool df] 41 :: A :: F)) (fun j => cs.length - j) 0 ⟨rfl, trivial⟩ ⟨⟨Nat.zero_le _, rfl⟩, (H)⟩ ?_
         rintro j s w ⟨hc, H⟩
         have hob := Nat.lt_or_ge j cs.length
         rcases hob with hj | hj
         ·skip
          have hob : ∃ z, cs[j]? = some z := ⟨_, List.getElem?_eq_getElem hj⟩
          obtain ⟨cz, hcz⟩ := hob
          have hob := H.addrR 1 rfl hA (by omega)
          obtain ⟨cb, co, rfl⟩ := hob
          refine ⟨?_⟩
          refine BB.yes (decide_eq_true (by omega)) ?_
          refine Cn.yes ?_
          refine ⟨?_⟩
          refine ⟨?_⟩
          refine Ix.at j 3 (by kernel_rfl) (rfl) (hj) ?_
          refine H.ldR 1 rfl hA (by omega) (q := j * 3 + 0) rfl (v := .bool cz.send) ((case_cell hcz 0 (by decide)).trans rfl) ?_
          refine H.ldR 1 rfl hA (by omega) (q := j * 3 + 1) rfl (v := .int .i64 cz.chan) ((case_cell hcz 1 (by decide)).trans rfl) ?_
          refine H.ldR 1 rfl hA (by omega) (q := j * 3 + 2) rfl (v := .int .i64 cz.value) ((case_cell hcz 2 (by decide)).trans rfl) ?_
          refine Nw.as #[.bool false, .int .i64 0, .int .i64 0] 98 rfl H fun b7 w H => ?_
          refine H.st0 (cs' := #[.bool cz.send, .int .i64 0, .int .i64 0]) rfl rfl rfl fun w H => ?_
          refine H.st0 (cs' := #[.bool cz.send, .int .i64 cz.chan, .int .i64 0]) rfl rfl rfl fun w H => ?_
          refine H.st0 (cs' := #[.bool cz.send, .int .i64 cz.chan, .int .i64 cz.value]) rfl rfl rfl fun w H => ?_
          refine ⟨?_⟩
          refine H.ldi 0 rfl (v := .int .i64 cz.chan) rfl ?_
          refine Cl.sl (by kernel_rfl) (r_within04 cz.chan 99 0 H) fun w H => ?_
          refine BB.vr fun q9 e9 => ?_
          cases q9
          ·skip
           refine BB.yes rfl ?_
           refine Cn.yes ?_
           refine ⟨?_⟩
           refine ret1 (fn := Tryd.f57) (.int .i64 4) rfl (by rfl) ?_
           have hcc : opE np ⟨ok, oa, ob, cs, df⟩ = 4 := by exact opE_c (by omega) (by omega) (all_no hcz (by unfold caseR; first | (simp [*]; done) | (simp_all; done)))
           rw [hcc]
           exact ⟨rfl, H.pick [2] 3 (by decide)⟩
          ·skip
           refine BB.no rfl ?_
           refine H.ldi 0 rfl (v := .bool cz.send) rfl ?_
           refine BB.vr fun q10 e10 => ?_
           cases q10
           ·skip
            refine H.ldi 0 rfl (v := .bool cz.send) rfl ?_
            refine BB.vr fun q11 e11 => ?_
            cases q11
            ·skip
             refine BB.yes rfl ?_
             refine H.ldi 0 rfl (v := .int .i64 cz.value) rfl ?_
             refine BB.vr fun q12 e12 => ?_
             cases q12
             ·skip
              have h12 := bne_eq_false_iff_eq.1 e12
              refine Cn.no ?_
              refine ⟨?_⟩
              refine IW.by (wrap_id (n := ↑j + 1) (by omega) (by omega)) ?_
              have hcase : caseR cz = true := by unfold caseR; first | (simp [*]; done) | (simp_all; done)
              exact ⟨j + 1, ⟨rfl, trivial⟩, ⟨⟨by omega, all_step hc.2 hcz hcase⟩, H.pick [1, 2] 3 (by decide)⟩, (show cs.length - (j + 1) < cs.length - j by omega)⟩
             ·skip
              have h12 := bne_iff_ne.1 e12
              refine Cn.yes ?_
              refine ⟨?_⟩
              refine ret1 (fn := Tryd.f57) (.int .i64 4) rfl (by rfl) ?_
              have hcc : opE np ⟨ok, oa, ob, cs, df⟩ = 4 := by exact opE_c (by omega) (by omega) (all_no hcz (by unfold caseR; first | (simp [*]; done) | (simp_all; done)))
              rw [hcc]
              exact ⟨rfl, H.pick [2] 3 (by decide)⟩
            ·skip
             refine BB.no rfl ?_
             refine Cn.no ?_
             refine ⟨?_⟩
             refine IW.by (wrap_id (n := ↑j + 1) (by omega) (by omega)) ?_
             have hcase : caseR cz = true := by unfold caseR; first | (simp [*]; done) | (simp_all; done)
             exact ⟨j + 1, ⟨rfl, trivial⟩, ⟨⟨by omega, all_step hc.2 hcz hcase⟩, H.pick [1, 2] 3 (by decide)⟩, (show cs.length - (j + 1) < cs.length - j by omega)⟩
           ·skip
            refine H.ldi 0 rfl (v := .int .i64 cz.value) rfl ?_
            refine Cl.sl (by kernel_rfl) (r_within04 cz.value 118 0 H) fun w H => ?_
            refine BB.vr fun q13 e13 => ?_
            cases q13
            ·skip
             refine BB.yes rfl ?_
             refine Cn.yes ?_
             refine ⟨?_⟩
             refine ret1 (fn := Tryd.f57) (.int .i64 4) rfl (by rfl) ?_
             have hcc : opE np ⟨ok, oa, ob, cs, df⟩ = 4 := by exact opE_c (by omega) (by omega) (all_no hcz (by unfold caseR; first | (simp [*]; done) | (simp_all; done)))
             rw [hcc]
             exact ⟨rfl, H.pick [2] 3 (by decide)⟩
            ·skip
             refine BB.no rfl ?_
             refine H.ldi 0 rfl (v := .bool cz.send) rfl ?_
             refine BB.vr fun q14 e14 => ?_
             cases q14
             ·skip
              refine BB.yes rfl ?_
              refine H.ldi 0 rfl (v := .int .i64 cz.value) rfl ?_
              refine BB.vr fun q15 e15 => ?_
              cases q15
              ·skip
               have h15 := bne_eq_false_iff_eq.1 e15
               refine Cn.no ?_
               refine ⟨?_⟩
               refine IW.by (wrap_id (n := ↑j + 1) (by omega) (by omega)) ?_
               have hcase : caseR cz = true := by unfold caseR; first | (simp [*]; done) | (simp_all; done)
               exact ⟨j + 1, ⟨rfl, trivial⟩, ⟨⟨by omega, all_step hc.2 hcz hcase⟩, H.pick [1, 2] 3 (by decide)⟩, (show cs.length - (j + 1) < cs.length - j by omega)⟩
              ·skip
               have h15 := bne_iff_ne.1 e15
               refine Cn.yes ?_
               refine ⟨?_⟩
               refine ret1 (fn := Tryd.f57) (.int .i64 4) rfl (by rfl) ?_
               have hcc : opE np ⟨ok, oa, ob, cs, df⟩ = 4 := by exact opE_c (by omega) (by omega) (all_no hcz (by unfold caseR; first | (simp [*]; done) | (simp_all; done)))
               rw [hcc]
               exact ⟨rfl, H.pick [2] 3 (by decide)⟩
             ·skip
              refine BB.no rfl ?_
              refine Cn.no ?_
              refine ⟨?_⟩
              refine IW.by (wrap_id (n := ↑j + 1) (by omega) (by omega)) ?_
              have hcase : caseR cz = true := by unfold caseR; first | (simp [*]; done) | (simp_all; done)
              exact ⟨j + 1, ⟨rfl, trivial⟩, ⟨⟨by omega, all_step hc.2 hcz hcase⟩, H.pick [1, 2] 3 (by decide)⟩, (show cs.length - (j + 1) < cs.length - j by omega)⟩
         ·skip
          have hob : j = cs.length := by omega
          obtain rfl := hob
          rw [List.take_length] at hc
          refine ⟨?_⟩
          refine BB.no (decide_eq_false (by omega)) ?_
          refine Cn.no ?_
          refine ⟨?_⟩
          refine ret1 (fn := Tryd.f57) (.int .i64 0) rfl (by rfl) ?_
          have hcc : opE np ⟨ok, oa, ob, cs, df⟩ = 0 := by exact opE_0 (by omega) (by omega) (by rw [← hrow]; simp [*]) (by rintro ⟨ha, hb | hb⟩ <;> first | exact absurd rfl ha | omega | cases hb) hc.2
          rw [hcc]
          exact ⟨rfl, H.pick [1] 2 (by decide)⟩
        ·skip
         have h8 := bne_iff_ne.1 e8
         refine H.ldi 0 rfl (v := .slice ca cs.length cc) rfl ?_
         refine BB.vr fun q16 e16 => ?_
         cases q16
         ·skip
          have h16 := bne_eq_false_iff_eq.1 e16
          refine H.ldi 0 rfl (v := .bool df) rfl ?_
          refine BB.k ?_
          cases df
          ·skip
           refine Cn.no ?_
           refine ⟨?_⟩
           refine H.ldi 0 rfl (v := .slice ca cs.length cc) rfl ?_
           refine ⟨?_⟩
           refine den.loop (ι := Nat) [(4, 4), (7, 7), (63, 91)] (by kernel_rfl) (fun j => [(63, .int .i64 ↑j)]) (fun j w => (j ≤ cs.length ∧ (cs.take j).all caseR = true) ∧ SL w (row b2 #[.int .i64 ok, .int .i64 oa, .int .i64 ob, .slice ca cs.length cc, .bool false] 41 :: A :: F)) (fun j => cs.length - j) 0 ⟨rfl, trivial⟩ ⟨⟨Nat.zero_le _, rfl⟩, (H)⟩ ?_
           rintro j s w ⟨hc, H⟩
           have hob := Nat.lt_or_ge j cs.length
           rcases hob with hj | hj
           ·skip
            have hob : ∃ z, cs[j]? = some z := ⟨_, List.getElem?_eq_getElem hj⟩
            obtain ⟨cz, hcz⟩ := hob
            have hob := H.addrR 1 rfl hA (by omega)
            obtain ⟨cb, co, rfl⟩ := hob
            refine ⟨?_⟩
            refine BB.yes (decide_eq_true (by omega)) ?_
            refine Cn.yes ?_
            refine ⟨?_⟩
            refine ⟨?_⟩
            refine Ix.at j 3 (by kernel_rfl) (rfl) (hj) ?_
            refine H.ldR 1 rfl hA (by omega) (q := j * 3 + 0) rfl (v := .bool cz.send) ((case_cell hcz 0 (by decide)).trans rfl) ?_
            refine H.ldR 1 rfl hA (by omega) (q := j * 3 + 1) rfl (v := .int .i64 cz.chan) ((case_cell hcz 1 (by decide)).trans rfl) ?_
            refine H.ldR 1 rfl hA (by omega) (q := j * 3 + 2) rfl (v := .int .i64 cz.value) ((case_cell hcz 2 (by decide)).trans rfl) ?_
            refine Nw.as #[.bool false, .int .i64 0, .int .i64 0] 98 rfl H fun b7 w H => ?_
            refine H.st0 (cs' := #[.bool cz.send, .int .i64 0, .int .i64 0]) rfl rfl rfl fun w H => ?_
            refine H.st0 (cs' := #[.bool cz.send, .int .i64 cz.chan, .int .i64 0]) rfl rfl rfl fun w H => ?_
            refine H.st0 (cs' := #[.bool cz.send, .int .i64 cz.chan, .int .i64 cz.value]) rfl rfl rfl fun w H => ?_
            refine ⟨?_⟩
            refine H.ldi 0 rfl (v := .int .i64 cz.chan) rfl ?_
            refine Cl.sl (by kernel_rfl) (r_within04 cz.chan 99 0 H) fun w H => ?_
            refine BB.vr fun q17 e17 => ?_
            cases q17
            ·skip
             refine BB.yes rfl ?_
             refine Cn.yes ?_
             refine ⟨?_⟩
             refine ret1 (fn := Tryd.f57) (.int .i64 4) rfl (by rfl) ?_
             have hcc : opE np ⟨ok, oa, ob, cs, false⟩ = 4 := by exact opE_c (by omega) (by omega) (all_no hcz (by unfold caseR; first | (simp [*]; done) | (simp_all; done)))
             rw [hcc]
             exact ⟨rfl, H.pick [2] 3 (by decide)⟩
            ·skip
             refine BB.no rfl ?_
             refine H.ldi 0 rfl (v := .bool cz.send) rfl ?_
             refine BB.vr fun q18 e18 => ?_
             cases q18
             ·skip
              refine H.ldi 0 rfl (v := .bool cz.send) rfl ?_
              refine BB.vr fun q19 e19 => ?_
              cases q19
              ·skip
               refine BB.yes rfl ?_
               refine H.ldi 0 rfl (v := .int .i64 cz.value) rfl ?_
               refine BB.vr fun q20 e20 => ?_
               cases q20
               ·skip
                have h20 := bne_eq_false_iff_eq.1 e20
                refine Cn.no ?_
                refine ⟨?_⟩
                refine IW.by (wrap_id (n := ↑j + 1) (by omega) (by omega)) ?_
                have hcase : caseR cz = true := by unfold caseR; first | (simp [*]; done) | (simp_all; done)
                exact ⟨j + 1, ⟨rfl, trivial⟩, ⟨⟨by omega, all_step hc.2 hcz hcase⟩, H.pick [1, 2] 3 (by decide)⟩, (show cs.length - (j + 1) < cs.length - j by omega)⟩
               ·skip
                have h20 := bne_iff_ne.1 e20
                refine Cn.yes ?_
                refine ⟨?_⟩
                refine ret1 (fn := Tryd.f57) (.int .i64 4) rfl (by rfl) ?_
                have hcc : opE np ⟨ok, oa, ob, cs, false⟩ = 4 := by exact opE_c (by omega) (by omega) (all_no hcz (by unfold caseR; first | (simp [*]; done) | (simp_all; done)))
                rw [hcc]
                exact ⟨rfl, H.pick [2] 3 (by decide)⟩
              ·skip
               refine BB.no rfl ?_
               refine Cn.no ?_
               refine ⟨?_⟩
               refine IW.by (wrap_id (n := ↑j + 1) (by omega) (by omega)) ?_
               have hcase : caseR cz = true := by unfold caseR; first | (simp [*]; done) | (simp_all; done)
               exact ⟨j + 1, ⟨rfl, trivial⟩, ⟨⟨by omega, all_step hc.2 hcz hcase⟩, H.pick [1, 2] 3 (by decide)⟩, (show cs.length - (j + 1) < cs.length - j by omega)⟩
             ·skip
              refine H.ldi 0 rfl (v := .int .i64 cz.value) rfl ?_
              refine Cl.sl (by kernel_rfl) (r_within04 cz.value 118 0 H) fun w H => ?_
              refine BB.vr fun q21 e21 => ?_
              cases q21
              ·skip
               refine BB.yes rfl ?_
               refine Cn.yes ?_
               refine ⟨?_⟩
               refine ret1 (fn := Tryd.f57) (.int .i64 4) rfl (by rfl) ?_
               have hcc : opE np ⟨ok, oa, ob, cs, false⟩ = 4 := by exact opE_c (by omega) (by omega) (all_no hcz (by unfold caseR; first | (simp [*]; done) | (simp_all; done)))
               rw [hcc]
               exact ⟨rfl, H.pick [2] 3 (by decide)⟩
              ·skip
               refine BB.no rfl ?_
               refine H.ldi 0 rfl (v := .bool cz.send) rfl ?_
               refine BB.vr fun q22 e22 => ?_
               cases q22
               ·skip
                refine BB.yes rfl ?_
                refine H.ldi 0 rfl (v := .int .i64 cz.value) rfl ?_
                refine BB.vr fun q23 e23 => ?_
                cases q23
                ·skip
                 have h23 := bne_eq_false_iff_eq.1 e23
                 refine Cn.no ?_
                 refine ⟨?_⟩
                 refine IW.by (wrap_id (n := ↑j + 1) (by omega) (by omega)) ?_
                 have hcase : caseR cz = true := by unfold caseR; first | (simp [*]; done) | (simp_all; done)
                 exact ⟨j + 1, ⟨rfl, trivial⟩, ⟨⟨by omega, all_step hc.2 hcz hcase⟩, H.pick [1, 2] 3 (by decide)⟩, (show cs.length - (j + 1) < cs.length - j by omega)⟩
                ·skip
                 have h23 := bne_iff_ne.1 e23
                 refine Cn.yes ?_
                 refine ⟨?_⟩
                 refine ret1 (fn := Tryd.f57) (.int .i64 4) rfl (by rfl) ?_
                 have hcc : opE np ⟨ok, oa, ob, cs, false⟩ = 4 := by exact opE_c (by omega) (by omega) (all_no hcz (by unfold caseR; first | (simp [*]; done) | (simp_all; done)))
                 rw [hcc]
                 exact ⟨rfl, H.pick [2] 3 (by decide)⟩
               ·skip
                refine BB.no rfl ?_
                refine Cn.no ?_
                refine ⟨?_⟩
                refine IW.by (wrap_id (n := ↑j + 1) (by omega) (by omega)) ?_
                have hcase : caseR cz = true := by unfold caseR; first | (simp [*]; done) | (simp_all; done)
                exact ⟨j + 1, ⟨rfl, trivial⟩, ⟨⟨by omega, all_step hc.2 hcz hcase⟩, H.pick [1, 2] 3 (by decide)⟩, (show cs.length - (j + 1) < cs.length - j by omega)⟩
           ·skip
            have hob : j = cs.length := by omega
            obtain rfl := hob
            rw [List.take_length] at hc
            refine ⟨?_⟩
            refine BB.no (decide_eq_false (by omega)) ?_
            refine Cn.no ?_
            refine ⟨?_⟩
            refine ret1 (fn := Tryd.f57) (.int .i64 0) rfl (by rfl) ?_
            have hcc : opE np ⟨ok, oa, ob, cs, false⟩ = 0 := by exact opE_0 (by omega) (by omega) (by rw [← hrow]; simp [*]) (by rintro ⟨ha, hb | hb⟩ <;> first | exact absurd rfl ha | omega | cases hb) hc.2
            rw [hcc]
            exact ⟨rfl, H.pick [1] 2 (by decide)⟩
          ·skip
           refine Cn.yes ?_
           refine ⟨?_⟩
           refine ret1 (fn := Tryd.f57) (.int .i64 4) rfl (by rfl) ?_
           have hcc : opE np ⟨ok, oa, ob, cs, true⟩ = 4 := by exact opE_s (by omega) (by omega) (by refine ⟨by assumption, ?_⟩; first | exact .inr rfl | exact .inl (by omega))
           rw [hcc]
           exact ⟨rfl, H.pick [1] 2 (by decide)⟩
         ·skip
          have h16 := bne_iff_ne.1 e16
          refine Cn.yes ?_
          refine ⟨?_⟩
          refine ret1 (fn := Tryd.f57) (.int .i64 4) rfl (by rfl) ?_
          have hcc : opE np ⟨ok, oa, ob, cs, df⟩ = 4 := by exact opE_s (by omega) (by omega) (by refine ⟨by assumption, ?_⟩; first | exact .inr rfl | exact .inl (by omega))
          rw [hcc]
          exact ⟨rfl, H.pick [1] 2 (by decide)⟩
     ·skip
      have h5 := of_decide_eq_true e5
      refine Cn.yes ?_
      refine ⟨?_⟩
      refine ret1 (fn := Tryd.f57) (.int .i64 2) rfl (by rfl) ?_
      have hcc : opE np ⟨ok, oa, ob, cs, df⟩ = 2 := by unfold opE; rw [if_neg (by dsimp only; omega), if_pos (by dsimp only; omega)]
      rw [hcc]
      exact ⟨rfl, H.pick [1] 2 (by decide)⟩
    ·skip
     have h4 := of_decide_eq_true e4
     refine Cn.yes ?_
     refine ⟨?_⟩
     refine ret1 (fn := Tryd.f57) (.int .i64 1) rfl (by rfl) ?_
     have hcc : opE np ⟨ok, oa, ob, cs, df⟩ = 1 := by unfold opE; rw [if_pos (by dsimp only; omega)]
     rw [hcc]
     exact ⟨rfl, H.pick [1] 2 (by decide)⟩
   ·skip
    have h3 := of_decide_eq_true e3
    refine Cn.yes ?_
    refine ⟨?_⟩
    refine ret1 (fn := Tryd.f57) (.int .i64 1) rfl (by rfl) ?_
    have hcc : opE np ⟨ok, oa, ob, cs, df⟩ = 1 := by unfold opE; rw [if_pos (by dsimp only; omega)]
    rw [hcc]
    exact ⟨rfl, H.pick [1] 2 (by decide)⟩
  ·skip
   have h2 := of_decide_eq_true e2
   refine Cn.yes ?_
   refine ⟨?_⟩
   refine ret1 (fn := Tryd.f57) (.int .i64 1) rfl (by rfl) ?_
   have hcc : opE np ⟨ok, oa, ob, cs, df⟩ = 1 := by unfold opE; rw [if_pos (by dsimp only; omega)]
   rw [hcc]
   exact ⟨rfl, H.pick [1] 2 (by decide)⟩
 ·skip
  have h1 := of_decide_eq_true e1
  refine Cn.yes ?_
  refine ⟨?_⟩
  refine ret1 (fn := Tryd.f57) (.int .i64 1) rfl (by rfl) ?_
  have hcc : opE np ⟨ok, oa, ob, cs, df⟩ = 1 := by unfold opE; rw [if_pos (by dsimp only; omega)]
  rw [hcc]
  exact ⟨rfl, H.pick [1] 2 (by decide)⟩
end Go.Proofs.YtchkaaeoffmjnaaDoor
namespace Go.Proofs.YtchkaaeoffmjnaaDoor
set_option linter.unusedVariables false
set_option linter.unusedSimpArgs false
open Go.RowKit
set_option maxRecDepth 100000
section
variable {w : World} {L F : List Piece} {A : Piece} {b off : Nat} {X : List ProgX} {p : ProgX} {v : Value} {K : Value → Prop}
theorem SL.ldPv (H : SL w L) (i : Nat) (hi : L[i]? = some A) (hX : ScrA A b off X) (k : Nat) (hk : X[k]? = some p) (hv : .slice p.pa p.ops.length p.pc = v) (h : K v) : Ld w ⟨b, off + k * 1, none⟩ K := H.ldP i hi hX k hk (by rw [hv]; exact h)
end
theorem int_cell {xs : List Int} {j : Nat} {z : Int} (h : xs[j]? = some z) : (ints xs)[j * 1]? = some (.int .i64 z) := by
 rw [Nat.mul_one]
 unfold ints
 rw [List.getElem?_map, h]
 rfl
theorem progs_len {X : List ProgX} : ((progsM X).length : Int) = (X.length : Int) := by unfold progsM; rw [List.length_map]
section
variable {s : ScrM} (h1 : ¬ (s.t < 1 ∨ 256 < s.t ∨ s.m < 1 ∨ 1048576 < s.m)) (h2 : ¬ (8 < s.progs.length ∨ 200 < s.plan.length ∨ 64 < s.draws.length)) (h3 : s.progs.all shortP = true) (h4 : ¬ s.progs.length = 0) (h5 : s.progs.all (progOk s.progs.length) = true) (h6 : s.plan.all planOk = true)
theorem checkE_1 (h : s.t < 1 ∨ 256 < s.t ∨ s.m < 1 ∨ 1048576 < s.m) : checkE s = 1 := by unfold checkE; rw [if_pos h]
include h1
theorem checkE_2 (h : 8 < s.progs.length ∨ 200 < s.plan.length ∨ 64 < s.draws.length) : checkE s = 2 := by unfold checkE; rw [if_neg h1, if_pos h]
include h2
theorem checkE_3 (h : s.progs.all shortP = false) : checkE s = 2 := by unfold checkE; rw [if_neg h1, if_neg h2, if_pos h]
include h3
theorem checkE_4 (h : s.progs.length = 0) : checkE s = 4 := by unfold checkE; rw [if_neg h1, if_neg h2, if_neg (by simp [h3]), if_pos h]
include h4
theorem checkE_5 (h : s.progs.all (progOk s.progs.length) = false) : checkE s = 4 := by unfold checkE; rw [if_neg h1, if_neg h2, if_neg (by simp [h3]), if_neg h4, if_pos h]
include h5
theorem checkE_6 (h : s.plan.all planOk = false) : checkE s = 4 := by unfold checkE; rw [if_neg h1, if_neg h2, if_neg (by simp [h3]), if_neg h4, if_neg (by rw [h5]; exact Bool.noConfusion), if_pos h]
include h6
theorem checkE_7 (h : s.draws.all drawOk = false) : checkE s = 4 := by unfold checkE; rw [if_neg h1, if_neg h2, if_neg (by simp [h3]), if_neg h4, if_neg (by rw [h5]; exact Bool.noConfusion), if_neg (by rw [h6]; exact Bool.noConfusion), if_pos h]
theorem checkE_0 (h : s.draws.all drawOk = true) : checkE s = 0 := by unfold checkE; rw [if_neg h1, if_neg h2, if_neg (by simp [h3]), if_neg h4, if_neg (by rw [h5]; exact Bool.noConfusion), if_neg (by rw [h6]; exact Bool.noConfusion), if_neg (by rw [h]; exact Bool.noConfusion)]
end
set_option maxHeartbeats 4000000 in
theorem r_check05 {w : World} {F : List Piece} {A : Piece} {pa la da : Option Addr} {pc lc dc : Nat} {t m : Int} {X : List ProgX} {pl dr : List Int} (hX : 0 < X.length → ∃ b off, pa = some ⟨b, off, none⟩ ∧ ScrA A b off X) (hL : Reader A 1 la pl.length (ints pl)) (hD : Reader A 1 da dr.length (ints dr)) (H : SL w (A :: F)) :
  Calls Tryd.prog 30 #[.agg #[.int .i64 t, .int .i64 m, .slice pa X.length pc, .slice la pl.length lc, .slice da dr.length dc]] w fun o w' => o = .returned (.int .i64 (checkE ⟨t, m, progsM X, pl, dr⟩)) ∧ SL w' (A :: F) := by
 refine calls_den (args := [_]) Tryd.func30 rfl (Nat.le_of_ble_eq_true (by kernel_rfl)) (by kernel_rfl) ?_
 refine ⟨?_⟩
 refine Nw.as #[.int .i64 t, .int .i64 m, .slice pa X.length pc, .slice la pl.length lc, .slice da dr.length dc] 46 rfl H fun b1 w H => ?_
 refine ⟨?_⟩
 refine H.ldi 0 rfl (v := .int .i64 t) rfl ?_
 refine BB.vr fun q1 e1 => ?_
 cases q1
 ·skip
  have h1 := of_decide_eq_false e1
  refine H.ldi 0 rfl (v := .int .i64 t) rfl ?_
  refine BB.vr fun q2 e2 => ?_
  cases q2
  ·skip
   have h2 := of_decide_eq_false e2
   refine H.ldi 0 rfl (v := .int .i64 m) rfl ?_
   refine BB.vr fun q3 e3 => ?_
   cases q3
   ·skip
    have h3 := of_decide_eq_false e3
    refine H.ldi 0 rfl (v := .int .i64 m) rfl ?_
    refine BB.vr fun q4 e4 => ?_
    cases q4
    ·skip
     have h4 := of_decide_eq_false e4
     refine Cn.no ?_
     refine ⟨?_⟩
     refine H.ldi 0 rfl (v := .slice pa X.length pc) rfl ?_
     refine BB.vr fun q5 e5 => ?_
     cases q5
     ·skip
      have h5 := of_decide_eq_false e5
      refine H.ldi 0 rfl (v := .slice la pl.length lc) rfl ?_
      refine BB.vr fun q6 e6 => ?_
      cases q6
      ·skip
       have h6 := of_decide_eq_false e6
       refine H.ldi 0 rfl (v := .slice da dr.length dc) rfl ?_
       refine BB.vr fun q7 e7 => ?_
       cases q7
       ·skip
        have h7 := of_decide_eq_false e7
        refine Cn.no ?_
        refine ⟨?_⟩
        refine H.ldi 0 rfl (v := .slice pa X.length pc) rfl ?_
        refine ⟨?_⟩
        refine den.loop (ι := Nat) [(2, 2), (4, 4), (50, 57)] (by kernel_rfl) (fun j => [(50, .int .i64 ↑j)]) (fun j w => (j ≤ X.length ∧ ((progsM X).take j).all shortP = true) ∧ SL w (row b1 #[.int .i64 t, .int .i64 m, .slice pa X.length pc, .slice la pl.length lc, .slice da dr.length dc] 46 :: A :: F)) (fun j => X.length - j) 0 ⟨rfl, trivial⟩ ⟨⟨Nat.zero_le _, rfl⟩, (H)⟩ ?_
        rintro j s w ⟨hc, H⟩
        have hob := Nat.lt_or_ge j X.length
        rcases hob with hj | hj
        ·skip
         have hob : ∃ z, X[j]? = some z := ⟨_, List.getElem?_eq_getElem hj⟩
         obtain ⟨px, hY⟩ := hob
         have hob := hX (by omega)
         obtain ⟨pb, po, rfl, hXA⟩ := hob
         have hM : (progsM X)[j]? = some (px.ops.map (·.op)) := by unfold progsM; rw [List.getElem?_map, hY]; rfl
         have hsome := hXA.some_ j px hY
         have hcase := hXA.case j px hY
         obtain ⟨ops, qa, qc⟩ := px
         dsimp only at hM hsome hcase
         refine ⟨?_⟩
         refine BB.yes (decide_eq_true (by omega)) ?_
         refine Cn.yes ?_
         refine ⟨?_⟩
         refine ⟨?_⟩
         refine Ix.at j 1 (by kernel_rfl) (rfl) (hj) ?_
         refine H.ldPv 1 rfl hXA j hY (v := .slice qa ops.length qc) rfl ?_
         refine ⟨?_⟩
         refine BB.vr fun q8 e8 => ?_
         cases q8
         ·skip
          have h8 := of_decide_eq_false e8
          refine Cn.no ?_
          refine ⟨?_⟩
          refine IW.by (wrap_id (n := ↑j + 1) (by omega) (by omega)) ?_
          have hone : shortP (ops.map (·.op)) = true := by unfold shortP; exact decide_eq_true (by rw [List.length_map]; omega)
          exact ⟨j + 1, ⟨rfl, trivial⟩, ⟨⟨by omega, all_step hc.2 hM hone⟩, H⟩, (show X.length - (j + 1) < X.length - j by omega)⟩
         ·skip
          have h8 := of_decide_eq_true e8
          refine Cn.yes ?_
          refine ⟨?_⟩
          refine ret1 (fn := Tryd.f30) (.int .i64 2) rfl (by rfl) ?_
          have hcc : checkE ⟨t, m, progsM X, pl, dr⟩ = 2 := by exact checkE_3 (by dsimp only; omega) (by dsimp only; unfold progsM; rw [List.length_map]; omega) (all_no hM (decide_eq_false (by rw [List.length_map]; omega)))
          rw [hcc]
          exact ⟨rfl, H.pick [1] 2 (by decide)⟩
        ·skip
         have hob : j = X.length := by omega
         obtain rfl := hob
         have hs := hc.2
         rw [List.take_of_length_le (by simp [progsM])] at hs
         refine ⟨?_⟩
         refine BB.no (decide_eq_false (by omega)) ?_
         refine Cn.no ?_
         refine ⟨?_⟩
         refine H.ldi 0 rfl (v := .slice pa X.length pc) rfl ?_
         refine BB.vr fun q9 e9 => ?_
         cases q9
         ·skip
          have h9 := beq_eq_false_iff_ne.1 e9
          refine Cn.no ?_
          refine ⟨?_⟩
          refine H.ldi 0 rfl (v := .slice pa X.length pc) rfl ?_
          refine ⟨?_⟩
          refine den.loop (ι := Nat) [(2, 2), (6, 6), (8, 8), (65, 82)] (by kernel_rfl) (fun k => [(65, .int .i64 ↑k)]) (fun k w => (k ≤ X.length ∧ ((progsM X).take k).all (progOk (X.length : Int)) = true) ∧ SL w (row b1 #[.int .i64 t, .int .i64 m, .slice pa X.length pc, .slice la pl.length lc, .slice da dr.length dc] 46 :: A :: F)) (fun k => X.length - k) 0 ⟨rfl, trivial⟩ ⟨⟨Nat.zero_le _, rfl⟩, (H)⟩ ?_
          rintro k s w ⟨hc, H⟩
          have hob := Nat.lt_or_ge k X.length
          rcases hob with hk | hk
          ·skip
           have hob : ∃ z, X[k]? = some z := ⟨_, List.getElem?_eq_getElem hk⟩
           obtain ⟨px, hY⟩ := hob
           have hob := hX (by omega)
           obtain ⟨pb, po, rfl, hXA⟩ := hob
           have hM : (progsM X)[k]? = some (px.ops.map (·.op)) := by unfold progsM; rw [List.getElem?_map, hY]; rfl
           have hsome := hXA.some_ k px hY
           have hcase := hXA.case k px hY
           obtain ⟨ops, qa, qc⟩ := px
           dsimp only at hM hsome hcase
           have h32 := of_decide_eq_true (show decide ((ops.map (·.op)).length ≤ 32) = true from all_for (p := shortP) hs hM)
           rw [List.length_map] at h32
           refine ⟨?_⟩
           refine BB.yes (decide_eq_true (by omega)) ?_
           refine Cn.yes ?_
           refine ⟨?_⟩
           refine ⟨?_⟩
           refine Ix.at k 1 (by kernel_rfl) (rfl) (hk) ?_
           refine H.ldPv 1 rfl hXA k hY (v := .slice qa ops.length qc) rfl ?_
           refine ⟨?_⟩
           refine ⟨?_⟩
           refine den.loop (ι := Nat) [(2, 2), (8, 8), (71, 81)] (by kernel_rfl) (fun i => [(71, .int .i64 ↑i)]) (fun i w => (i ≤ ops.length ∧ ((ops.map (·.op)).take i).all (fun o => opE (X.length : Int) o == 0) = true) ∧ SL w (row b1 #[.int .i64 t, .int .i64 m, .slice (some ⟨pb, po, none⟩) X.length pc, .slice la pl.length lc, .slice da dr.length dc] 46 :: A :: F)) (fun i => ops.length - i) 0 ⟨rfl, trivial⟩ ⟨⟨Nat.zero_le _, rfl⟩, (H)⟩ ?_
           rintro i s w ⟨hd, H⟩
           have hob := Nat.lt_or_ge i ops.length
           rcases hob with hi | hi
           ·skip
            have hob := hsome (by omega)
            obtain ⟨qb, qo, rfl⟩ := hob
            have hob : ∃ z, ops[i]? = some z := ⟨_, List.getElem?_eq_getElem hi⟩
            obtain ⟨ox, hox⟩ := hob
            have hoM : (ops.map (·.op))[i]? = some ox.op := by rw [List.getElem?_map, hox]; rfl
            refine ⟨?_⟩
            refine BB.yes (decide_eq_true (by omega)) ?_
            refine Cn.yes ?_
            refine ⟨?_⟩
            refine ⟨?_⟩
            refine Ix.at i 5 (by kernel_rfl) (rfl) (hi) ?_
            refine H.ldO 1 rfl hXA k hY rfl i 0 hox (v := .int .i64 ox.op.kind) rfl ?_
            refine H.ldO 1 rfl hXA k hY rfl i 1 hox (v := .int .i64 ox.op.a) rfl ?_
            refine H.ldO 1 rfl hXA k hY rfl i 2 hox (v := .int .i64 ox.op.b) rfl ?_
            refine H.ldO 1 rfl hXA k hY rfl i 3 hox (v := .slice ox.ca ox.op.cases.length ox.cc) rfl ?_
            refine H.ldO 1 rfl hXA k hY rfl i 4 hox (v := .bool ox.op.dflt) rfl ?_
            refine Nw.as #[.int .i64 0, .int .i64 0, .int .i64 0, .slice none 0 0, .bool false] 41 rfl H fun b8 w H => ?_
            refine H.st0 (cs' := #[.int .i64 ox.op.kind, .int .i64 0, .int .i64 0, .slice none 0 0, .bool false]) rfl rfl rfl fun w H => ?_
            refine H.st0 (cs' := #[.int .i64 ox.op.kind, .int .i64 ox.op.a, .int .i64 0, .slice none 0 0, .bool false]) rfl rfl rfl fun w H => ?_
            refine H.st0 (cs' := #[.int .i64 ox.op.kind, .int .i64 ox.op.a, .int .i64 ox.op.b, .slice none 0 0, .bool false]) rfl rfl rfl fun w H => ?_
            refine H.st0 (cs' := #[.int .i64 ox.op.kind, .int .i64 ox.op.a, .int .i64 ox.op.b, .slice ox.ca ox.op.cases.length ox.cc, .bool false]) rfl rfl rfl fun w H => ?_
            refine H.st0 (cs' := #[.int .i64 ox.op.kind, .int .i64 ox.op.a, .int .i64 ox.op.b, .slice ox.ca ox.op.cases.length ox.cc, .bool ox.op.dflt]) rfl rfl rfl fun w H => ?_
            refine ⟨?_⟩
            refine H.ldi 0 rfl (v := .int .i64 ox.op.kind) rfl ?_
            refine H.ldi 0 rfl (v := .int .i64 ox.op.a) rfl ?_
            refine H.ldi 0 rfl (v := .int .i64 ox.op.b) rfl ?_
            refine H.ldi 0 rfl (v := .slice ox.ca ox.op.cases.length ox.cc) rfl ?_
            refine H.ldi 0 rfl (v := .bool ox.op.dflt) rfl ?_
            refine H.ldi 1 rfl (v := .slice (some ⟨pb, po, none⟩) X.length pc) rfl ?_
            have h1 := H.pick [2, 0, 1] 3 (by decide)
            simp only [pk, nth, pkA, pkB, pkC, pkD, pkE, pkF] at h1
            refine Cl.sl (by kernel_rfl) (r_check04 (hcase i ox hox).1 h1) fun w H => ?_
            replace H := H.pick [1, 2, 0] 3 (by decide)
            simp only [pk, nth, pkA, pkB, pkC, pkD, pkE, pkF] at H
            refine BB.vr fun q10 e10 => ?_
            cases q10
            ·skip
             have h10 := bne_eq_false_iff_eq.1 e10
             refine Cn.no ?_
             refine ⟨?_⟩
             refine IW.by (wrap_id (n := ↑i + 1) (by omega) (by omega)) ?_
             have hone : (fun o => opE (X.length : Int) o == 0) ox.op = true := beq_iff_eq.2 (by assumption)
             exact ⟨i + 1, ⟨rfl, trivial⟩, ⟨⟨by omega, all_step hd.2 hoM hone⟩, H.pick [1, 2] 3 (by decide)⟩, (show ops.length - (i + 1) < ops.length - i by omega)⟩
            ·skip
             have h10 := bne_iff_ne.1 e10
             refine Cn.yes ?_
             refine ⟨?_⟩
             refine ret1 (fn := Tryd.f30) (.int .i64 4) rfl (by rfl) ?_
             have hcc : checkE ⟨t, m, progsM X, pl, dr⟩ = 4 := by exact checkE_5 (by dsimp only; omega) (by dsimp only; unfold progsM; rw [List.length_map]; omega) hs (by dsimp only; unfold progsM; rw [List.length_map]; omega) (by dsimp only; rw [progs_len]; exact all_no hM (all_no hoM (beq_eq_false_iff_ne.2 (by assumption))))
             rw [hcc]
             exact ⟨rfl, H.pick [2] 3 (by decide)⟩
           ·skip
            have hob : i = ops.length := by omega
            obtain rfl := hob
            have hq := hd.2
            rw [List.take_of_length_le (by simp)] at hq
            refine ⟨?_⟩
            refine BB.no (decide_eq_false (by omega)) ?_
            refine Cn.no ?_
            refine ⟨?_⟩
            refine IW.by (wrap_id (n := ↑k + 1) (by omega) (by omega)) ?_
            have hone : progOk (X.length : Int) (ops.map (·.op)) = true := hq
            exact ⟨k + 1, ⟨rfl, trivial⟩, ⟨⟨by omega, all_step hc.2 hM hone⟩, H⟩, (show X.length - (k + 1) < X.length - k by omega)⟩
          ·skip
           have hob : k = X.length := by omega
           obtain rfl := hob
           have hp := hc.2
           rw [List.take_of_length_le (by simp [progsM])] at hp
           refine ⟨?_⟩
           refine BB.no (decide_eq_false (by omega)) ?_
           refine Cn.no ?_
           refine ⟨?_⟩
           refine H.ldi 0 rfl (v := .slice la pl.length lc) rfl ?_
           refine ⟨?_⟩
           refine den.loop (ι := Nat) [(2, 2), (10, 10), (86, 96)] (by kernel_rfl) (fun u => [(86, .int .i64 ↑u)]) (fun u w => (u ≤ pl.length ∧ (pl.take u).all planOk = true) ∧ SL w (row b1 #[.int .i64 t, .int .i64 m, .slice pa X.length pc, .slice la pl.length lc, .slice da dr.length dc] 46 :: A :: F)) (fun u => pl.length - u) 0 ⟨rfl, trivial⟩ ⟨⟨Nat.zero_le _, rfl⟩, (H)⟩ ?_
           rintro u s w ⟨hc, H⟩
           have hob := Nat.lt_or_ge u pl.length
           rcases hob with hu | hu
           ·skip
            have hob : ∃ z, pl[u]? = some z := ⟨_, List.getElem?_eq_getElem hu⟩
            obtain ⟨z, hz⟩ := hob
            have hob := H.addrR 1 rfl hL (by omega)
            obtain ⟨lb, lo, rfl⟩ := hob
            refine ⟨?_⟩
            refine BB.yes (decide_eq_true (by omega)) ?_
            refine Cn.yes ?_
            refine ⟨?_⟩
            refine ⟨?_⟩
            refine Ix.at u 1 (by kernel_rfl) (rfl) (hu) ?_
            refine H.ldR 1 rfl hL (by omega) (q := u * 1) (by rw [Nat.mul_one]) (v := .int .i64 z) (int_cell hz) ?_
            refine ⟨?_⟩
            refine BB.vr fun q11 e11 => ?_
            cases q11
            ·skip
             have h11 := of_decide_eq_false e11
             refine BB.vr fun q12 e12 => ?_
             cases q12
             ·skip
              have h12 := of_decide_eq_false e12
              refine Cn.no ?_
              refine ⟨?_⟩
              refine IW.by (wrap_id (n := ↑u + 1) (by omega) (by omega)) ?_
              have hone : planOk z = true := by unfold planOk; exact decide_eq_true ⟨by omega, by omega⟩
              exact ⟨u + 1, ⟨rfl, trivial⟩, ⟨⟨by omega, all_step hc.2 hz hone⟩, H⟩, (show pl.length - (u + 1) < pl.length - u by omega)⟩
             ·skip
              have h12 := of_decide_eq_true e12
              refine Cn.yes ?_
              refine ⟨?_⟩
              refine ret1 (fn := Tryd.f30) (.int .i64 4) rfl (by rfl) ?_
              have hcc : checkE ⟨t, m, progsM X, pl, dr⟩ = 4 := by exact checkE_6 (by dsimp only; omega) (by dsimp only; unfold progsM; rw [List.length_map]; omega) hs (by dsimp only; unfold progsM; rw [List.length_map]; omega) (by dsimp only; rw [progs_len]; exact hp) (all_no hz (decide_eq_false (by omega)))
              rw [hcc]
              exact ⟨rfl, H.pick [1] 2 (by decide)⟩
            ·skip
             have h11 := of_decide_eq_true e11
             refine Cn.yes ?_
             refine ⟨?_⟩
             refine ret1 (fn := Tryd.f30) (.int .i64 4) rfl (by rfl) ?_
             have hcc : checkE ⟨t, m, progsM X, pl, dr⟩ = 4 := by exact checkE_6 (by dsimp only; omega) (by dsimp only; unfold progsM; rw [List.length_map]; omega) hs (by dsimp only; unfold progsM; rw [List.length_map]; omega) (by dsimp only; rw [progs_len]; exact hp) (all_no hz (decide_eq_false (by omega)))
             rw [hcc]
             exact ⟨rfl, H.pick [1] 2 (by decide)⟩
           ·skip
            have hob : u = pl.length := by omega
            obtain rfl := hob
            have hlp := hc.2
            rw [List.take_length] at hlp
            refine ⟨?_⟩
            refine BB.no (decide_eq_false (by omega)) ?_
            refine Cn.no ?_
            refine ⟨?_⟩
            refine H.ldi 0 rfl (v := .slice da dr.length dc) rfl ?_
            refine ⟨?_⟩
            refine den.loop (ι := Nat) [(2, 2), (12, 12), (100, 110)] (by kernel_rfl) (fun v => [(100, .int .i64 ↑v)]) (fun v w => (v ≤ dr.length ∧ (dr.take v).all drawOk = true) ∧ SL w (row b1 #[.int .i64 t, .int .i64 m, .slice pa X.length pc, .slice la pl.length lc, .slice da dr.length dc] 46 :: A :: F)) (fun v => dr.length - v) 0 ⟨rfl, trivial⟩ ⟨⟨Nat.zero_le _, rfl⟩, (H)⟩ ?_
            rintro v s w ⟨hc, H⟩
            have hob := Nat.lt_or_ge v dr.length
            rcases hob with hv | hv
            ·skip
             have hob : ∃ z, dr[v]? = some z := ⟨_, List.getElem?_eq_getElem hv⟩
             obtain ⟨y, hy⟩ := hob
             have hob := H.addrR 1 rfl hD (by omega)
             obtain ⟨db, dO, rfl⟩ := hob
             refine ⟨?_⟩
             refine BB.yes (decide_eq_true (by omega)) ?_
             refine Cn.yes ?_
             refine ⟨?_⟩
             refine ⟨?_⟩
             refine Ix.at v 1 (by kernel_rfl) (rfl) (hv) ?_
             refine H.ldR 1 rfl hD (by omega) (q := v * 1) (by rw [Nat.mul_one]) (v := .int .i64 y) (int_cell hy) ?_
             refine ⟨?_⟩
             refine BB.vr fun q13 e13 => ?_
             cases q13
             ·skip
              have h13 := of_decide_eq_false e13
              refine BB.vr fun q14 e14 => ?_
              cases q14
              ·skip
               have h14 := of_decide_eq_false e14
               refine Cn.no ?_
               refine ⟨?_⟩
               refine IW.by (wrap_id (n := ↑v + 1) (by omega) (by omega)) ?_
               have hone : drawOk y = true := by unfold drawOk; exact decide_eq_true ⟨by omega, by omega⟩
               exact ⟨v + 1, ⟨rfl, trivial⟩, ⟨⟨by omega, all_step hc.2 hy hone⟩, H⟩, (show dr.length - (v + 1) < dr.length - v by omega)⟩
              ·skip
               have h14 := of_decide_eq_true e14
               refine Cn.yes ?_
               refine ⟨?_⟩
               refine ret1 (fn := Tryd.f30) (.int .i64 4) rfl (by rfl) ?_
               have hcc : checkE ⟨t, m, progsM X, pl, dr⟩ = 4 := by exact checkE_7 (by dsimp only; omega) (by dsimp only; unfold progsM; rw [List.length_map]; omega) hs (by dsimp only; unfold progsM; rw [List.length_map]; omega) (by dsimp only; rw [progs_len]; exact hp) hlp (all_no hy (decide_eq_false (by omega)))
               rw [hcc]
               exact ⟨rfl, H.pick [1] 2 (by decide)⟩
             ·skip
              have h13 := of_decide_eq_true e13
              refine Cn.yes ?_
              refine ⟨?_⟩
              refine ret1 (fn := Tryd.f30) (.int .i64 4) rfl (by rfl) ?_
              have hcc : checkE ⟨t, m, progsM X, pl, dr⟩ = 4 := by exact checkE_7 (by dsimp only; omega) (by dsimp only; unfold progsM; rw [List.length_map]; omega) hs (by dsimp only; unfold progsM; rw [List.length_map]; omega) (by dsimp only; rw [progs_len]; exact hp) hlp (all_no hy (decide_eq_false (by omega)))
              rw [hcc]
              exact ⟨rfl, H.pick [1] 2 (by decide)⟩
            ·skip
             have hob : v = dr.length := by omega
             obtain rfl := hob
             have hdp := hc.2
             rw [List.take_length] at hdp
             refine ⟨?_⟩
             refine BB.no (decide_eq_false (by omega)) ?_
             refine Cn.no ?_
             refine ⟨?_⟩
             refine ret1 (fn := Tryd.f30) (.int .i64 0) rfl (by rfl) ?_
             have hcc : checkE ⟨t, m, progsM X, pl, dr⟩ = 0 := by exact checkE_0 (by dsimp only; omega) (by dsimp only; unfold progsM; rw [List.length_map]; omega) hs (by dsimp only; unfold progsM; rw [List.length_map]; omega) (by dsimp only; rw [progs_len]; exact hp) hlp hdp
             rw [hcc]
             exact ⟨rfl, H.pick [1] 2 (by decide)⟩
         ·skip
          have h9 := eq_of_beq e9
          refine Cn.yes ?_
          refine ⟨?_⟩
          refine ret1 (fn := Tryd.f30) (.int .i64 4) rfl (by rfl) ?_
          have hcc : checkE ⟨t, m, progsM X, pl, dr⟩ = 4 := by exact checkE_4 (by dsimp only; omega) (by dsimp only; unfold progsM; rw [List.length_map]; omega) hs (by dsimp only; unfold progsM; rw [List.length_map]; omega)
          rw [hcc]
          exact ⟨rfl, H.pick [1] 2 (by decide)⟩
       ·skip
        have h7 := of_decide_eq_true e7
        refine Cn.yes ?_
        refine ⟨?_⟩
        refine ret1 (fn := Tryd.f30) (.int .i64 2) rfl (by rfl) ?_
        have hcc : checkE ⟨t, m, progsM X, pl, dr⟩ = 2 := by exact checkE_2 (by dsimp only; omega) (by dsimp only; unfold progsM; rw [List.length_map]; omega)
        rw [hcc]
        exact ⟨rfl, H.pick [1] 2 (by decide)⟩
      ·skip
       have h6 := of_decide_eq_true e6
       refine Cn.yes ?_
       refine ⟨?_⟩
       refine ret1 (fn := Tryd.f30) (.int .i64 2) rfl (by rfl) ?_
       have hcc : checkE ⟨t, m, progsM X, pl, dr⟩ = 2 := by exact checkE_2 (by dsimp only; omega) (by dsimp only; unfold progsM; rw [List.length_map]; omega)
       rw [hcc]
       exact ⟨rfl, H.pick [1] 2 (by decide)⟩
     ·skip
      have h5 := of_decide_eq_true e5
      refine Cn.yes ?_
      refine ⟨?_⟩
      refine ret1 (fn := Tryd.f30) (.int .i64 2) rfl (by rfl) ?_
      have hcc : checkE ⟨t, m, progsM X, pl, dr⟩ = 2 := by exact checkE_2 (by dsimp only; omega) (by dsimp only; unfold progsM; rw [List.length_map]; omega)
      rw [hcc]
      exact ⟨rfl, H.pick [1] 2 (by decide)⟩
    ·skip
     have h4 := of_decide_eq_true e4
     refine Cn.yes ?_
     refine ⟨?_⟩
     refine ret1 (fn := Tryd.f30) (.int .i64 1) rfl (by rfl) ?_
     have hcc : checkE ⟨t, m, progsM X, pl, dr⟩ = 1 := by exact checkE_1 (by dsimp only; omega)
     rw [hcc]
     exact ⟨rfl, H.pick [1] 2 (by decide)⟩
   ·skip
    have h3 := of_decide_eq_true e3
    refine Cn.yes ?_
    refine ⟨?_⟩
    refine ret1 (fn := Tryd.f30) (.int .i64 1) rfl (by rfl) ?_
    have hcc : checkE ⟨t, m, progsM X, pl, dr⟩ = 1 := by exact checkE_1 (by dsimp only; omega)
    rw [hcc]
    exact ⟨rfl, H.pick [1] 2 (by decide)⟩
  ·skip
   have h2 := of_decide_eq_true e2
   refine Cn.yes ?_
   refine ⟨?_⟩
   refine ret1 (fn := Tryd.f30) (.int .i64 1) rfl (by rfl) ?_
   have hcc : checkE ⟨t, m, progsM X, pl, dr⟩ = 1 := by exact checkE_1 (by dsimp only; omega)
   rw [hcc]
   exact ⟨rfl, H.pick [1] 2 (by decide)⟩
 ·skip
  have h1 := of_decide_eq_true e1
  refine Cn.yes ?_
  refine ⟨?_⟩
  refine ret1 (fn := Tryd.f30) (.int .i64 1) rfl (by rfl) ?_
  have hcc : checkE ⟨t, m, progsM X, pl, dr⟩ = 1 := by exact checkE_1 (by dsimp only; omega)
  rw [hcc]
  exact ⟨rfl, H.pick [1] 2 (by decide)⟩
end Go.Proofs.YtchkaaeoffmjnaaDoor
namespace Go.Proofs.YtchkaaeoffmjnaaDoor
set_option linter.unusedVariables false
set_option linter.unusedSimpArgs false
open Go.RowKit
set_option maxRecDepth 100000
theorem r_new06 {w : World} {F : List Piece} {A : Piece} {la da : Option Addr} {lc dc : Nat} {pl dr : List Int} (hL : Reader A 1 la pl.length (ints pl)) (hD : Reader A 1 da dr.length (ints dr)) (hgp : ∀ z ∈ pl, -1 ≤ z ∧ z ≤ 1000) (hgd : ∀ z ∈ dr, 0 ≤ z ∧ z ≤ 1000) (hpl : pl.length ≤ 200) (hdl : dr.length ≤ 64) (H : SL w (A :: F)) :
  Calls Tryd.prog 31 #[.slice la pl.length lc, .slice da dr.length dc] w fun o w' => ∃ hb, o = .returned (.tuple #[.pointer (some ⟨hb, 0, none⟩), .int .i64 0]) ∧ SL w' (row hb #[.slice la pl.length lc, .slice da dr.length dc, .int .i64 0, .int .i64 0] 102 :: A :: F) := by
 refine calls_den (args := [_, _]) Tryd.func31 rfl (Nat.le_of_ble_eq_true (by kernel_rfl)) (by kernel_rfl) ?_
 refine ⟨?_⟩
 refine ⟨?_⟩
 refine BB.vr fun q1 e1 => ?_
 cases q1
 ·skip
  have h1 := of_decide_eq_false e1
  refine BB.vr fun q2 e2 => ?_
  cases q2
  ·skip
   have h2 := of_decide_eq_false e2
   refine Cn.no ?_
   refine ⟨?_⟩
   refine ⟨?_⟩
   refine den.loop (ι := Nat) [(4, 5), (7, 7), (20, 30)] (by kernel_rfl) (fun u => [(20, .int .i64 ↑u)]) (fun u w => (u ≤ pl.length ∧ (pl.take u).all planOk = true) ∧ SL w (A :: F)) (fun u => pl.length - u) 0 ⟨rfl, trivial⟩ ⟨⟨Nat.zero_le _, rfl⟩, (H)⟩ ?_
   rintro u s w ⟨hc, H⟩
   have hob := Nat.lt_or_ge u pl.length
   rcases hob with hu | hu
   ·skip
    have hob : ∃ z, pl[u]? = some z := ⟨_, List.getElem?_eq_getElem hu⟩
    obtain ⟨z, hz⟩ := hob
    have hob := H.addrR 0 rfl hL (by omega)
    obtain ⟨lb, lo, rfl⟩ := hob
    refine ⟨?_⟩
    refine BB.yes (decide_eq_true (by omega)) ?_
    refine Cn.yes ?_
    refine ⟨?_⟩
    refine ⟨?_⟩
    refine Ix.at u 1 (by kernel_rfl) (rfl) (hu) ?_
    refine H.ldR 0 rfl hL (by omega) (q := u * 1) (by rw [Nat.mul_one]) (v := .int .i64 z) (int_cell hz) ?_
    refine ⟨?_⟩
    refine BB.vr fun q3 e3 => ?_
    cases q3
    ·skip
     have h3 := of_decide_eq_false e3
     refine BB.vr fun q4 e4 => ?_
     cases q4
     ·skip
      have h4 := of_decide_eq_false e4
      refine Cn.no ?_
      refine ⟨?_⟩
      refine IW.by (wrap_id (n := ↑u + 1) (by omega) (by omega)) ?_
      have hone : planOk z = true := by unfold planOk; exact decide_eq_true ⟨by omega, by omega⟩
      exact ⟨u + 1, ⟨rfl, trivial⟩, ⟨⟨by omega, all_step hc.2 hz hone⟩, H⟩, (show pl.length - (u + 1) < pl.length - u by omega)⟩
     ·skip
      have h4 := of_decide_eq_true e4
      refine Cn.yes ?_
      refine ⟨?_⟩
      refine ret2 (fn := Tryd.f31) (.pointer none) (.int .i64 4) rfl (by rfl) (by rfl) ?_
      have hr := hgp z (List.mem_of_getElem? hz)
      exact (by omega : False).elim
    ·skip
     have h3 := of_decide_eq_true e3
     refine Cn.yes ?_
     refine ⟨?_⟩
     refine ret2 (fn := Tryd.f31) (.pointer none) (.int .i64 4) rfl (by rfl) (by rfl) ?_
     have hr := hgp z (List.mem_of_getElem? hz)
     exact (by omega : False).elim
   ·skip
    have hob : u = pl.length := by omega
    obtain rfl := hob
    have hlp := hc.2
    rw [List.take_length] at hlp
    refine ⟨?_⟩
    refine BB.no (decide_eq_false (by omega)) ?_
    refine Cn.no ?_
    refine ⟨?_⟩
    refine ⟨?_⟩
    refine den.loop (ι := Nat) [(4, 5), (9, 9), (33, 43)] (by kernel_rfl) (fun v => [(33, .int .i64 ↑v)]) (fun v w => (v ≤ dr.length ∧ (dr.take v).all drawOk = true) ∧ SL w (A :: F)) (fun v => dr.length - v) 0 ⟨rfl, trivial⟩ ⟨⟨Nat.zero_le _, rfl⟩, (H)⟩ ?_
    rintro v s w ⟨hc, H⟩
    have hob := Nat.lt_or_ge v dr.length
    rcases hob with hv | hv
    ·skip
     have hob : ∃ z, dr[v]? = some z := ⟨_, List.getElem?_eq_getElem hv⟩
     obtain ⟨y, hy⟩ := hob
     have hob := H.addrR 0 rfl hD (by omega)
     obtain ⟨db, dO, rfl⟩ := hob
     refine ⟨?_⟩
     refine BB.yes (decide_eq_true (by omega)) ?_
     refine Cn.yes ?_
     refine ⟨?_⟩
     refine ⟨?_⟩
     refine Ix.at v 1 (by kernel_rfl) (rfl) (hv) ?_
     refine H.ldR 0 rfl hD (by omega) (q := v * 1) (by rw [Nat.mul_one]) (v := .int .i64 y) (int_cell hy) ?_
     refine ⟨?_⟩
     refine BB.vr fun q5 e5 => ?_
     cases q5
     ·skip
      have h5 := of_decide_eq_false e5
      refine BB.vr fun q6 e6 => ?_
      cases q6
      ·skip
       have h6 := of_decide_eq_false e6
       refine Cn.no ?_
       refine ⟨?_⟩
       refine IW.by (wrap_id (n := ↑v + 1) (by omega) (by omega)) ?_
       have hone : drawOk y = true := by unfold drawOk; exact decide_eq_true ⟨by omega, by omega⟩
       exact ⟨v + 1, ⟨rfl, trivial⟩, ⟨⟨by omega, all_step hc.2 hy hone⟩, H⟩, (show dr.length - (v + 1) < dr.length - v by omega)⟩
      ·skip
       have h6 := of_decide_eq_true e6
       refine Cn.yes ?_
       refine ⟨?_⟩
       refine ret2 (fn := Tryd.f31) (.pointer none) (.int .i64 4) rfl (by rfl) (by rfl) ?_
       have hr := hgd y (List.mem_of_getElem? hy)
       exact (by omega : False).elim
     ·skip
      have h5 := of_decide_eq_true e5
      refine Cn.yes ?_
      refine ⟨?_⟩
      refine ret2 (fn := Tryd.f31) (.pointer none) (.int .i64 4) rfl (by rfl) (by rfl) ?_
      have hr := hgd y (List.mem_of_getElem? hy)
      exact (by omega : False).elim
    ·skip
     have hob : v = dr.length := by omega
     obtain rfl := hob
     have hdp := hc.2
     rw [List.take_length] at hdp
     refine ⟨?_⟩
     refine BB.no (decide_eq_false (by omega)) ?_
     refine Cn.no ?_
     refine ⟨?_⟩
     refine Mn.pure (.agg #[.slice la pl.length lc, .slice da dr.length dc, .int .i64 0, .int .i64 0]) (by kernel_rfl) ?_
     refine Nw.as #[.slice la pl.length lc, .slice da dr.length dc, .int .i64 0, .int .i64 0] 102 rfl H fun b47 w H => ?_
     refine ret2 (fn := Tryd.f31) (.pointer (some ⟨b47, 0, none⟩)) (.int .i64 0) rfl (by rfl) (by rfl) ?_
     exact ⟨b47, rfl, H⟩
  ·skip
   have h2 := of_decide_eq_true e2
   refine Cn.yes ?_
   refine ⟨?_⟩
   refine ret2 (fn := Tryd.f31) (.pointer none) (.int .i64 2) rfl (by rfl) (by rfl) ?_
   exact (by omega : False).elim
 ·skip
  have h1 := of_decide_eq_true e1
  refine Cn.yes ?_
  refine ⟨?_⟩
  refine ret2 (fn := Tryd.f31) (.pointer none) (.int .i64 2) rfl (by rfl) (by rfl) ?_
  exact (by omega : False).elim
def nm8 (j i : Nat) : Int := if i < j then -1 else 0
theorem nm_set (a0 a1 a2 a3 a4 a5 a6 a7 tv pv : Value) (j : Nat) (hj : j < 8) :
  #[a0, a1, a2, a3, a4, a5, a6, a7, .int .i64 (nm8 j 0), .int .i64 (nm8 j 1), .int .i64 (nm8 j 2), .int .i64 (nm8 j 3), .int .i64 (nm8 j 4), .int .i64 (nm8 j 5), .int .i64 (nm8 j 6), .int .i64 (nm8 j 7), tv, pv].setIfInBounds (8 + j * 1) (.int .i64 (-1)) =
   #[a0, a1, a2, a3, a4, a5, a6, a7, .int .i64 (nm8 (j + 1) 0), .int .i64 (nm8 (j + 1) 1), .int .i64 (nm8 (j + 1) 2), .int .i64 (nm8 (j + 1) 3), .int .i64 (nm8 (j + 1) 4), .int .i64 (nm8 (j + 1) 5), .int .i64 (nm8 (j + 1) 6), .int .i64 (nm8 (j + 1) 7), tv, pv] := by
 match j, hj with
 | 0, _ | 1, _ | 2, _ | 3, _ | 4, _ | 5, _ | 6, _ | 7, _ => rfl
theorem SL.crewNil {w : World} {F : List Piece} {c : Nat} (H : SL w (row c #[.slice none 0 0] 90 :: F)) : SL w (row c #[.slice none 0 0] 90 :: Slc 125 3 (.slice none 0 0) ([] : List One).length (([] : List One).flatMap One.cells) :: F) := (SL.slcNil 125 3 H).swap
theorem rl_new {w : World} {F : List Piece} {lb hb crb : Nat} {t m : Int} {vp vl vd : Value} (H : SL w (row lb #[.int .i64 t, .int .i64 m, vp, vl, vd, .pointer (some ⟨hb, 0, none⟩), .pointer (some ⟨crb, 0, none⟩), .slice none 0 0, .int .i64 (nm8 8 0), .int .i64 (nm8 8 1), .int .i64 (nm8 8 2), .int .i64 (nm8 8 3), .int .i64 (nm8 8 4), .int .i64 (nm8 8 5), .int .i64 (nm8 8 6), .int .i64 (nm8 8 7), .slice none 0 0, .bool false] 68 ::
   row hb #[vl, vd, .int .i64 0, .int .i64 0] 102 :: RCrewP crb [⟨0, 0, 0⟩] :: F)) : SL w (RlP lb ⟨t, m, vp, vl, vd⟩ newL :: F) :=
 RlP.iff.2 ⟨hb, crb, .slice none 0 0, .slice none 0 0, [], ⟨rfl, rfl⟩, (SL.slcNil 127 1 (SL.all.2 (SL.slcNil 33 8 H) : SL w (RsP [] [] :: _))).pick [3, 4, 5, 0, 1, 2] 6 (by decide)⟩
set_option maxHeartbeats 4000000 in
theorem r_new13 {w : World} {F : List Piece} {A : Piece} {pa la da : Option Addr} {pc lc dc : Nat} {t m : Int} {X : List ProgX} {pl dr : List Int} (hX : 0 < X.length → ∃ b off, pa = some ⟨b, off, none⟩ ∧ ScrA A b off X) (hL : Reader A 1 la pl.length (ints pl)) (hD : Reader A 1 da dr.length (ints dr)) (hgp : ∀ z ∈ pl, -1 ≤ z ∧ z ≤ 1000) (hgd : ∀ z ∈ dr, 0 ≤ z ∧ z ≤ 1000) (hpl : pl.length ≤ 200) (hdl : dr.length ≤ 64) (hck : checkE ⟨t, m, progsM X, pl, dr⟩ = 0) (H : SL w (A :: F)) :
  Calls Tryd.prog 19 #[.agg #[.int .i64 t, .int .i64 m, .slice pa X.length pc, .slice la pl.length lc, .slice da dr.length dc]] w fun o w' => ∃ lb, o = .returned (.tuple #[.pointer (some ⟨lb, 0, none⟩), .int .i64 0]) ∧ SL w' (RlP lb ⟨t, m, .slice pa X.length pc, .slice la pl.length lc, .slice da dr.length dc⟩ newL :: A :: F) := by
 refine calls_den (args := [_]) Tryd.func19 rfl (Nat.le_of_ble_eq_true (by kernel_rfl)) (by kernel_rfl) ?_
 refine ⟨?_⟩
 refine Nw.as #[.int .i64 t, .int .i64 m, .slice pa X.length pc, .slice la pl.length lc, .slice da dr.length dc] 46 rfl H fun b1 w H => ?_
 refine ⟨?_⟩
 refine H.ldi 0 rfl (v := .int .i64 t) rfl ?_
 refine H.ldi 0 rfl (v := .int .i64 m) rfl ?_
 refine H.ldi 0 rfl (v := .slice pa X.length pc) rfl ?_
 refine H.ldi 0 rfl (v := .slice la pl.length lc) rfl ?_
 refine H.ldi 0 rfl (v := .slice da dr.length dc) rfl ?_
 have h1 := H.pick [1, 0] 2 (by decide)
 simp only [pk, nth, pkA, pkB, pkC, pkD, pkE, pkF] at h1
 refine Cl.sl (by kernel_rfl) (r_check05 hX hL hD h1) fun w H => ?_
 replace H := H.pick [1, 0] 2 (by decide)
 simp only [pk, nth, pkA, pkB, pkC, pkD, pkE, pkF] at H
 rw [hck]
 refine ⟨?_⟩
 refine BB.no rfl ?_
 refine Cn.no ?_
 refine ⟨?_⟩
 refine H.ldi 0 rfl (v := .slice la pl.length lc) rfl ?_
 refine H.ldi 0 rfl (v := .slice da dr.length dc) rfl ?_
 have h1 := H.pick [1, 0] 2 (by decide)
 simp only [pk, nth, pkA, pkB, pkC, pkD, pkE, pkF] at h1
 refine Cl.by (by kernel_rfl) (r_new06 hL hD hgp hgd hpl hdl h1) ?_
 rintro _ w ⟨hb, rfl, H⟩
 refine ⟨_, rfl, ?_⟩
 replace H := H.pick [0, 2, 1] 3 (by decide)
 simp only [pk, nth, pkA, pkB, pkC, pkD, pkE, pkF] at H
 refine ⟨?_⟩
 refine H.ldi 1 rfl (v := .int .i64 t) rfl ?_
 refine H.ldi 1 rfl (v := .int .i64 m) rfl ?_
 refine H.ldi 1 rfl (v := .slice pa X.length pc) rfl ?_
 refine H.ldi 1 rfl (v := .slice la pl.length lc) rfl ?_
 refine H.ldi 1 rfl (v := .slice da dr.length dc) rfl ?_
 refine Mn.pure (.agg #[.slice none 0 0]) (by kernel_rfl) ?_
 refine Nw.as #[.slice none 0 0] 90 rfl H fun b25 w H => ?_
 refine Mn.pure (.agg #[.int .i64 t, .int .i64 m, .slice pa X.length pc, .slice la pl.length lc, .slice da dr.length dc, .pointer (some ⟨hb, 0, none⟩), .pointer (some ⟨b25, 0, none⟩), .slice none 0 0, .int .i64 0, .int .i64 0, .int .i64 0, .int .i64 0, .int .i64 0, .int .i64 0, .int .i64 0, .int .i64 0, .slice none 0 0, .bool false]) (by kernel_rfl) ?_
 refine Nw.as #[.int .i64 t, .int .i64 m, .slice pa X.length pc, .slice la pl.length lc, .slice da dr.length dc, .pointer (some ⟨hb, 0, none⟩), .pointer (some ⟨b25, 0, none⟩), .slice none 0 0, .int .i64 0, .int .i64 0, .int .i64 0, .int .i64 0, .int .i64 0, .int .i64 0, .int .i64 0, .int .i64 0, .slice none 0 0, .bool false] 68 rfl H fun b27 w H => ?_
 refine ⟨?_⟩
 refine ⟨?_⟩
 refine den.loop (ι := Nat) [(8, 8), (28, 36)] (by kernel_rfl) (fun j => [(8, .int .i64 ↑j)]) (fun j w => j ≤ 8 ∧ SL w (row b27 #[.int .i64 t, .int .i64 m, .slice pa X.length pc, .slice la pl.length lc, .slice da dr.length dc, .pointer (some ⟨hb, 0, none⟩), .pointer (some ⟨b25, 0, none⟩), .slice none 0 0, .int .i64 (nm8 j 0), .int .i64 (nm8 j 1), .int .i64 (nm8 j 2), .int .i64 (nm8 j 3), .int .i64 (nm8 j 4), .int .i64 (nm8 j 5), .int .i64 (nm8 j 6), .int .i64 (nm8 j 7), .slice none 0 0, .bool false] 68 :: row b25 #[.slice none 0 0] 90 :: row hb #[.slice la pl.length lc, .slice da dr.length dc, .int .i64 0, .int .i64 0] 102 :: A :: F)) (fun j => 8 - j) 0 ⟨rfl, trivial⟩ ⟨Nat.zero_le _, (H.pick [0, 1, 2, 4] 5 (by decide))⟩ ?_
 rintro j s w ⟨hc, H⟩
 have h8 : j < 8 ∨ j = 8 := by omega
 rcases h8 with hj | rfl
 ·skip
  refine ⟨?_⟩
  refine BB.yes (decide_eq_true (by omega)) ?_
  refine Cn.yes ?_
  refine ⟨?_⟩
  refine ⟨?_⟩
  refine Ix.at j 1 (by kernel_rfl) rfl hj ?_
  refine H.st0 (cs' := #[.int .i64 t, .int .i64 m, .slice pa X.length pc, .slice la pl.length lc, .slice da dr.length dc, .pointer (some ⟨hb, 0, none⟩), .pointer (some ⟨b25, 0, none⟩), .slice none 0 0, .int .i64 (nm8 (j + 1) 0), .int .i64 (nm8 (j + 1) 1), .int .i64 (nm8 (j + 1) 2), .int .i64 (nm8 (j + 1) 3), .int .i64 (nm8 (j + 1) 4), .int .i64 (nm8 (j + 1) 5), .int .i64 (nm8 (j + 1) 6), .int .i64 (nm8 (j + 1) 7), .slice none 0 0, .bool false]) (nm_set _ _ _ _ _ _ _ _ _ _ j hj) (by simp [Nat.blt_eq]; omega) rfl fun w H => ?_
  refine ⟨?_⟩
  refine IW.by (wrap_id (n := ↑j + 1) (by omega) (by omega)) ?_
  exact ⟨j + 1, ⟨rfl, trivial⟩, ⟨(show j + 1 ≤ 8 by omega), H⟩, (show 8 - (j + 1) < 8 - j by omega)⟩
 ·skip
  refine ⟨?_⟩
  refine BB.no rfl ?_
  refine Cn.no ?_
  refine ⟨?_⟩
  refine H.ldi 0 rfl (v := .pointer (some ⟨b25, 0, none⟩)) rfl ?_
  replace H := H.pick [1, 0, 2, 3] 4 (by decide)
  simp only [pk, nth, pkA, pkB, pkC, pkD, pkE, pkF] at H
  replace H := ones_shut (H.crewNil)
  refine Cl.sl (by kernel_rfl) (q_spawn (L := []) (Nat.zero_le _) 0 H) fun w H => ?_
  refine ⟨?_⟩
  refine ret2 (fn := Tryd.f19) (.pointer (some ⟨b27, 0, none⟩)) (.int .i64 0) rfl (by rfl) (by rfl) ?_
  have q := H.pick [1, 2, 0, 3] 4 (by decide)
  simp only [pk, nth, pkA, pkB, pkC, pkD, pkE, pkF] at q
  exact ⟨b27, rfl, rl_new (q.pick [0, 1, 2, 3] 4 (by decide))⟩
end Go.Proofs.YtchkaaeoffmjnaaDoor
