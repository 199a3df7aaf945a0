/- Texts of the proof. -/
import Derived.Test.YtoamjodmidbmbaaGreatDoorX08
set_option linter.unusedVariables false
set_option linter.unusedSimpArgs false
namespace Go.Proofs.YtoamjodmidbmbaaGreatDoor
open Go.RowKit
set_option maxRecDepth 100000
theorem r_within04 {w : World} {F : List Piece} (n c np : Int) (H : SL w F) : Calls Tryz.prog 159 #[.int .i64 n, .int .u8 c, .int .i64 np] w fun o w' => o = .returned (.bool (withinF n c np)) ∧ SL w' F := by
 refine calls_d (args := [_, _, _]) Tryz.func159 rfl ?_
 refine ⟨⟨⟨⟨BB.vr fun q1 e1 => ?_⟩⟩⟩⟩
 cases q1
 ·have h1 := neq_of e1
  refine Cn.no (⟨BB.vr fun q2 e2 => ?_⟩)
  cases q2
  ·have h2 := neq_of e2
   refine Cn.no (⟨BB.vr fun q3 e3 => ?_⟩)
   cases q3
   ·have h3 := neq_of e3
    refine Cn.no (⟨BB.vr fun q4 e4 => ?_⟩)
    cases q4
    ·have h4 := neq_of e4
     refine Cn.no (⟨BB.vr fun q5 e5 => ?_⟩)
     cases q5
     ·have h5 := neq_of e5
      refine Cn.no (⟨BB.k ?_⟩)
      refine ret1 (.bool (n == 0)) rfl (by rfl) ?_
      have hc : withinF n c np = (n == 0) := by unfold withinF; first | (simp [*]; done) | (simp [*]; omega)
      rw [hc]
      exact ⟨rfl, H⟩
     have h5 := eq_of_beq e5
     refine Cn.yes (⟨BB.vr fun q6 e6 => ?_⟩)
     cases q6
     ·have h6 := of_decide_eq_false e6
      refine ret1 (.bool false) rfl (by rfl) ?_
      have hc : withinF n c np = (false) := by unfold withinF; first | (simp [*]; done) | (simp [*]; omega)
      rw [hc]
      exact ⟨rfl, H⟩
     have h6 := of_decide_eq_true e6
     refine BB.k (ret1 (.bool (decide (n ≤ 99))) rfl (by rfl) ?_)
     have hc : withinF n c np = (decide (n ≤ 99)) := by unfold withinF; first | (simp [*]; done) | (simp [*]; omega)
     rw [hc]
     exact ⟨rfl, H⟩
    have h4 := eq_of_beq e4
    refine Cn.yes (⟨BB.vr fun q7 e7 => ?_⟩)
    cases q7
    ·have h7 := of_decide_eq_false e7
     refine ret1 (.bool false) rfl (by rfl) ?_
     have hc : withinF n c np = (false) := by unfold withinF; first | (simp [*]; done) | (simp [*]; omega)
     rw [hc]
     exact ⟨rfl, H⟩
    have h7 := of_decide_eq_true e7
    refine BB.k (ret1 (.bool (decide (n ≤ 4))) rfl (by rfl) ?_)
    have hc : withinF n c np = (decide (n ≤ 4)) := by unfold withinF; first | (simp [*]; done) | (simp [*]; omega)
    rw [hc]
    exact ⟨rfl, H⟩
   have h3 := eq_of_beq e3
   refine Cn.yes (⟨BB.vr fun q8 e8 => ?_⟩)
   cases q8
   ·have h8 := of_decide_eq_false e8
    refine ret1 (.bool false) rfl (by rfl) ?_
    have hc : withinF n c np = (false) := by unfold withinF; first | (simp [*]; done) | (simp [*]; omega)
    rw [hc]
    exact ⟨rfl, H⟩
   have h8 := of_decide_eq_true e8
   refine BB.k (ret1 (.bool (decide (n < 8))) rfl (by rfl) ?_)
   have hc : withinF n c np = (decide (n < 8)) := by unfold withinF; first | (simp [*]; done) | (simp [*]; omega)
   rw [hc]
   exact ⟨rfl, H⟩
  have h2 := eq_of_beq e2
  refine Cn.yes (Cn.yes (⟨BB.vr fun q9 e9 => ?_⟩))
  cases q9
  ·have h9 := of_decide_eq_false e9
   refine ret1 (.bool false) rfl (by rfl) ?_
   have hc : withinF n c np = (false) := by unfold withinF; first | (simp [*]; done) | (simp [*]; omega)
   rw [hc]
   exact ⟨rfl, H⟩
  have h9 := of_decide_eq_true e9
  refine BB.k (ret1 (.bool (decide (n < 8))) rfl (by rfl) ?_)
  have hc : withinF n c np = (decide (n < 8)) := by unfold withinF; first | (simp [*]; done) | (simp [*]; omega)
  rw [hc]
  exact ⟨rfl, H⟩
 have h1 := eq_of_beq e1
 refine Cn.yes (⟨BB.vr fun q10 e10 => ?_⟩)
 cases q10
 ·have h10 := of_decide_eq_false e10
  refine ret1 (.bool false) rfl (by rfl) ?_
  have hc : withinF n c np = (false) := by unfold withinF; first | (simp [*]; done) | (simp [*]; omega)
  rw [hc]
  exact ⟨rfl, H⟩
 have h10 := of_decide_eq_true e10
 refine BB.k (ret1 (.bool (decide (n < np))) rfl (by rfl) ?_)
 have hc : withinF n c np = (decide (n < np)) := by unfold withinF; first | (simp [*]; done) | (simp [*]; omega)
 rw [hc]
 exact ⟨rfl, H⟩
theorem r_row04 {w : World} {F : List Piece} {k : Int} (h1 : 1 ≤ k) (h9 : k ≤ 9) (H : SL w F) : Calls Tryz.prog 158 #[.int .i64 k] w fun o w' => ∃ c0 c1 : UInt8, o = .returned (.string { data := #[c0, c1] }) ∧ ((c0.toNat : Int), (c1.toNat : Int)) = rowF k ∧ SL w' F := by
 have hk : k = 1 ∨ k = 2 ∨ k = 3 ∨ k = 4 ∨ k = 5 ∨ k = 6 ∨ k = 7 ∨ k = 8 ∨ k = 9 := by omega
 rcases hk with rfl | rfl | rfl | rfl | rfl | rfl | rfl | rfl | rfl

 ·refine calls_d (args := [_]) Tryz.func158 rfl ?_
  refine ⟨⟨Mn.new (fun b => .slice (some ⟨b, 0, none⟩) 10 10) #[.string { data := #[] }, .string { data := #[112, 46] }, .string { data := #[99, 109] }, .string { data := #[99, 118] }, .string { data := #[99, 46] }, .string { data := #[99, 46] }, .string { data := #[46, 46] }, .string { data := #[120, 46] }, .string { data := #[120, 46] }, .string { data := #[46, 46] }] 9 (by kernel_rfl) H fun b3 w H => ?_⟩⟩
  refine Ix.at0 1 1 (by kernel_rfl) rfl (by decide) ?_
  refine H.ldi 0 rfl (v := .string { data := #[112, 46] }) rfl (ret1 (.string { data := #[112, 46] }) rfl (by rfl) ?_)
  exact ⟨_, _, rfl, by decide, H.tl⟩
 ·refine calls_d (args := [_]) Tryz.func158 rfl ?_
  refine ⟨⟨Mn.new (fun b => .slice (some ⟨b, 0, none⟩) 10 10) #[.string { data := #[] }, .string { data := #[112, 46] }, .string { data := #[99, 109] }, .string { data := #[99, 118] }, .string { data := #[99, 46] }, .string { data := #[99, 46] }, .string { data := #[46, 46] }, .string { data := #[120, 46] }, .string { data := #[120, 46] }, .string { data := #[46, 46] }] 9 (by kernel_rfl) H fun b3 w H => ?_⟩⟩
  refine Ix.at0 2 1 (by kernel_rfl) rfl (by decide) ?_
  refine H.ldi 0 rfl (v := .string { data := #[99, 109] }) rfl (ret1 (.string { data := #[99, 109] }) rfl (by rfl) ?_)
  exact ⟨_, _, rfl, by decide, H.tl⟩
 ·refine calls_d (args := [_]) Tryz.func158 rfl ?_
  refine ⟨⟨Mn.new (fun b => .slice (some ⟨b, 0, none⟩) 10 10) #[.string { data := #[] }, .string { data := #[112, 46] }, .string { data := #[99, 109] }, .string { data := #[99, 118] }, .string { data := #[99, 46] }, .string { data := #[99, 46] }, .string { data := #[46, 46] }, .string { data := #[120, 46] }, .string { data := #[120, 46] }, .string { data := #[46, 46] }] 9 (by kernel_rfl) H fun b3 w H => ?_⟩⟩
  refine Ix.at0 3 1 (by kernel_rfl) rfl (by decide) ?_
  refine H.ldi 0 rfl (v := .string { data := #[99, 118] }) rfl (ret1 (.string { data := #[99, 118] }) rfl (by rfl) ?_)
  exact ⟨_, _, rfl, by decide, H.tl⟩
 ·refine calls_d (args := [_]) Tryz.func158 rfl ?_
  refine ⟨⟨Mn.new (fun b => .slice (some ⟨b, 0, none⟩) 10 10) #[.string { data := #[] }, .string { data := #[112, 46] }, .string { data := #[99, 109] }, .string { data := #[99, 118] }, .string { data := #[99, 46] }, .string { data := #[99, 46] }, .string { data := #[46, 46] }, .string { data := #[120, 46] }, .string { data := #[120, 46] }, .string { data := #[46, 46] }] 9 (by kernel_rfl) H fun b3 w H => ?_⟩⟩
  refine Ix.at0 4 1 (by kernel_rfl) rfl (by decide) ?_
  refine H.ldi 0 rfl (v := .string { data := #[99, 46] }) rfl (ret1 (.string { data := #[99, 46] }) rfl (by rfl) ?_)
  exact ⟨_, _, rfl, by decide, H.tl⟩
 ·refine calls_d (args := [_]) Tryz.func158 rfl ?_
  refine ⟨⟨Mn.new (fun b => .slice (some ⟨b, 0, none⟩) 10 10) #[.string { data := #[] }, .string { data := #[112, 46] }, .string { data := #[99, 109] }, .string { data := #[99, 118] }, .string { data := #[99, 46] }, .string { data := #[99, 46] }, .string { data := #[46, 46] }, .string { data := #[120, 46] }, .string { data := #[120, 46] }, .string { data := #[46, 46] }] 9 (by kernel_rfl) H fun b3 w H => ?_⟩⟩
  refine Ix.at0 5 1 (by kernel_rfl) rfl (by decide) ?_
  refine H.ldi 0 rfl (v := .string { data := #[99, 46] }) rfl (ret1 (.string { data := #[99, 46] }) rfl (by rfl) ?_)
  exact ⟨_, _, rfl, by decide, H.tl⟩
 ·refine calls_d (args := [_]) Tryz.func158 rfl ?_
  refine ⟨⟨Mn.new (fun b => .slice (some ⟨b, 0, none⟩) 10 10) #[.string { data := #[] }, .string { data := #[112, 46] }, .string { data := #[99, 109] }, .string { data := #[99, 118] }, .string { data := #[99, 46] }, .string { data := #[99, 46] }, .string { data := #[46, 46] }, .string { data := #[120, 46] }, .string { data := #[120, 46] }, .string { data := #[46, 46] }] 9 (by kernel_rfl) H fun b3 w H => ?_⟩⟩
  refine Ix.at0 6 1 (by kernel_rfl) rfl (by decide) ?_
  refine H.ldi 0 rfl (v := .string { data := #[46, 46] }) rfl (ret1 (.string { data := #[46, 46] }) rfl (by rfl) ?_)
  exact ⟨_, _, rfl, by decide, H.tl⟩
 ·refine calls_d (args := [_]) Tryz.func158 rfl ?_
  refine ⟨⟨Mn.new (fun b => .slice (some ⟨b, 0, none⟩) 10 10) #[.string { data := #[] }, .string { data := #[112, 46] }, .string { data := #[99, 109] }, .string { data := #[99, 118] }, .string { data := #[99, 46] }, .string { data := #[99, 46] }, .string { data := #[46, 46] }, .string { data := #[120, 46] }, .string { data := #[120, 46] }, .string { data := #[46, 46] }] 9 (by kernel_rfl) H fun b3 w H => ?_⟩⟩
  refine Ix.at0 7 1 (by kernel_rfl) rfl (by decide) ?_
  refine H.ldi 0 rfl (v := .string { data := #[120, 46] }) rfl (ret1 (.string { data := #[120, 46] }) rfl (by rfl) ?_)
  exact ⟨_, _, rfl, by decide, H.tl⟩
 ·refine calls_d (args := [_]) Tryz.func158 rfl ?_
  refine ⟨⟨Mn.new (fun b => .slice (some ⟨b, 0, none⟩) 10 10) #[.string { data := #[] }, .string { data := #[112, 46] }, .string { data := #[99, 109] }, .string { data := #[99, 118] }, .string { data := #[99, 46] }, .string { data := #[99, 46] }, .string { data := #[46, 46] }, .string { data := #[120, 46] }, .string { data := #[120, 46] }, .string { data := #[46, 46] }] 9 (by kernel_rfl) H fun b3 w H => ?_⟩⟩
  refine Ix.at0 8 1 (by kernel_rfl) rfl (by decide) ?_
  refine H.ldi 0 rfl (v := .string { data := #[120, 46] }) rfl (ret1 (.string { data := #[120, 46] }) rfl (by rfl) ?_)
  exact ⟨_, _, rfl, by decide, H.tl⟩
 refine calls_d (args := [_]) Tryz.func158 rfl ?_
 refine ⟨⟨Mn.new (fun b => .slice (some ⟨b, 0, none⟩) 10 10) #[.string { data := #[] }, .string { data := #[112, 46] }, .string { data := #[99, 109] }, .string { data := #[99, 118] }, .string { data := #[99, 46] }, .string { data := #[99, 46] }, .string { data := #[46, 46] }, .string { data := #[120, 46] }, .string { data := #[120, 46] }, .string { data := #[46, 46] }] 9 (by kernel_rfl) H fun b3 w H => ?_⟩⟩
 refine Ix.at0 9 1 (by kernel_rfl) rfl (by decide) ?_
 refine H.ldi 0 rfl (v := .string { data := #[46, 46] }) rfl (ret1 (.string { data := #[46, 46] }) rfl (by rfl) ?_)
 exact ⟨_, _, rfl, by decide, H.tl⟩
section
variable {np k a b : Int} {cs : List CaseM} {df : Bool}
theorem opE_w (h1 : ¬ (np < 1 ∨ 8 < np ∨ k < 1 ∨ 9 < k)) (h2 : ¬ 4 < cs.length) (h3 : ¬ (withinF a (rowF k).1 np = true ∧ withinF b (rowF k).2 np = true)) : opE np ⟨k, a, b, cs, df⟩ = 4 := by
 unfold opE
 rw [if_neg h1, if_neg h2, if_pos h3]
theorem opE_s (h1 : ¬ (np < 1 ∨ 8 < np ∨ k < 1 ∨ 9 < k)) (h2 : ¬ 4 < cs.length) (h4 : k ≠ 6 ∧ (cs.length ≠ 0 ∨ df = true)) : opE np ⟨k, a, b, cs, df⟩ = 4 := by
 unfold opE
 dsimp only
 rw [if_neg h1, if_neg h2]
 by_cases h3 : withinF a (rowF k).1 np = true ∧ withinF b (rowF k).2 np = true
 ·rw [if_neg (fun h => h h3), if_pos h4]
 ·rw [if_pos h3]
theorem opE_c (h1 : ¬ (np < 1 ∨ 8 < np ∨ k < 1 ∨ 9 < k)) (h2 : ¬ 4 < cs.length) (h5 : cs.all caseR = false) : opE np ⟨k, a, b, cs, df⟩ = 4 := by
 unfold opE
 dsimp only
 rw [if_neg h1, if_neg h2]
 by_cases h3 : withinF a (rowF k).1 np = true ∧ withinF b (rowF k).2 np = true
 ·rw [if_neg (fun h => h h3)]
  by_cases h4 : k ≠ 6 ∧ (cs.length ≠ 0 ∨ df = true)
  ·rw [if_pos h4]
  ·rw [if_neg h4, if_neg (by simp [h5])]
 ·rw [if_pos h3]
theorem opE_0 (h1 : ¬ (np < 1 ∨ 8 < np ∨ k < 1 ∨ 9 < k)) (h2 : ¬ 4 < cs.length) (h3 : withinF a (rowF k).1 np = true ∧ withinF b (rowF k).2 np = true) (h4 : ¬ (k ≠ 6 ∧ (cs.length ≠ 0 ∨ df = true))) (h5 : cs.all caseR = true) : opE np ⟨k, a, b, cs, df⟩ = 0 := by
 unfold opE
 rw [if_neg h1, if_neg h2, if_neg (fun h => h h3), if_neg h4, if_pos h5]
end
set_option maxHeartbeats 4000000 in
theorem r_check04 {w : World} {F : List Piece} {A : Piece} {ca : Option Addr} {cc : Nat} {ok oa ob np : Int} {cs : List CaseM} {df : Bool} (hA : Reader A 3 ca cs.length (cs.flatMap CaseM.cells)) (H : SL w (A :: F)) :
  Calls Tryz.prog 131 #[.agg #[.int .i64 ok, .int .i64 oa, .int .i64 ob, .slice ca cs.length cc, .bool df], .int .i64 np] w fun o w' => o = .returned (.int .i64 (opE np ⟨ok, oa, ob, cs, df⟩)) ∧ SL w' (A :: F) := by
 refine calls_d (args := [_, _]) Tryz.func131 rfl ?_
 refine ⟨Nw.as #[.int .i64 ok, .int .i64 oa, .int .i64 ob, .slice ca cs.length cc, .bool df] 64 rfl H fun b2 w H => ?_⟩
 refine ⟨BB.vr fun q1 e1 => ?_⟩
 cases q1
 ·have h1 := of_decide_eq_false e1
  refine BB.vr fun q2 e2 => ?_
  cases q2
  ·have h2 := of_decide_eq_false e2
   refine H.ldi 0 rfl (v := .int .i64 ok) rfl (BB.vr fun q3 e3 => ?_)
   cases q3
   ·have h3 := of_decide_eq_false e3
    refine H.ldi 0 rfl (v := .int .i64 ok) rfl (BB.vr fun q4 e4 => ?_)
    cases q4
    ·have h4 := of_decide_eq_false e4
     refine Cn.no (⟨H.ldi 0 rfl (v := .slice ca cs.length cc) rfl ?_⟩)
     refine BB.vr fun q5 e5 => ?_
     cases q5
     ·have h5 := of_decide_eq_false e5
      refine Cn.no (⟨H.ldi 0 rfl (v := .int .i64 ok) rfl ?_⟩)
      refine Cl.b (r_row04 (by omega) (by omega) H) ?_
      rintro _ w ⟨c0, c1, rfl, hrow, H⟩
      refine ⟨_, rfl, ?_⟩
      refine ⟨Drw.oft (.calm 0 (.calm 1 (.calm 2 (.calm 3 (.calm 4 (.act 5 true (.pure 6 (.pure 7 (.pure 8 (.pure 10 (.pure 11 (.pure 12 (.act 9 true (.act 13 true (.pure 14 (.pure 15 .nil)))))))))))))))) (by kernel_rfl) mixed (fun w => SL w _) H.drew ?_⟩
      replace H := H.drew
      refine LdC.i 0 rfl (v := .int .i64 oa) rfl (MnC.pure (.int .u8 (c0.toNat : Int)) (fun _ => by kernel_rfl) ?_)
      refine Cl.s (r_within04 oa (c0.toNat : Int) np H) fun w H => ?_
      refine BB.vr fun q6 e6 => ?_
      refine ⟨.inl rfl, ?_⟩
      cases q6
      ·refine BB.yes rfl (Cn.yes (⟨ret1 (.int .i64 4) rfl (by rfl) ?_⟩))
       have hcc : opE np ⟨ok, oa, ob, cs, df⟩ = 4 := by exact opE_w (by omega) (by omega) (by rw [← hrow]; simp [*])
       rw [hcc]
       exact ⟨rfl, H.pi [1] 2⟩
      refine BB.no rfl (MnC.pure (.int .u8 (c1.toNat : Int)) (fun _ => by kernel_rfl) ?_)
      refine H.ldi 0 rfl (v := .int .i64 ob) rfl (⟨.inl rfl, ?_⟩)
      refine Cl.s (r_within04 ob (c1.toNat : Int) np H) fun w H => ?_
      refine BB.vr fun q7 e7 => ?_
      refine ⟨.inl rfl, ?_⟩
      cases q7
      ·refine BB.yes rfl (Cn.yes (⟨ret1 (.int .i64 4) rfl (by rfl) ?_⟩))
       have hcc : opE np ⟨ok, oa, ob, cs, df⟩ = 4 := by exact opE_w (by omega) (by omega) (by rw [← hrow]; simp [*])
       rw [hcc]
       exact ⟨rfl, H.pi [1] 2⟩
      refine BB.no rfl (Cn.no (⟨H.ldi 0 rfl (v := .int .i64 ok) rfl ?_⟩))
      refine BB.vr fun q8 e8 => ?_
      cases q8
      ·have h8 := bne_eq_false_iff_eq.1 e8
       refine Cn.no (⟨H.ldi 0 rfl (v := .slice ca cs.length cc) rfl ?_⟩)
       refine ⟨den.loop (ι := Nat) [(4, 4), (7, 7), (63, 91)] (by kernel_rfl) (fun j => [(63, .int .i64 ↑j)]) (fun j w => (j ≤ cs.length ∧ (cs.take j).all caseR = true) ∧ SL w (row b2 #[.int .i64 ok, .int .i64 oa, .int .i64 ob, .slice ca cs.length cc, .bool df] 64 :: A :: F)) (fun j => cs.length - j) 0 ⟨rfl, trivial⟩ ⟨⟨Nat.zero_le _, rfl⟩, (H)⟩ ?_⟩
       rintro j s w ⟨hc, H⟩
       have hob := Nat.lt_or_ge j cs.length
       rcases hob with hj | hj
       ·have hob : ∃ z, cs[j]? = some z := ⟨_, get_of hj⟩
        obtain ⟨cz, hcz⟩ := hob
        have hob := H.addrR 1 rfl hA (by omega)
        obtain ⟨cb, co, rfl⟩ := hob
        refine ⟨BB.yd ?_⟩
        refine Cn.yes (⟨⟨Ix.at j 3 (by kernel_rfl) (rfl) (hj) ?_⟩⟩)
        refine H.ldR 1 rfl hA (by omega) (q := j * 3 + 0) rfl (v := .bool cz.send) ((case_cell hcz 0 (by decide)).trans rfl) (H.ldR 1 rfl hA (by omega) (q := j * 3 + 1) rfl (v := .int .i64 cz.chan) ((case_cell hcz 1 (by decide)).trans rfl) (H.ldR 1 rfl hA (by omega) (q := j * 3 + 2) rfl (v := .int .i64 cz.value) ((case_cell hcz 2 (by decide)).trans rfl) (Nw.as #[.bool false, .int .i64 0, .int .i64 0] 162 rfl H fun b7 w H => ?_)))
        refine H.st0 (cs' := #[.bool cz.send, .int .i64 0, .int .i64 0]) rfl rfl rfl fun w H => ?_
        refine H.st0 (cs' := #[.bool cz.send, .int .i64 cz.chan, .int .i64 0]) rfl rfl rfl fun w H => ?_
        refine H.st0 (cs' := #[.bool cz.send, .int .i64 cz.chan, .int .i64 cz.value]) rfl rfl rfl fun w H => ?_
        refine ⟨H.ldi 0 rfl (v := .int .i64 cz.chan) rfl ?_⟩
        refine Cl.s (r_within04 cz.chan 99 0 H) fun w H => ?_
        refine BB.vr fun q9 e9 => ?_
        cases q9
        ·refine BB.yes rfl (Cn.yes (⟨ret1 (.int .i64 4) rfl (by rfl) ?_⟩))
         have hcc : opE np ⟨ok, oa, ob, cs, df⟩ = 4 := by exact opE_c (by omega) (by omega) (all_no hcz (by unfold caseR; first | (simp [*]; done) | (simp_all; done)))
         rw [hcc]
         exact ⟨rfl, H.pi [2] 3⟩
        refine BB.no rfl (H.ldi 0 rfl (v := .bool cz.send) rfl (BB.vr fun q10 e10 => ?_))
        cases q10
        ·refine H.ldi 0 rfl (v := .bool cz.send) rfl (BB.vr fun q11 e11 => ?_)
         cases q11
         ·refine BB.yes rfl (H.ldi 0 rfl (v := .int .i64 cz.value) rfl (BB.vr fun q12 e12 => ?_))
          cases q12
          ·have h12 := bne_eq_false_iff_eq.1 e12
           refine Cn.no (⟨IW.i j ?_⟩)
           have hcase : caseR cz = true := by unfold caseR; first | (simp [*]; done) | (simp_all; done)
           exact ⟨j + 1, ⟨rfl, trivial⟩, ⟨⟨by omega, all_step hc.2 hcz hcase⟩, H.pi [1, 2] 3⟩, (show cs.length - (j + 1) < cs.length - j by omega)⟩
          have h12 := bne_iff_ne.1 e12
          refine Cn.yes (⟨ret1 (.int .i64 4) rfl (by rfl) ?_⟩)
          have hcc : opE np ⟨ok, oa, ob, cs, df⟩ = 4 := by exact opE_c (by omega) (by omega) (all_no hcz (by unfold caseR; first | (simp [*]; done) | (simp_all; done)))
          rw [hcc]
          exact ⟨rfl, H.pi [2] 3⟩
         refine BB.no rfl (Cn.no (⟨IW.i j ?_⟩))
         have hcase : caseR cz = true := by unfold caseR; first | (simp [*]; done) | (simp_all; done)
         exact ⟨j + 1, ⟨rfl, trivial⟩, ⟨⟨by omega, all_step hc.2 hcz hcase⟩, H.pi [1, 2] 3⟩, (show cs.length - (j + 1) < cs.length - j by omega)⟩
        refine H.ldi 0 rfl (v := .int .i64 cz.value) rfl (Cl.s (r_within04 cz.value 118 0 H) fun w H => ?_)
        refine BB.vr fun q13 e13 => ?_
        cases q13
        ·refine BB.yes rfl (Cn.yes (⟨ret1 (.int .i64 4) rfl (by rfl) ?_⟩))
         have hcc : opE np ⟨ok, oa, ob, cs, df⟩ = 4 := by exact opE_c (by omega) (by omega) (all_no hcz (by unfold caseR; first | (simp [*]; done) | (simp_all; done)))
         rw [hcc]
         exact ⟨rfl, H.pi [2] 3⟩
        refine BB.no rfl (H.ldi 0 rfl (v := .bool cz.send) rfl (BB.vr fun q14 e14 => ?_))
        cases q14
        ·refine BB.yes rfl (H.ldi 0 rfl (v := .int .i64 cz.value) rfl (BB.vr fun q15 e15 => ?_))
         cases q15
         ·have h15 := bne_eq_false_iff_eq.1 e15
          refine Cn.no (⟨IW.i j ?_⟩)
          have hcase : caseR cz = true := by unfold caseR; first | (simp [*]; done) | (simp_all; done)
          exact ⟨j + 1, ⟨rfl, trivial⟩, ⟨⟨by omega, all_step hc.2 hcz hcase⟩, H.pi [1, 2] 3⟩, (show cs.length - (j + 1) < cs.length - j by omega)⟩
         have h15 := bne_iff_ne.1 e15
         refine Cn.yes (⟨ret1 (.int .i64 4) rfl (by rfl) ?_⟩)
         have hcc : opE np ⟨ok, oa, ob, cs, df⟩ = 4 := by exact opE_c (by omega) (by omega) (all_no hcz (by unfold caseR; first | (simp [*]; done) | (simp_all; done)))
         rw [hcc]
         exact ⟨rfl, H.pi [2] 3⟩
        refine BB.no rfl (Cn.no (⟨IW.i j ?_⟩))
        have hcase : caseR cz = true := by unfold caseR; first | (simp [*]; done) | (simp_all; done)
        exact ⟨j + 1, ⟨rfl, trivial⟩, ⟨⟨by omega, all_step hc.2 hcz hcase⟩, H.pi [1, 2] 3⟩, (show cs.length - (j + 1) < cs.length - j by omega)⟩
       have hob : j = cs.length := by omega
       obtain rfl := hob
       rw [List.take_length] at hc
       refine ⟨BB.nd ?_⟩
       refine Cn.no (⟨ret1 (.int .i64 0) rfl (by rfl) ?_⟩)
       have hcc : opE np ⟨ok, oa, ob, cs, df⟩ = 0 := by exact opE_0 (by omega) (by omega) (by rw [← hrow]; simp [*]) (by rintro ⟨ha, hb | hb⟩ <;> first | exact absurd rfl ha | omega | cases hb) hc.2
       rw [hcc]
       exact ⟨rfl, H.pi [1] 2⟩
      have h8 := bne_iff_ne.1 e8
      refine H.ldi 0 rfl (v := .slice ca cs.length cc) rfl (BB.vr fun q16 e16 => ?_)
      cases q16
      ·have h16 := bne_eq_false_iff_eq.1 e16
       refine H.ldi 0 rfl (v := .bool df) rfl (BB.k ?_)
       cases df
       ·refine Cn.no (⟨H.ldi 0 rfl (v := .slice ca cs.length cc) rfl ?_⟩)
        refine ⟨den.loop (ι := Nat) [(4, 4), (7, 7), (63, 91)] (by kernel_rfl) (fun j => [(63, .int .i64 ↑j)]) (fun j w => (j ≤ cs.length ∧ (cs.take j).all caseR = true) ∧ SL w (row b2 #[.int .i64 ok, .int .i64 oa, .int .i64 ob, .slice ca cs.length cc, .bool false] 64 :: A :: F)) (fun j => cs.length - j) 0 ⟨rfl, trivial⟩ ⟨⟨Nat.zero_le _, rfl⟩, (H)⟩ ?_⟩
        rintro j s w ⟨hc, H⟩
        have hob := Nat.lt_or_ge j cs.length
        rcases hob with hj | hj
        ·have hob : ∃ z, cs[j]? = some z := ⟨_, get_of hj⟩
         obtain ⟨cz, hcz⟩ := hob
         have hob := H.addrR 1 rfl hA (by omega)
         obtain ⟨cb, co, rfl⟩ := hob
         refine ⟨BB.yd ?_⟩
         refine Cn.yes (⟨⟨Ix.at j 3 (by kernel_rfl) (rfl) (hj) ?_⟩⟩)
         refine H.ldR 1 rfl hA (by omega) (q := j * 3 + 0) rfl (v := .bool cz.send) ((case_cell hcz 0 (by decide)).trans rfl) (H.ldR 1 rfl hA (by omega) (q := j * 3 + 1) rfl (v := .int .i64 cz.chan) ((case_cell hcz 1 (by decide)).trans rfl) (H.ldR 1 rfl hA (by omega) (q := j * 3 + 2) rfl (v := .int .i64 cz.value) ((case_cell hcz 2 (by decide)).trans rfl) (Nw.as #[.bool false, .int .i64 0, .int .i64 0] 162 rfl H fun b7 w H => ?_)))
         refine H.st0 (cs' := #[.bool cz.send, .int .i64 0, .int .i64 0]) rfl rfl rfl fun w H => ?_
         refine H.st0 (cs' := #[.bool cz.send, .int .i64 cz.chan, .int .i64 0]) rfl rfl rfl fun w H => ?_
         refine H.st0 (cs' := #[.bool cz.send, .int .i64 cz.chan, .int .i64 cz.value]) rfl rfl rfl fun w H => ?_
         refine ⟨H.ldi 0 rfl (v := .int .i64 cz.chan) rfl ?_⟩
         refine Cl.s (r_within04 cz.chan 99 0 H) fun w H => ?_
         refine BB.vr fun q17 e17 => ?_
         cases q17
         ·refine BB.yes rfl (Cn.yes (⟨ret1 (.int .i64 4) rfl (by rfl) ?_⟩))
          have hcc : opE np ⟨ok, oa, ob, cs, false⟩ = 4 := by exact opE_c (by omega) (by omega) (all_no hcz (by unfold caseR; first | (simp [*]; done) | (simp_all; done)))
          rw [hcc]
          exact ⟨rfl, H.pi [2] 3⟩
         refine BB.no rfl (H.ldi 0 rfl (v := .bool cz.send) rfl (BB.vr fun q18 e18 => ?_))
         cases q18
         ·refine H.ldi 0 rfl (v := .bool cz.send) rfl (BB.vr fun q19 e19 => ?_)
          cases q19
          ·refine BB.yes rfl (H.ldi 0 rfl (v := .int .i64 cz.value) rfl (BB.vr fun q20 e20 => ?_))
           cases q20
           ·have h20 := bne_eq_false_iff_eq.1 e20
            refine Cn.no (⟨IW.i j ?_⟩)
            have hcase : caseR cz = true := by unfold caseR; first | (simp [*]; done) | (simp_all; done)
            exact ⟨j + 1, ⟨rfl, trivial⟩, ⟨⟨by omega, all_step hc.2 hcz hcase⟩, H.pi [1, 2] 3⟩, (show cs.length - (j + 1) < cs.length - j by omega)⟩
           have h20 := bne_iff_ne.1 e20
           refine Cn.yes (⟨ret1 (.int .i64 4) rfl (by rfl) ?_⟩)
           have hcc : opE np ⟨ok, oa, ob, cs, false⟩ = 4 := by exact opE_c (by omega) (by omega) (all_no hcz (by unfold caseR; first | (simp [*]; done) | (simp_all; done)))
           rw [hcc]
           exact ⟨rfl, H.pi [2] 3⟩
          refine BB.no rfl (Cn.no (⟨IW.i j ?_⟩))
          have hcase : caseR cz = true := by unfold caseR; first | (simp [*]; done) | (simp_all; done)
          exact ⟨j + 1, ⟨rfl, trivial⟩, ⟨⟨by omega, all_step hc.2 hcz hcase⟩, H.pi [1, 2] 3⟩, (show cs.length - (j + 1) < cs.length - j by omega)⟩
         refine H.ldi 0 rfl (v := .int .i64 cz.value) rfl (Cl.s (r_within04 cz.value 118 0 H) fun w H => ?_)
         refine BB.vr fun q21 e21 => ?_
         cases q21
         ·refine BB.yes rfl (Cn.yes (⟨ret1 (.int .i64 4) rfl (by rfl) ?_⟩))
          have hcc : opE np ⟨ok, oa, ob, cs, false⟩ = 4 := by exact opE_c (by omega) (by omega) (all_no hcz (by unfold caseR; first | (simp [*]; done) | (simp_all; done)))
          rw [hcc]
          exact ⟨rfl, H.pi [2] 3⟩
         refine BB.no rfl (H.ldi 0 rfl (v := .bool cz.send) rfl (BB.vr fun q22 e22 => ?_))
         cases q22
         ·refine BB.yes rfl (H.ldi 0 rfl (v := .int .i64 cz.value) rfl (BB.vr fun q23 e23 => ?_))
          cases q23
          ·have h23 := bne_eq_false_iff_eq.1 e23
           refine Cn.no (⟨IW.i j ?_⟩)
           have hcase : caseR cz = true := by unfold caseR; first | (simp [*]; done) | (simp_all; done)
           exact ⟨j + 1, ⟨rfl, trivial⟩, ⟨⟨by omega, all_step hc.2 hcz hcase⟩, H.pi [1, 2] 3⟩, (show cs.length - (j + 1) < cs.length - j by omega)⟩
          have h23 := bne_iff_ne.1 e23
          refine Cn.yes (⟨ret1 (.int .i64 4) rfl (by rfl) ?_⟩)
          have hcc : opE np ⟨ok, oa, ob, cs, false⟩ = 4 := by exact opE_c (by omega) (by omega) (all_no hcz (by unfold caseR; first | (simp [*]; done) | (simp_all; done)))
          rw [hcc]
          exact ⟨rfl, H.pi [2] 3⟩
         refine BB.no rfl (Cn.no (⟨IW.i j ?_⟩))
         have hcase : caseR cz = true := by unfold caseR; first | (simp [*]; done) | (simp_all; done)
         exact ⟨j + 1, ⟨rfl, trivial⟩, ⟨⟨by omega, all_step hc.2 hcz hcase⟩, H.pi [1, 2] 3⟩, (show cs.length - (j + 1) < cs.length - j by omega)⟩
        have hob : j = cs.length := by omega
        obtain rfl := hob
        rw [List.take_length] at hc
        refine ⟨BB.nd ?_⟩
        refine Cn.no (⟨ret1 (.int .i64 0) rfl (by rfl) ?_⟩)
        have hcc : opE np ⟨ok, oa, ob, cs, false⟩ = 0 := by exact opE_0 (by omega) (by omega) (by rw [← hrow]; simp [*]) (by rintro ⟨ha, hb | hb⟩ <;> first | exact absurd rfl ha | omega | cases hb) hc.2
        rw [hcc]
        exact ⟨rfl, H.pi [1] 2⟩
       refine Cn.yes (⟨ret1 (.int .i64 4) rfl (by rfl) ?_⟩)
       have hcc : opE np ⟨ok, oa, ob, cs, true⟩ = 4 := by exact opE_s (by omega) (by omega) (by refine ⟨by assumption, ?_⟩; first | exact .inr rfl | exact .inl (by omega))
       rw [hcc]
       exact ⟨rfl, H.pi [1] 2⟩
      have h16 := bne_iff_ne.1 e16
      refine Cn.yes (⟨ret1 (.int .i64 4) rfl (by rfl) ?_⟩)
      have hcc : opE np ⟨ok, oa, ob, cs, df⟩ = 4 := by exact opE_s (by omega) (by omega) (by refine ⟨by assumption, ?_⟩; first | exact .inr rfl | exact .inl (by omega))
      rw [hcc]
      exact ⟨rfl, H.pi [1] 2⟩
     have h5 := of_decide_eq_true e5
     refine Cn.yes (⟨ret1 (.int .i64 2) rfl (by rfl) ?_⟩)
     have hcc : opE np ⟨ok, oa, ob, cs, df⟩ = 2 := by unfold opE; rw [if_neg (by dsimp only; omega), if_pos (by dsimp only; omega)]
     rw [hcc]
     exact ⟨rfl, H.pi [1] 2⟩
    have h4 := of_decide_eq_true e4
    refine Cn.yes (⟨ret1 (.int .i64 1) rfl (by rfl) ?_⟩)
    have hcc : opE np ⟨ok, oa, ob, cs, df⟩ = 1 := by unfold opE; rw [if_pos (by dsimp only; omega)]
    rw [hcc]
    exact ⟨rfl, H.pi [1] 2⟩
   have h3 := of_decide_eq_true e3
   refine Cn.yes (⟨ret1 (.int .i64 1) rfl (by rfl) ?_⟩)
   have hcc : opE np ⟨ok, oa, ob, cs, df⟩ = 1 := by unfold opE; rw [if_pos (by dsimp only; omega)]
   rw [hcc]
   exact ⟨rfl, H.pi [1] 2⟩
  have h2 := of_decide_eq_true e2
  refine Cn.yes (⟨ret1 (.int .i64 1) rfl (by rfl) ?_⟩)
  have hcc : opE np ⟨ok, oa, ob, cs, df⟩ = 1 := by unfold opE; rw [if_pos (by dsimp only; omega)]
  rw [hcc]
  exact ⟨rfl, H.pi [1] 2⟩
 have h1 := of_decide_eq_true e1
 refine Cn.yes (⟨ret1 (.int .i64 1) rfl (by rfl) ?_⟩)
 have hcc : opE np ⟨ok, oa, ob, cs, df⟩ = 1 := by unfold opE; rw [if_pos (by dsimp only; omega)]
 rw [hcc]
 exact ⟨rfl, H.pi [1] 2⟩
section
variable {w : World} {L F : List Piece} {A : Piece} {b off : Nat} {X : List ProgX} {p : ProgX} {v : Value} {K : Value → Prop}
theorem SL.ldPv (H : SL w L) (i : Nat) (hi : L[i]? = some A) (hX : ScrA A b off X) (k : Nat) (hk : X[k]? = some p) (hv : .slice p.pa p.ops.length p.pc = v) (h : K v) : Ld w ⟨b, off + k * 1, none⟩ K := H.ldP i hi hX k hk (by rw [hv]; exact h)
end
theorem int_cell {xs : List Int} {j : Nat} {z : Int} (h : xs[j]? = some z) : (ints xs)[j * 1]? = some (.int .i64 z) := by
 rw [Nat.mul_one]
 unfold ints
 rw [List.getElem?_map, h]
 rfl
theorem progs_len {X : List ProgX} : ((progsM X).length : Int) = (X.length : Int) := by unfold progsM; rw [List.length_map]
section
variable {s : ScrM} (h1 : ¬ (s.t < 1 ∨ 256 < s.t ∨ s.m < 1 ∨ 1048576 < s.m)) (h2 : ¬ (8 < s.progs.length ∨ 200 < s.plan.length ∨ 64 < s.draws.length)) (h3 : s.progs.all shortP = true) (h4 : ¬ s.progs.length = 0) (h5 : s.progs.all (progOk s.progs.length) = true) (h6 : s.plan.all planOk = true)
theorem checkE_1 (h : s.t < 1 ∨ 256 < s.t ∨ s.m < 1 ∨ 1048576 < s.m) : checkE s = 1 := by unfold checkE; rw [if_pos h]
include h1
theorem checkE_2 (h : 8 < s.progs.length ∨ 200 < s.plan.length ∨ 64 < s.draws.length) : checkE s = 2 := by unfold checkE; rw [if_neg h1, if_pos h]
include h2
theorem checkE_3 (h : s.progs.all shortP = false) : checkE s = 2 := by unfold checkE; rw [if_neg h1, if_neg h2, if_pos h]
include h3
theorem checkE_4 (h : s.progs.length = 0) : checkE s = 4 := by unfold checkE; rw [if_neg h1, if_neg h2, if_neg (by simp [h3]), if_pos h]
include h4
theorem checkE_5 (h : s.progs.all (progOk s.progs.length) = false) : checkE s = 4 := by unfold checkE; rw [if_neg h1, if_neg h2, if_neg (by simp [h3]), if_neg h4, if_pos h]
include h5
theorem checkE_6 (h : s.plan.all planOk = false) : checkE s = 4 := by unfold checkE; rw [if_neg h1, if_neg h2, if_neg (by simp [h3]), if_neg h4, if_neg (by rw [h5]; exact Bool.noConfusion), if_pos h]
include h6
theorem checkE_7 (h : s.draws.all drawOk = false) : checkE s = 4 := by unfold checkE; rw [if_neg h1, if_neg h2, if_neg (by simp [h3]), if_neg h4, if_neg (by rw [h5]; exact Bool.noConfusion), if_neg (by rw [h6]; exact Bool.noConfusion), if_pos h]
theorem checkE_0 (h : s.draws.all drawOk = true) : checkE s = 0 := by unfold checkE; rw [if_neg h1, if_neg h2, if_neg (by simp [h3]), if_neg h4, if_neg (by rw [h5]; exact Bool.noConfusion), if_neg (by rw [h6]; exact Bool.noConfusion), if_neg (by rw [h]; exact Bool.noConfusion)]
end
set_option maxHeartbeats 4000000 in
theorem r_check05 {w : World} {F : List Piece} {A : Piece} {pa la da : Option Addr} {pc lc dc : Nat} {t m : Int} {X : List ProgX} {plz dr : List Int} (hX : 0 < X.length → ∃ b off, pa = some ⟨b, off, none⟩ ∧ ScrA A b off X) (hL : Reader A 1 la plz.length (ints plz)) (hD : Reader A 1 da dr.length (ints dr)) (H : SL w (A :: F)) :
  Calls Tryz.prog 98 #[.agg #[.int .i64 t, .int .i64 m, .slice pa X.length pc, .slice la plz.length lc, .slice da dr.length dc]] w fun o w' => o = .returned (.int .i64 (checkE ⟨t, m, progsM X, plz, dr⟩)) ∧ SL w' (A :: F) := by
 refine calls_d (args := [_]) Tryz.func98 rfl ?_
 refine ⟨Nw.as #[.int .i64 t, .int .i64 m, .slice pa X.length pc, .slice la plz.length lc, .slice da dr.length dc] 69 rfl H fun b1 w H => ?_⟩
 refine ⟨H.ldi 0 rfl (v := .int .i64 t) rfl ?_⟩
 refine BB.vr fun q1 e1 => ?_
 cases q1
 ·have h1 := of_decide_eq_false e1
  refine H.ldi 0 rfl (v := .int .i64 t) rfl (BB.vr fun q2 e2 => ?_)
  cases q2
  ·have h2 := of_decide_eq_false e2
   refine H.ldi 0 rfl (v := .int .i64 m) rfl (BB.vr fun q3 e3 => ?_)
   cases q3
   ·have h3 := of_decide_eq_false e3
    refine H.ldi 0 rfl (v := .int .i64 m) rfl (BB.vr fun q4 e4 => ?_)
    cases q4
    ·have h4 := of_decide_eq_false e4
     refine Cn.no (⟨H.ldi 0 rfl (v := .slice pa X.length pc) rfl ?_⟩)
     refine BB.vr fun q5 e5 => ?_
     cases q5
     ·have h5 := of_decide_eq_false e5
      refine H.ldi 0 rfl (v := .slice la plz.length lc) rfl (BB.vr fun q6 e6 => ?_)
      cases q6
      ·have h6 := of_decide_eq_false e6
       refine H.ldi 0 rfl (v := .slice da dr.length dc) rfl (BB.vr fun q7 e7 => ?_)
       cases q7
       ·have h7 := of_decide_eq_false e7
        refine Cn.no (⟨H.ldi 0 rfl (v := .slice pa X.length pc) rfl ?_⟩)
        refine ⟨den.loop (ι := Nat) [(2, 2), (4, 4), (50, 57)] (by kernel_rfl) (fun j => [(50, .int .i64 ↑j)]) (fun j w => (j ≤ X.length ∧ ((progsM X).take j).all shortP = true) ∧ SL w (row b1 #[.int .i64 t, .int .i64 m, .slice pa X.length pc, .slice la plz.length lc, .slice da dr.length dc] 69 :: A :: F)) (fun j => X.length - j) 0 ⟨rfl, trivial⟩ ⟨⟨Nat.zero_le _, rfl⟩, (H)⟩ ?_⟩
        rintro j s w ⟨hc, H⟩
        have hob := Nat.lt_or_ge j X.length
        rcases hob with hj | hj
        ·have hob : ∃ z, X[j]? = some z := ⟨_, get_of hj⟩
         obtain ⟨px, hY⟩ := hob
         have hob := hX (by omega)
         obtain ⟨pb, po, rfl, hXA⟩ := hob
         have hM : (progsM X)[j]? = some (px.ops.map (·.op)) := by unfold progsM; rw [List.getElem?_map, hY]; rfl
         have hsome := hXA.some_ j px hY
         have hcase := hXA.case j px hY
         obtain ⟨ops, qa, qc⟩ := px
         dsimp only at hM hsome hcase
         refine ⟨BB.yd ?_⟩
         refine Cn.yes (⟨⟨Ix.at j 1 (by kernel_rfl) (rfl) (hj) ?_⟩⟩)
         refine H.ldPv 1 rfl hXA j hY (v := .slice qa ops.length qc) rfl (⟨BB.vr fun q8 e8 => ?_⟩)
         cases q8
         ·have h8 := of_decide_eq_false e8
          refine Cn.no (⟨IW.i j ?_⟩)
          have hone : shortP (ops.map (·.op)) = true := by unfold shortP; exact decide_eq_true (by rw [List.length_map]; omega)
          exact ⟨j + 1, ⟨rfl, trivial⟩, ⟨⟨by omega, all_step hc.2 hM hone⟩, H⟩, (show X.length - (j + 1) < X.length - j by omega)⟩
         have h8 := of_decide_eq_true e8
         refine Cn.yes (⟨ret1 (.int .i64 2) rfl (by rfl) ?_⟩)
         have hcc : checkE ⟨t, m, progsM X, plz, dr⟩ = 2 := by exact checkE_3 (by dsimp only; omega) (by dsimp only; unfold progsM; rw [List.length_map]; omega) (all_no hM (decide_eq_false (by rw [List.length_map]; omega)))
         rw [hcc]
         exact ⟨rfl, H.pi [1] 2⟩
        have hob : j = X.length := by omega
        obtain rfl := hob
        have hs := hc.2
        rw [List.take_of_length_le (by simp [progsM])] at hs
        refine ⟨BB.nd ?_⟩
        refine Cn.no (⟨H.ldi 0 rfl (v := .slice pa X.length pc) rfl ?_⟩)
        refine BB.vr fun q9 e9 => ?_
        cases q9
        ·have h9 := neq_of e9
         refine Cn.no (⟨H.ldi 0 rfl (v := .slice pa X.length pc) rfl ?_⟩)
         refine ⟨den.loop (ι := Nat) [(2, 2), (6, 6), (8, 8), (65, 82)] (by kernel_rfl) (fun k => [(65, .int .i64 ↑k)]) (fun k w => (k ≤ X.length ∧ ((progsM X).take k).all (progOk (X.length : Int)) = true) ∧ SL w (row b1 #[.int .i64 t, .int .i64 m, .slice pa X.length pc, .slice la plz.length lc, .slice da dr.length dc] 69 :: A :: F)) (fun k => X.length - k) 0 ⟨rfl, trivial⟩ ⟨⟨Nat.zero_le _, rfl⟩, (H)⟩ ?_⟩
         rintro k s w ⟨hc, H⟩
         have hob := Nat.lt_or_ge k X.length
         rcases hob with hk | hk
         ·have hob : ∃ z, X[k]? = some z := ⟨_, get_of hk⟩
          obtain ⟨px, hY⟩ := hob
          have hob := hX (by omega)
          obtain ⟨pb, po, rfl, hXA⟩ := hob
          have hM : (progsM X)[k]? = some (px.ops.map (·.op)) := by unfold progsM; rw [List.getElem?_map, hY]; rfl
          have hsome := hXA.some_ k px hY
          have hcase := hXA.case k px hY
          obtain ⟨ops, qa, qc⟩ := px
          dsimp only at hM hsome hcase
          have h32 := of_decide_eq_true (show decide ((ops.map (·.op)).length ≤ 32) = true from all_for (p := shortP) hs hM)
          rw [List.length_map] at h32
          refine ⟨BB.yd ?_⟩
          refine Cn.yes (⟨⟨Ix.at k 1 (by kernel_rfl) (rfl) (hk) ?_⟩⟩)
          refine H.ldPv 1 rfl hXA k hY (v := .slice qa ops.length qc) rfl (⟨⟨den.loop (ι := Nat) [(2, 2), (8, 8), (71, 81)] (by kernel_rfl) (fun i => [(71, .int .i64 ↑i)]) (fun i w => (i ≤ ops.length ∧ ((ops.map (·.op)).take i).all (fun o => opE (X.length : Int) o == 0) = true) ∧ SL w (row b1 #[.int .i64 t, .int .i64 m, .slice (some ⟨pb, po, none⟩) X.length pc, .slice la plz.length lc, .slice da dr.length dc] 69 :: A :: F)) (fun i => ops.length - i) 0 ⟨rfl, trivial⟩ ⟨⟨Nat.zero_le _, rfl⟩, (H)⟩ ?_⟩⟩)
          rintro i s w ⟨hd, H⟩
          have hob := Nat.lt_or_ge i ops.length
          rcases hob with hi | hi
          ·have hob := hsome (by omega)
           obtain ⟨qb, qo, rfl⟩ := hob
           have hob : ∃ z, ops[i]? = some z := ⟨_, get_of hi⟩
           obtain ⟨ox, hox⟩ := hob
           have hoM : (ops.map (·.op))[i]? = some ox.op := by rw [List.getElem?_map, hox]; rfl
           refine ⟨BB.yd ?_⟩
           refine Cn.yes (⟨⟨Ix.at i 5 (by kernel_rfl) (rfl) (hi) ?_⟩⟩)
           refine H.ldO 1 rfl hXA k hY rfl i 0 hox (v := .int .i64 ox.op.kind) rfl (H.ldO 1 rfl hXA k hY rfl i 1 hox (v := .int .i64 ox.op.a) rfl (H.ldO 1 rfl hXA k hY rfl i 2 hox (v := .int .i64 ox.op.b) rfl (H.ldO 1 rfl hXA k hY rfl i 3 hox (v := .slice ox.ca ox.op.cases.length ox.cc) rfl (H.ldO 1 rfl hXA k hY rfl i 4 hox (v := .bool ox.op.dflt) rfl (Nw.as #[.int .i64 0, .int .i64 0, .int .i64 0, .slice none 0 0, .bool false] 64 rfl H fun b8 w H => ?_)))))
           refine H.st0 (cs' := #[.int .i64 ox.op.kind, .int .i64 0, .int .i64 0, .slice none 0 0, .bool false]) rfl rfl rfl fun w H => ?_
           refine H.st0 (cs' := #[.int .i64 ox.op.kind, .int .i64 ox.op.a, .int .i64 0, .slice none 0 0, .bool false]) rfl rfl rfl fun w H => ?_
           refine H.st0 (cs' := #[.int .i64 ox.op.kind, .int .i64 ox.op.a, .int .i64 ox.op.b, .slice none 0 0, .bool false]) rfl rfl rfl fun w H => ?_
           refine H.st0 (cs' := #[.int .i64 ox.op.kind, .int .i64 ox.op.a, .int .i64 ox.op.b, .slice ox.ca ox.op.cases.length ox.cc, .bool false]) rfl rfl rfl fun w H => ?_
           refine H.st0 (cs' := #[.int .i64 ox.op.kind, .int .i64 ox.op.a, .int .i64 ox.op.b, .slice ox.ca ox.op.cases.length ox.cc, .bool ox.op.dflt]) rfl rfl rfl fun w H => ?_
           refine ⟨H.ldi 0 rfl (v := .int .i64 ox.op.kind) rfl ?_⟩
           refine H.ldi 0 rfl (v := .int .i64 ox.op.a) rfl (H.ldi 0 rfl (v := .int .i64 ox.op.b) rfl (H.ldi 0 rfl (v := .slice ox.ca ox.op.cases.length ox.cc) rfl (H.ldi 0 rfl (v := .bool ox.op.dflt) rfl (H.ldi 1 rfl (v := .slice (some ⟨pb, po, none⟩) X.length pc) rfl ?_))))
           have h1 := H.pi [2, 0, 1] 3
           simp only [pl, nth, drL] at h1
           refine Cl.s (r_check04 (hcase i ox hox).1 h1) fun w H => ?_
           replace H := H.pi [1, 2, 0] 3
           simp only [pl, nth, drL] at H
           refine BB.vr fun q10 e10 => ?_
           cases q10
           ·have h10 := bne_eq_false_iff_eq.1 e10
            refine Cn.no (⟨IW.i i ?_⟩)
            have hone : (fun o => opE (X.length : Int) o == 0) ox.op = true := beq_iff_eq.2 (by assumption)
            exact ⟨i + 1, ⟨rfl, trivial⟩, ⟨⟨by omega, all_step hd.2 hoM hone⟩, H.pi [1, 2] 3⟩, (show ops.length - (i + 1) < ops.length - i by omega)⟩
           have h10 := bne_iff_ne.1 e10
           refine Cn.yes (⟨ret1 (.int .i64 4) rfl (by rfl) ?_⟩)
           have hcc : checkE ⟨t, m, progsM X, plz, dr⟩ = 4 := by exact checkE_5 (by dsimp only; omega) (by dsimp only; unfold progsM; rw [List.length_map]; omega) hs (by dsimp only; unfold progsM; rw [List.length_map]; omega) (by dsimp only; rw [progs_len]; exact all_no hM (all_no hoM (beq_eq_false_iff_ne.2 (by assumption))))
           rw [hcc]
           exact ⟨rfl, H.pi [2] 3⟩
          have hob : i = ops.length := by omega
          obtain rfl := hob
          have hq := hd.2
          rw [List.take_of_length_le (by simp)] at hq
          refine ⟨BB.nd ?_⟩
          refine Cn.no (⟨IW.i k ?_⟩)
          have hone : progOk (X.length : Int) (ops.map (·.op)) = true := hq
          exact ⟨k + 1, ⟨rfl, trivial⟩, ⟨⟨by omega, all_step hc.2 hM hone⟩, H⟩, (show X.length - (k + 1) < X.length - k by omega)⟩
         have hob : k = X.length := by omega
         obtain rfl := hob
         have hp := hc.2
         rw [List.take_of_length_le (by simp [progsM])] at hp
         refine ⟨BB.nd ?_⟩
         refine Cn.no (⟨H.ldi 0 rfl (v := .slice la plz.length lc) rfl ?_⟩)
         refine ⟨den.loop (ι := Nat) [(2, 2), (10, 10), (86, 96)] (by kernel_rfl) (fun u => [(86, .int .i64 ↑u)]) (fun u w => (u ≤ plz.length ∧ (plz.take u).all planOk = true) ∧ SL w (row b1 #[.int .i64 t, .int .i64 m, .slice pa X.length pc, .slice la plz.length lc, .slice da dr.length dc] 69 :: A :: F)) (fun u => plz.length - u) 0 ⟨rfl, trivial⟩ ⟨⟨Nat.zero_le _, rfl⟩, (H)⟩ ?_⟩
         rintro u s w ⟨hc, H⟩
         have hob := Nat.lt_or_ge u plz.length
         rcases hob with hu | hu
         ·have hob : ∃ z, plz[u]? = some z := ⟨_, get_of hu⟩
          obtain ⟨z, hz⟩ := hob
          have hob := H.addrR 1 rfl hL (by omega)
          obtain ⟨lb, lo, rfl⟩ := hob
          refine ⟨BB.yd ?_⟩
          refine Cn.yes (⟨⟨Ix.at u 1 (by kernel_rfl) (rfl) (hu) ?_⟩⟩)
          refine H.ldR 1 rfl hL (by omega) (q := u * 1) (by rw [Nat.mul_one]) (v := .int .i64 z) (int_cell hz) (⟨BB.vr fun q11 e11 => ?_⟩)
          cases q11
          ·have h11 := of_decide_eq_false e11
           refine BB.vr fun q12 e12 => ?_
           cases q12
           ·have h12 := of_decide_eq_false e12
            refine Cn.no (⟨IW.i u ?_⟩)
            have hone : planOk z = true := by unfold planOk; exact decide_eq_true ⟨by omega, by omega⟩
            exact ⟨u + 1, ⟨rfl, trivial⟩, ⟨⟨by omega, all_step hc.2 hz hone⟩, H⟩, (show plz.length - (u + 1) < plz.length - u by omega)⟩
           have h12 := of_decide_eq_true e12
           refine Cn.yes (⟨ret1 (.int .i64 4) rfl (by rfl) ?_⟩)
           have hcc : checkE ⟨t, m, progsM X, plz, dr⟩ = 4 := by exact checkE_6 (by dsimp only; omega) (by dsimp only; unfold progsM; rw [List.length_map]; omega) hs (by dsimp only; unfold progsM; rw [List.length_map]; omega) (by dsimp only; rw [progs_len]; exact hp) (all_no hz (decide_eq_false (by omega)))
           rw [hcc]
           exact ⟨rfl, H.pi [1] 2⟩
          have h11 := of_decide_eq_true e11
          refine Cn.yes (⟨ret1 (.int .i64 4) rfl (by rfl) ?_⟩)
          have hcc : checkE ⟨t, m, progsM X, plz, dr⟩ = 4 := by exact checkE_6 (by dsimp only; omega) (by dsimp only; unfold progsM; rw [List.length_map]; omega) hs (by dsimp only; unfold progsM; rw [List.length_map]; omega) (by dsimp only; rw [progs_len]; exact hp) (all_no hz (decide_eq_false (by omega)))
          rw [hcc]
          exact ⟨rfl, H.pi [1] 2⟩
         have hob : u = plz.length := by omega
         obtain rfl := hob
         have hlp := hc.2
         rw [List.take_length] at hlp
         refine ⟨BB.nd ?_⟩
         refine Cn.no (⟨H.ldi 0 rfl (v := .slice da dr.length dc) rfl ?_⟩)
         refine ⟨den.loop (ι := Nat) [(2, 2), (12, 12), (100, 110)] (by kernel_rfl) (fun v => [(100, .int .i64 ↑v)]) (fun v w => (v ≤ dr.length ∧ (dr.take v).all drawOk = true) ∧ SL w (row b1 #[.int .i64 t, .int .i64 m, .slice pa X.length pc, .slice la plz.length lc, .slice da dr.length dc] 69 :: A :: F)) (fun v => dr.length - v) 0 ⟨rfl, trivial⟩ ⟨⟨Nat.zero_le _, rfl⟩, (H)⟩ ?_⟩
         rintro v s w ⟨hc, H⟩
         have hob := Nat.lt_or_ge v dr.length
         rcases hob with hv | hv
         ·have hob : ∃ z, dr[v]? = some z := ⟨_, get_of hv⟩
          obtain ⟨y, hy⟩ := hob
          have hob := H.addrR 1 rfl hD (by omega)
          obtain ⟨db, dO, rfl⟩ := hob
          refine ⟨BB.yd ?_⟩
          refine Cn.yes (⟨⟨Ix.at v 1 (by kernel_rfl) (rfl) (hv) ?_⟩⟩)
          refine H.ldR 1 rfl hD (by omega) (q := v * 1) (by rw [Nat.mul_one]) (v := .int .i64 y) (int_cell hy) (⟨BB.vr fun q13 e13 => ?_⟩)
          cases q13
          ·have h13 := of_decide_eq_false e13
           refine BB.vr fun q14 e14 => ?_
           cases q14
           ·have h14 := of_decide_eq_false e14
            refine Cn.no (⟨IW.i v ?_⟩)
            have hone : drawOk y = true := by unfold drawOk; exact decide_eq_true ⟨by omega, by omega⟩
            exact ⟨v + 1, ⟨rfl, trivial⟩, ⟨⟨by omega, all_step hc.2 hy hone⟩, H⟩, (show dr.length - (v + 1) < dr.length - v by omega)⟩
           have h14 := of_decide_eq_true e14
           refine Cn.yes (⟨ret1 (.int .i64 4) rfl (by rfl) ?_⟩)
           have hcc : checkE ⟨t, m, progsM X, plz, dr⟩ = 4 := by exact checkE_7 (by dsimp only; omega) (by dsimp only; unfold progsM; rw [List.length_map]; omega) hs (by dsimp only; unfold progsM; rw [List.length_map]; omega) (by dsimp only; rw [progs_len]; exact hp) hlp (all_no hy (decide_eq_false (by omega)))
           rw [hcc]
           exact ⟨rfl, H.pi [1] 2⟩
          have h13 := of_decide_eq_true e13
          refine Cn.yes (⟨ret1 (.int .i64 4) rfl (by rfl) ?_⟩)
          have hcc : checkE ⟨t, m, progsM X, plz, dr⟩ = 4 := by exact checkE_7 (by dsimp only; omega) (by dsimp only; unfold progsM; rw [List.length_map]; omega) hs (by dsimp only; unfold progsM; rw [List.length_map]; omega) (by dsimp only; rw [progs_len]; exact hp) hlp (all_no hy (decide_eq_false (by omega)))
          rw [hcc]
          exact ⟨rfl, H.pi [1] 2⟩
         have hob : v = dr.length := by omega
         obtain rfl := hob
         have hdp := hc.2
         rw [List.take_length] at hdp
         refine ⟨BB.nd ?_⟩
         refine Cn.no (⟨ret1 (.int .i64 0) rfl (by rfl) ?_⟩)
         have hcc : checkE ⟨t, m, progsM X, plz, dr⟩ = 0 := by exact checkE_0 (by dsimp only; omega) (by dsimp only; unfold progsM; rw [List.length_map]; omega) hs (by dsimp only; unfold progsM; rw [List.length_map]; omega) (by dsimp only; rw [progs_len]; exact hp) hlp hdp
         rw [hcc]
         exact ⟨rfl, H.pi [1] 2⟩
        have h9 := eq_of_beq e9
        refine Cn.yes (⟨ret1 (.int .i64 4) rfl (by rfl) ?_⟩)
        have hcc : checkE ⟨t, m, progsM X, plz, dr⟩ = 4 := by exact checkE_4 (by dsimp only; omega) (by dsimp only; unfold progsM; rw [List.length_map]; omega) hs (by dsimp only; unfold progsM; rw [List.length_map]; omega)
        rw [hcc]
        exact ⟨rfl, H.pi [1] 2⟩
       have h7 := of_decide_eq_true e7
       refine Cn.yes (⟨ret1 (.int .i64 2) rfl (by rfl) ?_⟩)
       have hcc : checkE ⟨t, m, progsM X, plz, dr⟩ = 2 := by exact checkE_2 (by dsimp only; omega) (by dsimp only; unfold progsM; rw [List.length_map]; omega)
       rw [hcc]
       exact ⟨rfl, H.pi [1] 2⟩
      have h6 := of_decide_eq_true e6
      refine Cn.yes (⟨ret1 (.int .i64 2) rfl (by rfl) ?_⟩)
      have hcc : checkE ⟨t, m, progsM X, plz, dr⟩ = 2 := by exact checkE_2 (by dsimp only; omega) (by dsimp only; unfold progsM; rw [List.length_map]; omega)
      rw [hcc]
      exact ⟨rfl, H.pi [1] 2⟩
     have h5 := of_decide_eq_true e5
     refine Cn.yes (⟨ret1 (.int .i64 2) rfl (by rfl) ?_⟩)
     have hcc : checkE ⟨t, m, progsM X, plz, dr⟩ = 2 := by exact checkE_2 (by dsimp only; omega) (by dsimp only; unfold progsM; rw [List.length_map]; omega)
     rw [hcc]
     exact ⟨rfl, H.pi [1] 2⟩
    have h4 := of_decide_eq_true e4
    refine Cn.yes (⟨ret1 (.int .i64 1) rfl (by rfl) ?_⟩)
    have hcc : checkE ⟨t, m, progsM X, plz, dr⟩ = 1 := by exact checkE_1 (by dsimp only; omega)
    rw [hcc]
    exact ⟨rfl, H.pi [1] 2⟩
   have h3 := of_decide_eq_true e3
   refine Cn.yes (⟨ret1 (.int .i64 1) rfl (by rfl) ?_⟩)
   have hcc : checkE ⟨t, m, progsM X, plz, dr⟩ = 1 := by exact checkE_1 (by dsimp only; omega)
   rw [hcc]
   exact ⟨rfl, H.pi [1] 2⟩
  have h2 := of_decide_eq_true e2
  refine Cn.yes (⟨ret1 (.int .i64 1) rfl (by rfl) ?_⟩)
  have hcc : checkE ⟨t, m, progsM X, plz, dr⟩ = 1 := by exact checkE_1 (by dsimp only; omega)
  rw [hcc]
  exact ⟨rfl, H.pi [1] 2⟩
 have h1 := of_decide_eq_true e1
 refine Cn.yes (⟨ret1 (.int .i64 1) rfl (by rfl) ?_⟩)
 have hcc : checkE ⟨t, m, progsM X, plz, dr⟩ = 1 := by exact checkE_1 (by dsimp only; omega)
 rw [hcc]
 exact ⟨rfl, H.pi [1] 2⟩
theorem r_new06 {w : World} {F : List Piece} {A : Piece} {la da : Option Addr} {lc dc : Nat} {plz dr : List Int} (hL : Reader A 1 la plz.length (ints plz)) (hD : Reader A 1 da dr.length (ints dr)) (hgp : ∀ z ∈ plz, -1 ≤ z ∧ z ≤ 1000) (hgd : ∀ z ∈ dr, 0 ≤ z ∧ z ≤ 1000) (hpl : plz.length ≤ 200) (hdl : dr.length ≤ 64) (H : SL w (A :: F)) :
  Calls Tryz.prog 99 #[.slice la plz.length lc, .slice da dr.length dc] w fun o w' => ∃ hb, o = .returned (.tuple #[.pointer (some ⟨hb, 0, none⟩), .int .i64 0]) ∧ SL w' (row hb #[.slice la plz.length lc, .slice da dr.length dc, .int .i64 0, .int .i64 0] 166 :: A :: F) := by
 refine calls_d (args := [_, _]) Tryz.func99 rfl ?_
 refine ⟨⟨BB.vr fun q1 e1 => ?_⟩⟩
 cases q1
 ·have h1 := of_decide_eq_false e1
  refine BB.vr fun q2 e2 => ?_
  cases q2
  ·have h2 := of_decide_eq_false e2
   refine Cn.no (⟨⟨den.loop (ι := Nat) [(4, 5), (7, 7), (20, 30)] (by kernel_rfl) (fun u => [(20, .int .i64 ↑u)]) (fun u w => (u ≤ plz.length ∧ (plz.take u).all planOk = true) ∧ SL w (A :: F)) (fun u => plz.length - u) 0 ⟨rfl, trivial⟩ ⟨⟨Nat.zero_le _, rfl⟩, (H)⟩ ?_⟩⟩)
   rintro u s w ⟨hc, H⟩
   have hob := Nat.lt_or_ge u plz.length
   rcases hob with hu | hu
   ·have hob : ∃ z, plz[u]? = some z := ⟨_, get_of hu⟩
    obtain ⟨z, hz⟩ := hob
    have hob := H.addrR 0 rfl hL (by omega)
    obtain ⟨lb, lo, rfl⟩ := hob
    refine ⟨BB.yd ?_⟩
    refine Cn.yes (⟨⟨Ix.at u 1 (by kernel_rfl) (rfl) (hu) ?_⟩⟩)
    refine H.ldR 0 rfl hL (by omega) (q := u * 1) (by rw [Nat.mul_one]) (v := .int .i64 z) (int_cell hz) (⟨BB.vr fun q3 e3 => ?_⟩)
    cases q3
    ·have h3 := of_decide_eq_false e3
     refine BB.vr fun q4 e4 => ?_
     cases q4
     ·have h4 := of_decide_eq_false e4
      refine Cn.no (⟨IW.i u ?_⟩)
      have hone : planOk z = true := by unfold planOk; exact decide_eq_true ⟨by omega, by omega⟩
      exact ⟨u + 1, ⟨rfl, trivial⟩, ⟨⟨by omega, all_step hc.2 hz hone⟩, H⟩, (show plz.length - (u + 1) < plz.length - u by omega)⟩
     have h4 := of_decide_eq_true e4
     refine Cn.yes (⟨ret2 (.pointer none) (.int .i64 4) rfl (by rfl) (by rfl) ?_⟩)
     have hr := hgp z (List.mem_of_getElem? hz)
     exact (by omega : False).elim
    have h3 := of_decide_eq_true e3
    refine Cn.yes (⟨ret2 (.pointer none) (.int .i64 4) rfl (by rfl) (by rfl) ?_⟩)
    have hr := hgp z (List.mem_of_getElem? hz)
    exact (by omega : False).elim
   have hob : u = plz.length := by omega
   obtain rfl := hob
   have hlp := hc.2
   rw [List.take_length] at hlp
   refine ⟨BB.nd ?_⟩
   refine Cn.no (⟨⟨den.loop (ι := Nat) [(4, 5), (9, 9), (33, 43)] (by kernel_rfl) (fun v => [(33, .int .i64 ↑v)]) (fun v w => (v ≤ dr.length ∧ (dr.take v).all drawOk = true) ∧ SL w (A :: F)) (fun v => dr.length - v) 0 ⟨rfl, trivial⟩ ⟨⟨Nat.zero_le _, rfl⟩, (H)⟩ ?_⟩⟩)
   rintro v s w ⟨hc, H⟩
   have hob := Nat.lt_or_ge v dr.length
   rcases hob with hv | hv
   ·have hob : ∃ z, dr[v]? = some z := ⟨_, get_of hv⟩
    obtain ⟨y, hy⟩ := hob
    have hob := H.addrR 0 rfl hD (by omega)
    obtain ⟨db, dO, rfl⟩ := hob
    refine ⟨BB.yd ?_⟩
    refine Cn.yes (⟨⟨Ix.at v 1 (by kernel_rfl) (rfl) (hv) ?_⟩⟩)
    refine H.ldR 0 rfl hD (by omega) (q := v * 1) (by rw [Nat.mul_one]) (v := .int .i64 y) (int_cell hy) (⟨BB.vr fun q5 e5 => ?_⟩)
    cases q5
    ·have h5 := of_decide_eq_false e5
     refine BB.vr fun q6 e6 => ?_
     cases q6
     ·have h6 := of_decide_eq_false e6
      refine Cn.no (⟨IW.i v ?_⟩)
      have hone : drawOk y = true := by unfold drawOk; exact decide_eq_true ⟨by omega, by omega⟩
      exact ⟨v + 1, ⟨rfl, trivial⟩, ⟨⟨by omega, all_step hc.2 hy hone⟩, H⟩, (show dr.length - (v + 1) < dr.length - v by omega)⟩
     have h6 := of_decide_eq_true e6
     refine Cn.yes (⟨ret2 (.pointer none) (.int .i64 4) rfl (by rfl) (by rfl) ?_⟩)
     have hr := hgd y (List.mem_of_getElem? hy)
     exact (by omega : False).elim
    have h5 := of_decide_eq_true e5
    refine Cn.yes (⟨ret2 (.pointer none) (.int .i64 4) rfl (by rfl) (by rfl) ?_⟩)
    have hr := hgd y (List.mem_of_getElem? hy)
    exact (by omega : False).elim
   have hob : v = dr.length := by omega
   obtain rfl := hob
   have hdp := hc.2
   rw [List.take_length] at hdp
   refine ⟨BB.nd ?_⟩
   refine Cn.no (⟨Mn.pure (.agg #[.slice la plz.length lc, .slice da dr.length dc, .int .i64 0, .int .i64 0]) (by kernel_rfl) ?_⟩)
   refine Nw.as #[.slice la plz.length lc, .slice da dr.length dc, .int .i64 0, .int .i64 0] 166 rfl H fun b47 w H => ?_
   refine ret2 (.pointer (some ⟨b47, 0, none⟩)) (.int .i64 0) rfl (by rfl) (by rfl) ?_
   exact ⟨b47, rfl, H⟩
  have h2 := of_decide_eq_true e2
  refine Cn.yes (⟨ret2 (.pointer none) (.int .i64 2) rfl (by rfl) (by rfl) ?_⟩)
  exact (by omega : False).elim
 have h1 := of_decide_eq_true e1
 refine Cn.yes (⟨ret2 (.pointer none) (.int .i64 2) rfl (by rfl) (by rfl) ?_⟩)
 exact (by omega : False).elim
def nm8 (j i : Nat) : Int := if i < j then -1 else 0
theorem nm_set (a0 a1 a2 a3 a4 a5 a6 a7 tv pv : Value) (j : Nat) (hj : j < 8) :
  #[a0, a1, a2, a3, a4, a5, a6, a7, .int .i64 (nm8 j 0), .int .i64 (nm8 j 1), .int .i64 (nm8 j 2), .int .i64 (nm8 j 3), .int .i64 (nm8 j 4), .int .i64 (nm8 j 5), .int .i64 (nm8 j 6), .int .i64 (nm8 j 7), tv, pv].setIfInBounds (8 + j * 1) (.int .i64 (-1)) =
   #[a0, a1, a2, a3, a4, a5, a6, a7, .int .i64 (nm8 (j + 1) 0), .int .i64 (nm8 (j + 1) 1), .int .i64 (nm8 (j + 1) 2), .int .i64 (nm8 (j + 1) 3), .int .i64 (nm8 (j + 1) 4), .int .i64 (nm8 (j + 1) 5), .int .i64 (nm8 (j + 1) 6), .int .i64 (nm8 (j + 1) 7), tv, pv] := by
 match j, hj with
 | 0, _ | 1, _ | 2, _ | 3, _ | 4, _ | 5, _ | 6, _ | 7, _ => rfl
theorem SL.crewNil {w : World} {F : List Piece} {c : Nat} (H : SL w (row c #[.slice none 0 0] 154 :: F)) : SL w (row c #[.slice none 0 0] 154 :: Slc 192 3 (.slice none 0 0) ([] : List One).length (([] : List One).flatMap One.cells) :: F) := (SL.slcNil 192 3 H).swap
theorem rl_new {w : World} {F : List Piece} {lb hb crb : Nat} {t m : Int} {vp vl vd : Value} (H : SL w (row lb #[.int .i64 t, .int .i64 m, vp, vl, vd, .pointer (some ⟨hb, 0, none⟩), .pointer (some ⟨crb, 0, none⟩), .slice none 0 0, .int .i64 (nm8 8 0), .int .i64 (nm8 8 1), .int .i64 (nm8 8 2), .int .i64 (nm8 8 3), .int .i64 (nm8 8 4), .int .i64 (nm8 8 5), .int .i64 (nm8 8 6), .int .i64 (nm8 8 7), .slice none 0 0, .bool false] 122 ::
   row hb #[vl, vd, .int .i64 0, .int .i64 0] 166 :: RCrewP crb [⟨0, 0, 0⟩] :: F)) : SL w (RlP lb ⟨t, m, vp, vl, vd⟩ newL :: F) :=
 RlP.iff.2 ⟨hb, crb, .slice none 0 0, .slice none 0 0, [], ⟨rfl, rfl⟩, (SL.slcNil 193 1 (SL.all.2 (SL.slcNil 53 8 H) : SL w (RsP [] [] :: _))).pi [3, 4, 5, 0, 1, 2] 6⟩
set_option maxHeartbeats 4000000 in
theorem r_new13 {w : World} {F : List Piece} {A : Piece} {pa la da : Option Addr} {pc lc dc : Nat} {t m : Int} {X : List ProgX} {plz dr : List Int} (hX : 0 < X.length → ∃ b off, pa = some ⟨b, off, none⟩ ∧ ScrA A b off X) (hL : Reader A 1 la plz.length (ints plz)) (hD : Reader A 1 da dr.length (ints dr)) (hgp : ∀ z ∈ plz, -1 ≤ z ∧ z ≤ 1000) (hgd : ∀ z ∈ dr, 0 ≤ z ∧ z ≤ 1000) (hpl : plz.length ≤ 200) (hdl : dr.length ≤ 64) (hck : checkE ⟨t, m, progsM X, plz, dr⟩ = 0) (H : SL w (A :: F)) :
  Calls Tryz.prog 63 #[.agg #[.int .i64 t, .int .i64 m, .slice pa X.length pc, .slice la plz.length lc, .slice da dr.length dc]] w fun o w' => ∃ lb, o = .returned (.tuple #[.pointer (some ⟨lb, 0, none⟩), .int .i64 0]) ∧ SL w' (RlP lb ⟨t, m, .slice pa X.length pc, .slice la plz.length lc, .slice da dr.length dc⟩ newL :: A :: F) := by
 refine calls_d (args := [_]) Tryz.func63 rfl ?_
 refine ⟨Nw.as #[.int .i64 t, .int .i64 m, .slice pa X.length pc, .slice la plz.length lc, .slice da dr.length dc] 69 rfl H fun b1 w H => ?_⟩
 refine ⟨H.ldi 0 rfl (v := .int .i64 t) rfl ?_⟩
 refine H.ldi 0 rfl (v := .int .i64 m) rfl (H.ldi 0 rfl (v := .slice pa X.length pc) rfl (H.ldi 0 rfl (v := .slice la plz.length lc) rfl (H.ldi 0 rfl (v := .slice da dr.length dc) rfl ?_)))
 have h1 := H.pi [1, 0] 2
 simp only [pl, nth, drL] at h1
 refine Cl.s (r_check05 hX hL hD h1) fun w H => ?_
 replace H := H.pi [1, 0] 2
 simp only [pl, nth, drL] at H
 rw [hck]
 refine ⟨BB.no rfl ?_⟩
 refine Cn.no (⟨H.ldi 0 rfl (v := .slice la plz.length lc) rfl ?_⟩)
 refine H.ldi 0 rfl (v := .slice da dr.length dc) rfl ?_
 have h1 := H.pi [1, 0] 2
 simp only [pl, nth, drL] at h1
 refine Cl.b (r_new06 hL hD hgp hgd hpl hdl h1) ?_
 rintro _ w ⟨hb, rfl, H⟩
 refine ⟨_, rfl, ?_⟩
 replace H := H.pi [0, 2, 1] 3
 simp only [pl, nth, drL] at H
 refine ⟨H.ldi 1 rfl (v := .int .i64 t) rfl ?_⟩
 refine H.ldi 1 rfl (v := .int .i64 m) rfl (H.ldi 1 rfl (v := .slice pa X.length pc) rfl (H.ldi 1 rfl (v := .slice la plz.length lc) rfl (H.ldi 1 rfl (v := .slice da dr.length dc) rfl (Mn.pure (.agg #[.slice none 0 0]) (by kernel_rfl) ?_))))
 refine Nw.as #[.slice none 0 0] 154 rfl H fun b25 w H => ?_
 refine Mn.pure (.agg #[.int .i64 t, .int .i64 m, .slice pa X.length pc, .slice la plz.length lc, .slice da dr.length dc, .pointer (some ⟨hb, 0, none⟩), .pointer (some ⟨b25, 0, none⟩), .slice none 0 0, .int .i64 0, .int .i64 0, .int .i64 0, .int .i64 0, .int .i64 0, .int .i64 0, .int .i64 0, .int .i64 0, .slice none 0 0, .bool false]) (by kernel_rfl) ?_
 refine Nw.as #[.int .i64 t, .int .i64 m, .slice pa X.length pc, .slice la plz.length lc, .slice da dr.length dc, .pointer (some ⟨hb, 0, none⟩), .pointer (some ⟨b25, 0, none⟩), .slice none 0 0, .int .i64 0, .int .i64 0, .int .i64 0, .int .i64 0, .int .i64 0, .int .i64 0, .int .i64 0, .int .i64 0, .slice none 0 0, .bool false] 122 rfl H fun b27 w H => ?_
 refine ⟨⟨den.loop (ι := Nat) [(8, 8), (28, 36)] (by kernel_rfl) (fun j => [(8, .int .i64 ↑j)]) (fun j w => j ≤ 8 ∧ SL w (row b27 #[.int .i64 t, .int .i64 m, .slice pa X.length pc, .slice la plz.length lc, .slice da dr.length dc, .pointer (some ⟨hb, 0, none⟩), .pointer (some ⟨b25, 0, none⟩), .slice none 0 0, .int .i64 (nm8 j 0), .int .i64 (nm8 j 1), .int .i64 (nm8 j 2), .int .i64 (nm8 j 3), .int .i64 (nm8 j 4), .int .i64 (nm8 j 5), .int .i64 (nm8 j 6), .int .i64 (nm8 j 7), .slice none 0 0, .bool false] 122 :: row b25 #[.slice none 0 0] 154 :: row hb #[.slice la plz.length lc, .slice da dr.length dc, .int .i64 0, .int .i64 0] 166 :: A :: F)) (fun j => 8 - j) 0 ⟨rfl, trivial⟩ ⟨Nat.zero_le _, (H.pi [0, 1, 2, 4] 5)⟩ ?_⟩⟩
 rintro j s w ⟨hc, H⟩
 have h8 : j < 8 ∨ j = 8 := by omega
 rcases h8 with hj | rfl
 ·refine ⟨BB.yd ?_⟩
  refine Cn.yes (⟨⟨Ix.at j 1 (by kernel_rfl) rfl hj ?_⟩⟩)
  refine H.st0 (cs' := #[.int .i64 t, .int .i64 m, .slice pa X.length pc, .slice la plz.length lc, .slice da dr.length dc, .pointer (some ⟨hb, 0, none⟩), .pointer (some ⟨b25, 0, none⟩), .slice none 0 0, .int .i64 (nm8 (j + 1) 0), .int .i64 (nm8 (j + 1) 1), .int .i64 (nm8 (j + 1) 2), .int .i64 (nm8 (j + 1) 3), .int .i64 (nm8 (j + 1) 4), .int .i64 (nm8 (j + 1) 5), .int .i64 (nm8 (j + 1) 6), .int .i64 (nm8 (j + 1) 7), .slice none 0 0, .bool false]) (nm_set _ _ _ _ _ _ _ _ _ _ j hj) (by simp [Nat.blt_eq]; omega) rfl fun w H => ?_
  refine ⟨IW.i j ?_⟩
  exact ⟨j + 1, ⟨rfl, trivial⟩, ⟨(show j + 1 ≤ 8 by omega), H⟩, (show 8 - (j + 1) < 8 - j by omega)⟩
 refine ⟨BB.no rfl ?_⟩
 refine Cn.no (⟨H.ldi 0 rfl (v := .pointer (some ⟨b25, 0, none⟩)) rfl ?_⟩)
 replace H := H.pi [1, 0, 2, 3] 4
 simp only [pl, nth, drL] at H
 replace H := ones_shut (H.crewNil)
 refine Cl.s (q_spawn (L := []) (Nat.zero_le _) 0 H) fun w H => ?_
 refine ⟨ret2 (.pointer (some ⟨b27, 0, none⟩)) (.int .i64 0) rfl (by rfl) (by rfl) ?_⟩
 have q := H.pi [1, 2, 0, 3] 4
 simp only [pl, nth, drL] at q
 exact ⟨b27, rfl, rl_new (q.pi [0, 1, 2, 3] 4)⟩
theorem checkE_draws {s : ScrM} (h : checkE s = 0) : ∀ z ∈ s.draws, 0 ≤ z ∧ z ≤ 1000 := by
 unfold checkE at h
 split at h
 ·cases h
 ·split at h
  ·cases h
  ·split at h
   ·cases h
   ·split at h
    ·cases h
    ·split at h
     ·cases h
     ·split at h
      ·cases h
      ·split at h
       ·cases h
       ·rename_i h7
        simp only [Bool.not_eq_false] at h7
        intro z hz
        have := List.all_eq_true.1 h7 z hz
        simpa [drawOk] using this
theorem r_verdictO {w : World} {F : List Piece} {lb hb crb : Nat} {s : ScrM} {x : LmM} {t m : Int} {vp vl vd chv tv : Value} {vla : Option Addr} {vlc : Nat} {n0 n1 n2 n3 n4 n5 n6 n7 : Int} {plz : List Int} (hpl : s.plan = plz) (H : SL w (row lb #[.int .i64 t, .int .i64 m, vp, vl, vd, .pointer (some ⟨hb, 0, none⟩), .pointer (some ⟨crb, 0, none⟩), chv, .int .i64 n0, .int .i64 n1, .int .i64 n2, .int .i64 n3, .int .i64 n4, .int .i64 n5, .int .i64 n6, .int .i64 n7, tv, .bool x.pan] 122 :: row hb #[.slice vla plz.length vlc, vd, .int .i64 ↑x.p, .int .i64 ↑x.d] 166 :: RCrewP crb x.crew :: F)) : Calls Tryz.prog 65 #[.pointer (some ⟨lb, 0, none⟩)] w fun o w' => o = .returned (.int .i64 (verL s x)) ∧ SL w' (row lb #[.int .i64 t, .int .i64 m, vp, vl, vd, .pointer (some ⟨hb, 0, none⟩), .pointer (some ⟨crb, 0, none⟩), chv, .int .i64 n0, .int .i64 n1, .int .i64 n2, .int .i64 n3, .int .i64 n4, .int .i64 n5, .int .i64 n6, .int .i64 n7, tv, .bool x.pan] 122 :: row hb #[.slice vla plz.length vlc, vd, .int .i64 ↑x.p, .int .i64 ↑x.d] 166 :: RCrewP crb x.crew :: F) := by
 refine calls_d (args := [_]) Tryz.func65 rfl ?_
 refine ⟨⟨H.ldi 0 rfl (v := .bool x.pan) rfl ?_⟩⟩
 refine BB.vr fun q1 e1 => ?_
 cases q1
 ·refine Cn.no (⟨H.ldi 0 rfl (v := .pointer (some ⟨crb, 0, none⟩)) rfl ?_⟩)
  have h1 := H.pi [2, 0, 1] 3
  simp only [pl, nth, drL] at h1
  refine Cl.s (q_over h1) fun w H => ?_
  replace H := H.pi [1, 2, 0] 3
  simp only [pl, nth, drL] at H
  refine ⟨BB.vr fun q2 e2 => ?_⟩
  cases q2
  ·have h2 := bne_eq_false_iff_eq.1 e2
   refine Cn.no (⟨Drw.of [(0, true), (1, true), (2, true), (3, true), (4, true), (5, true), (6, true), (7, true), (8, true), (9, true), (10, true), (11, true), (12, true), (13, true), (14, true), (15, true)] (by kernel_rfl) mixed (fun w => SL w _) H.drew ?_⟩)
   replace H := H.drew
   refine LdC.i 0 rfl (v := .pointer (some ⟨hb, 0, none⟩)) rfl (LdC.i 1 rfl (v := .int .i64 ↑x.p) rfl (LdC.i 0 rfl (v := .pointer (some ⟨hb, 0, none⟩)) rfl (LdC.i 1 rfl (v := .slice vla plz.length vlc) rfl (BB.vr fun q3 e3 => ?_))))
   cases q3
   ·have h3 := of_decide_eq_false e3
    refine Cn.no (⟨ret1 (.int .i64 0) rfl (by rfl) ?_⟩)
    have hc : verL s x = 0 := by unfold verL; rw [hpl]; first | (simp [*]; done) | (simp [*]; omega)
    rw [hc]
    exact ⟨rfl, H⟩
   have h3 := of_decide_eq_true e3
   refine Cn.yes (⟨ret1 (.int .i64 4) rfl (by rfl) ?_⟩)
   have hc : verL s x = 4 := by unfold verL; rw [hpl]; first | (simp [*]; done) | (simp [*]; omega)
   rw [hc]
   exact ⟨rfl, H⟩
  have h2 := bne_iff_ne.1 e2
  refine Cn.yes (⟨ret1 (.int .i64 (overF x.crew)) rfl (by rfl) ?_⟩)
  have hc : verL s x = (overF x.crew) := by unfold verL; rw [hpl]; first | (simp [*]; done) | (simp [*]; omega)
  rw [hc]
  exact ⟨rfl, H⟩
 refine Cn.yes (⟨ret1 (.int .i64 3) rfl (by rfl) ?_⟩)
 have hc : verL s x = 3 := by unfold verL; rw [hpl]; first | (simp [*]; done) | (simp [*]; omega)
 rw [hc]
 exact ⟨rfl, H⟩
theorem draw_d (s : ScrM) (x : LmM) (n : Nat) : (drawL s x n).2.d ≤ max x.d s.draws.length := by
 unfold drawL
 split
 ·exact Nat.le_max_left _ _
 ·rename_i h
  have := Nat.le_max_right x.d s.draws.length
  dsimp only
  omega
theorem wakes_d (x : LmM) (g ch : Int) (ws : List Wtr) : (wakesL x g ch ws).d = x.d := by
 induction ws generalizing x with
 | nil => rfl
 | cons z a ih =>
  unfold wakesL
  rw [ih]
  split <;> rfl
theorem senders_d (x : LmM) (ws : List Wtr) : (sendersL x ws).d = x.d := by
 induction ws generalizing x with
 | nil => rfl
 | cons z a ih =>
  unfold sendersL
  split
  ·rfl
  ·exact ih _
theorem talk_d (x : LmM) (g : Int) (c : CaseM) (a : Int) : (talkL x g c a).d = x.d := by
 unfold talkL
 dsimp only
 split
 ·rfl
 ·split <;> rfl
theorem alone_d (x : LmM) (g : Int) (c : CaseM) : (aloneL x g c).d = x.d := by
 unfold aloneL
 split
 ·exact talk_d ..
 ·dsimp only
  split <;> rfl
theorem shut_d (x : LmM) (g c : Int) : (shutL x g c).d = x.d := by
 unfold shutL
 dsimp only
 split
 ·rfl
 ·split
  ·rfl
  ·rw [senders_d, wakes_d]
   rfl
theorem choose_d (s : ScrM) (x : LmM) (g : Int) (o : OpM) : (chooseL s x g o).d ≤ max x.d s.draws.length := by
 unfold chooseL
 dsimp only
 split
 ·rw [talk_d]
  exact draw_d ..
 ·split
  ·exact Nat.le_max_left _ _
  ·exact Nat.le_max_left _ _
theorem other_d (x : LmM) (g : Int) (o : OpM) : (otherL x g o).d = x.d := by
 unfold otherL
 split
 ·rfl
 ·split
  ·rfl
  ·split
   ·rfl
   ·split <;> rfl
theorem does_d (s : ScrM) (x : LmM) (g : Int) (o : OpM) : (doesL s x g o).d ≤ max x.d s.draws.length := by
 unfold doesL
 split
 ·rw [alone_d]; exact Nat.le_max_left _ _
 ·split
  ·rw [alone_d]; exact Nat.le_max_left _ _
  ·split
   ·rw [shut_d]; exact Nat.le_max_left _ _
   ·split
    ·exact choose_d ..
    ·rw [other_d]; exact Nat.le_max_left _ _
theorem step_d (s : ScrM) (x : LmM) : (stepL s x).d ≤ max x.d s.draws.length := by
 unfold stepL
 split
 ·exact Nat.le_max_left _ _
 ·split
  ·exact Nat.le_max_left _ _
  ·exact does_d s { x with p := x.p + 1 } _ _
theorem run_d (s : ScrM) : ∀ n, (runL s n).d ≤ s.draws.length
 | 0 => Nat.zero_le _
 | n + 1 => by
  have := step_d s (runL s n)
  have := run_d s n
  unfold runL
  omega
set_option maxHeartbeats 4000000 in
theorem r_run13 {w : World} {F : List Piece} {A : Piece} {pa la da : Option Addr} {pc lc dc : Nat} {t m : Int} {X : List ProgX} {plz dr : List Int} (hX : 0 < X.length → ∃ b off, pa = some ⟨b, off, none⟩ ∧ ScrA A b off X) (hL : Reader A 1 la plz.length (ints plz)) (hD : Reader A 1 da dr.length (ints dr)) (hck : checkE ⟨t, m, progsM X, plz, dr⟩ = 0) (H : SL w (A :: F)) :
  Calls Tryz.prog 35 #[.agg #[.int .i64 t, .int .i64 m, .slice pa X.length pc, .slice la plz.length lc, .slice da dr.length dc]] w fun o w' => ∃ ta tc, o = .returned (.agg #[.slice ta (runL ⟨t, m, progsM X, plz, dr⟩ (plz.length + 1)).tr.length tc, .int .i64 (verL ⟨t, m, progsM X, plz, dr⟩ (runL ⟨t, m, progsM X, plz, dr⟩ (plz.length + 1)))]) ∧ SL w' (Slc 53 8 (.slice ta (runL ⟨t, m, progsM X, plz, dr⟩ (plz.length + 1)).tr.length tc) (runL ⟨t, m, progsM X, plz, dr⟩ (plz.length + 1)).tr.length ((runL ⟨t, m, progsM X, plz, dr⟩ (plz.length + 1)).tr.flatMap Ev.cells) :: A :: F) := by
 have hr := checkE_right hck
 have hn1 : 1 ≤ X.length := by have := hr.n1; simpa [progsM] using this
 have hgp : ∀ z ∈ plz, -1 ≤ z ∧ z ≤ 1000 := fun z hz => ⟨hr.p0 z hz, hr.p1 z hz⟩
 have hgd : ∀ z ∈ dr, 0 ≤ z ∧ z ≤ 1000 := checkE_draws hck
 have hpl : plz.length ≤ 200 := hr.plz
 have hdl : dr.length ≤ 64 := hr.dl
 obtain ⟨pb, po, rfl, hXA⟩ := hX (by omega)
 refine calls_d (args := [_]) Tryz.func35 rfl ?_
 refine ⟨Nw.as #[.int .i64 t, .int .i64 m, .slice (some ⟨pb, po, none⟩) X.length pc, .slice la plz.length lc, .slice da dr.length dc] 69 rfl H fun b1 w H => ?_⟩
 refine Nw.as #[.slice none 0 0, .int .i64 0] 60 rfl H fun b2 w H => ?_
 refine ⟨H.ldi 1 rfl (v := .int .i64 t) rfl ?_⟩
 refine H.ldi 1 rfl (v := .int .i64 m) rfl (H.ldi 1 rfl (v := .slice (some ⟨pb, po, none⟩) X.length pc) rfl (H.ldi 1 rfl (v := .slice la plz.length lc) rfl (H.ldi 1 rfl (v := .slice da dr.length dc) rfl ?_)))
 have h1 := H.pi [2, 0, 1] 3
 simp only [pl, nth, drL] at h1
 refine Cl.b (r_new13 hX hL hD hgp hgd hpl hdl hck h1) ?_
 rintro _ w ⟨lb, rfl, H⟩
 refine ⟨_, rfl, ?_⟩
 replace H := H.pi [0, 2, 3, 1] 4
 simp only [pl, nth, drL] at H
 refine ⟨BB.no rfl ?_⟩
 refine Cn.no (⟨⟨den.loop (ι := Nat) [(5, 5), (14, 22)] (by kernel_rfl) (fun j => [(5, .int .i64 ↑j)]) (fun j w => j ≤ plz.length + 1 ∧ SL w (row b1 #[.int .i64 t, .int .i64 m, .slice (some ⟨pb, po, none⟩) X.length pc, .slice la plz.length lc, .slice da dr.length dc] 69 :: row b2 #[.slice none 0 0, .int .i64 0] 60 :: RlP lb ⟨t, m, .slice (some ⟨pb, po, none⟩) X.length pc, .slice la plz.length lc, .slice da dr.length dc⟩ (runL ⟨t, m, progsM X, plz, dr⟩ j) :: A :: F)) (fun j => plz.length + 1 - j) 0 ⟨rfl, trivial⟩ ⟨Nat.zero_le _, (H.pi [2, 1, 0, 3] 4)⟩ ?_⟩⟩)
 rintro j s w ⟨hc, H⟩
 have h8 : j ≤ plz.length ∨ j = plz.length + 1 := by omega
 rcases h8 with hj | rfl
 ·refine ⟨H.ldi 0 rfl (v := .slice la plz.length lc) rfl ?_⟩
  refine BB.yd (Cn.yes (⟨⟨?_⟩⟩))
  have hk := Lk.run (s := ⟨t, m, progsM X, plz, dr⟩) hr.ok (np := X.length) (by unfold progsM; rw [List.length_map]) hn1 j
  have hd : (runL ⟨t, m, progsM X, plz, dr⟩ j).d ≤ 1000 := Nat.le_trans (run_d ⟨t, m, progsM X, plz, dr⟩ j) (show dr.length ≤ 1000 by omega)
  have h1 := H.pi [2, 3, 0, 1] 4
  simp only [pl, nth, drL] at h1
  refine Cl.s (r_step (s := ⟨t, m, progsM X, plz, dr⟩) (plz := plz) (dr := dr) (np := X.length) (k := j * 1100) rfl hXA rfl hL (fun z hz => (hgp z hz).1) rfl hD (fun z hz => (hgd z hz).1) (by unfold progsM; rw [List.length_map]) hn1 hr.ok (by omega) hd hk (by omega) h1) fun w H => ?_
  replace H := H.pi [2, 3, 0, 1] 4
  simp only [pl, nth, drL] at H
  refine BB.k (⟨IW.i j ?_⟩)
  exact ⟨j + 1, ⟨rfl, trivial⟩, ⟨(show j + 1 ≤ plz.length + 1 by omega), H⟩, (show plz.length + 1 - (j + 1) < plz.length + 1 - j by omega)⟩
 refine ⟨H.ldi 0 rfl (v := .slice la plz.length lc) rfl ?_⟩
 refine BB.nd (Cn.no ?_)
 have hk := Lk.run (s := ⟨t, m, progsM X, plz, dr⟩) hr.ok (np := X.length) (by unfold progsM; rw [List.length_map]) hn1 (plz.length + 1)
 have hob : ∃ x, runL ⟨t, m, progsM X, plz, dr⟩ (plz.length + 1) = x := ⟨_, rfl⟩
 obtain ⟨x, hx⟩ := hob
 rw [hx] at hk H
 rw [hx]
 have hob := eight hk.n8
 obtain ⟨n0, n1, n2, n3, n4, n5, n6, n7, hn⟩ := hob
 have H0 := H.pi [2, 0, 1, 3] 4
 simp only [pl, nth, drL] at H0
 replace H := H0
 have hob := rl_open (x := x) hn H
 obtain ⟨hb, crb, cha, chc, ta, tc, ps, hl, H⟩ := hob
 refine ⟨Drw.of [(0, true), (1, true), (2, true), (3, true), (4, true), (5, false), (6, true), (7, false)] (by kernel_rfl) mixed (fun w => SL w _) H.drew ?_⟩
 replace H := H.drew
 refine LdC.i 0 rfl (v := .slice ta x.tr.length tc) rfl ?_
 have h1 := H
 refine Cl.s (r_verdictO (s := ⟨t, m, progsM X, plz, dr⟩) (x := x) rfl h1) fun w H => ?_
 refine ⟨.inr H, ?_⟩
 refine MnC.pure (.agg #[.slice ta x.tr.length tc, .int .i64 (verL ⟨t, m, progsM X, plz, dr⟩ x)]) (fun _ => by kernel_rfl) ?_
 refine H.st7 (cs' := #[.slice ta x.tr.length tc, .int .i64 0]) rfl rfl rfl fun w H => ?_
 refine H.st7 (cs' := #[.slice ta x.tr.length tc, .int .i64 (verL ⟨t, m, progsM X, plz, dr⟩ x)]) rfl rfl rfl fun w H => ?_
 refine ⟨.inl rfl, ?_⟩
 refine retC H 7 rfl rfl (by rfl) (by kernel_rfl) (by kernel_rfl) ?_
 exact ⟨_, _, rfl, H.pi [5, 8] 9⟩
end Go.Proofs.YtoamjodmidbmbaaGreatDoor
