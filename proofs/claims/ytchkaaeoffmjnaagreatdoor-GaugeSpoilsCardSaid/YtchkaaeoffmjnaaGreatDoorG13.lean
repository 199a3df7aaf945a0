/- Texts of the proof, several in one file: SheetB, SheetC, SheetD, SheetE. -/
import Derived.Test.YtchkaaeoffmjnaaGreatDoorG12
import Derived.Test.YtchkaaeoffmjnaaGreatDoorG08
import Derived.Test.YtchkaaeoffmjnaaGreatDoorG11
namespace Go.Proofs.YtchkaaeoffmjnaaGreatDoor
set_option linter.unusedVariables false
set_option linter.unusedSimpArgs false
open Go.RowKit
set_option maxRecDepth 100000
def caseP (c : CaseM) : Bool := belowB c.chan 8 && belowB c.value 100 && (c.send || c.value == 0)
def opP (np : Int) (o : OpM) : Int :=
 if np < 1 ∨ 8 < np ∨ o.kind < 1 ∨ 9 < o.kind then 1
 else if 4 < o.cases.length then 2
 else if ¬ (fitB o.a (limF o.kind np).1 = true ∧ fitB o.b (limF o.kind np).2 = true) ∨ (o.kind ≠ 6 ∧ (0 < o.cases.length ∨ o.dflt = true)) then 4
 else if o.cases.all caseP = true then 0 else 4
section
variable {np : Int} {o : OpM} (h1 : ¬ (np < 1 ∨ 8 < np ∨ o.kind < 1 ∨ 9 < o.kind)) (h2 : ¬ 4 < o.cases.length)
theorem opP_1 (h : np < 1 ∨ 8 < np ∨ o.kind < 1 ∨ 9 < o.kind) : opP np o = 1 := by unfold opP; rw [if_pos h]
include h1
theorem opP_2 (h : 4 < o.cases.length) : opP np o = 2 := by unfold opP; rw [if_neg h1, if_pos h]
include h2
theorem opP_3 (h : ¬ (fitB o.a (limF o.kind np).1 = true ∧ fitB o.b (limF o.kind np).2 = true) ∨ (o.kind ≠ 6 ∧ (0 < o.cases.length ∨ o.dflt = true))) : opP np o = 4 := by unfold opP; rw [if_neg h1, if_neg h2, if_pos h]
theorem opP_4 (h : o.cases.all caseP = false) : opP np o = 4 := by
 unfold opP
 rw [if_neg h1, if_neg h2]
 split
 ·rfl
 ·rw [if_neg (by rw [h]; exact Bool.false_ne_true)]
theorem opP_5 (h3 : ¬ (¬ (fitB o.a (limF o.kind np).1 = true ∧ fitB o.b (limF o.kind np).2 = true) ∨ (o.kind ≠ 6 ∧ (0 < o.cases.length ∨ o.dflt = true)))) (h : o.cases.all caseP = true) : opP np o = 0 := by unfold opP; rw [if_neg h1, if_neg h2, if_neg h3, if_pos h]
end
theorem caseP_R (c : CaseM) : caseP c = caseR c := by
 unfold caseP caseR withinF belowB
 cases hs : c.send <;> rw [Bool.eq_iff_iff] <;> simp <;> omega
theorem opP_E (np : Int) (o : OpM) : opP np o = opE np o := by
 unfold opP opE
 by_cases h1 : np < 1 ∨ 8 < np ∨ o.kind < 1 ∨ 9 < o.kind
 ·rw [if_pos h1, if_pos h1]
 ·rw [if_neg h1, if_neg h1]
  by_cases h2 : 4 < o.cases.length
  ·rw [if_pos h2, if_pos h2]
  ·rw [if_neg h2, if_neg h2]
   have key : (fitB o.a (limF o.kind np).1 = true ∧ fitB o.b (limF o.kind np).2 = true) ↔ (withinF o.a (rowF o.kind).1 np = true ∧ withinF o.b (rowF o.kind).2 np = true) := by
    have hk : o.kind = 1 ∨ o.kind = 2 ∨ o.kind = 3 ∨ o.kind = 4 ∨ o.kind = 5 ∨ o.kind = 6 ∨ o.kind = 7 ∨ o.kind = 8 ∨ o.kind = 9 := by omega
    have hn : ¬ np < 1 := by omega
    rcases hk with hk | hk | hk | hk | hk | hk | hk | hk | hk <;> rw [hk] <;> simp [fitB, limF, belowB, mxF, rowF, withinF] <;> (try split) <;> omega
   have hall : o.cases.all caseP = o.cases.all caseR := by congr 1; funext c; exact caseP_R c
   rw [hall]
   have hF : (¬ (fitB o.a (limF o.kind np).1 = true ∧ fitB o.b (limF o.kind np).2 = true) ∨ (o.kind ≠ 6 ∧ (0 < o.cases.length ∨ o.dflt = true))) ↔ (¬ (withinF o.a (rowF o.kind).1 np = true ∧ withinF o.b (rowF o.kind).2 np = true) ∨ (o.kind ≠ 6 ∧ (o.cases.length ≠ 0 ∨ o.dflt = true))) := by
    rw [key, Nat.pos_iff_ne_zero]
   by_cases h3 : withinF o.a (rowF o.kind).1 np = true ∧ withinF o.b (rowF o.kind).2 np = true
   ·have hW : ¬ ¬ (withinF o.a (rowF o.kind).1 np = true ∧ withinF o.b (rowF o.kind).2 np = true) := fun h => h h3
    by_cases h4 : o.kind ≠ 6 ∧ (o.cases.length ≠ 0 ∨ o.dflt = true)
    ·have hP := hF.2 (.inr h4)
     rw [if_pos hP, if_neg hW, if_pos h4]
    ·have hP : ¬ _ := fun h => (hF.1 h).elim (fun h => h h3) h4
     rw [if_neg hP, if_neg hW, if_neg h4]
   ·have hP := hF.2 (.inl h3)
    rw [if_pos hP, if_pos h3]
set_option maxHeartbeats 4000000 in
theorem d_check {w : World} {F : List Piece} {A : Piece} {ca : Option Addr} {cc : Nat} {ok oa ob np : Int} {cs : List CaseM} {df : Bool} (hA : Reader A 3 ca cs.length (cs.flatMap CaseM.cells)) (H : SL w (A :: F)) :
  Calls Tryz.prog 45 #[.agg #[.int .i64 ok, .int .i64 oa, .int .i64 ob, .slice ca cs.length cc, .bool df], .int .i64 np] w fun o w' => o = .returned (.int .i64 (opE np ⟨ok, oa, ob, cs, df⟩)) ∧ SL w' (A :: F) := by
 rw [← opP_E]
 refine calls_den (args := [_, _]) Tryz.func45 rfl (Nat.le_of_ble_eq_true (by kernel_rfl)) (by kernel_rfl) ?_
 refine ⟨?_⟩
 refine Nw.as #[.int .i64 ok, .int .i64 oa, .int .i64 ob, .slice ca cs.length cc, .bool df] 66 rfl H fun b2 w H => ?_
 refine ⟨?_⟩
 refine BB.vr fun q1 e1 => ?_
 cases q1
 ·skip
  have h1 := of_decide_eq_false e1
  refine BB.vr fun q2 e2 => ?_
  cases q2
  ·skip
   have h2 := of_decide_eq_false e2
   refine H.ldi 0 rfl (v := .int .i64 ok) rfl ?_
   refine BB.vr fun q3 e3 => ?_
   cases q3
   ·skip
    have h3 := of_decide_eq_false e3
    refine H.ldi 0 rfl (v := .int .i64 ok) rfl ?_
    refine BB.vr fun q4 e4 => ?_
    cases q4
    ·skip
     have h4 := of_decide_eq_false e4
     refine Cn.no ?_
     refine ⟨?_⟩
     refine H.ldi 0 rfl (v := .slice ca cs.length cc) rfl ?_
     refine BB.vr fun q5 e5 => ?_
     cases q5
     ·skip
      have h5 := of_decide_eq_false e5
      refine Cn.no ?_
      refine ⟨?_⟩
      refine H.ldi 0 rfl (v := .int .i64 ok) rfl ?_
      refine Cl.sl (by kernel_rfl) (d_limits ok np H) fun w H => ?_
      refine ⟨?_⟩
      refine H.ldi 0 rfl (v := .int .i64 oa) rfl ?_
      refine Cl.sl (by kernel_rfl) (d_fits oa ((limF ok np).1) H) fun w H => ?_
      refine BB.vr fun q6 e6 => ?_
      cases q6
      ·skip
       refine BB.yes rfl ?_
       refine Cn.yes ?_
       refine ⟨?_⟩
       refine ret1 (fn := Tryz.f45) (.int .i64 4) rfl (by rfl) ?_
       have hcc : opP np ⟨ok, oa, ob, cs, df⟩ = 4 := opP_3 (by dsimp only; omega) (by dsimp only; omega) (.inl (by dsimp only; simp [*]))
       rw [hcc]
       exact ⟨rfl, H.pick [1] 2 (by decide)⟩
      ·skip
       refine BB.no rfl ?_
       refine H.ldi 0 rfl (v := .int .i64 ob) rfl ?_
       refine Cl.sl (by kernel_rfl) (d_fits ob ((limF ok np).2) H) fun w H => ?_
       refine BB.vr fun q7 e7 => ?_
       cases q7
       ·skip
        refine BB.yes rfl ?_
        refine Cn.yes ?_
        refine ⟨?_⟩
        refine ret1 (fn := Tryz.f45) (.int .i64 4) rfl (by rfl) ?_
        have hcc : opP np ⟨ok, oa, ob, cs, df⟩ = 4 := opP_3 (by dsimp only; omega) (by dsimp only; omega) (.inl (by dsimp only; simp [*]))
        rw [hcc]
        exact ⟨rfl, H.pick [1] 2 (by decide)⟩
       ·skip
        refine BB.no rfl ?_
        refine H.ldi 0 rfl (v := .int .i64 ok) rfl ?_
        refine BB.vr fun q8 e8 => ?_
        cases q8
        ·skip
         have h8 := bne_eq_false_iff_eq.1 e8
         refine Cn.no ?_
         refine ⟨?_⟩
         refine H.ldi 0 rfl (v := .slice ca cs.length cc) rfl ?_
         refine ⟨?_⟩
         refine den.loop (ι := Nat) [(4, 4), (8, 8), (66, 90)] (by kernel_rfl) (fun j => [(66, .int .i64 ↑j)]) (fun j w => (j ≤ cs.length ∧ (cs.take j).all caseP = true) ∧ SL w (row b2 #[.int .i64 ok, .int .i64 oa, .int .i64 ob, .slice ca cs.length cc, .bool df] 66 :: A :: F)) (fun j => cs.length - j) 0 ⟨rfl, trivial⟩ ⟨⟨Nat.zero_le _, rfl⟩, (H)⟩ ?_
         rintro j s w ⟨hc, H⟩
         have hob := Nat.lt_or_ge j cs.length
         rcases hob with hj | hj
         ·skip
          have hob : ∃ z, cs[j]? = some z := ⟨_, List.getElem?_eq_getElem hj⟩
          obtain ⟨cz, hcz⟩ := hob
          have hob := H.addrR 1 rfl hA (by omega)
          obtain ⟨cb, co, rfl⟩ := hob
          refine ⟨?_⟩
          refine BB.yes (decide_eq_true (by omega)) ?_
          refine Cn.yes ?_
          refine ⟨?_⟩
          refine ⟨?_⟩
          refine Ix.at j 3 (by kernel_rfl) (rfl) (hj) ?_
          refine H.ldR 1 rfl hA (by omega) (q := j * 3 + 0) rfl (v := .bool cz.send) ((case_cell hcz 0 (by decide)).trans rfl) ?_
          refine H.ldR 1 rfl hA (by omega) (q := j * 3 + 1) rfl (v := .int .i64 cz.chan) ((case_cell hcz 1 (by decide)).trans rfl) ?_
          refine H.ldR 1 rfl hA (by omega) (q := j * 3 + 2) rfl (v := .int .i64 cz.value) ((case_cell hcz 2 (by decide)).trans rfl) ?_
          refine Nw.as #[.bool false, .int .i64 0, .int .i64 0] 154 rfl H fun b8 w H => ?_
          refine H.st0 (cs' := #[.bool cz.send, .int .i64 0, .int .i64 0]) rfl rfl rfl fun w H => ?_
          refine H.st0 (cs' := #[.bool cz.send, .int .i64 cz.chan, .int .i64 0]) rfl rfl rfl fun w H => ?_
          refine H.st0 (cs' := #[.bool cz.send, .int .i64 cz.chan, .int .i64 cz.value]) rfl rfl rfl fun w H => ?_
          refine ⟨?_⟩
          refine H.ldi 0 rfl (v := .int .i64 cz.chan) rfl ?_
          refine Cl.sl (by kernel_rfl) (d_below cz.chan 8 H) fun w H => ?_
          refine BB.vr fun q9 e9 => ?_
          cases q9
          ·skip
           refine BB.yes rfl ?_
           refine Cn.yes ?_
           refine ⟨?_⟩
           refine ret1 (fn := Tryz.f45) (.int .i64 4) rfl (by rfl) ?_
           have hcc : opP np ⟨ok, oa, ob, cs, df⟩ = 4 := opP_4 (by dsimp only; omega) (by dsimp only; omega) (all_no hcz (by unfold caseP; simp [*, show belowB 0 100 = true from rfl]))
           rw [hcc]
           exact ⟨rfl, H.pick [2] 3 (by decide)⟩
          ·skip
           refine BB.no rfl ?_
           refine H.ldi 0 rfl (v := .int .i64 cz.value) rfl ?_
           refine Cl.sl (by kernel_rfl) (d_below cz.value 100 H) fun w H => ?_
           refine BB.vr fun q10 e10 => ?_
           cases q10
           ·skip
            refine BB.yes rfl ?_
            refine Cn.yes ?_
            refine ⟨?_⟩
            refine ret1 (fn := Tryz.f45) (.int .i64 4) rfl (by rfl) ?_
            have hcc : opP np ⟨ok, oa, ob, cs, df⟩ = 4 := opP_4 (by dsimp only; omega) (by dsimp only; omega) (all_no hcz (by unfold caseP; simp [*, show belowB 0 100 = true from rfl]))
            rw [hcc]
            exact ⟨rfl, H.pick [2] 3 (by decide)⟩
           ·skip
            refine BB.no rfl ?_
            refine H.ldi 0 rfl (v := .bool cz.send) rfl ?_
            refine BB.vr fun q11 e11 => ?_
            cases q11
            ·skip
             refine BB.yes rfl ?_
             refine H.ldi 0 rfl (v := .int .i64 cz.value) rfl ?_
             refine BB.vr fun q12 e12 => ?_
             cases q12
             ·skip
              have h12 := bne_eq_false_iff_eq.1 e12
              refine Cn.no ?_
              refine ⟨?_⟩
              refine IW.by (wrap_id (n := ↑j + 1) (by omega) (by omega)) ?_
              have hcase : caseP cz = true := by unfold caseP; simp [*, show belowB 0 100 = true from rfl]
              exact ⟨j + 1, ⟨rfl, trivial⟩, ⟨⟨by omega, all_step hc.2 hcz hcase⟩, H.pick [1, 2] 3 (by decide)⟩, (show cs.length - (j + 1) < cs.length - j by omega)⟩
             ·skip
              have h12 := bne_iff_ne.1 e12
              refine Cn.yes ?_
              refine ⟨?_⟩
              refine ret1 (fn := Tryz.f45) (.int .i64 4) rfl (by rfl) ?_
              have hcc : opP np ⟨ok, oa, ob, cs, df⟩ = 4 := opP_4 (by dsimp only; omega) (by dsimp only; omega) (all_no hcz (by unfold caseP; simp [*, show belowB 0 100 = true from rfl]))
              rw [hcc]
              exact ⟨rfl, H.pick [2] 3 (by decide)⟩
            ·skip
             refine BB.no rfl ?_
             refine Cn.no ?_
             refine ⟨?_⟩
             refine IW.by (wrap_id (n := ↑j + 1) (by omega) (by omega)) ?_
             have hcase : caseP cz = true := by unfold caseP; simp [*, show belowB 0 100 = true from rfl]
             exact ⟨j + 1, ⟨rfl, trivial⟩, ⟨⟨by omega, all_step hc.2 hcz hcase⟩, H.pick [1, 2] 3 (by decide)⟩, (show cs.length - (j + 1) < cs.length - j by omega)⟩
         ·skip
          have hob : j = cs.length := by omega
          obtain rfl := hob
          rw [List.take_length] at hc
          refine ⟨?_⟩
          refine BB.no (decide_eq_false (by omega)) ?_
          refine Cn.no ?_
          refine ⟨?_⟩
          refine ret1 (fn := Tryz.f45) (.int .i64 0) rfl (by rfl) ?_
          have hcc : opP np ⟨ok, oa, ob, cs, df⟩ = 0 := opP_5 (by dsimp only; omega) (by dsimp only; omega) (by dsimp only; rintro (h | ⟨h1, h2⟩); exact h ⟨by assumption, by assumption⟩; exact h1 (by first | assumption | rfl)) hc.2
          rw [hcc]
          exact ⟨rfl, H.pick [1] 2 (by decide)⟩
        ·skip
         have h8 := bne_iff_ne.1 e8
         refine H.ldi 0 rfl (v := .slice ca cs.length cc) rfl ?_
         refine BB.vr fun q13 e13 => ?_
         cases q13
         ·skip
          have h13 := of_decide_eq_false e13
          refine H.ldi 0 rfl (v := .bool df) rfl ?_
          refine BB.k ?_
          cases df
          ·skip
           refine Cn.no ?_
           refine ⟨?_⟩
           refine H.ldi 0 rfl (v := .slice ca cs.length cc) rfl ?_
           refine ⟨?_⟩
           refine den.loop (ι := Nat) [(4, 4), (8, 8), (66, 90)] (by kernel_rfl) (fun j => [(66, .int .i64 ↑j)]) (fun j w => (j ≤ cs.length ∧ (cs.take j).all caseP = true) ∧ SL w (row b2 #[.int .i64 ok, .int .i64 oa, .int .i64 ob, .slice ca cs.length cc, .bool false] 66 :: A :: F)) (fun j => cs.length - j) 0 ⟨rfl, trivial⟩ ⟨⟨Nat.zero_le _, rfl⟩, (H)⟩ ?_
           rintro j s w ⟨hc, H⟩
           have hob := Nat.lt_or_ge j cs.length
           rcases hob with hj | hj
           ·skip
            have hob : ∃ z, cs[j]? = some z := ⟨_, List.getElem?_eq_getElem hj⟩
            obtain ⟨cz, hcz⟩ := hob
            have hob := H.addrR 1 rfl hA (by omega)
            obtain ⟨cb, co, rfl⟩ := hob
            refine ⟨?_⟩
            refine BB.yes (decide_eq_true (by omega)) ?_
            refine Cn.yes ?_
            refine ⟨?_⟩
            refine ⟨?_⟩
            refine Ix.at j 3 (by kernel_rfl) (rfl) (hj) ?_
            refine H.ldR 1 rfl hA (by omega) (q := j * 3 + 0) rfl (v := .bool cz.send) ((case_cell hcz 0 (by decide)).trans rfl) ?_
            refine H.ldR 1 rfl hA (by omega) (q := j * 3 + 1) rfl (v := .int .i64 cz.chan) ((case_cell hcz 1 (by decide)).trans rfl) ?_
            refine H.ldR 1 rfl hA (by omega) (q := j * 3 + 2) rfl (v := .int .i64 cz.value) ((case_cell hcz 2 (by decide)).trans rfl) ?_
            refine Nw.as #[.bool false, .int .i64 0, .int .i64 0] 154 rfl H fun b8 w H => ?_
            refine H.st0 (cs' := #[.bool cz.send, .int .i64 0, .int .i64 0]) rfl rfl rfl fun w H => ?_
            refine H.st0 (cs' := #[.bool cz.send, .int .i64 cz.chan, .int .i64 0]) rfl rfl rfl fun w H => ?_
            refine H.st0 (cs' := #[.bool cz.send, .int .i64 cz.chan, .int .i64 cz.value]) rfl rfl rfl fun w H => ?_
            refine ⟨?_⟩
            refine H.ldi 0 rfl (v := .int .i64 cz.chan) rfl ?_
            refine Cl.sl (by kernel_rfl) (d_below cz.chan 8 H) fun w H => ?_
            refine BB.vr fun q14 e14 => ?_
            cases q14
            ·skip
             refine BB.yes rfl ?_
             refine Cn.yes ?_
             refine ⟨?_⟩
             refine ret1 (fn := Tryz.f45) (.int .i64 4) rfl (by rfl) ?_
             have hcc : opP np ⟨ok, oa, ob, cs, false⟩ = 4 := opP_4 (by dsimp only; omega) (by dsimp only; omega) (all_no hcz (by unfold caseP; simp [*, show belowB 0 100 = true from rfl]))
             rw [hcc]
             exact ⟨rfl, H.pick [2] 3 (by decide)⟩
            ·skip
             refine BB.no rfl ?_
             refine H.ldi 0 rfl (v := .int .i64 cz.value) rfl ?_
             refine Cl.sl (by kernel_rfl) (d_below cz.value 100 H) fun w H => ?_
             refine BB.vr fun q15 e15 => ?_
             cases q15
             ·skip
              refine BB.yes rfl ?_
              refine Cn.yes ?_
              refine ⟨?_⟩
              refine ret1 (fn := Tryz.f45) (.int .i64 4) rfl (by rfl) ?_
              have hcc : opP np ⟨ok, oa, ob, cs, false⟩ = 4 := opP_4 (by dsimp only; omega) (by dsimp only; omega) (all_no hcz (by unfold caseP; simp [*, show belowB 0 100 = true from rfl]))
              rw [hcc]
              exact ⟨rfl, H.pick [2] 3 (by decide)⟩
             ·skip
              refine BB.no rfl ?_
              refine H.ldi 0 rfl (v := .bool cz.send) rfl ?_
              refine BB.vr fun q16 e16 => ?_
              cases q16
              ·skip
               refine BB.yes rfl ?_
               refine H.ldi 0 rfl (v := .int .i64 cz.value) rfl ?_
               refine BB.vr fun q17 e17 => ?_
               cases q17
               ·skip
                have h17 := bne_eq_false_iff_eq.1 e17
                refine Cn.no ?_
                refine ⟨?_⟩
                refine IW.by (wrap_id (n := ↑j + 1) (by omega) (by omega)) ?_
                have hcase : caseP cz = true := by unfold caseP; simp [*, show belowB 0 100 = true from rfl]
                exact ⟨j + 1, ⟨rfl, trivial⟩, ⟨⟨by omega, all_step hc.2 hcz hcase⟩, H.pick [1, 2] 3 (by decide)⟩, (show cs.length - (j + 1) < cs.length - j by omega)⟩
               ·skip
                have h17 := bne_iff_ne.1 e17
                refine Cn.yes ?_
                refine ⟨?_⟩
                refine ret1 (fn := Tryz.f45) (.int .i64 4) rfl (by rfl) ?_
                have hcc : opP np ⟨ok, oa, ob, cs, false⟩ = 4 := opP_4 (by dsimp only; omega) (by dsimp only; omega) (all_no hcz (by unfold caseP; simp [*, show belowB 0 100 = true from rfl]))
                rw [hcc]
                exact ⟨rfl, H.pick [2] 3 (by decide)⟩
              ·skip
               refine BB.no rfl ?_
               refine Cn.no ?_
               refine ⟨?_⟩
               refine IW.by (wrap_id (n := ↑j + 1) (by omega) (by omega)) ?_
               have hcase : caseP cz = true := by unfold caseP; simp [*, show belowB 0 100 = true from rfl]
               exact ⟨j + 1, ⟨rfl, trivial⟩, ⟨⟨by omega, all_step hc.2 hcz hcase⟩, H.pick [1, 2] 3 (by decide)⟩, (show cs.length - (j + 1) < cs.length - j by omega)⟩
           ·skip
            have hob : j = cs.length := by omega
            obtain rfl := hob
            rw [List.take_length] at hc
            refine ⟨?_⟩
            refine BB.no (decide_eq_false (by omega)) ?_
            refine Cn.no ?_
            refine ⟨?_⟩
            refine ret1 (fn := Tryz.f45) (.int .i64 0) rfl (by rfl) ?_
            have hcc : opP np ⟨ok, oa, ob, cs, false⟩ = 0 := opP_5 (by dsimp only; omega) (by dsimp only; omega) (by dsimp only; rintro (h | ⟨h1, h2⟩); exact h ⟨by assumption, by assumption⟩; exact h2.elim (fun h => by omega) (fun h => by cases h)) hc.2
            rw [hcc]
            exact ⟨rfl, H.pick [1] 2 (by decide)⟩
          ·skip
           refine Cn.yes ?_
           refine ⟨?_⟩
           refine ret1 (fn := Tryz.f45) (.int .i64 4) rfl (by rfl) ?_
           have hcc : opP np ⟨ok, oa, ob, cs, true⟩ = 4 := opP_3 (by dsimp only; omega) (by dsimp only; omega) (.inr ⟨by assumption, .inr rfl⟩)
           rw [hcc]
           exact ⟨rfl, H.pick [1] 2 (by decide)⟩
         ·skip
          have h13 := of_decide_eq_true e13
          refine Cn.yes ?_
          refine ⟨?_⟩
          refine ret1 (fn := Tryz.f45) (.int .i64 4) rfl (by rfl) ?_
          have hcc : opP np ⟨ok, oa, ob, cs, df⟩ = 4 := opP_3 (by dsimp only; omega) (by dsimp only; omega) (.inr ⟨by assumption, .inl (by dsimp only; omega)⟩)
          rw [hcc]
          exact ⟨rfl, H.pick [1] 2 (by decide)⟩
     ·skip
      have h5 := of_decide_eq_true e5
      refine Cn.yes ?_
      refine ⟨?_⟩
      refine ret1 (fn := Tryz.f45) (.int .i64 2) rfl (by rfl) ?_
      have hcc : opP np ⟨ok, oa, ob, cs, df⟩ = 2 := opP_2 (by dsimp only; omega) (by dsimp only; omega)
      rw [hcc]
      exact ⟨rfl, H.pick [1] 2 (by decide)⟩
    ·skip
     have h4 := of_decide_eq_true e4
     refine Cn.yes ?_
     refine ⟨?_⟩
     refine ret1 (fn := Tryz.f45) (.int .i64 1) rfl (by rfl) ?_
     have hcc : opP np ⟨ok, oa, ob, cs, df⟩ = 1 := opP_1 (by dsimp only; omega)
     rw [hcc]
     exact ⟨rfl, H.pick [1] 2 (by decide)⟩
   ·skip
    have h3 := of_decide_eq_true e3
    refine Cn.yes ?_
    refine ⟨?_⟩
    refine ret1 (fn := Tryz.f45) (.int .i64 1) rfl (by rfl) ?_
    have hcc : opP np ⟨ok, oa, ob, cs, df⟩ = 1 := opP_1 (by dsimp only; omega)
    rw [hcc]
    exact ⟨rfl, H.pick [1] 2 (by decide)⟩
  ·skip
   have h2 := of_decide_eq_true e2
   refine Cn.yes ?_
   refine ⟨?_⟩
   refine ret1 (fn := Tryz.f45) (.int .i64 1) rfl (by rfl) ?_
   have hcc : opP np ⟨ok, oa, ob, cs, df⟩ = 1 := opP_1 (by dsimp only; omega)
   rw [hcc]
   exact ⟨rfl, H.pick [1] 2 (by decide)⟩
 ·skip
  have h1 := of_decide_eq_true e1
  refine Cn.yes ?_
  refine ⟨?_⟩
  refine ret1 (fn := Tryz.f45) (.int .i64 1) rfl (by rfl) ?_
  have hcc : opP np ⟨ok, oa, ob, cs, df⟩ = 1 := opP_1 (by dsimp only; omega)
  rw [hcc]
  exact ⟨rfl, H.pick [1] 2 (by decide)⟩
end Go.Proofs.YtchkaaeoffmjnaaGreatDoor
namespace Go.Proofs.YtchkaaeoffmjnaaGreatDoor
set_option linter.unusedVariables false
set_option linter.unusedSimpArgs false
open Go.RowKit
set_option maxRecDepth 100000
section
variable {α : Type} {L : List α} {p : α → Bool} {j : Nat} {z : α}
theorem any_step (h : (L.take j).any p = false) (hz : L[j]? = some z) (hp : p z = false) : (L.take (j + 1)).any p = false := by
 rw [List.take_add_one, hz, List.any_append, h]
 simp [hp]
theorem any_found (hz : L[j]? = some z) (hp : p z = true) : L.any p = true := List.any_eq_true.2 ⟨z, List.mem_of_getElem? hz, hp⟩
end
theorem out_one {w : World} {F : List Piece} {bl : Nat} {bh : Nat} {lo : Int} {hi : Int} (n : Int) (H : SL w (row bl #[.int .i64 lo] 3 :: row bh #[.int .i64 hi] 3 :: F)) : Calls Tryz.prog 89 #[.int .i64 n, .pointer (some ⟨bl, 0, none⟩), .pointer (some ⟨bh, 0, none⟩)] w fun o w' => o = .returned (.bool (decide (n < lo) || decide (n > hi))) ∧ SL w' (row bl #[.int .i64 lo] 3 :: row bh #[.int .i64 hi] 3 :: F) := by
 refine calls_den (args := [_, _, _]) Tryz.func89 rfl (Nat.le_of_ble_eq_true (by kernel_rfl)) (by kernel_rfl) ?_
 refine ⟨?_⟩
 refine ⟨?_⟩
 refine H.ldi 0 rfl (v := .int .i64 lo) rfl ?_
 refine BB.vr fun q1 e1 => ?_
 cases q1
 ·skip
  have h1 := of_decide_eq_false e1
  refine H.ldi 1 rfl (v := .int .i64 hi) rfl ?_
  refine BB.k ?_
  refine ret1 (fn := Tryz.f89) (.bool (decide (n > hi))) rfl (by rfl) ?_
  have hc : (decide (n < lo) || decide (n > hi)) = (decide (n > hi)) := by first | rfl | (simp [*]; done) | (simp; omega)
  rw [hc]
  exact ⟨rfl, H⟩
 ·skip
  have h1 := of_decide_eq_true e1
  refine ret1 (fn := Tryz.f89) (.bool true) rfl (by rfl) ?_
  have hc : (decide (n < lo) || decide (n > hi)) = (true) := by first | rfl | (simp [*]; done) | (simp; omega)
  rw [hc]
  exact ⟨rfl, H⟩
theorem out_index {w : World} {F : List Piece} {A : Piece} {bl : Nat} {bh : Nat} {lo : Int} {hi : Int} {la : Option Addr} {lc : Nat} {xs : List Int} (hA : Reader A 1 la xs.length (ints xs)) (hn : xs.length ≤ 1000000) (H : SL w (row bl #[.int .i64 lo] 3 :: row bh #[.int .i64 hi] 3 :: A :: F)) : Calls Tryz.prog 151 #[.slice la xs.length lc, .func (.func 89) #[] #[.pointer (some ⟨bl, 0, none⟩), .pointer (some ⟨bh, 0, none⟩)]] w fun o w' => ∃ r : Int, o = .returned (.int .i64 r) ∧ decide (0 ≤ r) = xs.any (fun z => (decide (z < lo) || decide (z > hi))) ∧ SL w' (row bl #[.int .i64 lo] 3 :: row bh #[.int .i64 hi] 3 :: A :: F) := by
 refine calls_den (args := [_, _]) Tryz.func151 rfl (Nat.le_of_ble_eq_true (by kernel_rfl)) (by kernel_rfl) ?_
 refine ⟨?_⟩
 refine ⟨?_⟩
 refine ⟨?_⟩
 refine den.loop (ι := Nat) [(4, 5), (8, 18)] (by kernel_rfl) (fun j => [(8, .int .i64 ↑j)]) (fun j w => (j ≤ xs.length ∧ (xs.take j).any (fun z => (decide (z < lo) || decide (z > hi))) = false) ∧ SL w (row bl #[.int .i64 lo] 3 :: row bh #[.int .i64 hi] 3 :: A :: F)) (fun j => xs.length - j) 0 ⟨rfl, trivial⟩ ⟨⟨Nat.zero_le _, rfl⟩, H⟩ ?_
 rintro j s w ⟨hc, H⟩
 have hob := Nat.lt_or_ge j xs.length
 rcases hob with hj | hj
 ·skip
  have hob : ∃ z, xs[j]? = some z := ⟨_, List.getElem?_eq_getElem hj⟩
  obtain ⟨z, hz⟩ := hob
  have hob := H.addrR 2 rfl hA (by omega)
  obtain ⟨lb, lf, rfl⟩ := hob
  refine ⟨?_⟩
  refine BB.yes (decide_eq_true (by omega)) ?_
  refine Cn.yes ?_
  refine ⟨?_⟩
  refine ⟨?_⟩
  refine ⟨?_⟩
  refine Ix.at j 1 (by kernel_rfl) (rfl) (hj) ?_
  refine H.ldR 2 rfl hA (by omega) (q := j * 1) (by rfl) (v := .int .i64 z) (int_cell hz) ?_
  have h1 := H
  refine Cl.sl (by kernel_rfl) (out_one z h1) fun w H => ?_
  refine BB.vr fun q1 e1 => ?_
  cases q1
  ·skip
   refine Cn.no ?_
   refine ⟨?_⟩
   refine IW.by (wrap_id (n := ↑j + 1) (by omega) (by omega)) ?_
   have hone : (decide (z < lo) || decide (z > hi)) = false := by assumption
   exact ⟨j + 1, ⟨rfl, trivial⟩, ⟨⟨by omega, any_step (p := (fun z => (decide (z < lo) || decide (z > hi)))) hc.2 hz hone⟩, H⟩, (show xs.length - (j + 1) < xs.length - j by omega)⟩
  ·skip
   refine Cn.yes ?_
   refine ⟨?_⟩
   refine ret1 (fn := Tryz.f151) (.int .i64 ↑j) rfl (by rfl) ?_
   have hany := any_found (p := (fun z => (decide (z < lo) || decide (z > hi)))) hz (by assumption)
   exact ⟨(j : Int), rfl, by rw [hany]; exact decide_eq_true (Int.natCast_nonneg j), H⟩
 ·skip
  have hob : j = xs.length := by omega
  obtain rfl := hob
  rw [List.take_length] at hc
  refine ⟨?_⟩
  refine BB.no (decide_eq_false (by omega)) ?_
  refine Cn.no ?_
  refine ⟨?_⟩
  refine ret1 (fn := Tryz.f151) (.int .i64 (-1)) rfl (by rfl) ?_
  exact ⟨-1, rfl, hc.2.symm, H⟩
theorem out_has {w : World} {F : List Piece} {A : Piece} {bl : Nat} {bh : Nat} {lo : Int} {hi : Int} {la : Option Addr} {lc : Nat} {xs : List Int} (hA : Reader A 1 la xs.length (ints xs)) (hn : xs.length ≤ 1000000) (H : SL w (row bl #[.int .i64 lo] 3 :: row bh #[.int .i64 hi] 3 :: A :: F)) : Calls Tryz.prog 88 #[.slice la xs.length lc, .func (.func 89) #[] #[.pointer (some ⟨bl, 0, none⟩), .pointer (some ⟨bh, 0, none⟩)]] w fun o w' => o = .returned (.bool (xs.any (fun z => (decide (z < lo) || decide (z > hi))))) ∧ SL w' (row bl #[.int .i64 lo] 3 :: row bh #[.int .i64 hi] 3 :: A :: F) := by
 refine calls_den (args := [_, _]) Tryz.func88 rfl (Nat.le_of_ble_eq_true (by kernel_rfl)) (by kernel_rfl) ?_
 refine ⟨?_⟩
 refine ⟨?_⟩
 refine Cl.by (by kernel_rfl) (out_index hA hn H) ?_
 rintro _ w ⟨r, rfl, hr, H⟩
 refine ⟨_, rfl, ?_⟩
 refine BB.k ?_
 refine ret1 (fn := Tryz.f88) (.bool (decide (r ≥ 0))) rfl (by rfl) ?_
 exact ⟨by rw [← hr], H⟩
theorem d_outside {w : World} {F : List Piece} {A : Piece} {la : Option Addr} {lc : Nat} {xs : List Int} (lo hi : Int) (hA : Reader A 1 la xs.length (ints xs)) (hn : xs.length ≤ 1000000) (H : SL w (A :: F)) : Calls Tryz.prog 44 #[.slice la xs.length lc, .int .i64 lo, .int .i64 hi] w fun o w' => o = .returned (.bool (xs.any (fun z => decide (z < lo) || decide (z > hi)))) ∧ SL w' (A :: F) := by
 refine calls_den (args := [_, _, _]) Tryz.func44 rfl (Nat.le_of_ble_eq_true (by kernel_rfl)) (by kernel_rfl) ?_
 refine ⟨?_⟩
 refine Nw.as #[.int .i64 lo] 3 rfl H fun b4 w H => ?_
 refine Nw.as #[.int .i64 hi] 3 rfl H fun b5 w H => ?_
 refine ⟨?_⟩
 refine Mn.pure (.func (.func 89) #[] #[.pointer (some ⟨b4, 0, none⟩), .pointer (some ⟨b5, 0, none⟩)]) (by kernel_rfl) ?_
 have h1 := H.pick [1, 0, 2] 3 (by decide)
 simp only [pk, nth, pkA, pkB, pkC, pkD, pkE, pkF] at h1
 refine Cl.sl (by kernel_rfl) (out_has hA hn h1) fun w H => ?_
 replace H := H.pick [1, 0, 2] 3 (by decide)
 simp only [pk, nth, pkA, pkB, pkC, pkD, pkE, pkF] at H
 refine BB.k ?_
 refine ret1 (fn := Tryz.f44) (.bool (xs.any (fun z => decide (z < lo) || decide (z > hi)))) rfl (by rfl) ?_
 exact ⟨rfl, H.pick [2] 3 (by decide)⟩
theorem bad_one {w : World} {F : List Piece} {bl : Nat} {lo : Int} (n : Int) (H : SL w (row bl #[.int .i64 lo] 3 :: F)) : Calls Tryz.prog 94 #[.int .i64 n, .pointer (some ⟨bl, 0, none⟩)] w fun o w' => o = .returned (.bool (decide (n < lo) || decide (n > 1000))) ∧ SL w' (row bl #[.int .i64 lo] 3 :: F) := by
 refine calls_den (args := [_, _]) Tryz.func94 rfl (Nat.le_of_ble_eq_true (by kernel_rfl)) (by kernel_rfl) ?_
 refine ⟨?_⟩
 refine ⟨?_⟩
 refine H.ldi 0 rfl (v := .int .i64 lo) rfl ?_
 refine BB.vr fun q1 e1 => ?_
 cases q1
 ·skip
  have h1 := of_decide_eq_false e1
  refine BB.k ?_
  refine ret1 (fn := Tryz.f94) (.bool (decide (n > 1000))) rfl (by rfl) ?_
  have hc : (decide (n < lo) || decide (n > 1000)) = (decide (n > 1000)) := by first | rfl | (simp [*]; done) | (simp; omega)
  rw [hc]
  exact ⟨rfl, H⟩
 ·skip
  have h1 := of_decide_eq_true e1
  refine ret1 (fn := Tryz.f94) (.bool true) rfl (by rfl) ?_
  have hc : (decide (n < lo) || decide (n > 1000)) = (true) := by first | rfl | (simp [*]; done) | (simp; omega)
  rw [hc]
  exact ⟨rfl, H⟩
theorem bad_index {w : World} {F : List Piece} {A : Piece} {bl : Nat} {lo : Int} {la : Option Addr} {lc : Nat} {xs : List Int} (hA : Reader A 1 la xs.length (ints xs)) (hn : xs.length ≤ 1000000) (H : SL w (row bl #[.int .i64 lo] 3 :: A :: F)) : Calls Tryz.prog 151 #[.slice la xs.length lc, .func (.func 94) #[] #[.pointer (some ⟨bl, 0, none⟩)]] w fun o w' => ∃ r : Int, o = .returned (.int .i64 r) ∧ decide (0 ≤ r) = xs.any (fun z => (decide (z < lo) || decide (z > 1000))) ∧ SL w' (row bl #[.int .i64 lo] 3 :: A :: F) := by
 refine calls_den (args := [_, _]) Tryz.func151 rfl (Nat.le_of_ble_eq_true (by kernel_rfl)) (by kernel_rfl) ?_
 refine ⟨?_⟩
 refine ⟨?_⟩
 refine ⟨?_⟩
 refine den.loop (ι := Nat) [(4, 5), (8, 18)] (by kernel_rfl) (fun j => [(8, .int .i64 ↑j)]) (fun j w => (j ≤ xs.length ∧ (xs.take j).any (fun z => (decide (z < lo) || decide (z > 1000))) = false) ∧ SL w (row bl #[.int .i64 lo] 3 :: A :: F)) (fun j => xs.length - j) 0 ⟨rfl, trivial⟩ ⟨⟨Nat.zero_le _, rfl⟩, H⟩ ?_
 rintro j s w ⟨hc, H⟩
 have hob := Nat.lt_or_ge j xs.length
 rcases hob with hj | hj
 ·skip
  have hob : ∃ z, xs[j]? = some z := ⟨_, List.getElem?_eq_getElem hj⟩
  obtain ⟨z, hz⟩ := hob
  have hob := H.addrR 1 rfl hA (by omega)
  obtain ⟨lb, lf, rfl⟩ := hob
  refine ⟨?_⟩
  refine BB.yes (decide_eq_true (by omega)) ?_
  refine Cn.yes ?_
  refine ⟨?_⟩
  refine ⟨?_⟩
  refine ⟨?_⟩
  refine Ix.at j 1 (by kernel_rfl) (rfl) (hj) ?_
  refine H.ldR 1 rfl hA (by omega) (q := j * 1) (by rfl) (v := .int .i64 z) (int_cell hz) ?_
  have h1 := H
  refine Cl.sl (by kernel_rfl) (bad_one z h1) fun w H => ?_
  refine BB.vr fun q1 e1 => ?_
  cases q1
  ·skip
   refine Cn.no ?_
   refine ⟨?_⟩
   refine IW.by (wrap_id (n := ↑j + 1) (by omega) (by omega)) ?_
   have hone : (decide (z < lo) || decide (z > 1000)) = false := by assumption
   exact ⟨j + 1, ⟨rfl, trivial⟩, ⟨⟨by omega, any_step (p := (fun z => (decide (z < lo) || decide (z > 1000)))) hc.2 hz hone⟩, H⟩, (show xs.length - (j + 1) < xs.length - j by omega)⟩
  ·skip
   refine Cn.yes ?_
   refine ⟨?_⟩
   refine ret1 (fn := Tryz.f151) (.int .i64 ↑j) rfl (by rfl) ?_
   have hany := any_found (p := (fun z => (decide (z < lo) || decide (z > 1000)))) hz (by assumption)
   exact ⟨(j : Int), rfl, by rw [hany]; exact decide_eq_true (Int.natCast_nonneg j), H⟩
 ·skip
  have hob : j = xs.length := by omega
  obtain rfl := hob
  rw [List.take_length] at hc
  refine ⟨?_⟩
  refine BB.no (decide_eq_false (by omega)) ?_
  refine Cn.no ?_
  refine ⟨?_⟩
  refine ret1 (fn := Tryz.f151) (.int .i64 (-1)) rfl (by rfl) ?_
  exact ⟨-1, rfl, hc.2.symm, H⟩
theorem bad_has {w : World} {F : List Piece} {A : Piece} {bl : Nat} {lo : Int} {la : Option Addr} {lc : Nat} {xs : List Int} (hA : Reader A 1 la xs.length (ints xs)) (hn : xs.length ≤ 1000000) (H : SL w (row bl #[.int .i64 lo] 3 :: A :: F)) : Calls Tryz.prog 88 #[.slice la xs.length lc, .func (.func 94) #[] #[.pointer (some ⟨bl, 0, none⟩)]] w fun o w' => o = .returned (.bool (xs.any (fun z => (decide (z < lo) || decide (z > 1000))))) ∧ SL w' (row bl #[.int .i64 lo] 3 :: A :: F) := by
 refine calls_den (args := [_, _]) Tryz.func88 rfl (Nat.le_of_ble_eq_true (by kernel_rfl)) (by kernel_rfl) ?_
 refine ⟨?_⟩
 refine ⟨?_⟩
 refine Cl.by (by kernel_rfl) (bad_index hA hn H) ?_
 rintro _ w ⟨r, rfl, hr, H⟩
 refine ⟨_, rfl, ?_⟩
 refine BB.k ?_
 refine ret1 (fn := Tryz.f88) (.bool (decide (r ≥ 0))) rfl (by rfl) ?_
 exact ⟨by rw [← hr], H⟩
end Go.Proofs.YtchkaaeoffmjnaaGreatDoor
namespace Go.Proofs.YtchkaaeoffmjnaaGreatDoor
set_option linter.unusedVariables false
set_option linter.unusedSimpArgs false
open Go.RowKit
set_option maxRecDepth 100000
theorem long_one {w : World} {F : List Piece} {qa : Option Addr} {n qc : Nat} (H : SL w F) : Calls Tryz.prog 87 #[.slice qa n qc] w fun o w' => o = .returned (.bool (decide (32 < n))) ∧ SL w' F := by
 refine calls_den (args := [_]) Tryz.func87 rfl (Nat.le_of_ble_eq_true (by kernel_rfl)) (by kernel_rfl) ?_
 refine ⟨?_⟩
 refine ⟨?_⟩
 refine BB.k ?_
 refine ret1 (fn := Tryz.f87) (.bool (decide ((↑n : Int) > 32))) rfl (by rfl) ?_
 have hc : decide (32 < n) = (decide ((↑n : Int) > 32)) := by simp; omega
 rw [hc]
 exact ⟨rfl, H⟩
theorem long_index {w : World} {F : List Piece} {A : Piece} {pa : Option Addr} {pc : Nat} {X : List ProgX} (hX : 0 < X.length → ∃ b off, pa = some ⟨b, off, none⟩ ∧ ScrA A b off X) (hn : X.length ≤ 1000000) (H : SL w (A :: F)) : Calls Tryz.prog 150 #[.slice pa X.length pc, .func (.func 87) #[] #[]] w fun o w' => ∃ r : Int, o = .returned (.int .i64 r) ∧ decide (0 ≤ r) = X.any (fun p : ProgX => decide (32 < p.ops.length)) ∧ SL w' (A :: F) := by
 refine calls_den (args := [_, _]) Tryz.func150 rfl (Nat.le_of_ble_eq_true (by kernel_rfl)) (by kernel_rfl) ?_
 refine ⟨?_⟩
 refine ⟨?_⟩
 refine ⟨?_⟩
 refine den.loop (ι := Nat) [(4, 5), (8, 18)] (by kernel_rfl) (fun j => [(8, .int .i64 ↑j)]) (fun j w => (j ≤ X.length ∧ (X.take j).any (fun p : ProgX => decide (32 < p.ops.length)) = false) ∧ SL w (A :: F)) (fun j => X.length - j) 0 ⟨rfl, trivial⟩ ⟨⟨Nat.zero_le _, rfl⟩, H⟩ ?_
 rintro j s w ⟨hc, H⟩
 have hob := Nat.lt_or_ge j X.length
 rcases hob with hj | hj
 ·skip
  have hob : ∃ z, X[j]? = some z := ⟨_, List.getElem?_eq_getElem hj⟩
  obtain ⟨px, hY⟩ := hob
  have hob := hX (by omega)
  obtain ⟨pb, po, rfl, hXA⟩ := hob
  have hM : (progsM X)[j]? = some (px.ops.map (·.op)) := by unfold progsM; rw [List.getElem?_map, hY]; rfl
  have hsome := hXA.some_ j px hY
  have hcase := hXA.case j px hY
  obtain ⟨ops, qa, qc⟩ := px
  dsimp only at hM hsome hcase
  refine ⟨?_⟩
  refine BB.yes (decide_eq_true (by omega)) ?_
  refine Cn.yes ?_
  refine ⟨?_⟩
  refine ⟨?_⟩
  refine ⟨?_⟩
  refine Ix.at j 1 (by kernel_rfl) (rfl) (hj) ?_
  refine H.ldPv 0 rfl hXA j hY (v := .slice qa ops.length qc) rfl ?_
  refine Cl.sl (by kernel_rfl) (long_one H) fun w H => ?_
  refine BB.vr fun q1 e1 => ?_
  cases q1
  ·skip
   refine Cn.no ?_
   refine ⟨?_⟩
   refine IW.by (wrap_id (n := ↑j + 1) (by omega) (by omega)) ?_
   have hone : (fun p : ProgX => decide (32 < p.ops.length)) ⟨ops, qa, qc⟩ = false := by assumption
   exact ⟨j + 1, ⟨rfl, trivial⟩, ⟨⟨by omega, any_step (p := (fun p : ProgX => decide (32 < p.ops.length))) hc.2 hY hone⟩, H⟩, (show X.length - (j + 1) < X.length - j by omega)⟩
  ·skip
   refine Cn.yes ?_
   refine ⟨?_⟩
   refine ret1 (fn := Tryz.f150) (.int .i64 ↑j) rfl (by rfl) ?_
   have hany := any_found (p := (fun p : ProgX => decide (32 < p.ops.length))) hY (by assumption)
   exact ⟨(j : Int), rfl, by rw [hany]; exact decide_eq_true (Int.natCast_nonneg j), H⟩
 ·skip
  have hob : j = X.length := by omega
  obtain rfl := hob
  rw [List.take_length] at hc
  refine ⟨?_⟩
  refine BB.no (decide_eq_false (by omega)) ?_
  refine Cn.no ?_
  refine ⟨?_⟩
  refine ret1 (fn := Tryz.f150) (.int .i64 (-1)) rfl (by rfl) ?_
  exact ⟨-1, rfl, hc.2.symm, H⟩
theorem long_has {w : World} {F : List Piece} {A : Piece} {pa : Option Addr} {pc : Nat} {X : List ProgX} (hX : 0 < X.length → ∃ b off, pa = some ⟨b, off, none⟩ ∧ ScrA A b off X) (hn : X.length ≤ 1000000) (H : SL w (A :: F)) : Calls Tryz.prog 86 #[.slice pa X.length pc, .func (.func 87) #[] #[]] w fun o w' => o = .returned (.bool (X.any (fun p : ProgX => decide (32 < p.ops.length)))) ∧ SL w' (A :: F) := by
 refine calls_den (args := [_, _]) Tryz.func86 rfl (Nat.le_of_ble_eq_true (by kernel_rfl)) (by kernel_rfl) ?_
 refine ⟨?_⟩
 refine ⟨?_⟩
 refine Cl.by (by kernel_rfl) (long_index hX hn H) ?_
 rintro _ w ⟨r, rfl, hr, H⟩
 refine ⟨_, rfl, ?_⟩
 refine BB.k ?_
 refine ret1 (fn := Tryz.f86) (.bool (decide (r ≥ 0))) rfl (by rfl) ?_
 exact ⟨by rw [← hr], H⟩
def longB (X : List ProgX) (pl dr : List Int) : Bool := decide (8 < X.length) || decide (200 < pl.length) || decide (64 < dr.length) || X.any (fun p : ProgX => decide (32 < p.ops.length))
theorem d_long {w : World} {F : List Piece} {A : Piece} {pa la da : Option Addr} {pc lc dc : Nat} {t m : Int} {X : List ProgX} {pl dr : List Int} (hX : 0 < X.length → ∃ b off, pa = some ⟨b, off, none⟩ ∧ ScrA A b off X) (hL : Reader A 1 la pl.length (ints pl)) (hD : Reader A 1 da dr.length (ints dr)) (H : SL w (A :: F)) : Calls Tryz.prog 43 #[.agg #[.int .i64 t, .int .i64 m, .slice pa X.length pc, .slice la pl.length lc, .slice da dr.length dc]] w fun o w' => o = .returned (.bool (longB X pl dr)) ∧ SL w' (A :: F) := by
 refine calls_den (args := [_]) Tryz.func43 rfl (Nat.le_of_ble_eq_true (by kernel_rfl)) (by kernel_rfl) ?_
 refine ⟨?_⟩
 refine Nw.as #[.int .i64 t, .int .i64 m, .slice pa X.length pc, .slice la pl.length lc, .slice da dr.length dc] 42 rfl H fun b1 w H => ?_
 refine ⟨?_⟩
 refine H.ldi 0 rfl (v := .slice pa X.length pc) rfl ?_
 refine BB.vr fun q1 e1 => ?_
 cases q1
 ·skip
  have h1 := of_decide_eq_false e1
  refine H.ldi 0 rfl (v := .slice la pl.length lc) rfl ?_
  refine BB.vr fun q2 e2 => ?_
  cases q2
  ·skip
   have h2 := of_decide_eq_false e2
   refine H.ldi 0 rfl (v := .slice da dr.length dc) rfl ?_
   refine BB.vr fun q3 e3 => ?_
   cases q3
   ·skip
    have h3 := of_decide_eq_false e3
    refine H.ldi 0 rfl (v := .slice pa X.length pc) rfl ?_
    have h1 := H.pick [1, 0] 2 (by decide)
    simp only [pk, nth, pkA, pkB, pkC, pkD, pkE, pkF] at h1
    refine Cl.sl (by kernel_rfl) (long_has hX (by omega) h1) fun w H => ?_
    replace H := H.pick [1, 0] 2 (by decide)
    simp only [pk, nth, pkA, pkB, pkC, pkD, pkE, pkF] at H
    refine BB.k ?_
    refine ret1 (fn := Tryz.f43) (.bool (X.any (fun p : ProgX => decide (32 < p.ops.length)))) rfl (by rfl) ?_
    have hc : longB X pl dr = ((X.any (fun p : ProgX => decide (32 < p.ops.length)))) := by unfold longB; first | (simp [*]; done) | (simp [*]; omega)
    rw [hc]
    exact ⟨rfl, H.pick [1] 2 (by decide)⟩
   ·skip
    have h3 := of_decide_eq_true e3
    refine ret1 (fn := Tryz.f43) (.bool true) rfl (by rfl) ?_
    have hc : longB X pl dr = (true) := by unfold longB; first | (simp [*]; done) | (simp [*]; omega)
    rw [hc]
    exact ⟨rfl, H.pick [1] 2 (by decide)⟩
  ·skip
   have h2 := of_decide_eq_true e2
   refine ret1 (fn := Tryz.f43) (.bool true) rfl (by rfl) ?_
   have hc : longB X pl dr = (true) := by unfold longB; first | (simp [*]; done) | (simp [*]; omega)
   rw [hc]
   exact ⟨rfl, H.pick [1] 2 (by decide)⟩
 ·skip
  have h1 := of_decide_eq_true e1
  refine ret1 (fn := Tryz.f43) (.bool true) rfl (by rfl) ?_
  have hc : longB X pl dr = (true) := by unfold longB; first | (simp [*]; done) | (simp [*]; omega)
  rw [hc]
  exact ⟨rfl, H.pick [1] 2 (by decide)⟩
section
variable {t m : Int} {X : List ProgX} {pl dr : List Int}
theorem long_lens (h : longB X pl dr = false) : X.length ≤ 8 ∧ pl.length ≤ 200 ∧ dr.length ≤ 64 := by
 unfold longB at h
 simp only [Bool.or_eq_false_iff, decide_eq_false_iff_not] at h
 omega
theorem long_no (h : longB X pl dr = false) {k : Nat} {p : ProgX} (hp : X[k]? = some p) : p.ops.length ≤ 32 := by
 unfold longB at h
 simp only [Bool.or_eq_false_iff] at h
 have := List.any_eq_false.1 h.2 p (List.mem_of_getElem? hp)
 simp at this
 omega
theorem long_short : X.any (fun p : ProgX => decide (32 < p.ops.length)) = !(progsM X).all shortP := by
 unfold progsM
 induction X with
 | nil => rfl
 | cons p X ih =>
  rw [List.any_cons, List.map_cons, List.all_cons, ih]
  have e : decide (32 < p.ops.length) = !shortP (p.ops.map (·.op)) := by
   unfold shortP
   rw [List.length_map]
   by_cases h : p.ops.length ≤ 32
   ·simp [h]
   ·simp [h]; omega
  rw [e]
  cases shortP (p.ops.map (·.op)) <;> simp
theorem out_plan : pl.any (fun z => decide (z < (-1)) || decide (z > 1000)) = !pl.all planOk := by
 induction pl with
 | nil => rfl
 | cons z pl ih =>
  have e : (decide (z < (-1)) || decide (z > 1000)) = !planOk z := by
   unfold planOk
   rw [Bool.eq_iff_iff]
   simp
  rw [List.any_cons, List.all_cons, ih, e]
  cases planOk z <;> simp
theorem out_draw : pl.any (fun z => decide (z < 0) || decide (z > 1000)) = !pl.all drawOk := by
 induction pl with
 | nil => rfl
 | cons z pl ih =>
  have e : (decide (z < 0) || decide (z > 1000)) = !drawOk z := by
   unfold drawOk
   rw [Bool.eq_iff_iff]
   simp
  rw [List.any_cons, List.all_cons, ih, e]
  cases drawOk z <;> simp
theorem long_parts (h : longB X pl dr = false) : ¬ (8 < (progsM X).length ∨ 200 < pl.length ∨ 64 < dr.length) ∧ (progsM X).all shortP = true := by
 have hl := long_lens h
 have hm : (progsM X).length = X.length := by unfold progsM; rw [List.length_map]
 refine ⟨by omega, ?_⟩
 unfold longB at h
 rw [long_short] at h
 simp only [Bool.or_eq_false_iff, Bool.not_eq_false'] at h
 exact h.2
variable (h1 : ¬ (t < 1 ∨ 256 < t ∨ m < 1 ∨ 1048576 < m))
include h1
theorem cE_long (h : longB X pl dr = true) : checkE ⟨t, m, progsM X, pl, dr⟩ = 2 := by
 have hm : (progsM X).length = X.length := by unfold progsM; rw [List.length_map]
 by_cases h2 : 8 < (progsM X).length ∨ 200 < pl.length ∨ 64 < dr.length
 ·exact checkE_2 h1 h2
 ·refine checkE_3 h1 h2 ?_
  unfold longB at h
  rw [long_short] at h
  have e1 : ¬ 8 < X.length := by omega
  have e2 : ¬ 200 < pl.length := by omega
  have e3 : ¬ 64 < dr.length := by omega
  simp only [e1, e2, e3, decide_false, Bool.false_or, Bool.not_eq_true'] at h
  exact h
theorem cE_form (hl : longB X pl dr = false) (h : X.length = 0 ∨ (pl.any (fun z => decide (z < (-1)) || decide (z > 1000)) = true ∨ dr.any (fun z => decide (z < 0) || decide (z > 1000)) = true)) : checkE ⟨t, m, progsM X, pl, dr⟩ = 4 := by
 have hm : (progsM X).length = X.length := by unfold progsM; rw [List.length_map]
 obtain ⟨h2, h3⟩ := long_parts hl
 rw [out_plan, out_draw] at h
 by_cases h4 : (progsM X).length = 0
 ·exact checkE_4 h1 h2 h3 h4
 ·cases h5 : (progsM X).all (progOk (progsM X).length) with
  | false => exact checkE_5 h1 h2 h3 h4 h5
  | true =>
   cases h6 : pl.all planOk with
   | false => exact checkE_6 h1 h2 h3 h4 h5 h6
   | true =>
    refine checkE_7 h1 h2 h3 h4 h5 h6 ?_
    rcases h with h | h | h
    ·omega
    ·rw [h6] at h; cases h
    ·show dr.all drawOk = false
     simpa using h
theorem cE_op (hl : longB X pl dr = false) (h4 : X.length ≠ 0) (h : (progsM X).all (progOk (X.length : Int)) = false) : checkE ⟨t, m, progsM X, pl, dr⟩ = 4 := by
 have hm : (progsM X).length = X.length := by unfold progsM; rw [List.length_map]
 obtain ⟨h2, h3⟩ := long_parts hl
 exact checkE_5 h1 h2 h3 (by dsimp only; omega) (by dsimp only; rw [hm]; exact h)
theorem cE_ok (hl : longB X pl dr = false) (h4 : X.length ≠ 0) (h6 : pl.any (fun z => decide (z < (-1)) || decide (z > 1000)) = false) (h7 : dr.any (fun z => decide (z < 0) || decide (z > 1000)) = false) (h : (progsM X).all (progOk (X.length : Int)) = true) : checkE ⟨t, m, progsM X, pl, dr⟩ = 0 := by
 have hm : (progsM X).length = X.length := by unfold progsM; rw [List.length_map]
 obtain ⟨h2, h3⟩ := long_parts hl
 rw [out_plan] at h6
 rw [out_draw] at h7
 exact checkE_0 h1 h2 h3 (by dsimp only; omega) (by dsimp only; rw [hm]; exact h) (by simpa using h6) (by simpa using h7)
end
set_option maxHeartbeats 4000000 in
theorem p_check {w : World} {F : List Piece} {A : Piece} {pa la da : Option Addr} {pc lc dc : Nat} {t m : Int} {X : List ProgX} {pl dr : List Int} (hX : 0 < X.length → ∃ b off, pa = some ⟨b, off, none⟩ ∧ ScrA A b off X) (hL : Reader A 1 la pl.length (ints pl)) (hD : Reader A 1 da dr.length (ints dr)) (H : SL w (A :: F)) : Calls Tryz.prog 20 #[.agg #[.int .i64 t, .int .i64 m, .slice pa X.length pc, .slice la pl.length lc, .slice da dr.length dc]] w fun o w' => o = .returned (.int .i64 (checkE ⟨t, m, progsM X, pl, dr⟩)) ∧ SL w' (A :: F) := by
 refine calls_den (args := [_]) Tryz.func20 rfl (Nat.le_of_ble_eq_true (by kernel_rfl)) (by kernel_rfl) ?_
 refine ⟨?_⟩
 refine Nw.as #[.int .i64 t, .int .i64 m, .slice pa X.length pc, .slice la pl.length lc, .slice da dr.length dc] 42 rfl H fun b1 w H => ?_
 refine ⟨?_⟩
 refine ⟨?_⟩
 refine H.ldi 0 rfl (v := .int .i64 t) rfl ?_
 refine BB.vr fun q1 e1 => ?_
 cases q1
 ·skip
  have h1 := of_decide_eq_false e1
  refine H.ldi 0 rfl (v := .int .i64 t) rfl ?_
  refine BB.vr fun q2 e2 => ?_
  cases q2
  ·skip
   have h2 := of_decide_eq_false e2
   refine H.ldi 0 rfl (v := .int .i64 m) rfl ?_
   refine BB.vr fun q3 e3 => ?_
   cases q3
   ·skip
    have h3 := of_decide_eq_false e3
    refine H.ldi 0 rfl (v := .int .i64 m) rfl ?_
    refine BB.vr fun q4 e4 => ?_
    cases q4
    ·skip
     have h4 := of_decide_eq_false e4
     refine Cn.no ?_
     refine ⟨?_⟩
     refine H.ldi 0 rfl (v := .int .i64 t) rfl ?_
     refine H.ldi 0 rfl (v := .int .i64 m) rfl ?_
     refine H.ldi 0 rfl (v := .slice pa X.length pc) rfl ?_
     refine H.ldi 0 rfl (v := .slice la pl.length lc) rfl ?_
     refine H.ldi 0 rfl (v := .slice da dr.length dc) rfl ?_
     have h1 := H.pick [1, 0] 2 (by decide)
     simp only [pk, nth, pkA, pkB, pkC, pkD, pkE, pkF] at h1
     refine Cl.sl (by kernel_rfl) (d_long hX hL hD h1) fun w H => ?_
     replace H := H.pick [1, 0] 2 (by decide)
     simp only [pk, nth, pkA, pkB, pkC, pkD, pkE, pkF] at H
     refine BB.vr fun q5 e5 => ?_
     cases q5
     ·skip
      refine Cn.no ?_
      have hlong : longB X pl dr = false := by assumption
      have hlens := long_lens hlong
      refine ⟨?_⟩
      refine H.ldi 0 rfl (v := .slice pa X.length pc) rfl ?_
      refine BB.vr fun q6 e6 => ?_
      cases q6
      ·skip
       have h6 := beq_eq_false_iff_ne.1 e6
       refine H.ldi 0 rfl (v := .slice la pl.length lc) rfl ?_
       have h1 := H.pick [1, 0] 2 (by decide)
       simp only [pk, nth, pkA, pkB, pkC, pkD, pkE, pkF] at h1
       refine Cl.sl (by kernel_rfl) (d_outside (-1) 1000 hL (by omega) h1) fun w H => ?_
       replace H := H.pick [1, 0] 2 (by decide)
       simp only [pk, nth, pkA, pkB, pkC, pkD, pkE, pkF] at H
       refine BB.vr fun q7 e7 => ?_
       cases q7
       ·skip
        refine H.ldi 0 rfl (v := .slice da dr.length dc) rfl ?_
        have h1 := H.pick [1, 0] 2 (by decide)
        simp only [pk, nth, pkA, pkB, pkC, pkD, pkE, pkF] at h1
        refine Cl.sl (by kernel_rfl) (d_outside 0 1000 hD (by omega) h1) fun w H => ?_
        replace H := H.pick [1, 0] 2 (by decide)
        simp only [pk, nth, pkA, pkB, pkC, pkD, pkE, pkF] at H
        refine BB.vr fun q8 e8 => ?_
        cases q8
        ·skip
         refine Cn.no ?_
         refine ⟨?_⟩
         refine H.ldi 0 rfl (v := .slice pa X.length pc) rfl ?_
         refine ⟨?_⟩
         refine den.loop (ι := Nat) [(2, 2), (4, 4), (6, 6), (47, 64)] (by kernel_rfl) (fun k => [(47, .int .i64 ↑k)]) (fun k w => (k ≤ X.length ∧ ((progsM X).take k).all (progOk (X.length : Int)) = true) ∧ SL w (row b1 #[.int .i64 t, .int .i64 m, .slice pa X.length pc, .slice la pl.length lc, .slice da dr.length dc] 42 :: A :: F)) (fun k => X.length - k) 0 ⟨rfl, trivial⟩ ⟨⟨Nat.zero_le _, rfl⟩, (H)⟩ ?_
         rintro k s w ⟨hc, H⟩
         have hob := Nat.lt_or_ge k X.length
         rcases hob with hk | hk
         ·skip
          have hob : ∃ z, X[k]? = some z := ⟨_, List.getElem?_eq_getElem hk⟩
          obtain ⟨px, hY⟩ := hob
          have hob := hX (by omega)
          obtain ⟨pb, po, rfl, hXA⟩ := hob
          have hM : (progsM X)[k]? = some (px.ops.map (·.op)) := by unfold progsM; rw [List.getElem?_map, hY]; rfl
          have hsome := hXA.some_ k px hY
          have hcase := hXA.case k px hY
          obtain ⟨ops, qa, qc⟩ := px
          dsimp only at hM hsome hcase
          have h32 : ops.length ≤ 32 := long_no hlong hY
          refine ⟨?_⟩
          refine BB.yes (decide_eq_true (by omega)) ?_
          refine Cn.yes ?_
          refine ⟨?_⟩
          refine ⟨?_⟩
          refine Ix.at k 1 (by kernel_rfl) (rfl) (hk) ?_
          refine H.ldPv 1 rfl hXA k hY (v := .slice qa ops.length qc) rfl ?_
          refine ⟨?_⟩
          refine ⟨?_⟩
          refine den.loop (ι := Nat) [(2, 2), (6, 6), (53, 63)] (by kernel_rfl) (fun i => [(53, .int .i64 ↑i)]) (fun i w => (i ≤ ops.length ∧ ((ops.map (·.op)).take i).all (fun o => opE (X.length : Int) o == 0) = true) ∧ SL w (row b1 #[.int .i64 t, .int .i64 m, .slice (some ⟨pb, po, none⟩) X.length pc, .slice la pl.length lc, .slice da dr.length dc] 42 :: A :: F)) (fun i => ops.length - i) 0 ⟨rfl, trivial⟩ ⟨⟨Nat.zero_le _, rfl⟩, (H)⟩ ?_
          rintro i s w ⟨hd, H⟩
          have hob := Nat.lt_or_ge i ops.length
          rcases hob with hi | hi
          ·skip
           have hob := hsome (by omega)
           obtain ⟨qb, qo, rfl⟩ := hob
           have hob : ∃ z, ops[i]? = some z := ⟨_, List.getElem?_eq_getElem hi⟩
           obtain ⟨ox, hox⟩ := hob
           have hoM : (ops.map (·.op))[i]? = some ox.op := by rw [List.getElem?_map, hox]; rfl
           refine ⟨?_⟩
           refine BB.yes (decide_eq_true (by omega)) ?_
           refine Cn.yes ?_
           refine ⟨?_⟩
           refine ⟨?_⟩
           refine Ix.at i 5 (by kernel_rfl) (rfl) (hi) ?_
           refine H.ldO 1 rfl hXA k hY rfl i 0 hox (v := .int .i64 ox.op.kind) rfl ?_
           refine H.ldO 1 rfl hXA k hY rfl i 1 hox (v := .int .i64 ox.op.a) rfl ?_
           refine H.ldO 1 rfl hXA k hY rfl i 2 hox (v := .int .i64 ox.op.b) rfl ?_
           refine H.ldO 1 rfl hXA k hY rfl i 3 hox (v := .slice ox.ca ox.op.cases.length ox.cc) rfl ?_
           refine H.ldO 1 rfl hXA k hY rfl i 4 hox (v := .bool ox.op.dflt) rfl ?_
           refine Nw.as #[.int .i64 0, .int .i64 0, .int .i64 0, .slice none 0 0, .bool false] 66 rfl H fun b6 w H => ?_
           refine H.st0 (cs' := #[.int .i64 ox.op.kind, .int .i64 0, .int .i64 0, .slice none 0 0, .bool false]) rfl rfl rfl fun w H => ?_
           refine H.st0 (cs' := #[.int .i64 ox.op.kind, .int .i64 ox.op.a, .int .i64 0, .slice none 0 0, .bool false]) rfl rfl rfl fun w H => ?_
           refine H.st0 (cs' := #[.int .i64 ox.op.kind, .int .i64 ox.op.a, .int .i64 ox.op.b, .slice none 0 0, .bool false]) rfl rfl rfl fun w H => ?_
           refine H.st0 (cs' := #[.int .i64 ox.op.kind, .int .i64 ox.op.a, .int .i64 ox.op.b, .slice ox.ca ox.op.cases.length ox.cc, .bool false]) rfl rfl rfl fun w H => ?_
           refine H.st0 (cs' := #[.int .i64 ox.op.kind, .int .i64 ox.op.a, .int .i64 ox.op.b, .slice ox.ca ox.op.cases.length ox.cc, .bool ox.op.dflt]) rfl rfl rfl fun w H => ?_
           refine ⟨?_⟩
           refine H.ldi 0 rfl (v := .int .i64 ox.op.kind) rfl ?_
           refine H.ldi 0 rfl (v := .int .i64 ox.op.a) rfl ?_
           refine H.ldi 0 rfl (v := .int .i64 ox.op.b) rfl ?_
           refine H.ldi 0 rfl (v := .slice ox.ca ox.op.cases.length ox.cc) rfl ?_
           refine H.ldi 0 rfl (v := .bool ox.op.dflt) rfl ?_
           refine H.ldi 1 rfl (v := .slice (some ⟨pb, po, none⟩) X.length pc) rfl ?_
           have h1 := H.pick [2, 0, 1] 3 (by decide)
           simp only [pk, nth, pkA, pkB, pkC, pkD, pkE, pkF] at h1
           refine Cl.sl (by kernel_rfl) (d_check (hcase i ox hox).1 h1) fun w H => ?_
           replace H := H.pick [1, 2, 0] 3 (by decide)
           simp only [pk, nth, pkA, pkB, pkC, pkD, pkE, pkF] at H
           refine BB.vr fun q9 e9 => ?_
           cases q9
           ·skip
            have h9 := bne_eq_false_iff_eq.1 e9
            refine Cn.no ?_
            refine ⟨?_⟩
            refine IW.by (wrap_id (n := ↑i + 1) (by omega) (by omega)) ?_
            have hone : (fun o => opE (X.length : Int) o == 0) ox.op = true := beq_iff_eq.2 (by assumption)
            exact ⟨i + 1, ⟨rfl, trivial⟩, ⟨⟨by omega, all_step hd.2 hoM hone⟩, H.pick [1, 2] 3 (by decide)⟩, (show ops.length - (i + 1) < ops.length - i by omega)⟩
           ·skip
            have h9 := bne_iff_ne.1 e9
            refine Cn.yes ?_
            refine ⟨?_⟩
            refine ret1 (fn := Tryz.f20) (.int .i64 4) rfl (by rfl) ?_
            have hcc : checkE ⟨t, m, progsM X, pl, dr⟩ = 4 := cE_op (by omega) hlong (by omega) (all_no hM (all_no hoM (beq_eq_false_iff_ne.2 (by assumption))))
            rw [hcc]
            exact ⟨rfl, H.pick [2] 3 (by decide)⟩
          ·skip
           have hob : i = ops.length := by omega
           obtain rfl := hob
           have hq := hd.2
           rw [List.take_of_length_le (by simp)] at hq
           refine ⟨?_⟩
           refine BB.no (decide_eq_false (by omega)) ?_
           refine Cn.no ?_
           refine ⟨?_⟩
           refine IW.by (wrap_id (n := ↑k + 1) (by omega) (by omega)) ?_
           have hone : progOk (X.length : Int) (ops.map (·.op)) = true := hq
           exact ⟨k + 1, ⟨rfl, trivial⟩, ⟨⟨by omega, all_step hc.2 hM hone⟩, H⟩, (show X.length - (k + 1) < X.length - k by omega)⟩
         ·skip
          have hob : k = X.length := by omega
          obtain rfl := hob
          have hp := hc.2
          rw [List.take_of_length_le (by simp [progsM])] at hp
          refine ⟨?_⟩
          refine BB.no (decide_eq_false (by omega)) ?_
          refine Cn.no ?_
          refine ⟨?_⟩
          refine ret1 (fn := Tryz.f20) (.int .i64 0) rfl (by rfl) ?_
          have hcc : checkE ⟨t, m, progsM X, pl, dr⟩ = 0 := cE_ok (by omega) hlong (by omega) (by assumption) (by assumption) hp
          rw [hcc]
          exact ⟨rfl, H.pick [1] 2 (by decide)⟩
        ·skip
         refine Cn.yes ?_
         refine ⟨?_⟩
         refine ret1 (fn := Tryz.f20) (.int .i64 4) rfl (by rfl) ?_
         have hcc : checkE ⟨t, m, progsM X, pl, dr⟩ = 4 := cE_form (by omega) hlong (.inr (by simp [*]))
         rw [hcc]
         exact ⟨rfl, H.pick [1] 2 (by decide)⟩
       ·skip
        refine Cn.yes ?_
        refine ⟨?_⟩
        refine ret1 (fn := Tryz.f20) (.int .i64 4) rfl (by rfl) ?_
        have hcc : checkE ⟨t, m, progsM X, pl, dr⟩ = 4 := cE_form (by omega) hlong (.inr (by simp [*]))
        rw [hcc]
        exact ⟨rfl, H.pick [1] 2 (by decide)⟩
      ·skip
       have h6 := eq_of_beq e6
       refine Cn.yes ?_
       refine ⟨?_⟩
       refine ret1 (fn := Tryz.f20) (.int .i64 4) rfl (by rfl) ?_
       have hcc : checkE ⟨t, m, progsM X, pl, dr⟩ = 4 := cE_form (by omega) hlong (.inl (by omega))
       rw [hcc]
       exact ⟨rfl, H.pick [1] 2 (by decide)⟩
     ·skip
      refine Cn.yes ?_
      refine ⟨?_⟩
      refine ret1 (fn := Tryz.f20) (.int .i64 2) rfl (by rfl) ?_
      have hcc : checkE ⟨t, m, progsM X, pl, dr⟩ = 2 := cE_long (by omega) (by assumption)
      rw [hcc]
      exact ⟨rfl, H.pick [1] 2 (by decide)⟩
    ·skip
     have h4 := of_decide_eq_true e4
     refine Cn.yes ?_
     refine ⟨?_⟩
     refine ret1 (fn := Tryz.f20) (.int .i64 1) rfl (by rfl) ?_
     have hcc : checkE ⟨t, m, progsM X, pl, dr⟩ = 1 := checkE_1 (by dsimp only; omega)
     rw [hcc]
     exact ⟨rfl, H.pick [1] 2 (by decide)⟩
   ·skip
    have h3 := of_decide_eq_true e3
    refine Cn.yes ?_
    refine ⟨?_⟩
    refine ret1 (fn := Tryz.f20) (.int .i64 1) rfl (by rfl) ?_
    have hcc : checkE ⟨t, m, progsM X, pl, dr⟩ = 1 := checkE_1 (by dsimp only; omega)
    rw [hcc]
    exact ⟨rfl, H.pick [1] 2 (by decide)⟩
  ·skip
   have h2 := of_decide_eq_true e2
   refine Cn.yes ?_
   refine ⟨?_⟩
   refine ret1 (fn := Tryz.f20) (.int .i64 1) rfl (by rfl) ?_
   have hcc : checkE ⟨t, m, progsM X, pl, dr⟩ = 1 := checkE_1 (by dsimp only; omega)
   rw [hcc]
   exact ⟨rfl, H.pick [1] 2 (by decide)⟩
 ·skip
  have h1 := of_decide_eq_true e1
  refine Cn.yes ?_
  refine ⟨?_⟩
  refine ret1 (fn := Tryz.f20) (.int .i64 1) rfl (by rfl) ?_
  have hcc : checkE ⟨t, m, progsM X, pl, dr⟩ = 1 := checkE_1 (by dsimp only; omega)
  rw [hcc]
  exact ⟨rfl, H.pick [1] 2 (by decide)⟩
end Go.Proofs.YtchkaaeoffmjnaaGreatDoor
namespace Go.Proofs.YtchkaaeoffmjnaaGreatDoor
set_option linter.unusedVariables false
set_option linter.unusedSimpArgs false
open Go.RowKit
theorem SL.slcQu {w : World} {F : List Piece} {te sz n : Nat} {v : Value} {xs : List Value} (H : SL w (Slc te sz v n xs :: F)) : SL w (Qu te sz v n xs :: F) := by
 refine H.conv (fun S _ h => ?_)
 obtain ⟨⟨h1, h2⟩, h3⟩ := h
 refine ⟨h1, ?_⟩
 rcases h2 with ⟨rfl, h⟩ | ⟨g, cap, cur, rfl, _, hg, hc, hm, hs, ht⟩
 ·exact .inl ⟨rfl, h⟩
 ·exact .inr ⟨g, 0, cap, cur, rfl, h3 g rfl, hg, hc, hm, by omega, by simpa using ht⟩
def RdC (o : OpX) : Piece := Slc 154 3 (.slice o.ca o.op.cases.length o.cc) o.op.cases.length (o.op.cases.flatMap CaseM.cells)
def casesP (ops : List OpX) : Piece := all (ops.map RdC)
def progVal (p : ProgX) : Value := .slice p.pa p.ops.length p.pc
def progP (p : ProgX) : Piece := all [Slc 66 5 (progVal p) p.ops.length (p.ops.flatMap OpX.cells), casesP p.ops]
def scrP (va : Option Addr) (vc : Nat) (X : List ProgX) : Piece := all [Slc 67 1 (.slice va X.length vc) X.length (X.map progVal), all (X.map progP)]
theorem all_snocP {w : World} {F L : List Piece} {A : Piece} (H : SL w (A :: all L :: F)) : SL w (all (L ++ [A]) :: F) := by
 have h := SL.all.1 H.up1
 refine SL.all.2 ?_
 rw [List.append_assoc]
 exact h
theorem opx_at {ops : List OpX} {j : Nat} {o : OpX} (h : ops[j]? = some o) (i : Nat) (hi : i < 5) : (ops.flatMap OpX.cells)[j * 5 + i]? = o.cells[i]? := by
 obtain ⟨hk, rfl⟩ := List.getElem?_eq_some_iff.1 h
 exact flat_get OpX.cells 5 (fun _ => rfl) ops j i hi hk
theorem SL.slcLe {w : World} {F : List Piece} {te sz n c : Nat} {a : Option Addr} {xs : List Value} (H : SL w (Slc te sz (.slice a n c) n xs :: F)) : n ≤ c := by
 obtain ⟨S, _, ⟨_, h⟩, _⟩ := H.on
 rcases h with ⟨h, rfl⟩ | ⟨g, cap, cur, h, _, _, h2, _⟩
 ·exact Nat.zero_le _
 ·injection h with _ _ e
  subst e
  exact h2
def GoodO (o : OpX) : Prop := o.op.cases.length ≤ o.cc
def GoodP (p : ProgX) : Prop := (0 < p.ops.length → ∃ b, p.pa = some ⟨b, 0, none⟩) ∧ p.ops.length ≤ p.pc ∧ ∀ o ∈ p.ops, GoodO o
theorem scrP_prog {va : Option Addr} {vc : Nat} {X : List ProgX} {S : Nat → Prop} {w : World} (h : (scrP va vc X).on S w) {k : Nat} {p : ProgX} (hk : X[k]? = some p) : ∃ T, (progP p).on T w := by
 obtain ⟨T, _, hT⟩ := SLs.at (A := all (X.map progP)) 1 h rfl
 obtain ⟨U, _, hU⟩ := SLs.at (A := progP p) k hT (by rw [List.getElem?_map, hk]; rfl)
 exact ⟨U, hU⟩
theorem scrP_A {va : Option Addr} {vc b : Nat} {X : List ProgX} (hg : ∀ p ∈ X, GoodP p) (hva : va = some ⟨b, 0, none⟩) : ScrA (scrP va vc X) b 0 X where
 prog := by
  intro S w h k p hk
  obtain ⟨T, _, hT⟩ := SLs.at (A := Slc 67 1 (.slice va X.length vc) X.length (X.map progVal)) 0 h rfl
  subst hva
  have := own_cell (o := 0 + k * 1) hT.1 (v := progVal p) (by rw [Nat.zero_add, Nat.mul_one, List.getElem?_map, hk]; rfl)
  exact this
 some_ := by
  intro k p hk hp
  obtain ⟨b, hb⟩ := (hg p (List.mem_of_getElem? hk)).1 hp
  exact ⟨b, 0, hb⟩
 op := by
  intro S w h k p hk b2 o2 hpa j o hj i v hv
  obtain ⟨T, hT⟩ := scrP_prog h hk
  obtain ⟨U, _, hU⟩ := SLs.at (A := Slc 66 5 (progVal p) p.ops.length (p.ops.flatMap OpX.cells)) 0 hT rfl
  have hjl := (List.getElem?_eq_some_iff.1 hj).1
  obtain ⟨b', hb'⟩ := (hg p (List.mem_of_getElem? hk)).1 (by omega)
  rw [hb'] at hpa
  injection hpa with hpa
  injection hpa with h1 h2
  subst h1 h2
  have hi : i < 5 := by
   have := (List.getElem?_eq_some_iff.1 hv).1
   simpa [OpX.cells] using this
  have hU := hU.1
  unfold progVal at hU
  rw [hb'] at hU
  exact own_cell (o := 0 + j * 5 + i) hU (by rw [Nat.zero_add, opx_at hj i hi]; exact hv)
 cap := by
  intro k p hk
  exact (hg p (List.mem_of_getElem? hk)).2.1
 case := by
  intro k p hk j o hj
  refine ⟨?_, (hg p (List.mem_of_getElem? hk)).2.2 o (List.mem_of_getElem? hj)⟩
  intro S w h
  obtain ⟨T, hT⟩ := scrP_prog h hk
  obtain ⟨U, _, hU⟩ := SLs.at (A := casesP p.ops) 1 hT rfl
  obtain ⟨V, _, hV⟩ := SLs.at (A := RdC o) j hU (by rw [List.getElem?_map, hj]; rfl)
  exact Reader.slc V w hV
end Go.Proofs.YtchkaaeoffmjnaaGreatDoor
