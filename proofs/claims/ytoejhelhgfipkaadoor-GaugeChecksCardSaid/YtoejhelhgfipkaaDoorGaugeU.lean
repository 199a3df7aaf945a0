/- Gauge, plain: both say the same of each trace. -/
import Derived.Test.YtoejhelhgfipkaaDoorGaugeT
namespace Go.Proofs.YtoejhelhgfipkaaDoor
set_option linter.unusedVariables false
set_option linter.unusedSimpArgs false

section
variable {l : List Ev} {i : Nat} {r r1 : RdrM}

theorem closer_step (h : InvG l i r) (hi : i < l.length) (hc : r1.closer = r.closer) (hs : servedR l i = true) (e : Ev) :
    backR l e (i + 1) = ((servedF r1 (prevF l i) (l.getD i evz)).2.closer.kind == 5 && e.mate == (servedF r1 (prevF l i) (l.getD i evz)).2.closer.g && e.chan == (servedF r1 (prevF l i) (l.getD i evz)).2.closer.chan) := by
  have hb : backR l e (i + 1) = (if (l.getD i evz).kind = 5 then (l.getD i evz).g == e.mate && (l.getD i evz).chan == e.chan else if (l.getD i evz).kind ≠ 7 ∨ (0 < i ∧ servesF (l.getD (i - 1) evz) = true) then false else backR l e i) := rfl
  have hcl := h.closer e
  unfold servedR at hs
  unfold servedF
  rw [prev_at (Nat.le_of_lt hi)]
  obtain ⟨x, hx⟩ : ∃ x, l.getD i evz = x := ⟨_, rfl⟩
  rw [hx] at hb hs ⊢
  dsimp only at hs
  rw [hb]
  by_cases h0 : 0 < i ∧ servesF (l.getD (i - 1) evz) = true
  · rw [if_pos h0] at hs
    have h7 : x.kind = 7 := by
      simp only [Bool.and_eq_true, beq_iff_eq] at hs
      exact hs.1.1.1.1.1.1
    rw [if_neg (by omega), if_pos (.inr h0), if_neg (show ¬ i = 0 by omega)]
    simp only [Option.filter, h0.2, if_true]
    rw [hc, ← hcl]
    obtain ⟨j, rfl⟩ : ∃ j, i = j + 1 := ⟨i - 1, by omega⟩
    have hj : backR l e (j + 1) = (if (l.getD j evz).kind = 5 then (l.getD j evz).g == e.mate && (l.getD j evz).chan == e.chan else if (l.getD j evz).kind ≠ 7 ∨ (0 < j ∧ servesF (l.getD (j - 1) evz) = true) then false else backR l e j) := rfl
    rw [hj]
    have hk := h0.2
    rw [Nat.add_sub_cancel] at hk
    unfold servesF at hk
    simp only [Bool.and_eq_true, Bool.or_eq_true, beq_iff_eq, decide_eq_true_eq] at hk
    rw [if_neg (by omega), if_pos (.inl (by omega))]
  · rw [if_neg h0] at hs
    have hn : (if i = 0 then none else some (l.getD (i - 1) evz)).filter servesF = none := by
      by_cases hz : i = 0
      · rw [if_pos hz]; rfl
      · rw [if_neg hz]
        have : servesF (l.getD (i - 1) evz) = false := by
          cases hs : servesF (l.getD (i - 1) evz)
          · rfl
          · exact absurd ⟨by omega, hs⟩ h0
        simp only [Option.filter, this]
        rfl
    rw [hn]
    dsimp only
    by_cases h7 : x.kind = 7
    · have a1 : ¬ (x.kind ≠ 7 ∨ (0 < i ∧ servesF (l.getD (i - 1) evz) = true)) := fun hh => hh.elim (fun h => h h7) h0
      rw [if_neg (show ¬ x.kind = 5 by omega), if_neg a1, if_pos h7, hcl, hc]
    · rw [if_neg h7]
      dsimp only
      by_cases h5 : x.kind = 5
      · rw [if_pos h5, h5]
        rw [Bool.eq_iff_iff]
        simp only [Bool.and_eq_true, beq_iff_eq, true_and]
        exact ⟨fun hh => ⟨hh.1.symm, hh.2.symm⟩, fun hh => ⟨hh.1.symm, hh.2.symm⟩⟩
      · rw [if_neg h5, if_pos (.inl h7), beq_eq_false_iff_ne.2 h5]
        simp

theorem made_keeps2 (r : RdrM) (e : Ev) : (madeF r e).2.crew = r.crew ∧ (madeF r e).2.over = r.over := by
  unfold madeF
  split
  · split <;> exact ⟨rfl, rfl⟩
  · exact ⟨rfl, rfl⟩

theorem served_keeps2 (r : RdrM) (p : Option Ev) (e : Ev) : (servedF r p e).2.crew = r.crew ∧ (servedF r p e).2.over = r.over := by
  unfold servedF
  split
  · exact ⟨rfl, rfl⟩
  · split <;> exact ⟨rfl, rfl⟩

theorem step_rules (h : InvG l i r) (hi : i < l.length) : (stepG r (prevF l i) (nextF l i) (l.getD i evz)).1 = brR l i := by
  unfold stepG brR
  rw [ent_ref]
  by_cases h1 : ref12 (l.getD i evz) = 0
  · have hr := Rt.of h1
    have a0 : ¬ ref12 (l.getD i evz) ≠ 0 := fun hh => hh h1
    rw [if_neg a0, if_neg a0, crew_same h hr, made_same h hr]
    have ck := crewed_keeps r (l.getD i evz)
    have mk := made_keeps (crewedF r (l.getD i evz)).2 (l.getD i evz)
    have sk := served_keeps (madeF (crewedF r (l.getD i evz)).2 (l.getD i evz)).2 (prevF l i) (l.getD i evz)
    rw [served_same h hi (mk.1.trans ck.2)]
    by_cases h2 : crewR l i = false
    · rw [if_pos h2, if_pos h2]
    · rw [if_neg h2, if_neg h2]
      by_cases h3 : madeR l i = false
      · rw [if_pos h3, if_pos h3]
      · rw [if_neg h3, if_neg h3]
        have h3' : madeR l i = true := by simpa using h3
        rw [ordered_same h hi hr (fun hk => sk.trans ((mk.2 hk).trans ck.1)) h3', closed_same h hr (fun hk => sk.trans ((mk.2 hk).trans ck.1)) h3']
        by_cases h4 : servedR l i = false
        · rw [if_pos h4, if_pos h4]
        · rw [if_neg h4, if_neg h4]
          by_cases h5 : orderedR l i = false
          · rw [if_pos h5, if_pos h5]
          · rw [if_neg h5, if_neg h5]
            by_cases h6 : closedR l i = false
            · rw [if_pos h6, if_pos h6]
            · rw [if_neg h6, if_neg h6]
  · rw [if_pos h1, if_pos h1]

theorem InvG.step (h : InvG l i r) (hi : i < l.length) (hb : brR l i = 0) : InvG l (i + 1) (stepG r (prevF l i) (nextF l i) (l.getD i evz)).2 := by
  have hs := step_rules h hi
  rw [hb] at hs
  unfold brR at hb
  have h1 : ref12 (l.getD i evz) = 0 := by
    rcases Decidable.em (ref12 (l.getD i evz) = 0) with h1 | h1
    · exact h1
    · rw [if_pos h1] at hb
      cases hb
  have a0 : ¬ ref12 (l.getD i evz) ≠ 0 := fun hh => hh h1
  rw [if_neg a0] at hb
  have hr := Rt.of h1
  have h2 : crewR l i = true := by
    cases hx : crewR l i
    · rw [if_pos hx] at hb
      cases hb
    · rfl
  rw [if_neg (by simp [h2])] at hb
  have h3 : madeR l i = true := by
    cases hx : madeR l i
    · rw [if_pos hx] at hb
      cases hb
    · rfl
  rw [if_neg (by simp [h3])] at hb
  have h4 : servedR l i = true := by
    cases hx : servedR l i
    · rw [if_pos hx] at hb
      cases hb
    · rfl
  have ck := crewed_keeps r (l.getD i evz)
  have mk := made_keeps (crewedF r (l.getD i evz)).2 (l.getD i evz)
  have mk2 := made_keeps2 (crewedF r (l.getD i evz)).2 (l.getD i evz)
  have sk2 := served_keeps2 (madeF (crewedF r (l.getD i evz)).2 (l.getD i evz)).2 (prevF l i) (l.getD i evz)
  have hC := crew_step h hr (by rw [crew_same h hr]; exact h2)
  have hD := chan_step (p := prevF l i) h hi hr ck.1 h3
  have hE := closer_step h hi (mk.1.trans ck.2) h4
  have hfin : (stepG r (prevF l i) (nextF l i) (l.getD i evz)).2 = (closedF (orderedF (servedF (madeF (crewedF r (l.getD i evz)).2 (l.getD i evz)).2 (prevF l i) (l.getD i evz)).2 (nextF l i) (l.getD i evz)).2 (l.getD i evz)).2 := by
    unfold stepG at hs ⊢
    split
    · rename_i hx; rw [if_pos hx] at hs; cases hs
    rename_i hx; rw [if_neg hx] at hs
    split
    · rename_i hx; rw [if_pos hx] at hs; cases hs
    rename_i hx; rw [if_neg hx] at hs
    split
    · rename_i hx; rw [if_pos hx] at hs; cases hs
    rename_i hx; rw [if_neg hx] at hs
    split
    · rename_i hx; rw [if_pos hx] at hs; cases hs
    rename_i hx; rw [if_neg hx] at hs
    split
    · rename_i hx; rw [if_pos hx] at hs; cases hs
    rename_i hx; rw [if_neg hx] at hs
    split <;> rfl
  rw [hfin]
  obtain ⟨r3, hr3⟩ : ∃ r3, (servedF (madeF (crewedF r (l.getD i evz)).2 (l.getD i evz)).2 (prevF l i) (l.getD i evz)).2 = r3 := ⟨_, rfl⟩
  rw [hr3] at sk2 hD hE ⊢
  have ok := ordered_keeps r3 (nextF l i) (l.getD i evz)
  have cl := closed_keeps (orderedF r3 (nextF l i) (l.getD i evz)).2 (l.getD i evz)
  have ecrew := cl.2.1.trans (ok.2.1.trans (sk2.1.trans mk2.1))
  have eover := cl.2.2.1.trans (ok.2.2.1.trans (sk2.2.trans mk2.2))
  have ecl := cl.1.trans ok.1
  refine ⟨fun g => ?_, fun g => ?_, fun ho g hg => ?_, fun g hg => ?_, hD.makes, hD.ins, hD.insNew, fun e => ?_⟩
  · rw [eover]; exact hC.over g
  · rw [ecrew]; exact hC.there g
  · rw [ecrew] at hg ⊢
    rw [eover] at ho
    exact hC.crew ho g hg
  · rw [ecrew] at hg
    exact hC.new g hg
  · rw [ecl]; exact hE e

theorem inv_all (l : List Ev) : ∀ i, i ≤ l.length → (∀ j, j < i → brR l j = 0) → InvG l i (stG l i) := by
  intro i
  induction i with
  | zero => intro _ _; exact InvG.start l
  | succ n ih =>
    intro hn hb
    exact (ih (by omega) (fun j hj => hb j (by omega))).step (by omega) (hb n (by omega))

/-- As long as no rule is broken, the next event breaks the same rule by both. -/
theorem br_same (l : List Ev) (i : Nat) (hi : i < l.length) (hb : ∀ j, j < i → brR l j = 0) : brG l i = brR l i :=
  step_rules (inv_all l i (by omega) hb) hi
end

end Go.Proofs.YtoejhelhgfipkaaDoor
