/- Gauge, plain: the state goes on; both say the same of each trace. -/
import Derived.Test.YtoejhelhgfipkaaDoorGaugeR
namespace Go.Proofs.YtoejhelhgfipkaaDoor
set_option linter.unusedVariables false
set_option linter.unusedSimpArgs false

section
variable {l : List Ev} {i : Nat} {r r' : RdrM}

structure CrewInv (l : List Ev) (i : Nat) (r : RdrM) : Prop where
  over : ∀ g, r.over = (goR l g i).over
  there : ∀ g, (goR l g i).there = r.crew.length
  crew : r.over = false → ∀ g : Nat, g < r.crew.length → r.crew[g]? = some ((goR l g i).waits, (goR l g i).exited)
  new : ∀ g : Nat, r.crew.length ≤ g → (goR l g i).waits = false ∧ (goR l g i).exited = false

theorem crew_step (h : InvG l i r) (hr : Rt (l.getD i evz)) (hp : (crewedF r (l.getD i evz)).1 = true) : CrewInv l (i + 1) (crewedF r (l.getD i evz)).2 := by
  have hg : ∀ g, goR l g (i + 1) = ⟨if (l.getD i evz).kind = 1 then (goR l g i).there + 1 else (goR l g i).there,
     if (l.getD i evz).g ≠ g ∨ (l.getD i evz).kind = 13 then (goR l g i).waits else if (l.getD i evz).kind = 7 then false else if (l.getD i evz).kind = 6 then true else (goR l g i).waits,
     if (l.getD i evz).g ≠ g ∨ (l.getD i evz).kind = 13 then (goR l g i).exited else ((goR l g i).exited || (l.getD i evz).kind == 11),
     (goR l g i).over || (l.getD i evz).kind == 12⟩ := fun g => rfl
  obtain ⟨e, he⟩ : ∃ e, l.getD i evz = e := ⟨_, rfl⟩
  rw [he] at hr hp ⊢
  simp only [he] at hg
  unfold crewedF at hp ⊢
  by_cases ho : r.over = true
  · rw [if_pos ho] at hp
    cases hp
  rw [if_neg ho] at hp ⊢
  have ho' : r.over = false := by simpa using ho
  by_cases h13 : e.kind = 13
  · rw [if_pos h13]
    constructor
    · intro g
      rw [hg g]
      dsimp only
      rw [h13, h.over g]
      simp
    · intro g
      rw [hg g]
      dsimp only
      rw [if_neg (by omega)]
      exact h.there g
    · intro _ g hgl
      rw [hg g]
      dsimp only
      rw [if_pos (.inr h13), if_pos (.inr h13)]
      exact h.crew ho' g hgl
    · intro g hgl
      rw [hg g]
      dsimp only
      rw [if_pos (.inr h13), if_pos (.inr h13)]
      exact h.new g hgl
  · rw [if_neg h13] at hp ⊢
    have heg := hr.g h13
    obtain ⟨n, hn⟩ : ∃ n : Nat, e.g = n := ⟨e.g.toNat, by omega⟩
    rw [hn, Int.toNat_natCast] at hp ⊢
    by_cases hlt : n < r.crew.length
    · rw [h.crew ho' n hlt] at hp ⊢
      dsimp only at hp ⊢
      by_cases hx : (goR l n i).exited = true
      · rw [if_pos hx] at hp
        cases hp
      rw [if_neg hx] at hp ⊢
      have hx' : (goR l n i).exited = false := by simpa using hx
      by_cases hw : e.kind ≠ 12 ∧ (goR l n i).waits ≠ (e.kind == 7)
      · rw [if_pos hw] at hp
        cases hp
      rw [if_neg hw] at hp ⊢
      have hno : ∀ g : Nat, g ≠ n → (goR l g (i + 1)).waits = (goR l g i).waits ∧ (goR l g (i + 1)).exited = (goR l g i).exited := fun g hgn => by
        rw [hg g]
        have : e.g ≠ (g : Int) ∨ e.kind = 13 := .inl (by omega)
        dsimp only
        rw [if_pos this, if_pos this]
        exact ⟨rfl, rfl⟩
      have hown : e.kind ≠ 12 → (goR l n (i + 1)).waits = (e.kind == 6) ∧ (goR l n (i + 1)).exited = (e.kind == 11) := fun h12 => by
        rw [hg n]
        have : ¬ (e.g ≠ (n : Int) ∨ e.kind = 13) := by omega
        dsimp only
        rw [if_neg this, if_neg this, hx', Bool.false_or]
        refine ⟨?_, rfl⟩
        have hwe : (goR l n i).waits = (e.kind == 7) := by
          rcases Decidable.em ((goR l n i).waits = (e.kind == 7)) with h1 | h1
          · exact h1
          · exact absurd ⟨h12, h1⟩ hw
        by_cases h7 : e.kind = 7
        · rw [if_pos h7, h7]
          rfl
        · rw [if_neg h7]
          by_cases h6 : e.kind = 6
          · rw [if_pos h6, h6]
            rfl
          · rw [if_neg h6, hwe]
            rw [beq_eq_false_iff_ne.2 h7, beq_eq_false_iff_ne.2 h6]
      have hover : ∀ g, (e.kind == 12) = (goR l g (i + 1)).over := fun g => by
        rw [hg g]
        dsimp only
        rw [← h.over g, ho', Bool.false_or]
      by_cases h1 : e.kind = 1
      · rw [if_pos h1] at hp ⊢
        by_cases hm : e.mate ≠ r.crew.length
        · rw [if_pos hm] at hp
          cases hp
        rw [if_neg hm]
        constructor
        · exact hover
        · intro g
          rw [hg g]
          dsimp only
          rw [if_pos h1, h.there g]
          simp
        · intro _ g hgl
          dsimp only at hgl ⊢
          simp only [List.length_append, List.length_set, List.length_singleton] at hgl
          by_cases hgn : g = n
          · subst hgn
            rw [List.getElem?_append_left (by simpa using hlt), List.getElem?_set_self hlt]
            obtain ⟨w1, w2⟩ := hown (by omega)
            rw [w1, w2]
          · obtain ⟨w1, w2⟩ := hno g hgn
            rw [w1, w2]
            by_cases hgl' : g < r.crew.length
            · rw [List.getElem?_append_left (by simpa using hgl'), List.getElem?_set_ne (by omega)]
              exact h.crew ho' g hgl'
            · have : g = r.crew.length := by omega
              subst this
              rw [List.getElem?_append_right (by simp)]
              obtain ⟨v1, v2⟩ := h.new r.crew.length (Nat.le_refl _)
              rw [v1, v2]
              simp
        · intro g hgl
          dsimp only at hgl
          simp only [List.length_append, List.length_set, List.length_singleton] at hgl
          obtain ⟨w1, w2⟩ := hno g (by omega)
          rw [w1, w2]
          exact h.new g (by omega)
      · rw [if_neg h1] at hp ⊢
        constructor
        · exact hover
        · intro g
          rw [hg g]
          dsimp only
          rw [if_neg h1, h.there g]
          simp
        · intro hov g hgl
          dsimp only at hov hgl ⊢
          simp only [List.length_set] at hgl
          have h12 : e.kind ≠ 12 := by
            intro h12
            rw [h12] at hov
            cases hov
          by_cases hgn : g = n
          · subst hgn
            rw [List.getElem?_set_self hlt]
            obtain ⟨w1, w2⟩ := hown h12
            rw [w1, w2]
          · obtain ⟨w1, w2⟩ := hno g hgn
            rw [w1, w2, List.getElem?_set_ne (by omega)]
            exact h.crew ho' g hgl
        · intro g hgl
          dsimp only at hgl
          simp only [List.length_set] at hgl
          obtain ⟨w1, w2⟩ := hno g (by omega)
          rw [w1, w2]
          exact h.new g hgl
    · rw [List.getElem?_eq_none (by omega)] at hp
      cases hp
end

end Go.Proofs.YtoejhelhgfipkaaDoor
