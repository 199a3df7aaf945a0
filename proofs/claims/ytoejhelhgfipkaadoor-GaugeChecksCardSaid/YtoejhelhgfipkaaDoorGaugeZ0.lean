/- Gauge, plain: the rules as a table, sizes. -/
import Derived.Test.YtoejhelhgfipkaaDoorGaugeX0
namespace Go.Proofs.YtoejhelhgfipkaaDoor
set_option linter.unusedVariables false
set_option linter.unusedSimpArgs false

def ruleF (prev : Option Ev) (next : Option Int) (e : Ev) : Nat → RdrM → Bool × RdrM
  | 0, r => (entF e == 0, r)
  | 1, r => crewedF r e
  | 2, r => madeF r e
  | 3, r => servedF r prev e
  | 4, r => orderedF r next e
  | _, r => closedF r e

def runF (prev : Option Ev) (next : Option Int) (e : Ev) : Nat → Nat → RdrM → Int × RdrM
  | 0, i, r => (0, r)
  | k + 1, i, r => if (ruleF prev next e i r).1 = false then ((i : Int) + 1, (ruleF prev next e i r).2) else runF prev next e k (i + 1) (ruleF prev next e i r).2

theorem stepG_run (r : RdrM) (prev : Option Ev) (next : Option Int) (e : Ev) : stepG r prev next e = runF prev next e 6 0 r := by
  unfold stepG
  by_cases h : entF e = 0
  · have h0 : (entF e == 0) = true := beq_iff_eq.2 h
    simp only [runF, ruleF, h, h0, ne_eq, not_true_eq_false, if_false, Bool.true_eq_false]
    rfl
  · have h0 : (entF e == 0) = false := beq_eq_false_iff_ne.2 h
    rw [if_pos h]
    simp only [runF, ruleF, h0, if_true]
    rfl

theorem inn_iff {a b n : Int} : inn a b n = true ↔ a ≤ n ∧ n ≤ b := by simp [inn]

theorem shape_in (k : Int) : -1 ≤ (shapeF k).c0 ∧ (shapeF k).c1 ≤ 511 ∧ -1 ≤ (shapeF k).v0 ∧ (shapeF k).v1 ≤ 99 ∧ -1 ≤ (shapeF k).m0 ∧ (shapeF k).m1 ≤ 511 := by
  unfold shapeF
  repeat' split
  all_goals decide

theorem ite04 {c : Prop} [Decidable c] (h : (if c then (0 : Int) else 4) = 0) : c := by
  by_cases hc : c
  · exact hc
  · rw [if_neg hc] at h
    exact absurd h (by decide)

theorem evB_of {e : Ev} (h : entF e = 0) : EvB e := by
  unfold entF at h
  by_cases hk : e.kind < 1 ∨ 13 < e.kind
  · rw [if_pos hk] at h
    exact absurd h (by decide)
  · rw [if_neg hk] at h
    have h2 := ite04 h
    simp only [Bool.and_eq_true] at h2
    obtain ⟨⟨⟨⟨⟨⟨⟨hg, _⟩, _⟩, _⟩, hc⟩, _⟩, hv⟩, hm⟩ := h2
    obtain ⟨c0, c1, v0, v1, m0, m1⟩ := shape_in e.kind
    rw [inn_iff] at hc hv hm
    by_cases h13 : e.kind = 13
    · rw [if_pos h13, inn_iff] at hg
      exact ⟨by omega, by omega, fun h => absurd h13 h, by omega, by omega, by omega⟩
    · rw [if_neg h13, inn_iff] at hg
      exact ⟨by omega, by omega, fun _ => hg.1, by omega, by omega, by omega⟩

theorem sized_mono {n m : Nat} {r : RdrM} (h : Sized n r) (hm : n ≤ m) : Sized m r := ⟨h.pos, Nat.le_trans h.crew (by omega), Nat.le_trans h.chans hm, fun c hc => Nat.le_trans (h.buf c hc) hm⟩

theorem sized_crewed {n : Nat} {r : RdrM} (h : Sized n r) (e : Ev) : Sized (n + 1) (crewedF r e).2 := by
  have h1 := sized_mono h (Nat.le_succ n)
  unfold crewedF
  repeat' split
  all_goals first
    | exact h1
    | exact ⟨by simp [h.pos], by simp; have := h.crew; omega, h1.chans, h1.buf⟩
    | exact ⟨by simp, by simp; have := h.crew; omega, h1.chans, h1.buf⟩

theorem sized_made {n : Nat} {r : RdrM} (h : Sized n r) (e : Ev) : Sized (n + 1) (madeF r e).2 := by
  have h1 := sized_mono h (Nat.le_succ n)
  unfold madeF
  repeat' split
  all_goals first
    | exact h1
    | (refine ⟨h1.pos, h1.crew, by simp; have := h.chans; omega, fun c hc => ?_⟩
       simp only [List.mem_append, List.mem_singleton] at hc
       rcases hc with hc | rfl
       · exact h1.buf c hc
       · exact Nat.zero_le _)

theorem sized_served {n : Nat} {r : RdrM} (h : Sized n r) (prev : Option Ev) (e : Ev) : Sized (n + 1) (servedF r prev e).2 := by
  have h1 := sized_mono h (Nat.le_succ n)
  unfold servedF
  repeat' split
  all_goals exact ⟨h1.pos, h1.crew, h1.chans, h1.buf⟩

theorem takeF_len (c : ChnM) (next : Option Int) (e : Ev) : (takeF c next e).2.buf.length ≤ c.buf.length + 1 := by
  have hl : ∀ L : List Int, L.length ≤ c.buf.length + 1 → ∀ b1 b2 : Bool, ∀ f : Bool × ChnM, (match b1, L with | true, v :: L => (v == e.value && decide ((L.length : Int) ≤ c.size), { c with buf := L }) | _, L => (b2 && decide ((L.length : Int) ≤ c.size), { c with buf := L })) = f → f.2.buf.length ≤ c.buf.length + 1 := by
    intro L hL b1 b2 f hf
    subst hf
    split
    · rename_i v L'
      simp only [List.length_cons] at hL
      show L'.length ≤ _
      omega
    · exact hL
  unfold takeF
  refine hl _ ?_ _ _ _ rfl
  repeat' split
  all_goals simp

theorem sized_set {n k : Nat} {r : RdrM} {y : ChnM} (h : Sized n r) (hy : y.buf.length ≤ n + 1) : Sized (n + 1) { r with chans := r.chans.set k y } := by
  refine ⟨h.pos, Nat.le_trans h.crew (by omega), by simp; have := h.chans; omega, fun c hc => ?_⟩
  rcases List.mem_or_eq_of_mem_set hc with hc | rfl
  · exact Nat.le_trans (h.buf c hc) (by omega)
  · exact hy

theorem chanF_mem {r : RdrM} {c : Int} {x : ChnM} (h : chanF r c = some x) : x ∈ r.chans := by
  unfold chanF at h
  split at h
  · cases h
  · exact List.mem_of_getElem? h

theorem sized_ordered {n : Nat} {r : RdrM} (h : Sized n r) (next : Option Int) (e : Ev) : Sized (n + 1) (orderedF r next e).2 := by
  have h1 := sized_mono h (Nat.le_succ n)
  unfold orderedF
  split
  · exact h1
  · rename_i c hc
    split
    · exact h1
    · exact sized_set h (Nat.le_trans (takeF_len _ _ _) (by have := h.buf c (chanF_mem hc); omega))

theorem sized_closed {n : Nat} {r : RdrM} (h : Sized n r) (e : Ev) : Sized (n + 1) (closedF r e).2 := by
  have h1 := sized_mono h (Nat.le_succ n)
  unfold closedF
  split
  · exact h1
  · rename_i c hc
    repeat' split
    all_goals first | exact h1 | exact sized_set h (by have := h.buf c (chanF_mem hc); show c.buf.length ≤ n + 1; omega)

theorem sized_rule {n : Nat} {r : RdrM} (h : Sized n r) (prev : Option Ev) (next : Option Int) (e : Ev) (i : Nat) : Sized (n + 1) (ruleF prev next e i r).2 := by
  have h1 := sized_mono h (Nat.le_succ n)
  unfold ruleF
  split
  · exact h1
  · exact sized_crewed h e
  · exact sized_made h e
  · exact sized_served h prev e
  · exact sized_ordered h next e
  · exact sized_closed h e

theorem sized_run {prev : Option Ev} {next : Option Int} {e : Ev} : ∀ (k i n : Nat) (r : RdrM), Sized n r → Sized (n + k) (runF prev next e k i r).2
  | 0, i, n, r, h => h
  | k + 1, i, n, r, h => by
    have h1 := sized_rule h prev next e i
    unfold runF
    split
    · exact sized_mono h1 (by omega)
    · have := sized_run (prev := prev) (next := next) (e := e) k (i + 1) (n + 1) _ h1
      rwa [show n + 1 + k = n + (k + 1) by omega] at this

theorem sized_st (l : List Ev) : ∀ i, Sized (6 * i) (stG l i)
  | 0 => ⟨Nat.zero_lt_one, Nat.le_refl _, Nat.le_refl _, fun c hc => by cases hc⟩
  | i + 1 => by
    unfold stG
    rw [stepG_run]
    exact sized_run 6 0 (6 * i) _ (sized_st l i)

end Go.Proofs.YtoejhelhgfipkaaDoor
