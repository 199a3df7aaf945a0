/- Gauge, plain: Check, and that both say the same. -/
import Derived.Test.YtoejhelhgfipkaaDoorGaugeU
namespace Go.Proofs.YtoejhelhgfipkaaDoor
set_option linter.unusedVariables false
set_option linter.unusedSimpArgs false

/-- The first place, from i on, at which a rule is broken, and which. -/
def scanB (br : Nat → Int) : Nat → Nat → Option (Int × Nat)
  | 0, _ => none
  | k + 1, i => if br i ≠ 0 then some (br i, i) else scanB br k (i + 1)

def endB (l : List Ev) (o : Option (Int × Nat)) : Int × Nat :=
  match o with
  | some r => r
  | none => if 0 < l.length ∧ servesF (l.getD (l.length - 1) evz) = true then (4, l.length) else (0, 0)

def checkG (l : List Ev) : Int × Nat := endB l (scanB (brG l) l.length 0)
def checkR (l : List Ev) : Int × Nat := endB l (scanB (brR l) l.length 0)

theorem scan_same (l : List Ev) : ∀ k i, i + k = l.length → (∀ j, j < i → brR l j = 0) → scanB (brG l) k i = scanB (brR l) k i := by
  intro k
  induction k with
  | zero => intro _ _ _; rfl
  | succ k ih =>
    intro i hi hb
    unfold scanB
    rw [br_same l i (by omega) hb]
    by_cases h0 : brR l i ≠ 0
    · rw [if_pos h0, if_pos h0]
    · rw [if_neg h0, if_neg h0]
      refine ih (i + 1) (by omega) (fun j hj => ?_)
      by_cases hj' : j = i
      · subst hj'
        exact Decidable.not_not.1 h0
      · exact hb j (by omega)

theorem check_same (l : List Ev) : checkG l = checkR l := by
  unfold checkG checkR
  rw [scan_same l l.length 0 (by omega) (fun j hj => absurd hj (Nat.not_lt_zero j))]

/-- A step of the scan at the loop's head. -/
theorem scan_at {br : Nat → Int} {n : Nat} : ∀ k, k ≤ n → (∀ j, j < k → br j = 0) → scanB br n 0 = scanB br (n - k) k := by
  intro k
  induction k with
  | zero => intro _ _; rfl
  | succ k ih =>
    intro hk hb
    rw [ih (by omega) (fun j hj => hb j (by omega)), show n - k = (n - (k + 1)) + 1 by omega]
    show (if br k ≠ 0 then some (br k, k) else scanB br (n - (k + 1)) (k + 1)) = _
    rw [if_neg (by rw [hb k (by omega)]; simp)]

theorem scan_hit {br : Nat → Int} {n k : Nat} (hk : k < n) (hb : ∀ j, j < k → br j = 0) (h : br k ≠ 0) : scanB br n 0 = some (br k, k) := by
  rw [scan_at k (by omega) hb, show n - k = (n - k - 1) + 1 by omega]
  show (if br k ≠ 0 then some (br k, k) else scanB br (n - k - 1) (k + 1)) = _
  rw [if_pos h]

theorem scan_none {br : Nat → Int} {n : Nat} (hb : ∀ j, j < n → br j = 0) : scanB br n 0 = none := by
  rw [scan_at n (Nat.le_refl _) hb, Nat.sub_self]
  rfl

end Go.Proofs.YtoejhelhgfipkaaDoor
