/- Gauge: the reader's pieces. -/
import Derived.Test.YtoejhelhgfipkaaDoorSxB
import Derived.Test.YtoejhelhgfipkaaDoorGaugeV
namespace Go.Proofs.YtoejhelhgfipkaaDoor
set_option linter.unusedVariables false
set_option linter.unusedSimpArgs false

def oneC (x : Bool × Bool) : List Value := [.bool x.1, .bool x.2]
def crewC (cr : List (Bool × Bool)) : List Value := cr.flatMap oneC
theorem oneC_len (x : Bool × Bool) : (oneC x).length = 2 := rfl

theorem crewC_length (cr : List (Bool × Bool)) : (crewC cr).length = cr.length * 2 := flat_length oneC 2 oneC_len cr

theorem crewC_0 {cr : List (Bool × Bool)} {j : Nat} {a b : Bool} (h : cr[j]? = some (a, b)) : (crewC cr)[j * 2]? = some (.bool a) := by
  obtain ⟨hj, e⟩ := List.getElem?_eq_some_iff.1 h
  have := flat_get oneC 2 oneC_len cr j 0 (by decide) hj
  rw [e] at this
  exact this

theorem crewC_1 {cr : List (Bool × Bool)} {j : Nat} {a b : Bool} (h : cr[j]? = some (a, b)) : (crewC cr)[j * 2 + 1]? = some (.bool b) := by
  obtain ⟨hj, e⟩ := List.getElem?_eq_some_iff.1 h
  have := flat_get oneC 2 oneC_len cr j 1 (by decide) hj
  rw [e] at this
  exact this

theorem crewC_lt {cr : List (Bool × Bool)} {j : Nat} {a b : Bool} (h : cr[j]? = some (a, b)) : j * 2 < (crewC cr).length ∧ j * 2 + 1 < (crewC cr).length := by
  obtain ⟨hj, e⟩ := List.getElem?_eq_some_iff.1 h
  rw [crewC_length]
  omega

theorem crewC_set0 {cr : List (Bool × Bool)} {j : Nat} {a b : Bool} (c : Bool) (h : cr[j]? = some (a, b)) : (crewC cr).set (j * 2) (.bool c) = crewC (cr.set j (c, b)) := by
  obtain ⟨hj, e⟩ := List.getElem?_eq_some_iff.1 h
  exact flat_set oneC 2 oneC_len cr j 0 _ (c, b) hj (by decide) (by rw [e]; rfl)

theorem crewC_set1 {cr : List (Bool × Bool)} {j : Nat} {a b : Bool} (c : Bool) (h : cr[j]? = some (a, b)) : (crewC cr).set (j * 2 + 1) (.bool c) = crewC (cr.set j (a, c)) := by
  obtain ⟨hj, e⟩ := List.getElem?_eq_some_iff.1 h
  exact flat_set oneC 2 oneC_len cr j 1 _ (a, c) hj (by decide) (by rw [e]; rfl)

theorem crewC_app (cr : List (Bool × Bool)) : crewC cr ++ [.bool false, .bool false] = crewC (cr ++ [(false, false)]) := (flat_one oneC cr (false, false)).symm

end Go.Proofs.YtoejhelhgfipkaaDoor
