/- Texts of the proof, several in one file: LawC. -/
import Derived.Test.YtcgajljbahbhdaaGreatV14
namespace Go.Proofs.YtcgajljbahbhdaaGreat
set_option linter.unusedVariables false
set_option linter.unusedSimpArgs false
open Go.RowKit
set_option maxRecDepth 100000
theorem run_len {t m : Int} {X : List ProgX} {pl dr : List Int} (hck : checkE ⟨t, m, progsM X, pl, dr⟩ = 0) : (runL ⟨t, m, progsM X, pl, dr⟩ (pl.length + 1)).tr.length ≤ 1000000 := by
 have hr := checkE_right hck
 have hn1 : 1 ≤ X.length := by have := hr.n1; simpa [progsM] using this
 have hpl : pl.length ≤ 200 := hr.pl
 have := (Lk.run (s := ⟨t, m, progsM X, pl, dr⟩) hr.ok (np := X.length) (by unfold progsM; rw [List.length_map]) hn1 (pl.length + 1)).tr
 omega
end Go.Proofs.YtcgajljbahbhdaaGreat
