/- Events: the reference's Check. -/
import Derived.Test.YtoejhelhgfipkaaDoorSxA
import Derived.Test.YtoejhelhgfipkaaDoorEntryA
namespace Go.Proofs.YtoejhelhgfipkaaDoor
set_option linter.unusedVariables false
open Go.RowKit
set_option maxRecDepth 100000
theorem sl_within {w : World} {F : List Piece} (H : SL w F) (n a b : Int) : Calls Tryd.prog 42 #[.int .i64 n, .int .i64 a, .int .i64 b] w fun e w' => e = .returned (.bool (inn a b n)) ∧ SL w' F :=
  (r_within n a b w).mono fun _ _ q => ⟨q.1, by rw [q.2]; exact H⟩

set_option maxHeartbeats 4000000 in
theorem r_check {w : World} {F : List Piece} (H : SL w F) (e : Ev) : Calls Tryd.prog 18 #[e.agg] w fun o w' => o = .returned (.int .i64 (ref12 e)) ∧ SL w' F := by
  obtain ⟨kind, g, chan, case_, value, mate, send, ok⟩ := e
  refine calls_den (args := [_]) Tryd.func18 rfl (Nat.le_of_ble_eq_true (by kernel_rfl)) (by kernel_rfl) ?_
  refine ⟨?_⟩
  refine Nw.as #[.int .i64 kind, .int .i64 g, .int .i64 chan, .int .i64 case_, .int .i64 value, .int .i64 mate, .bool send, .bool ok] 39 rfl H fun b1 w H => ?_
  refine ⟨?_⟩
  refine H.ldi 0 rfl (v := .int .i64 kind) rfl ?_
  refine BB.vr fun q1 e1 => ?_
  cases q1
  · skip
    have h1 := of_decide_eq_false e1
    refine H.ldi 0 rfl (v := .int .i64 kind) rfl ?_
    refine BB.vr fun q2 e2 => ?_
    cases q2
    · skip
      have h2 := of_decide_eq_false e2
      refine Cn.no ?_
      refine ⟨?_⟩
      refine H.ldi 0 rfl (v := .int .i64 chan) rfl ?_
      refine BB.vr fun q3 e3 => ?_
      refine ⟨?_⟩
      refine H.ldi 0 rfl (v := .int .i64 chan) rfl ?_
      refine Cl.sl (by kernel_rfl) (sl_within H chan 0 511) fun w H => ?_
      refine BB.vr fun q4 e4 => ?_
      refine ⟨?_⟩
      refine H.ldi 0 rfl (v := .int .i64 case_) rfl ?_
      refine BB.vr fun q5 e5 => ?_
      refine ⟨?_⟩
      refine H.ldi 0 rfl (v := .int .i64 case_) rfl ?_
      refine Cl.sl (by kernel_rfl) (sl_within H case_ (-1) 3) fun w H => ?_
      refine BB.vr fun q6 e6 => ?_
      refine ⟨?_⟩
      refine H.ldi 0 rfl (v := .int .i64 mate) rfl ?_
      refine BB.vr fun q7 e7 => ?_
      refine ⟨?_⟩
      refine H.ldi 0 rfl (v := .int .i64 mate) rfl ?_
      refine Cl.sl (by kernel_rfl) (sl_within H mate 0 511) fun w H => ?_
      refine BB.vr fun q8 e8 => ?_
      refine ⟨?_⟩
      refine H.ldi 0 rfl (v := .int .i64 value) rfl ?_
      refine Cl.sl (by kernel_rfl) (sl_within H value 0 99) fun w H => ?_
      refine BB.vr fun q9 e9 => ?_
      refine RgX.cut (id := 10) (ι := Bool) [(10, 10), (43, 50)] (by kernel_rfl) (fun P => [(10, .bool P)]) (fun P w => (!send && !ok) = P ∧ SL w (row b1 #[.int .i64 kind, .int .i64 g, .int .i64 chan, .int .i64 case_, .int .i64 value, .int .i64 mate, .bool send, .bool ok] 39 :: F)) ?_ ?_
      · skip
        refine ⟨?_⟩
        refine H.ldi 0 rfl (v := .bool send) rfl ?_
        refine BB.k ?_
        refine BB.vr fun q10 e10 => ?_
        cases q10
        · skip
          exact ⟨false, ⟨rfl, trivial⟩, by simp [*], H⟩
        · skip
          refine H.ldi 0 rfl (v := .bool ok) rfl ?_
          refine BB.k ?_
          refine BB.vr fun q11 e11 => ?_
          exact ⟨q11, ⟨rfl, trivial⟩, by simp [*], H⟩
      · skip
        rintro P s w ⟨hc, H⟩
        refine ⟨?_⟩
        refine ⟨?_⟩
        refine H.ldi 0 rfl (v := .int .i64 kind) rfl ?_
        refine BkX.cut (id := 0) (ι := Bool) [(11, 13), (53, 272)] (by kernel_rfl) (fun O => [(11, .bool O)]) (fun O w => okF ⟨kind, g, chan, case_, value, mate, send, ok⟩ = O ∧ SL w (row b1 #[.int .i64 kind, .int .i64 g, .int .i64 chan, .int .i64 case_, .int .i64 value, .int .i64 mate, .bool send, .bool ok] 39 :: F)) ?_ ?_
        · skip
          refine ⟨?_⟩
          refine ⟨?_⟩
          refine BB.vr fun q12 e12 => ?_
          cases q12
          · skip
            have h12 := beq_eq_false_iff_ne.1 e12
            refine Cn.no ?_
            refine ⟨?_⟩
            refine BB.vr fun q13 e13 => ?_
            cases q13
            · skip
              have h13 := beq_eq_false_iff_ne.1 e13
              refine Cn.no ?_
              refine ⟨?_⟩
              refine BB.vr fun q14 e14 => ?_
              cases q14
              · skip
                have h14 := beq_eq_false_iff_ne.1 e14
                refine Cn.no ?_
                refine ⟨?_⟩
                refine BB.vr fun q15 e15 => ?_
                cases q15
                · skip
                  have h15 := beq_eq_false_iff_ne.1 e15
                  refine Cn.no ?_
                  refine ⟨?_⟩
                  refine BB.vr fun q16 e16 => ?_
                  cases q16
                  · skip
                    have h16 := beq_eq_false_iff_ne.1 e16
                    refine Cn.no ?_
                    refine ⟨?_⟩
                    refine BB.vr fun q17 e17 => ?_
                    cases q17
                    · skip
                      have h17 := beq_eq_false_iff_ne.1 e17
                      refine Cn.no ?_
                      refine ⟨?_⟩
                      refine BB.vr fun q18 e18 => ?_
                      cases q18
                      · skip
                        have h18 := beq_eq_false_iff_ne.1 e18
                        refine Cn.no ?_
                        refine ⟨?_⟩
                        refine BB.vr fun q19 e19 => ?_
                        cases q19
                        · skip
                          have h19 := beq_eq_false_iff_ne.1 e19
                          refine Cn.no ?_
                          refine ⟨?_⟩
                          refine BB.vr fun q20 e20 => ?_
                          cases q20
                          · skip
                            have h20 := beq_eq_false_iff_ne.1 e20
                            refine Cn.no ?_
                            refine ⟨?_⟩
                            cases q3
                            · skip
                              have h3 := beq_eq_false_iff_ne.1 e3
                              exact ⟨false, ⟨rfl, trivial⟩, by simp [okF, *], H⟩
                            · skip
                              have h3 := eq_of_beq e3
                              subst h3
                              cases q5
                              · skip
                                have h5 := beq_eq_false_iff_ne.1 e5
                                exact ⟨false, ⟨rfl, trivial⟩, by simp [okF, *], H⟩
                              · skip
                                have h5 := eq_of_beq e5
                                subst h5
                                refine H.ldi 0 rfl (v := .int .i64 value) rfl ?_
                                refine BB.vr fun q21 e21 => ?_
                                cases q21
                                · skip
                                  have h21 := beq_eq_false_iff_ne.1 e21
                                  exact ⟨false, ⟨rfl, trivial⟩, by simp [okF, *], H⟩
                                · skip
                                  have h21 := eq_of_beq e21
                                  subst h21
                                  cases q7
                                  · skip
                                    have h7 := beq_eq_false_iff_ne.1 e7
                                    exact ⟨false, ⟨rfl, trivial⟩, by simp [okF, *], H⟩
                                  · skip
                                    have h7 := eq_of_beq e7
                                    subst h7
                                    exact ⟨P, ⟨rfl, trivial⟩, by simp [okF, *], H⟩
                          · skip
                            have h20 := eq_of_beq e20
                            subst h20
                            refine Cn.yes ?_
                            refine ⟨?_⟩
                            cases q3
                            · skip
                              have h3 := beq_eq_false_iff_ne.1 e3
                              exact ⟨false, ⟨rfl, trivial⟩, by simp [okF, *], H⟩
                            · skip
                              have h3 := eq_of_beq e3
                              subst h3
                              cases q5
                              · skip
                                have h5 := beq_eq_false_iff_ne.1 e5
                                exact ⟨false, ⟨rfl, trivial⟩, by simp [okF, *], H⟩
                              · skip
                                have h5 := eq_of_beq e5
                                subst h5
                                refine H.ldi 0 rfl (v := .int .i64 value) rfl ?_
                                refine Cl.sl (by kernel_rfl) (sl_within H value 0 7) fun w H => ?_
                                refine BB.vr fun q22 e22 => ?_
                                cases q22
                                · skip
                                  exact ⟨false, ⟨rfl, trivial⟩, by simp [okF, *], H⟩
                                · skip
                                  cases q7
                                  · skip
                                    have h7 := beq_eq_false_iff_ne.1 e7
                                    exact ⟨false, ⟨rfl, trivial⟩, by simp [okF, *], H⟩
                                  · skip
                                    have h7 := eq_of_beq e7
                                    subst h7
                                    exact ⟨P, ⟨rfl, trivial⟩, by simp [okF, *], H⟩
                        · skip
                          have h19 := eq_of_beq e19
                          subst h19
                          refine Cn.yes ?_
                          refine Cn.yes ?_
                          refine ⟨?_⟩
                          cases q3
                          · skip
                            have h3 := beq_eq_false_iff_ne.1 e3
                            exact ⟨false, ⟨rfl, trivial⟩, by simp [okF, *], H⟩
                          · skip
                            have h3 := eq_of_beq e3
                            subst h3
                            cases q5
                            · skip
                              have h5 := beq_eq_false_iff_ne.1 e5
                              exact ⟨false, ⟨rfl, trivial⟩, by simp [okF, *], H⟩
                            · skip
                              have h5 := eq_of_beq e5
                              subst h5
                              refine H.ldi 0 rfl (v := .int .i64 value) rfl ?_
                              refine Cl.sl (by kernel_rfl) (sl_within H value 0 7) fun w H => ?_
                              refine BB.vr fun q23 e23 => ?_
                              cases q23
                              · skip
                                exact ⟨false, ⟨rfl, trivial⟩, by simp [okF, *], H⟩
                              · skip
                                cases q7
                                · skip
                                  have h7 := beq_eq_false_iff_ne.1 e7
                                  exact ⟨false, ⟨rfl, trivial⟩, by simp [okF, *], H⟩
                                · skip
                                  have h7 := eq_of_beq e7
                                  subst h7
                                  exact ⟨P, ⟨rfl, trivial⟩, by simp [okF, *], H⟩
                      · skip
                        have h18 := eq_of_beq e18
                        subst h18
                        refine Cn.yes ?_
                        refine ⟨?_⟩
                        cases q4
                        · skip
                          exact ⟨false, ⟨rfl, trivial⟩, by simp [okF, *], H⟩
                        · skip
                          cases q6
                          · skip
                            exact ⟨false, ⟨rfl, trivial⟩, by simp [okF, *], H⟩
                          · skip
                            cases q9
                            · skip
                              exact ⟨false, ⟨rfl, trivial⟩, by simp [okF, *], H⟩
                            · skip
                              cases q8
                              · skip
                                exact ⟨false, ⟨rfl, trivial⟩, by simp [okF, *], H⟩
                              · skip
                                refine H.ldi 0 rfl (v := .bool ok) rfl ?_
                                refine BB.k ?_
                                cases ok
                                · skip
                                  refine H.ldi 0 rfl (v := .bool send) rfl ?_
                                  refine BB.k ?_
                                  refine BB.vr fun q24 e24 => ?_
                                  cases q24
                                  · skip
                                    exact ⟨false, ⟨rfl, trivial⟩, by simp [okF, *], H⟩
                                  · skip
                                    refine H.ldi 0 rfl (v := .int .i64 value) rfl ?_
                                    refine BB.vr fun q25 e25 => ?_
                                    exact ⟨q25, ⟨rfl, trivial⟩, by simp [okF, *], H⟩
                                · skip
                                  exact ⟨true, ⟨rfl, trivial⟩, by simp [okF, *], H⟩
                    · skip
                      have h17 := eq_of_beq e17
                      subst h17
                      refine Cn.yes ?_
                      refine ⟨?_⟩
                      cases q5
                      · skip
                        have h5 := beq_eq_false_iff_ne.1 e5
                        refine ⟨?_⟩
                        refine H.ldi 0 rfl (v := .int .i64 case_) rfl ?_
                        refine Cl.sl (by kernel_rfl) (sl_within H case_ 0 4) fun w H => ?_
                        refine BB.vr fun q26 e26 => ?_
                        cases q26
                        · skip
                          refine ⟨?_⟩
                          exact ⟨false, ⟨rfl, trivial⟩, by simp [okF, *], H⟩
                        · skip
                          cases q3
                          · skip
                            have h3 := beq_eq_false_iff_ne.1 e3
                            refine ⟨?_⟩
                            exact ⟨false, ⟨rfl, trivial⟩, by simp [okF, *], H⟩
                          · skip
                            have h3 := eq_of_beq e3
                            subst h3
                            refine H.ldi 0 rfl (v := .bool send) rfl ?_
                            refine BB.k ?_
                            refine BB.vr fun q27 e27 => ?_
                            cases q27
                            · skip
                              refine ⟨?_⟩
                              exact ⟨false, ⟨rfl, trivial⟩, by simp [okF, *], H⟩
                            · skip
                              refine H.ldi 0 rfl (v := .int .i64 value) rfl ?_
                              refine BB.vr fun q28 e28 => ?_
                              refine ⟨?_⟩
                              cases q28
                              · skip
                                have h28 := beq_eq_false_iff_ne.1 e28
                                exact ⟨false, ⟨rfl, trivial⟩, by simp [okF, *], H⟩
                              · skip
                                have h28 := eq_of_beq e28
                                subst h28
                                cases q7
                                · skip
                                  have h7 := beq_eq_false_iff_ne.1 e7
                                  exact ⟨false, ⟨rfl, trivial⟩, by simp [okF, *], H⟩
                                · skip
                                  have h7 := eq_of_beq e7
                                  subst h7
                                  refine H.ldi 0 rfl (v := .bool ok) rfl ?_
                                  refine BB.k ?_
                                  refine BB.vr fun q29 e29 => ?_
                                  exact ⟨q29, ⟨rfl, trivial⟩, by simp [okF, *], H⟩
                      · skip
                        have h5 := eq_of_beq e5
                        subst h5
                        cases q3
                        · skip
                          have h3 := beq_eq_false_iff_ne.1 e3
                          cases q4
                          · skip
                            refine ⟨?_⟩
                            refine H.ldi 0 rfl (v := .int .i64 (-1)) rfl ?_
                            refine Cl.sl (by kernel_rfl) (sl_within H (-1) 0 4) fun w H => ?_
                            refine BB.vr fun q30 e30 => ?_
                            cases q30
                            · skip
                              refine ⟨?_⟩
                              exact ⟨false, ⟨rfl, trivial⟩, by simp [okF, *], H⟩
                            · skip
                              refine ⟨?_⟩
                              exact ⟨false, ⟨rfl, trivial⟩, by simp [okF, *], H⟩
                          · skip
                            refine H.ldi 0 rfl (v := .bool send) rfl ?_
                            refine BB.k ?_
                            cases send
                            · skip
                              refine H.ldi 0 rfl (v := .bool false) rfl ?_
                              refine BB.no rfl ?_
                              refine BB.yes rfl ?_
                              refine H.ldi 0 rfl (v := .int .i64 value) rfl ?_
                              refine BB.vr fun q31 e31 => ?_
                              refine ⟨?_⟩
                              refine H.ldi 0 rfl (v := .int .i64 (-1)) rfl ?_
                              refine Cl.sl (by kernel_rfl) (sl_within H (-1) 0 4) fun w H => ?_
                              refine BB.vr fun q32 e32 => ?_
                              cases q32
                              · skip
                                refine ⟨?_⟩
                                cases q31
                                · skip
                                  have h31 := beq_eq_false_iff_ne.1 e31
                                  exact ⟨false, ⟨rfl, trivial⟩, by simp [okF, *], H⟩
                                · skip
                                  have h31 := eq_of_beq e31
                                  subst h31
                                  cases q7
                                  · skip
                                    have h7 := beq_eq_false_iff_ne.1 e7
                                    exact ⟨false, ⟨rfl, trivial⟩, by simp [okF, *], H⟩
                                  · skip
                                    have h7 := eq_of_beq e7
                                    subst h7
                                    refine H.ldi 0 rfl (v := .bool ok) rfl ?_
                                    refine BB.k ?_
                                    refine BB.vr fun q33 e33 => ?_
                                    exact ⟨q33, ⟨rfl, trivial⟩, by simp [okF, *], H⟩
                              · skip
                                refine ⟨?_⟩
                                cases q31
                                · skip
                                  have h31 := beq_eq_false_iff_ne.1 e31
                                  exact ⟨false, ⟨rfl, trivial⟩, by simp [okF, *], H⟩
                                · skip
                                  have h31 := eq_of_beq e31
                                  subst h31
                                  cases q7
                                  · skip
                                    have h7 := beq_eq_false_iff_ne.1 e7
                                    exact ⟨false, ⟨rfl, trivial⟩, by simp [okF, *], H⟩
                                  · skip
                                    have h7 := eq_of_beq e7
                                    subst h7
                                    refine H.ldi 0 rfl (v := .bool ok) rfl ?_
                                    refine BB.k ?_
                                    refine BB.vr fun q34 e34 => ?_
                                    exact ⟨q34, ⟨rfl, trivial⟩, by simp [okF, *], H⟩
                            · skip
                              cases q9
                              · skip
                                refine H.ldi 0 rfl (v := .bool true) rfl ?_
                                refine BB.yes rfl ?_
                                refine BB.no rfl ?_
                                refine ⟨?_⟩
                                refine H.ldi 0 rfl (v := .int .i64 (-1)) rfl ?_
                                refine Cl.sl (by kernel_rfl) (sl_within H (-1) 0 4) fun w H => ?_
                                refine BB.vr fun q35 e35 => ?_
                                cases q35
                                · skip
                                  refine ⟨?_⟩
                                  exact ⟨false, ⟨rfl, trivial⟩, by simp [okF, *], H⟩
                                · skip
                                  refine ⟨?_⟩
                                  exact ⟨false, ⟨rfl, trivial⟩, by simp [okF, *], H⟩
                              · skip
                                refine ⟨?_⟩
                                refine H.ldi 0 rfl (v := .int .i64 (-1)) rfl ?_
                                refine Cl.sl (by kernel_rfl) (sl_within H (-1) 0 4) fun w H => ?_
                                refine BB.vr fun q36 e36 => ?_
                                cases q36
                                · skip
                                  refine ⟨?_⟩
                                  cases q7
                                  · skip
                                    have h7 := beq_eq_false_iff_ne.1 e7
                                    exact ⟨false, ⟨rfl, trivial⟩, by simp [okF, *], H⟩
                                  · skip
                                    have h7 := eq_of_beq e7
                                    subst h7
                                    refine H.ldi 0 rfl (v := .bool ok) rfl ?_
                                    refine BB.k ?_
                                    refine BB.vr fun q37 e37 => ?_
                                    exact ⟨q37, ⟨rfl, trivial⟩, by simp [okF, *], H⟩
                                · skip
                                  refine ⟨?_⟩
                                  cases q7
                                  · skip
                                    have h7 := beq_eq_false_iff_ne.1 e7
                                    exact ⟨false, ⟨rfl, trivial⟩, by simp [okF, *], H⟩
                                  · skip
                                    have h7 := eq_of_beq e7
                                    subst h7
                                    refine H.ldi 0 rfl (v := .bool ok) rfl ?_
                                    refine BB.k ?_
                                    refine BB.vr fun q38 e38 => ?_
                                    exact ⟨q38, ⟨rfl, trivial⟩, by simp [okF, *], H⟩
                        · skip
                          have h3 := eq_of_beq e3
                          subst h3
                          refine H.ldi 0 rfl (v := .bool send) rfl ?_
                          refine BB.k ?_
                          cases send
                          · skip
                            refine H.ldi 0 rfl (v := .bool false) rfl ?_
                            refine BB.no rfl ?_
                            refine BB.yes rfl ?_
                            refine H.ldi 0 rfl (v := .int .i64 value) rfl ?_
                            refine BB.vr fun q39 e39 => ?_
                            refine ⟨?_⟩
                            refine H.ldi 0 rfl (v := .int .i64 (-1)) rfl ?_
                            refine Cl.sl (by kernel_rfl) (sl_within H (-1) 0 4) fun w H => ?_
                            refine BB.vr fun q40 e40 => ?_
                            cases q40
                            · skip
                              refine ⟨?_⟩
                              cases q39
                              · skip
                                have h39 := beq_eq_false_iff_ne.1 e39
                                exact ⟨false, ⟨rfl, trivial⟩, by simp [okF, *], H⟩
                              · skip
                                have h39 := eq_of_beq e39
                                subst h39
                                cases q7
                                · skip
                                  have h7 := beq_eq_false_iff_ne.1 e7
                                  exact ⟨false, ⟨rfl, trivial⟩, by simp [okF, *], H⟩
                                · skip
                                  have h7 := eq_of_beq e7
                                  subst h7
                                  refine H.ldi 0 rfl (v := .bool ok) rfl ?_
                                  refine BB.k ?_
                                  refine BB.vr fun q41 e41 => ?_
                                  exact ⟨q41, ⟨rfl, trivial⟩, by simp [okF, *], H⟩
                            · skip
                              refine H.ldi 0 rfl (v := .bool false) rfl ?_
                              refine BB.no rfl ?_
                              refine BB.yes rfl ?_
                              refine H.ldi 0 rfl (v := .int .i64 value) rfl ?_
                              refine BB.vr fun q42 e42 => ?_
                              refine ⟨?_⟩
                              cases q39
                              · skip
                                have h39 := beq_eq_false_iff_ne.1 e39
                                cases q42
                                · skip
                                  have h42 := beq_eq_false_iff_ne.1 e42
                                  exact ⟨false, ⟨rfl, trivial⟩, by simp [okF, *], H⟩
                                · skip
                                  have h42 := eq_of_beq e42
                                  subst h42
                                  cases q7
                                  · skip
                                    have h7 := beq_eq_false_iff_ne.1 e7
                                    exact ⟨false, ⟨rfl, trivial⟩, by simp [okF, *], H⟩
                                  · skip
                                    have h7 := eq_of_beq e7
                                    subst h7
                                    refine H.ldi 0 rfl (v := .bool ok) rfl ?_
                                    refine BB.k ?_
                                    refine BB.vr fun q43 e43 => ?_
                                    exact ⟨q43, ⟨rfl, trivial⟩, by simp [okF, *], H⟩
                              · skip
                                have h39 := eq_of_beq e39
                                subst h39
                                cases q7
                                · skip
                                  have h7 := beq_eq_false_iff_ne.1 e7
                                  exact ⟨false, ⟨rfl, trivial⟩, by simp [okF, *], H⟩
                                · skip
                                  have h7 := eq_of_beq e7
                                  subst h7
                                  refine H.ldi 0 rfl (v := .bool ok) rfl ?_
                                  refine BB.k ?_
                                  refine BB.vr fun q44 e44 => ?_
                                  exact ⟨q44, ⟨rfl, trivial⟩, by simp [okF, *], H⟩
                          · skip
                            cases q9
                            · skip
                              refine H.ldi 0 rfl (v := .bool true) rfl ?_
                              refine BB.yes rfl ?_
                              refine BB.no rfl ?_
                              refine ⟨?_⟩
                              refine H.ldi 0 rfl (v := .int .i64 (-1)) rfl ?_
                              refine Cl.sl (by kernel_rfl) (sl_within H (-1) 0 4) fun w H => ?_
                              refine BB.vr fun q45 e45 => ?_
                              cases q45
                              · skip
                                refine ⟨?_⟩
                                exact ⟨false, ⟨rfl, trivial⟩, by simp [okF, *], H⟩
                              · skip
                                refine H.ldi 0 rfl (v := .bool true) rfl ?_
                                refine BB.yes rfl ?_
                                refine BB.no rfl ?_
                                refine ⟨?_⟩
                                exact ⟨false, ⟨rfl, trivial⟩, by simp [okF, *], H⟩
                            · skip
                              refine ⟨?_⟩
                              refine H.ldi 0 rfl (v := .int .i64 (-1)) rfl ?_
                              refine Cl.sl (by kernel_rfl) (sl_within H (-1) 0 4) fun w H => ?_
                              refine BB.vr fun q46 e46 => ?_
                              cases q46
                              · skip
                                refine ⟨?_⟩
                                cases q7
                                · skip
                                  have h7 := beq_eq_false_iff_ne.1 e7
                                  exact ⟨false, ⟨rfl, trivial⟩, by simp [okF, *], H⟩
                                · skip
                                  have h7 := eq_of_beq e7
                                  subst h7
                                  refine H.ldi 0 rfl (v := .bool ok) rfl ?_
                                  refine BB.k ?_
                                  refine BB.vr fun q47 e47 => ?_
                                  exact ⟨q47, ⟨rfl, trivial⟩, by simp [okF, *], H⟩
                              · skip
                                refine H.ldi 0 rfl (v := .bool true) rfl ?_
                                refine BB.yes rfl ?_
                                refine BB.no rfl ?_
                                refine ⟨?_⟩
                                cases q7
                                · skip
                                  have h7 := beq_eq_false_iff_ne.1 e7
                                  exact ⟨false, ⟨rfl, trivial⟩, by simp [okF, *], H⟩
                                · skip
                                  have h7 := eq_of_beq e7
                                  subst h7
                                  refine H.ldi 0 rfl (v := .bool ok) rfl ?_
                                  refine BB.k ?_
                                  refine BB.vr fun q48 e48 => ?_
                                  exact ⟨q48, ⟨rfl, trivial⟩, by simp [okF, *], H⟩
                  · skip
                    have h16 := eq_of_beq e16
                    subst h16
                    refine Cn.yes ?_
                    refine ⟨?_⟩
                    cases q4
                    · skip
                      exact ⟨false, ⟨rfl, trivial⟩, by simp [okF, *], H⟩
                    · skip
                      cases q5
                      · skip
                        have h5 := beq_eq_false_iff_ne.1 e5
                        exact ⟨false, ⟨rfl, trivial⟩, by simp [okF, *], H⟩
                      · skip
                        have h5 := eq_of_beq e5
                        subst h5
                        refine H.ldi 0 rfl (v := .int .i64 value) rfl ?_
                        refine BB.vr fun q49 e49 => ?_
                        cases q49
                        · skip
                          have h49 := beq_eq_false_iff_ne.1 e49
                          exact ⟨false, ⟨rfl, trivial⟩, by simp [okF, *], H⟩
                        · skip
                          have h49 := eq_of_beq e49
                          subst h49
                          cases q7
                          · skip
                            have h7 := beq_eq_false_iff_ne.1 e7
                            exact ⟨false, ⟨rfl, trivial⟩, by simp [okF, *], H⟩
                          · skip
                            have h7 := eq_of_beq e7
                            subst h7
                            exact ⟨P, ⟨rfl, trivial⟩, by simp [okF, *], H⟩
                · skip
                  have h15 := eq_of_beq e15
                  subst h15
                  refine Cn.yes ?_
                  refine ⟨?_⟩
                  cases q4
                  · skip
                    exact ⟨false, ⟨rfl, trivial⟩, by simp [okF, *], H⟩
                  · skip
                    cases q6
                    · skip
                      exact ⟨false, ⟨rfl, trivial⟩, by simp [okF, *], H⟩
                    · skip
                      cases q9
                      · skip
                        exact ⟨false, ⟨rfl, trivial⟩, by simp [okF, *], H⟩
                      · skip
                        cases q7
                        · skip
                          have h7 := beq_eq_false_iff_ne.1 e7
                          cases q8
                          · skip
                            exact ⟨false, ⟨rfl, trivial⟩, by simp [okF, *], H⟩
                          · skip
                            refine H.ldi 0 rfl (v := .bool send) rfl ?_
                            refine BB.k ?_
                            refine BB.vr fun q50 e50 => ?_
                            cases q50
                            · skip
                              exact ⟨false, ⟨rfl, trivial⟩, by simp [okF, *], H⟩
                            · skip
                              refine H.ldi 0 rfl (v := .bool ok) rfl ?_
                              refine BB.k ?_
                              cases ok
                              · skip
                                refine H.ldi 0 rfl (v := .int .i64 value) rfl ?_
                                refine BB.vr fun q51 e51 => ?_
                                cases q51
                                · skip
                                  have h51 := beq_eq_false_iff_ne.1 e51
                                  exact ⟨false, ⟨rfl, trivial⟩, by simp [okF, *], H⟩
                                · skip
                                  have h51 := eq_of_beq e51
                                  subst h51
                                  exact ⟨false, ⟨rfl, trivial⟩, by simp [okF, *], H⟩
                              · skip
                                exact ⟨true, ⟨rfl, trivial⟩, by simp [okF, *], H⟩
                        · skip
                          have h7 := eq_of_beq e7
                          subst h7
                          refine H.ldi 0 rfl (v := .bool send) rfl ?_
                          refine BB.k ?_
                          refine BB.vr fun q52 e52 => ?_
                          cases q52
                          · skip
                            exact ⟨false, ⟨rfl, trivial⟩, by simp [okF, *], H⟩
                          · skip
                            refine H.ldi 0 rfl (v := .bool ok) rfl ?_
                            refine BB.k ?_
                            cases ok
                            · skip
                              refine H.ldi 0 rfl (v := .int .i64 value) rfl ?_
                              refine BB.vr fun q53 e53 => ?_
                              cases q53
                              · skip
                                have h53 := beq_eq_false_iff_ne.1 e53
                                exact ⟨false, ⟨rfl, trivial⟩, by simp [okF, *], H⟩
                              · skip
                                have h53 := eq_of_beq e53
                                subst h53
                                exact ⟨true, ⟨rfl, trivial⟩, by simp [okF, *], H⟩
                            · skip
                              exact ⟨true, ⟨rfl, trivial⟩, by simp [okF, *], H⟩
              · skip
                have h14 := eq_of_beq e14
                subst h14
                refine Cn.yes ?_
                refine ⟨?_⟩
                cases q4
                · skip
                  exact ⟨false, ⟨rfl, trivial⟩, by simp [okF, *], H⟩
                · skip
                  cases q6
                  · skip
                    exact ⟨false, ⟨rfl, trivial⟩, by simp [okF, *], H⟩
                  · skip
                    cases q9
                    · skip
                      exact ⟨false, ⟨rfl, trivial⟩, by simp [okF, *], H⟩
                    · skip
                      cases q7
                      · skip
                        have h7 := beq_eq_false_iff_ne.1 e7
                        cases q8
                        · skip
                          exact ⟨false, ⟨rfl, trivial⟩, by simp [okF, *], H⟩
                        · skip
                          refine H.ldi 0 rfl (v := .bool send) rfl ?_
                          refine BB.k ?_
                          cases send
                          · skip
                            exact ⟨false, ⟨rfl, trivial⟩, by simp [okF, *], H⟩
                          · skip
                            refine H.ldi 0 rfl (v := .bool ok) rfl ?_
                            refine BB.k ?_
                            refine BB.vr fun q54 e54 => ?_
                            exact ⟨q54, ⟨rfl, trivial⟩, by simp [okF, *], H⟩
                      · skip
                        have h7 := eq_of_beq e7
                        subst h7
                        refine H.ldi 0 rfl (v := .bool send) rfl ?_
                        refine BB.k ?_
                        cases send
                        · skip
                          exact ⟨false, ⟨rfl, trivial⟩, by simp [okF, *], H⟩
                        · skip
                          refine H.ldi 0 rfl (v := .bool ok) rfl ?_
                          refine BB.k ?_
                          refine BB.vr fun q55 e55 => ?_
                          exact ⟨q55, ⟨rfl, trivial⟩, by simp [okF, *], H⟩
            · skip
              have h13 := eq_of_beq e13
              subst h13
              refine Cn.yes ?_
              refine ⟨?_⟩
              cases q4
              · skip
                exact ⟨false, ⟨rfl, trivial⟩, by simp [okF, *], H⟩
              · skip
                cases q5
                · skip
                  have h5 := beq_eq_false_iff_ne.1 e5
                  exact ⟨false, ⟨rfl, trivial⟩, by simp [okF, *], H⟩
                · skip
                  have h5 := eq_of_beq e5
                  subst h5
                  refine H.ldi 0 rfl (v := .int .i64 value) rfl ?_
                  refine Cl.sl (by kernel_rfl) (sl_within H value 0 4) fun w H => ?_
                  refine BB.vr fun q56 e56 => ?_
                  cases q56
                  · skip
                    exact ⟨false, ⟨rfl, trivial⟩, by simp [okF, *], H⟩
                  · skip
                    cases q7
                    · skip
                      have h7 := beq_eq_false_iff_ne.1 e7
                      exact ⟨false, ⟨rfl, trivial⟩, by simp [okF, *], H⟩
                    · skip
                      have h7 := eq_of_beq e7
                      subst h7
                      exact ⟨P, ⟨rfl, trivial⟩, by simp [okF, *], H⟩
          · skip
            have h12 := eq_of_beq e12
            subst h12
            refine Cn.yes ?_
            refine ⟨?_⟩
            cases q3
            · skip
              have h3 := beq_eq_false_iff_ne.1 e3
              exact ⟨false, ⟨rfl, trivial⟩, by simp [okF, *], H⟩
            · skip
              have h3 := eq_of_beq e3
              subst h3
              cases q5
              · skip
                have h5 := beq_eq_false_iff_ne.1 e5
                exact ⟨false, ⟨rfl, trivial⟩, by simp [okF, *], H⟩
              · skip
                have h5 := eq_of_beq e5
                subst h5
                refine H.ldi 0 rfl (v := .int .i64 value) rfl ?_
                refine Cl.sl (by kernel_rfl) (sl_within H value 0 7) fun w H => ?_
                refine BB.vr fun q57 e57 => ?_
                cases q57
                · skip
                  exact ⟨false, ⟨rfl, trivial⟩, by simp [okF, *], H⟩
                · skip
                  cases q8
                  · skip
                    exact ⟨false, ⟨rfl, trivial⟩, by simp [okF, *], H⟩
                  · skip
                    exact ⟨P, ⟨rfl, trivial⟩, by simp [okF, *], H⟩
        · skip
          rintro O s w ⟨ho, H⟩
          refine ⟨?_⟩
          refine H.ldi 0 rfl (v := .int .i64 kind) rfl ?_
          refine BB.vr fun q58 e58 => ?_
          cases q58
          · skip
            have h58 := beq_eq_false_iff_ne.1 e58
            refine Cn.no ?_
            refine ⟨?_⟩
            cases O
            · skip
              refine ⟨?_⟩
              refine BB.yes rfl ?_
              refine Cn.yes ?_
              refine ⟨?_⟩
              refine ret1 (fn := Tryd.f18) (.int .i64 4) rfl (by rfl) ?_
              exact ⟨by simp [ref12, *], H.tl⟩
            · skip
              refine H.ldi 0 rfl (v := .int .i64 g) rfl ?_
              refine Cl.sl (by kernel_rfl) (sl_within H g 0 511) fun w H => ?_
              refine BB.vr fun q59 e59 => ?_
              refine ⟨?_⟩
              cases q59
              · skip
                refine BB.yes rfl ?_
                refine Cn.yes ?_
                refine ⟨?_⟩
                refine ret1 (fn := Tryd.f18) (.int .i64 4) rfl (by rfl) ?_
                exact ⟨by simp [ref12, *], H.tl⟩
              · skip
                refine BB.no rfl ?_
                refine Cn.no ?_
                refine ⟨?_⟩
                refine ret1 (fn := Tryd.f18) (.int .i64 0) rfl (by rfl) ?_
                exact ⟨by simp [ref12, *], H.tl⟩
          · skip
            have h58 := eq_of_beq e58
            subst h58
            refine Cn.yes ?_
            refine ⟨?_⟩
            cases O
            · skip
              refine ⟨?_⟩
              refine BB.yes rfl ?_
              refine Cn.yes ?_
              refine ⟨?_⟩
              refine ret1 (fn := Tryd.f18) (.int .i64 4) rfl (by rfl) ?_
              exact ⟨by simp [ref12, *], H.tl⟩
            · skip
              refine H.ldi 0 rfl (v := .int .i64 g) rfl ?_
              refine BB.vr fun q60 e60 => ?_
              refine ⟨?_⟩
              cases q60
              · skip
                have h60 := beq_eq_false_iff_ne.1 e60
                refine BB.yes rfl ?_
                refine Cn.yes ?_
                refine ⟨?_⟩
                refine ret1 (fn := Tryd.f18) (.int .i64 4) rfl (by rfl) ?_
                exact ⟨by simp [ref12, *], H.tl⟩
              · skip
                have h60 := eq_of_beq e60
                subst h60
                refine BB.no rfl ?_
                refine Cn.no ?_
                refine ⟨?_⟩
                refine ret1 (fn := Tryd.f18) (.int .i64 0) rfl (by rfl) ?_
                exact ⟨by simp [ref12, *], H.tl⟩
    · skip
      have h2 := of_decide_eq_true e2
      refine Cn.yes ?_
      refine ⟨?_⟩
      refine ret1 (fn := Tryd.f18) (.int .i64 1) rfl (by rfl) ?_
      exact ⟨by simp [ref12, *], H.tl⟩
  · skip
    have h1 := of_decide_eq_true e1
    refine Cn.yes ?_
    refine ⟨?_⟩
    refine ret1 (fn := Tryd.f18) (.int .i64 1) rfl (by rfl) ?_
    exact ⟨by simp [ref12, *], H.tl⟩

end Go.Proofs.YtoejhelhgfipkaaDoor
