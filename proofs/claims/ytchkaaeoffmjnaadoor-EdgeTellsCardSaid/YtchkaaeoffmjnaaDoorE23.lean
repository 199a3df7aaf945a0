/- Texts of the proof, several in one file: LawQ1. -/
import Derived.Test.YtchkaaeoffmjnaaDoorE20
namespace Go.Proofs.YtchkaaeoffmjnaaDoor
set_option linter.unusedVariables false
set_option linter.unusedSimpArgs false
open Go.RowKit
set_option maxRecDepth 100000
theorem l_tells {w : World} {F : List Piece} {A : Piece} {kind g chan case_ value mate : Int} {send ok : Bool} (hG : SpansA A) (H : SL w (A :: F)) : Calls Tryd.prog 6 #[.agg #[.int .i64 kind, .int .i64 g, .int .i64 chan, .int .i64 case_, .int .i64 value, .int .i64 mate, .bool send, .bool ok]] w fun o w' => o = .returned (.bool true) ∧ SL w' (A :: F) := by
 cases ht : tellsF ⟨kind, g, chan, case_, value, mate, send, ok⟩ with
 | true =>
  refine calls_den (args := [_]) Tryd.func6 rfl (Nat.le_of_ble_eq_true (by kernel_rfl)) (by kernel_rfl) ?_
  refine ⟨?_⟩
  refine Nw.as #[.int .i64 kind, .int .i64 g, .int .i64 chan, .int .i64 case_, .int .i64 value, .int .i64 mate, .bool send, .bool ok] 33 rfl H fun b1 w H => ?_
  refine ⟨?_⟩
  refine H.ldi 0 rfl (v := .int .i64 kind) rfl ?_
  refine BB.vr fun q1 e1 => ?_
  cases q1
  ·skip
   have h1 := beq_eq_false_iff_ne.1 e1
   refine H.ldi 0 rfl (v := .int .i64 kind) rfl ?_
   refine BB.vr fun q2 e2 => ?_
   cases q2
   ·skip
    have h2 := beq_eq_false_iff_ne.1 e2
    refine H.ldi 0 rfl (v := .int .i64 kind) rfl ?_
    refine BB.vr fun q3 e3 => ?_
    cases q3
    ·skip
     have h3 := beq_eq_false_iff_ne.1 e3
     refine H.ldi 0 rfl (v := .int .i64 kind) rfl ?_
     refine BB.vr fun q4 e4 => ?_
     cases q4
     ·skip
      have h4 := beq_eq_false_iff_ne.1 e4
      refine H.ldi 0 rfl (v := .int .i64 kind) rfl ?_
      refine BB.k ?_
      refine ⟨?_⟩
      refine H.ldi 0 rfl (v := .int .i64 kind) rfl ?_
      refine H.ldi 0 rfl (v := .int .i64 g) rfl ?_
      refine H.ldi 0 rfl (v := .int .i64 chan) rfl ?_
      refine H.ldi 0 rfl (v := .int .i64 case_) rfl ?_
      refine H.ldi 0 rfl (v := .int .i64 value) rfl ?_
      refine H.ldi 0 rfl (v := .int .i64 mate) rfl ?_
      refine H.ldi 0 rfl (v := .bool send) rfl ?_
      refine H.ldi 0 rfl (v := .bool ok) rfl ?_
      have K := e_tells (kind := kind) (g := g) (chan := chan) (case_ := case_) (value := value) (mate := mate) (send := send) (ok := ok) H
      rw [ht] at K
      refine Cl.sl (by kernel_rfl) K fun w H => ?_
      refine BB.yes rfl ?_
      refine BB.vr fun q5 e5 => ?_
      cases q5
      ·skip
       refine ret1 (fn := Tryd.f6) (.bool false) rfl (by rfl) ?_
       exact absurd ht (by clear H; unfold tellsF; simp_all)
      ·skip
       have h1 := H.pick [1, 0] 2 (by decide)
       simp only [pk, nth, pkA, pkB, pkC, pkD, pkE, pkF] at h1
       refine Cl.sl (by kernel_rfl) (l_five hG h1) fun w H => ?_
       replace H := H.pick [1, 0] 2 (by decide)
       simp only [pk, nth, pkA, pkB, pkC, pkD, pkE, pkF] at H
       refine BB.yes rfl ?_
       refine ret1 (fn := Tryd.f6) (.bool true) rfl (by rfl) ?_
       exact ⟨rfl, H.pick [1] 2 (by decide)⟩
     ·skip
      have h4 := eq_of_beq e4
      refine ⟨?_⟩
      refine H.ldi 0 rfl (v := .int .i64 kind) rfl ?_
      refine H.ldi 0 rfl (v := .int .i64 g) rfl ?_
      refine H.ldi 0 rfl (v := .int .i64 chan) rfl ?_
      refine H.ldi 0 rfl (v := .int .i64 case_) rfl ?_
      refine H.ldi 0 rfl (v := .int .i64 value) rfl ?_
      refine H.ldi 0 rfl (v := .int .i64 mate) rfl ?_
      refine H.ldi 0 rfl (v := .bool send) rfl ?_
      refine H.ldi 0 rfl (v := .bool ok) rfl ?_
      have K := e_tells (kind := kind) (g := g) (chan := chan) (case_ := case_) (value := value) (mate := mate) (send := send) (ok := ok) H
      rw [ht] at K
      refine Cl.sl (by kernel_rfl) K fun w H => ?_
      refine BB.yes rfl ?_
      refine BB.yes rfl ?_
      have h1 := H.pick [1, 0] 2 (by decide)
      simp only [pk, nth, pkA, pkB, pkC, pkD, pkE, pkF] at h1
      refine Cl.sl (by kernel_rfl) (l_five hG h1) fun w H => ?_
      replace H := H.pick [1, 0] 2 (by decide)
      simp only [pk, nth, pkA, pkB, pkC, pkD, pkE, pkF] at H
      refine BB.yes rfl ?_
      refine ret1 (fn := Tryd.f6) (.bool true) rfl (by rfl) ?_
      exact ⟨rfl, H.pick [1] 2 (by decide)⟩
    ·skip
     have h3 := eq_of_beq e3
     refine ⟨?_⟩
     refine H.ldi 0 rfl (v := .int .i64 kind) rfl ?_
     refine H.ldi 0 rfl (v := .int .i64 g) rfl ?_
     refine H.ldi 0 rfl (v := .int .i64 chan) rfl ?_
     refine H.ldi 0 rfl (v := .int .i64 case_) rfl ?_
     refine H.ldi 0 rfl (v := .int .i64 value) rfl ?_
     refine H.ldi 0 rfl (v := .int .i64 mate) rfl ?_
     refine H.ldi 0 rfl (v := .bool send) rfl ?_
     refine H.ldi 0 rfl (v := .bool ok) rfl ?_
     have K := e_tells (kind := kind) (g := g) (chan := chan) (case_ := case_) (value := value) (mate := mate) (send := send) (ok := ok) H
     rw [ht] at K
     refine Cl.sl (by kernel_rfl) K fun w H => ?_
     refine BB.yes rfl ?_
     refine BB.yes rfl ?_
     have h1 := H.pick [1, 0] 2 (by decide)
     simp only [pk, nth, pkA, pkB, pkC, pkD, pkE, pkF] at h1
     refine Cl.sl (by kernel_rfl) (l_five hG h1) fun w H => ?_
     replace H := H.pick [1, 0] 2 (by decide)
     simp only [pk, nth, pkA, pkB, pkC, pkD, pkE, pkF] at H
     refine BB.yes rfl ?_
     refine ret1 (fn := Tryd.f6) (.bool true) rfl (by rfl) ?_
     exact ⟨rfl, H.pick [1] 2 (by decide)⟩
   ·skip
    have h2 := eq_of_beq e2
    refine ⟨?_⟩
    refine H.ldi 0 rfl (v := .int .i64 kind) rfl ?_
    refine H.ldi 0 rfl (v := .int .i64 g) rfl ?_
    refine H.ldi 0 rfl (v := .int .i64 chan) rfl ?_
    refine H.ldi 0 rfl (v := .int .i64 case_) rfl ?_
    refine H.ldi 0 rfl (v := .int .i64 value) rfl ?_
    refine H.ldi 0 rfl (v := .int .i64 mate) rfl ?_
    refine H.ldi 0 rfl (v := .bool send) rfl ?_
    refine H.ldi 0 rfl (v := .bool ok) rfl ?_
    have K := e_tells (kind := kind) (g := g) (chan := chan) (case_ := case_) (value := value) (mate := mate) (send := send) (ok := ok) H
    rw [ht] at K
    refine Cl.sl (by kernel_rfl) K fun w H => ?_
    refine BB.yes rfl ?_
    refine BB.yes rfl ?_
    have h1 := H.pick [1, 0] 2 (by decide)
    simp only [pk, nth, pkA, pkB, pkC, pkD, pkE, pkF] at h1
    refine Cl.sl (by kernel_rfl) (l_five hG h1) fun w H => ?_
    replace H := H.pick [1, 0] 2 (by decide)
    simp only [pk, nth, pkA, pkB, pkC, pkD, pkE, pkF] at H
    refine BB.yes rfl ?_
    refine ret1 (fn := Tryd.f6) (.bool true) rfl (by rfl) ?_
    exact ⟨rfl, H.pick [1] 2 (by decide)⟩
  ·skip
   have h1 := eq_of_beq e1
   refine ⟨?_⟩
   refine H.ldi 0 rfl (v := .int .i64 kind) rfl ?_
   refine H.ldi 0 rfl (v := .int .i64 g) rfl ?_
   refine H.ldi 0 rfl (v := .int .i64 chan) rfl ?_
   refine H.ldi 0 rfl (v := .int .i64 case_) rfl ?_
   refine H.ldi 0 rfl (v := .int .i64 value) rfl ?_
   refine H.ldi 0 rfl (v := .int .i64 mate) rfl ?_
   refine H.ldi 0 rfl (v := .bool send) rfl ?_
   refine H.ldi 0 rfl (v := .bool ok) rfl ?_
   have K := e_tells (kind := kind) (g := g) (chan := chan) (case_ := case_) (value := value) (mate := mate) (send := send) (ok := ok) H
   rw [ht] at K
   refine Cl.sl (by kernel_rfl) K fun w H => ?_
   refine BB.yes rfl ?_
   refine BB.yes rfl ?_
   have h1 := H.pick [1, 0] 2 (by decide)
   simp only [pk, nth, pkA, pkB, pkC, pkD, pkE, pkF] at h1
   refine Cl.sl (by kernel_rfl) (l_five hG h1) fun w H => ?_
   replace H := H.pick [1, 0] 2 (by decide)
   simp only [pk, nth, pkA, pkB, pkC, pkD, pkE, pkF] at H
   refine BB.yes rfl ?_
   refine ret1 (fn := Tryd.f6) (.bool true) rfl (by rfl) ?_
   exact ⟨rfl, H.pick [1] 2 (by decide)⟩
 | false =>
  refine calls_den (args := [_]) Tryd.func6 rfl (Nat.le_of_ble_eq_true (by kernel_rfl)) (by kernel_rfl) ?_
  refine ⟨?_⟩
  refine Nw.as #[.int .i64 kind, .int .i64 g, .int .i64 chan, .int .i64 case_, .int .i64 value, .int .i64 mate, .bool send, .bool ok] 33 rfl H fun b1 w H => ?_
  refine ⟨?_⟩
  refine H.ldi 0 rfl (v := .int .i64 kind) rfl ?_
  refine BB.vr fun q1 e1 => ?_
  cases q1
  ·skip
   have h1 := beq_eq_false_iff_ne.1 e1
   refine H.ldi 0 rfl (v := .int .i64 kind) rfl ?_
   refine BB.vr fun q2 e2 => ?_
   cases q2
   ·skip
    have h2 := beq_eq_false_iff_ne.1 e2
    refine H.ldi 0 rfl (v := .int .i64 kind) rfl ?_
    refine BB.vr fun q3 e3 => ?_
    cases q3
    ·skip
     have h3 := beq_eq_false_iff_ne.1 e3
     refine H.ldi 0 rfl (v := .int .i64 kind) rfl ?_
     refine BB.vr fun q4 e4 => ?_
     cases q4
     ·skip
      have h4 := beq_eq_false_iff_ne.1 e4
      refine H.ldi 0 rfl (v := .int .i64 kind) rfl ?_
      refine BB.k ?_
      refine ⟨?_⟩
      refine H.ldi 0 rfl (v := .int .i64 kind) rfl ?_
      refine H.ldi 0 rfl (v := .int .i64 g) rfl ?_
      refine H.ldi 0 rfl (v := .int .i64 chan) rfl ?_
      refine H.ldi 0 rfl (v := .int .i64 case_) rfl ?_
      refine H.ldi 0 rfl (v := .int .i64 value) rfl ?_
      refine H.ldi 0 rfl (v := .int .i64 mate) rfl ?_
      refine H.ldi 0 rfl (v := .bool send) rfl ?_
      refine H.ldi 0 rfl (v := .bool ok) rfl ?_
      have K := e_tells (kind := kind) (g := g) (chan := chan) (case_ := case_) (value := value) (mate := mate) (send := send) (ok := ok) H
      rw [ht] at K
      refine Cl.sl (by kernel_rfl) K fun w H => ?_
      refine BB.no rfl ?_
      refine BB.vr fun q5 e5 => ?_
      cases q5
      ·skip
       refine ret1 (fn := Tryd.f6) (.bool false) rfl (by rfl) ?_
       exact absurd ht (by clear H; unfold tellsF; simp_all)
      ·skip
       have h1 := H.pick [1, 0] 2 (by decide)
       simp only [pk, nth, pkA, pkB, pkC, pkD, pkE, pkF] at h1
       refine Cl.sl (by kernel_rfl) (l_five hG h1) fun w H => ?_
       replace H := H.pick [1, 0] 2 (by decide)
       simp only [pk, nth, pkA, pkB, pkC, pkD, pkE, pkF] at H
       refine BB.yes rfl ?_
       refine ret1 (fn := Tryd.f6) (.bool true) rfl (by rfl) ?_
       exact ⟨rfl, H.pick [1] 2 (by decide)⟩
     ·skip
      have h4 := eq_of_beq e4
      refine ⟨?_⟩
      refine H.ldi 0 rfl (v := .int .i64 kind) rfl ?_
      refine H.ldi 0 rfl (v := .int .i64 g) rfl ?_
      refine H.ldi 0 rfl (v := .int .i64 chan) rfl ?_
      refine H.ldi 0 rfl (v := .int .i64 case_) rfl ?_
      refine H.ldi 0 rfl (v := .int .i64 value) rfl ?_
      refine H.ldi 0 rfl (v := .int .i64 mate) rfl ?_
      refine H.ldi 0 rfl (v := .bool send) rfl ?_
      refine H.ldi 0 rfl (v := .bool ok) rfl ?_
      have K := e_tells (kind := kind) (g := g) (chan := chan) (case_ := case_) (value := value) (mate := mate) (send := send) (ok := ok) H
      rw [ht] at K
      refine Cl.sl (by kernel_rfl) K fun w H => ?_
      refine BB.no rfl ?_
      refine BB.no rfl ?_
      refine ret1 (fn := Tryd.f6) (.bool false) rfl (by rfl) ?_
      exact absurd ht (by clear H; unfold tellsF; simp_all)
    ·skip
     have h3 := eq_of_beq e3
     refine ⟨?_⟩
     refine H.ldi 0 rfl (v := .int .i64 kind) rfl ?_
     refine H.ldi 0 rfl (v := .int .i64 g) rfl ?_
     refine H.ldi 0 rfl (v := .int .i64 chan) rfl ?_
     refine H.ldi 0 rfl (v := .int .i64 case_) rfl ?_
     refine H.ldi 0 rfl (v := .int .i64 value) rfl ?_
     refine H.ldi 0 rfl (v := .int .i64 mate) rfl ?_
     refine H.ldi 0 rfl (v := .bool send) rfl ?_
     refine H.ldi 0 rfl (v := .bool ok) rfl ?_
     have K := e_tells (kind := kind) (g := g) (chan := chan) (case_ := case_) (value := value) (mate := mate) (send := send) (ok := ok) H
     rw [ht] at K
     refine Cl.sl (by kernel_rfl) K fun w H => ?_
     refine BB.no rfl ?_
     refine BB.no rfl ?_
     refine ret1 (fn := Tryd.f6) (.bool false) rfl (by rfl) ?_
     exact absurd ht (by clear H; unfold tellsF; simp_all)
   ·skip
    have h2 := eq_of_beq e2
    refine ⟨?_⟩
    refine H.ldi 0 rfl (v := .int .i64 kind) rfl ?_
    refine H.ldi 0 rfl (v := .int .i64 g) rfl ?_
    refine H.ldi 0 rfl (v := .int .i64 chan) rfl ?_
    refine H.ldi 0 rfl (v := .int .i64 case_) rfl ?_
    refine H.ldi 0 rfl (v := .int .i64 value) rfl ?_
    refine H.ldi 0 rfl (v := .int .i64 mate) rfl ?_
    refine H.ldi 0 rfl (v := .bool send) rfl ?_
    refine H.ldi 0 rfl (v := .bool ok) rfl ?_
    have K := e_tells (kind := kind) (g := g) (chan := chan) (case_ := case_) (value := value) (mate := mate) (send := send) (ok := ok) H
    rw [ht] at K
    refine Cl.sl (by kernel_rfl) K fun w H => ?_
    refine BB.no rfl ?_
    refine BB.no rfl ?_
    refine ret1 (fn := Tryd.f6) (.bool false) rfl (by rfl) ?_
    exact absurd ht (by clear H; unfold tellsF; simp_all)
  ·skip
   have h1 := eq_of_beq e1
   refine ⟨?_⟩
   refine H.ldi 0 rfl (v := .int .i64 kind) rfl ?_
   refine H.ldi 0 rfl (v := .int .i64 g) rfl ?_
   refine H.ldi 0 rfl (v := .int .i64 chan) rfl ?_
   refine H.ldi 0 rfl (v := .int .i64 case_) rfl ?_
   refine H.ldi 0 rfl (v := .int .i64 value) rfl ?_
   refine H.ldi 0 rfl (v := .int .i64 mate) rfl ?_
   refine H.ldi 0 rfl (v := .bool send) rfl ?_
   refine H.ldi 0 rfl (v := .bool ok) rfl ?_
   have K := e_tells (kind := kind) (g := g) (chan := chan) (case_ := case_) (value := value) (mate := mate) (send := send) (ok := ok) H
   rw [ht] at K
   refine Cl.sl (by kernel_rfl) K fun w H => ?_
   refine BB.no rfl ?_
   refine BB.no rfl ?_
   refine ret1 (fn := Tryd.f6) (.bool false) rfl (by rfl) ?_
   exact absurd ht (by clear H; unfold tellsF; simp_all)
theorem edgeTells_walk {v : Value} {e0 : Ev} {W : World} (h : v = e0.agg) (hs : Spans W) : Calls Tryd.prog 6 #[v] W fun e w' => e = .returned (.bool true) ∧ Frm Nil W w' := by
 obtain ⟨kind, g, chan, case_, value, mate, send, ok⟩ := e0
 subst h
 refine (l_tells (F := []) (fun w hw => hs.later (SL.old hw)) (SL.start W)).mono ?_
 rintro e w' ⟨rfl, H⟩
 exact ⟨rfl, SL.old H⟩
end Go.Proofs.YtchkaaeoffmjnaaDoor
