/- Texts of the proof, several in one file: LawN. -/
import Derived.Test.YtchkaaeoffmjnaaGreatDoorG20
namespace Go.Proofs.YtchkaaeoffmjnaaGreatDoor
set_option linter.unusedVariables false
set_option linter.unusedSimpArgs false
open Go.RowKit
set_option maxRecDepth 100000
theorem Reader.headE {A : Piece} {a : Option Addr} {n k : Nat} {T : List Ev} (h : Reader A 8 a n (T.flatMap Ev.cells)) (hk : k ≤ n) : Reader A 8 a k ((T.take k).flatMap Ev.cells) := by
 have := h.take hk
 have e : (T.flatMap Ev.cells).take (k * 8) = (T.take k).flatMap Ev.cells := by
  rcases Nat.lt_or_ge T.length k with hl | hl
  ·rw [List.take_of_length_le (Nat.le_of_lt hl), List.take_of_length_le]
   have : ∀ L : List Ev, (L.flatMap Ev.cells).length = L.length * 8 := fun L => by
    induction L with
    | nil => rfl
    | cons e L ih => rw [List.flatMap_cons, List.length_append, ih, List.length_cons, Ev.cells_len]; omega
   rw [this]
   omega
  ·have := evs_take (List.take_prefix k T)
   rw [List.length_take, Nat.min_eq_left hl] at this
   exact this
 rw [e] at this
 exact this
theorem dup_len' {T : List Ev} {n : Nat} (hn : n < T.length) : (dupE T n).length = n + 1 + (T.length - n) := by rw [dup_len hn]; omega
theorem dup_take {T : List Ev} {n : Nat} (hn : n < T.length) : (dupE T n).take (n + 1 + (T.length - n)) = dupE T n := List.take_of_length_le (by rw [dup_len hn]; omega)
set_option maxHeartbeats 4000000 in
theorem l_spoils {w : World} {F : List Piece} {A : Piece} {pa la da : Option Addr} {pc lc dc : Nat} {t m : Int} {X : List ProgX} {pl dr : List Int} (hX : 0 < X.length → ∃ b off, pa = some ⟨b, off, none⟩ ∧ ScrA A b off X) (hL : Reader A 1 la pl.length (ints pl)) (hD : Reader A 1 da dr.length (ints dr)) {n : Int} (hG : SpansA A) (H : SL w (A :: F)) : Calls Tryz.prog 8 #[.agg #[.int .i64 t, .int .i64 m, .slice pa X.length pc, .slice la pl.length lc, .slice da dr.length dc], .int .i64 n] w fun o w' => o = .returned (.bool true) ∧ SL w' (A :: F) := by
 by_cases hck : checkE ⟨t, m, progsM X, pl, dr⟩ = 0
 ·have hsh : (runL ⟨t, m, progsM X, pl, dr⟩ (pl.length + 1)).tr.length ≤ 1000 := run_short hck
  have hk : ∀ j, j < (runL ⟨t, m, progsM X, pl, dr⟩ (pl.length + 1)).tr.length → brG (runL ⟨t, m, progsM X, pl, dr⟩ (pl.length + 1)).tr j = 0 := (run_keeps hck).1
  have hcalm : CalmP (prevF (runL ⟨t, m, progsM X, pl, dr⟩ (pl.length + 1)).tr (runL ⟨t, m, progsM X, pl, dr⟩ (pl.length + 1)).tr.length) := (run_keeps hck).2
  by_cases hn : 0 ≤ n ∧ n < (runL ⟨t, m, progsM X, pl, dr⟩ (pl.length + 1)).tr.length
  ·obtain ⟨jj, rfl⟩ := Int.eq_ofNat_of_zero_le hn.1
   have hml : jj < (runL ⟨t, m, progsM X, pl, dr⟩ (pl.length + 1)).tr.length := by omega
   obtain ⟨⟨xkind, xg, xchan, xcase_, xvalue, xmate, xsend, xok⟩, hxx⟩ : ∃ x, (runL ⟨t, m, progsM X, pl, dr⟩ (pl.length + 1)).tr[jj]? = some x := ⟨_, List.getElem?_eq_getElem hml⟩
   have hbad := dup_spoils hk hml hxx
   have hgood := fun h => congrArg Prod.fst (dup_keeps hk hcalm hml hxx h)
   dsimp only at hbad hgood
   refine calls_den (args := [_, _]) Tryz.func8 rfl (Nat.le_of_ble_eq_true (by kernel_rfl)) (by kernel_rfl) ?_
   refine ⟨?_⟩
   refine Nw.as #[.int .i64 t, .int .i64 m, .slice pa X.length pc, .slice la pl.length lc, .slice da dr.length dc] 42 rfl H fun b2 w H => ?_
   refine ⟨?_⟩
   refine H.ldi 0 rfl (v := .int .i64 t) rfl ?_
   refine H.ldi 0 rfl (v := .int .i64 m) rfl ?_
   refine H.ldi 0 rfl (v := .slice pa X.length pc) rfl ?_
   refine H.ldi 0 rfl (v := .slice la pl.length lc) rfl ?_
   refine H.ldi 0 rfl (v := .slice da dr.length dc) rfl ?_
   have h1 := H.pick [1, 0] 2 (by decide)
   simp only [pk, nth, pkA, pkB, pkC, pkD, pkE, pkF] at h1
   refine Cl.by (by kernel_rfl) (l_large14 hX hL hD h1) ?_
   rintro _ w ⟨bl, rfl, H⟩
   refine ⟨_, rfl, ?_⟩
   replace H := H.pick [1, 0] 2 (by decide)
   simp only [pk, nth, pkA, pkB, pkC, pkD, pkE, pkF] at H
   refine BB.k ?_
   cases bl
   ·skip
    refine Cn.no ?_
    refine ⟨?_⟩
    refine H.ldi 0 rfl (v := .int .i64 t) rfl ?_
    refine H.ldi 0 rfl (v := .int .i64 m) rfl ?_
    refine H.ldi 0 rfl (v := .slice pa X.length pc) rfl ?_
    refine H.ldi 0 rfl (v := .slice la pl.length lc) rfl ?_
    refine H.ldi 0 rfl (v := .slice da dr.length dc) rfl ?_
    have h1 := H.pick [1, 0] 2 (by decide)
    simp only [pk, nth, pkA, pkB, pkC, pkD, pkE, pkF] at h1
    refine Cl.by (by kernel_rfl) (p_run hX hL hD hck h1) ?_
    rintro _ w ⟨ka, kc, rfl, H⟩
    refine ⟨_, rfl, ?_⟩
    replace H := H.pick [0, 2, 1] 3 (by decide)
    simp only [pk, nth, pkA, pkB, pkC, pkD, pkE, pkF] at H
    have hob := SL.slcAddr H (by omega)
    obtain ⟨kq, rfl⟩ := hob
    refine ⟨?_⟩
    refine BB.no (decide_eq_false (by omega)) ?_
    refine BB.no (decide_eq_false (by omega)) ?_
    refine Cn.no ?_
    refine ⟨?_⟩
    refine ⟨?_⟩
    refine IW.by (m := ↑(jj + 1)) (add_one (by omega)) ?_
    refine Mn.head (te := 53) (sz := 8) (c := kc) (.tmp 29) (.tmp 31) 22 (by rfl) (by kernel_rfl) (by kernel_rfl) (jj + 1) (Nat.le_trans (show jj + 1 ≤ (runL ⟨t, m, progsM X, pl, dr⟩ (pl.length + 1)).tr.length by omega) (SL.slcLe H)) (by rfl) (by rfl) ?_
    refine SL.appNil (te := 53) (sz := 8) H (.tmp 28) (.tmp 32) 22 (.agg #[.int .i64 0, .int .i64 0, .int .i64 0, .int .i64 0, .int .i64 0, .int .i64 0, .bool false, .bool false]) 56 (by rfl) (by kernel_rfl) (by kernel_rfl) (by rfl) (by decide) (by rfl) (some ⟨kq, 0, none⟩) (jj + 1) kc (((runL ⟨t, m, progsM X, pl, dr⟩ (pl.length + 1)).tr.take (jj + 1)).flatMap Ev.cells) (by rfl) ((H.one 0 rfl).read (Reader.headE Reader.slc (by omega))) (evs_one _) (by omega) (by decide) fun ua uc w H => ?_
    refine ⟨?_⟩
    refine Mn.cutS (lo := jj) H 1 rfl (.tmp 35) (.tmp 36) 22 (by rfl) (by kernel_rfl) (by kernel_rfl) (by rfl) (by rfl) (by omega) fun sa1 sk1 hR1 => ?_
    refine SL.appF (te := 53) (sz := 8) H (.tmp 34) (.tmp 37) 22 (.agg #[.int .i64 0, .int .i64 0, .int .i64 0, .int .i64 0, .int .i64 0, .int .i64 0, .bool false, .bool false]) 56 (by rfl) (by kernel_rfl) (by kernel_rfl) (by rfl) (by decide) (by rfl) sa1 ((runL ⟨t, m, progsM X, pl, dr⟩ (pl.length + 1)).tr.length - jj) sk1 (((runL ⟨t, m, progsM X, pl, dr⟩ (pl.length + 1)).tr.drop jj).flatMap Ev.cells) (by rfl) (by rw [← evs_drop]; exact (H.one 1 rfl).read hR1) (evs_one _) (by omega) (by decide) fun ja jc w H => ?_
    rw [← List.flatMap_append, show (runL ⟨t, m, progsM X, pl, dr⟩ (pl.length + 1)).tr.take (jj + 1) ++ (runL ⟨t, m, progsM X, pl, dr⟩ (pl.length + 1)).tr.drop jj = (dupE (runL ⟨t, m, progsM X, pl, dr⟩ (pl.length + 1)).tr jj) from rfl] at H
    refine ⟨?_⟩
    refine Ix.at0 jj 8 (by kernel_rfl) (rfl) (hml) ?_
    refine H.ldS 1 rfl (v := .int .i64 xkind) ((ev_cell hxx 0 (by decide)).trans rfl) ?_
    refine ⟨?_⟩
    have h1 := H.pick [0, 3, 1, 2] 4 (by decide)
    simp only [pk, nth, pkA, pkB, pkC, pkD, pkE, pkF] at h1
    have K := g_checkT (k := (jj + 1 + ((runL ⟨t, m, progsM X, pl, dr⟩ (pl.length + 1)).tr.length - jj))) (kc' := jc) hG (dup_len' hml) (Nat.le_refl _) (by omega) h1
    rw [dup_take hml] at K
    refine Cl.sl (by kernel_rfl) K fun w H => ?_
    replace H := H.pick [0, 2, 3, 1] 4 (by decide)
    simp only [pk, nth, pkA, pkB, pkC, pkD, pkE, pkF] at H
    refine ⟨?_⟩
    refine BB.vr fun q2 e2 => ?_
    cases q2
    ·skip
     have h2 := beq_eq_false_iff_ne.1 e2
     refine BB.vr fun q3 e3 => ?_
     cases q3
     ·skip
      have h3 := beq_eq_false_iff_ne.1 e3
      refine BB.vr fun q4 e4 => ?_
      cases q4
      ·skip
       have h4 := beq_eq_false_iff_ne.1 e4
       refine BB.vr fun q5 e5 => ?_
       cases q5
       ·skip
        have h5 := beq_eq_false_iff_ne.1 e5
        refine BB.vr fun q6 e6 => ?_
        cases q6
        ·skip
         have h6 := beq_eq_false_iff_ne.1 e6
         refine BB.vr fun q7 e7 => ?_
         cases q7
         ·skip
          have h7 := beq_eq_false_iff_ne.1 e7
          refine BB.vr fun q8 e8 => ?_
          cases q8
          ·skip
           have h8 := beq_eq_false_iff_ne.1 e8
           refine Cn.no ?_
           refine ⟨?_⟩
           refine BB.vr fun q9 e9 => ?_
           cases q9
           ·skip
            have h9 := beq_eq_false_iff_ne.1 e9
            refine BB.vr fun q10 e10 => ?_
            cases q10
            ·skip
             have h10 := beq_eq_false_iff_ne.1 e10
             refine BB.vr fun q11 e11 => ?_
             cases q11
             ·skip
              have h11 := beq_eq_false_iff_ne.1 e11
              refine BB.vr fun q12 e12 => ?_
              cases q12
              ·skip
               have h12 := beq_eq_false_iff_ne.1 e12
               refine Cn.no ?_
               refine ⟨?_⟩
               have h1 := H.pick [3, 0, 1, 2] 4 (by decide)
               simp only [pk, nth, pkA, pkB, pkC, pkD, pkE, pkF] at h1
               refine Cl.sl (by kernel_rfl) (l_exits hG h1) fun w H => ?_
               replace H := H.pick [1, 2, 3, 0] 4 (by decide)
               simp only [pk, nth, pkA, pkB, pkC, pkD, pkE, pkF] at H
               refine BB.yes rfl ?_
               refine ret1 (fn := Tryz.f8) (.bool true) rfl (by rfl) ?_
               exact ⟨rfl, H.pick [3] 4 (by decide)⟩
              ·skip
               have h12 := eq_of_beq e12
               subst h12
               refine Cn.yes ?_
               refine ⟨?_⟩
               refine BB.yes (beq_iff_eq.2 (hgood (by omega))) ?_
               have h1 := H.pick [3, 0, 1, 2] 4 (by decide)
               simp only [pk, nth, pkA, pkB, pkC, pkD, pkE, pkF] at h1
               refine Cl.sl (by kernel_rfl) (l_exits hG h1) fun w H => ?_
               replace H := H.pick [1, 2, 3, 0] 4 (by decide)
               simp only [pk, nth, pkA, pkB, pkC, pkD, pkE, pkF] at H
               refine BB.yes rfl ?_
               refine ret1 (fn := Tryz.f8) (.bool true) rfl (by rfl) ?_
               exact ⟨rfl, H.pick [3] 4 (by decide)⟩
             ·skip
              have h11 := eq_of_beq e11
              subst h11
              refine Cn.yes ?_
              refine ⟨?_⟩
              refine BB.yes (beq_iff_eq.2 (hgood (by omega))) ?_
              have h1 := H.pick [3, 0, 1, 2] 4 (by decide)
              simp only [pk, nth, pkA, pkB, pkC, pkD, pkE, pkF] at h1
              refine Cl.sl (by kernel_rfl) (l_exits hG h1) fun w H => ?_
              replace H := H.pick [1, 2, 3, 0] 4 (by decide)
              simp only [pk, nth, pkA, pkB, pkC, pkD, pkE, pkF] at H
              refine BB.yes rfl ?_
              refine ret1 (fn := Tryz.f8) (.bool true) rfl (by rfl) ?_
              exact ⟨rfl, H.pick [3] 4 (by decide)⟩
            ·skip
             have h10 := eq_of_beq e10
             subst h10
             refine Cn.yes ?_
             refine ⟨?_⟩
             refine BB.yes (beq_iff_eq.2 (hgood (by omega))) ?_
             have h1 := H.pick [3, 0, 1, 2] 4 (by decide)
             simp only [pk, nth, pkA, pkB, pkC, pkD, pkE, pkF] at h1
             refine Cl.sl (by kernel_rfl) (l_exits hG h1) fun w H => ?_
             replace H := H.pick [1, 2, 3, 0] 4 (by decide)
             simp only [pk, nth, pkA, pkB, pkC, pkD, pkE, pkF] at H
             refine BB.yes rfl ?_
             refine ret1 (fn := Tryz.f8) (.bool true) rfl (by rfl) ?_
             exact ⟨rfl, H.pick [3] 4 (by decide)⟩
           ·skip
            have h9 := eq_of_beq e9
            subst h9
            refine Cn.yes ?_
            refine ⟨?_⟩
            refine BB.yes (beq_iff_eq.2 (hgood (by omega))) ?_
            have h1 := H.pick [3, 0, 1, 2] 4 (by decide)
            simp only [pk, nth, pkA, pkB, pkC, pkD, pkE, pkF] at h1
            refine Cl.sl (by kernel_rfl) (l_exits hG h1) fun w H => ?_
            replace H := H.pick [1, 2, 3, 0] 4 (by decide)
            simp only [pk, nth, pkA, pkB, pkC, pkD, pkE, pkF] at H
            refine BB.yes rfl ?_
            refine ret1 (fn := Tryz.f8) (.bool true) rfl (by rfl) ?_
            exact ⟨rfl, H.pick [3] 4 (by decide)⟩
          ·skip
           have h8 := eq_of_beq e8
           subst h8
           refine Cn.yes ?_
           refine ⟨?_⟩
           refine BB.yes (bne_iff_ne.2 (hbad (by omega)).1) ?_
           refine IW.by (m := ↑(jj + 1)) (add_one (by omega)) ?_
           refine BB.yes (decide_eq_true (by have := (hbad (by omega)).2; omega)) ?_
           have h1 := H.pick [3, 0, 1, 2] 4 (by decide)
           simp only [pk, nth, pkA, pkB, pkC, pkD, pkE, pkF] at h1
           refine Cl.sl (by kernel_rfl) (l_exits hG h1) fun w H => ?_
           replace H := H.pick [1, 2, 3, 0] 4 (by decide)
           simp only [pk, nth, pkA, pkB, pkC, pkD, pkE, pkF] at H
           refine BB.yes rfl ?_
           refine ret1 (fn := Tryz.f8) (.bool true) rfl (by rfl) ?_
           exact ⟨rfl, H.pick [3] 4 (by decide)⟩
         ·skip
          have h7 := eq_of_beq e7
          subst h7
          refine Cn.yes ?_
          refine ⟨?_⟩
          refine BB.yes (bne_iff_ne.2 (hbad (by omega)).1) ?_
          refine IW.by (m := ↑(jj + 1)) (add_one (by omega)) ?_
          refine BB.yes (decide_eq_true (by have := (hbad (by omega)).2; omega)) ?_
          have h1 := H.pick [3, 0, 1, 2] 4 (by decide)
          simp only [pk, nth, pkA, pkB, pkC, pkD, pkE, pkF] at h1
          refine Cl.sl (by kernel_rfl) (l_exits hG h1) fun w H => ?_
          replace H := H.pick [1, 2, 3, 0] 4 (by decide)
          simp only [pk, nth, pkA, pkB, pkC, pkD, pkE, pkF] at H
          refine BB.yes rfl ?_
          refine ret1 (fn := Tryz.f8) (.bool true) rfl (by rfl) ?_
          exact ⟨rfl, H.pick [3] 4 (by decide)⟩
        ·skip
         have h6 := eq_of_beq e6
         subst h6
         refine Cn.yes ?_
         refine ⟨?_⟩
         refine BB.yes (bne_iff_ne.2 (hbad (by omega)).1) ?_
         refine IW.by (m := ↑(jj + 1)) (add_one (by omega)) ?_
         refine BB.yes (decide_eq_true (by have := (hbad (by omega)).2; omega)) ?_
         have h1 := H.pick [3, 0, 1, 2] 4 (by decide)
         simp only [pk, nth, pkA, pkB, pkC, pkD, pkE, pkF] at h1
         refine Cl.sl (by kernel_rfl) (l_exits hG h1) fun w H => ?_
         replace H := H.pick [1, 2, 3, 0] 4 (by decide)
         simp only [pk, nth, pkA, pkB, pkC, pkD, pkE, pkF] at H
         refine BB.yes rfl ?_
         refine ret1 (fn := Tryz.f8) (.bool true) rfl (by rfl) ?_
         exact ⟨rfl, H.pick [3] 4 (by decide)⟩
       ·skip
        have h5 := eq_of_beq e5
        subst h5
        refine Cn.yes ?_
        refine ⟨?_⟩
        refine BB.yes (bne_iff_ne.2 (hbad (by omega)).1) ?_
        refine IW.by (m := ↑(jj + 1)) (add_one (by omega)) ?_
        refine BB.yes (decide_eq_true (by have := (hbad (by omega)).2; omega)) ?_
        have h1 := H.pick [3, 0, 1, 2] 4 (by decide)
        simp only [pk, nth, pkA, pkB, pkC, pkD, pkE, pkF] at h1
        refine Cl.sl (by kernel_rfl) (l_exits hG h1) fun w H => ?_
        replace H := H.pick [1, 2, 3, 0] 4 (by decide)
        simp only [pk, nth, pkA, pkB, pkC, pkD, pkE, pkF] at H
        refine BB.yes rfl ?_
        refine ret1 (fn := Tryz.f8) (.bool true) rfl (by rfl) ?_
        exact ⟨rfl, H.pick [3] 4 (by decide)⟩
      ·skip
       have h4 := eq_of_beq e4
       subst h4
       refine Cn.yes ?_
       refine ⟨?_⟩
       refine BB.yes (bne_iff_ne.2 (hbad (by omega)).1) ?_
       refine IW.by (m := ↑(jj + 1)) (add_one (by omega)) ?_
       refine BB.yes (decide_eq_true (by have := (hbad (by omega)).2; omega)) ?_
       have h1 := H.pick [3, 0, 1, 2] 4 (by decide)
       simp only [pk, nth, pkA, pkB, pkC, pkD, pkE, pkF] at h1
       refine Cl.sl (by kernel_rfl) (l_exits hG h1) fun w H => ?_
       replace H := H.pick [1, 2, 3, 0] 4 (by decide)
       simp only [pk, nth, pkA, pkB, pkC, pkD, pkE, pkF] at H
       refine BB.yes rfl ?_
       refine ret1 (fn := Tryz.f8) (.bool true) rfl (by rfl) ?_
       exact ⟨rfl, H.pick [3] 4 (by decide)⟩
     ·skip
      have h3 := eq_of_beq e3
      subst h3
      refine Cn.yes ?_
      refine ⟨?_⟩
      refine BB.yes (bne_iff_ne.2 (hbad (by omega)).1) ?_
      refine IW.by (m := ↑(jj + 1)) (add_one (by omega)) ?_
      refine BB.yes (decide_eq_true (by have := (hbad (by omega)).2; omega)) ?_
      have h1 := H.pick [3, 0, 1, 2] 4 (by decide)
      simp only [pk, nth, pkA, pkB, pkC, pkD, pkE, pkF] at h1
      refine Cl.sl (by kernel_rfl) (l_exits hG h1) fun w H => ?_
      replace H := H.pick [1, 2, 3, 0] 4 (by decide)
      simp only [pk, nth, pkA, pkB, pkC, pkD, pkE, pkF] at H
      refine BB.yes rfl ?_
      refine ret1 (fn := Tryz.f8) (.bool true) rfl (by rfl) ?_
      exact ⟨rfl, H.pick [3] 4 (by decide)⟩
    ·skip
     have h2 := eq_of_beq e2
     subst h2
     refine Cn.yes ?_
     refine ⟨?_⟩
     refine BB.yes (bne_iff_ne.2 (hbad (by omega)).1) ?_
     refine IW.by (m := ↑(jj + 1)) (add_one (by omega)) ?_
     refine BB.yes (decide_eq_true (by have := (hbad (by omega)).2; omega)) ?_
     have h1 := H.pick [3, 0, 1, 2] 4 (by decide)
     simp only [pk, nth, pkA, pkB, pkC, pkD, pkE, pkF] at h1
     refine Cl.sl (by kernel_rfl) (l_exits hG h1) fun w H => ?_
     replace H := H.pick [1, 2, 3, 0] 4 (by decide)
     simp only [pk, nth, pkA, pkB, pkC, pkD, pkE, pkF] at H
     refine BB.yes rfl ?_
     refine ret1 (fn := Tryz.f8) (.bool true) rfl (by rfl) ?_
     exact ⟨rfl, H.pick [3] 4 (by decide)⟩
   ·skip
    refine Cn.yes ?_
    refine ⟨?_⟩
    have h1 := H.pick [1, 0] 2 (by decide)
    simp only [pk, nth, pkA, pkB, pkC, pkD, pkE, pkF] at h1
    refine Cl.sl (by kernel_rfl) (l_exits hG h1) fun w H => ?_
    replace H := H.pick [1, 0] 2 (by decide)
    simp only [pk, nth, pkA, pkB, pkC, pkD, pkE, pkF] at H
    refine BB.yes rfl ?_
    refine ret1 (fn := Tryz.f8) (.bool true) rfl (by rfl) ?_
    exact ⟨rfl, H.pick [1] 2 (by decide)⟩
  ·skip
   refine calls_den (args := [_, _]) Tryz.func8 rfl (Nat.le_of_ble_eq_true (by kernel_rfl)) (by kernel_rfl) ?_
   refine ⟨?_⟩
   refine Nw.as #[.int .i64 t, .int .i64 m, .slice pa X.length pc, .slice la pl.length lc, .slice da dr.length dc] 42 rfl H fun b2 w H => ?_
   refine ⟨?_⟩
   refine H.ldi 0 rfl (v := .int .i64 t) rfl ?_
   refine H.ldi 0 rfl (v := .int .i64 m) rfl ?_
   refine H.ldi 0 rfl (v := .slice pa X.length pc) rfl ?_
   refine H.ldi 0 rfl (v := .slice la pl.length lc) rfl ?_
   refine H.ldi 0 rfl (v := .slice da dr.length dc) rfl ?_
   have h1 := H.pick [1, 0] 2 (by decide)
   simp only [pk, nth, pkA, pkB, pkC, pkD, pkE, pkF] at h1
   refine Cl.by (by kernel_rfl) (l_large14 hX hL hD h1) ?_
   rintro _ w ⟨bl, rfl, H⟩
   refine ⟨_, rfl, ?_⟩
   replace H := H.pick [1, 0] 2 (by decide)
   simp only [pk, nth, pkA, pkB, pkC, pkD, pkE, pkF] at H
   refine BB.k ?_
   cases bl
   ·skip
    refine Cn.no ?_
    refine ⟨?_⟩
    refine H.ldi 0 rfl (v := .int .i64 t) rfl ?_
    refine H.ldi 0 rfl (v := .int .i64 m) rfl ?_
    refine H.ldi 0 rfl (v := .slice pa X.length pc) rfl ?_
    refine H.ldi 0 rfl (v := .slice la pl.length lc) rfl ?_
    refine H.ldi 0 rfl (v := .slice da dr.length dc) rfl ?_
    have h1 := H.pick [1, 0] 2 (by decide)
    simp only [pk, nth, pkA, pkB, pkC, pkD, pkE, pkF] at h1
    refine Cl.by (by kernel_rfl) (p_run hX hL hD hck h1) ?_
    rintro _ w ⟨ka, kc, rfl, H⟩
    refine ⟨_, rfl, ?_⟩
    replace H := H.pick [0, 2, 1] 3 (by decide)
    simp only [pk, nth, pkA, pkB, pkC, pkD, pkE, pkF] at H
    refine ⟨?_⟩
    refine BB.vr fun q1 e1 => ?_
    cases q1
    ·skip
     have h1 := of_decide_eq_false e1
     refine BB.yes (decide_eq_true (by omega)) ?_
     refine Cn.yes ?_
     refine ⟨?_⟩
     have h1 := H.pick [2, 0, 1] 3 (by decide)
     simp only [pk, nth, pkA, pkB, pkC, pkD, pkE, pkF] at h1
     refine Cl.sl (by kernel_rfl) (l_exits hG h1) fun w H => ?_
     replace H := H.pick [1, 2, 0] 3 (by decide)
     simp only [pk, nth, pkA, pkB, pkC, pkD, pkE, pkF] at H
     refine BB.yes rfl ?_
     refine ret1 (fn := Tryz.f8) (.bool true) rfl (by rfl) ?_
     exact ⟨rfl, H.pick [2] 3 (by decide)⟩
    ·skip
     have h1 := of_decide_eq_true e1
     refine Cn.yes ?_
     refine ⟨?_⟩
     have h1 := H.pick [2, 0, 1] 3 (by decide)
     simp only [pk, nth, pkA, pkB, pkC, pkD, pkE, pkF] at h1
     refine Cl.sl (by kernel_rfl) (l_exits hG h1) fun w H => ?_
     replace H := H.pick [1, 2, 0] 3 (by decide)
     simp only [pk, nth, pkA, pkB, pkC, pkD, pkE, pkF] at H
     refine BB.yes rfl ?_
     refine ret1 (fn := Tryz.f8) (.bool true) rfl (by rfl) ?_
     exact ⟨rfl, H.pick [2] 3 (by decide)⟩
   ·skip
    refine Cn.yes ?_
    refine ⟨?_⟩
    have h1 := H.pick [1, 0] 2 (by decide)
    simp only [pk, nth, pkA, pkB, pkC, pkD, pkE, pkF] at h1
    refine Cl.sl (by kernel_rfl) (l_exits hG h1) fun w H => ?_
    replace H := H.pick [1, 0] 2 (by decide)
    simp only [pk, nth, pkA, pkB, pkC, pkD, pkE, pkF] at H
    refine BB.yes rfl ?_
    refine ret1 (fn := Tryz.f8) (.bool true) rfl (by rfl) ?_
    exact ⟨rfl, H.pick [1] 2 (by decide)⟩
 ·skip
  refine calls_den (args := [_, _]) Tryz.func8 rfl (Nat.le_of_ble_eq_true (by kernel_rfl)) (by kernel_rfl) ?_
  refine ⟨?_⟩
  refine Nw.as #[.int .i64 t, .int .i64 m, .slice pa X.length pc, .slice la pl.length lc, .slice da dr.length dc] 42 rfl H fun b2 w H => ?_
  refine ⟨?_⟩
  refine H.ldi 0 rfl (v := .int .i64 t) rfl ?_
  refine H.ldi 0 rfl (v := .int .i64 m) rfl ?_
  refine H.ldi 0 rfl (v := .slice pa X.length pc) rfl ?_
  refine H.ldi 0 rfl (v := .slice la pl.length lc) rfl ?_
  refine H.ldi 0 rfl (v := .slice da dr.length dc) rfl ?_
  have h1 := H.pick [1, 0] 2 (by decide)
  simp only [pk, nth, pkA, pkB, pkC, pkD, pkE, pkF] at h1
  refine Cl.by (by kernel_rfl) (l_large14 hX hL hD h1) ?_
  rintro _ w ⟨bl, rfl, H⟩
  refine ⟨_, rfl, ?_⟩
  replace H := H.pick [1, 0] 2 (by decide)
  simp only [pk, nth, pkA, pkB, pkC, pkD, pkE, pkF] at H
  refine BB.k ?_
  cases bl
  ·skip
   refine Cn.no ?_
   refine ⟨?_⟩
   refine H.ldi 0 rfl (v := .int .i64 t) rfl ?_
   refine H.ldi 0 rfl (v := .int .i64 m) rfl ?_
   refine H.ldi 0 rfl (v := .slice pa X.length pc) rfl ?_
   refine H.ldi 0 rfl (v := .slice la pl.length lc) rfl ?_
   refine H.ldi 0 rfl (v := .slice da dr.length dc) rfl ?_
   have h1 := H.pick [1, 0] 2 (by decide)
   simp only [pk, nth, pkA, pkB, pkC, pkD, pkE, pkF] at h1
   refine Cl.sl (by kernel_rfl) (p_run_no hX hL hD hck h1) fun w H => ?_
   replace H := H.pick [1, 0] 2 (by decide)
   simp only [pk, nth, pkA, pkB, pkC, pkD, pkE, pkF] at H
   refine ⟨?_⟩
   refine BB.vr fun q1 e1 => ?_
   cases q1
   ·skip
    have h1 := of_decide_eq_false e1
    refine BB.yes (decide_eq_true (by omega)) ?_
    refine Cn.yes ?_
    refine ⟨?_⟩
    have h1 := H.pick [1, 0] 2 (by decide)
    simp only [pk, nth, pkA, pkB, pkC, pkD, pkE, pkF] at h1
    refine Cl.sl (by kernel_rfl) (l_exits hG h1) fun w H => ?_
    replace H := H.pick [1, 0] 2 (by decide)
    simp only [pk, nth, pkA, pkB, pkC, pkD, pkE, pkF] at H
    refine BB.yes rfl ?_
    refine ret1 (fn := Tryz.f8) (.bool true) rfl (by rfl) ?_
    exact ⟨rfl, H.pick [1] 2 (by decide)⟩
   ·skip
    have h1 := of_decide_eq_true e1
    refine Cn.yes ?_
    refine ⟨?_⟩
    have h1 := H.pick [1, 0] 2 (by decide)
    simp only [pk, nth, pkA, pkB, pkC, pkD, pkE, pkF] at h1
    refine Cl.sl (by kernel_rfl) (l_exits hG h1) fun w H => ?_
    replace H := H.pick [1, 0] 2 (by decide)
    simp only [pk, nth, pkA, pkB, pkC, pkD, pkE, pkF] at H
    refine BB.yes rfl ?_
    refine ret1 (fn := Tryz.f8) (.bool true) rfl (by rfl) ?_
    exact ⟨rfl, H.pick [1] 2 (by decide)⟩
  ·skip
   refine Cn.yes ?_
   refine ⟨?_⟩
   have h1 := H.pick [1, 0] 2 (by decide)
   simp only [pk, nth, pkA, pkB, pkC, pkD, pkE, pkF] at h1
   refine Cl.sl (by kernel_rfl) (l_exits hG h1) fun w H => ?_
   replace H := H.pick [1, 0] 2 (by decide)
   simp only [pk, nth, pkA, pkB, pkC, pkD, pkE, pkF] at H
   refine BB.yes rfl ?_
   refine ret1 (fn := Tryz.f8) (.bool true) rfl (by rfl) ?_
   exact ⟨rfl, H.pick [1] 2 (by decide)⟩
theorem gaugeSpoils_walk {w : World} {v : Value} {s : ScrX} (y : ScrIn w v s) (n : Int) (hnr : (Lit.int .i64 n).wf = true) (hs : Spans w) : Calls Tryz.prog 8 #[v, .int .i64 n] w fun e w' => e = .returned (.bool true) ∧ Frm Nil w w' := by
 have hv := y.val
 subst hv
 refine (l_spoils (F := []) (fun h => Old.scr y.progs h) (Old.rd y.plan) (Old.rd y.draws) (fun w' hw => hs.later (SL.old hw)) (SL.start w)).mono ?_
 rintro e w' ⟨rfl, H⟩
 exact ⟨rfl, H.old⟩
end Go.Proofs.YtchkaaeoffmjnaaGreatDoor
