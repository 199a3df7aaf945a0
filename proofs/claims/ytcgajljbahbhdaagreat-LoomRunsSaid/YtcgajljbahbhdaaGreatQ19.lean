/- Texts of the proof, several in one file: LawB, Loom13, LawC. -/
import Derived.Test.YtcgajljbahbhdaaGreatQ18
namespace Go.Proofs.YtcgajljbahbhdaaGreat
set_option linter.unusedVariables false
set_option linter.unusedSimpArgs false
open Go.RowKit
set_option maxRecDepth 100000
def hop (k a b : Int) : OpX := ⟨⟨k, a, b, [], false⟩, none, 0⟩
def handX (b7 b9 : Nat) : List ProgX := [⟨[hop 2 0 0, hop 1 1 0, hop 4 0 0], some ⟨b7, 0, none⟩, 3⟩, ⟨[hop 3 0 5], some ⟨b9, 0, none⟩, 1⟩]
def handS : ScrM := ⟨9, 9, [[⟨2, 0, 0, [], false⟩, ⟨1, 1, 0, [], false⟩, ⟨4, 0, 0, [], false⟩], [⟨3, 0, 5, [], false⟩]], [0, 0, 0, 0], []⟩
def handE : List Ev := [⟨2, 0, 0, -1, 0, -1, false, false⟩, ⟨1, 0, -1, -1, 1, 1, false, false⟩, ⟨6, 0, 0, -1, 0, -1, false, false⟩, ⟨3, 1, 0, -1, 5, 0, true, false⟩, ⟨7, 0, 0, -1, 5, 1, false, true⟩]
theorem hands_ver : verL handS (runL handS 5) = 4 := by kernel_rfl
theorem hands_tr : (runL handS 5).tr = handE := by kernel_rfl
section
variable {b7 b9 b10 b11 : Nat}
theorem row_on {S : Nat → Prop} {w : World} {b t : Nat} {cs : Array Value} (h : (row b cs t).on S w) {o : Nat} {v : Value} (hv : cs[o]? = some v) : w.cell? ⟨b, o, none⟩ = some v := row_cell h.2 o hv
theorem rd_none {w : World} {sz : Nat} : Rd w sz none 0 [] := ⟨by simp, Nat.zero_le _, fun h => absurd h (Nat.lt_irrefl 0)⟩
theorem hands_draws : Reader (all [row b10 #[.slice (some ⟨b7, 0, none⟩) 3 3, .slice (some ⟨b9, 0, none⟩) 1 1] 41, row b7 #[.int .i64 2, .int .i64 0, .int .i64 0, .slice none 0 0, .bool false, .int .i64 1, .int .i64 1, .int .i64 0, .slice none 0 0, .bool false, .int .i64 4, .int .i64 0, .int .i64 0, .slice none 0 0, .bool false] 44, row b9 #[.int .i64 3, .int .i64 0, .int .i64 5, .slice none 0 0, .bool false] 44, row b11 #[.int .i64 0, .int .i64 0, .int .i64 0, .int .i64 0] 3]) 1 none ([] : List Int).length (ints []) := fun _ _ _ => rd_none
theorem hands_plan : Reader (all [row b10 #[.slice (some ⟨b7, 0, none⟩) 3 3, .slice (some ⟨b9, 0, none⟩) 1 1] 41, row b7 #[.int .i64 2, .int .i64 0, .int .i64 0, .slice none 0 0, .bool false, .int .i64 1, .int .i64 1, .int .i64 0, .slice none 0 0, .bool false, .int .i64 4, .int .i64 0, .int .i64 0, .slice none 0 0, .bool false] 44, row b9 #[.int .i64 3, .int .i64 0, .int .i64 5, .slice none 0 0, .bool false] 44, row b11 #[.int .i64 0, .int .i64 0, .int .i64 0, .int .i64 0] 3]) 1 (some ⟨b11, 0, none⟩) ([0, 0, 0, 0] : List Int).length (ints [0, 0, 0, 0]) := by
 intro S w h
 obtain ⟨T, _, hT⟩ := SLs.at 3 h rfl
 refine ⟨rfl, by decide, fun _ => ⟨b11, 0, rfl, fun i u hu => row_on hT (by rw [Nat.zero_add]; simpa [ints] using hu)⟩⟩
theorem hands_scr : ScrA (all [row b10 #[.slice (some ⟨b7, 0, none⟩) 3 3, .slice (some ⟨b9, 0, none⟩) 1 1] 41, row b7 #[.int .i64 2, .int .i64 0, .int .i64 0, .slice none 0 0, .bool false, .int .i64 1, .int .i64 1, .int .i64 0, .slice none 0 0, .bool false, .int .i64 4, .int .i64 0, .int .i64 0, .slice none 0 0, .bool false] 44, row b9 #[.int .i64 3, .int .i64 0, .int .i64 5, .slice none 0 0, .bool false] 44, row b11 #[.int .i64 0, .int .i64 0, .int .i64 0, .int .i64 0] 3]) b10 0 (handX b7 b9) where
 prog := by
  intro S w h k p hk
  obtain ⟨T, _, hT⟩ := SLs.at 0 h rfl
  match k, hk with
  | 0, hk => injection hk with hk; subst hk; exact row_on hT rfl
  | 1, hk => injection hk with hk; subst hk; exact row_on hT rfl
 some_ := by
  intro k p hk _
  match k, hk with
  | 0, hk => injection hk with hk; subst hk; exact ⟨_, _, rfl⟩
  | 1, hk => injection hk with hk; subst hk; exact ⟨_, _, rfl⟩
 op := by
  intro S w h k p hk b2 o2 hpa j o hj i v hv
  match k, hk with
  | 0, hk =>
   obtain ⟨T, _, hT⟩ := SLs.at 1 h rfl
   injection hk with hk; subst hk
   injection hpa with hpa
   injection hpa with e1 e2
   subst e1 e2
   match j, hj with
   | 0, hj => injection hj with hj; subst hj; match i, hv with | 0, hv | 1, hv | 2, hv | 3, hv | 4, hv => exact row_on hT hv
   | 1, hj => injection hj with hj; subst hj; match i, hv with | 0, hv | 1, hv | 2, hv | 3, hv | 4, hv => exact row_on hT hv
   | 2, hj => injection hj with hj; subst hj; match i, hv with | 0, hv | 1, hv | 2, hv | 3, hv | 4, hv => exact row_on hT hv
  | 1, hk =>
   obtain ⟨T, _, hT⟩ := SLs.at 2 h rfl
   injection hk with hk; subst hk
   injection hpa with hpa
   injection hpa with e1 e2
   subst e1 e2
   match j, hj with
   | 0, hj => injection hj with hj; subst hj; match i, hv with | 0, hv | 1, hv | 2, hv | 3, hv | 4, hv => exact row_on hT hv
 cap := by
  intro k p hk
  match k, hk with
  | 0, hk => injection hk with hk; subst hk; exact Nat.le_refl 3
  | 1, hk => injection hk with hk; subst hk; exact Nat.le_refl 1
 case := by
  intro k p hk j o hj
  match k, hk with
  | 0, hk =>
   injection hk with hk; subst hk
   match j, hj with
   | 0, hj => injection hj with hj; subst hj; exact ⟨fun _ _ _ => rd_none, Nat.le_refl 0⟩
   | 1, hj => injection hj with hj; subst hj; exact ⟨fun _ _ _ => rd_none, Nat.le_refl 0⟩
   | 2, hj => injection hj with hj; subst hj; exact ⟨fun _ _ _ => rd_none, Nat.le_refl 0⟩
  | 1, hk =>
   injection hk with hk; subst hk
   match j, hj with
   | 0, hj => injection hj with hj; subst hj; exact ⟨fun _ _ _ => rd_none, Nat.le_refl 0⟩
end
theorem l_handrun {b7 b9 b10 b11 : Nat} {w : World} {F : List Piece} (H : SL w (row b10 #[.slice (some ⟨b7, 0, none⟩) 3 3, .slice (some ⟨b9, 0, none⟩) 1 1] 41 :: row b7 #[.int .i64 2, .int .i64 0, .int .i64 0, .slice none 0 0, .bool false, .int .i64 1, .int .i64 1, .int .i64 0, .slice none 0 0, .bool false, .int .i64 4, .int .i64 0, .int .i64 0, .slice none 0 0, .bool false] 44 :: row b9 #[.int .i64 3, .int .i64 0, .int .i64 5, .slice none 0 0, .bool false] 44 :: row b11 #[.int .i64 0, .int .i64 0, .int .i64 0, .int .i64 0] 3 :: F)) : Calls Tryz.prog 12 #[.agg #[.int .i64 9, .int .i64 9, .slice (some ⟨b10, 0, none⟩) 2 2, .slice (some ⟨b11, 0, none⟩) 4 4, .slice none 0 0]] w fun o w' => ∃ tb kc, o = .returned (.tuple #[.slice (some ⟨tb, 0, none⟩) 5 kc, .int .i64 4]) ∧ SL w' (Slc 36 8 (.slice (some ⟨tb, 0, none⟩) 5 kc) 5 (handE.flatMap Ev.cells) :: F) := by
 have h2 : SL w ((all [row b10 #[.slice (some ⟨b7, 0, none⟩) 3 3, .slice (some ⟨b9, 0, none⟩) 1 1] 41, row b7 #[.int .i64 2, .int .i64 0, .int .i64 0, .slice none 0 0, .bool false, .int .i64 1, .int .i64 1, .int .i64 0, .slice none 0 0, .bool false, .int .i64 4, .int .i64 0, .int .i64 0, .slice none 0 0, .bool false] 44, row b9 #[.int .i64 3, .int .i64 0, .int .i64 5, .slice none 0 0, .bool false] 44, row b11 #[.int .i64 0, .int .i64 0, .int .i64 0, .int .i64 0] 3]) :: F) := SL.all.2 H
 have hrun := p_run (t := 9) (m := 9) (X := handX b7 b9) (pl := [0, 0, 0, 0]) (dr := []) (pc := 2) (lc := 4) (dc := 0) (fun _ => ⟨b10, 0, rfl, hands_scr⟩) hands_plan hands_draws (show checkE handS = 0 by decide) h2
 refine Calls.mono hrun ?_
 rintro o w' ⟨ka, kc, rfl, H'⟩
 have ev : verL ⟨9, 9, progsM (handX b7 b9), [0, 0, 0, 0], []⟩ (runL ⟨9, 9, progsM (handX b7 b9), [0, 0, 0, 0], []⟩ (([0, 0, 0, 0] : List Int).length + 1)) = 4 := hands_ver
 have et : (runL ⟨9, 9, progsM (handX b7 b9), [0, 0, 0, 0], []⟩ (([0, 0, 0, 0] : List Int).length + 1)).tr = handE := hands_tr
 rw [et] at H'
 rw [et, ev]
 obtain ⟨tb, rfl⟩ := SL.slcAddr H' (by decide)
 exact ⟨tb, kc, rfl, H'.pick [0] 2 (by decide)⟩
set_option maxHeartbeats 2000000 in
theorem l_hands {w : World} {F : List Piece} (H : SL w F) : Calls Tryz.prog 11 #[] w fun o w' => o = .returned (.bool true) ∧ SL w' F := by
 refine calls_den (args := []) Tryz.func11 rfl (Nat.le_of_ble_eq_true (by kernel_rfl)) (by kernel_rfl) ?_
 refine ⟨?_⟩
 refine ⟨?_⟩
 refine Mn.pure (.agg #[.int .i64 2, .int .i64 0, .int .i64 0, .slice none 0 0, .bool false]) (by kernel_rfl) ?_
 refine Mn.pure (.agg #[.int .i64 1, .int .i64 1, .int .i64 0, .slice none 0 0, .bool false]) (by kernel_rfl) ?_
 refine Mn.pure (.agg #[.int .i64 4, .int .i64 0, .int .i64 0, .slice none 0 0, .bool false]) (by kernel_rfl) ?_
 refine Mn.new (fun b => .slice (some ⟨b, 0, none⟩) 3 3) #[.int .i64 2, .int .i64 0, .int .i64 0, .slice none 0 0, .bool false, .int .i64 1, .int .i64 1, .int .i64 0, .slice none 0 0, .bool false, .int .i64 4, .int .i64 0, .int .i64 0, .slice none 0 0, .bool false] 44 (by kernel_rfl) H fun b7 w H => ?_
 refine Mn.pure (.agg #[.int .i64 3, .int .i64 0, .int .i64 5, .slice none 0 0, .bool false]) (by kernel_rfl) ?_
 refine Mn.new (fun b => .slice (some ⟨b, 0, none⟩) 1 1) #[.int .i64 3, .int .i64 0, .int .i64 5, .slice none 0 0, .bool false] 44 (by kernel_rfl) H fun b9 w H => ?_
 refine Mn.new (fun b => .slice (some ⟨b, 0, none⟩) 2 2) #[.slice (some ⟨b7, 0, none⟩) 3 3, .slice (some ⟨b9, 0, none⟩) 1 1] 41 (by kernel_rfl) H fun b10 w H => ?_
 refine Mn.new (fun b => .slice (some ⟨b, 0, none⟩) 4 4) #[.int .i64 0, .int .i64 0, .int .i64 0, .int .i64 0] 3 (by kernel_rfl) H fun b11 w H => ?_
 refine Mn.pure (.agg #[.int .i64 9, .int .i64 9, .slice (some ⟨b10, 0, none⟩) 2 2, .slice (some ⟨b11, 0, none⟩) 4 4, .slice none 0 0]) (by kernel_rfl) ?_
 have h1 := H.pick [1, 3, 2, 0] 4 (by decide)
 simp only [pk, nth, pkA, pkB, pkC, pkD, pkE, pkF] at h1
 refine Cl.by (by kernel_rfl) (l_handrun h1) ?_
 rintro _ w ⟨tb, kc, rfl, H⟩
 refine ⟨_, rfl, ?_⟩
 refine ⟨?_⟩
 refine BB.yes rfl ?_
 refine BB.yes rfl ?_
 refine Ix.at0 2 8 (by kernel_rfl) rfl (by decide) ?_
 refine H.ldS 0 rfl (v := .int .i64 6) (rfl) ?_
 refine BB.yes rfl ?_
 refine Ix.at0 3 8 (by kernel_rfl) rfl (by decide) ?_
 refine H.ldS 0 rfl (v := .int .i64 3) (rfl) ?_
 refine BB.yes rfl ?_
 refine Ix.at0 3 8 (by kernel_rfl) rfl (by decide) ?_
 refine H.ldS 0 rfl (v := .int .i64 0) (rfl) ?_
 refine BB.yes rfl ?_
 refine Ix.at0 4 8 (by kernel_rfl) rfl (by decide) ?_
 refine H.ldS 0 rfl (v := .int .i64 7) (rfl) ?_
 refine BB.yes rfl ?_
 refine Ix.at0 4 8 (by kernel_rfl) rfl (by decide) ?_
 refine H.ldS 0 rfl (v := .int .i64 5) (rfl) ?_
 refine BB.yes rfl ?_
 refine ret1 (fn := Tryz.f11) (.bool true) rfl (by rfl) ?_
 exact ⟨rfl, H.tl⟩
end Go.Proofs.YtcgajljbahbhdaaGreat
namespace Go.Proofs.YtcgajljbahbhdaaGreat
set_option linter.unusedVariables false
set_option linter.unusedSimpArgs false
open Go.RowKit
set_option maxRecDepth 100000
theorem checkE_draws {s : ScrM} (h : checkE s = 0) : ∀ z ∈ s.draws, 0 ≤ z ∧ z ≤ 1000 := by
 unfold checkE at h
 split at h
 ·cases h
 ·split at h
  ·cases h
  ·split at h
   ·cases h
   ·split at h
    ·cases h
    ·split at h
     ·cases h
     ·split at h
      ·cases h
      ·split at h
       ·cases h
       ·rename_i h7
        simp only [Bool.not_eq_false] at h7
        intro z hz
        have := List.all_eq_true.1 h7 z hz
        simpa [drawOk] using this
theorem r_verdictO {w : World} {F : List Piece} {lb hb crb : Nat} {s : ScrM} {x : LmM} {t m : Int} {vp vl vd chv tv : Value} {vla : Option Addr} {vlc : Nat} {n0 n1 n2 n3 n4 n5 n6 n7 : Int} {pl : List Int} (hpl : s.plan = pl) (H : SL w (row lb #[.int .i64 t, .int .i64 m, vp, vl, vd, .pointer (some ⟨hb, 0, none⟩), .pointer (some ⟨crb, 0, none⟩), chv, .int .i64 n0, .int .i64 n1, .int .i64 n2, .int .i64 n3, .int .i64 n4, .int .i64 n5, .int .i64 n6, .int .i64 n7, tv, .bool x.pan] 62 :: row hb #[.slice vla pl.length vlc, vd, .int .i64 ↑x.p, .int .i64 ↑x.d] 94 :: RCrewP crb x.crew :: F)) : Calls Tryz.prog 20 #[.pointer (some ⟨lb, 0, none⟩)] w fun o w' => o = .returned (.int .i64 (verL s x)) ∧ SL w' (row lb #[.int .i64 t, .int .i64 m, vp, vl, vd, .pointer (some ⟨hb, 0, none⟩), .pointer (some ⟨crb, 0, none⟩), chv, .int .i64 n0, .int .i64 n1, .int .i64 n2, .int .i64 n3, .int .i64 n4, .int .i64 n5, .int .i64 n6, .int .i64 n7, tv, .bool x.pan] 62 :: row hb #[.slice vla pl.length vlc, vd, .int .i64 ↑x.p, .int .i64 ↑x.d] 94 :: RCrewP crb x.crew :: F) := by
 refine calls_den (args := [_]) Tryz.func20 rfl (Nat.le_of_ble_eq_true (by kernel_rfl)) (by kernel_rfl) ?_
 refine ⟨?_⟩
 refine ⟨?_⟩
 refine H.ldi 0 rfl (v := .bool x.pan) rfl ?_
 refine BB.vr fun q1 e1 => ?_
 cases q1
 ·skip
  refine Cn.no ?_
  refine ⟨?_⟩
  refine H.ldi 0 rfl (v := .pointer (some ⟨crb, 0, none⟩)) rfl ?_
  have h1 := H.pick [2, 0, 1] 3 (by decide)
  simp only [pk, nth, pkA, pkB, pkC, pkD, pkE, pkF] at h1
  refine Cl.sl (by kernel_rfl) (q_over h1) fun w H => ?_
  replace H := H.pick [1, 2, 0] 3 (by decide)
  simp only [pk, nth, pkA, pkB, pkC, pkD, pkE, pkF] at H
  refine ⟨?_⟩
  refine BB.vr fun q2 e2 => ?_
  cases q2
  ·skip
   have h2 := bne_eq_false_iff_eq.1 e2
   refine Cn.no ?_
   refine ⟨?_⟩
   refine Drw.of [(0, true), (1, true), (2, true), (3, true), (4, true), (5, true), (6, true), (7, true), (8, true), (9, true), (10, true), (11, true), (12, true), (13, true), (14, true), (15, true)] (by kernel_rfl) mixed (fun w => SL w _) H.drew ?_
   replace H := H.drew
   refine LdC.i 0 rfl (v := .pointer (some ⟨hb, 0, none⟩)) rfl ?_
   refine LdC.i 1 rfl (v := .int .i64 ↑x.p) rfl ?_
   refine LdC.i 0 rfl (v := .pointer (some ⟨hb, 0, none⟩)) rfl ?_
   refine LdC.i 1 rfl (v := .slice vla pl.length vlc) rfl ?_
   refine BB.vr fun q3 e3 => ?_
   cases q3
   ·skip
    have h3 := of_decide_eq_false e3
    refine Cn.no ?_
    refine ⟨?_⟩
    refine ret1 (fn := Tryz.f20) (.int .i64 0) rfl (by rfl) ?_
    have hc : verL s x = 0 := by unfold verL; rw [hpl]; first | (simp [*]; done) | (simp [*]; omega)
    rw [hc]
    exact ⟨rfl, H⟩
   ·skip
    have h3 := of_decide_eq_true e3
    refine Cn.yes ?_
    refine ⟨?_⟩
    refine ret1 (fn := Tryz.f20) (.int .i64 4) rfl (by rfl) ?_
    have hc : verL s x = 4 := by unfold verL; rw [hpl]; first | (simp [*]; done) | (simp [*]; omega)
    rw [hc]
    exact ⟨rfl, H⟩
  ·skip
   have h2 := bne_iff_ne.1 e2
   refine Cn.yes ?_
   refine ⟨?_⟩
   refine ret1 (fn := Tryz.f20) (.int .i64 (overF x.crew)) rfl (by rfl) ?_
   have hc : verL s x = (overF x.crew) := by unfold verL; rw [hpl]; first | (simp [*]; done) | (simp [*]; omega)
   rw [hc]
   exact ⟨rfl, H⟩
 ·skip
  refine Cn.yes ?_
  refine ⟨?_⟩
  refine ret1 (fn := Tryz.f20) (.int .i64 3) rfl (by rfl) ?_
  have hc : verL s x = 3 := by unfold verL; rw [hpl]; first | (simp [*]; done) | (simp [*]; omega)
  rw [hc]
  exact ⟨rfl, H⟩
theorem draw_d (s : ScrM) (x : LmM) (n : Nat) : (drawL s x n).2.d ≤ max x.d s.draws.length := by
 unfold drawL
 split
 ·exact Nat.le_max_left _ _
 ·rename_i h
  have := Nat.le_max_right x.d s.draws.length
  dsimp only
  omega
theorem wakes_d (x : LmM) (g ch : Int) (ws : List Wtr) : (wakesL x g ch ws).d = x.d := by
 induction ws generalizing x with
 | nil => rfl
 | cons z a ih =>
  unfold wakesL
  rw [ih]
  split <;> rfl
theorem senders_d (x : LmM) (ws : List Wtr) : (sendersL x ws).d = x.d := by
 induction ws generalizing x with
 | nil => rfl
 | cons z a ih =>
  unfold sendersL
  split
  ·rfl
  ·exact ih _
theorem talk_d (x : LmM) (g : Int) (c : CaseM) (a : Int) : (talkL x g c a).d = x.d := by
 unfold talkL
 dsimp only
 split
 ·rfl
 ·split <;> rfl
theorem alone_d (x : LmM) (g : Int) (c : CaseM) : (aloneL x g c).d = x.d := by
 unfold aloneL
 split
 ·exact talk_d ..
 ·dsimp only
  split <;> rfl
theorem shut_d (x : LmM) (g c : Int) : (shutL x g c).d = x.d := by
 unfold shutL
 dsimp only
 split
 ·rfl
 ·split
  ·rfl
  ·rw [senders_d, wakes_d]
   rfl
theorem choose_d (s : ScrM) (x : LmM) (g : Int) (o : OpM) : (chooseL s x g o).d ≤ max x.d s.draws.length := by
 unfold chooseL
 dsimp only
 split
 ·rw [talk_d]
  exact draw_d ..
 ·split
  ·exact Nat.le_max_left _ _
  ·exact Nat.le_max_left _ _
theorem other_d (x : LmM) (g : Int) (o : OpM) : (otherL x g o).d = x.d := by
 unfold otherL
 split
 ·rfl
 ·split
  ·rfl
  ·split
   ·rfl
   ·split <;> rfl
theorem does_d (s : ScrM) (x : LmM) (g : Int) (o : OpM) : (doesL s x g o).d ≤ max x.d s.draws.length := by
 unfold doesL
 split
 ·rw [alone_d]; exact Nat.le_max_left _ _
 ·split
  ·rw [alone_d]; exact Nat.le_max_left _ _
  ·split
   ·rw [shut_d]; exact Nat.le_max_left _ _
   ·split
    ·exact choose_d ..
    ·rw [other_d]; exact Nat.le_max_left _ _
theorem step_d (s : ScrM) (x : LmM) : (stepL s x).d ≤ max x.d s.draws.length := by
 unfold stepL
 split
 ·exact Nat.le_max_left _ _
 ·split
  ·exact Nat.le_max_left _ _
  ·exact does_d s { x with p := x.p + 1 } _ _
theorem run_d (s : ScrM) : ∀ n, (runL s n).d ≤ s.draws.length
 | 0 => Nat.zero_le _
 | n + 1 => by
  have := step_d s (runL s n)
  have := run_d s n
  unfold runL
  omega
set_option maxHeartbeats 4000000 in
theorem r_run13 {w : World} {F : List Piece} {A : Piece} {pa la da : Option Addr} {pc lc dc : Nat} {t m : Int} {X : List ProgX} {pl dr : List Int} (hX : 0 < X.length → ∃ b off, pa = some ⟨b, off, none⟩ ∧ ScrA A b off X) (hL : Reader A 1 la pl.length (ints pl)) (hD : Reader A 1 da dr.length (ints dr)) (hck : checkE ⟨t, m, progsM X, pl, dr⟩ = 0) (H : SL w (A :: F)) :
  Calls Tryz.prog 13 #[.agg #[.int .i64 t, .int .i64 m, .slice pa X.length pc, .slice la pl.length lc, .slice da dr.length dc]] w fun o w' => ∃ ta tc, o = .returned (.agg #[.slice ta (runL ⟨t, m, progsM X, pl, dr⟩ (pl.length + 1)).tr.length tc, .int .i64 (verL ⟨t, m, progsM X, pl, dr⟩ (runL ⟨t, m, progsM X, pl, dr⟩ (pl.length + 1)))]) ∧ SL w' (Slc 36 8 (.slice ta (runL ⟨t, m, progsM X, pl, dr⟩ (pl.length + 1)).tr.length tc) (runL ⟨t, m, progsM X, pl, dr⟩ (pl.length + 1)).tr.length ((runL ⟨t, m, progsM X, pl, dr⟩ (pl.length + 1)).tr.flatMap Ev.cells) :: A :: F) := by
 have hr := checkE_right hck
 have hn1 : 1 ≤ X.length := by have := hr.n1; simpa [progsM] using this
 have hgp : ∀ z ∈ pl, -1 ≤ z ∧ z ≤ 1000 := fun z hz => ⟨hr.p0 z hz, hr.p1 z hz⟩
 have hgd : ∀ z ∈ dr, 0 ≤ z ∧ z ≤ 1000 := checkE_draws hck
 have hpl : pl.length ≤ 200 := hr.pl
 have hdl : dr.length ≤ 64 := hr.dl
 obtain ⟨pb, po, rfl, hXA⟩ := hX (by omega)
 refine calls_den (args := [_]) Tryz.func13 rfl (Nat.le_of_ble_eq_true (by kernel_rfl)) (by kernel_rfl) ?_
 refine ⟨?_⟩
 refine Nw.as #[.int .i64 t, .int .i64 m, .slice (some ⟨pb, po, none⟩) X.length pc, .slice la pl.length lc, .slice da dr.length dc] 25 rfl H fun b1 w H => ?_
 refine Nw.as #[.slice none 0 0, .int .i64 0] 32 rfl H fun b2 w H => ?_
 refine ⟨?_⟩
 refine H.ldi 1 rfl (v := .int .i64 t) rfl ?_
 refine H.ldi 1 rfl (v := .int .i64 m) rfl ?_
 refine H.ldi 1 rfl (v := .slice (some ⟨pb, po, none⟩) X.length pc) rfl ?_
 refine H.ldi 1 rfl (v := .slice la pl.length lc) rfl ?_
 refine H.ldi 1 rfl (v := .slice da dr.length dc) rfl ?_
 have h1 := H.pick [2, 0, 1] 3 (by decide)
 simp only [pk, nth, pkA, pkB, pkC, pkD, pkE, pkF] at h1
 refine Cl.by (by kernel_rfl) (r_new13 hX hL hD hgp hgd hpl hdl hck h1) ?_
 rintro _ w ⟨lb, rfl, H⟩
 refine ⟨_, rfl, ?_⟩
 replace H := H.pick [0, 2, 3, 1] 4 (by decide)
 simp only [pk, nth, pkA, pkB, pkC, pkD, pkE, pkF] at H
 refine ⟨?_⟩
 refine BB.no rfl ?_
 refine Cn.no ?_
 refine ⟨?_⟩
 refine ⟨?_⟩
 refine den.loop (ι := Nat) [(5, 5), (14, 22)] (by kernel_rfl) (fun j => [(5, .int .i64 ↑j)]) (fun j w => j ≤ pl.length + 1 ∧ SL w (row b1 #[.int .i64 t, .int .i64 m, .slice (some ⟨pb, po, none⟩) X.length pc, .slice la pl.length lc, .slice da dr.length dc] 25 :: row b2 #[.slice none 0 0, .int .i64 0] 32 :: RlP lb ⟨t, m, .slice (some ⟨pb, po, none⟩) X.length pc, .slice la pl.length lc, .slice da dr.length dc⟩ (runL ⟨t, m, progsM X, pl, dr⟩ j) :: A :: F)) (fun j => pl.length + 1 - j) 0 ⟨rfl, trivial⟩ ⟨Nat.zero_le _, (H.pick [2, 1, 0, 3] 4 (by decide))⟩ ?_
 rintro j s w ⟨hc, H⟩
 have h8 : j ≤ pl.length ∨ j = pl.length + 1 := by omega
 rcases h8 with hj | rfl
 ·skip
  refine ⟨?_⟩
  refine H.ldi 0 rfl (v := .slice la pl.length lc) rfl ?_
  refine BB.yes (decide_eq_true (by omega)) ?_
  refine Cn.yes ?_
  refine ⟨?_⟩
  refine ⟨?_⟩
  have hk := Lk.run (s := ⟨t, m, progsM X, pl, dr⟩) hr.ok (np := X.length) (by unfold progsM; rw [List.length_map]) hn1 j
  have hd : (runL ⟨t, m, progsM X, pl, dr⟩ j).d ≤ 1000 := Nat.le_trans (run_d ⟨t, m, progsM X, pl, dr⟩ j) (show dr.length ≤ 1000 by omega)
  have h1 := H.pick [2, 3, 0, 1] 4 (by decide)
  simp only [pk, nth, pkA, pkB, pkC, pkD, pkE, pkF] at h1
  refine Cl.sl (by kernel_rfl) (r_step (s := ⟨t, m, progsM X, pl, dr⟩) (pl := pl) (dr := dr) (np := X.length) (k := j * 1100) rfl hXA rfl hL (fun z hz => (hgp z hz).1) rfl hD (fun z hz => (hgd z hz).1) (by unfold progsM; rw [List.length_map]) hn1 hr.ok (by omega) hd hk (by omega) h1) fun w H => ?_
  replace H := H.pick [2, 3, 0, 1] 4 (by decide)
  simp only [pk, nth, pkA, pkB, pkC, pkD, pkE, pkF] at H
  refine BB.k ?_
  refine ⟨?_⟩
  refine IW.by (wrap_id (n := ↑j + 1) (by omega) (by omega)) ?_
  exact ⟨j + 1, ⟨rfl, trivial⟩, ⟨(show j + 1 ≤ pl.length + 1 by omega), H⟩, (show pl.length + 1 - (j + 1) < pl.length + 1 - j by omega)⟩
 ·skip
  refine ⟨?_⟩
  refine H.ldi 0 rfl (v := .slice la pl.length lc) rfl ?_
  refine BB.no (decide_eq_false (by omega)) ?_
  refine Cn.no ?_
  have hk := Lk.run (s := ⟨t, m, progsM X, pl, dr⟩) hr.ok (np := X.length) (by unfold progsM; rw [List.length_map]) hn1 (pl.length + 1)
  have hob : ∃ x, runL ⟨t, m, progsM X, pl, dr⟩ (pl.length + 1) = x := ⟨_, rfl⟩
  obtain ⟨x, hx⟩ := hob
  rw [hx] at hk H
  rw [hx]
  have hob := eight hk.n8
  obtain ⟨n0, n1, n2, n3, n4, n5, n6, n7, hn⟩ := hob
  have H0 := H.pick [2, 0, 1, 3] 4 (by decide)
  simp only [pk, nth, pkA, pkB, pkC, pkD, pkE, pkF] at H0
  replace H := H0
  have hob := rl_open (x := x) hn H
  obtain ⟨hb, crb, cha, chc, ta, tc, ps, hl, H⟩ := hob
  refine ⟨?_⟩
  refine Drw.of [(0, true), (1, true), (2, true), (3, true), (4, true), (5, false), (6, true), (7, false)] (by kernel_rfl) mixed (fun w => SL w _) H.drew ?_
  replace H := H.drew
  refine LdC.i 0 rfl (v := .slice ta x.tr.length tc) rfl ?_
  have h1 := H
  refine Cl.sl (by kernel_rfl) (r_verdictO (s := ⟨t, m, progsM X, pl, dr⟩) (x := x) rfl h1) fun w H => ?_
  refine ⟨.inr H, ?_⟩
  refine MnC.pure (.agg #[.slice ta x.tr.length tc, .int .i64 (verL ⟨t, m, progsM X, pl, dr⟩ x)]) (fun _ => by kernel_rfl) ?_
  refine H.st7 (cs' := #[.slice ta x.tr.length tc, .int .i64 0]) rfl rfl rfl fun w H => ?_
  refine H.st7 (cs' := #[.slice ta x.tr.length tc, .int .i64 (verL ⟨t, m, progsM X, pl, dr⟩ x)]) rfl rfl rfl fun w H => ?_
  refine ⟨.inl rfl, ?_⟩
  refine retC (fn := Tryz.f13) H 7 rfl rfl (by rfl) (by kernel_rfl) (by kernel_rfl) ?_
  exact ⟨_, _, rfl, H.pick [5, 8] 9 (by decide)⟩
theorem r_run13_no {w : World} {F : List Piece} {A : Piece} {pa la da : Option Addr} {pc lc dc : Nat} {t m : Int} {X : List ProgX} {pl dr : List Int} (hX : 0 < X.length → ∃ b off, pa = some ⟨b, off, none⟩ ∧ ScrA A b off X) (hL : Reader A 1 la pl.length (ints pl)) (hD : Reader A 1 da dr.length (ints dr)) (hck : checkE ⟨t, m, progsM X, pl, dr⟩ ≠ 0) (H : SL w (A :: F)) :
  Calls Tryz.prog 13 #[.agg #[.int .i64 t, .int .i64 m, .slice pa X.length pc, .slice la pl.length lc, .slice da dr.length dc]] w fun o w' => o = .returned (.agg #[.slice none 0 0, .int .i64 0]) ∧ SL w' (A :: F) := by
 refine calls_den (args := [_]) Tryz.func13 rfl (Nat.le_of_ble_eq_true (by kernel_rfl)) (by kernel_rfl) ?_
 refine ⟨?_⟩
 refine Nw.as #[.int .i64 t, .int .i64 m, .slice pa X.length pc, .slice la pl.length lc, .slice da dr.length dc] 25 rfl H fun b1 w H => ?_
 refine Nw.as #[.slice none 0 0, .int .i64 0] 32 rfl H fun b2 w H => ?_
 refine ⟨?_⟩
 refine H.ldi 1 rfl (v := .int .i64 t) rfl ?_
 refine H.ldi 1 rfl (v := .int .i64 m) rfl ?_
 refine H.ldi 1 rfl (v := .slice pa X.length pc) rfl ?_
 refine H.ldi 1 rfl (v := .slice la pl.length lc) rfl ?_
 refine H.ldi 1 rfl (v := .slice da dr.length dc) rfl ?_
 have h1 := H.pick [2, 0, 1] 3 (by decide)
 simp only [pk, nth, pkA, pkB, pkC, pkD, pkE, pkF] at h1
 refine Cl.sl (by kernel_rfl) (r_new13_no hX hL hD hck h1) fun w H => ?_
 replace H := H.pick [1, 2, 0] 3 (by decide)
 simp only [pk, nth, pkA, pkB, pkC, pkD, pkE, pkF] at H
 refine ⟨?_⟩
 refine BB.yes (bne_iff_ne.2 hck) ?_
 refine Cn.yes ?_
 refine ⟨?_⟩
 refine Mn.pure (.agg #[.slice none 0 0, .int .i64 0]) (by kernel_rfl) ?_
 refine H.st0 (cs' := #[.slice none 0 0, .int .i64 0]) rfl rfl rfl fun w H => ?_
 refine H.st0 (cs' := #[.slice none 0 0, .int .i64 0]) rfl rfl rfl fun w H => ?_
 refine retC (fn := Tryz.f13) H 0 rfl rfl (by rfl) (by kernel_rfl) (by kernel_rfl) ?_
 exact ⟨rfl, H.pick [2] 3 (by decide)⟩
end Go.Proofs.YtcgajljbahbhdaaGreat
namespace Go.Proofs.YtcgajljbahbhdaaGreat
set_option linter.unusedVariables false
set_option linter.unusedSimpArgs false
open Go.RowKit
set_option maxRecDepth 100000
theorem l_events_nil {w : World} {F : List Piece} (H : SL w F) : Calls Tryz.prog 14 #[.slice none 0 0, .slice none 0 0] w fun o w' => o = .returned (.bool true) ∧ SL w' F := by
 refine (l_events (l := []) (xa := none) (ya := none) (xc := 0) (yc := 0) (Nat.zero_le _) Reader.slc Reader.slc (SL.slcNil 36 8 (SL.slcNil 36 8 H))).mono ?_
 rintro o w' ⟨rfl, H⟩
 exact ⟨rfl, H.tl.tl⟩
theorem run_len {t m : Int} {X : List ProgX} {pl dr : List Int} (hck : checkE ⟨t, m, progsM X, pl, dr⟩ = 0) : (runL ⟨t, m, progsM X, pl, dr⟩ (pl.length + 1)).tr.length ≤ 1000000 := by
 have hr := checkE_right hck
 have hn1 : 1 ≤ X.length := by have := hr.n1; simpa [progsM] using this
 have hpl : pl.length ≤ 200 := hr.pl
 have := (Lk.run (s := ⟨t, m, progsM X, pl, dr⟩) hr.ok (np := X.length) (by unfold progsM; rw [List.length_map]) hn1 (pl.length + 1)).tr
 omega
set_option maxHeartbeats 2000000 in
theorem l_runs {w : World} {F : List Piece} {A : Piece} {pa la da : Option Addr} {pc lc dc : Nat} {t m : Int} {X : List ProgX} {pl dr : List Int} (hX : 0 < X.length → ∃ b off, pa = some ⟨b, off, none⟩ ∧ ScrA A b off X) (hL : Reader A 1 la pl.length (ints pl)) (hD : Reader A 1 da dr.length (ints dr)) (H : SL w (A :: F)) : Calls Tryz.prog 3 #[.agg #[.int .i64 t, .int .i64 m, .slice pa X.length pc, .slice la pl.length lc, .slice da dr.length dc]] w fun o w' => o = .returned (.bool true) ∧ SL w' (A :: F) := by
 by_cases hck : checkE ⟨t, m, progsM X, pl, dr⟩ = 0
 ·skip
  refine calls_den (args := [_]) Tryz.func3 rfl (Nat.le_of_ble_eq_true (by kernel_rfl)) (by kernel_rfl) ?_
  refine ⟨?_⟩
  refine Nw.as #[.int .i64 t, .int .i64 m, .slice pa X.length pc, .slice la pl.length lc, .slice da dr.length dc] 25 rfl H fun b1 w H => ?_
  refine ⟨?_⟩
  refine H.ldi 0 rfl (v := .int .i64 t) rfl ?_
  refine H.ldi 0 rfl (v := .int .i64 m) rfl ?_
  refine H.ldi 0 rfl (v := .slice pa X.length pc) rfl ?_
  refine H.ldi 0 rfl (v := .slice la pl.length lc) rfl ?_
  refine H.ldi 0 rfl (v := .slice da dr.length dc) rfl ?_
  have h1 := H.pick [1, 0] 2 (by decide)
  simp only [pk, nth, pkA, pkB, pkC, pkD, pkE, pkF] at h1
  refine Cl.by (by kernel_rfl) (l_large hX hL hD h1) ?_
  rintro _ w ⟨bl, rfl, H⟩
  refine ⟨_, rfl, ?_⟩
  replace H := H.pick [1, 0] 2 (by decide)
  simp only [pk, nth, pkA, pkB, pkC, pkD, pkE, pkF] at H
  refine BB.k ?_
  cases bl
  ·skip
   refine Cn.no ?_
   refine ⟨?_⟩
   refine H.ldi 0 rfl (v := .int .i64 t) rfl ?_
   refine H.ldi 0 rfl (v := .int .i64 m) rfl ?_
   refine H.ldi 0 rfl (v := .slice pa X.length pc) rfl ?_
   refine H.ldi 0 rfl (v := .slice la pl.length lc) rfl ?_
   refine H.ldi 0 rfl (v := .slice da dr.length dc) rfl ?_
   have h1 := H.pick [1, 0] 2 (by decide)
   simp only [pk, nth, pkA, pkB, pkC, pkD, pkE, pkF] at h1
   refine Cl.by (by kernel_rfl) (p_run hX hL hD hck h1) ?_
   rintro _ w ⟨ka, kc, rfl, H⟩
   refine ⟨_, rfl, ?_⟩
   replace H := H.pick [0, 2, 1] 3 (by decide)
   simp only [pk, nth, pkA, pkB, pkC, pkD, pkE, pkF] at H
   refine ⟨?_⟩
   refine H.ldi 1 rfl (v := .int .i64 t) rfl ?_
   refine H.ldi 1 rfl (v := .int .i64 m) rfl ?_
   refine H.ldi 1 rfl (v := .slice pa X.length pc) rfl ?_
   refine H.ldi 1 rfl (v := .slice la pl.length lc) rfl ?_
   refine H.ldi 1 rfl (v := .slice da dr.length dc) rfl ?_
   have h1 := H.pick [2, 0, 1] 3 (by decide)
   simp only [pk, nth, pkA, pkB, pkC, pkD, pkE, pkF] at h1
   refine Cl.by (by kernel_rfl) (r_run13 hX hL hD hck h1) ?_
   rintro _ w ⟨ta, tc, rfl, H⟩
   refine ⟨_, rfl, ?_⟩
   replace H := H.pick [0, 2, 3, 1] 4 (by decide)
   simp only [pk, nth, pkA, pkB, pkC, pkD, pkE, pkF] at H
   refine Nw.as #[.slice none 0 0, .int .i64 0] 32 rfl H fun b5 w H => ?_
   refine H.st0 (cs' := #[.slice ta ((runL ⟨t, m, progsM X, pl, dr⟩ (pl.length + 1)).tr.length) tc, .int .i64 0]) rfl rfl rfl fun w H => ?_
   refine H.st0 (cs' := #[.slice ta ((runL ⟨t, m, progsM X, pl, dr⟩ (pl.length + 1)).tr.length) tc, .int .i64 (verL ⟨t, m, progsM X, pl, dr⟩ (runL ⟨t, m, progsM X, pl, dr⟩ (pl.length + 1)))]) rfl rfl rfl fun w H => ?_
   refine ⟨?_⟩
   refine H.ldi 0 rfl (v := .slice ta ((runL ⟨t, m, progsM X, pl, dr⟩ (pl.length + 1)).tr.length) tc) rfl ?_
   have h1 := H.pick [2, 1, 0, 3, 4] 5 (by decide)
   simp only [pk, nth, pkA, pkB, pkC, pkD, pkE, pkF] at h1
   refine Cl.sl (by kernel_rfl) (l_events (run_len hck) Reader.slc Reader.slc h1) fun w H => ?_
   replace H := H.pick [2, 1, 0, 3, 4] 5 (by decide)
   simp only [pk, nth, pkA, pkB, pkC, pkD, pkE, pkF] at H
   refine BB.yes rfl ?_
   refine H.ldi 0 rfl (v := .int .i64 (verL ⟨t, m, progsM X, pl, dr⟩ (runL ⟨t, m, progsM X, pl, dr⟩ (pl.length + 1)))) rfl ?_
   refine BB.yes (beq_self_eq_true _) ?_
   refine Cl.sl (by kernel_rfl) (l_hands H) fun w H => ?_
   refine BB.yes rfl ?_
   refine ret1 (fn := Tryz.f3) (.bool true) rfl (by rfl) ?_
   exact ⟨rfl, H.pick [4] 5 (by decide)⟩
  ·skip
   refine Cn.yes ?_
   refine ⟨?_⟩
   refine Cl.sl (by kernel_rfl) (l_hands H) fun w H => ?_
   refine BB.yes rfl ?_
   refine ret1 (fn := Tryz.f3) (.bool true) rfl (by rfl) ?_
   exact ⟨rfl, H.pick [1] 2 (by decide)⟩
 ·skip
  refine calls_den (args := [_]) Tryz.func3 rfl (Nat.le_of_ble_eq_true (by kernel_rfl)) (by kernel_rfl) ?_
  refine ⟨?_⟩
  refine Nw.as #[.int .i64 t, .int .i64 m, .slice pa X.length pc, .slice la pl.length lc, .slice da dr.length dc] 25 rfl H fun b1 w H => ?_
  refine ⟨?_⟩
  refine H.ldi 0 rfl (v := .int .i64 t) rfl ?_
  refine H.ldi 0 rfl (v := .int .i64 m) rfl ?_
  refine H.ldi 0 rfl (v := .slice pa X.length pc) rfl ?_
  refine H.ldi 0 rfl (v := .slice la pl.length lc) rfl ?_
  refine H.ldi 0 rfl (v := .slice da dr.length dc) rfl ?_
  have h1 := H.pick [1, 0] 2 (by decide)
  simp only [pk, nth, pkA, pkB, pkC, pkD, pkE, pkF] at h1
  refine Cl.by (by kernel_rfl) (l_large hX hL hD h1) ?_
  rintro _ w ⟨bl, rfl, H⟩
  refine ⟨_, rfl, ?_⟩
  replace H := H.pick [1, 0] 2 (by decide)
  simp only [pk, nth, pkA, pkB, pkC, pkD, pkE, pkF] at H
  refine BB.k ?_
  cases bl
  ·skip
   refine Cn.no ?_
   refine ⟨?_⟩
   refine H.ldi 0 rfl (v := .int .i64 t) rfl ?_
   refine H.ldi 0 rfl (v := .int .i64 m) rfl ?_
   refine H.ldi 0 rfl (v := .slice pa X.length pc) rfl ?_
   refine H.ldi 0 rfl (v := .slice la pl.length lc) rfl ?_
   refine H.ldi 0 rfl (v := .slice da dr.length dc) rfl ?_
   have h1 := H.pick [1, 0] 2 (by decide)
   simp only [pk, nth, pkA, pkB, pkC, pkD, pkE, pkF] at h1
   refine Cl.sl (by kernel_rfl) (p_run_no hX hL hD hck h1) fun w H => ?_
   replace H := H.pick [1, 0] 2 (by decide)
   simp only [pk, nth, pkA, pkB, pkC, pkD, pkE, pkF] at H
   refine ⟨?_⟩
   refine H.ldi 0 rfl (v := .int .i64 t) rfl ?_
   refine H.ldi 0 rfl (v := .int .i64 m) rfl ?_
   refine H.ldi 0 rfl (v := .slice pa X.length pc) rfl ?_
   refine H.ldi 0 rfl (v := .slice la pl.length lc) rfl ?_
   refine H.ldi 0 rfl (v := .slice da dr.length dc) rfl ?_
   have h1 := H.pick [1, 0] 2 (by decide)
   simp only [pk, nth, pkA, pkB, pkC, pkD, pkE, pkF] at h1
   refine Cl.sl (by kernel_rfl) (r_run13_no hX hL hD hck h1) fun w H => ?_
   replace H := H.pick [1, 0] 2 (by decide)
   simp only [pk, nth, pkA, pkB, pkC, pkD, pkE, pkF] at H
   refine Nw.as #[.slice none 0 0, .int .i64 0] 32 rfl H fun b5 w H => ?_
   refine H.st0 (cs' := #[.slice none 0 0, .int .i64 0]) rfl rfl rfl fun w H => ?_
   refine H.st0 (cs' := #[.slice none 0 0, .int .i64 0]) rfl rfl rfl fun w H => ?_
   refine ⟨?_⟩
   refine H.ldi 0 rfl (v := .slice none 0 0) rfl ?_
   refine Cl.sl (by kernel_rfl) (l_events_nil H) fun w H => ?_
   refine BB.yes rfl ?_
   refine H.ldi 0 rfl (v := .int .i64 0) rfl ?_
   refine BB.yes rfl ?_
   refine Cl.sl (by kernel_rfl) (l_hands H) fun w H => ?_
   refine BB.yes rfl ?_
   refine ret1 (fn := Tryz.f3) (.bool true) rfl (by rfl) ?_
   exact ⟨rfl, H.pick [2] 3 (by decide)⟩
  ·skip
   refine Cn.yes ?_
   refine ⟨?_⟩
   refine Cl.sl (by kernel_rfl) (l_hands H) fun w H => ?_
   refine BB.yes rfl ?_
   refine ret1 (fn := Tryz.f3) (.bool true) rfl (by rfl) ?_
   exact ⟨rfl, H.pick [1] 2 (by decide)⟩
theorem loomRuns_walk {w : World} {v : Value} {s : ScrX} (y : ScrIn w v s) : Calls Tryz.prog 3 #[v] w fun e w' => e = .returned (.bool true) ∧ Frm Nil w w' := by
 have hv := y.val
 subst hv
 refine (l_runs (F := []) (fun h => Old.scr y.progs h) (Old.rd y.plan) (Old.rd y.draws) (SL.start w)).mono ?_
 rintro e w' ⟨rfl, H⟩
 exact ⟨rfl, H.old⟩
end Go.Proofs.YtcgajljbahbhdaaGreat
