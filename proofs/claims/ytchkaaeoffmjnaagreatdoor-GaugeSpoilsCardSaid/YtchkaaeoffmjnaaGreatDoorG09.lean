/- Texts of the proof, several in one file: LoomX7, LoomW, LoomY0, LoomB1. -/
import Derived.Test.YtchkaaeoffmjnaaGreatDoorG08
import Derived.Test.YtchkaaeoffmjnaaGreatDoorG07
import Derived.Test.YtchkaaeoffmjnaaGreatDoorG03
namespace Go.Proofs.YtchkaaeoffmjnaaGreatDoor
set_option linter.unusedVariables false
set_option linter.unusedSimpArgs false
open Go.RowKit
theorem wakes_p (x : LmM) (g ch : Int) (ws : List Wtr) : (wakesL x g ch ws).p = x.p := by
 induction ws generalizing x with
 | nil => rfl
 | cons z a ih =>
  unfold wakesL
  rw [ih]
  split <;> rfl
theorem senders_p (x : LmM) (ws : List Wtr) : (sendersL x ws).p = x.p := by
 induction ws generalizing x with
 | nil => rfl
 | cons z a ih =>
  unfold sendersL
  split
  ·rfl
  ·exact ih _
theorem talk_p (x : LmM) (g : Int) (c : CaseM) (a : Int) : (talkL x g c a).p = x.p := by
 unfold talkL
 dsimp only
 split
 ·rfl
 ·split <;> rfl
theorem alone_p (x : LmM) (g : Int) (c : CaseM) : (aloneL x g c).p = x.p := by
 unfold aloneL
 split
 ·exact talk_p ..
 ·dsimp only
  split <;> rfl
theorem shut_p (x : LmM) (g c : Int) : (shutL x g c).p = x.p := by
 unfold shutL
 dsimp only
 split
 ·rfl
 ·split
  ·rfl
  ·rw [senders_p, wakes_p]
   rfl
theorem choose_p (s : ScrM) (x : LmM) (g : Int) (o : OpM) : (chooseL s x g o).p = x.p := by
 unfold chooseL
 dsimp only
 split
 ·rw [talk_p, drawL_I]
 ·split <;> rfl
theorem other_p (x : LmM) (g : Int) (o : OpM) : (otherL x g o).p = x.p := by
 unfold otherL
 split
 ·rfl
 ·split
  ·rfl
  ·split
   ·rfl
   ·split <;> rfl
theorem does_p (s : ScrM) (x : LmM) (g : Int) (o : OpM) : (doesL s x g o).p = x.p := by
 unfold doesL
 split
 ·rw [alone_p]
 ·split
  ·rw [alone_p]
  ·split
   ·rw [shut_p]
   ·split
    ·rw [choose_p]
    ·rw [other_p]
theorem checkE_drawsB {s : ScrM} (h : checkE s = 0) : ∀ z ∈ s.draws, 0 ≤ z ∧ z ≤ 1000 := by
 unfold checkE at h
 split at h
 ·cases h
 ·split at h
  ·cases h
  ·split at h
   ·cases h
   ·split at h
    ·cases h
    ·split at h
     ·cases h
     ·split at h
      ·cases h
      ·split at h
       ·cases h
       ·rename_i h7
        simp only [Bool.not_eq_false] at h7
        intro z hz
        have := List.all_eq_true.1 h7 z hz
        simpa [drawOk] using this
end Go.Proofs.YtchkaaeoffmjnaaGreatDoor
namespace Go.Proofs.YtchkaaeoffmjnaaGreatDoor
set_option linter.unusedVariables false
set_option linter.unusedSimpArgs false
open Go.RowKit
set_option maxRecDepth 100000
theorem wait_nil {w : World} {F : List Piece} (s : Bool) (m : Wtr) (H : SL w F) : Calls Tryz.prog 160 #[.pointer none, .bool s, m.agg] w fun e w' => (∃ r, e = .returned (.int .i64 r)) ∧ SL w' F := by
 obtain ⟨mg, mc, mv⟩ := m
 refine calls_den (args := [_, _, _]) Tryz.func160 rfl (Nat.le_of_ble_eq_true (by kernel_rfl)) (by kernel_rfl) ?_
 refine ⟨?_⟩
 refine Nw.as #[.int .i64 mg, .int .i64 mc, .int .i64 mv] 225 rfl H fun b5 w H => ?_
 refine ⟨?_⟩
 refine ⟨?_⟩
 refine BB.yes rfl ?_
 refine Cn.yes ?_
 refine ⟨?_⟩
 refine Drw.oft (.calm 1 (.act 0 false (.act 2 true (.pure 3 .nil)))) (by kernel_rfl) mixed (fun w => SL w _) H.drew ?_
 replace H := H.drew
 refine LdC.i 0 rfl (v := .int .i64 mg) rfl ?_
 refine LdC.i 0 rfl (v := .int .i64 mc) rfl ?_
 refine LdC.i 0 rfl (v := .int .i64 mv) rfl ?_
 refine Cl.by (by kernel_rfl) (sl_pew_new H) ?_
 rintro _ w ⟨p, rfl, H⟩
 refine ⟨_, rfl, ?_⟩
 refine ⟨.inr (H.pick [1] 2 (by decide)), ?_⟩
 refine Cl.sl (by kernel_rfl) (sl_pew_add (L := []) (Nat.zero_le _) ⟨mg, mc, mv⟩ H) fun w H => ?_
 refine ⟨.inl rfl, ?_⟩
 refine ret1 (fn := Tryz.f160) (.int .i64 ((addF [] ⟨mg, mc, mv⟩).1)) rfl (by rfl) ?_
 exact ⟨⟨_, rfl⟩, H.pick [] 2 (by decide)⟩
end Go.Proofs.YtchkaaeoffmjnaaGreatDoor
namespace Go.Proofs.YtchkaaeoffmjnaaGreatDoor
set_option linter.unusedVariables false
set_option linter.unusedSimpArgs false
open Go.RowKit
section
variable {w : World} {F : List Piece} {c : Nat} {L : List One} {g pr : Int}
theorem p_state (g : Int) (H : SL w (CrewP c L :: F)) : Calls Tryz.prog 163 #[.pointer (some ⟨c, 0, none⟩), .int .i64 g] w fun e w' => e = .returned (.tuple #[.int .i64 (stateF L g).1, .bool (stateF L g).2]) ∧ SL w' (CrewP c L :: F) := by
 obtain ⟨S, h⟩ := OnesP.at H
 refine (crew_state h g).mono ?_
 rintro e w' ⟨rfl, rfl⟩
 exact ⟨rfl, H⟩
theorem p_at (g : Int) (H : SL w (CrewP c L :: F)) : Calls Tryz.prog 153 #[.pointer (some ⟨c, 0, none⟩), .int .i64 g] w fun e w' => e = .returned (.tuple #[.int .i64 (atF L g).1, .int .i64 (atF L g).2.1, .bool (atF L g).2.2]) ∧ SL w' (CrewP c L :: F) := by
 obtain ⟨S, h⟩ := OnesP.at H
 refine (crew_at h g).mono ?_
 rintro e w' ⟨rfl, n, rfl⟩
 exact ⟨rfl, H.drewN n⟩
theorem p_len (H : SL w (CrewP c L :: F)) : Calls Tryz.prog 65 #[.pointer (some ⟨c, 0, none⟩)] w fun e w' => e = .returned (.int .i64 L.length) ∧ SL w' (CrewP c L :: F) := by
 obtain ⟨S, h⟩ := OnesP.at H
 refine (crew_len h).mono ?_
 rintro e w' ⟨rfl, rfl⟩
 exact ⟨rfl, H⟩
theorem p_able (hL : L.length ≤ 512) (H : SL w (CrewP c L :: F)) : Calls Tryz.prog 101 #[.pointer (some ⟨c, 0, none⟩)] w fun e w' => ∃ a cap, e = .returned (.slice a (ableF L).length cap) ∧ Rd w' 1 a (ableF L).length (ints (ableF L)) ∧ SL w' (CrewP c L :: F) := by
 obtain ⟨S, h⟩ := OnesP.at H
 refine (crew_able h hL).mono ?_
 rintro e w' ⟨a, cap, n, rfl, h1, h2⟩
 have hn := h1.int
 subst hn
 exact ⟨a, cap, rfl, h1, H.later h2⟩
theorem p_new (H : SL w F) : Calls Tryz.prog 48 #[] w fun e w' => ∃ c, e = .returned (.pointer (some ⟨c, 0, none⟩)) ∧ SL w' (CrewP c [] :: F) := by
 refine (crew_new w).mono ?_
 rintro e w' ⟨c, rfl, h1, f1⟩
 exact ⟨c, rfl, H.new (M := [CrewP c []]) f1 ⟨_, fun _ h => h, h1, trivial⟩⟩
end
def lmCells (t m : Int) (vp vl vd : Value) (cb crb : Nat) (pnv : Value) (name : List Int) (alv tv : Value) (pan : Bool) : Array Value :=
 ([.int .i64 t, .int .i64 m, vp, vl, vd, .pointer (some ⟨cb, 0, none⟩), .pointer (some ⟨crb, 0, none⟩), pnv] ++ (ints name ++ [alv, tv, .bool pan])).toArray
def LmP (lb : Nat) (s : ScrM) (v : ScrV) (x : LmM) : Piece := exP fun (y : (Nat × Nat) × (Value × Value × Value) × List Nat) => andP (y.2.2.length = x.M.length ∧ x.name.length = 8)
 (all [row lb (lmCells v.t v.m v.vp v.vl v.vd y.1.1 y.1.2 y.2.1.1 x.name y.2.1.2.1 y.2.1.2.2 x.pan) 97, CurP y.1.1 (s.plan.drop x.p) (s.draws.drop x.d), CrewP y.1.2 x.crew,
  Slc 176 1 y.2.1.1 8 (pcs (gsN x.name y.2.2)), Slc 176 1 y.2.1.2.1 y.2.2.length (pcs (y.2.2.map some)), PsP (y.2.2.map some) x.M, Slc 53 8 y.2.1.2.2 x.tr.length (x.tr.flatMap Ev.cells)])
theorem LmP.iff {w : World} {F : List Piece} {lb : Nat} {s : ScrM} {v : ScrV} {x : LmM} : SL w (LmP lb s v x :: F) ↔ ∃ (cb crb : Nat) (pnv alv tv : Value) (ps : List Nat), (ps.length = x.M.length ∧ x.name.length = 8) ∧
  SL w (row lb (lmCells v.t v.m v.vp v.vl v.vd cb crb pnv x.name alv tv x.pan) 97 :: CurP cb (s.plan.drop x.p) (s.draws.drop x.d) :: CrewP crb x.crew ::
   Slc 176 1 pnv 8 (pcs (gsN x.name ps)) :: Slc 176 1 alv ps.length (pcs (ps.map some)) :: PsP (ps.map some) x.M :: Slc 53 8 tv x.tr.length (x.tr.flatMap Ev.cells) :: F) := by
 constructor
 ·intro h
  obtain ⟨⟨⟨cb, crb⟩, ⟨pnv, alv, tv⟩, ps⟩, h⟩ := SL.exP.1 h
  obtain ⟨h1, h⟩ := SL.andP.1 h
  exact ⟨cb, crb, pnv, alv, tv, ps, h1, SL.all.1 h⟩
 ·rintro ⟨cb, crb, pnv, alv, tv, ps, h1, h⟩
  exact SL.exP.2 ⟨((cb, crb), (pnv, alv, tv), ps), SL.andP.2 ⟨h1, SL.all.2 h⟩⟩
section
variable {w : World} {F : List Piece} {lb : Nat} {s : ScrM} {x : LmM} {n0 n1 n2 n3 n4 n5 n6 n7 : Int} {t m : Int} {vp vl vd : Value}
theorem lm_open (hn : x.name = [n0, n1, n2, n3, n4, n5, n6, n7]) (H : SL w (LmP lb s ⟨t, m, vp, vl, vd⟩ x :: F)) : ∃ (cb crb pn pc : Nat) (ala : Option Addr) (alc : Nat) (ta : Option Addr) (tc : Nat) (ps : List Nat), ps.length = x.M.length ∧
  SL w (row lb #[.int .i64 t, .int .i64 m, vp, vl, vd, .pointer (some ⟨cb, 0, none⟩), .pointer (some ⟨crb, 0, none⟩), .slice (some ⟨pn, 0, none⟩) 8 pc, .int .i64 n0, .int .i64 n1, .int .i64 n2, .int .i64 n3, .int .i64 n4, .int .i64 n5, .int .i64 n6, .int .i64 n7, .slice ala x.M.length alc, .slice ta x.tr.length tc, .bool x.pan] 97 ::
   CurP cb (s.plan.drop x.p) (s.draws.drop x.d) :: CrewP crb x.crew ::
   Slc 176 1 (.slice (some ⟨pn, 0, none⟩) 8 pc) 8 (pcs (gsN x.name ps)) :: Slc 176 1 (.slice ala x.M.length alc) x.M.length (pcs (ps.map some)) :: PsP (ps.map some) x.M :: Slc 53 8 (.slice ta x.tr.length tc) x.tr.length (x.tr.flatMap Ev.cells) :: F) := by
 obtain ⟨cb, crb, pnv, alv, tv, ps, ⟨hl, h8⟩, H⟩ := LmP.iff.1 H
 obtain ⟨ta, tc, rfl⟩ := SL.slcForm H.up6
 obtain ⟨ala, alc, rfl⟩ := SL.slcForm H.up4
 obtain ⟨pa, pc, rfl⟩ := SL.slcForm H.up3
 obtain ⟨pn, rfl⟩ := SL.slcAddr H.up3 (by decide)
 refine ⟨cb, crb, pn, pc, ala, alc, ta, tc, ps, hl, ?_⟩
 rw [hl] at H
 have e : lmCells t m vp vl vd cb crb (.slice (some ⟨pn, 0, none⟩) 8 pc) x.name (.slice ala x.M.length alc) (.slice ta x.tr.length tc) x.pan = #[.int .i64 t, .int .i64 m, vp, vl, vd, .pointer (some ⟨cb, 0, none⟩), .pointer (some ⟨crb, 0, none⟩), .slice (some ⟨pn, 0, none⟩) 8 pc, .int .i64 n0, .int .i64 n1, .int .i64 n2, .int .i64 n3, .int .i64 n4, .int .i64 n5, .int .i64 n6, .int .i64 n7, .slice ala x.M.length alc, .slice ta x.tr.length tc, .bool x.pan] := by rw [hn]; rfl
 rw [← e]
 exact H
theorem lm_shut {cb crb nc : Nat} {pnv alv tv : Value} {ps : List Nat} (hl : ps.length = nc) (hnc : nc = x.M.length) (hn : x.name = [n0, n1, n2, n3, n4, n5, n6, n7]) (H : SL w (row lb #[.int .i64 t, .int .i64 m, vp, vl, vd, .pointer (some ⟨cb, 0, none⟩), .pointer (some ⟨crb, 0, none⟩), pnv, .int .i64 n0, .int .i64 n1, .int .i64 n2, .int .i64 n3, .int .i64 n4, .int .i64 n5, .int .i64 n6, .int .i64 n7, alv, tv, .bool x.pan] 97 ::
   CurP cb (s.plan.drop x.p) (s.draws.drop x.d) :: CrewP crb x.crew ::
   Slc 176 1 pnv 8 (pcs (gsN x.name ps)) :: Slc 176 1 alv nc (pcs (ps.map some)) :: PsP (ps.map some) x.M :: Slc 53 8 tv x.tr.length (x.tr.flatMap Ev.cells) :: F)) : SL w (LmP lb s ⟨t, m, vp, vl, vd⟩ x :: F) := by
 subst hnc
 refine LmP.iff.2 ⟨cb, crb, pnv, alv, tv, ps, ⟨hl, by rw [hn]; rfl⟩, ?_⟩
 have e : lmCells t m vp vl vd cb crb pnv x.name alv tv x.pan = #[.int .i64 t, .int .i64 m, vp, vl, vd, .pointer (some ⟨cb, 0, none⟩), .pointer (some ⟨crb, 0, none⟩), pnv, .int .i64 n0, .int .i64 n1, .int .i64 n2, .int .i64 n3, .int .i64 n4, .int .i64 n5, .int .i64 n6, .int .i64 n7, alv, tv, .bool x.pan] := by rw [hn]; rfl
 rw [hl, e]
 exact H
end
/-- A name's cell. -/
theorem name_cell9 {n0 n1 n2 n3 n4 n5 n6 n7 : Int} {x : LmM} {a0 a1 a2 a3 a4 a5 a6 a7 av tv pv : Value} (hn : x.name = [n0, n1, n2, n3, n4, n5, n6, n7]) (j : Nat) (hj : j < 8) :
  #[a0, a1, a2, a3, a4, a5, a6, a7, .int .i64 n0, .int .i64 n1, .int .i64 n2, .int .i64 n3, .int .i64 n4, .int .i64 n5, .int .i64 n6, .int .i64 n7, av, tv, pv][8 + j * 1]? = some (.int .i64 (numL x (j : Int))) := by
 unfold numL
 rw [hn, Int.toNat_natCast]
 match j, hj with
 | 0, _ | 1, _ | 2, _ | 3, _ | 4, _ | 5, _ | 6, _ | 7, _ => rfl
theorem name_set9 {n0 n1 n2 n3 n4 n5 n6 n7 v : Int} {x : LmM} (hn : x.name = [n0, n1, n2, n3, n4, n5, n6, n7]) (j : Nat) (hj : j < 8) : ∃ m0 m1 m2 m3 m4 m5 m6 m7, x.name.set j v = [m0, m1, m2, m3, m4, m5, m6, m7] ∧ ∀ (a0 a1 a2 a3 a4 a5 a6 a7 av tv pv : Value),
  #[a0, a1, a2, a3, a4, a5, a6, a7, .int .i64 n0, .int .i64 n1, .int .i64 n2, .int .i64 n3, .int .i64 n4, .int .i64 n5, .int .i64 n6, .int .i64 n7, av, tv, pv].setIfInBounds (8 + j * 1) (.int .i64 v) =
   #[a0, a1, a2, a3, a4, a5, a6, a7, .int .i64 m0, .int .i64 m1, .int .i64 m2, .int .i64 m3, .int .i64 m4, .int .i64 m5, .int .i64 m6, .int .i64 m7, av, tv, pv] := by
 rw [hn]
 match j, hj with
 | 0, _ | 1, _ | 2, _ | 3, _ | 4, _ | 5, _ | 6, _ | 7, _ => exact ⟨_, _, _, _, _, _, _, _, rfl, fun _ _ _ _ _ _ _ _ _ _ _ => rfl⟩
section
variable {np k : Nat} {x : LmM} {ps : List Nat} {w : World} {F : List Piece} {A B : Piece} {a b : Option Addr} {ca cb : Nat}
/-- A name's pipe. -/
theorem pipe_cell (hk : Lk np k x) {j : Nat} (hj : j < 8) : (pcs (gsN x.name ps))[j]? = some (adr (nm (gsN x.name ps) (j : Int))) := by
 have h8 : (gsN x.name ps).length = 8 := by rw [gsN_len, hk.n8]
 unfold pcs nm
 rw [List.getElem?_map, List.getElem?_eq_getElem (by omega), if_pos (by omega), Int.toNat_natCast, List.getD_eq_getElem?_getD, List.getElem?_eq_getElem (by omega)]
 rfl
theorem p_readyN {j : Nat} (hk : Lk np k x) (hl : ps.length = x.M.length) (hj : j < 8) (s : Bool) (v : Int) (H : SL w (PsP (ps.map some) x.M :: F)) :
  Calls Tryz.prog 107 #[adr (nm (gsN x.name ps) (j : Int)), .bool s] w fun e w' => e = .returned (.bool (readyC (okN x) (pipesN x) ⟨s, j, v⟩)) ∧ SL w' (PsP (ps.map some) x.M :: F) := by
 have h1 := pipes_out (P := PipeP) (F := F) hl.symm (hk.nps hl) H
 have h2 := ps_ready (gs := gsN x.name ps) (M := msN x.name x.M) (by rw [msN_len, gsN_len]) (j : Int) s v h1
 rw [okN_eq hk hl] at h2
 refine h2.mono ?_
 rintro e w' ⟨rfl, h⟩
 exact ⟨rfl, H.later h⟩
theorem p_try (hk : Lk np k x) (hkb : k ≤ 1000000) (hl : ps.length = x.M.length) (c : CaseM) (hB : Reader B 1 b 8 (pcs (gsN x.name ps))) (H : SL w (PsP (ps.map some) x.M :: B :: F)) :
  Calls Tryz.prog 158 #[c.agg, .slice b 8 cb] w fun e w' => e = .returned (.tuple #[(tryF (okN x) (pipesN x) c).1.1.agg, .int .i64 (tryF (okN x) (pipesN x) c).1.2]) ∧ SL w' (PsP (ps.map some) (backN x.name (tryF (okN x) (pipesN x) c).2 x.M) :: B :: F) := by
 have h8 : (gsN x.name ps).length = 8 := by rw [gsN_len, hk.n8]
 have h1 := pipes_out (P := PipeP) (F := B :: F) hl.symm (hk.nps hl) H
 have h2 := f_try (gs := gsN x.name ps) (M := msN x.name x.M) (cb := cb) c (by rw [msN_len, gsN_len]) h8.symm hB hk.inv.named hkb h1.up2.up1
 rw [okN_eq hk hl] at h2
 refine h2.mono ?_
 rintro e w' ⟨rfl, H'⟩
 refine ⟨rfl, ?_⟩
 exact pipes_back (P := PipeP) hl.symm (hk.nps hl) (by rw [tryF_len]; exact msN_len _ _) H'.up2.dn1
theorem p_readies {L : List CaseM} (hk : Lk np k x) (hl : ps.length = x.M.length) (hL : L.length ≤ 100000) (hA : Reader A 3 a L.length (L.flatMap CaseM.cells)) (hB : Reader B 1 b 8 (pcs (gsN x.name ps))) (H : SL w (PsP (ps.map some) x.M :: A :: B :: F)) :
  Calls Tryz.prog 164 #[.slice a L.length ca, .slice b 8 cb] w fun e w' => ∃ a' c', e = .returned (.slice a' (readyL (okN x) (pipesN x) L).length c') ∧ SL w' (Slc 3 1 (.slice a' (readyL (okN x) (pipesN x) L).length c') (readyL (okN x) (pipesN x) L).length (ints (readyL (okN x) (pipesN x) L)) :: PsP (ps.map some) x.M :: A :: B :: F) := by
 have h8 : (gsN x.name ps).length = 8 := by rw [gsN_len, hk.n8]
 have h1 := pipes_out (P := PipeP) (F := A :: B :: F) hl.symm (hk.nps hl) H
 have h2 := f_ready (gs := gsN x.name ps) (M := msN x.name x.M) (ca := ca) (cb := cb) (by rw [msN_len, gsN_len]) rfl h8.symm hA hB hL (h1.pick [0, 2, 3, 1] 4 (by decide))
 rw [okN_eq hk hl] at h2
 refine h2.mono ?_
 rintro e w' ⟨v, rfl, H'⟩
 obtain ⟨a', c', rfl⟩ := SL.slcForm H'
 refine ⟨a', c', rfl, ?_⟩
 have h3 := H'.pick [1, 4, 0, 2, 3] 5 (by decide)
 have h4 := pipes_back (P := PipeP) hl.symm (hk.nps hl) (by rw [msN_len]) h3
 have e : backN x.name (msN x.name x.M) x.M = x.M := backN_same hk.nm
 rw [e] at h4
 exact h4.swap
theorem p_parks {L : List CaseM} (g : Int) (hk : Lk np k x) (hl : ps.length = x.M.length) (hL : L.length ≤ 100000) (hA : Reader A 3 a L.length (L.flatMap CaseM.cells)) (hB : Reader B 1 b 8 (pcs (gsN x.name ps))) (H : SL w (PsP (ps.map some) x.M :: A :: B :: F)) :
  Calls Tryz.prog 166 #[.int .i64 g, .slice a L.length ca, .slice b 8 cb] w fun e w' => e = .returned (.tuple #[.int .i64 (parkF (okN x) g L (pipesN x)).1.1, .int .i64 (parkF (okN x) g L (pipesN x)).1.2]) ∧ SL w' (PsP (ps.map some) (backN x.name (parkF (okN x) g L (pipesN x)).2 x.M) :: A :: B :: F) := by
 have h8 : (gsN x.name ps).length = 8 := by rw [gsN_len, hk.n8]
 have h1 := pipes_out (P := PipeP) (F := A :: B :: F) hl.symm (hk.nps hl) H
 have h2 := f_park (gs := gsN x.name ps) (M := msN x.name x.M) (ca := ca) (cb := cb) g (by rw [msN_len, gsN_len]) rfl h8.symm hA hB hk.inv.named hL (h1.pick [0, 2, 3, 1] 4 (by decide))
 rw [okN_eq hk hl] at h2
 refine h2.mono ?_
 rintro e w' ⟨rfl, H'⟩
 refine ⟨rfl, ?_⟩
 exact pipes_back (P := PipeP) hl.symm (hk.nps hl) (by rw [parkF_len]; exact msN_len _ _) (H'.pick [0, 3, 1, 2] 4 (by decide))
theorem p_leave (g : Int) (hk : Lk np k x) (hkb : k ≤ 1000000) (hl : ps.length = x.M.length) (hB : Reader B 1 b x.M.length (pcs (ps.map some))) (H : SL w (PsP (ps.map some) x.M :: B :: F)) :
  Calls Tryz.prog 197 #[.int .i64 g, .slice b x.M.length cb] w fun e w' => (∃ r, e = .returned (.int .i64 r)) ∧ SL w' (PsP (ps.map some) (x.M.map (fun y => dropM y g)) :: B :: F) := by
 refine (f_leave (gs := ps.map some) (cb := cb) g (by simp [hl]) (by simp [hl]) hB hk.inv (by have := hk.ml; simp [hl]; omega) H).mono ?_
 rintro e w' ⟨rfl, H'⟩
 exact ⟨⟨_, rfl⟩, H'⟩
/-- What a wait at a name does. -/
def waitN (x : LmM) (j : Nat) (s : Bool) (m : Wtr) : List PipeM := if 0 ≤ numL x (j : Int) then x.M.set (numL x (j : Int)).toNat (waitF (x.M.getD (numL x (j : Int)).toNat (emptyM 0)) s m).2 else x.M
theorem p_waitN {j : Nat} (hk : Lk np k x) (hl : ps.length = x.M.length) (hj : j < 8) (s : Bool) (m : Wtr) (H : SL w (PsP (ps.map some) x.M :: F)) :
  Calls Tryz.prog 160 #[adr (nm (gsN x.name ps) (j : Int)), .bool s, m.agg] w fun e w' => (∃ r, e = .returned (.int .i64 r)) ∧ SL w' (PsP (ps.map some) (waitN x j s m) :: F) := by
 unfold waitN
 rcases num_or hk hl hj with ⟨h1, h2⟩ | ⟨i, g, h1, h2, h3, h4⟩
 ·rw [h2, if_neg (by omega)]
  exact wait_nil s m H
 ·rw [h4, h1, if_pos (by omega), Int.toNat_natCast]
  refine (ps_wait (n := k) (s := s) (m := m) (by simp [hl]) h3 (hk.inv.get h2) H).mono ?_
  rintro e w' ⟨rfl, H'⟩
  exact ⟨⟨_, rfl⟩, H'⟩
theorem p_close {i g : Nat} (hk : Lk np k x) (hl : ps.length = x.M.length) (h3 : (ps.map some)[i]? = some (some g)) (H : SL w (PsP (ps.map some) x.M :: F)) :
  Calls Tryz.prog 162 #[.pointer (some ⟨g, 0, none⟩)] w fun e w' => ∃ a c b d, e = .returned (.tuple #[.slice a (closeF (x.M.getD i (emptyM 0))).1.1.length c, .slice b (closeF (x.M.getD i (emptyM 0))).1.2.1.length d, .int .i64 (closeF (x.M.getD i (emptyM 0))).1.2.2]) ∧
   SL w' (RdP a (closeF (x.M.getD i (emptyM 0))).1.1.length 3 ((closeF (x.M.getD i (emptyM 0))).1.1.flatMap Wtr.cells) :: RdP b (closeF (x.M.getD i (emptyM 0))).1.2.1.length 3 ((closeF (x.M.getD i (emptyM 0))).1.2.1.flatMap Wtr.cells) :: PsP (ps.map some) (x.M.set i (closeF (x.M.getD i (emptyM 0))).2) :: F) := by
 have hM : x.M.length = (ps.map some).length := by simp [hl]
 have hx : Inv9 k (x.M.getD i (emptyM 0)) := hk.inv.get (by have := (List.getElem?_eq_some_iff.1 h3).1; simp at this; omega)
 refine (sl_close hx.snd.1 hx.rcv.1 (take_ps hM h3 H)).mono ?_
 rintro e w' ⟨a, c, b, d, rfl, H'⟩
 exact ⟨a, c, b, d, rfl, (put_ps hM h3 (H'.pick [2, 3, 0, 1] 4 (by decide))).dn2⟩
theorem close_nilN (H : SL w F) : Calls Tryz.prog 162 #[.pointer none] w fun e w' => e = .returned (.tuple #[.slice none 0 0, .slice none 0 0, .int .i64 6]) ∧ SL w' F := by
 refine (pipe_close_nil w).mono ?_
 rintro e w' ⟨rfl, h⟩
 exact ⟨rfl, H.later h⟩
/-- A made pipe among the names. -/
theorem gsN_make {name : List Int} {ps : List Nat} {j h : Nat} (hk : NamesOk name ps.length) : gsN (name.set j (ps.length : Int)) (ps ++ [h]) = (gsN name ps).set j (some h) := by
 unfold gsN
 rw [List.map_set]
 congr 1
 ·refine List.map_congr_left (fun n hn => ?_)
  have := hk.lt n hn
  split
  ·rename_i h0
   rw [List.getElem?_append_left (by omega)]
  ·rfl
 ·rw [if_pos (Int.natCast_nonneg _), Int.toNat_natCast, List.getElem?_append_right (Nat.le_refl _), Nat.sub_self]
  rfl
end
end Go.Proofs.YtchkaaeoffmjnaaGreatDoor
namespace Go.Proofs.YtchkaaeoffmjnaaGreatDoor
set_option linter.unusedVariables false
set_option linter.unusedSimpArgs false
open Go.RowKit
set_option maxRecDepth 100000
theorem p_noteO {w : World} {F : List Piece} {lb : Nat} {t m : Int} {v0 v1 v2 v3 v4 v5 v6 : Value} {pan : Bool} {n0 n1 n2 n3 n4 n5 n6 n7 : Int} {ta : Option Addr} {tc : Nat} {tr : List Ev} (ht : tr.length ≤ 1000000) (e : Ev)
  (H : SL w (row lb #[.int .i64 t, .int .i64 m, v0, v1, v2, v3, v4, v5, .int .i64 n0, .int .i64 n1, .int .i64 n2, .int .i64 n3, .int .i64 n4, .int .i64 n5, .int .i64 n6, .int .i64 n7, v6, .slice ta tr.length tc, .bool pan] 97 :: Slc 53 8 (.slice ta tr.length tc) tr.length (tr.flatMap Ev.cells) :: F)) : Calls Tryz.prog 54 #[.pointer (some ⟨lb, 0, none⟩), e.agg] w fun o w' => ∃ ta' tc', o = .returned (.tuple #[]) ∧ SL w' (row lb #[.int .i64 t, .int .i64 m, v0, v1, v2, v3, v4, v5, .int .i64 n0, .int .i64 n1, .int .i64 n2, .int .i64 n3, .int .i64 n4, .int .i64 n5, .int .i64 n6, .int .i64 n7, v6, .slice ta' ((tr ++ [e]).length) tc', .bool pan] 97 :: Slc 53 8 (.slice ta' (tr ++ [e]).length tc') (tr ++ [e]).length ((tr ++ [e]).flatMap Ev.cells) :: F) := by
 obtain ⟨kind, g, chan, case_, value, mate, send, ok⟩ := e
 refine calls_den (args := [_, _]) Tryz.func54 rfl (Nat.le_of_ble_eq_true (by kernel_rfl)) (by kernel_rfl) ?_
 refine ⟨?_⟩
 refine Nw.as #[.int .i64 kind, .int .i64 g, .int .i64 chan, .int .i64 case_, .int .i64 value, .int .i64 mate, .bool send, .bool ok] 53 rfl H fun b3 w H => ?_
 refine ⟨?_⟩
 refine Drw.of [(0, true), (1, true), (2, true), (3, true), (4, true), (5, true), (6, false), (7, false), (8, true), (9, true), (10, false)] (by kernel_rfl) mixed (fun w => SL w _) (H.drew.pick [0, 1] 3 (by decide)) ?_
 replace H := H.drew
 refine LdC.i 1 rfl (v := .slice ta tr.length tc) rfl ?_
 refine LdC.i 0 rfl (v := .int .i64 kind) rfl ?_
 refine LdC.i 0 rfl (v := .int .i64 g) rfl ?_
 refine LdC.i 0 rfl (v := .int .i64 chan) rfl ?_
 refine LdC.i 0 rfl (v := .int .i64 case_) rfl ?_
 refine LdC.i 0 rfl (v := .int .i64 value) rfl ?_
 refine LdC.i 0 rfl (v := .int .i64 mate) rfl ?_
 refine LdC.i 0 rfl (v := .bool send) rfl ?_
 refine LdC.i 0 rfl (v := .bool ok) rfl ?_
 refine Mn.new (fun b => .slice (some ⟨b, 0, none⟩) 1 1) #[.int .i64 kind, .int .i64 g, .int .i64 chan, .int .i64 case_, .int .i64 value, .int .i64 mate, .bool send, .bool ok] 53 (by kernel_rfl) H fun b10 w H => ?_
 refine ⟨.inr (H.pick [1, 2] 4 (by decide)), ?_⟩
 refine SL.appS H.up3 (.tmp 8) (.tmp 10) 22 (.agg #[.int .i64 0, .int .i64 0, .int .i64 0, .int .i64 0, .int .i64 0, .int .i64 0, .bool false, .bool false]) 56 (by rfl) (by kernel_rfl) (by kernel_rfl) (by rfl) (by decide) (by rfl) (some ⟨b10, 0, none⟩) 1 1 [.int .i64 kind, .int .i64 g, .int .i64 chan, .int .i64 case_, .int .i64 value, .int .i64 mate, .bool send, .bool ok] (by rfl) (H.rdRow 0 rfl (by rfl) (by decide)) (by rfl) (by omega) (by decide) (by decide) fun g1 c1 w H => ?_
 refine ⟨.inr (H.pick [2, 3] 4 (by decide)), ?_⟩
 refine H.st3 (cs' := #[.int .i64 t, .int .i64 m, v0, v1, v2, v3, v4, v5, .int .i64 n0, .int .i64 n1, .int .i64 n2, .int .i64 n3, .int .i64 n4, .int .i64 n5, .int .i64 n6, .int .i64 n7, v6, .slice (some ⟨g1, 0, none⟩) (tr.length + 1) c1, .bool pan]) rfl rfl rfl fun w H => ?_
 refine ⟨.inl rfl, ?_⟩
 refine ret0 (fn := Tryz.f54) rfl ?_
 rw [show tr.flatMap Ev.cells ++ [.int .i64 kind, .int .i64 g, .int .i64 chan, .int .i64 case_, .int .i64 value, .int .i64 mate, .bool send, .bool ok] = (tr ++ [(⟨kind, g, chan, case_, value, mate, send, ok⟩ : Ev)]).flatMap Ev.cells from by simp [Ev.cells], show tr.length + 1 = (tr ++ [(⟨kind, g, chan, case_, value, mate, send, ok⟩ : Ev)]).length from by simp] at H
 exact ⟨_, _, rfl, H.pick [3, 0] 4 (by decide)⟩
theorem p_wakeE {w : World} {F : List Piece} {np k lb : Nat} {sc : ScrM} {x : LmM} {t m : Int} {vp vl vd : Value} {n0 n1 n2 n3 n4 n5 n6 n7 : Int} (hn : x.name = [n0, n1, n2, n3, n4, n5, n6, n7]) (hk : Lk np k x) (hkb : k ≤ 999000) (kind g chan case_ value mate : Int) (send ok : Bool) (H : SL w (LmP lb sc ⟨t, m, vp, vl, vd⟩ x :: F)) : Calls Tryz.prog 159 #[.pointer (some ⟨lb, 0, none⟩), .agg #[.int .i64 kind, .int .i64 g, .int .i64 chan, .int .i64 case_, .int .i64 value, .int .i64 mate, .bool send, .bool ok]] w fun o w' => o = .returned (.tuple #[]) ∧ SL w' (LmP lb sc ⟨t, m, vp, vl, vd⟩ (wakeL x ⟨7, g, chan, case_, value, mate, send, ok⟩) :: F) := by
 have hob := lm_open (x := x) hn H
 obtain ⟨cb1, crb1, pn1, pc1, ala1, alc1, ta1, tc1, ps1, hl1, H⟩ := hob
 refine calls_den (args := [_, _]) Tryz.func159 rfl (Nat.le_of_ble_eq_true (by kernel_rfl)) (by kernel_rfl) ?_
 refine ⟨?_⟩
 refine Nw.as #[.int .i64 kind, .int .i64 g, .int .i64 chan, .int .i64 case_, .int .i64 value, .int .i64 mate, .bool send, .bool ok] 53 rfl H fun b3 w H => ?_
 refine ⟨?_⟩
 refine H.st0 (cs' := #[.int .i64 7, .int .i64 g, .int .i64 chan, .int .i64 case_, .int .i64 value, .int .i64 mate, .bool send, .bool ok]) rfl rfl rfl fun w H => ?_
 refine ⟨?_⟩
 refine H.ldi 0 rfl (v := .int .i64 7) rfl ?_
 refine H.ldi 0 rfl (v := .int .i64 g) rfl ?_
 refine H.ldi 0 rfl (v := .int .i64 chan) rfl ?_
 refine H.ldi 0 rfl (v := .int .i64 case_) rfl ?_
 refine H.ldi 0 rfl (v := .int .i64 value) rfl ?_
 refine H.ldi 0 rfl (v := .int .i64 mate) rfl ?_
 refine H.ldi 0 rfl (v := .bool send) rfl ?_
 refine H.ldi 0 rfl (v := .bool ok) rfl ?_
 have h1 := H.pick [1, 7, 0, 2, 3, 4, 5, 6] 8 (by decide)
 simp only [pk, nth, pkA, pkB, pkC, pkD, pkE, pkF] at h1
 refine Cl.by (by kernel_rfl) (p_noteO (Nat.le_trans (hk).tr (by omega)) ⟨7, g, chan, case_, value, mate, send, ok⟩ h1) ?_
 rintro _ w ⟨tn1, tk1, rfl, H⟩
 refine ⟨_, rfl, ?_⟩
 replace H := H.pick [2, 0, 3, 4, 5, 6, 7, 1] 8 (by decide)
 simp only [pk, nth, pkA, pkB, pkC, pkD, pkE, pkF] at H
 refine ⟨?_⟩
 refine Drw.of [(0, true), (1, true), (2, true), (3, true), (4, true), (5, true), (6, false)] (by kernel_rfl) mixed (fun w => SL w _) H.drew ?_
 replace H := H.drew
 refine LdC.i 0 rfl (v := .int .i64 g) rfl ?_
 refine LdC.i 1 rfl (v := .slice ala1 x.M.length alc1) rfl ?_
 have h1 := H.pick [6, 5, 0, 1, 2, 3, 4, 7] 8 (by decide)
 simp only [pk, nth, pkA, pkB, pkC, pkD, pkE, pkF] at h1
 refine Cl.by (by kernel_rfl) (p_leave (x := (noteL x ⟨7, g, chan, case_, value, mate, send, ok⟩)) g ((hk.note ⟨7, g, chan, case_, value, mate, send, ok⟩)) (by omega) hl1 Reader.slc h1) ?_
 rintro _ w ⟨⟨r, rfl⟩, H⟩
 refine ⟨_, rfl, ?_⟩
 replace H := H.pick [2, 3, 4, 5, 6, 1, 0, 7] 8 (by decide)
 simp only [pk, nth, pkA, pkB, pkC, pkD, pkE, pkF] at H
 refine ⟨.inl rfl, ?_⟩
 refine ⟨?_⟩
 refine Drw.of [(0, true), (1, true), (2, true), (3, true), (4, true), (5, true), (6, false)] (by kernel_rfl) mixed (fun w => SL w _) H.drew ?_
 replace H := H.drew
 refine LdC.i 1 rfl (v := .pointer (some ⟨crb1, 0, none⟩)) rfl ?_
 refine LdC.i 0 rfl (v := .int .i64 g) rfl ?_
 have h1 := H.pick [3, 0, 1, 2, 4, 5, 6, 7] 8 (by decide)
 simp only [pk, nth, pkA, pkB, pkC, pkD, pkE, pkF] at h1
 refine Cl.sl (by kernel_rfl) (p_wake (L := ({ (noteL x ⟨7, g, chan, case_, value, mate, send, ok⟩) with M := (noteL x ⟨7, g, chan, case_, value, mate, send, ok⟩).M.map (fun y => dropM y g) }).crew) (Small.more (((hk.note ⟨7, g, chan, case_, value, mate, send, ok⟩).drop g)).sm (by omega)) g h1) fun w H => ?_
 replace H := H.pick [1, 2, 3, 0, 4, 5, 6, 7] 8 (by decide)
 simp only [pk, nth, pkA, pkB, pkC, pkD, pkE, pkF] at H
 refine ⟨.inl rfl, ?_⟩
 refine ret0 (fn := Tryz.f159) rfl ?_
 have H0 := H.pick [1, 2, 3, 4, 5, 6, 7, 0] 8 (by decide)
 simp only [pk, nth, pkA, pkB, pkC, pkD, pkE, pkF] at H0
 replace H := lm_shut (x := (turnL ({ (noteL x ⟨7, g, chan, case_, value, mate, send, ok⟩) with M := (noteL x ⟨7, g, chan, case_, value, mate, send, ok⟩).M.map (fun y => dropM y g) }) g 1 0)) hl1 (by first | rfl | simp [turnL, noteL, backN_len]) hn H0
 have hc : wakeL x ⟨7, g, chan, case_, value, mate, send, ok⟩ = (turnL ({ (noteL x ⟨7, g, chan, case_, value, mate, send, ok⟩) with M := (noteL x ⟨7, g, chan, case_, value, mate, send, ok⟩).M.map (fun y => dropM y g) }) g 1 0) := by rfl
 rw [hc]
 exact ⟨rfl, H.pick [0] 2 (by decide)⟩
theorem p_wakeL {w : World} {F : List Piece} {np k lb : Nat} {sc : ScrM} {x : LmM} {t m : Int} {vp vl vd : Value} {n0 n1 n2 n3 n4 n5 n6 n7 : Int} (hn : x.name = [n0, n1, n2, n3, n4, n5, n6, n7]) (hk : Lk np k x) (hkb : k ≤ 999000) (kind : Int) (e : Ev) (H : SL w (LmP lb sc ⟨t, m, vp, vl, vd⟩ x :: F)) : Calls Tryz.prog 159 #[.pointer (some ⟨lb, 0, none⟩), .agg #[.int .i64 kind, .int .i64 e.g, .int .i64 e.chan, .int .i64 e.case_, .int .i64 e.value, .int .i64 e.mate, .bool e.send, .bool e.ok]] w fun o w' => o = .returned (.tuple #[]) ∧ SL w' (LmP lb sc ⟨t, m, vp, vl, vd⟩ (wakeL x { e with kind := 7 }) :: F) := p_wakeE hn hk hkb kind e.g e.chan e.case_ e.value e.mate e.send e.ok H
/-- A wait alone. -/
def parkL (x : LmM) (g : Int) (c : CaseM) : LmM := turnL { noteL x ⟨6, g, numL x c.chan, -1, c.value, -1, c.send, false⟩ with M := waitN x c.chan.toNat c.send ⟨g, -1, c.value⟩ } g 0 1
theorem alone_park {np k : Nat} {x : LmM} {g : Int} {cj : Nat} {sd : Bool} {cv : Int} (hk : Lk np k x) (hcj : cj < 8) (hr : readyC (okN x) (pipesN x) ⟨sd, (cj : Int), cv⟩ = false) : aloneL x g ⟨sd, (cj : Int), cv⟩ = parkL x g ⟨sd, (cj : Int), cv⟩ := by
 unfold aloneL parkL waitN
 rw [hr, if_neg (by decide)]
 dsimp only
 rw [Int.toNat_natCast]
 by_cases h0 : 0 ≤ numL x (cj : Int)
 ·rw [if_pos h0, if_pos h0]
  rfl
 ·rw [if_neg h0, if_neg h0]
  rfl
theorem p_parkL {w : World} {F : List Piece} {np k lb : Nat} {sc : ScrM} {x : LmM} {t m : Int} {vp vl vd : Value} {n0 n1 n2 n3 n4 n5 n6 n7 : Int} (hn : x.name = [n0, n1, n2, n3, n4, n5, n6, n7]) (hk : Lk np k x) (hkb : k ≤ 998000) (g : Int) {cj : Nat} (hcj : cj < 8) (sd : Bool) (cv : Int) (H : SL w (LmP lb sc ⟨t, m, vp, vl, vd⟩ x :: F)) : Calls Tryz.prog 109 #[.pointer (some ⟨lb, 0, none⟩), .int .i64 g, .agg #[.bool sd, .int .i64 (cj : Int), .int .i64 cv]] w fun o w' => o = .returned (.tuple #[]) ∧ SL w' (LmP lb sc ⟨t, m, vp, vl, vd⟩ (parkL x g ⟨sd, (cj : Int), cv⟩) :: F) := by
 have hob := lm_open (x := x) hn H
 obtain ⟨cb1, crb1, pn1, pc1, ala1, alc1, ta1, tc1, ps1, hl1, H⟩ := hob
 refine calls_den (args := [_, _, _]) Tryz.func109 rfl (Nat.le_of_ble_eq_true (by kernel_rfl)) (by kernel_rfl) ?_
 refine ⟨?_⟩
 refine Nw.as #[.bool sd, .int .i64 ↑cj, .int .i64 cv] 154 rfl H fun b5 w H => ?_
 refine ⟨?_⟩
 refine Cl.sl (by kernel_rfl) (p_bare H 6 g) fun w H => ?_
 refine Nw.as #[.int .i64 0, .int .i64 0, .int .i64 0, .int .i64 0, .int .i64 0, .int .i64 0, .bool false, .bool false] 53 rfl H fun b6 w H => ?_
 refine H.st0 (cs' := #[.int .i64 6, .int .i64 0, .int .i64 0, .int .i64 0, .int .i64 0, .int .i64 0, .bool false, .bool false]) rfl rfl rfl fun w H => ?_
 refine H.st0 (cs' := #[.int .i64 6, .int .i64 g, .int .i64 0, .int .i64 0, .int .i64 0, .int .i64 0, .bool false, .bool false]) rfl rfl rfl fun w H => ?_
 refine H.st0 (cs' := #[.int .i64 6, .int .i64 g, .int .i64 (-1), .int .i64 0, .int .i64 0, .int .i64 0, .bool false, .bool false]) rfl rfl rfl fun w H => ?_
 refine H.st0 (cs' := #[.int .i64 6, .int .i64 g, .int .i64 (-1), .int .i64 (-1), .int .i64 0, .int .i64 0, .bool false, .bool false]) rfl rfl rfl fun w H => ?_
 refine H.st0 (cs' := #[.int .i64 6, .int .i64 g, .int .i64 (-1), .int .i64 (-1), .int .i64 (-1), .int .i64 0, .bool false, .bool false]) rfl rfl rfl fun w H => ?_
 refine H.st0 (cs' := #[.int .i64 6, .int .i64 g, .int .i64 (-1), .int .i64 (-1), .int .i64 (-1), .int .i64 (-1), .bool false, .bool false]) rfl rfl rfl fun w H => ?_
 refine H.st0 (cs' := #[.int .i64 6, .int .i64 g, .int .i64 (-1), .int .i64 (-1), .int .i64 (-1), .int .i64 (-1), .bool false, .bool false]) rfl rfl rfl fun w H => ?_
 refine H.st0 (cs' := #[.int .i64 6, .int .i64 g, .int .i64 (-1), .int .i64 (-1), .int .i64 (-1), .int .i64 (-1), .bool false, .bool false]) rfl rfl rfl fun w H => ?_
 refine ⟨?_⟩
 refine Drw.oft (.calm 0 (.calm 1 (.calm 2 (.calm 3 (.calm 4 (.calm 5 (.calm 6 (.calm 7 (.calm 8 (.calm 9 (.calm 10 (.calm 11 (.act 12 false (.pure 13 (.act 14 false (.pure 15 (.act 16 true .nil))))))))))))))))) (by kernel_rfl) mixed (fun w => SL w _) (H.drew.pick [1, 2, 3, 4, 5, 6, 7, 8] 9 (by decide)) ?_
 replace H := H.drew
 refine LdC.i 0 rfl (v := .int .i64 ↑cj) rfl ?_
 refine Ix.at cj 1 (by kernel_rfl) rfl hcj ?_
 refine LdC.i 1 rfl (v := .int .i64 (numL x ↑cj)) (name_cell9 (x := x) hn cj hcj) ?_
 refine LdC.i 0 rfl (v := .int .i64 cv) rfl ?_
 refine LdC.i 0 rfl (v := .bool sd) rfl ?_
 refine BB.k ?_
 refine H.st0 (cs' := #[.int .i64 6, .int .i64 g, .int .i64 (numL x ↑cj), .int .i64 (-1), .int .i64 (-1), .int .i64 (-1), .bool false, .bool false]) rfl rfl rfl fun w H => ?_
 refine ⟨.inr (H.pick [1, 2, 3, 4, 5, 6, 7, 8] 9 (by decide)), ?_⟩
 refine H.st0 (cs' := #[.int .i64 6, .int .i64 g, .int .i64 (numL x ↑cj), .int .i64 (-1), .int .i64 cv, .int .i64 (-1), .bool false, .bool false]) rfl rfl rfl fun w H => ?_
 refine ⟨.inr (H.pick [1, 2, 3, 4, 5, 6, 7, 8] 9 (by decide)), ?_⟩
 refine H.st0 (cs' := #[.int .i64 6, .int .i64 g, .int .i64 (numL x ↑cj), .int .i64 (-1), .int .i64 cv, .int .i64 (-1), .bool sd, .bool false]) rfl rfl rfl fun w H => ?_
 refine ⟨.inl rfl, ?_⟩
 refine ⟨?_⟩
 refine H.ldi 0 rfl (v := .int .i64 6) rfl ?_
 refine H.ldi 0 rfl (v := .int .i64 g) rfl ?_
 refine H.ldi 0 rfl (v := .int .i64 (numL x ↑cj)) rfl ?_
 refine H.ldi 0 rfl (v := .int .i64 (-1)) rfl ?_
 refine H.ldi 0 rfl (v := .int .i64 cv) rfl ?_
 refine H.ldi 0 rfl (v := .int .i64 (-1)) rfl ?_
 refine H.ldi 0 rfl (v := .bool sd) rfl ?_
 refine H.ldi 0 rfl (v := .bool false) rfl ?_
 have h1 := H.pick [2, 8, 0, 1, 3, 4, 5, 6, 7] 9 (by decide)
 simp only [pk, nth, pkA, pkB, pkC, pkD, pkE, pkF] at h1
 refine Cl.by (by kernel_rfl) (p_noteO (Nat.le_trans (hk).tr (by omega)) ⟨6, g, (numL x ↑cj), -1, cv, -1, sd, false⟩ h1) ?_
 rintro _ w ⟨tn1, tk1, rfl, H⟩
 refine ⟨_, rfl, ?_⟩
 replace H := H.pick [2, 3, 0, 4, 5, 6, 7, 8, 1] 9 (by decide)
 simp only [pk, nth, pkA, pkB, pkC, pkD, pkE, pkF] at H
 refine ⟨?_⟩
 refine Drw.of [(0, true), (1, true), (2, true), (3, true), (4, true), (5, true), (6, true), (7, true), (8, true), (9, true), (10, true), (11, true), (12, true), (13, true), (14, false)] (by kernel_rfl) mixed (fun w => SL w _) H.drew ?_
 replace H := H.drew
 refine LdC.i 2 rfl (v := .slice (some ⟨pn1, 0, none⟩) 8 pc1) rfl ?_
 refine LdC.i 1 rfl (v := .int .i64 ↑cj) rfl ?_
 refine Ix.at0 cj 1 (by kernel_rfl) (rfl) (hcj) ?_
 refine LdC.S 5 rfl (v := (adr (nm (gsN x.name ps1) (cj : Int)))) (by rw [Nat.mul_one]; exact pipe_cell hk hcj) ?_
 refine LdC.i 1 rfl (v := .bool sd) rfl ?_
 refine BB.k ?_
 refine LdC.i 1 rfl (v := .int .i64 cv) rfl ?_
 refine MnC.pure (.agg #[.int .i64 g, .int .i64 (-1), .int .i64 cv]) (fun _ => by kernel_rfl) ?_
 have h1 := H.pick [7, 0, 1, 2, 3, 4, 5, 6, 8] 9 (by decide)
 simp only [pk, nth, pkA, pkB, pkC, pkD, pkE, pkF] at h1
 refine Cl.by (by kernel_rfl) (p_waitN (x := x) (ps := ps1) (j := cj) hk hl1 hcj sd ⟨g, -1, cv⟩ h1) ?_
 rintro _ w ⟨⟨r, rfl⟩, H⟩
 refine ⟨_, rfl, ?_⟩
 replace H := H.pick [1, 2, 3, 4, 5, 6, 7, 0, 8] 9 (by decide)
 simp only [pk, nth, pkA, pkB, pkC, pkD, pkE, pkF] at H
 refine ⟨.inl rfl, ?_⟩
 refine ⟨?_⟩
 refine H.ldi 2 rfl (v := .pointer (some ⟨crb1, 0, none⟩)) rfl ?_
 have h1 := H.pick [4, 0, 1, 2, 3, 5, 6, 7, 8] 9 (by decide)
 simp only [pk, nth, pkA, pkB, pkC, pkD, pkE, pkF] at h1
 refine Cl.sl (by kernel_rfl) (p_park (L := x.crew) (Small.more hk.sm (by omega)) g h1) fun w H => ?_
 replace H := H.pick [1, 2, 3, 4, 0, 5, 6, 7, 8] 9 (by decide)
 simp only [pk, nth, pkA, pkB, pkC, pkD, pkE, pkF] at H
 refine ret0 (fn := Tryz.f109) rfl ?_
 have hwl : (waitN x cj sd ⟨g, -1, cv⟩).length = x.M.length := by unfold waitN; split <;> simp
 have H0 := H.pick [2, 3, 4, 5, 6, 7, 8, 0, 1] 9 (by decide)
 simp only [pk, nth, pkA, pkB, pkC, pkD, pkE, pkF] at H0
 replace H := lm_shut (x := (turnL ({ (noteL x ⟨6, g, (numL x ↑cj), -1, cv, -1, sd, false⟩) with M := waitN x cj sd ⟨g, -1, cv⟩ }) g 0 1)) hl1 hwl.symm hn H0
 have hc : parkL x g ⟨sd, (cj : Int), cv⟩ = (turnL ({ (noteL x ⟨6, g, (numL x ↑cj), -1, cv, -1, sd, false⟩) with M := waitN x cj sd ⟨g, -1, cv⟩ }) g 0 1) := by rfl
 rw [hc]
 exact ⟨rfl, H.pick [0] 3 (by decide)⟩
end Go.Proofs.YtchkaaeoffmjnaaGreatDoor
