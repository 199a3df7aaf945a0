/- Texts of the proof, several in one file: SxD, LoomX10, SheetG. -/
import Derived.Test.YtcgajljbahbhdaaGreatV11
import Derived.Lib.SliceRun
import Derived.Test.YtcgajljbahbhdaaGreatV16
import Derived.Test.YtcgajljbahbhdaaGreatV13
namespace Go.Proofs.YtcgajljbahbhdaaGreat
set_option linter.unusedVariables false
set_option linter.unusedSimpArgs false
open Go.RowKit
section
variable {P : Program} {w : World} {F : List Piece} {σ : Fr} {te sz g n c : Nat} {xs : List Value}
theorem SL.setS (H : SL w (Slc te sz (.slice (some ⟨g, 0, none⟩) n c) n xs :: F)) {o : Nat} (ho : o < xs.length) (u : Value) : SL (w.setCell ⟨g, o, none⟩ u) (Slc te sz (.slice (some ⟨g, 0, none⟩) n c) n (xs.set o u) :: F) := by
 obtain ⟨S, ⟨h2, h3⟩, h4, h5⟩ := H.call
 have hg := h3 g rfl
 exact h5 _ [Slc te sz (.slice (some ⟨g, 0, none⟩) n c) n (xs.set o u)] ((Frm.refl S w).setCell (p := ⟨g, o, none⟩) (fun _ => hg) u) ⟨_, fun _ h => h, ⟨own_set h2 ho, fun k hk => .inl (h3 k hk)⟩, trivial⟩
theorem SL.setsS : ∀ (vs : List Value) (o : Nat) {w : World} {xs : List Value}, SL w (Slc te sz (.slice (some ⟨g, 0, none⟩) n c) n xs :: F) → o + vs.length ≤ xs.length → ∃ ys, ys.take o = xs.take o ∧ ys.length = xs.length ∧ SL (w.setCells g o vs) (Slc te sz (.slice (some ⟨g, 0, none⟩) n c) n ys :: F)
 | [], o, w, xs, H, _ => ⟨xs, rfl, rfl, by rw [World.setCells]; exact H⟩
 | v :: vs, o, w, xs, H, h => by
  simp only [List.length_cons] at h
  obtain ⟨ys, h1, h2, h3⟩ := SL.setsS vs (o + 1) (H.setS (show o < xs.length by omega) v) (by rw [List.length_set]; omega)
  refine ⟨ys, ?_, by rw [h2, List.length_set], by rw [World.setCells]; exact h3⟩
  have := congrArg (List.take o) h1
  rw [List.take_take, List.take_take, Nat.min_eq_left (Nat.le_succ o), List.take_set_of_le (Nat.le_refl o)] at this
  exact this
theorem Mn.clearS {op : Oper} {K : Value → World → Prop} (H : SL w (Slc te 1 (.slice (some ⟨g, 0, none⟩) n c) n xs :: F)) (x : Operand) (t : Nat) (hop : op.op = .call { callee := .builtin .clear, args := #[x], argTypes := #[t] }) (ht : P.underlying t = some (.slice te)) {z : Value} (hv : ∀ w, (zeroValue te).run P w = .ok z w) (hz : z.cells = #[z]) (h1 : z.oneCell' = true)
  (lo c' : Nat) (hlo : lo < n) (hx : ev σ x = .slice (some ⟨g, lo, none⟩) (n - lo) c') (k : ∀ ys w', ys.take lo = xs.take lo → ys.length = n → SL w' (Slc te 1 (.slice (some ⟨g, 0, none⟩) n c) n ys :: F) → K (.tuple #[]) w') : Mn P σ op w K := by
 obtain ⟨S, _, h2, _⟩ := H.on
 have hl : xs.length = n := by have := h2.1; omega
 have hrun := Go.Lib.run_clear_slice (P := P) w t te op.type z ht hv hz h1 g lo (n - lo) c' (by omega) (fun j hj => by rw [own_cell h2 (List.getElem?_eq_getElem (show lo + j < xs.length by omega))]; rfl) (fun j hj => own_free h2 _)
 obtain ⟨ys, e1, e2, H'⟩ := SL.setsS (List.replicate (n - lo) z) lo H (by simp; omega)
 refine Mn.by (v := .tuple #[]) ?_ (k ys _ e1 (by omega) H')
 simp only [execOp, hop, resolve, invoke, builtin, Sem.run_bind, Sem.run_pure, Result.andThen_ok, List.map_toArray, List.map_cons, List.map_nil, hx, hrun]
/-- v[lo:] of a slice of one's own, lo below the length: where it lies. -/
theorem Mn.cutA {op : Oper} {K : Value → World → Prop} (H : SL w (Slc te 1 (.slice (some ⟨g, 0, none⟩) n c) n xs :: F)) (x l : Operand) (t : Nat) (hop : op.op = .slice t x (some l) none none) (ht : P.underlying t = some (.slice te)) (hsz : (P.info? te).map (·.size) = some 1)
  (lo : Nat) (hx : ev σ x = .slice (some ⟨g, 0, none⟩) n c) (hl : ev σ l = .int .i64 (lo : Int)) (hlo : lo < n) (k : K (.slice (some ⟨g, lo, none⟩) (n - lo) (c - lo)) w) : Mn P σ op w K := by
 obtain ⟨S, _, h2, _⟩ := H.on
 rcases h2.2 with ⟨h, h0⟩ | ⟨g', cap, cur, h, _, hg, hnc, _⟩
 ·omega
 ·injection h with _ _ e
  subst e
  refine Mn.by (run_cut x l hop ht hsz (Nat.le_of_lt hlo) hnc hx hl w) ?_
  rw [if_neg (show c ≠ lo by omega)]
  simpa only [Option.map_some, Addr_add, Nat.mul_one, Nat.zero_add] using k
end
end Go.Proofs.YtcgajljbahbhdaaGreat
namespace Go.Proofs.YtcgajljbahbhdaaGreat
set_option linter.unusedVariables false
set_option linter.unusedSimpArgs false
def ncE (e : Ev) : Bool := !(e.kind == 13)
def bareM (xs : List Int) : List Int := xs.filter (fun z => !(z == -1))
def phiL (q : Nat) (x : LmM) : LmM := { x with p := q, tr := x.tr.filter ncE }
section
variable {q : Nat} {x : LmM}
theorem phi_note {e : Ev} (h : e.kind ≠ 13) : phiL q (noteL x e) = noteL (phiL q x) e := by
 have h1 : ncE e = true := by unfold ncE; simp [h]
 unfold phiL noteL
 simp [List.filter_append, h1]
theorem phi_turn (g fr to : Int) : phiL q (turnL x g fr to) = turnL (phiL q x) g fr to := rfl
theorem phi_wake {e : Ev} (h : e.kind ≠ 13) : phiL q (wakeL x e) = wakeL (phiL q x) e := by
 have h1 : ncE e = true := by unfold ncE; simp [h]
 unfold wakeL phiL turnL noteL
 simp [List.filter_append, h1]
theorem phi_panic (g : Int) : phiL q (panicL x g) = panicL (phiL q x) g := by
 have h1 : ncE (bareE 12 g) = true := rfl
 unfold panicL phiL noteL
 simp [List.filter_append, h1]
theorem phi_talk (g : Int) (c : CaseM) (a : Int) : phiL q (talkL x g c a) = talkL (phiL q x) g c a := by
 unfold talkL
 dsimp only
 rw [show okN (phiL q x) = okN x from rfl, show pipesN (phiL q x) = pipesN x from rfl]
 split
 ·exact phi_panic g
 ·split
  ·rw [phi_wake (show (7 : Int) ≠ 13 by decide), phi_turn, phi_note (by split <;> (dsimp only; decide))]
   rfl
  ·rw [phi_turn, phi_note (by split <;> (dsimp only; decide))]
   rfl
theorem phi_alone (g : Int) (c : CaseM) : phiL q (aloneL x g c) = aloneL (phiL q x) g c := by
 unfold aloneL
 dsimp only
 rw [show okN (phiL q x) = okN x from rfl, show pipesN (phiL q x) = pipesN x from rfl, show numL (phiL q x) c.chan = numL x c.chan from rfl]
 split
 ·exact phi_talk g c _
 ·rw [phi_turn, ← phi_note (by dsimp only; decide)]
  split <;> rfl
theorem phi_wakes (g ch : Int) : ∀ (ws : List Wtr) {x : LmM}, phiL q (wakesL x g ch ws) = wakesL (phiL q x) g ch ws
 | [], _ => rfl
 | w :: ws, x => by
  unfold wakesL
  rw [phi_wakes g ch ws, show (phiL q x).crew = x.crew from rfl]
  split
  ·rw [phi_wake (by dsimp only; decide)]
  ·rfl
theorem phi_senders : ∀ (ws : List Wtr) {x : LmM}, phiL q (sendersL x ws) = sendersL (phiL q x) ws
 | [], _ => rfl
 | w :: ws, x => by
  unfold sendersL
  rw [show (phiL q x).crew = x.crew from rfl]
  split
  ·exact phi_panic _
  ·exact phi_senders ws
theorem phi_shut (g c : Int) : phiL q (shutL x g c) = shutL (phiL q x) g c := by
 unfold shutL
 dsimp only
 rw [show numL (phiL q x) c = numL x c from rfl, show (phiL q x).M = x.M from rfl]
 split
 ·exact phi_panic g
 ·split
  ·exact phi_panic g
  ·rw [phi_senders, phi_wakes, phi_turn, phi_note (by dsimp only; decide)]
   rfl
theorem phi_choose {s s' : ScrM} (hd : s'.draws = s.draws) (g : Int) (o : OpM) : phiL q (chooseL s x g o) = chooseL s' (phiL q x) g o := by
 unfold chooseL
 dsimp only
 rw [show okN (phiL q x) = okN x from rfl, show pipesN (phiL q x) = pipesN x from rfl, drawL_I, drawL_I, hd]
 split
 ·rw [phi_talk]
  rfl
 ·split
  ·rw [phi_turn, phi_note (show (8 : Int) ≠ 13 by decide)]
  ·rw [phi_turn, ← phi_note (by dsimp only; decide)]
   rfl
theorem phi_other (g : Int) (o : OpM) : phiL q (otherL x g o) = otherL (phiL q x) g o := by
 unfold otherL
 split
 ·rw [phi_turn, phi_note (by dsimp only; decide)]
  rfl
 ·split
  ·rw [phi_turn, phi_note (by dsimp only; decide)]
   rfl
  ·split
   ·rw [phi_turn, phi_note (by dsimp only; decide)]
   ·split
    ·rw [phi_turn, phi_note (by dsimp only; decide)]
    ·rw [phi_note (show (11 : Int) ≠ 13 by decide), phi_turn]
theorem phi_does {s s' : ScrM} (hd : s'.draws = s.draws) (g : Int) (o : OpM) : phiL q (doesL s x g o) = doesL s' (phiL q x) g o := by
 unfold doesL
 split
 ·exact phi_alone g _
 ·split
  ·exact phi_alone g _
  ·split
   ·exact phi_shut g _
   ·split
    ·exact phi_choose hd g o
    ·exact phi_other g o
end
section
variable {s : ScrM} {x : LmM}
def cntB (s : ScrM) (p : Nat) : Nat := (bareM (s.plan.take p)).length
def bareS (s : ScrM) : ScrM := { s with plan := bareM s.plan }
theorem cnt_skip {p : Nat} (hp : p < s.plan.length) (hv : s.plan.getD p 0 = -1) : cntB s (p + 1) = cntB s p := by
 unfold cntB bareM
 rw [List.getD_eq_getElem?_getD, List.getElem?_eq_getElem hp] at hv
 rw [List.take_add_one, List.getElem?_eq_getElem hp, Option.toList_some, List.filter_append]
 simp at hv
 simp [hv]
theorem cnt_keep {p : Nat} (hp : p < s.plan.length) (hv : s.plan.getD p 0 ≠ -1) : cntB s (p + 1) = cntB s p + 1 ∧ (bareS s).plan.getD (cntB s p) 0 = s.plan.getD p 0 ∧ cntB s p < (bareS s).plan.length := by
 have hv' : s.plan[p] ≠ -1 := by
  rw [List.getD_eq_getElem?_getD, List.getElem?_eq_getElem hp] at hv
  exact hv
 have h1 : bareM (s.plan.take (p + 1)) = bareM (s.plan.take p) ++ [s.plan[p]] := by
  unfold bareM
  rw [List.take_add_one, List.getElem?_eq_getElem hp, Option.toList_some, List.filter_append]
  simp [hv']
 have h2 : bareM s.plan = bareM (s.plan.take p) ++ [s.plan[p]] ++ bareM (s.plan.drop (p + 1)) := by
  rw [← h1]
  unfold bareM
  rw [← List.filter_append, List.take_append_drop]
 refine ⟨by unfold cntB; rw [h1, List.length_append]; rfl, ?_, ?_⟩
 ·show (bareM s.plan).getD (bareM (s.plan.take p)).length 0 = _
  rw [h2, List.getD_eq_getElem?_getD, List.getElem?_append_left (by simp), List.getElem?_append_right (Nat.le_refl _), List.getD_eq_getElem?_getD, List.getElem?_eq_getElem hp]
  simp [cntB]
 ·show _ < (bareM s.plan).length
  rw [h2]
  simp [cntB]
theorem cnt_end {p : Nat} (hp : s.plan.length ≤ p) : cntB s p = (bareS s).plan.length := by
 unfold cntB
 rw [List.take_of_length_le hp]
 rfl
theorem ver_phi {p : Nat} (hp : x.p = p) (h : verL s x ≠ 0) : verL (bareS s) (phiL (cntB s p) x) = verL s x := by
 unfold verL at h ⊢
 rw [show (phiL (cntB s p) x).pan = x.pan from rfl, show (phiL (cntB s p) x).crew = x.crew from rfl, show (phiL (cntB s p) x).p = cntB s p from rfl]
 split
 ·rfl
 ·rename_i h1
  rw [if_neg h1] at h
  split
  ·rfl
  ·rename_i h2
   rw [if_neg h2] at h
   have hpl : s.plan.length ≤ x.p := by
    by_cases hh : s.plan.length ≤ x.p
    ·exact hh
    ·rw [if_neg hh] at h
     exact absurd rfl h
   rw [if_pos hpl, cnt_end (by omega), if_pos (Nat.le_refl _)]
theorem who_neg (h : verL s x = 0) : whoL s x < 0 ↔ s.plan.getD x.p 0 = -1 := by
 obtain ⟨_, ho, _⟩ := ver_zero h
 have ha := over_able ho
 unfold whoL
 split
 ·rename_i h1
  exact ⟨fun _ => h1, fun _ => by decide⟩
 ·rename_i h1
  refine ⟨fun h2 => ?_, fun h2 => absurd h2 h1⟩
  have hm : (s.plan.getD x.p 0).toNat % (ableF x.crew).length < (ableF x.crew).length := Nat.mod_lt _ ha
  have := (ableF_in x.crew x.crew.length _ (List.getElem_mem hm)).1
  rw [List.getD_eq_getElem?_getD, List.getElem?_eq_getElem hm] at h2
  exact absurd h2 (Int.not_lt.2 this)
theorem step_phi (x : LmM) : ∃ b : Bool, phiL (cntB s (stepL s x).p) (stepL s x) = if b = true then stepL (bareS s) (phiL (cntB s x.p) x) else phiL (cntB s x.p) x := by
 by_cases hv : verL s x = 0
 ·obtain ⟨h1, h2, h3⟩ := ver_zero hv
  by_cases hw : whoL s x < 0
  ·refine ⟨false, ?_⟩
   have hm := (who_neg hv).1 hw
   have hst : stepL s x = noteL { x with p := x.p + 1 } (bareE 13 (-1)) := by unfold stepL; rw [if_neg (fun h => h hv), if_pos hw]
   rw [hst, show (noteL { x with p := x.p + 1 } (bareE 13 (-1))).p = x.p + 1 from rfl, cnt_skip h3 hm, if_neg (by decide)]
   unfold phiL noteL
   simp [List.filter_append, show ncE (bareE 13 (-1)) = false from rfl]
  ·refine ⟨true, ?_⟩
   have hm : s.plan.getD x.p 0 ≠ -1 := fun h => hw ((who_neg hv).2 h)
   obtain ⟨c1, c2, c3⟩ := cnt_keep h3 hm
   have hst : stepL s x = doesL s { x with p := x.p + 1 } (whoL s x) (opL s x (whoL s x)) := by unfold stepL; rw [if_neg (fun h => h hv), if_neg hw]
   have hv' : verL (bareS s) (phiL (cntB s x.p) x) = 0 := by
    unfold verL
    rw [show (phiL (cntB s x.p) x).pan = x.pan from rfl, show (phiL (cntB s x.p) x).crew = x.crew from rfl, show (phiL (cntB s x.p) x).p = cntB s x.p from rfl, h1, if_neg (by decide), if_neg (fun h => h h2), if_neg (by omega)]
   have hwho : whoL (bareS s) (phiL (cntB s x.p) x) = whoL s x := by
    unfold whoL
    rw [show (phiL (cntB s x.p) x).p = cntB s x.p from rfl, c2, show (phiL (cntB s x.p) x).crew = x.crew from rfl]
   have hop : opL (bareS s) (phiL (cntB s x.p) x) (whoL s x) = opL s x (whoL s x) := rfl
   rw [if_pos rfl, hst, does_p]
   show phiL (cntB s (x.p + 1)) (doesL s { x with p := x.p + 1 } (whoL s x) (opL s x (whoL s x))) = _
   rw [show stepL (bareS s) (phiL (cntB s x.p) x) = doesL (bareS s) { phiL (cntB s x.p) x with p := cntB s x.p + 1 } (whoL s x) (opL s x (whoL s x)) by unfold stepL; rw [if_neg (fun h => h hv'), hwho, if_neg hw, hop]; rfl]
   rw [phi_does (s := s) (s' := bareS s) rfl, c1]
   rfl
 ·refine ⟨false, ?_⟩
  have hst : stepL s x = x := by unfold stepL; rw [if_pos hv]
  rw [hst, if_neg (by decide)]
theorem run_phi (s : ScrM) : ∀ i, ∃ k, phiL (cntB s (runL s i).p) (runL s i) = runL (bareS s) k
 | 0 => ⟨0, by unfold phiL cntB; rfl⟩
 | i + 1 => by
  obtain ⟨k, hk⟩ := run_phi s i
  obtain ⟨b, hb⟩ := step_phi (s := s) (runL s i)
  show ∃ k, phiL (cntB s (stepL s (runL s i)).p) (stepL s (runL s i)) = _
  rw [hb, hk]
  cases b
  ·exact ⟨k, rfl⟩
  ·exact ⟨k + 1, rfl⟩
theorem over_one {i j : Nat} (hi : verL s (runL s i) ≠ 0) (hj : verL s (runL s j) ≠ 0) : runL s i = runL s j := by
 rcases Nat.le_total i j with h | h
 ·exact (run_stop hi h).symm
 ·exact run_stop hj h
/-- Without the Compact entries: the same, without them. -/
theorem run_bare (s : ScrM) : (runL s (s.plan.length + 1)).tr.filter ncE = (runL (bareS s) ((bareS s).plan.length + 1)).tr ∧ verL s (runL s (s.plan.length + 1)) = verL (bareS s) (runL (bareS s) ((bareS s).plan.length + 1)) := by
 obtain ⟨k, hk⟩ := run_phi s (s.plan.length + 1)
 have hv := ver_phi (s := s) (x := runL s (s.plan.length + 1)) rfl (run_over s)
 have ho : verL (bareS s) (runL (bareS s) k) ≠ 0 := by rw [← hk, hv]; exact run_over s
 rw [over_one (run_over (bareS s)) ho, ← hk, hv]
 exact ⟨rfl, rfl⟩
theorem check_bare (h : checkE s = 0) : checkE (bareS s) = 0 := by
 have h1 : (bareM s.plan).length ≤ s.plan.length := List.length_filter_le _ _
 have h2 : s.plan.all planOk = true → (bareM s.plan).all planOk = true := fun h => List.all_eq_true.2 (fun z hz => List.all_eq_true.1 h z ((List.mem_filter.1 hz).1))
 unfold checkE at h ⊢
 show (if s.t < 1 ∨ 256 < s.t ∨ s.m < 1 ∨ 1048576 < s.m then (1 : Int) else if 8 < s.progs.length ∨ 200 < (bareM s.plan).length ∨ 64 < s.draws.length then 2 else if s.progs.all shortP = false then 2 else if s.progs.length = 0 then 4 else if s.progs.all (progOk s.progs.length) = false then 4 else if (bareM s.plan).all planOk = false then 4 else if s.draws.all drawOk = false then 4 else 0) = 0
 split at h
 ·cases h
 ·rename_i g1
  split at h
  ·cases h
  ·rename_i g2
   rw [if_neg g1, if_neg (by omega)]
   split at h
   ·cases h
   ·rename_i g3
    rw [if_neg g3]
    split at h
    ·cases h
    ·rename_i g4
     rw [if_neg g4]
     split at h
     ·cases h
     ·rename_i g5
      rw [if_neg g5]
      split at h
      ·cases h
      ·rename_i g6
       rw [if_neg (by rw [h2 (by simpa using g6)]; decide)]
       exact h
end
end Go.Proofs.YtcgajljbahbhdaaGreat
namespace Go.Proofs.YtcgajljbahbhdaaGreat
set_option linter.unusedVariables false
set_option linter.unusedSimpArgs false
open Go.RowKit
set_option maxRecDepth 100000
theorem bare_one {w : World} {F : List Piece} {n : Int} {b : Bool} (hb : (n == -1) = b) (H : SL w F) : Calls Tryz.prog 64 #[.int .i64 n] w fun o w' => o = .returned (.bool b) ∧ SL w' F := by
 refine calls_den (args := [_]) Tryz.func64 rfl (Nat.le_of_ble_eq_true (by kernel_rfl)) (by kernel_rfl) ?_
 refine ⟨?_⟩
 refine ⟨?_⟩
 refine BB.k ?_
 refine ret1 (fn := Tryz.f64) (.bool (n == (-1))) rfl (by rfl) ?_
 exact ⟨by rw [← hb], H⟩
def FirstM (xs : List Int) (r : Int) : Prop := (r = -1 ∧ xs.all (fun z : Int => !(z == -1)) = true) ∨ ∃ k : Nat, r = (k : Int) ∧ k < xs.length ∧ (xs.take k).all (fun z : Int => !(z == -1)) = true ∧ xs[k]? = some (-1)
theorem bare_index {w : World} {F : List Piece} {A : Piece} {la : Option Addr} {lc : Nat} {xs : List Int} (hA : Reader A 1 la xs.length (ints xs)) (hn : xs.length ≤ 1000000) (H : SL w (A :: F)) : Calls Tryz.prog 109 #[.slice la xs.length lc, .func (.func 64) #[] #[]] w fun o w' => ∃ r : Int, o = .returned (.int .i64 r) ∧ FirstM xs r ∧ SL w' (A :: F) := by
 refine calls_den (args := [_, _]) Tryz.func109 rfl (Nat.le_of_ble_eq_true (by kernel_rfl)) (by kernel_rfl) ?_
 refine ⟨?_⟩
 refine ⟨?_⟩
 refine ⟨?_⟩
 refine den.loop (ι := Nat) [(4, 5), (8, 18)] (by kernel_rfl) (fun j => [(8, .int .i64 ↑j)]) (fun j w => (j ≤ xs.length ∧ (xs.take j).all (fun z : Int => !(z == -1)) = true) ∧ SL w (A :: F)) (fun j => xs.length - j) 0 ⟨rfl, trivial⟩ ⟨⟨Nat.zero_le _, rfl⟩, H⟩ ?_
 rintro j s w ⟨hc, H⟩
 have hob := Nat.lt_or_ge j xs.length
 rcases hob with hj | hj
 ·skip
  have hob : ∃ z, xs[j]? = some z := ⟨_, List.getElem?_eq_getElem hj⟩
  obtain ⟨z, hz⟩ := hob
  have hob := H.addrR 0 rfl hA (by omega)
  obtain ⟨lb, lf, rfl⟩ := hob
  refine ⟨?_⟩
  refine BB.yes (decide_eq_true (by omega)) ?_
  refine Cn.yes ?_
  refine ⟨?_⟩
  refine ⟨?_⟩
  refine ⟨?_⟩
  refine Ix.at j 1 (by kernel_rfl) (rfl) (hj) ?_
  refine H.ldR 0 rfl hA (by omega) (q := j * 1) (by rfl) (v := .int .i64 z) (int_cell hz) ?_
  have hob := Classical.em (z = -1)
  rcases hob with hm | hm
  ·skip
   refine Cl.sl (by kernel_rfl) (bare_one (beq_iff_eq.2 hm) H) fun w H => ?_
   refine BB.yes rfl ?_
   refine Cn.yes ?_
   refine ⟨?_⟩
   refine ret1 (fn := Tryz.f109) (.int .i64 ↑j) rfl (by rfl) ?_
   exact ⟨(j : Int), rfl, .inr ⟨j, rfl, hj, hc.2, by rw [hz, hm]⟩, H⟩
  ·skip
   refine Cl.sl (by kernel_rfl) (bare_one (beq_eq_false_iff_ne.2 hm) H) fun w H => ?_
   refine BB.no rfl ?_
   refine Cn.no ?_
   refine ⟨?_⟩
   refine IW.by (wrap_id (n := ↑j + 1) (by omega) (by omega)) ?_
   exact ⟨j + 1, ⟨rfl, trivial⟩, ⟨⟨by omega, all_step (p := (fun z : Int => !(z == -1))) hc.2 hz (by simp [hm])⟩, H⟩, (show xs.length - (j + 1) < xs.length - j by omega)⟩
 ·skip
  have hob : j = xs.length := by omega
  obtain rfl := hob
  rw [List.take_length] at hc
  refine ⟨?_⟩
  refine BB.no (decide_eq_false (by omega)) ?_
  refine Cn.no ?_
  refine ⟨?_⟩
  refine ret1 (fn := Tryz.f109) (.int .i64 (-1)) rfl (by rfl) ?_
  exact ⟨-1, rfl, .inl ⟨rfl, hc.2⟩, H⟩
section
variable {xs ys : List Int} {i j k : Nat} {z : Int}
theorem bare_all (h : xs.all (fun z : Int => !(z == -1)) = true) : bareM xs = xs := List.filter_eq_self.2 (fun z hz => List.all_eq_true.1 h z hz)
theorem bare_snoc (hz : xs[j]? = some z) : bareM (xs.take (j + 1)) = bareM (xs.take j) ++ (if z = -1 then [] else [z]) := by
 unfold bareM
 rw [List.take_add_one, hz, Option.toList_some, List.filter_append]
 congr 1
 by_cases h : z = -1 <;> simp [h]
theorem del_init (h : (xs.take k).all (fun z : Int => !(z == -1)) = true) (hz : xs[k]? = some (-1)) : xs.take k = bareM (xs.take (k + 1)) := by
 rw [bare_snoc hz, if_pos rfl, List.append_nil, bare_all h]
theorem drop_at (h2 : ys.drop j = xs.drop j) : ys[j]? = xs[j]? := by
 have := congrArg (fun l => l[0]?) h2
 simpa using this
theorem drop_step (h2 : ys.drop j = xs.drop j) : ys.drop (j + 1) = xs.drop (j + 1) := by
 rw [← List.drop_drop, h2, List.drop_drop]
theorem del_skip (h1 : ys.take i = bareM (xs.take j)) (hz : xs[j]? = some z) (hm : z = -1) : ys.take i = bareM (xs.take (j + 1)) := by
 rw [bare_snoc hz, if_pos hm, List.append_nil, h1]
theorem del_keep (hij : i < j) (hj : j < ys.length) (h1 : ys.take i = bareM (xs.take j)) (hz : xs[j]? = some z) (hm : z ≠ -1) : (ys.set i z).take (i + 1) = bareM (xs.take (j + 1)) := by
 rw [bare_snoc hz, if_neg hm, List.take_add_one, List.getElem?_set_self (by omega), Option.toList_some, List.take_set_of_le (Nat.le_refl i), h1]
theorem del_rest (hij : i < j) (h2 : ys.drop j = xs.drop j) : (ys.set i z).drop (j + 1) = xs.drop (j + 1) := by
 rw [List.drop_set, if_pos (by omega)]
 exact drop_step h2
theorem ints_set (ys : List Int) (i : Nat) (z : Int) : (ints ys).set i (.int .i64 z) = ints (ys.set i z) := by simp [ints, List.map_set]
theorem ints_tk (ys : List Int) (i : Nat) : (ints ys).take i = ints (ys.take i) := by simp [ints, List.map_take]
end
theorem p_delete {w : World} {F : List Piece} {sa : Option Addr} {c : Nat} {xs : List Int} (hn : xs.length ≤ 1000000) (H : SL w (Slc 3 1 (.slice sa xs.length c) xs.length (ints xs) :: F)) : Calls Tryz.prog 63 #[.slice sa xs.length c, .func (.func 64) #[] #[]] w fun o w' => ∃ zs : List Value, o = .returned (.slice sa (bareM xs).length c) ∧ zs.take (bareM xs).length = ints (bareM xs) ∧ (bareM xs).length ≤ xs.length ∧ zs.length = xs.length ∧ SL w' (Slc 3 1 (.slice sa xs.length c) xs.length zs :: F) := by
 refine calls_den (args := [_, _]) Tryz.func63 rfl (Nat.le_of_ble_eq_true (by kernel_rfl)) (by kernel_rfl) ?_
 refine ⟨?_⟩
 refine ⟨?_⟩
 have h1 := H
 refine Cl.by (by kernel_rfl) (bare_index Reader.slc hn h1) ?_
 rintro _ w ⟨r, rfl, hr, H⟩
 refine ⟨_, rfl, ?_⟩
 rcases hr with ⟨rfl, hall⟩ | ⟨k, rfl, hk, hall, hkz⟩
 ·skip
  refine ⟨?_⟩
  refine BB.yes rfl ?_
  refine Cn.yes ?_
  refine ⟨?_⟩
  refine ret1 (fn := Tryz.f63) (.slice sa xs.length c) rfl (by rfl) ?_
  exact ⟨ints xs, by rw [bare_all hall], by rw [bare_all hall, List.take_of_length_le (by simp [ints])], by rw [bare_all hall]; exact Nat.le_refl _, by simp [ints], H⟩
 ·skip
  have hob := SL.slcAddr H (by omega)
  obtain ⟨g, rfl⟩ := hob
  have hcap := SL.slcLe H
  refine ⟨?_⟩
  refine BB.no (beq_eq_false_iff_ne.2 (by omega)) ?_
  refine Cn.no ?_
  refine ⟨?_⟩
  refine IW.by (wrap_id (n := ↑k + 1) (by omega) (by omega)) ?_
  refine ⟨?_⟩
  refine den.loop (ι := Nat × Nat × List Int) [(5, 7), (16, 35)] (by kernel_rfl) (fun (i, j, ys) => [(5, .int .i64 ↑i), (6, .int .i64 ↑j)]) (fun (i, j, ys) w => (i < j ∧ j ≤ xs.length ∧ ys.length = xs.length ∧ ys.take i = bareM (xs.take j) ∧ ys.drop j = xs.drop j) ∧ SL w (Slc 3 1 (.slice (some ⟨g, 0, none⟩) xs.length c) xs.length (ints ys) :: F)) (fun (i, j, ys) => xs.length - j) (k, k + 1, xs) ⟨rfl, rfl, trivial⟩ ⟨⟨by omega, by omega, rfl, del_init hall hkz, rfl⟩, H⟩ ?_
  rintro ⟨i, j, ys⟩ s w ⟨hc, H⟩
  obtain ⟨hij, hjn, hyl, h1, h2⟩ := hc
  have hob := Nat.lt_or_ge j xs.length
  rcases hob with hj | hj
  ·skip
   have hob : ∃ z, xs[j]? = some z := ⟨_, List.getElem?_eq_getElem hj⟩
   obtain ⟨z, hz⟩ := hob
   have hyz : ys[j]? = some z := (drop_at h2).trans hz
   refine ⟨?_⟩
   refine BB.yes (decide_eq_true (by omega)) ?_
   refine Cn.yes ?_
   refine ⟨?_⟩
   refine ⟨?_⟩
   refine Ix.at0 j 1 (by kernel_rfl) (rfl) (hj) ?_
   refine H.ldS 0 rfl (v := .int .i64 z) (int_cell hyz) ?_
   refine ⟨?_⟩
   have hob := Classical.em (z = -1)
   rcases hob with hm | hm
   ·skip
    refine Cl.sl (by kernel_rfl) (bare_one (beq_iff_eq.2 hm) H) fun w H => ?_
    refine BB.yes rfl ?_
    refine BB.no rfl ?_
    refine Cn.no ?_
    refine ⟨?_⟩
    refine IW.by (wrap_id (n := ↑j + 1) (by omega) (by omega)) ?_
    exact ⟨(i, j + 1, ys), ⟨rfl, rfl, trivial⟩, ⟨⟨by omega, by omega, hyl, del_skip h1 hz hm, drop_step h2⟩, H⟩, (show xs.length - (j + 1) < xs.length - j by omega)⟩
   ·skip
    refine Cl.sl (by kernel_rfl) (bare_one (beq_eq_false_iff_ne.2 hm) H) fun w H => ?_
    refine BB.no rfl ?_
    refine BB.yes rfl ?_
    refine Cn.yes ?_
    refine ⟨?_⟩
    refine Ix.at0 i 1 (by kernel_rfl) (rfl) (by omega) ?_
    refine SL.stS (o := i * 1) (u := .int .i64 z) H (by rw [Nat.mul_one]; unfold ints; rw [List.length_map]; omega) rfl fun w H => ?_
    rw [show (ints ys).set (i * 1) (.int .i64 z) = ints (ys.set i z) by rw [Nat.mul_one]; exact ints_set ys i z] at H
    refine ⟨?_⟩
    refine IW.by (wrap_id (n := ↑i + 1) (by omega) (by omega)) ?_
    refine ⟨?_⟩
    refine IW.by (wrap_id (n := ↑j + 1) (by omega) (by omega)) ?_
    exact ⟨(i + 1, j + 1, ys.set i z), ⟨rfl, rfl, trivial⟩, ⟨⟨by omega, by omega, by rw [List.length_set]; exact hyl, del_keep hij (by omega) h1 hz hm, del_rest hij h2⟩, H⟩, (show xs.length - (j + 1) < xs.length - j by omega)⟩
  ·skip
   have hob : j = xs.length := by omega
   obtain rfl := hob
   rw [List.take_length] at h1
   refine ⟨?_⟩
   refine BB.no (decide_eq_false (by omega)) ?_
   refine Cn.no ?_
   refine ⟨?_⟩
   refine Mn.cutA H (.tmp 36) (.tmp 37) 23 (by rfl) (by kernel_rfl) (by kernel_rfl) i rfl rfl (by omega) ?_
   refine Mn.clearS H (.tmp 38) 23 (by rfl) (by kernel_rfl) (z := .int .i64 0) (fun _ => by kernel_rfl) rfl (by decide) i (c - i) (by omega) rfl fun zs w hz1 hz2 H => ?_
   refine ⟨?_⟩
   refine Mn.head (te := 3) (sz := 1) (c := c) (.tmp 39) (.tmp 40) 23 (by rfl) (by kernel_rfl) (by kernel_rfl) i (by omega) (by rfl) (by rfl) ?_
   refine ret1 (fn := Tryz.f63) (.slice (some ⟨g, 0, none⟩) i c) rfl (by rfl) ?_
   have hbl : (bareM xs).length = i := by rw [← h1, List.length_take]; omega
   exact ⟨zs, by rw [hbl], by rw [hbl, hz1, ints_tk, h1], by omega, hz2, H⟩
set_option maxHeartbeats 2000000 in
theorem p_copyK {w : World} {F : List Piece} {A : Piece} {pa la da : Option Addr} {pc lc dc : Nat} {t m : Int} {X : List ProgX} {pl dr : List Int} (hX : 0 < X.length → ∃ b off, pa = some ⟨b, off, none⟩ ∧ ScrA A b off X) (hL : Reader A 1 la pl.length (ints pl)) (hD : Reader A 1 da dr.length (ints dr)) (h4 : ∀ p ∈ X, ∀ o ∈ p.ops, o.op.cases.length ≤ 4) (h32 : ∀ p ∈ X, p.ops.length ≤ 32) (h8 : X.length ≤ 8) (hpl : pl.length ≤ 200) (hdl : dr.length ≤ 64) (H : SL w (A :: F)) : Calls Tryz.prog 36 #[.agg #[.int .i64 t, .int .i64 m, .slice pa X.length pc, .slice la pl.length lc, .slice da dr.length dc]] w fun o w' => ∃ (Z : List ProgX) (va : Option Addr) (vc : Nat) (la' : Option Addr) (lc' : Nat) (da' : Option Addr) (dc' : Nat), progsM Z = progsM X ∧ Z.length = X.length ∧ (∀ p ∈ Z, GoodP p) ∧ (0 < X.length → ∃ b, va = some ⟨b, 0, none⟩) ∧ o = .returned (.agg #[.int .i64 t, .int .i64 m, .slice va Z.length vc, .slice la' pl.length lc', .slice da' dr.length dc']) ∧ SL w' (scrP va vc Z :: Slc 3 1 (.slice la' pl.length lc') pl.length (ints pl) :: Slc 3 1 (.slice da' dr.length dc') dr.length (ints dr) :: A :: F) := by
 refine calls_den (args := [_]) Tryz.func36 rfl (Nat.le_of_ble_eq_true (by kernel_rfl)) (by kernel_rfl) ?_
 refine ⟨?_⟩
 refine Nw.as #[.int .i64 t, .int .i64 m, .slice pa X.length pc, .slice la pl.length lc, .slice da dr.length dc] 25 rfl H fun b1 w H => ?_
 refine Nw.as #[.int .i64 0, .int .i64 0, .slice none 0 0, .slice none 0 0, .slice none 0 0] 25 rfl H fun b2 w H => ?_
 refine ⟨?_⟩
 refine H.ldi 1 rfl (v := .slice pa X.length pc) rfl ?_
 have h1 := H.pick [2, 0, 1] 3 (by decide)
 simp only [pk, nth, pkA, pkB, pkC, pkD, pkE, pkF] at h1
 refine Cl.by (by kernel_rfl) (each_progs hX h4 h32 h8 h1) ?_
 rintro _ w ⟨Z, va, vc, hZ, hzl, hgood, rfl, hva, H⟩
 refine ⟨_, rfl, ?_⟩
 replace H := H.pick [0, 2, 3, 1] 4 (by decide)
 simp only [pk, nth, pkA, pkB, pkC, pkD, pkE, pkF] at H
 refine H.st2 (cs' := #[.int .i64 t, .int .i64 m, .slice va X.length vc, .slice la pl.length lc, .slice da dr.length dc]) rfl rfl rfl fun w H => ?_
 refine ⟨?_⟩
 refine Drw.oft (.calm 0 (.calm 1 (.calm 3 (.calm 4 (.act 2 false (.pure 6 (.act 5 true (.act 7 true (.pure 8 (.act 9 true .nil)))))))))) (by kernel_rfl) mixed (fun w => SL w _) H.drew ?_
 replace H := H.drew
 refine LdC.i 2 rfl (v := .slice la pl.length lc) rfl ?_
 refine LdC.i 2 rfl (v := .slice da dr.length dc) rfl ?_
 have h1 := H.pick [3, 0, 1, 2] 4 (by decide)
 simp only [pk, nth, pkA, pkB, pkC, pkD, pkE, pkF] at h1
 refine Cl.by (by kernel_rfl) (clone_int hL (ints_all _) (by omega) h1) ?_
 rintro _ w ⟨ka1, kc1, rfl, H⟩
 refine ⟨_, rfl, ?_⟩
 replace H := H.pick [0, 2, 3, 4, 1] 5 (by decide)
 simp only [pk, nth, pkA, pkB, pkC, pkD, pkE, pkF] at H
 refine ⟨.inr (H.pick [1, 2, 3, 4] 5 (by decide)), ?_⟩
 have h1 := H.pick [4, 0, 1, 2, 3] 5 (by decide)
 simp only [pk, nth, pkA, pkB, pkC, pkD, pkE, pkF] at h1
 refine Cl.by (by kernel_rfl) (clone_int hD (ints_all _) (by omega) h1) ?_
 rintro _ w ⟨ka2, kc2, rfl, H⟩
 refine ⟨_, rfl, ?_⟩
 replace H := H.pick [0, 2, 3, 4, 5, 1] 6 (by decide)
 simp only [pk, nth, pkA, pkB, pkC, pkD, pkE, pkF] at H
 refine ⟨.inl rfl, ?_⟩
 refine H.st4 (cs' := #[.int .i64 t, .int .i64 m, .slice va X.length vc, .slice ka1 pl.length kc1, .slice da dr.length dc]) rfl rfl rfl fun w H => ?_
 refine ⟨.inl rfl, ?_⟩
 refine H.st4 (cs' := #[.int .i64 t, .int .i64 m, .slice va X.length vc, .slice ka1 pl.length kc1, .slice ka2 dr.length kc2]) rfl rfl rfl fun w H => ?_
 refine ⟨.inl rfl, ?_⟩
 refine ⟨?_⟩
 refine H.ldi 4 rfl (v := .int .i64 t) rfl ?_
 refine H.ldi 4 rfl (v := .int .i64 m) rfl ?_
 refine H.ldi 4 rfl (v := .slice va X.length vc) rfl ?_
 refine H.ldi 4 rfl (v := .slice ka1 pl.length kc1) rfl ?_
 refine H.ldi 4 rfl (v := .slice ka2 dr.length kc2) rfl ?_
 refine H.st3 (cs' := #[.int .i64 t, .int .i64 0, .slice none 0 0, .slice none 0 0, .slice none 0 0]) rfl rfl rfl fun w H => ?_
 refine H.st3 (cs' := #[.int .i64 t, .int .i64 m, .slice none 0 0, .slice none 0 0, .slice none 0 0]) rfl rfl rfl fun w H => ?_
 refine H.st3 (cs' := #[.int .i64 t, .int .i64 m, .slice va X.length vc, .slice none 0 0, .slice none 0 0]) rfl rfl rfl fun w H => ?_
 refine H.st3 (cs' := #[.int .i64 t, .int .i64 m, .slice va X.length vc, .slice ka1 pl.length kc1, .slice none 0 0]) rfl rfl rfl fun w H => ?_
 refine H.st3 (cs' := #[.int .i64 t, .int .i64 m, .slice va X.length vc, .slice ka1 pl.length kc1, .slice ka2 dr.length kc2]) rfl rfl rfl fun w H => ?_
 refine retC (fn := Tryz.f36) H 3 rfl rfl (by rfl) (by kernel_rfl) (by kernel_rfl) ?_
 exact ⟨Z, va, vc, ka1, kc1, ka2, kc2, hZ, hzl, hgood, hva, by rw [hzl], H.pick [2, 1, 0, 5] 6 (by decide)⟩
set_option maxHeartbeats 2000000 in
theorem p_sheetBare {w : World} {F : List Piece} {A : Piece} {pa la da : Option Addr} {pc lc dc : Nat} {t m : Int} {X : List ProgX} {pl dr : List Int} (hX : 0 < X.length → ∃ b off, pa = some ⟨b, off, none⟩ ∧ ScrA A b off X) (hL : Reader A 1 la pl.length (ints pl)) (hD : Reader A 1 da dr.length (ints dr)) (h4 : ∀ p ∈ X, ∀ o ∈ p.ops, o.op.cases.length ≤ 4) (h32 : ∀ p ∈ X, p.ops.length ≤ 32) (h8 : X.length ≤ 8) (hpl : pl.length ≤ 200) (hdl : dr.length ≤ 64) (H : SL w (A :: F)) : Calls Tryz.prog 31 #[.agg #[.int .i64 t, .int .i64 m, .slice pa X.length pc, .slice la pl.length lc, .slice da dr.length dc]] w fun o w' => ∃ (Z : List ProgX) (va : Option Addr) (vc : Nat) (la' : Option Addr) (lc' : Nat) (da' : Option Addr) (dc' : Nat) (zs : List Value), progsM Z = progsM X ∧ Z.length = X.length ∧ (∀ p ∈ Z, GoodP p) ∧ (0 < X.length → ∃ b, va = some ⟨b, 0, none⟩) ∧ zs.take (bareM pl).length = ints (bareM pl) ∧ (bareM pl).length ≤ pl.length ∧ zs.length = pl.length ∧ o = .returned (.agg #[.int .i64 t, .int .i64 m, .slice va Z.length vc, .slice la' (bareM pl).length lc', .slice da' dr.length dc']) ∧ SL w' (scrP va vc Z :: Slc 3 1 (.slice la' pl.length lc') pl.length zs :: Slc 3 1 (.slice da' dr.length dc') dr.length (ints dr) :: A :: F) := by
 refine calls_den (args := [_]) Tryz.func31 rfl (Nat.le_of_ble_eq_true (by kernel_rfl)) (by kernel_rfl) ?_
 refine ⟨?_⟩
 refine Nw.as #[.int .i64 t, .int .i64 m, .slice pa X.length pc, .slice la pl.length lc, .slice da dr.length dc] 25 rfl H fun b1 w H => ?_
 refine Nw.as #[.int .i64 0, .int .i64 0, .slice none 0 0, .slice none 0 0, .slice none 0 0] 25 rfl H fun b2 w H => ?_
 refine ⟨?_⟩
 refine H.ldi 1 rfl (v := .int .i64 t) rfl ?_
 refine H.ldi 1 rfl (v := .int .i64 m) rfl ?_
 refine H.ldi 1 rfl (v := .slice pa X.length pc) rfl ?_
 refine H.ldi 1 rfl (v := .slice la pl.length lc) rfl ?_
 refine H.ldi 1 rfl (v := .slice da dr.length dc) rfl ?_
 have h1 := H.pick [2, 0, 1] 3 (by decide)
 simp only [pk, nth, pkA, pkB, pkC, pkD, pkE, pkF] at h1
 refine Cl.by (by kernel_rfl) (p_copyK hX hL hD h4 h32 h8 hpl hdl h1) ?_
 rintro _ w ⟨Z, va, vc, la', lc', da', dc', hZ, hzl, hgood, hva, rfl, H⟩
 refine ⟨_, rfl, ?_⟩
 replace H := H.pick [0, 1, 2, 4, 5, 3] 6 (by decide)
 simp only [pk, nth, pkA, pkB, pkC, pkD, pkE, pkF] at H
 refine H.st4 (cs' := #[.int .i64 t, .int .i64 m, .slice pa X.length pc, .slice la pl.length lc, .slice da dr.length dc]) rfl rfl rfl fun w H => ?_
 refine H.st4 (cs' := #[.int .i64 t, .int .i64 m, .slice pa X.length pc, .slice la pl.length lc, .slice da dr.length dc]) rfl rfl rfl fun w H => ?_
 refine H.st4 (cs' := #[.int .i64 t, .int .i64 m, .slice va Z.length vc, .slice la pl.length lc, .slice da dr.length dc]) rfl rfl rfl fun w H => ?_
 refine H.st4 (cs' := #[.int .i64 t, .int .i64 m, .slice va Z.length vc, .slice la' pl.length lc', .slice da dr.length dc]) rfl rfl rfl fun w H => ?_
 refine H.st4 (cs' := #[.int .i64 t, .int .i64 m, .slice va Z.length vc, .slice la' pl.length lc', .slice da' dr.length dc']) rfl rfl rfl fun w H => ?_
 refine ⟨?_⟩
 refine H.ldi 4 rfl (v := .slice la' pl.length lc') rfl ?_
 have h1 := H.pick [1, 0, 2, 3, 4, 5] 6 (by decide)
 simp only [pk, nth, pkA, pkB, pkC, pkD, pkE, pkF] at h1
 refine Cl.by (by kernel_rfl) (p_delete (by omega) h1) ?_
 rintro _ w ⟨zs, rfl, hzs, hbl, hzn, H⟩
 refine ⟨_, rfl, ?_⟩
 replace H := H.pick [1, 0, 2, 3, 4, 5] 6 (by decide)
 simp only [pk, nth, pkA, pkB, pkC, pkD, pkE, pkF] at H
 refine H.st4 (cs' := #[.int .i64 t, .int .i64 m, .slice va Z.length vc, .slice la' ((bareM pl).length) lc', .slice da' dr.length dc']) rfl rfl rfl fun w H => ?_
 refine ⟨?_⟩
 refine H.ldi 4 rfl (v := .int .i64 t) rfl ?_
 refine H.ldi 4 rfl (v := .int .i64 m) rfl ?_
 refine H.ldi 4 rfl (v := .slice va Z.length vc) rfl ?_
 refine H.ldi 4 rfl (v := .slice la' ((bareM pl).length) lc') rfl ?_
 refine H.ldi 4 rfl (v := .slice da' dr.length dc') rfl ?_
 refine H.st3 (cs' := #[.int .i64 t, .int .i64 0, .slice none 0 0, .slice none 0 0, .slice none 0 0]) rfl rfl rfl fun w H => ?_
 refine H.st3 (cs' := #[.int .i64 t, .int .i64 m, .slice none 0 0, .slice none 0 0, .slice none 0 0]) rfl rfl rfl fun w H => ?_
 refine H.st3 (cs' := #[.int .i64 t, .int .i64 m, .slice va Z.length vc, .slice none 0 0, .slice none 0 0]) rfl rfl rfl fun w H => ?_
 refine H.st3 (cs' := #[.int .i64 t, .int .i64 m, .slice va Z.length vc, .slice la' ((bareM pl).length) lc', .slice none 0 0]) rfl rfl rfl fun w H => ?_
 refine H.st3 (cs' := #[.int .i64 t, .int .i64 m, .slice va Z.length vc, .slice la' ((bareM pl).length) lc', .slice da' dr.length dc']) rfl rfl rfl fun w H => ?_
 refine retC (fn := Tryz.f31) H 3 rfl rfl (by rfl) (by kernel_rfl) (by kernel_rfl) ?_
 exact ⟨Z, va, vc, la', lc', da', dc', zs, hZ, hzl, hgood, hva, hzs, hbl, hzn, rfl, H.pick [0, 1, 2, 5] 6 (by decide)⟩
end Go.Proofs.YtcgajljbahbhdaaGreat
