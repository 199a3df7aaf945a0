/- Texts of the proof. -/
import Derived.Test.YtoamjodmidbmbaaGreatDoorX07
set_option linter.unusedVariables false
set_option linter.unusedSimpArgs false
namespace Go.Proofs.YtoamjodmidbmbaaGreatDoor
open Go.RowKit
def drawI (dr : List Int) (d n : Nat) : Nat × Nat := if n = 1 ∨ dr.length ≤ d then (0, d) else ((dr.getD d 0).toNat % n, d + 1)
theorem drawL_I (s : ScrM) (x : LmM) (n : Nat) : drawL s x n = ((drawI s.draws x.d n).1, { x with d := (drawI s.draws x.d n).2 }) := by
 unfold drawL drawI
 split <;> rfl
theorem drawI_lt (dr : List Int) (d : Nat) {n : Nat} (h : 0 < n) : (drawI dr d n).1 < n := by
 unfold drawI
 split
 ·exact h
 ·exact Nat.mod_lt _ h
theorem readyL_at {ok : List Bool} {M : List PipeM} {L : List CaseM} {i : Nat} (h : i < (readyL ok M L).length) : ∃ a : Nat, (readyL ok M L).getD i 0 = (a : Int) ∧ a < L.length := by
 have hm : (readyL ok M L)[i]? = some (readyL ok M L)[i] := List.getElem?_eq_getElem h
 have h1 : (readyL ok M L)[i] ∈ readyL ok M L := List.getElem_mem h
 rw [List.getD_eq_getElem?_getD, hm]
 generalize (readyL ok M L)[i] = z at h1
 unfold readyL readyK at h1
 obtain ⟨a, ha, rfl⟩ := List.mem_map.1 h1
 exact ⟨a, rfl, List.mem_range.1 (List.mem_filter.1 ha).1⟩
theorem readyL_len (ok : List Bool) (M : List PipeM) (L : List CaseM) : (readyL ok M L).length ≤ L.length := readyK_le ok M L L.length
theorem choose_ready {s : ScrM} {x : LmM} {g : Int} {o : OpM} {rd : List Int} {an : Nat} {cz : CaseM} (hrd : readyL (okN x) (pipesN x) o.cases = rd) (hr : 0 < rd.length) (han : rd.getD (drawI s.draws x.d rd.length).1 0 = (an : Int)) (hcz : o.cases[an]? = some cz) :
  chooseL s x g o = talkL { x with d := (drawI s.draws x.d rd.length).2 } g cz (an : Int) := by
 unfold chooseL
 dsimp only
 rw [hrd, if_pos hr, drawL_I]
 dsimp only
 rw [han, Int.toNat_natCast, List.getD_eq_getElem?_getD, hcz]
 rfl
theorem choose_dflt {s : ScrM} {x : LmM} {g : Int} {o : OpM} (hr : ¬ 0 < (readyL (okN x) (pipesN x) o.cases).length) (hd : o.dflt = true) : chooseL s x g o = turnL (noteL x (bareE 8 g)) g 0 0 := by
 unfold chooseL
 dsimp only
 rw [if_neg hr, if_pos hd]
theorem choose_park {s : ScrM} {x : LmM} {g : Int} {o : OpM} (hr : ¬ 0 < (readyL (okN x) (pipesN x) o.cases).length) (hd : o.dflt = false) :
  chooseL s x g o = turnL { noteL x ⟨6, g, -1, (o.cases.length : Int), 0, -1, false, false⟩ with M := backN (noteL x ⟨6, g, -1, (o.cases.length : Int), 0, -1, false, false⟩).name (parkF (okN (noteL x ⟨6, g, -1, (o.cases.length : Int), 0, -1, false, false⟩)) g o.cases (pipesN (noteL x ⟨6, g, -1, (o.cases.length : Int), 0, -1, false, false⟩))).2 (noteL x ⟨6, g, -1, (o.cases.length : Int), 0, -1, false, false⟩).M } g 0 1 := by
 unfold chooseL
 dsimp only
 rw [if_neg hr, if_neg (by rw [hd]; exact Bool.false_ne_true)]
 rfl
namespace Lk
variable {np k : Nat} {x : LmM}
theorem spawn (h : Lk np k x) {a : Int} (h0 : 0 ≤ a) (h1 : a < (np : Int)) : Lk np k { x with crew := (spawnF x.crew a).2 } := by
 have hs : (spawnF x.crew a).2 = x.crew ∨ ((spawnF x.crew a).2 = x.crew ++ [⟨a, 0, 0⟩] ∧ x.crew.length ≠ 512) := by
  unfold spawnF
  rw [if_neg (by omega)]
  split
  ·exact .inl rfl
  ·rename_i hn
   exact .inr ⟨rfl, hn⟩
 rcases hs with hs | ⟨hs, hn⟩
 ·rw [hs]
  exact h
 ·rw [hs]
  have := h.cl
  refine { h with sm := ?_, cl := ?_, pr := ?_, wt := ?_ }
  ·intro o ho
   rcases List.mem_append.1 ho with ho | ho
   ·exact h.sm o ho
   ·simp at ho
    subst ho
    exact ⟨Int.le_refl _, Int.natCast_nonneg k⟩
  ·show (x.crew ++ [(⟨a, 0, 0⟩ : One)]).length ≤ 512
   simp
   omega
  ·intro o ho
   rcases List.mem_append.1 ho with ho | ho
   ·exact h.pr o ho
   ·simp at ho
    subst ho
    exact ⟨h0, h1⟩
  ·intro y hy b hb
   have := h.wt y hy b hb
   show 0 ≤ b.g ∧ b.g < ((x.crew ++ [(⟨a, 0, 0⟩ : One)]).length : Int)
   simp
   omega
theorem make (h : Lk np k x) {a b : Nat} (ha : a < 8) (hb : b ≤ 4) : Lk np (k + 1) { x with M := x.M ++ [emptyM b], name := x.name.set a x.M.length } := by
 refine { h.more (Nat.le_succ k) with nm := ?_, n8 := ?_, inv := ?_, wt := ?_, ml := ?_ }
 ·refine ⟨fun n hn => ?_, ?_⟩
  ·show n < ((x.M ++ [emptyM b]).length : Int)
   rcases List.mem_or_eq_of_mem_set hn with hn | rfl
   ·have := h.nm.lt n hn
    simp
    omega
   ·simp
    omega
  ·rw [List.pairwise_iff_getElem]
   intro i j hi hj hij
   have hp := List.pairwise_iff_getElem.1 h.nm.ne i j (by simpa using hi) (by simpa using hj) hij
   simp only [List.length_set] at hi hj
   simp only [List.getElem_set]
   have hli := h.nm.lt _ (List.getElem_mem hi)
   have hlj := h.nm.lt _ (List.getElem_mem hj)
   intro h0
   split <;> split <;> omega
 ·show (x.name.set a _).length = 8
  rw [List.length_set]
  exact h.n8
 ·intro y hy
  rcases List.mem_append.1 hy with hy | hy
  ·exact (h.inv y hy).more (Nat.le_succ k)
  ·simp at hy
   subst hy
   exact (Inv9.empty hb).more (Nat.zero_le _)
 ·intro y hy c hc
  rcases List.mem_append.1 hy with hy | hy
  ·exact h.wt y hy c hc
  ·simp at hy
   subst hy
   simp [emptyM] at hc
 ·show (x.M ++ [emptyM b]).length ≤ k + 1
  have := h.ml
  simp
  omega
theorem talk (h : Lk np k x) (g : Int) (c : CaseM) (a : Int) : Lk np (k + 4) (talkL x g c a) := by
 have h1 := h.tried c
 unfold talkL
 dsimp only
 split
 ·exact (h1.panic g).more (by omega)
 ·split
  ·exact (((h1.note _).turn g 0 0).wake _)
  ·exact ((h1.note _).turn g 0 0).more (by omega)
theorem alone (h : Lk np k x) {g : Int} (hg : 0 ≤ g ∧ g < (x.crew.length : Int)) (c : CaseM) : Lk np (k + 4) (aloneL x g c) := by
 unfold aloneL
 dsimp only
 split
 ·exact h.talk g c _
 ·have h1 := h.note ⟨6, g, numL x c.chan, -1, c.value, -1, c.send, false⟩
  split
  ·rename_i h0
   by_cases hi : (numL x c.chan).toNat < (noteL x ⟨6, g, numL x c.chan, -1, c.value, -1, c.send, false⟩).M.length
   ·exact ((h1.waited hi c.send (m := ⟨g, -1, c.value⟩) hg).turn g 0 1).more (by omega)
   ·rw [List.set_eq_of_length_le (by omega)]
    exact (h1.turn g 0 1).more (by omega)
  ·exact (h1.turn g 0 1).more (by omega)
theorem shut (h : Lk np k x) (g c : Int) : Lk np (k + 1100) (shutL x g c) := by
 unfold shutL
 dsimp only
 split
 ·exact (h.panic g).more (by omega)
 ·split
  ·exact (h.panic g).more (by omega)
  ·by_cases hi : (numL x c).toNat < x.M.length
   ·have h1 := ((h.closed hi).note ⟨5, g, numL x c, -1, -1, -1, false, false⟩).turn g 0 0
    have hl := (close_in h hi).2.2.1
    exact ((h1.wakes g (numL x c) _).sends _).more (by omega)
   ·have e : x.M.getD (numL x c).toNat (emptyM 0) = emptyM 0 := by rw [List.getD_eq_getElem?_getD, List.getElem?_eq_none (by omega)]; rfl
    rw [List.set_eq_of_length_le (by omega), e]
    have h1 := (h.note ⟨5, g, numL x c, -1, -1, -1, false, false⟩).turn g 0 0
    exact ((h1.wakes g (numL x c) []).sends []).more (by simp)
theorem choose (h : Lk np k x) {g : Int} (hg : 0 ≤ g ∧ g < (x.crew.length : Int)) (s : ScrM) (o : OpM) : Lk np (k + 4) (chooseL s x g o) := by
 unfold chooseL
 dsimp only
 split
 ·rw [drawL_I]
  exact (h.dd _).talk g _ _
 ·split
  ·exact ((h.note _).turn g 0 0).more (by omega)
  ·have h1 := h.note ⟨6, g, -1, (o.cases.length : Int), 0, -1, false, false⟩
   refine ((h1.back (j := k + 1) (AllInv.parkF (M := pipesN x) ?_ ?_ g o.cases) (WtIn.parkF (M := pipesN x) ?_ _ hg o.cases) (Nat.le_refl _)).turn g 0 1).more (by omega)
   ·exact h1.inv.named
   ·rw [h.pipes_len, h.ok_len]
   ·exact h.wt.named
theorem other (h : Lk np k x) {o : OpM} (ho : OpOk np o) (g : Int) : Lk np (k + 4) (otherL x g o) := by
 unfold otherL
 split
 ·rename_i h1
  exact (((h.spawn ho.a0 (ho.pr h1)).note _).turn g 0 0).more (by omega)
 ·split
  ·rename_i h2
   have ha := ho.a0; have ha1 := ho.a1; have hb := ho.cap h2
   exact (((h.make (a := o.a.toNat) (b := o.b.toNat) (by omega) (by omega)).note _).turn g 0 0).more (by omega)
  ·split
   ·exact ((h.note _).turn g 0 0).more (by omega)
   ·split
    ·exact ((h.note _).turn g 0 0).more (by omega)
    ·exact ((h.turn g 0 2).note _).more (by omega)
theorem does (h : Lk np k x) {g : Int} (hg : 0 ≤ g ∧ g < (x.crew.length : Int)) {o : OpM} (ho : OpOk np o) (s : ScrM) : Lk np (k + 1100) (doesL s x g o) := by
 unfold doesL
 split
 ·exact (h.alone hg _).more (by omega)
 ·split
  ·exact (h.alone hg _).more (by omega)
  ·split
   ·exact h.shut g _
   ·split
    ·exact (h.choose hg s o).more (by omega)
    ·exact (h.other ho g).more (by omega)
end Lk
theorem over_able {L : List One} (h : overF L = 0) : 0 < (ableF L).length := by
 unfold overF at h
 split at h
 ·assumption
 ·split at h <;> cases h
theorem ver_zero {s : ScrM} {x : LmM} (h : verL s x = 0) : x.pan = false ∧ overF x.crew = 0 ∧ x.p < s.plan.length := by
 unfold verL at h
 split at h
 ·cases h
 ·rename_i hp
  split at h
  ·rename_i ho
   exact absurd h ho
  ·rename_i ho
   split at h
   ·cases h
   ·exact ⟨by simpa using hp, by simpa using ho, by omega⟩
theorem who_in {s : ScrM} {x : LmM} (h : verL s x = 0) (h0 : ¬ whoL s x < 0) : 0 ≤ whoL s x ∧ whoL s x < (x.crew.length : Int) := by
 obtain ⟨_, ho, _⟩ := ver_zero h
 have ha := over_able ho
 refine ⟨by omega, ?_⟩
 unfold whoL at h0 ⊢
 split at h0
 ·omega
 ·rename_i hn
  rw [if_neg hn]
  have hm : (s.plan.getD x.p 0).toNat % (ableF x.crew).length < (ableF x.crew).length := Nat.mod_lt _ ha
  rw [List.getD_eq_getElem?_getD, List.getElem?_eq_getElem hm]
  exact (ableF_in x.crew x.crew.length _ (List.getElem_mem hm)).2
theorem Lk.step {np k : Nat} {s : ScrM} {x : LmM} (h : Lk np k x) (hs : ProgsOk s.progs) (hn : s.progs.length = np) (h1 : 1 ≤ np) : Lk np (k + 1100) (stepL s x) := by
 unfold stepL
 split
 ·exact h.more (by omega)
 ·rename_i hv
  have hv : verL s x = 0 := Classical.byContradiction hv
  split
  ·exact ((h.pp _).note _).more (by omega)
  ·rename_i h0
   have hw := who_in hv h0
   subst hn
   exact (h.pp (x.p + 1)).does hw (opL_ok hs h1 x _) s
theorem Lk.new (np : Nat) (h : 1 ≤ np) : Lk np 0 newL where
 nm := ⟨fun n hn => by
  have : n = -1 := List.eq_of_mem_replicate hn
  rw [this]
  exact Int.lt_of_lt_of_le (by decide) (Int.natCast_nonneg _), by
  show (List.replicate 8 (-1 : Int)).Pairwise _
  exact List.pairwise_replicate.2 (.inr (fun h => by omega))⟩
 n8 := rfl
 inv := fun x hx => absurd hx List.not_mem_nil
 sm := fun o ho => by
  obtain rfl : o = ⟨0, 0, 0⟩ := List.mem_singleton.1 ho
  exact ⟨Int.le_refl _, Int.le_refl _⟩
 cl := by decide
 pr := fun o ho => by
  obtain rfl : o = ⟨0, 0, 0⟩ := List.mem_singleton.1 ho
  exact ⟨Int.le_refl _, by dsimp only; omega⟩
 tr := Nat.le_refl _
 wt := fun y hy => absurd hy List.not_mem_nil
 ml := Nat.le_refl _
theorem Lk.run {np : Nat} {s : ScrM} (hs : ProgsOk s.progs) (hn : s.progs.length = np) (h1 : 1 ≤ np) : ∀ n, Lk np (n * 1100) (runL s n)
 | 0 => Lk.new np h1
 | n + 1 => ((Lk.run hs hn h1 n).step hs hn h1).more (by omega)
theorem rs_snoc {w : World} {F : List Piece} {P : Nat → PipeM → Piece} {ps : List Nat} {M : List PipeM} {h : Nat} {y : PipeM} (hl : ps.length = M.length) (H : SL w (P h y :: all (List.zipWith (pieceO P) (ps.map some) M) :: F)) : SL w (all (List.zipWith (pieceO P) ((ps ++ [h]).map some) (M ++ [y])) :: F) := by
 rw [List.map_append, List.zipWith_append (by simp [hl])]
 obtain ⟨T, t1, t2, T2, u1, u2, h3⟩ := H.up1
 refine ⟨fun k => T k ∨ T2 k, fun k hk => hk.elim (t1 k) (fun h => (u1 k h).1), ?_, h3.mono (fun k hk => ⟨hk.1.1, fun h => h.elim hk.1.2 hk.2⟩)⟩
 exact SLs.app.2 ⟨T, fun k hk => .inl hk, t2, ⟨T2, fun k hk => ⟨.inr hk, fun h => (u1 k hk).2 h⟩, u2, trivial⟩⟩
theorem name_set {n0 n1 n2 n3 n4 n5 n6 n7 v : Int} {x : LmM} (hn : x.name = [n0, n1, n2, n3, n4, n5, n6, n7]) (j : Nat) (hj : j < 8) : ∃ m0 m1 m2 m3 m4 m5 m6 m7, x.name.set j v = [m0, m1, m2, m3, m4, m5, m6, m7] ∧ ∀ (a0 a1 a2 a3 a4 a5 a6 a7 tv pv : Value),
  #[a0, a1, a2, a3, a4, a5, a6, a7, .int .i64 n0, .int .i64 n1, .int .i64 n2, .int .i64 n3, .int .i64 n4, .int .i64 n5, .int .i64 n6, .int .i64 n7, tv, pv].setIfInBounds (8 + j * 1) (.int .i64 v) =
   #[a0, a1, a2, a3, a4, a5, a6, a7, .int .i64 m0, .int .i64 m1, .int .i64 m2, .int .i64 m3, .int .i64 m4, .int .i64 m5, .int .i64 m6, .int .i64 m7, tv, pv] := by
 rw [hn]
 match j, hj with
 | 0, _ | 1, _ | 2, _ | 3, _ | 4, _ | 5, _ | 6, _ | 7, _ => exact ⟨_, _, _, _, _, _, _, _, rfl, fun _ _ _ _ _ _ _ _ _ _ => rfl⟩
end Go.Proofs.YtoamjodmidbmbaaGreatDoor
namespace Go.Proofs.YtoamjodmidbmbaaGreatDoor
open Go.RowKit
set_option maxRecDepth 100000
theorem r_draw {w : World} {F : List Piece} {A : Piece} {hb d n dc : Nat} {vl : Value} {p : Int} {da : Option Addr} {dr : List Int} (hA : Reader A 1 da dr.length (ints dr)) (hge : ∀ z ∈ dr, 0 ≤ z) (hn1 : 1 ≤ n) (hn : n ≤ 64) (hdb : d ≤ 1000)
  (H : SL w (row hb #[vl, .slice da dr.length dc, .int .i64 p, .int .i64 (d : Int)] 166 :: A :: F)) : Calls Tryz.prog 143 #[.pointer (some ⟨hb, 0, none⟩), .int .i64 (n : Int)] w fun o w' => o = .returned (.tuple #[.int .i64 ((drawI dr d n).1 : Int), .int .i64 0]) ∧
   SL w' (row hb #[vl, .slice da dr.length dc, .int .i64 p, .int .i64 ((drawI dr d n).2 : Int)] 166 :: A :: F) := by
 rcases Nat.decEq n 1 with hn' | hn
 ·rcases Nat.lt_or_ge d dr.length with hd' | hd
  ·obtain ⟨z, hz⟩ : ∃ z, dr[d]? = some z := ⟨_, get_of hd'⟩
   have hz0 := hge z (List.mem_of_getElem? hz)
   have hzm : z % (n : Int) = ((z.toNat % n : Nat) : Int) := by obtain ⟨k, rfl⟩ := Int.eq_ofNat_of_zero_le hz0; simp
   obtain ⟨dab, dao, rfl⟩ := H.addrR 1 rfl hA (by omega)
   refine calls_d (args := [_, _]) Tryz.func143 rfl ?_
   refine ⟨⟨BB.nd ?_⟩⟩
   refine BB.nd (Cn.no (⟨Drw.of [(0, true), (1, true), (2, true), (3, true), (4, true), (5, true), (6, true), (7, true), (8, true), (9, true), (10, true), (11, true), (12, true), (13, true)] (by kernel_rfl) mixed (fun w => SL w _) H.drew ?_⟩))
   replace H := H.drew
   refine BB.no (beq_eq_false_iff_ne.2 (by omega)) (LdC.i 0 rfl (v := .int .i64 ↑d) rfl (LdC.i 0 rfl (v := .slice (some ⟨dab, dao, none⟩) dr.length dc) rfl (BB.nd (Cn.no (⟨H.ldi 0 rfl (v := .int .i64 ↑d) rfl ?_⟩)))))
   refine IW.by (m := ↑(d + 1)) ((wrap_id (by omega) (by omega)).trans (by simp)) (H.st0 (cs' := #[vl, .slice (some ⟨dab, dao, none⟩) dr.length dc, .int .i64 p, .int .i64 (↑(d + 1))]) rfl rfl rfl fun w H => ?_)
   refine ⟨Drw.of [(0, true), (1, true), (2, true), (3, true), (4, true), (5, true), (6, true), (7, true), (8, true), (9, true), (10, true), (11, true), (12, true), (13, true), (14, true)] (by kernel_rfl) mixed (fun w => SL w _) H.drew ?_⟩
   replace H := H.drew
   refine LdC.i 0 rfl (v := .slice (some ⟨dab, dao, none⟩) dr.length dc) rfl (LdC.i 0 rfl (v := .int .i64 (↑(d + 1))) rfl (IW.by (m := ↑d) ((wrap_id (by omega) (by omega)).trans (by omega)) (Ix.at d 1 (by kernel_rfl) (rfl) (hd') ?_)))
   refine LdC.R 1 rfl hA (by omega) (q := d * 1) (by rfl) (v := .int .i64 z) (by rw [Nat.mul_one]; unfold ints; rw [List.getElem?_map, hz]; rfl) ?_
   refine MnC.rem (.tmp 44) (.tmp 45) 3 3 (by rfl) z ↑n (by rfl) (by rfl) ((by omega)) ((by omega)) (↑(z.toNat % n)) (hzm) ?_
   refine ret2 (.int .i64 (↑(z.toNat % n))) (.int .i64 0) rfl (by rfl) (by rfl) ?_
   have hc : drawI dr d n = (z.toNat % n, d + 1) := by unfold drawI; rw [if_neg (by omega), List.getD_eq_getElem?_getD, hz]; rfl
   rw [hc]
   exact ⟨rfl, H.pi [0, 1] 2⟩
  refine calls_d (args := [_, _]) Tryz.func143 rfl ?_
  refine ⟨⟨BB.nd ?_⟩⟩
  refine BB.nd (Cn.no (⟨Drw.of [(0, true), (1, true), (2, true), (3, true), (4, true), (5, true), (6, true), (7, true), (8, true), (9, true), (10, true), (11, true), (12, true), (13, true)] (by kernel_rfl) mixed (fun w => SL w _) H.drew ?_⟩))
  replace H := H.drew
  refine BB.no (beq_eq_false_iff_ne.2 (by omega)) (LdC.i 0 rfl (v := .int .i64 ↑d) rfl (LdC.i 0 rfl (v := .slice da dr.length dc) rfl (BB.yd (Cn.yes (⟨ret2 (.int .i64 0) (.int .i64 0) rfl (by rfl) (by rfl) ?_⟩)))))
  have hc : drawI dr d n = (0, d) := by unfold drawI; rw [if_pos (.inr hd)]
  rw [hc]
  exact ⟨rfl, H.pi [0, 1] 2⟩
 refine calls_d (args := [_, _]) Tryz.func143 rfl ?_
 refine ⟨⟨BB.nd ?_⟩⟩
 refine BB.nd (Cn.no (⟨Drw.of [(0, true), (1, true), (2, true), (3, true), (4, true), (5, true), (6, true), (7, true), (8, true), (9, true), (10, true), (11, true), (12, true), (13, true)] (by kernel_rfl) mixed (fun w => SL w _) H.drew ?_⟩))
 replace H := H.drew
 refine BB.yes (beq_iff_eq.2 (by omega)) (Cn.yes (⟨ret2 (.int .i64 0) (.int .i64 0) rfl (by rfl) (by rfl) ?_⟩))
 have hc : drawI dr d n = (0, d) := by unfold drawI; rw [if_pos (.inl hn)]
 rw [hc]
 exact ⟨rfl, H.pi [0, 1] 2⟩
theorem r_next06 {w : World} {F : List Piece} {A : Piece} {hb p lc : Nat} {vd : Value} {d : Int} {la : Option Addr} {plz : List Int} (hA : Reader A 1 la plz.length (ints plz)) (hp : p < plz.length) (hpb : p ≤ 1000)
  (H : SL w (row hb #[.slice la plz.length lc, vd, .int .i64 (p : Int), .int .i64 d] 166 :: A :: F)) : Calls Tryz.prog 102 #[.pointer (some ⟨hb, 0, none⟩)] w fun o w' => o = .returned (.tuple #[.int .i64 (plz.getD p 0), .bool true]) ∧
   SL w' (row hb #[.slice la plz.length lc, vd, .int .i64 ((p + 1 : Nat) : Int), .int .i64 d] 166 :: A :: F) := by
 obtain ⟨z, hz⟩ : ∃ z, plz[p]? = some z := ⟨_, get_of hp⟩
 rw [show plz.getD p 0 = z by rw [List.getD_eq_getElem?_getD, hz]; rfl]
 obtain ⟨lab, lao, rfl⟩ := H.addrR 1 rfl hA (by omega)
 refine calls_d (args := [_]) Tryz.func102 rfl ?_
 refine ⟨⟨Drw.of [(0, true), (1, true), (2, true), (3, true), (4, true), (5, true), (6, true), (7, true), (8, true), (9, true)] (by kernel_rfl) mixed (fun w => SL w _) H.drew ?_⟩⟩
 replace H := H.drew
 refine LdC.i 0 rfl (v := .int .i64 ↑p) rfl (LdC.i 0 rfl (v := .slice (some ⟨lab, lao, none⟩) plz.length lc) rfl (BB.nd (Cn.no (⟨H.ldi 0 rfl (v := .int .i64 ↑p) rfl ?_⟩))))
 refine IW.by (m := ↑(p + 1)) ((wrap_id (by omega) (by omega)).trans (by simp)) (H.st0 (cs' := #[.slice (some ⟨lab, lao, none⟩) plz.length lc, vd, .int .i64 (↑(p + 1)), .int .i64 d]) rfl rfl rfl fun w H => ?_)
 refine ⟨Drw.of [(0, true), (1, true), (2, true), (3, true), (4, true), (5, true), (6, true), (7, true), (8, true), (9, true), (10, true), (11, true), (12, true)] (by kernel_rfl) mixed (fun w => SL w _) H.drew ?_⟩
 replace H := H.drew
 refine LdC.i 0 rfl (v := .slice (some ⟨lab, lao, none⟩) plz.length lc) rfl (LdC.i 0 rfl (v := .int .i64 (↑(p + 1))) rfl (IW.by (m := ↑p) ((wrap_id (by omega) (by omega)).trans (by omega)) (Ix.at p 1 (by kernel_rfl) (rfl) (hp) ?_)))
 refine LdC.R 1 rfl hA (by omega) (q := p * 1) (by rfl) (v := .int .i64 z) (by rw [Nat.mul_one]; unfold ints; rw [List.getElem?_map, hz]; rfl) ?_
 refine ret2 (.int .i64 z) (.bool true) rfl (by rfl) (by rfl) ?_
 exact ⟨rfl, H.pi [0, 1] 2⟩
theorem case_cell {R : List CaseM} {j : Nat} {m : CaseM} (h : R[j]? = some m) (i : Nat) (hi : i < 3) : (R.flatMap CaseM.cells)[j * 3 + i]? = m.cells[i]? := by
 obtain ⟨hk, rfl⟩ := List.getElem?_eq_some_iff.1 h
 exact flat_get CaseM.cells 3 (fun _ => rfl) R j i hi hk
theorem Lk.parked {np k : Nat} {x : LmM} (h1 : Lk np k x) {g : Int} (hg : 0 ≤ g ∧ g < (x.crew.length : Int)) (L : List CaseM) : Lk np k { x with M := backN x.name (parkF (okN x) g L (pipesN x)).2 x.M } :=
 h1.back (AllInv.parkF (M := pipesN x) h1.inv.named (by rw [h1.pipes_len, h1.ok_len]) g L) (WtIn.parkF (M := pipesN x) h1.wt.named _ hg L) (Nat.le_refl _)
theorem r_talkC {w : World} {F : List Piece} {np k lb : Nat} {x : LmM} {t m : Int} {vp vl vd : Value} {n0 n1 n2 n3 n4 n5 n6 n7 : Int} (hn : x.name = [n0, n1, n2, n3, n4, n5, n6, n7]) (hk : Lk np k x) (hkb : k ≤ 998000) (g : Int) {c : CaseM} (hc : 0 ≤ c.chan ∧ c.chan < 8) (ca : Int) (H : SL w (RlP lb ⟨t, m, vp, vl, vd⟩ x :: F)) :
  Calls Tryz.prog 136 #[.pointer (some ⟨lb, 0, none⟩), .int .i64 g, .agg #[.bool c.send, .int .i64 c.chan, .int .i64 c.value], .int .i64 ca] w fun o w' => o = .returned (.tuple #[]) ∧ SL w' (RlP lb ⟨t, m, vp, vl, vd⟩ (talkL x g c ca) :: F) := by
 obtain ⟨cj, hj⟩ := Int.eq_ofNat_of_zero_le hc.1
 have h := r_talk (w := w) (F := F) hn hk hkb g (cj := cj) (by omega) c.send c.value ca H
 rw [← hj] at h
 exact h
theorem r_aloneC {w : World} {F : List Piece} {np k lb : Nat} {x : LmM} {t m : Int} {vp vl vd : Value} {n0 n1 n2 n3 n4 n5 n6 n7 : Int} (hn : x.name = [n0, n1, n2, n3, n4, n5, n6, n7]) (hk : Lk np k x) (hkb : k ≤ 997000) {g : Int} (hgw : 0 ≤ g ∧ g < (x.crew.length : Int)) (sd : Bool) {c : Int} (hc : 0 ≤ c ∧ c < 8) (cv : Int) (H : SL w (RlP lb ⟨t, m, vp, vl, vd⟩ x :: F)) :
  Calls Tryz.prog 106 #[.pointer (some ⟨lb, 0, none⟩), .int .i64 g, .agg #[.bool sd, .int .i64 c, .int .i64 cv]] w fun o w' => o = .returned (.tuple #[]) ∧ SL w' (RlP lb ⟨t, m, vp, vl, vd⟩ (aloneL x g ⟨sd, c, cv⟩) :: F) := by
 obtain ⟨cj, rfl⟩ := Int.eq_ofNat_of_zero_le hc.1
 exact r_alone (w := w) (F := F) hn hk hkb hgw (cj := cj) (by omega) sd cv H
theorem r_shutC {w : World} {F : List Piece} {np k lb : Nat} {x : LmM} {t m : Int} {vp vl vd : Value} {n0 n1 n2 n3 n4 n5 n6 n7 : Int} (hn : x.name = [n0, n1, n2, n3, n4, n5, n6, n7]) (hk : Lk np k x) (hkb : k ≤ 997000) (g : Int) {c : Int} (hc : 0 ≤ c ∧ c < 8) (H : SL w (RlP lb ⟨t, m, vp, vl, vd⟩ x :: F)) :
  Calls Tryz.prog 107 #[.pointer (some ⟨lb, 0, none⟩), .int .i64 g, .int .i64 c] w fun o w' => o = .returned (.tuple #[]) ∧ SL w' (RlP lb ⟨t, m, vp, vl, vd⟩ (shutL x g c) :: F) := by
 obtain ⟨cj, rfl⟩ := Int.eq_ofNat_of_zero_le hc.1
 exact r_shut (w := w) (F := F) hn hk hkb g (cj := cj) (by omega) H
set_option maxHeartbeats 4000000 in
theorem r_choose {w : World} {F : List Piece} {np k lb : Nat} {x : LmM} {t m : Int} {vp vl : Value} {A : Piece} {s : ScrM} {dr : List Int} {da : Option Addr} {dc : Nat} {n0 n1 n2 n3 n4 n5 n6 n7 : Int} (hn : x.name = [n0, n1, n2, n3, n4, n5, n6, n7]) (hk : Lk np k x) (hkb : k ≤ 995000) {g : Int} (hgw : 0 ≤ g ∧ g < (x.crew.length : Int)) (hdr : s.draws = dr) (hAd : Reader A 1 da dr.length (ints dr)) (hge : ∀ z ∈ dr, 0 ≤ z) (hdb : x.d ≤ 1000) {ox : OpX} (hA : Reader A 3 ox.ca ox.op.cases.length (ox.op.cases.flatMap CaseM.cells)) (hop : OpOk np ox.op) (H : SL w (RlP lb ⟨t, m, vp, vl, .slice da dr.length dc⟩ x :: A :: F)) :
  Calls Tryz.prog 108 #[.pointer (some ⟨lb, 0, none⟩), .int .i64 g, .agg ox.cells.toArray] w fun o w' => o = .returned (.tuple #[]) ∧ SL w' (RlP lb ⟨t, m, vp, vl, .slice da dr.length dc⟩ (chooseL s x g ox.op) :: A :: F) := by
 have hcl := hop.cl
 obtain ⟨rd, hrd⟩ : ∃ z, readyL (okN x) (pipesN x) ox.op.cases = z := ⟨_, rfl⟩
 have hrl := readyL_len (okN x) (pipesN x) ox.op.cases
 rw [hrd] at hrl
 obtain ⟨oca, hoca⟩ : ∃ z, ox.ca = z := ⟨_, rfl⟩
 rw [hoca] at hA
 unfold OpX.cells
 rw [hoca]
 rcases Nat.lt_or_ge 0 rd.length with hr | hr
 ·have hdl := drawI_lt dr x.d hr
  obtain ⟨an, han, hanl⟩ := readyL_at (ok := okN x) (M := pipesN x) (L := ox.op.cases) (i := (drawI dr x.d rd.length).1) (by rw [hrd]; exact hdl)
  rw [hrd] at han
  have hdn : rd[(drawI dr x.d rd.length).1]? = some (an : Int) := by rw [List.getD_eq_getElem?_getD, List.getElem?_eq_getElem hdl] at han; rw [List.getElem?_eq_getElem hdl]; exact congrArg some han
  obtain ⟨cz, hcz⟩ : ∃ z, ox.op.cases[an]? = some z := ⟨_, get_of hanl⟩
  have hcz8 := hop.ch cz (List.mem_of_getElem? hcz)
  obtain ⟨ocb, oco, rfl⟩ := H.addrR 1 rfl hA (by omega)
  have hob := rl_open (x := x) hn H
  obtain ⟨hb1, crb1, cha1, chc1, ta1, tc1, ps1, hl1, H⟩ := hob
  refine calls_d (args := [_, _, _]) Tryz.func108 rfl ?_
  refine ⟨?_⟩
  refine Nw.as #[.int .i64 ox.op.kind, .int .i64 ox.op.a, .int .i64 ox.op.b, .slice (some ⟨ocb, oco, none⟩) ox.op.cases.length ox.cc, .bool ox.op.dflt] 64 rfl H fun b5 w H => ?_
  refine ⟨?_⟩
  refine Drw.of [(0, true), (1, true), (2, true), (3, false), (4, false), (5, true)] (by kernel_rfl) mixed (fun w => SL w _) H.drew ?_
  replace H := H.drew
  refine LdC.i 0 rfl (v := .slice (some ⟨ocb, oco, none⟩) ox.op.cases.length ox.cc) rfl ?_
  have h1 := H.pi [1, 4, 0, 2, 3, 5, 6, 7] 8
  simp only [pl, nth, drL] at h1
  refine Cl.b (r_pipes (x := x) hn (hk) hl1 h1) ?_
  rintro _ w ⟨oa1, oc1, rfl, H⟩
  refine ⟨_, rfl, ?_⟩
  replace H := H.pi [0, 3, 1, 4, 5, 2, 6, 7, 8] 9
  simp only [pl, nth, drL] at H
  refine ⟨.inr H.tl, ?_⟩
  have h1 := H.pi [6, 8, 0, 1, 2, 3, 4, 5, 7] 9
  simp only [pl, nth, drL] at h1
  have hq := q_readies (x := x) (L := ox.op.cases) (ca := ox.cc) (cb := oc1) hk hl1 (by omega) hA Reader.slc h1
  rw [hrd] at hq
  refine Cl.b hq ?_
  rintro _ w ⟨ra, rc, rfl, H⟩
  refine ⟨_, rfl, ?_⟩
  replace H := H.pi [0, 3, 4, 5, 6, 7, 8, 1, 9, 2] 10
  simp only [pl, nth, drL] at H
  have hob := SL.slcAddr H (by omega)
  obtain ⟨rb, rfl⟩ := hob
  refine ⟨.inr H.tl.tl, ?_⟩
  refine ⟨?_⟩
  refine BB.yd (Cn.yes (⟨?_⟩))
  refine H.ldi 3 rfl (v := .pointer (some ⟨hb1, 0, none⟩)) rfl ?_
  have h1 := H.pi [4, 9, 0, 1, 2, 3, 5, 6, 7, 8] 10
  simp only [pl, nth, drL] at h1
  refine Cl.s (r_draw hAd hge (n := rd.length) (by omega) (by omega) hdb h1) fun w H => ?_
  replace H := H.pi [2, 3, 4, 5, 0, 6, 7, 8, 9, 1] 10
  simp only [pl, nth, drL] at H
  refine ⟨?_⟩
  refine Ix.at0 ((drawI dr x.d rd.length).1) 1 (by kernel_rfl) (rfl) (hdl) ?_
  refine H.ldS 0 rfl (v := .int .i64 ↑an) ((by rw [Nat.mul_one]; unfold ints; rw [List.getElem?_map, hdn]; rfl)) ?_
  refine ⟨?_⟩
  refine H.ldi 2 rfl (v := .slice (some ⟨ocb, oco, none⟩) ox.op.cases.length ox.cc) rfl (Ix.at an 3 (by kernel_rfl) (rfl) (hanl) ?_)
  refine H.ldR 9 rfl hA (by omega) (q := an * 3 + 0) rfl (v := .bool cz.send) ((case_cell hcz 0 (by decide)).trans rfl) (H.ldR 9 rfl hA (by omega) (q := an * 3 + 1) rfl (v := .int .i64 cz.chan) ((case_cell hcz 1 (by decide)).trans rfl) (H.ldR 9 rfl hA (by omega) (q := an * 3 + 2) rfl (v := .int .i64 cz.value) ((case_cell hcz 2 (by decide)).trans rfl) ?_))
  have H0 := H.pi [3, 4, 5, 6, 7, 8, 0, 1, 2, 9] 10
  simp only [pl, nth, drL] at H0
  replace H := rl_shut (x := { x with d := (drawI dr x.d rd.length).2 }) hl1 (by first | rfl | simp [turnL, noteL, backN_len]) hn H0
  have h1 := H
  refine Cl.s (r_talkC (x := { x with d := (drawI dr x.d rd.length).2 }) hn ((hk.dd (drawI dr x.d rd.length).2)) (by omega) g (c := cz) hcz8 (an : Int) h1) fun w H => ?_
  refine ret0 rfl ?_
  have hc : chooseL s x g ox.op = (talkL ({ x with d := (drawI dr x.d rd.length).2 }) g cz (an : Int)) := by subst hdr; exact choose_ready hrd hr han hcz
  rw [hc]
  exact ⟨rfl, H.pi [0, 4] 5⟩
 ·have hr : ¬ 0 < rd.length := by omega
  cases hdf : ox.op.dflt with
  | true =>
   have hob := rl_open (x := x) hn H
   obtain ⟨hb1, crb1, cha1, chc1, ta1, tc1, ps1, hl1, H⟩ := hob
   refine calls_d (args := [_, _, _]) Tryz.func108 rfl ?_
   refine ⟨?_⟩
   refine Nw.as #[.int .i64 ox.op.kind, .int .i64 ox.op.a, .int .i64 ox.op.b, .slice oca ox.op.cases.length ox.cc, .bool true] 64 rfl H fun b5 w H => ?_
   refine ⟨?_⟩
   refine Drw.of [(0, true), (1, true), (2, true), (3, false), (4, false), (5, true)] (by kernel_rfl) mixed (fun w => SL w _) H.drew ?_
   replace H := H.drew
   refine LdC.i 0 rfl (v := .slice oca ox.op.cases.length ox.cc) rfl ?_
   have h1 := H.pi [1, 4, 0, 2, 3, 5, 6, 7] 8
   simp only [pl, nth, drL] at h1
   refine Cl.b (r_pipes (x := x) hn (hk) hl1 h1) ?_
   rintro _ w ⟨oa1, oc1, rfl, H⟩
   refine ⟨_, rfl, ?_⟩
   replace H := H.pi [0, 3, 1, 4, 5, 2, 6, 7, 8] 9
   simp only [pl, nth, drL] at H
   refine ⟨.inr H.tl, ?_⟩
   have h1 := H.pi [6, 8, 0, 1, 2, 3, 4, 5, 7] 9
   simp only [pl, nth, drL] at h1
   have hq := q_readies (x := x) (L := ox.op.cases) (ca := ox.cc) (cb := oc1) hk hl1 (by omega) hA Reader.slc h1
   rw [hrd] at hq
   refine Cl.b hq ?_
   rintro _ w ⟨ra, rc, rfl, H⟩
   refine ⟨_, rfl, ?_⟩
   replace H := H.pi [0, 3, 4, 5, 6, 7, 8, 1, 9, 2] 10
   simp only [pl, nth, drL] at H
   refine ⟨.inr H.tl.tl, ?_⟩
   refine ⟨?_⟩
   refine BB.nd (Cn.no (⟨?_⟩))
   refine H.ldi 2 rfl (v := .bool true) rfl (BB.yes rfl (Cn.yes (⟨?_⟩)))
   refine Cl.s (r_bare H 8 g) fun w H => ?_
   have h1 := H.pi [3, 8, 0, 1, 2, 4, 5, 6, 7, 9] 10
   simp only [pl, nth, drL] at h1
   refine Cl.b (r_noteO (Nat.le_trans (hk).tr (by omega)) ⟨8, g, -1, -1, -1, -1, false, false⟩ h1) ?_
   rintro _ w ⟨tn1, tk1, rfl, H⟩
   refine ⟨_, rfl, ?_⟩
   replace H := H.pi [2, 3, 4, 0, 5, 6, 7, 8, 1, 9] 10
   simp only [pl, nth, drL] at H
   refine ⟨?_⟩
   refine H.ldi 3 rfl (v := .pointer (some ⟨crb1, 0, none⟩)) rfl ?_
   have h1 := H.pi [5, 0, 1, 2, 3, 4, 6, 7, 8, 9] 10
   simp only [pl, nth, drL] at h1
   refine Cl.s (q_turn (L := (noteL x ⟨8, g, -1, -1, -1, -1, false, false⟩).crew) (Small.more ((hk.note ⟨8, g, -1, -1, -1, -1, false, false⟩)).sm (by omega)) g 0 0 (by decide) h1) fun w H => ?_
   replace H := H.pi [1, 2, 3, 4, 5, 0, 6, 7, 8, 9] 10
   simp only [pl, nth, drL] at H
   refine ret0 rfl ?_
   have H0 := H.pi [3, 4, 5, 6, 7, 8, 0, 1, 2, 9] 10
   simp only [pl, nth, drL] at H0
   replace H := rl_shut (x := (turnL (noteL x ⟨8, g, -1, -1, -1, -1, false, false⟩) g 0 0)) hl1 (by first | rfl | simp [turnL, noteL, backN_len]) hn H0
   have hc : chooseL s x g ox.op = (turnL (noteL x ⟨8, g, -1, -1, -1, -1, false, false⟩) g 0 0) := by exact choose_dflt (by rw [hrd]; exact hr) hdf
   rw [hc]
   exact ⟨rfl, H.pi [0, 4] 5⟩
  | false =>
   have hob := rl_open (x := x) hn H
   obtain ⟨hb1, crb1, cha1, chc1, ta1, tc1, ps1, hl1, H⟩ := hob
   refine calls_d (args := [_, _, _]) Tryz.func108 rfl ?_
   refine ⟨?_⟩
   refine Nw.as #[.int .i64 ox.op.kind, .int .i64 ox.op.a, .int .i64 ox.op.b, .slice oca ox.op.cases.length ox.cc, .bool false] 64 rfl H fun b5 w H => ?_
   refine ⟨?_⟩
   refine Drw.of [(0, true), (1, true), (2, true), (3, false), (4, false), (5, true)] (by kernel_rfl) mixed (fun w => SL w _) H.drew ?_
   replace H := H.drew
   refine LdC.i 0 rfl (v := .slice oca ox.op.cases.length ox.cc) rfl ?_
   have h1 := H.pi [1, 4, 0, 2, 3, 5, 6, 7] 8
   simp only [pl, nth, drL] at h1
   refine Cl.b (r_pipes (x := x) hn (hk) hl1 h1) ?_
   rintro _ w ⟨oa1, oc1, rfl, H⟩
   refine ⟨_, rfl, ?_⟩
   replace H := H.pi [0, 3, 1, 4, 5, 2, 6, 7, 8] 9
   simp only [pl, nth, drL] at H
   refine ⟨.inr H.tl, ?_⟩
   have h1 := H.pi [6, 8, 0, 1, 2, 3, 4, 5, 7] 9
   simp only [pl, nth, drL] at h1
   have hq := q_readies (x := x) (L := ox.op.cases) (ca := ox.cc) (cb := oc1) hk hl1 (by omega) hA Reader.slc h1
   rw [hrd] at hq
   refine Cl.b hq ?_
   rintro _ w ⟨ra, rc, rfl, H⟩
   refine ⟨_, rfl, ?_⟩
   replace H := H.pi [0, 3, 4, 5, 6, 7, 8, 1, 9, 2] 10
   simp only [pl, nth, drL] at H
   refine ⟨.inr H.tl.tl, ?_⟩
   refine ⟨?_⟩
   refine BB.nd (Cn.no (⟨?_⟩))
   refine H.ldi 2 rfl (v := .bool false) rfl (BB.no rfl (Cn.no (⟨?_⟩)))
   refine Cl.s (r_bare H 6 g) fun w H => ?_
   refine Nw.as ev0C 53 rfl H fun b10 w H => ?_
   refine SL.stEv H rfl rfl fun w H => ?_
   refine ⟨?_⟩
   refine H.ldi 3 rfl (v := .slice oca ox.op.cases.length ox.cc) rfl (H.st0 (cs' := #[.int .i64 6, .int .i64 g, .int .i64 (-1), .int .i64 ↑ox.op.cases.length, .int .i64 (-1), .int .i64 (-1), .bool false, .bool false]) rfl rfl rfl fun w H => ?_)
   refine ⟨?_⟩
   refine H.st0 (cs' := #[.int .i64 6, .int .i64 g, .int .i64 (-1), .int .i64 ↑ox.op.cases.length, .int .i64 0, .int .i64 (-1), .bool false, .bool false]) rfl rfl rfl fun w H => ?_
   refine ⟨?_⟩
   refine H.ldi 0 rfl (v := .int .i64 6) rfl (H.ldi 0 rfl (v := .int .i64 g) rfl (H.ldi 0 rfl (v := .int .i64 (-1)) rfl (H.ldi 0 rfl (v := .int .i64 ↑ox.op.cases.length) rfl (H.ldi 0 rfl (v := .int .i64 0) rfl (H.ldi 0 rfl (v := .int .i64 (-1)) rfl (H.ldi 0 rfl (v := .bool false) rfl (H.ldi 0 rfl (v := .bool false) rfl ?_)))))))
   have h1 := H.pi [4, 9, 0, 1, 2, 3, 5, 6, 7, 8, 10] 11
   simp only [pl, nth, drL] at h1
   refine Cl.b (r_noteO (Nat.le_trans (hk).tr (by omega)) ⟨6, g, -1, ↑ox.op.cases.length, 0, -1, false, false⟩ h1) ?_
   rintro _ w ⟨tn1, tk1, rfl, H⟩
   refine ⟨_, rfl, ?_⟩
   replace H := H.pi [2, 3, 4, 5, 0, 6, 7, 8, 9, 1, 10] 11
   simp only [pl, nth, drL] at H
   refine ⟨?_⟩
   refine Drw.of [(0, true), (1, true), (2, true), (3, true), (4, false), (5, false)] (by kernel_rfl) mixed (fun w => SL w _) H.drew ?_
   replace H := H.drew
   refine LdC.i 3 rfl (v := .slice oca ox.op.cases.length ox.cc) rfl ?_
   have h1 := H.pi [4, 7, 0, 1, 2, 3, 5, 6, 8, 9, 10] 11
   simp only [pl, nth, drL] at h1
   refine Cl.b (r_pipes (x := (noteL x ⟨6, g, -1, ↑ox.op.cases.length, 0, -1, false, false⟩)) hn ((hk.note ⟨6, g, -1, ↑ox.op.cases.length, 0, -1, false, false⟩)) hl1 h1) ?_
   rintro _ w ⟨oa2, oc2, rfl, H⟩
   refine ⟨_, rfl, ?_⟩
   replace H := H.pi [0, 3, 4, 5, 6, 1, 7, 8, 2, 9, 10, 11] 12
   simp only [pl, nth, drL] at H
   refine ⟨.inr H.tl, ?_⟩
   have h1 := H.pi [9, 11, 0, 1, 2, 3, 4, 5, 6, 7, 8, 10] 12
   simp only [pl, nth, drL] at h1
   have h1 := H.pi [9, 11, 0, 1, 2, 3, 4, 5, 6, 7, 8, 10] 12
   simp only [pl, nth, drL] at h1
   refine Cl.s (q_park (x := (noteL x ⟨6, g, -1, ↑ox.op.cases.length, 0, -1, false, false⟩)) (L := ox.op.cases) (ca := ox.cc) (cb := oc2) g ((hk.note ⟨6, g, -1, ↑ox.op.cases.length, 0, -1, false, false⟩)) hl1 (by omega) hA Reader.slc h1) fun w H => ?_
   replace H := H.pi [2, 3, 4, 5, 6, 7, 8, 9, 10, 0, 11, 1] 12
   simp only [pl, nth, drL] at H
   have hkP : Lk np (k + 1) ({ (noteL x ⟨6, g, -1, ↑ox.op.cases.length, 0, -1, false, false⟩) with M := backN (noteL x ⟨6, g, -1, ↑ox.op.cases.length, 0, -1, false, false⟩).name (parkF (okN (noteL x ⟨6, g, -1, ↑ox.op.cases.length, 0, -1, false, false⟩)) g ox.op.cases (pipesN (noteL x ⟨6, g, -1, ↑ox.op.cases.length, 0, -1, false, false⟩))).2 (noteL x ⟨6, g, -1, ↑ox.op.cases.length, 0, -1, false, false⟩).M } : LmM) := Lk.parked (x := (noteL x ⟨6, g, -1, ↑ox.op.cases.length, 0, -1, false, false⟩)) ((hk.note ⟨6, g, -1, ↑ox.op.cases.length, 0, -1, false, false⟩)) hgw ox.op.cases
   refine ⟨.inl rfl, ?_⟩
   refine ⟨?_⟩
   refine H.ldi 5 rfl (v := .pointer (some ⟨crb1, 0, none⟩)) rfl ?_
   have h1 := H.pi [7, 0, 1, 2, 3, 4, 5, 6, 8, 9, 10, 11] 12
   simp only [pl, nth, drL] at h1
   refine Cl.s (q_turn (L := ({ (noteL x ⟨6, g, -1, ↑ox.op.cases.length, 0, -1, false, false⟩) with M := backN (noteL x ⟨6, g, -1, ↑ox.op.cases.length, 0, -1, false, false⟩).name (parkF (okN (noteL x ⟨6, g, -1, ↑ox.op.cases.length, 0, -1, false, false⟩)) g ox.op.cases (pipesN (noteL x ⟨6, g, -1, ↑ox.op.cases.length, 0, -1, false, false⟩))).2 (noteL x ⟨6, g, -1, ↑ox.op.cases.length, 0, -1, false, false⟩).M }).crew) (Small.more (hkP).sm (by omega)) g 0 1 (by decide) h1) fun w H => ?_
   replace H := H.pi [1, 2, 3, 4, 5, 6, 7, 0, 8, 9, 10, 11] 12
   simp only [pl, nth, drL] at H
   refine ret0 rfl ?_
   have H0 := H.pi [5, 6, 7, 8, 9, 10, 0, 1, 2, 3, 4, 11] 12
   simp only [pl, nth, drL] at H0
   replace H := rl_shut (x := (turnL ({ (noteL x ⟨6, g, -1, ↑ox.op.cases.length, 0, -1, false, false⟩) with M := backN (noteL x ⟨6, g, -1, ↑ox.op.cases.length, 0, -1, false, false⟩).name (parkF (okN (noteL x ⟨6, g, -1, ↑ox.op.cases.length, 0, -1, false, false⟩)) g ox.op.cases (pipesN (noteL x ⟨6, g, -1, ↑ox.op.cases.length, 0, -1, false, false⟩))).2 (noteL x ⟨6, g, -1, ↑ox.op.cases.length, 0, -1, false, false⟩).M }) g 0 1)) hl1 (by first | rfl | simp [turnL, noteL, backN_len]) hn H0
   have hc : chooseL s x g ox.op = (turnL ({ (noteL x ⟨6, g, -1, ↑ox.op.cases.length, 0, -1, false, false⟩) with M := backN (noteL x ⟨6, g, -1, ↑ox.op.cases.length, 0, -1, false, false⟩).name (parkF (okN (noteL x ⟨6, g, -1, ↑ox.op.cases.length, 0, -1, false, false⟩)) g ox.op.cases (pipesN (noteL x ⟨6, g, -1, ↑ox.op.cases.length, 0, -1, false, false⟩))).2 (noteL x ⟨6, g, -1, ↑ox.op.cases.length, 0, -1, false, false⟩).M }) g 0 1) := by exact choose_park (by rw [hrd]; exact hr) hdf
   rw [hc]
   exact ⟨rfl, H.pi [0, 6] 7⟩
set_option maxHeartbeats 4000000 in
theorem r_other {w : World} {F : List Piece} {np k lb : Nat} {x : LmM} {t m : Int} {vp vl vd : Value} {n0 n1 n2 n3 n4 n5 n6 n7 : Int} (hn : x.name = [n0, n1, n2, n3, n4, n5, n6, n7]) (hk : Lk np k x) (hkb : k ≤ 990000) (g : Int) {kind a b : Int} {cs : List CaseM} {cv : Value} {df : Bool} (hkind : kind = 1 ∨ kind = 2 ∨ kind = 7 ∨ kind = 8 ∨ kind = 9) (ha0 : 0 ≤ a) (ha1 : a < 8) (hpr : kind = 1 → a < (np : Int)) (hb0 : 0 ≤ b) (hcap : kind = 2 → b ≤ 4) (H : SL w (RlP lb ⟨t, m, vp, vl, vd⟩ x :: F)) :
  Calls Tryz.prog 109 #[.pointer (some ⟨lb, 0, none⟩), .int .i64 g, .agg #[.int .i64 kind, .int .i64 a, .int .i64 b, cv, .bool df]] w fun o w' => o = .returned (.tuple #[]) ∧ SL w' (RlP lb ⟨t, m, vp, vl, vd⟩ (otherL x g ⟨kind, a, b, cs, df⟩) :: F) := by
 have hml := hk.ml
 rcases hkind with rfl | rfl | rfl | rfl | rfl
 ·have hob := rl_open (x := x) hn H
  obtain ⟨hb1, crb1, cha1, chc1, ta1, tc1, ps1, hl1, H⟩ := hob
  refine calls_d (args := [_, _, _]) Tryz.func109 rfl ?_
  refine ⟨Nw.as #[.int .i64 1, .int .i64 a, .int .i64 b, cv, .bool df] 64 rfl H fun b5 w H => ?_⟩
  refine ⟨Cl.s (r_bare H 0 g) fun w H => ?_⟩
  refine Nw.as ev0C 53 rfl H fun b6 w H => ?_
  refine SL.stEv H rfl rfl fun w H => ?_
  refine ⟨H.ldi 1 rfl (v := .int .i64 1) rfl ?_⟩
  refine ⟨⟨BB.yes rfl ?_⟩⟩
  refine Cn.yes (⟨Drw.oft (.calm 0 (.calm 1 (.calm 2 (.calm 3 (.calm 4 (.calm 5 (.act 6 true (.pure 7 (.pure 8 (.pure 9 (.pure 10 (.pure 11 .nil)))))))))))) (by kernel_rfl) mixed (fun w => SL w _) H.drew ?_⟩)
  replace H := H.drew
  refine LdC.i 2 rfl (v := .pointer (some ⟨crb1, 0, none⟩)) rfl (LdC.i 1 rfl (v := .int .i64 a) rfl ?_)
  have h1 := H.pi [4, 0, 1, 2, 3, 5, 6, 7] 8
  simp only [pl, nth, drL] at h1
  refine Cl.s (q_spawn (L := x.crew) hk.cl a h1) fun w H => ?_
  replace H := H.pi [1, 2, 3, 4, 0, 5, 6, 7] 8
  simp only [pl, nth, drL] at H
  refine ⟨.inl rfl, ?_⟩
  refine ⟨H.st0 (cs' := #[.int .i64 1, .int .i64 g, .int .i64 (-1), .int .i64 (-1), .int .i64 (-1), .int .i64 (-1), .bool false, .bool false]) rfl rfl rfl fun w H => ?_⟩
  refine ⟨H.ldi 1 rfl (v := .int .i64 a) rfl ?_⟩
  refine H.st0 (cs' := #[.int .i64 1, .int .i64 g, .int .i64 (-1), .int .i64 (-1), .int .i64 a, .int .i64 (-1), .bool false, .bool false]) rfl rfl rfl fun w H => ?_
  refine ⟨H.st0 (cs' := #[.int .i64 1, .int .i64 g, .int .i64 (-1), .int .i64 (-1), .int .i64 a, .int .i64 ((spawnF x.crew a).1.1), .bool false, .bool false]) rfl rfl rfl fun w H => ?_⟩
  refine ⟨H.ldi 0 rfl (v := .int .i64 1) rfl ?_⟩
  refine H.ldi 0 rfl (v := .int .i64 g) rfl (H.ldi 0 rfl (v := .int .i64 (-1)) rfl (H.ldi 0 rfl (v := .int .i64 (-1)) rfl (H.ldi 0 rfl (v := .int .i64 a) rfl (H.ldi 0 rfl (v := .int .i64 ((spawnF x.crew a).1.1)) rfl (H.ldi 0 rfl (v := .bool false) rfl (H.ldi 0 rfl (v := .bool false) rfl ?_))))))
  have h1 := H.pi [2, 7, 0, 1, 3, 4, 5, 6] 8
  simp only [pl, nth, drL] at h1
  refine Cl.b (r_noteO (Nat.le_trans ((hk.spawn ha0 (hpr rfl))).tr (by omega)) ⟨1, g, -1, -1, a, (spawnF x.crew a).1.1, false, false⟩ h1) ?_
  rintro _ w ⟨tn1, tk1, rfl, H⟩
  refine ⟨_, rfl, ?_⟩
  replace H := H.pi [2, 3, 0, 4, 5, 6, 7, 1] 8
  simp only [pl, nth, drL] at H
  refine ⟨H.ldi 1 rfl (v := .int .i64 1) rfl ?_⟩
  refine BB.yes rfl (Cn.yes (⟨H.ldi 2 rfl (v := .pointer (some ⟨crb1, 0, none⟩)) rfl ?_⟩))
  have h1 := H.pi [4, 0, 1, 2, 3, 5, 6, 7] 8
  simp only [pl, nth, drL] at h1
  refine Cl.s (q_turn (L := (noteL ({ x with crew := (spawnF x.crew a).2 }) ⟨1, g, -1, -1, a, (spawnF x.crew a).1.1, false, false⟩).crew) (Small.more (((hk.spawn ha0 (hpr rfl)).note ⟨1, g, -1, -1, a, (spawnF x.crew a).1.1, false, false⟩)).sm (by omega)) g 0 0 (by decide) h1) fun w H => ?_
  replace H := H.pi [1, 2, 3, 4, 0, 5, 6, 7] 8
  simp only [pl, nth, drL] at H
  refine ret0 rfl ?_
  have H0 := H.pi [2, 3, 4, 5, 6, 7, 0, 1] 8
  simp only [pl, nth, drL] at H0
  replace H := rl_shut (x := (turnL (noteL ({ x with crew := (spawnF x.crew a).2 }) ⟨1, g, -1, -1, a, (spawnF x.crew a).1.1, false, false⟩) g 0 0)) hl1 (by first | rfl | simp [turnL, noteL, backN_len]) hn H0
  have hc : otherL x g ⟨1, a, b, cs, df⟩ = (turnL (noteL ({ x with crew := (spawnF x.crew a).2 }) ⟨1, g, -1, -1, a, (spawnF x.crew a).1.1, false, false⟩) g 0 0) := by rfl
  rw [hc]
  exact ⟨rfl, H.pi [0] 3⟩
 ·have hb4 := hcap rfl
  obtain ⟨an, rfl⟩ := Int.eq_ofNat_of_zero_le ha0
  obtain ⟨bn, rfl⟩ := Int.eq_ofNat_of_zero_le hb0
  have han : an < 8 := by omega
  have hob := rl_open (x := x) hn H
  obtain ⟨hb1, crb1, cha1, chc1, ta1, tc1, ps1, hl1, H⟩ := hob
  refine calls_d (args := [_, _, _]) Tryz.func109 rfl ?_
  refine ⟨Nw.as #[.int .i64 2, .int .i64 ↑an, .int .i64 ↑bn, cv, .bool df] 64 rfl H fun b5 w H => ?_⟩
  refine ⟨Cl.s (r_bare H 0 g) fun w H => ?_⟩
  refine Nw.as ev0C 53 rfl H fun b6 w H => ?_
  refine SL.stEv H rfl rfl fun w H => ?_
  refine ⟨H.ldi 1 rfl (v := .int .i64 2) rfl ?_⟩
  refine ⟨⟨BB.no rfl ?_⟩⟩
  refine Cn.no (⟨BB.yes rfl ?_⟩)
  refine Cn.yes (⟨H.ldi 1 rfl (v := .int .i64 ↑bn) rfl ?_⟩)
  refine Cl.b (r_new bn (by omega) H) ?_
  rintro _ w ⟨ph, rfl, H⟩
  refine ⟨_, rfl, ?_⟩
  refine ⟨H.st1 (cs' := #[.int .i64 2, .int .i64 g, .int .i64 (-1), .int .i64 (-1), .int .i64 (-1), .int .i64 (-1), .bool false, .bool false]) rfl rfl rfl fun w H => ?_⟩
  refine ⟨H.ldi 2 rfl (v := .int .i64 ↑bn) rfl ?_⟩
  refine H.st1 (cs' := #[.int .i64 2, .int .i64 g, .int .i64 (-1), .int .i64 (-1), .int .i64 ↑bn, .int .i64 (-1), .bool false, .bool false]) rfl rfl rfl fun w H => ?_
  refine ⟨H.ldi 3 rfl (v := .slice cha1 x.M.length chc1) rfl ?_⟩
  refine H.st1 (cs' := #[.int .i64 2, .int .i64 g, .int .i64 ↑x.M.length, .int .i64 (-1), .int .i64 ↑bn, .int .i64 (-1), .bool false, .bool false]) rfl rfl rfl fun w H => ?_
  refine ⟨Drw.of [(0, true), (1, true), (2, true), (3, true), (4, true), (5, true), (6, true), (7, true), (8, true), (9, true), (10, true), (11, false)] (by kernel_rfl) mixed (fun w => SL w _) H.drew ?_⟩
  replace H := H.drew
  refine LdC.i 2 rfl (v := .int .i64 ↑an) rfl (LdC.i 3 rfl (v := .slice cha1 x.M.length chc1) rfl (Ix.at an 1 (by kernel_rfl) rfl han ?_))
  have hob := name_set (v := (x.M.length : Int)) (x := x) hn an han
  obtain ⟨m0, m1, m2, m3, m4, m5, m6, m7, hn', hset⟩ := hob
  refine H.st3 (cs' := #[.int .i64 t, .int .i64 m, vp, vl, vd, .pointer (some ⟨hb1, 0, none⟩), .pointer (some ⟨crb1, 0, none⟩), .slice cha1 x.M.length chc1, .int .i64 m0, .int .i64 m1, .int .i64 m2, .int .i64 m3, .int .i64 m4, .int .i64 m5, .int .i64 m6, .int .i64 m7, .slice ta1 x.tr.length tc1, .bool x.pan]) (hset _ _ _ _ _ _ _ _ _ _) (by simp [Nat.blt_eq]; omega) rfl fun w H => ?_
  refine ⟨.inl rfl, ?_⟩
  refine ⟨H.ldi 3 rfl (v := .slice cha1 x.M.length chc1) rfl ?_⟩
  refine Mn.new (fun b => .slice (some ⟨b, 0, none⟩) 1 1) #[.pointer (some ⟨ph, 0, none⟩)] 193 (by kernel_rfl) H fun b75 w H => ?_
  refine SL.appS H.up7 (.tmp 73) (.tmp 75) 119 (.pointer none) 8 (by rfl) (by kernel_rfl) (by kernel_rfl) (by rfl) (by decide) (by rfl) (some ⟨b75, 0, none⟩) 1 1 [.pointer (some ⟨ph, 0, none⟩)] (by rfl) (H.rdRow 0 rfl (by rfl) (by decide)) (by rfl) (by omega) (by decide) (by decide) fun g1 c1 w H => ?_
  refine H.st5 (cs' := #[.int .i64 t, .int .i64 m, vp, vl, vd, .pointer (some ⟨hb1, 0, none⟩), .pointer (some ⟨crb1, 0, none⟩), .slice (some ⟨g1, 0, none⟩) (x.M.length + 1) c1, .int .i64 m0, .int .i64 m1, .int .i64 m2, .int .i64 m3, .int .i64 m4, .int .i64 m5, .int .i64 m6, .int .i64 m7, .slice ta1 x.tr.length tc1, .bool x.pan]) rfl rfl rfl fun w H => ?_
  have H0 := H.pi [2, 8, 0, 1, 3, 4, 5, 6, 7, 9] 10
  simp only [pl, nth, drL] at H0
  have hl9 : (ps1 ++ [ph]).length = x.M.length + 1 := by rw [List.length_append, hl1]; rfl
  replace H := rs_snoc hl1 H0
  have hob : ∃ z, z = ps1 ++ [ph] := ⟨_, rfl⟩
  obtain ⟨ps9, hps9⟩ := hob
  rw [← hps9] at H hl9
  rw [show pcs (ps1.map some) ++ [.pointer (some ⟨ph, 0, none⟩)] = pcs (ps9.map some) by rw [hps9]; simp [pcs, adr]] at H
  have hkm := hk.make (a := an) (b := bn) han (by omega)
  have hob : ∃ z, z = hb1 := ⟨_, rfl⟩
  obtain ⟨hb9, hhb⟩ := hob
  have hob : ∃ z, z = crb1 := ⟨_, rfl⟩
  obtain ⟨crb9, hcrb⟩ := hob
  rw [← hhb, ← hcrb] at H
  refine ⟨H.ldi 3 rfl (v := .int .i64 2) rfl ?_⟩
  refine H.ldi 3 rfl (v := .int .i64 g) rfl (H.ldi 3 rfl (v := .int .i64 ↑x.M.length) rfl (H.ldi 3 rfl (v := .int .i64 (-1)) rfl (H.ldi 3 rfl (v := .int .i64 ↑bn) rfl (H.ldi 3 rfl (v := .int .i64 (-1)) rfl (H.ldi 3 rfl (v := .bool false) rfl (H.ldi 3 rfl (v := .bool false) rfl ?_))))))
  have h1 := H.pi [5, 8, 0, 1, 2, 3, 4, 6, 7] 9
  simp only [pl, nth, drL] at h1
  refine Cl.b (r_noteO (Nat.le_trans (hkm).tr (by omega)) ⟨2, g, ↑x.M.length, -1, ↑bn, -1, false, false⟩ h1) ?_
  rintro _ w ⟨tn1, tk1, rfl, H⟩
  refine ⟨_, rfl, ?_⟩
  replace H := H.pi [2, 3, 4, 5, 6, 0, 7, 8, 1] 9
  simp only [pl, nth, drL] at H
  refine ⟨H.ldi 4 rfl (v := .int .i64 2) rfl ?_⟩
  refine BB.yes rfl (Cn.yes (⟨H.ldi 5 rfl (v := .pointer (some ⟨crb9, 0, none⟩)) rfl ?_⟩))
  have h1 := H.pi [7, 0, 1, 2, 3, 4, 5, 6, 8] 9
  simp only [pl, nth, drL] at h1
  refine Cl.s (q_turn (L := (noteL ({ x with M := x.M ++ [emptyM bn], name := x.name.set an x.M.length }) ⟨2, g, ↑x.M.length, -1, ↑bn, -1, false, false⟩).crew) (Small.more ((hkm.note ⟨2, g, ↑x.M.length, -1, ↑bn, -1, false, false⟩)).sm (by omega)) g 0 0 (by decide) h1) fun w H => ?_
  replace H := H.pi [1, 2, 3, 4, 5, 6, 7, 0, 8] 9
  simp only [pl, nth, drL] at H
  refine ret0 rfl ?_
  have H0 := H.pi [5, 6, 7, 1, 0, 8, 2, 3, 4] 9
  simp only [pl, nth, drL] at H0
  replace H := rl_shut (x := (turnL (noteL ({ x with M := x.M ++ [emptyM bn], name := x.name.set an x.M.length }) ⟨2, g, ↑x.M.length, -1, ↑bn, -1, false, false⟩) g 0 0)) hl9 (by first | rfl | simp [turnL, noteL, backN_len]) hn' H0
  have hc : otherL x g ⟨2, (an : Int), (bn : Int), cs, df⟩ = (turnL (noteL ({ x with M := x.M ++ [emptyM bn], name := x.name.set an x.M.length }) ⟨2, g, ↑x.M.length, -1, ↑bn, -1, false, false⟩) g 0 0) := by rfl
  rw [hc]
  exact ⟨rfl, H.pi [0] 4⟩
 ·have hob := rl_open (x := x) hn H
  obtain ⟨hb1, crb1, cha1, chc1, ta1, tc1, ps1, hl1, H⟩ := hob
  refine calls_d (args := [_, _, _]) Tryz.func109 rfl ?_
  refine ⟨Nw.as #[.int .i64 7, .int .i64 a, .int .i64 b, cv, .bool df] 64 rfl H fun b5 w H => ?_⟩
  refine ⟨Cl.s (r_bare H 0 g) fun w H => ?_⟩
  refine Nw.as ev0C 53 rfl H fun b6 w H => ?_
  refine SL.stEv H rfl rfl fun w H => ?_
  refine ⟨H.ldi 1 rfl (v := .int .i64 7) rfl ?_⟩
  refine ⟨⟨BB.no rfl ?_⟩⟩
  refine Cn.no (⟨BB.no rfl ?_⟩)
  refine Cn.no (⟨BB.yes rfl ?_⟩)
  refine Cn.yes (⟨H.st0 (cs' := #[.int .i64 9, .int .i64 g, .int .i64 (-1), .int .i64 (-1), .int .i64 (-1), .int .i64 (-1), .bool false, .bool false]) rfl rfl rfl fun w H => ?_⟩)
  refine ⟨H.ldi 1 rfl (v := .int .i64 a) rfl ?_⟩
  refine H.st0 (cs' := #[.int .i64 9, .int .i64 g, .int .i64 (-1), .int .i64 (-1), .int .i64 a, .int .i64 (-1), .bool false, .bool false]) rfl rfl rfl fun w H => ?_
  refine ⟨H.ldi 0 rfl (v := .int .i64 9) rfl ?_⟩
  refine H.ldi 0 rfl (v := .int .i64 g) rfl (H.ldi 0 rfl (v := .int .i64 (-1)) rfl (H.ldi 0 rfl (v := .int .i64 (-1)) rfl (H.ldi 0 rfl (v := .int .i64 a) rfl (H.ldi 0 rfl (v := .int .i64 (-1)) rfl (H.ldi 0 rfl (v := .bool false) rfl (H.ldi 0 rfl (v := .bool false) rfl ?_))))))
  have h1 := H.pi [2, 7, 0, 1, 3, 4, 5, 6] 8
  simp only [pl, nth, drL] at h1
  refine Cl.b (r_noteO (Nat.le_trans (hk).tr (by omega)) ⟨9, g, -1, -1, a, -1, false, false⟩ h1) ?_
  rintro _ w ⟨tn1, tk1, rfl, H⟩
  refine ⟨_, rfl, ?_⟩
  replace H := H.pi [2, 3, 0, 4, 5, 6, 7, 1] 8
  simp only [pl, nth, drL] at H
  refine ⟨H.ldi 1 rfl (v := .int .i64 7) rfl ?_⟩
  refine BB.yes rfl (Cn.yes (⟨H.ldi 2 rfl (v := .pointer (some ⟨crb1, 0, none⟩)) rfl ?_⟩))
  have h1 := H.pi [4, 0, 1, 2, 3, 5, 6, 7] 8
  simp only [pl, nth, drL] at h1
  refine Cl.s (q_turn (L := (noteL x ⟨9, g, -1, -1, a, -1, false, false⟩).crew) (Small.more ((hk.note ⟨9, g, -1, -1, a, -1, false, false⟩)).sm (by omega)) g 0 0 (by decide) h1) fun w H => ?_
  replace H := H.pi [1, 2, 3, 4, 0, 5, 6, 7] 8
  simp only [pl, nth, drL] at H
  refine ret0 rfl ?_
  have H0 := H.pi [2, 3, 4, 5, 6, 7, 0, 1] 8
  simp only [pl, nth, drL] at H0
  replace H := rl_shut (x := (turnL (noteL x ⟨9, g, -1, -1, a, -1, false, false⟩) g 0 0)) hl1 (by first | rfl | simp [turnL, noteL, backN_len]) hn H0
  have hc : otherL x g ⟨7, a, b, cs, df⟩ = (turnL (noteL x ⟨9, g, -1, -1, a, -1, false, false⟩) g 0 0) := by rfl
  rw [hc]
  exact ⟨rfl, H.pi [0] 3⟩
 ·have hob := rl_open (x := x) hn H
  obtain ⟨hb1, crb1, cha1, chc1, ta1, tc1, ps1, hl1, H⟩ := hob
  refine calls_d (args := [_, _, _]) Tryz.func109 rfl ?_
  refine ⟨Nw.as #[.int .i64 8, .int .i64 a, .int .i64 b, cv, .bool df] 64 rfl H fun b5 w H => ?_⟩
  refine ⟨Cl.s (r_bare H 0 g) fun w H => ?_⟩
  refine Nw.as ev0C 53 rfl H fun b6 w H => ?_
  refine SL.stEv H rfl rfl fun w H => ?_
  refine ⟨H.ldi 1 rfl (v := .int .i64 8) rfl ?_⟩
  refine ⟨⟨BB.no rfl ?_⟩⟩
  refine Cn.no (⟨BB.no rfl ?_⟩)
  refine Cn.no (⟨BB.no rfl ?_⟩)
  refine Cn.no (⟨BB.yes rfl ?_⟩)
  refine Cn.yes (⟨H.st0 (cs' := #[.int .i64 10, .int .i64 g, .int .i64 (-1), .int .i64 (-1), .int .i64 (-1), .int .i64 (-1), .bool false, .bool false]) rfl rfl rfl fun w H => ?_⟩)
  refine ⟨H.ldi 1 rfl (v := .int .i64 a) rfl ?_⟩
  refine H.st0 (cs' := #[.int .i64 10, .int .i64 g, .int .i64 (-1), .int .i64 (-1), .int .i64 a, .int .i64 (-1), .bool false, .bool false]) rfl rfl rfl fun w H => ?_
  refine ⟨H.ldi 0 rfl (v := .int .i64 10) rfl ?_⟩
  refine H.ldi 0 rfl (v := .int .i64 g) rfl (H.ldi 0 rfl (v := .int .i64 (-1)) rfl (H.ldi 0 rfl (v := .int .i64 (-1)) rfl (H.ldi 0 rfl (v := .int .i64 a) rfl (H.ldi 0 rfl (v := .int .i64 (-1)) rfl (H.ldi 0 rfl (v := .bool false) rfl (H.ldi 0 rfl (v := .bool false) rfl ?_))))))
  have h1 := H.pi [2, 7, 0, 1, 3, 4, 5, 6] 8
  simp only [pl, nth, drL] at h1
  refine Cl.b (r_noteO (Nat.le_trans (hk).tr (by omega)) ⟨10, g, -1, -1, a, -1, false, false⟩ h1) ?_
  rintro _ w ⟨tn1, tk1, rfl, H⟩
  refine ⟨_, rfl, ?_⟩
  replace H := H.pi [2, 3, 0, 4, 5, 6, 7, 1] 8
  simp only [pl, nth, drL] at H
  refine ⟨H.ldi 1 rfl (v := .int .i64 8) rfl ?_⟩
  refine BB.yes rfl (Cn.yes (⟨H.ldi 2 rfl (v := .pointer (some ⟨crb1, 0, none⟩)) rfl ?_⟩))
  have h1 := H.pi [4, 0, 1, 2, 3, 5, 6, 7] 8
  simp only [pl, nth, drL] at h1
  refine Cl.s (q_turn (L := (noteL x ⟨10, g, -1, -1, a, -1, false, false⟩).crew) (Small.more ((hk.note ⟨10, g, -1, -1, a, -1, false, false⟩)).sm (by omega)) g 0 0 (by decide) h1) fun w H => ?_
  replace H := H.pi [1, 2, 3, 4, 0, 5, 6, 7] 8
  simp only [pl, nth, drL] at H
  refine ret0 rfl ?_
  have H0 := H.pi [2, 3, 4, 5, 6, 7, 0, 1] 8
  simp only [pl, nth, drL] at H0
  replace H := rl_shut (x := (turnL (noteL x ⟨10, g, -1, -1, a, -1, false, false⟩) g 0 0)) hl1 (by first | rfl | simp [turnL, noteL, backN_len]) hn H0
  have hc : otherL x g ⟨8, a, b, cs, df⟩ = (turnL (noteL x ⟨10, g, -1, -1, a, -1, false, false⟩) g 0 0) := by rfl
  rw [hc]
  exact ⟨rfl, H.pi [0] 3⟩
 have hob := rl_open (x := x) hn H
 obtain ⟨hb1, crb1, cha1, chc1, ta1, tc1, ps1, hl1, H⟩ := hob
 refine calls_d (args := [_, _, _]) Tryz.func109 rfl ?_
 refine ⟨Nw.as #[.int .i64 9, .int .i64 a, .int .i64 b, cv, .bool df] 64 rfl H fun b5 w H => ?_⟩
 refine ⟨Cl.s (r_bare H 0 g) fun w H => ?_⟩
 refine Nw.as ev0C 53 rfl H fun b6 w H => ?_
 refine SL.stEv H rfl rfl fun w H => ?_
 refine ⟨H.ldi 1 rfl (v := .int .i64 9) rfl ?_⟩
 refine ⟨⟨BB.no rfl ?_⟩⟩
 refine Cn.no (⟨BB.no rfl ?_⟩)
 refine Cn.no (⟨BB.no rfl ?_⟩)
 refine Cn.no (⟨BB.no rfl ?_⟩)
 refine Cn.no (⟨H.st0 (cs' := #[.int .i64 11, .int .i64 g, .int .i64 (-1), .int .i64 (-1), .int .i64 (-1), .int .i64 (-1), .bool false, .bool false]) rfl rfl rfl fun w H => ?_⟩)
 refine ⟨H.ldi 2 rfl (v := .pointer (some ⟨crb1, 0, none⟩)) rfl ?_⟩
 have h1 := H.pi [4, 0, 1, 2, 3, 5, 6, 7] 8
 simp only [pl, nth, drL] at h1
 refine Cl.s (q_turn (L := x.crew) (Small.more (hk).sm (by omega)) g 0 2 (by decide) h1) fun w H => ?_
 replace H := H.pi [1, 2, 3, 4, 0, 5, 6, 7] 8
 simp only [pl, nth, drL] at H
 refine ⟨H.ldi 0 rfl (v := .int .i64 11) rfl ?_⟩
 refine H.ldi 0 rfl (v := .int .i64 g) rfl (H.ldi 0 rfl (v := .int .i64 (-1)) rfl (H.ldi 0 rfl (v := .int .i64 (-1)) rfl (H.ldi 0 rfl (v := .int .i64 (-1)) rfl (H.ldi 0 rfl (v := .int .i64 (-1)) rfl (H.ldi 0 rfl (v := .bool false) rfl (H.ldi 0 rfl (v := .bool false) rfl ?_))))))
 have h1 := H.pi [2, 7, 0, 1, 3, 4, 5, 6] 8
 simp only [pl, nth, drL] at h1
 refine Cl.b (r_noteO (Nat.le_trans ((hk.turn g 0 2)).tr (by omega)) ⟨11, g, -1, -1, -1, -1, false, false⟩ h1) ?_
 rintro _ w ⟨tn1, tk1, rfl, H⟩
 refine ⟨_, rfl, ?_⟩
 replace H := H.pi [2, 3, 0, 4, 5, 6, 7, 1] 8
 simp only [pl, nth, drL] at H
 refine ⟨H.ldi 1 rfl (v := .int .i64 9) rfl ?_⟩
 refine BB.no rfl (Cn.no (ret0 rfl ?_))
 have H0 := H.pi [2, 3, 4, 5, 6, 7, 0, 1] 8
 simp only [pl, nth, drL] at H0
 replace H := rl_shut (x := (noteL (turnL x g 0 2) ⟨11, g, -1, -1, -1, -1, false, false⟩)) hl1 (by first | rfl | simp [turnL, noteL, backN_len]) hn H0
 have hc : otherL x g ⟨9, a, b, cs, df⟩ = (noteL (turnL x g 0 2) ⟨11, g, -1, -1, -1, -1, false, false⟩) := by rfl
 rw [hc]
 exact ⟨rfl, H.pi [0] 3⟩
theorem IntA.of {A : Piece} {b o : Nat} {xs : List Int} (h : Reader A 1 (some ⟨b, o, none⟩) xs.length (ints xs)) : IntA A b o xs := by
 intro T w hT j x hx
 have hl := (List.getElem?_eq_some_iff.1 hx).1
 obtain ⟨b', o', he, hc⟩ := (h T w hT).2.2 (by omega)
 cases he
 rw [Nat.mul_one]
 exact hc j _ (by unfold ints; rw [List.getElem?_map, hx]; rfl)
theorem step_stop {s : ScrM} {x : LmM} (h : ¬ verL s x = 0) : stepL s x = x := by unfold stepL; rw [if_pos h]
theorem step_compact {s : ScrM} {x : LmM} (h : verL s x = 0) (h0 : whoL s x < 0) : stepL s x = noteL { x with p := x.p + 1 } ⟨13, -1, -1, -1, -1, -1, false, false⟩ := by
 unfold stepL
 rw [if_neg (fun hh => hh h), if_pos h0]
 rfl
theorem step_does {s : ScrM} {x : LmM} (h : verL s x = 0) (h0 : ¬ whoL s x < 0) : stepL s x = doesL s { x with p := x.p + 1 } (whoL s x) (opL s x (whoL s x)) := by
 unfold stepL
 rw [if_neg (fun hh => hh h), if_neg h0]
theorem does_alone3 {s : ScrM} {x : LmM} {g : Int} {o : OpM} (h : o.kind = 3) : doesL s x g o = aloneL x g ⟨true, o.a, o.b⟩ := by unfold doesL; rw [if_pos h]
theorem does_alone4 {s : ScrM} {x : LmM} {g : Int} {o : OpM} (h3 : o.kind ≠ 3) (h : o.kind = 4) : doesL s x g o = aloneL x g ⟨false, o.a, 0⟩ := by unfold doesL; rw [if_neg h3, if_pos h]
theorem does_shut {s : ScrM} {x : LmM} {g : Int} {o : OpM} (h3 : o.kind ≠ 3) (h4 : o.kind ≠ 4) (h : o.kind = 5) : doesL s x g o = shutL x g o.a := by unfold doesL; rw [if_neg h3, if_neg h4, if_pos h]
theorem does_choose {s : ScrM} {x : LmM} {g : Int} {o : OpM} (h3 : o.kind ≠ 3) (h4 : o.kind ≠ 4) (h5 : o.kind ≠ 5) (h : o.kind = 6) : doesL s x g o = chooseL s x g o := by unfold doesL; rw [if_neg h3, if_neg h4, if_neg h5, if_pos h]
theorem does_other {s : ScrM} {x : LmM} {g : Int} {o : OpM} (h3 : o.kind ≠ 3) (h4 : o.kind ≠ 4) (h5 : o.kind ≠ 5) (h6 : o.kind ≠ 6) : doesL s x g o = otherL x g o := by unfold doesL; rw [if_neg h3, if_neg h4, if_neg h5, if_neg h6]
set_option maxHeartbeats 4000000 in
theorem r_step {w : World} {F : List Piece} {A : Piece} {np k lb pb po pc0 lc dc : Nat} {s : ScrM} {x : LmM} {t m : Int} {Y : List ProgX} {la da : Option Addr} {plz dr : List Int} (hps : s.progs = progsM Y) (hX : ScrA A pb po Y) (hpl : s.plan = plz) (hAl : Reader A 1 la plz.length (ints plz)) (hgp : ∀ z ∈ plz, -1 ≤ z) (hdr : s.draws = dr) (hAd : Reader A 1 da dr.length (ints dr)) (hgd : ∀ z ∈ dr, 0 ≤ z)
  (hnp : s.progs.length = np) (hnp1 : 1 ≤ np) (hpo : ProgsOk s.progs) (hpb : plz.length ≤ 1000) (hdb : x.d ≤ 1000) (hk : Lk np k x) (hkb : k ≤ 980000) (H : SL w (RlP lb ⟨t, m, .slice (some ⟨pb, po, none⟩) Y.length pc0, .slice la plz.length lc, .slice da dr.length dc⟩ x :: A :: F)) :
  Calls Tryz.prog 64 #[.pointer (some ⟨lb, 0, none⟩)] w fun o w' => o = .returned (.bool (decide (verL s x = 0))) ∧ SL w' (RlP lb ⟨t, m, .slice (some ⟨pb, po, none⟩) Y.length pc0, .slice la plz.length lc, .slice da dr.length dc⟩ (stepL s x) :: A :: F) := by
 obtain ⟨n0, n1, n2, n3, n4, n5, n6, n7, hn⟩ := eight hk.n8
 by_cases hv : verL s x = 0
 ·obtain ⟨_, hvo, hvp⟩ := ver_zero hv
  rw [hpl] at hvp
  obtain ⟨lab, lao, rfl⟩ := H.addrR 1 rfl hAl (by omega)
  have hLA := IntA.of hAl
  by_cases h0 : whoL s x < 0
  ·refine calls_d (args := [_]) Tryz.func64 rfl ?_
   refine ⟨⟨?_⟩⟩
   have h1 := H
   refine Cl.s (r_verdict hpl h1) fun w H => ?_
   refine BB.no (bne_eq_false_iff_eq.2 hv) (Cn.no (⟨?_⟩))
   have h1 := H
   have hq := r_who hpl hLA hvp hgp hk.cl (over_able hvo) h1
   refine Cl.s hq fun w H => ?_
   have hob := rl_open (x := x) hn H
   obtain ⟨hb1, crb1, cha1, chc1, ta1, tc1, ps1, hl1, H⟩ := hob
   refine ⟨H.ldi 0 rfl (v := .pointer (some ⟨hb1, 0, none⟩)) rfl ?_⟩
   have h1 := H.pi [1, 6, 0, 2, 3, 4, 5] 7
   simp only [pl, nth, drL] at h1
   refine Cl.s (r_next06 hAl hvp (by omega) h1) fun w H => ?_
   replace H := H.pi [2, 0, 3, 4, 5, 6, 1] 7
   simp only [pl, nth, drL] at H
   refine ⟨BB.yes (decide_eq_true h0) ?_⟩
   refine Cn.yes (⟨Cl.s (r_bare H 13 (-1)) fun w H => ?_⟩)
   have h1 := H.pi [0, 5, 1, 2, 3, 4, 6] 7
   simp only [pl, nth, drL] at h1
   refine Cl.b (r_noteO (Nat.le_trans ((hk.pp (x.p + 1))).tr (by omega)) ⟨13, -1, -1, -1, -1, -1, false, false⟩ h1) ?_
   rintro _ w ⟨tn1, tk1, rfl, H⟩
   refine ⟨_, rfl, ?_⟩
   replace H := H.pi [0, 2, 3, 4, 5, 1, 6] 7
   simp only [pl, nth, drL] at H
   refine ⟨ret1 (.bool true) rfl (by rfl) ?_⟩
   have H0 := H
   replace H := rl_shut (x := (noteL ({ x with p := x.p + 1 }) ⟨13, -1, -1, -1, -1, -1, false, false⟩)) hl1 (by first | rfl | simp [turnL, noteL, backN_len]) hn H0
   have hc : stepL s x = (noteL ({ x with p := x.p + 1 }) ⟨13, -1, -1, -1, -1, -1, false, false⟩) := by exact step_compact hv h0
   rw [hc, decide_eq_true hv]
   exact ⟨rfl, H⟩
  ·have hgw := who_in hv h0
   obtain ⟨gk, hgk⟩ := Int.eq_ofNat_of_zero_le hgw.1
   rw [hgk] at hgw
   have hgl : gk < x.crew.length := by omega
   obtain ⟨⟨pr0, pl0, cst⟩, hone0⟩ : ∃ z, x.crew[gk]? = some z := ⟨_, get_of hgl⟩
   have hpr0 := hk.pr _ (List.mem_of_getElem? hone0)
   have hsm0 := hk.sm _ (List.mem_of_getElem? hone0)
   dsimp only at hpr0 hsm0
   obtain ⟨prn, rfl⟩ := Int.eq_ofNat_of_zero_le hpr0.1
   obtain ⟨pln, rfl⟩ := Int.eq_ofNat_of_zero_le hsm0.1
   have hprn : prn < Y.length := by rw [hps] at hnp; simp [progsM] at hnp; omega
   have hone : ({ x with p := x.p + 1 } : LmM).crew[gk]? = some ⟨prn, pln, cst⟩ := hone0
   refine calls_d (args := [_]) Tryz.func64 rfl ?_
   refine ⟨⟨?_⟩⟩
   have h1 := H
   refine Cl.s (r_verdict hpl h1) fun w H => ?_
   refine BB.no (bne_eq_false_iff_eq.2 hv) (Cn.no (⟨?_⟩))
   have h1 := H
   have hq := r_who hpl hLA hvp hgp hk.cl (over_able hvo) h1
   rw [hgk] at hq
   refine Cl.s hq fun w H => ?_
   have hob := rl_open (x := x) hn H
   obtain ⟨hb1, crb1, cha1, chc1, ta1, tc1, ps1, hl1, H⟩ := hob
   refine ⟨H.ldi 0 rfl (v := .pointer (some ⟨hb1, 0, none⟩)) rfl ?_⟩
   have h1 := H.pi [1, 6, 0, 2, 3, 4, 5] 7
   simp only [pl, nth, drL] at h1
   refine Cl.s (r_next06 hAl hvp (by omega) h1) fun w H => ?_
   replace H := H.pi [2, 0, 3, 4, 5, 6, 1] 7
   simp only [pl, nth, drL] at H
   refine ⟨BB.nd ?_⟩
   refine Cn.no (⟨?_⟩)
   have H0 := H
   replace H := rl_shut (x := { x with p := x.p + 1 }) hl1 (by first | rfl | simp [turnL, noteL, backN_len]) hn H0
   have h1 := H
   refine Cl.b (r_op (x := { x with p := x.p + 1 }) hps hX hone hprn h1) ?_
   rintro _ w ⟨ox, hox, ⟨hoA, _⟩, rfl, H⟩
   refine ⟨_, rfl, ?_⟩
   have hop : OpOk np ox.op := by rw [hox, ← hnp]; exact opL_ok hpo (by omega) _ _
   have hop0 := hop.a0
   have hop1 := hop.a1
   refine Nw.as #[.int .i64 0, .int .i64 0, .int .i64 0, .slice none 0 0, .bool false] 64 rfl H fun b4 w H => ?_
   refine H.st0 (cs' := #[.int .i64 ox.op.kind, .int .i64 0, .int .i64 0, .slice none 0 0, .bool false]) rfl rfl rfl fun w H => ?_
   refine H.st0 (cs' := #[.int .i64 ox.op.kind, .int .i64 ox.op.a, .int .i64 0, .slice none 0 0, .bool false]) rfl rfl rfl fun w H => ?_
   refine H.st0 (cs' := #[.int .i64 ox.op.kind, .int .i64 ox.op.a, .int .i64 ox.op.b, .slice none 0 0, .bool false]) rfl rfl rfl fun w H => ?_
   refine H.st0 (cs' := #[.int .i64 ox.op.kind, .int .i64 ox.op.a, .int .i64 ox.op.b, .slice ox.ca ox.op.cases.length ox.cc, .bool false]) rfl rfl rfl fun w H => ?_
   refine H.st0 (cs' := #[.int .i64 ox.op.kind, .int .i64 ox.op.a, .int .i64 ox.op.b, .slice ox.ca ox.op.cases.length ox.cc, .bool ox.op.dflt]) rfl rfl rfl fun w H => ?_
   refine ⟨H.ldi 0 rfl (v := .int .i64 ox.op.kind) rfl ?_⟩
   refine ⟨⟨BB.vr fun q1 e1 => ?_⟩⟩
   cases q1
   ·have h1 := neq_of e1
    refine Cn.no (⟨BB.vr fun q2 e2 => ?_⟩)
    cases q2
    ·have h2 := neq_of e2
     refine Cn.no (⟨BB.vr fun q3 e3 => ?_⟩)
     cases q3
     ·have h3 := neq_of e3
      refine Cn.no (⟨BB.vr fun q4 e4 => ?_⟩)
      cases q4
      ·have h4 := neq_of e4
       refine Cn.no (⟨H.ldi 0 rfl (v := .int .i64 ox.op.kind) rfl ?_⟩)
       refine H.ldi 0 rfl (v := .int .i64 ox.op.a) rfl (H.ldi 0 rfl (v := .int .i64 ox.op.b) rfl (H.ldi 0 rfl (v := .slice ox.ca ox.op.cases.length ox.cc) rfl (H.ldi 0 rfl (v := .bool ox.op.dflt) rfl ?_)))
       have hk9 : ox.op.kind = 1 ∨ ox.op.kind = 2 ∨ ox.op.kind = 7 ∨ ox.op.kind = 8 ∨ ox.op.kind = 9 := by have := hop.k0; have := hop.k1; omega
       have h1 := H.pi [1, 0, 2] 3
       simp only [pl, nth, drL] at h1
       refine Cl.s (r_other (x := { x with p := x.p + 1 }) (cs := ox.op.cases) hn (hk.pp _) (by omega) ↑gk hk9 hop0 hop1 hop.pr hop.b0 hop.cap h1) fun w H => ?_
       replace H := H.pi [1, 0, 2] 3
       simp only [pl, nth, drL] at H
       refine ⟨ret1 (.bool true) rfl (by rfl) ?_⟩
       have hc : stepL s x = (otherL { x with p := x.p + 1 } ↑gk ox.op) := by rw [step_does hv h0, hgk, show opL s x (gk : Int) = ox.op from hox.symm]; exact does_other (by assumption) (by assumption) (by assumption) (by assumption)
       rw [hc, decide_eq_true hv]
       exact ⟨rfl, H.pi [1, 2] 3⟩
      have h4 := eq_of_beq e4
      refine Cn.yes (⟨H.ldi 0 rfl (v := .int .i64 ox.op.kind) rfl ?_⟩)
      refine H.ldi 0 rfl (v := .int .i64 ox.op.a) rfl (H.ldi 0 rfl (v := .int .i64 ox.op.b) rfl (H.ldi 0 rfl (v := .slice ox.ca ox.op.cases.length ox.cc) rfl (H.ldi 0 rfl (v := .bool ox.op.dflt) rfl ?_)))
      have h1 := H.pi [1, 2, 0] 3
      simp only [pl, nth, drL] at h1
      refine Cl.s (r_choose (x := { x with p := x.p + 1 }) hn (hk.pp _) (by omega) hgw hdr hAd hgd hdb hoA hop h1) fun w H => ?_
      replace H := H.pi [2, 0, 1] 3
      simp only [pl, nth, drL] at H
      refine ⟨ret1 (.bool true) rfl (by rfl) ?_⟩
      have hc : stepL s x = (chooseL s { x with p := x.p + 1 } ↑gk ox.op) := by rw [step_does hv h0, hgk, show opL s x (gk : Int) = ox.op from hox.symm]; exact does_choose (by assumption) (by assumption) (by assumption) (by assumption)
      rw [hc, decide_eq_true hv]
      exact ⟨rfl, H.pi [1, 2] 3⟩
     have h3 := eq_of_beq e3
     refine Cn.yes (⟨H.ldi 0 rfl (v := .int .i64 ox.op.a) rfl ?_⟩)
     have h1 := H.pi [1, 0, 2] 3
     simp only [pl, nth, drL] at h1
     refine Cl.s (r_shutC (x := { x with p := x.p + 1 }) hn (hk.pp _) (by omega) ↑gk ⟨hop0, hop1⟩ h1) fun w H => ?_
     replace H := H.pi [1, 0, 2] 3
     simp only [pl, nth, drL] at H
     refine ⟨ret1 (.bool true) rfl (by rfl) ?_⟩
     have hc : stepL s x = (shutL { x with p := x.p + 1 } ↑gk ox.op.a) := by rw [step_does hv h0, hgk, show opL s x (gk : Int) = ox.op from hox.symm]; exact does_shut (by assumption) (by assumption) (by assumption)
     rw [hc, decide_eq_true hv]
     exact ⟨rfl, H.pi [1, 2] 3⟩
    have h2 := eq_of_beq e2
    refine Cn.yes (⟨H.ldi 0 rfl (v := .int .i64 ox.op.a) rfl ?_⟩)
    refine Mn.pure (.agg #[.bool false, .int .i64 ox.op.a, .int .i64 0]) (by kernel_rfl) ?_
    have h1 := H.pi [1, 0, 2] 3
    simp only [pl, nth, drL] at h1
    refine Cl.s (r_aloneC (x := { x with p := x.p + 1 }) hn (hk.pp _) (by omega) hgw false ⟨hop0, hop1⟩ 0 h1) fun w H => ?_
    replace H := H.pi [1, 0, 2] 3
    simp only [pl, nth, drL] at H
    refine ⟨ret1 (.bool true) rfl (by rfl) ?_⟩
    have hc : stepL s x = (aloneL { x with p := x.p + 1 } ↑gk ⟨false, ox.op.a, 0⟩) := by rw [step_does hv h0, hgk, show opL s x (gk : Int) = ox.op from hox.symm]; exact does_alone4 (by assumption) (by assumption)
    rw [hc, decide_eq_true hv]
    exact ⟨rfl, H.pi [1, 2] 3⟩
   have h1 := eq_of_beq e1
   refine Cn.yes (⟨H.ldi 0 rfl (v := .int .i64 ox.op.a) rfl ?_⟩)
   refine H.ldi 0 rfl (v := .int .i64 ox.op.b) rfl (Mn.pure (.agg #[.bool true, .int .i64 ox.op.a, .int .i64 ox.op.b]) (by kernel_rfl) ?_)
   have h1 := H.pi [1, 0, 2] 3
   simp only [pl, nth, drL] at h1
   refine Cl.s (r_aloneC (x := { x with p := x.p + 1 }) hn (hk.pp _) (by omega) hgw true ⟨hop0, hop1⟩ ox.op.b h1) fun w H => ?_
   replace H := H.pi [1, 0, 2] 3
   simp only [pl, nth, drL] at H
   refine ⟨ret1 (.bool true) rfl (by rfl) ?_⟩
   have hc : stepL s x = (aloneL { x with p := x.p + 1 } ↑gk ⟨true, ox.op.a, ox.op.b⟩) := by rw [step_does hv h0, hgk, show opL s x (gk : Int) = ox.op from hox.symm]; exact does_alone3 (by assumption)
   rw [hc, decide_eq_true hv]
   exact ⟨rfl, H.pi [1, 2] 3⟩
 refine calls_d (args := [_]) Tryz.func64 rfl ?_
 refine ⟨⟨?_⟩⟩
 have h1 := H
 refine Cl.s (r_verdict hpl h1) fun w H => ?_
 refine BB.yes (bne_iff_ne.2 hv) (Cn.yes (⟨ret1 (.bool false) rfl (by rfl) ?_⟩))
 have hc : stepL s x = x := by exact step_stop hv
 rw [hc, decide_eq_false hv]
 exact ⟨rfl, H⟩
end Go.Proofs.YtoamjodmidbmbaaGreatDoor
namespace Go.Proofs.YtoamjodmidbmbaaGreatDoor
open Go.RowKit
def withinF (n c np : Int) : Bool :=
 if c = 112 then decide (0 ≤ n ∧ n < np) else if c = 99 ∨ c = 120 then decide (0 ≤ n ∧ n < 8) else if c = 109 then decide (0 ≤ n ∧ n ≤ 4) else if c = 118 then decide (0 ≤ n ∧ n ≤ 99) else n == 0
def rowF (k : Int) : Int × Int :=
 if k = 1 then (112, 46) else if k = 2 then (99, 109) else if k = 3 then (99, 118) else if k = 4 then (99, 46) else if k = 5 then (99, 46) else if k = 6 then (46, 46) else if k = 7 then (120, 46) else if k = 8 then (120, 46) else (46, 46)
def caseR (c : CaseM) : Bool := withinF c.chan 99 0 && (!c.send || withinF c.value 118 0) && (c.send || c.value == 0)
def opE (np : Int) (o : OpM) : Int :=
 if np < 1 ∨ 8 < np ∨ o.kind < 1 ∨ 9 < o.kind then 1
 else if 4 < o.cases.length then 2
 else if ¬ (withinF o.a (rowF o.kind).1 np = true ∧ withinF o.b (rowF o.kind).2 np = true) then 4
 else if o.kind ≠ 6 ∧ (o.cases.length ≠ 0 ∨ o.dflt = true) then 4
 else if o.cases.all caseR = true then 0 else 4
def planOk (n : Int) : Bool := decide (-1 ≤ n ∧ n ≤ 1000)
def drawOk (n : Int) : Bool := decide (0 ≤ n ∧ n ≤ 1000)
def progOk (np : Int) (p : List OpM) : Bool := p.all (fun o => opE np o == 0)
def shortP (p : List OpM) : Bool := decide (p.length ≤ 32)
def checkE (s : ScrM) : Int :=
 if s.t < 1 ∨ 256 < s.t ∨ s.m < 1 ∨ 1048576 < s.m then 1
 else if 8 < s.progs.length ∨ 200 < s.plan.length ∨ 64 < s.draws.length then 2
 else if s.progs.all shortP = false then 2
 else if s.progs.length = 0 then 4
 else if s.progs.all (progOk s.progs.length) = false then 4
 else if s.plan.all planOk = false then 4
 else if s.draws.all drawOk = false then 4
 else 0
section
variable {α : Type} {L : List α} {p : α → Bool} {j : Nat} {z : α}
theorem all_step (h : (L.take j).all p = true) (hz : L[j]? = some z) (hp : p z = true) : (L.take (j + 1)).all p = true := by
 rw [List.take_add_one, hz, List.all_append, h]
 simp [hp]
theorem all_no (hz : L[j]? = some z) (hp : p z = false) : L.all p = false := by
 rw [List.all_eq_false]
 exact ⟨z, List.mem_of_getElem? hz, by simp [hp]⟩
theorem all_for (h : L.all p = true) (hz : L[j]? = some z) : p z = true := List.all_eq_true.1 h z (List.mem_of_getElem? hz)
end
structure Right (s : ScrM) : Prop where
 n1 : 1 ≤ s.progs.length
 plz : s.plan.length ≤ 200
 dl : s.draws.length ≤ 64
 ok : ProgsOk s.progs
 p0 : ∀ z ∈ s.plan, -1 ≤ z
 p1 : ∀ z ∈ s.plan, z ≤ 1000
 d0 : ∀ z ∈ s.draws, 0 ≤ z
 ol : ∀ p ∈ s.progs, p.length ≤ 32
theorem within_c {n np : Int} (h : withinF n 99 np = true) : 0 ≤ n ∧ n < 8 := by
 unfold withinF at h
 simpa using h
theorem opE_ok {np : Nat} {o : OpM} (h : opE np o = 0) : OpOk np o := by
 unfold opE at h
 split at h
 ·cases h
 ·rename_i h1
  split at h
  ·cases h
  ·rename_i h2
   split at h
   ·cases h
   ·rename_i h3
    split at h
    ·cases h
    ·split at h
     ·rename_i h5
      have h3 := Classical.not_not.1 h3
      obtain ⟨ha, hb⟩ := h3
      have hkind : o.kind = 1 ∨ o.kind = 2 ∨ o.kind = 3 ∨ o.kind = 4 ∨ o.kind = 5 ∨ o.kind = 6 ∨ o.kind = 7 ∨ o.kind = 8 ∨ o.kind = 9 := by omega
      have key : 0 ≤ o.a ∧ o.a < 8 ∧ (o.kind = 1 → o.a < (np : Int)) ∧ 0 ≤ o.b ∧ o.b ≤ 99 ∧ (o.kind = 2 → o.b ≤ 4) ∧ (o.kind = 4 → o.b = 0) := by
       rcases hkind with hk | hk | hk | hk | hk | hk | hk | hk | hk <;> rw [hk] at ha hb <;> simp [rowF, withinF] at ha hb <;> omega
      exact ⟨by omega, by omega, key.1, key.2.1, key.2.2.1, key.2.2.2.1, key.2.2.2.2.1, key.2.2.2.2.2.1, key.2.2.2.2.2.2, by omega, fun c hc => by
       have := List.all_eq_true.1 h5 c hc
       unfold caseR at this
       simp only [Bool.and_eq_true] at this
       exact within_c this.1.1⟩
     ·cases h
theorem checkE_right {s : ScrM} (h : checkE s = 0) : Right s := by
 unfold checkE at h
 split at h
 ·cases h
 ·split at h
  ·cases h
  ·rename_i h2
   split at h
   ·cases h
   ·rename_i h3
    split at h
    ·cases h
    ·rename_i h4
     split at h
     ·cases h
     ·rename_i h5
      split at h
      ·cases h
      ·rename_i h6
       split at h
       ·cases h
       ·rename_i h7
        simp only [Bool.not_eq_false] at h3 h5 h6 h7
        refine ⟨by omega, by omega, by omega, fun p hp o ho => ?_, fun z hz => ?_, fun z hz => ?_, fun z hz => ?_, fun p hp => ?_⟩
        ·have := List.all_eq_true.1 h5 p hp
         have := List.all_eq_true.1 this o ho
         exact opE_ok (eq_of_beq this)
        ·have := List.all_eq_true.1 h6 z hz
         simp [planOk] at this
         exact this.1
        ·have := List.all_eq_true.1 h6 z hz
         simp [planOk] at this
         exact this.2
        ·have := List.all_eq_true.1 h7 z hz
         simp [drawOk] at this
         exact this.1
        ·have := List.all_eq_true.1 h3 p hp
         simpa [shortP] using this
end Go.Proofs.YtoamjodmidbmbaaGreatDoor
