/- Texts of the proof, several in one file: LoomG1, LoomG2, LoomG3. -/
import Derived.Test.YtchkaaeoffmjnaaGreatDoorG15
namespace Go.Proofs.YtchkaaeoffmjnaaGreatDoor
set_option linter.unusedVariables false
set_option linter.unusedSimpArgs false
open Go.RowKit
def crewG (L : List One) : List (Bool × Bool) := L.map (fun o => (o.state == 1, o.state == 2))
def coreP (y : PipeM) : ChnM := ⟨(y.size : Int), y.buf, y.closed⟩
def chanG (M : List PipeM) : List ChnM := M.map coreP
structure SimG (x : LmM) (r : RdrM) : Prop where
 crew : r.crew = crewG x.crew
 chans : r.chans = chanG x.M
 over : r.over = false
def Stt (L : List One) (g s : Int) : Prop := 0 ≤ g ∧ ∃ o, L[g.toNat]? = some o ∧ o.state = s
def WP (P : Wtr → Prop) (M : List PipeM) : Prop := ∀ y ∈ M, ∀ a, a ∈ y.senders ∨ a ∈ y.receivers → P a
def WtS (L : List One) (M : List PipeM) : Prop := WP (fun a => Stt L a.g 1) M
def CalmP (p : Option Ev) : Prop := p.filter servesF = none
structure Pg (l : List Ev) (i : Nat) (r : RdrM) : Prop where
 b : ∀ j < i, brG l j = 0
 s : stG l i = r
section
variable {l T : List Ev} {i : Nat} {r r' r1 r2 r3 r4 r5 : RdrM} {e : Ev} {prev : Option Ev} {next : Option Int}
theorem Pg.step (h : Pg l i r) (he : l[i]? = some e) (hs : stepG r (prevF l i) (nextF l i) e = (0, r')) : Pg l (i + 1) r' := by
 have hd : l.getD i evz = e := by rw [List.getD_eq_getElem?_getD, he]; rfl
 refine ⟨fun j hj => ?_, ?_⟩
 ·by_cases hji : j = i
  ·subst hji
   unfold brG
   rw [h.s, hd, hs]
  ·exact h.b j (by omega)
 ·rw [stG, h.s, hd, hs]
theorem pre_at (hp : (T ++ [e]) <+: l) : l[T.length]? = some e := by
 obtain ⟨s, rfl⟩ := hp
 simp
theorem pre_next {f : Ev} (hp : (T ++ [e] ++ [f]) <+: l) : nextF l T.length = some f.value := by
 obtain ⟨s, rfl⟩ := hp
 unfold nextF
 simp
theorem prev_is (hp : (T ++ [e]) <+: l) : prevF l (T ++ [e]).length = some e := by
 unfold prevF
 rw [if_neg (by simp), List.length_append]
 exact pre_at hp
theorem Pg.note (h : Pg l T.length r) (hp : (T ++ [e]) <+: l) (hs : stepG r (prevF l T.length) (nextF l T.length) e = (0, r')) : Pg l (T ++ [e]).length r' := by
 rw [List.length_append]
 exact h.step (pre_at hp) hs
theorem stepG_ok (h0 : entF e = 0) (h1 : crewedF r e = (true, r1)) (h2 : madeF r1 e = (true, r2)) (h3 : servedF r2 prev e = (true, r3)) (h4 : orderedF r3 next e = (true, r4)) (h5 : closedF r4 e = (true, r5)) : stepG r prev next e = (0, r5) := by
 unfold stepG
 simp only [h1, h2, h3, h4, h5, h0]
 simp
theorem crewed_run (ho : r.over = false) (h13 : e.kind ≠ 13) (hc : r.crew[e.g.toNat]? = some (false, false)) (h7 : e.kind ≠ 7) (h1 : e.kind ≠ 1) : crewedF r e = (true, { r with crew := r.crew.set e.g.toNat (e.kind == 6, e.kind == 11), over := e.kind == 12 }) := by
 unfold crewedF
 rw [ho, if_neg (by decide), if_neg h13, hc]
 simp [h7, h1]
theorem crewed_spawn (ho : r.over = false) (hc : r.crew[e.g.toNat]? = some (false, false)) (h1 : e.kind = 1) (hm : e.mate = r.crew.length) : crewedF r e = (true, { r with crew := r.crew.set e.g.toNat (false, false) ++ [(false, false)], over := false }) := by
 unfold crewedF
 rw [ho, if_neg (by decide), if_neg (by omega), hc]
 simp [h1, hm]
theorem crewed_wake (ho : r.over = false) (hc : r.crew[e.g.toNat]? = some (true, false)) (h7 : e.kind = 7) : crewedF r e = (true, { r with crew := r.crew.set e.g.toNat (false, false), over := false }) := by
 unfold crewedF
 rw [ho, if_neg (by decide), if_neg (by omega), hc]
 simp [h7]
theorem crewed_panic {b : Bool} (ho : r.over = false) (hc : r.crew[e.g.toNat]? = some (b, false)) (h : e.kind = 12) : crewedF r e = (true, { r with crew := r.crew.set e.g.toNat (false, false), over := true }) := by
 unfold crewedF
 rw [ho, if_neg (by decide), if_neg (by omega), hc]
 simp [h]
theorem crewed_compact (ho : r.over = false) (h : e.kind = 13) : crewedF r e = (true, r) := by
 unfold crewedF
 rw [ho, if_neg (by decide), if_pos h]
theorem made_none (h2 : e.kind ≠ 2) (hc : e.chan = -1) : madeF r e = (true, r) := by
 unfold madeF
 rw [if_neg h2, hc]
 rfl
theorem made_some {c : ChnM} (h2 : e.kind ≠ 2) (hc : chanF r e.chan = some c) : madeF r e = (true, r) := by
 unfold madeF
 rw [if_neg h2, hc]
 simp
theorem served_calm (hp : CalmP prev) (h7 : e.kind ≠ 7) : servedF r prev e = (true, { r with closer := e }) := by
 unfold servedF
 rw [show prev.filter servesF = none from hp]
 dsimp only
 rw [if_neg h7]
theorem ordered_none (hc : e.chan = -1) : orderedF r next e = (true, r) := by
 unfold orderedF chanF
 rw [hc]
 rfl
theorem closed_none (hc : e.chan = -1) : closedF r e = (true, r) := by
 unfold closedF chanF
 rw [hc]
 rfl
theorem ordered_other {c : ChnM} (hc : chanF r e.chan = some c) (h : e.kind ≠ 3 ∧ (e.kind ≠ 4 ∨ e.ok = false)) : orderedF r next e = (true, r) := by
 unfold orderedF
 rw [hc]
 dsimp only
 rw [if_pos h]
theorem closed_other {c : ChnM} (hc : chanF r e.chan = some c) (h5 : e.kind ≠ 5) (h3 : e.kind ≠ 3) (h4 : e.kind ≠ 4) : closedF r e = (true, r) := by
 unfold closedF
 rw [hc]
 simp [h5, h3, h4]
/-- An event of a running goroutine, about no channel. -/
theorem step_bare (h0 : entF e = 0) (ho : r.over = false) (h13 : e.kind ≠ 13) (hc : r.crew[e.g.toNat]? = some (false, false)) (h7 : e.kind ≠ 7) (h1 : e.kind ≠ 1) (h2 : e.kind ≠ 2) (hch : e.chan = -1) (hp : CalmP prev) :
  stepG r prev next e = (0, { r with crew := r.crew.set e.g.toNat (e.kind == 6, e.kind == 11), over := e.kind == 12, closer := e }) :=
 stepG_ok h0 (crewed_run ho h13 hc h7 h1) (made_none h2 hch) (served_calm hp h7) (ordered_none hch) (closed_none hch)
end
section
variable {L : List One} {M ys : List PipeM} {g fr to b : Int} {o : One} {i : Nat} {y : PipeM} {x : LmM} {np k j : Nat} {P : Wtr → Prop}
theorem crewG_get {g : Nat} (h : L[g]? = some o) : (crewG L)[g]? = some (o.state == 1, o.state == 2) := by
 unfold crewG
 rw [List.getElem?_map, h]
 rfl
theorem turn_G (hg : 0 ≤ g) (ho : L[g.toNat]? = some o) (hf : o.state = fr) : crewG (turnF L g fr to b).2 = (crewG L).set g.toNat (to == 1, to == 2) := by
 unfold turnF
 rw [if_pos hg, ho]
 dsimp only
 rw [if_pos hf]
 unfold crewG
 rw [List.map_set]
theorem set_id {α : Type} {l : List α} {n : Nat} {a : α} (h : l[n]? = some a) : l.set n a = l := by
 obtain ⟨hn, rfl⟩ := List.getElem?_eq_some_iff.1 h
 exact List.set_getElem_self hn
theorem turn_same (hs : Stt L g 0) : crewG (turnF L g 0 0 b).2 = crewG L := by
 obtain ⟨hg, o, ho, h0⟩ := hs
 rw [turn_G hg ho h0]
 have := crewG_get ho
 rw [h0] at this
 exact set_id this
theorem chanG_get (h : M[i]? = some y) : (chanG M)[i]? = some (coreP y) := by
 unfold chanG
 rw [List.getElem?_map, h]
 rfl
theorem chanG_set : chanG (M.set i y) = (chanG M).set i (coreP y) := List.map_set
theorem chanG_drop (g : Int) : chanG (M.map (fun y => dropM y g)) = chanG M := by
 unfold chanG
 rw [List.map_map]
 rfl
/-- What is done to one that has a name. -/
theorem back_set (hk : Lk np k x) (hj : j < 8) (hi : numL x (j : Int) = (i : Int)) (y : PipeM) : backN x.name ((pipesN x).set j y) x.M = x.M.set i y := by
 have hil : i < x.M.length := by have := num_lt hk hj; omega
 have hlen : j < (pipesN x).length := by rw [hk.pipes_len]; exact hj
 refine List.ext_getElem? (fun c => ?_)
 rcases Nat.lt_or_ge c x.M.length with hc | hc
 ·by_cases h : ∃ j' : Nat, j' < 8 ∧ numL x (j' : Int) = (c : Int)
  ·obtain ⟨j', hj', hjc⟩ := h
   have hjn : j' < x.name.length := by rw [hk.n8]; exact hj'
   have hn : x.name[j']? = some (c : Int) := by rw [List.getElem?_eq_getElem hjn, ← numL_get hjn, hjc]
   by_cases e : j' = j
   ·subst e
    obtain rfl : i = c := by omega
    rw [backN_on x.name _ x.M j' i y hk.nm.ne hn (by rw [List.getElem?_set, if_pos rfl, if_pos hlen]) hc, List.getElem?_set, if_pos rfl, if_pos hc]
   ·have hne : i ≠ c := fun e' => e (num_one hk hj' hj (by omega) (by omega))
    rw [backN_on x.name _ x.M j' c (x.M.getD c (emptyM 0)) hk.nm.ne hn (by rw [List.getElem?_set, if_neg (Ne.symm e), pipesN_get hk hj', hjc, if_pos (Int.natCast_nonneg _), Int.toNat_natCast]) hc, List.getElem?_set, if_neg hne, List.getD_eq_getElem?_getD, List.getElem?_eq_getElem hc]
    rfl
  ·have hne : i ≠ c := fun e' => h ⟨j, hj, by omega⟩
   rw [backN_off x.name _ x.M c (fun n hn => ?_), List.getElem?_set, if_neg hne]
   obtain ⟨j', hj', rfl⟩ := List.getElem_of_mem hn
   intro e
   exact h ⟨j', by rw [← hk.n8]; exact hj', by rw [numL_get hj']; exact e⟩
 ·rw [List.getElem?_eq_none (by rw [backN_len]; exact hc), List.getElem?_eq_none (by rw [List.length_set]; exact hc)]
/-- What is done to all, if it leaves what they hold. -/
theorem back_core (hk : Lk np k x) (h : ys.map coreP = (pipesN x).map coreP) : chanG (backN x.name ys x.M) = chanG x.M := by
 refine List.ext_getElem? (fun c => ?_)
 unfold chanG
 rw [List.getElem?_map, List.getElem?_map]
 rcases Nat.lt_or_ge c x.M.length with hc | hc
 ·by_cases h' : ∃ j' : Nat, j' < 8 ∧ numL x (j' : Int) = (c : Int)
  ·obtain ⟨j', hj', hjc⟩ := h'
   have hjn : j' < x.name.length := by rw [hk.n8]; exact hj'
   have hn : x.name[j']? = some (c : Int) := by rw [List.getElem?_eq_getElem hjn, ← numL_get hjn, hjc]
   have hyl : ys.length = (pipesN x).length := by have := congrArg List.length h; simpa using this
   have hj9 : j' < ys.length := by rw [hyl, hk.pipes_len]; exact hj'
   rw [backN_on x.name ys x.M j' c ys[j'] hk.nm.ne hn (List.getElem?_eq_getElem hj9) hc]
   have h1 : (ys.map coreP)[j']? = ((pipesN x).map coreP)[j']? := by rw [h]
   rw [List.getElem?_map, List.getElem?_map, List.getElem?_eq_getElem hj9, pipesN_get hk hj', hjc, if_pos (Int.natCast_nonneg _), Int.toNat_natCast, List.getD_eq_getElem?_getD, List.getElem?_eq_getElem hc] at h1
   rw [List.getElem?_eq_getElem hc]
   exact h1
  ·rw [backN_off x.name _ x.M c (fun n hn => ?_)]
   obtain ⟨j', hj', rfl⟩ := List.getElem_of_mem hn
   intro e
   exact h' ⟨j', by rw [← hk.n8]; exact hj', by rw [numL_get hj']; exact e⟩
 ·rw [List.getElem?_eq_none (by rw [backN_len]; exact hc), List.getElem?_eq_none hc]
theorem wait_core (y : PipeM) (s : Bool) (m : Wtr) : coreP (waitF y s m).2 = coreP y := by
 unfold waitF
 split
 ·rfl
 ·split <;> rfl
theorem set_core (h : coreP y = coreP (M.getD i (emptyM 0))) : (M.set i y).map coreP = M.map coreP := by
 rw [List.map_set, h]
 by_cases hi : i < M.length
 ·refine set_id ?_
  rw [List.getElem?_map, List.getElem?_eq_getElem hi, List.getD_eq_getElem?_getD, List.getElem?_eq_getElem hi]
  rfl
 ·rw [List.set_eq_of_length_le (by simp; omega)]
theorem park_core (ok : List Bool) (g : Int) (C : List CaseM) (M : List PipeM) : ∀ k, (parkK ok g C M k).2.map coreP = M.map coreP
 | 0 => rfl
 | k + 1 => by
  unfold parkK
  split
  ·exact park_core ok g C M k
  ·dsimp only
   rw [set_core (wait_core _ _ _), park_core ok g C M k]
theorem parkF_core (ok : List Bool) (g : Int) (C : List CaseM) (M : List PipeM) : (parkF ok g C M).2.map coreP = M.map coreP := by
 unfold parkF
 split
 ·rfl
 ·split
  ·rfl
  ·exact park_core ok g C M _
theorem WP.mono {Q : Wtr → Prop} (h : WP P M) (hi : ∀ a, P a → Q a) : WP Q M := fun y hy a ha => hi a (h y hy a ha)
theorem WP.at_ (h : WP P M) (i : Nat) : ∀ a, a ∈ (M.getD i (emptyM 0)).senders ∨ a ∈ (M.getD i (emptyM 0)).receivers → P a := by
 rw [List.getD_eq_getElem?_getD]
 cases hm : M[i]? with
 | none => intro a ha; simp [emptyM] at ha
 | some u => exact h u (List.mem_of_getElem? hm)
theorem WP.set (h : WP P M) (i : Nat) (hy : ∀ a, a ∈ y.senders ∨ a ∈ y.receivers → P a) : WP P (M.set i y) := by
 intro z hz
 rcases List.mem_or_eq_of_mem_set hz with hz | rfl
 ·exact h z hz
 ·exact hy
theorem WP.drop (h : WP P M) (g : Int) : WP (fun a => P a ∧ a.g ≠ g) (M.map (fun y => dropM y g)) := by
 intro z hz a ha
 obtain ⟨u, hu, rfl⟩ := List.mem_map.1 hz
 have hne : a.g ≠ g := by
  rcases ha with ha | ha
  ·exact of_decide_eq_true (List.mem_filter.1 (show a ∈ without g u.senders from ha)).2
  ·exact of_decide_eq_true (List.mem_filter.1 (show a ∈ without g u.receivers from ha)).2
 exact ⟨h u hu a (ha.imp without_in without_in), hne⟩
theorem WP.named (h : WP P x.M) : WP P (pipesN x) := by
 intro z hz
 unfold pipesN at hz
 obtain ⟨n, _, rfl⟩ := List.mem_map.1 hz
 split
 ·exact h.at_ _
 ·intro a ha
  simp [emptyM] at ha
theorem WP.back : ∀ (ns : List Int) (ys M : List PipeM), WP P ys → WP P M → WP P (backN ns ys M)
 | [], _, _, _, h => by unfold backN; exact h
 | n :: ns, [], _, _, h => by unfold backN; exact h
 | n :: ns, y :: ys, M, hy, h => by
  unfold backN
  refine WP.back ns ys _ (fun z hz => hy z (List.mem_cons_of_mem _ hz)) ?_
  split
  ·exact h.set _ (hy y List.mem_cons_self)
  ·exact h
theorem WP.parkK (h : WP P M) (ok : List Bool) {g : Int} (hg : ∀ c v, P ⟨g, c, v⟩) (C : List CaseM) : ∀ k, WP P (Go.Proofs.YtchkaaeoffmjnaaGreatDoor.parkK ok g C M k).2
 | 0 => h
 | k + 1 => by
  have ih := WP.parkK h ok hg C k
  unfold Go.Proofs.YtchkaaeoffmjnaaGreatDoor.parkK
  split
  ·exact ih
  ·exact ih.set _ (fun a ha => (wait_wt _ _ _ _ ha).elim (ih.at_ _ a) (fun e => by rw [e]; exact hg _ _))
theorem WP.parkF (h : WP P M) (ok : List Bool) {g : Int} (hg : ∀ c v, P ⟨g, c, v⟩) (C : List CaseM) : WP P (Go.Proofs.YtchkaaeoffmjnaaGreatDoor.parkF ok g C M).2 := by
 unfold Go.Proofs.YtchkaaeoffmjnaaGreatDoor.parkF
 split
 ·exact h
 ·split
  ·exact h
  ·exact h.parkK ok hg C _
theorem Stt.turn {h s : Int} (hs : Stt L h s) (hg : 0 ≤ g) (hne : h ≠ g) : Stt (turnF L g fr to b).2 h s := by
 obtain ⟨h0, o, ho, hst⟩ := hs
 refine ⟨h0, o, ?_, hst⟩
 unfold turnF
 rw [if_pos hg]
 split
 ·exact ho
 ·split
  ·rw [List.getElem?_set, if_neg (by omega)]
   exact ho
  ·exact ho
theorem Stt.self (hs : Stt L g fr) : Stt (turnF L g fr to b).2 g to := by
 obtain ⟨hg, o, ho, hst⟩ := hs
 obtain ⟨hl, _⟩ := List.getElem?_eq_some_iff.1 ho
 refine ⟨hg, ⟨o.program, o.place + b, to⟩, ?_, rfl⟩
 unfold turnF
 rw [if_pos hg, ho]
 dsimp only
 rw [if_pos hst, List.getElem?_set, if_pos rfl, if_pos hl]
theorem Stt.ne {h s t : Int} (hs : Stt L h s) (ht : Stt L g t) (hne : s ≠ t) : h ≠ g := by
 rintro rfl
 obtain ⟨_, o, ho, rfl⟩ := hs
 obtain ⟨_, o', ho', rfl⟩ := ht
 rw [ho] at ho'
 injection ho' with e
 rw [e] at hne
 exact hne rfl
/-- Those that wait still do, behind a turn of one that ran. -/
theorem WtS.turn (h : WtS L M) (hs : Stt L g 0) : WtS (turnF L g fr to b).2 M := WP.mono h (fun a ha => ha.turn hs.1 (ha.ne hs (by decide)))
end
section
variable {l : List Ev} {x : LmM} {r : RdrM} {np k : Nat} {g : Int} {e : Ev}
theorem pre_cut {T U l : List Ev} (h : T ++ U <+: l) : T <+: l := (List.prefix_append T U).trans h
theorem ent_of (hE : ∀ e ∈ l, entF e = 0) {T : List Ev} (hp : (T ++ [e]) <+: l) : entF e = 0 := hE e (List.mem_of_getElem? (pre_at hp))
theorem SimG.run (h : SimG x r) (hs : Stt x.crew g 0) : r.crew[g.toNat]? = some (false, false) := by
 obtain ⟨_, o, ho, h0⟩ := hs
 rw [h.crew, crewG_get ho, h0]
 rfl
theorem SimG.wait (h : SimG x r) (hs : Stt x.crew g 1) : r.crew[g.toNat]? = some (true, false) := by
 obtain ⟨_, o, ho, h0⟩ := hs
 rw [h.crew, crewG_get ho, h0]
 rfl
theorem SimG.chan (h : SimG x r) {c : Int} {i : Nat} (hc : c = (i : Int)) (hi : i < x.M.length) : chanF r c = some (coreP (x.M.getD i (emptyM 0))) := by
 subst hc
 unfold chanF
 rw [if_neg (by omega), h.chans, Int.toNat_natCast, chanG_get (List.getElem?_eq_getElem hi), List.getD_eq_getElem?_getD, List.getElem?_eq_getElem hi]
 rfl
theorem calm_of (h : ¬ (servesF e = true)) : CalmP (some e) := by
 unfold CalmP
 simp [h]
theorem calm_kinds (h3 : e.kind ≠ 3) (h4 : e.kind ≠ 4) : CalmP (some e) := calm_of (by unfold servesF; simp [h3, h4])
theorem calm_mate (h : e.mate = -1) : CalmP (some e) := calm_of (by unfold servesF; simp [h])
/-- How a run stands by the gauge. -/
structure Gk (l : List Ev) (x : LmM) : Prop where
 r : ∃ r, Pg l x.tr.length r ∧ (x.pan = false → SimG x r)
 calm : CalmP (prevF l x.tr.length)
 wt : x.pan = false → WtS x.crew x.M
/-- A goroutine that runs has an event about no channel, and its state is another one. -/
theorem Gk.bare (h : Gk l x) (hE : ∀ e ∈ l, entF e = 0) (hpan : x.pan = false) (hs : Stt x.crew e.g 0) {s' : Int} (hch : e.chan = -1) (hk : e.kind = 6 ∨ e.kind = 8 ∨ e.kind = 9 ∨ e.kind = 10 ∨ e.kind = 11) (hs' : (s' == 1, s' == 2) = (e.kind == 6, e.kind == 11))
  {M' : List PipeM} (hM : chanG M' = chanG x.M) (hw : WtS (turnF x.crew e.g 0 s' (byOf 0 s')).2 M') {z : LmM} (hz : z.tr = x.tr ++ [e]) (hzc : z.crew = (turnF x.crew e.g 0 s' (byOf 0 s')).2) (hzM : z.M = M') (hzp : z.pan = false) (hp : z.tr <+: l) : Gk l z := by
 obtain ⟨r, hr, hsim⟩ := h.r
 have hsim := hsim hpan
 rw [hz] at hp
 have hst := step_bare (next := nextF l x.tr.length) (ent_of hE hp) hsim.over (by omega) (hsim.run hs) (by omega) (by omega) (by omega) hch h.calm
 refine ⟨⟨_, by rw [hz]; exact hr.note hp hst, fun _ => ⟨?_, ?_, ?_⟩⟩, by rw [hz, prev_is hp]; exact calm_kinds (by omega) (by omega), fun _ => by rw [hzc, hzM]; exact hw⟩
 ·dsimp only
  obtain ⟨hg, o, ho, h0⟩ := hs
  rw [hzc, turn_G hg ho h0, hsim.crew, hs']
 ·dsimp only
  rw [hzM, hM, hsim.chans]
 ·dsimp only
  simp
  omega
/-- A panic. -/
theorem Gk.panic (h : Gk l x) (hE : ∀ e ∈ l, entF e = 0) (hpan : x.pan = false) {s : Int} (hs : Stt x.crew g s) (h01 : s = 0 ∨ s = 1) {z : LmM} (hz : z.tr = x.tr ++ [bareE 12 g]) (hzp : z.pan = true) (hp : z.tr <+: l) : Gk l z := by
 obtain ⟨r, hr, hsim⟩ := h.r
 have hsim := hsim hpan
 rw [hz] at hp
 have hc : ∃ b, r.crew[g.toNat]? = some (b, false) := by
  rcases h01 with rfl | rfl
  ·exact ⟨_, hsim.run hs⟩
  ·exact ⟨_, hsim.wait hs⟩
 obtain ⟨b, hc⟩ := hc
 have hst : stepG r (prevF l x.tr.length) (nextF l x.tr.length) (bareE 12 g) = (0, _) := stepG_ok (ent_of hE hp) (crewed_panic (e := bareE 12 g) hsim.over hc rfl) (made_none (show (12 : Int) ≠ 2 by decide) rfl) (served_calm h.calm (show (12 : Int) ≠ 7 by decide)) (ordered_none rfl) (closed_none rfl)
 exact ⟨⟨_, by rw [hz]; exact hr.note hp hst, fun h => by rw [hzp] at h; cases h⟩, by rw [hz, prev_is hp]; exact calm_kinds (show (12 : Int) ≠ 3 by decide) (show (12 : Int) ≠ 4 by decide), fun h => by rw [hzp] at h; cases h⟩
theorem Gk.spawn (h : Gk l x) (hE : ∀ e ∈ l, entF e = 0) (hpan : x.pan = false) (hs : Stt x.crew g 0) {p : Int} (hp0 : 0 ≤ p) (hl : x.crew.length < 512) (hp : (x.tr ++ [⟨1, g, -1, -1, p, (spawnF x.crew p).1.1, false, false⟩]) <+: l) {z : LmM} (hz : z.tr = x.tr ++ [⟨1, g, -1, -1, p, (spawnF x.crew p).1.1, false, false⟩]) (hzc : z.crew = (turnF (spawnF x.crew p).2 g 0 0 (byOf 0 0)).2) (hzM : z.M = x.M) (hzp : z.pan = false) : Gk l z := by
 obtain ⟨r, hr, hsim⟩ := h.r
 have hsim := hsim hpan
 have hsp : spawnF x.crew p = (((x.crew.length : Int), 0), x.crew ++ [⟨p, 0, 0⟩]) := by
  unfold spawnF
  rw [if_neg (by omega), if_neg (by omega)]
 rw [hsp] at hp hz hzc
 dsimp only at hp hz hzc
 have hlen : r.crew.length = x.crew.length := by rw [hsim.crew]; unfold crewG; exact List.length_map ..
 have hst : stepG r (prevF l x.tr.length) (nextF l x.tr.length) ⟨1, g, -1, -1, p, (x.crew.length : Int), false, false⟩ = (0, _) := stepG_ok (ent_of hE hp) (crewed_spawn hsim.over (hsim.run hs) rfl (by dsimp only; omega)) (made_none (show (1 : Int) ≠ 2 by decide) rfl) (served_calm h.calm (show (1 : Int) ≠ 7 by decide)) (ordered_none rfl) (closed_none rfl)
 have hs2 : Stt (x.crew ++ [⟨p, 0, 0⟩]) g 0 := by
  obtain ⟨hg, o, ho, h0⟩ := hs
  exact ⟨hg, o, by rw [List.getElem?_append_left (List.getElem?_eq_some_iff.1 ho).1]; exact ho, h0⟩
 have hw2 : WtS (x.crew ++ [⟨p, 0, 0⟩]) x.M := WP.mono (h.wt hpan) (fun a ⟨ha, o, ho, h1⟩ => ⟨ha, o, by rw [List.getElem?_append_left (List.getElem?_eq_some_iff.1 ho).1]; exact ho, h1⟩)
 refine ⟨⟨_, by rw [hz]; exact hr.note hp hst, fun _ => ⟨?_, ?_, rfl⟩⟩, by rw [hz, prev_is hp]; exact calm_kinds (show (1 : Int) ≠ 3 by decide) (show (1 : Int) ≠ 4 by decide), fun _ => by rw [hzc, hzM]; exact hw2.turn hs2⟩
 ·dsimp only
  rw [hzc, turn_same hs2, set_id (hsim.run hs), hsim.crew]
  unfold crewG
  rw [List.map_append]
  rfl
 ·dsimp only
  rw [hzM, hsim.chans]
theorem Gk.make (h : Gk l x) (hE : ∀ e ∈ l, entF e = 0) (hpan : x.pan = false) (hs : Stt x.crew g 0) {b : Int} (hb : 0 ≤ b) (hp : (x.tr ++ [⟨2, g, (x.M.length : Int), -1, b, -1, false, false⟩]) <+: l) {z : LmM} (hz : z.tr = x.tr ++ [⟨2, g, (x.M.length : Int), -1, b, -1, false, false⟩]) (hzc : z.crew = (turnF x.crew g 0 0 (byOf 0 0)).2) (hzM : z.M = x.M ++ [emptyM b.toNat]) (hzp : z.pan = false) : Gk l z := by
 obtain ⟨r, hr, hsim⟩ := h.r
 have hsim := hsim hpan
 have hlen : r.chans.length = x.M.length := by rw [hsim.chans]; unfold chanG; exact List.length_map ..
 have hc1 := crewed_run (e := ⟨2, g, (x.M.length : Int), -1, b, -1, false, false⟩) hsim.over (show (2 : Int) ≠ 13 by decide) (hsim.run hs) (show (2 : Int) ≠ 7 by decide) (show (2 : Int) ≠ 1 by decide)
 have hm : ∀ r1 : RdrM, r1.chans = r.chans → madeF r1 ⟨2, g, (x.M.length : Int), -1, b, -1, false, false⟩ = (true, { r1 with chans := r1.chans ++ [⟨b, [], false⟩] }) := by
  intro r1 h1
  unfold madeF
  rw [if_pos rfl, h1, if_neg (by dsimp only; omega)]
 have hch : ∀ r1 : RdrM, r1.chans = r.chans ++ [⟨b, [], false⟩] → chanF r1 (x.M.length : Int) = some ⟨b, [], false⟩ := by
  intro r1 h1
  unfold chanF
  rw [if_neg (by omega), h1, Int.toNat_natCast, List.getElem?_append_right (by omega), hlen, Nat.sub_self]
  rfl
 have hst : stepG r (prevF l x.tr.length) (nextF l x.tr.length) ⟨2, g, (x.M.length : Int), -1, b, -1, false, false⟩ = (0, _) := stepG_ok (ent_of hE hp) hc1 (hm _ rfl) (served_calm h.calm (show (2 : Int) ≠ 7 by decide)) (ordered_other (hch _ rfl) ⟨show (2 : Int) ≠ 3 by decide, .inl (show (2 : Int) ≠ 4 by decide)⟩) (closed_other (hch _ rfl) (show (2 : Int) ≠ 5 by decide) (show (2 : Int) ≠ 3 by decide) (show (2 : Int) ≠ 4 by decide))
 have hw : WtS x.crew (x.M ++ [emptyM b.toNat]) := fun y hy a ha => by
  rcases List.mem_append.1 hy with hy | hy
  ·exact h.wt hpan y hy a ha
  ·rw [List.mem_singleton.1 hy] at ha
   simp [emptyM] at ha
 refine ⟨⟨_, by rw [hz]; exact hr.note hp hst, fun _ => ⟨?_, ?_, rfl⟩⟩, by rw [hz, prev_is hp]; exact calm_kinds (show (2 : Int) ≠ 3 by decide) (show (2 : Int) ≠ 4 by decide), fun _ => by rw [hzc, hzM]; exact hw.turn hs⟩
 ·dsimp only
  rw [hzc, turn_same hs, hsim.crew]
  rw [← hsim.crew, set_id]
  exact hsim.run hs
 ·dsimp only
  rw [hzM, hsim.chans]
  unfold chanG
  rw [List.map_append]
  simp [coreP, emptyM, Int.toNat_of_nonneg hb]
theorem Gk.compact (h : Gk l x) (hE : ∀ e ∈ l, entF e = 0) (hpan : x.pan = false) {z : LmM} (hz : z.tr = x.tr ++ [bareE 13 (-1)]) (hzc : z.crew = x.crew) (hzM : z.M = x.M) (hzp : z.pan = false) (hp : z.tr <+: l) : Gk l z := by
 obtain ⟨r, hr, hsim⟩ := h.r
 have hsim := hsim hpan
 rw [hz] at hp
 have hst : stepG r (prevF l x.tr.length) (nextF l x.tr.length) (bareE 13 (-1)) = (0, _) := stepG_ok (ent_of hE hp) (crewed_compact hsim.over rfl) (made_none (show (13 : Int) ≠ 2 by decide) rfl) (served_calm h.calm (show (13 : Int) ≠ 7 by decide)) (ordered_none rfl) (closed_none rfl)
 exact ⟨⟨{ r with closer := bareE 13 (-1) }, by rw [hz]; exact hr.note hp hst, fun _ => ⟨by rw [hzc]; exact hsim.crew, by rw [hzM]; exact hsim.chans, hsim.over⟩⟩, by rw [hz, prev_is hp]; exact calm_kinds (show (13 : Int) ≠ 3 by decide) (show (13 : Int) ≠ 4 by decide), fun _ => by rw [hzc, hzM]; exact h.wt hpan⟩
end
section
variable {l : List Ev} {x : LmM} {r r1 : RdrM} {np k i : Nat} {g : Int} {e f : Ev} {y : PipeM} {prev : Option Ev} {next : Option Int} {c : ChnM}
theorem chanF_set {cs : List ChnM} {d : ChnM} (hi : i < cs.length) (hr : r.chans = cs.set i d) : chanF r (i : Int) = some d := by
 unfold chanF
 rw [if_neg (by omega), hr, Int.toNat_natCast, List.getElem?_set, if_pos rfl, if_pos hi]
theorem chanF_at {c : Int} (hr : r1.chans = r.chans) : chanF r1 c = chanF r c := by
 unfold chanF
 rw [hr]
/-- A send, or a receive of a value. -/
theorem step_move (hsim : SimG x r) (h0 : entF e = 0) (hk : e.kind = 3 ∨ (e.kind = 4 ∧ e.ok = true)) (hch : e.chan = (i : Int)) (hi : i < x.M.length) (hs : Stt x.crew e.g 0) (hp : CalmP prev) (hT : takeF (coreP (x.M.getD i (emptyM 0))) next e = (true, coreP y)) (hcl : (e.kind = 3 ∨ 0 ≤ e.mate) → y.closed = false) :
  stepG r prev next e = (0, { r with crew := r.crew.set e.g.toNat (e.kind == 6, e.kind == 11), over := e.kind == 12, closer := e, chans := r.chans.set i (coreP y) }) := by
 have hc := hsim.chan hch hi
 have hlen : i < r.chans.length := by rw [hsim.chans]; unfold chanG; rw [List.length_map]; exact hi
 refine stepG_ok h0 (crewed_run hsim.over (by omega) (hsim.run hs) (by omega) (by omega)) (made_some (by omega) ((chanF_at rfl).trans hc)) (served_calm hp (by omega)) (r4 := { r with crew := r.crew.set e.g.toNat (e.kind == 6, e.kind == 11), over := e.kind == 12, closer := e, chans := r.chans.set i (coreP y) }) ?_ ?_
 ·unfold orderedF
  rw [show chanF { r with crew := r.crew.set e.g.toNat (e.kind == 6, e.kind == 11), over := e.kind == 12, closer := e } e.chan = some (coreP (x.M.getD i (emptyM 0))) from (chanF_at rfl).trans hc]
  dsimp only
  rw [if_neg (by rcases hk with hk | hk <;> simp [hk]), hT, hch]
  rfl
 ·unfold closedF
  rw [hch, chanF_set hlen rfl]
  dsimp only
  rw [if_neg (by omega)]
  by_cases hm : e.kind = 3 ∨ e.kind = 4 ∧ 0 ≤ e.mate
  ·have := hcl (hm.imp id And.right)
   rw [if_pos hm, show (coreP y).closed = y.closed from rfl, this]
   rfl
  ·rw [if_neg hm, if_neg (by rcases hk with hk | hk <;> simp [hk])]
/-- A receive from a closed channel that is empty. -/
theorem step_ended (hsim : SimG x r) (h0 : entF e = 0) (hk : e.kind = 4 ∧ e.ok = false ∧ e.mate = -1) (hch : e.chan = (i : Int)) (hi : i < x.M.length) (hs : Stt x.crew e.g 0) (hp : CalmP prev) (hc1 : (x.M.getD i (emptyM 0)).closed = true) (hc2 : (x.M.getD i (emptyM 0)).buf = []) :
  stepG r prev next e = (0, { r with crew := r.crew.set e.g.toNat (e.kind == 6, e.kind == 11), over := e.kind == 12, closer := e }) := by
 have hc := hsim.chan hch hi
 refine stepG_ok h0 (crewed_run hsim.over (by omega) (hsim.run hs) (by omega) (by omega)) (made_some (by omega) ((chanF_at rfl).trans hc)) (served_calm hp (by omega)) (ordered_other ((chanF_at rfl).trans hc) ⟨by omega, .inr hk.2.1⟩) ?_
 unfold closedF
 rw [show chanF { r with crew := r.crew.set e.g.toNat (e.kind == 6, e.kind == 11), over := e.kind == 12, closer := e } e.chan = some (coreP (x.M.getD i (emptyM 0))) from (chanF_at rfl).trans hc]
 dsimp only
 rw [if_neg (by omega), if_neg (by omega), if_pos ⟨hk.1, hk.2.1⟩]
 rw [show (coreP (x.M.getD i (emptyM 0))).closed = true from hc1, show (coreP (x.M.getD i (emptyM 0))).buf = [] from hc2]
 rfl
theorem step_wake (h0 : entF e = 0) (ho : r.over = false) (hw : r.crew[e.g.toNat]? = some (true, false)) (h7 : e.kind = 7) (hc : chanF r e.chan = some c) (hsv : ∀ r1 : RdrM, r1.closer = r.closer → servedF r1 prev e = (true, r1)) :
  stepG r prev next e = (0, { r with crew := r.crew.set e.g.toNat (false, false), over := false }) :=
 stepG_ok h0 (crewed_wake ho hw h7) (made_some (by omega) ((chanF_at rfl).trans hc)) (hsv _ rfl) (ordered_other ((chanF_at rfl).trans hc) ⟨by omega, .inl (by omega)⟩) (closed_other ((chanF_at rfl).trans hc) (by omega) (by omega) (by omega))
theorem crew_keep (hsim : SimG x r) (hs : Stt x.crew e.g 0) (hk : e.kind = 3 ∨ e.kind = 4 ∨ e.kind = 5) : r.crew.set e.g.toNat (e.kind == 6, e.kind == 11) = r.crew := by
 have h1 : (e.kind == 6, e.kind == 11) = (false, false) := by rcases hk with hk | hk | hk <;> rw [hk] <;> rfl
 rw [h1]
 exact set_id (hsim.run hs)
/-- One event that moves a value, and serves nobody. -/
theorem Gk.single (h : Gk l x) (hE : ∀ e ∈ l, entF e = 0) (hpan : x.pan = false) (hs : Stt x.crew e.g 0) (hk : e.kind = 3 ∨ (e.kind = 4 ∧ e.ok = true)) (hch : e.chan = (i : Int)) (hi : i < x.M.length) (hm : e.mate = -1) (hT : ∀ next, takeF (coreP (x.M.getD i (emptyM 0))) next e = (true, coreP y)) (hcl : e.kind = 3 → y.closed = false)
  (hyw : ∀ a, a ∈ y.senders ∨ a ∈ y.receivers → a ∈ (x.M.getD i (emptyM 0)).senders ∨ a ∈ (x.M.getD i (emptyM 0)).receivers) {z : LmM} (hz : z.tr = x.tr ++ [e]) (hzc : z.crew = (turnF x.crew e.g 0 0 (byOf 0 0)).2) (hzM : z.M = x.M.set i y) (hzp : z.pan = false) (hp : z.tr <+: l) : Gk l z := by
 obtain ⟨r, hr, hsim⟩ := h.r
 have hsim := hsim hpan
 rw [hz] at hp
 have hst := step_move (next := nextF l x.tr.length) hsim (ent_of hE hp) hk hch hi hs h.calm (hT _) (fun h => h.elim hcl (fun h => by omega))
 refine ⟨⟨_, by rw [hz]; exact hr.note hp hst, fun _ => ⟨?_, ?_, ?_⟩⟩, by rw [hz, prev_is hp]; exact calm_mate hm, fun _ => by rw [hzc, hzM]; exact WtS.turn (WP.set (h.wt hpan) i (fun a ha => WP.at_ (h.wt hpan) i a (hyw a ha))) hs⟩
 ·dsimp only
  rw [hzc, turn_same hs, crew_keep hsim hs (by omega), hsim.crew]
 ·dsimp only
  rw [hzM, chanG_set, hsim.chans]
 ·dsimp only
  rcases hk with hk | hk <;> simp [hk]
/-- An event that serves one who waits, and the wake behind it. -/
theorem Gk.pair (h : Gk l x) (hE : ∀ e ∈ l, entF e = 0) (hpan : x.pan = false) (hs : Stt x.crew e.g 0) (hk : e.kind = 3 ∨ (e.kind = 4 ∧ e.ok = true)) (hse : e.send = (e.kind == 3)) (hch : e.chan = (i : Int)) (hi : i < x.M.length) (hm : Stt x.crew e.mate 1) (hf : f = ⟨7, e.mate, (i : Int), f.case_, f.value, e.g, !e.send, true⟩) (hfv : e.send = true → f.value = e.value)
  (hT : takeF (coreP (x.M.getD i (emptyM 0))) (some f.value) e = (true, coreP y)) (hcl : y.closed = false)
  (hyw : ∀ a, a ∈ y.senders ∨ a ∈ y.receivers → a ∈ (x.M.getD i (emptyM 0)).senders ∨ a ∈ (x.M.getD i (emptyM 0)).receivers) {z : LmM} (hz : z.tr = x.tr ++ [e] ++ [f]) (hzc : z.crew = (turnF (turnF x.crew e.g 0 0 (byOf 0 0)).2 e.mate 1 0 (byOf 1 0)).2) (hzM : z.M = (x.M.set i y).map (fun y => dropM y e.mate)) (hzp : z.pan = false) (hp : z.tr <+: l) : Gk l z := by
 obtain ⟨r, hr, hsim⟩ := h.r
 have hsim := hsim hpan
 rw [hz] at hp
 have hp1 : (x.tr ++ [e]) <+: l := pre_cut hp
 have hnx : nextF l x.tr.length = some f.value := pre_next hp
 have hst := step_move (next := nextF l x.tr.length) hsim (ent_of hE hp1) hk hch hi hs h.calm (by rw [hnx]; exact hT) (fun _ => hcl)
 have hr1 := hr.note hp1 hst
 rw [crew_keep hsim hs (by omega)] at hr1
 have hm0 : 0 ≤ e.mate := hm.1
 have hsv : servesF e = true := by
  unfold servesF
  rcases hk with hk | hk <;> simp [hk, hm0]
 have hlen : i < r.chans.length := by rw [hsim.chans]; unfold chanG; rw [List.length_map]; exact hi
 have f7 : f.kind = 7 := by rw [hf]
 have fg : f.g = e.mate := by rw [hf]
 have fc : f.chan = (i : Int) := by rw [hf]
 have hover : (e.kind == 12) = false := by rcases hk with hk | hk <;> simp [hk]
 rw [hover] at hr1
 have hst2 := step_wake (prev := prevF l (x.tr ++ [e]).length) (next := nextF l (x.tr ++ [e]).length) (e := f) (r := { r with crew := r.crew, over := false, closer := e, chans := r.chans.set i (coreP y) }) (c := coreP y) (ent_of hE hp) rfl (by rw [fg]; exact hsim.wait hm) f7 (by rw [fc]; exact chanF_set hlen rfl) (fun r1 _ => by
  rw [prev_is hp1]
  unfold servedF
  have : (some e).filter servesF = some e := by simp [hsv]
  rw [this]
  dsimp only
  have hw : f = wantF e f := by
   unfold wantF
   conv => lhs; rw [hf]
   rw [hch]
   cases hsd : e.send with
   | true => rw [if_pos rfl, hfv hsd]
   | false => rw [if_neg (by decide)]
  rw [decide_eq_true hw])
 have hmt : Stt (turnF x.crew e.g 0 0 (byOf 0 0)).2 e.mate 1 := hm.turn hs.1 (hm.ne hs (by decide))
 refine ⟨⟨_, by rw [hz]; exact hr1.note hp hst2, fun _ => ⟨?_, ?_, rfl⟩⟩, by rw [hz, prev_is hp]; exact calm_kinds (by omega) (by omega), fun _ => ?_⟩
 ·dsimp only
  obtain ⟨hg, o, ho, h1⟩ := hmt
  rw [hzc, turn_G hg ho h1, turn_same hs, hsim.crew, fg]
  rfl
 ·dsimp only
  rw [hzM, chanG_drop, chanG_set, hsim.chans]
 ·rw [hzc, hzM]
  have hw1 : WtS (turnF x.crew e.g 0 0 (byOf 0 0)).2 (x.M.set i y) := WtS.turn (WP.set (h.wt hpan) i (fun a ha => WP.at_ (h.wt hpan) i a (hyw a ha))) hs
  exact WP.mono (WP.drop hw1 e.mate) (fun a ⟨h1, h2⟩ => h1.turn hmt.1 h2)
/-- A receive from a closed channel. -/
theorem Gk.ended (h : Gk l x) (hE : ∀ e ∈ l, entF e = 0) (hpan : x.pan = false) (hs : Stt x.crew e.g 0) (hk : e.kind = 4 ∧ e.ok = false ∧ e.mate = -1) (hch : e.chan = (i : Int)) (hi : i < x.M.length) (hc1 : (x.M.getD i (emptyM 0)).closed = true) (hc2 : (x.M.getD i (emptyM 0)).buf = [])
  {z : LmM} (hz : z.tr = x.tr ++ [e]) (hzc : z.crew = (turnF x.crew e.g 0 0 (byOf 0 0)).2) (hzM : z.M = x.M) (hzp : z.pan = false) (hp : z.tr <+: l) : Gk l z := by
 obtain ⟨r, hr, hsim⟩ := h.r
 have hsim := hsim hpan
 rw [hz] at hp
 have hst := step_ended (next := nextF l x.tr.length) hsim (ent_of hE hp) hk hch hi hs h.calm hc1 hc2
 refine ⟨⟨_, by rw [hz]; exact hr.note hp hst, fun _ => ⟨?_, ?_, ?_⟩⟩, by rw [hz, prev_is hp]; exact calm_mate hk.2.2, fun _ => by rw [hzc, hzM]; exact WtS.turn (h.wt hpan) hs⟩
 ·dsimp only
  rw [hzc, turn_same hs, crew_keep hsim hs (by omega), hsim.crew]
 ·dsimp only
  rw [hzM, hsim.chans]
 ·dsimp only
  simp [hk]
/-- A park at one channel. -/
theorem Gk.park (h : Gk l x) (hE : ∀ e ∈ l, entF e = 0) (hpan : x.pan = false) (hs : Stt x.crew e.g 0) (hk : e.kind = 6) (hch : e.chan = (i : Int)) (hi : i < x.M.length) {M' : List PipeM} (hM : chanG M' = chanG x.M) (hw : WtS (turnF x.crew e.g 0 1 (byOf 0 1)).2 M')
  {z : LmM} (hz : z.tr = x.tr ++ [e]) (hzc : z.crew = (turnF x.crew e.g 0 1 (byOf 0 1)).2) (hzM : z.M = M') (hzp : z.pan = false) (hp : z.tr <+: l) : Gk l z := by
 obtain ⟨r, hr, hsim⟩ := h.r
 have hsim := hsim hpan
 rw [hz] at hp
 have hc := hsim.chan hch hi
 have hst : stepG r (prevF l x.tr.length) (nextF l x.tr.length) e = (0, _) := stepG_ok (ent_of hE hp) (crewed_run hsim.over (by omega) (hsim.run hs) (by omega) (by omega)) (made_some (by omega) ((chanF_at rfl).trans hc)) (served_calm h.calm (by omega)) (ordered_other ((chanF_at rfl).trans hc) ⟨by omega, .inl (by omega)⟩) (closed_other ((chanF_at rfl).trans hc) (by omega) (by omega) (by omega))
 refine ⟨⟨_, by rw [hz]; exact hr.note hp hst, fun _ => ⟨?_, ?_, ?_⟩⟩, by rw [hz, prev_is hp]; exact calm_kinds (by omega) (by omega), fun _ => by rw [hzc, hzM]; exact hw⟩
 ·dsimp only
  obtain ⟨hg, o, ho, h0⟩ := hs
  rw [hzc, turn_G hg ho h0, hsim.crew, hk]
  rfl
 ·dsimp only
  rw [hzM, hM, hsim.chans]
 ·dsimp only
  rw [hk]
  rfl
end
end Go.Proofs.YtchkaaeoffmjnaaGreatDoor
namespace Go.Proofs.YtchkaaeoffmjnaaGreatDoor
set_option linter.unusedVariables false
set_option linter.unusedSimpArgs false
open Go.RowKit
section
variable {l : List Ev} {x : LmM} {np k : Nat} {g : Int}
theorem readyC_is (hk : Lk np k x) {c : CaseM} (hc : 0 ≤ c.chan ∧ c.chan < 8) (hr : readyC (okN x) (pipesN x) c = true) : ∃ j i : Nat, c.chan = (j : Int) ∧ j < 8 ∧ numL x c.chan = (i : Int) ∧ i < x.M.length ∧ readyF (x.M.getD i (emptyM 0)) c.send = true := by
 obtain ⟨s, ch, v⟩ := c
 dsimp only at hc ⊢
 obtain ⟨j, rfl⟩ := Int.eq_ofNat_of_zero_le hc.1
 have hj : j < 8 := by omega
 rw [readyC_num hk hj] at hr
 by_cases h0 : 0 ≤ numL x (j : Int)
 ·rw [if_pos h0] at hr
  obtain ⟨i, hi⟩ := Int.eq_ofNat_of_zero_le h0
  rw [hi, Int.toNat_natCast] at hr
  have := num_lt hk hj
  exact ⟨j, i, rfl, hj, hi, by omega, hr⟩
 ·rw [if_neg h0] at hr
  cases hr
theorem Gk.talk (h : Gk l x) (hE : ∀ e ∈ l, entF e = 0) (hk : Lk np k x) (hpan : x.pan = false) (hs : Stt x.crew g 0) {c : CaseM} (hc : 0 ≤ c.chan ∧ c.chan < 8) (hr0 : readyC (okN x) (pipesN x) c = true) {a : Int} (hp : (talkL x g c a).tr <+: l) : Gk l (talkL x g c a) := by
 obtain ⟨j, i, hcj, hj, hi, hil, hr⟩ := readyC_is hk hc hr0
 obtain ⟨s, ch, v⟩ := c
 dsimp only at hcj hr hi
 subst hcj
 have hpos : posF (okN x) (j : Int) = some j := by rw [posF_num hk hj, if_pos (by rw [hi]; exact Int.natCast_nonneg _)]
 have hgd : (pipesN x).getD j (emptyM 0) = x.M.getD i (emptyM 0) := by rw [pipesN_at hk hj, if_pos (by rw [hi]; exact Int.natCast_nonneg _), hi, Int.toNat_natCast]
 have hI : Inv9 k (x.M.getD i (emptyM 0)) := hk.inv.get hil
 have hwt := WP.at_ (h.wt hpan) i
 obtain ⟨p, hpp⟩ : ∃ p, x.M.getD i (emptyM 0) = p := ⟨_, rfl⟩
 rw [hpp] at hgd hr hI hwt
 cases s with
 | true =>
  have hT : tryF (okN x) (pipesN x) ⟨true, (j : Int), v⟩ = ((sendF p v).1, (pipesN x).set j (sendF p v).2) := by
   unfold tryF
   dsimp only
   rw [hpos]
   dsimp only
   rw [if_pos rfl, hgd]
  revert hp
  unfold talkL
  rw [hT]
  dsimp only
  rw [back_set hk hj hi]
  unfold readyF at hr
  unfold sendF
  by_cases hcl : p.closed = true
  ·rw [if_pos hcl]
   dsimp only
   rw [if_pos (by decide)]
   intro hp
   exact h.panic hE hpan hs (.inl rfl) rfl rfl hp
  ·rw [if_neg hcl]
   have hclf : p.closed = false := by simpa using hcl
   cases hrc : p.receivers with
   | cons m L =>
    dsimp only
    rw [if_neg (by decide), if_pos rfl]
    intro hp
    have hb : p.buf = [] := hI.re (by rw [hrc]; exact List.cons_ne_nil _ _)
    have hm := hwt m (.inr (by rw [hrc]; exact List.mem_cons_self))
    refine h.pair hE hpan (e := ⟨3, g, numL x (j : Int), a, v, m.g, true, false⟩) (f := ⟨7, m.g, numL x (j : Int), m.case_, v, g, false, true⟩) (i := i) (y := { p with receivers := L, sent := p.sent + 1, received := p.received + 1 }) hs (.inl rfl) rfl hi hil hm (by rw [hi]; rfl) (fun _ => rfl) ?_ hclf ?_ rfl rfl rfl hpan hp
    ·rw [hpp]
     simp [takeF, coreP, hb, hm.1]
    ·rw [hpp]
     intro a ha
     rw [hrc]
     exact ha.imp id (fun ha => List.mem_cons_of_mem _ ha)
   | nil =>
    dsimp only
    by_cases hlt : p.buf.length < p.size
    ·rw [if_pos hlt]
     dsimp only
     rw [if_neg (by decide), if_neg (by decide)]
     intro hp
     refine h.single hE hpan (e := ⟨3, g, numL x (j : Int), a, v, -1, true, false⟩) (i := i) (y := { p with buf := p.buf ++ [v], receivers := [], sent := p.sent + 1 }) hs (.inl rfl) hi hil rfl (fun next => ?_) (fun _ => hclf) ?_ rfl rfl rfl hpan hp
     ·rw [hpp]
      simp [takeF, coreP]
      omega
     ·rw [hpp]
      exact fun a ha => ha.imp id (fun h => by cases h)
    ·exfalso
     simp [hcl, hrc, hlt] at hr
 | false =>
  have hT : tryF (okN x) (pipesN x) ⟨false, (j : Int), v⟩ = (((recvF p).1, 0), (pipesN x).set j (recvF p).2) := by
   unfold tryF
   dsimp only
   rw [hpos]
   dsimp only
   rw [if_neg (by decide), hgd]
  revert hp
  unfold talkL
  rw [hT]
  dsimp only
  rw [back_set hk hj hi]
  unfold readyF at hr
  unfold recvF
  have hbl := hI.buf
  cases hb : p.buf with
  | cons b L =>
   rw [hb] at hbl
   simp only [List.length_cons] at hbl
   cases hse : p.senders with
   | cons m L2 =>
    dsimp only
    rw [if_neg (by decide), if_pos rfl]
    intro hp
    have hm := hwt m (.inl (by rw [hse]; exact List.mem_cons_self))
    have hclf : p.closed = false := by
     cases hc : p.closed with
     | false => rfl
     | true => have := (hI.cl hc).1; rw [hse] at this; cases this
    refine h.pair hE hpan (e := ⟨4, g, numL x (j : Int), a, b, m.g, false, true⟩) (f := ⟨7, m.g, numL x (j : Int), m.case_, m.value, g, true, true⟩) (i := i) (y := { p with buf := L ++ [m.value], senders := L2, sent := p.sent + 1, received := p.received + 1 }) hs (.inr ⟨rfl, rfl⟩) rfl hi hil hm (by rw [hi]; rfl) (fun h => by cases h) ?_ hclf ?_ rfl rfl rfl hpan hp
    ·rw [hpp]
     simp [takeF, coreP, hb, hm.1]
     omega
    ·rw [hpp]
     intro a ha
     rw [hse]
     exact ha.imp (fun ha => List.mem_cons_of_mem _ ha) id
   | nil =>
    dsimp only
    rw [if_neg (by decide), if_neg (by decide)]
    intro hp
    refine h.single hE hpan (e := ⟨4, g, numL x (j : Int), a, b, -1, false, true⟩) (i := i) (y := { p with buf := L, senders := [], received := p.received + 1 }) hs (.inr ⟨rfl, rfl⟩) hi hil rfl (fun next => ?_) (fun h => by cases h) ?_ rfl rfl rfl hpan hp
    ·rw [hpp]
     simp [takeF, coreP, hb]
     omega
    ·rw [hpp]
     exact fun a ha => ha.imp (fun h => by cases h) id
  | nil =>
   cases hse : p.senders with
   | cons m L2 =>
    dsimp only
    rw [if_neg (by decide), if_pos rfl]
    intro hp
    have hm := hwt m (.inl (by rw [hse]; exact List.mem_cons_self))
    have hclf : p.closed = false := by
     cases hc : p.closed with
     | false => rfl
     | true => have := (hI.cl hc).1; rw [hse] at this; cases this
    refine h.pair hE hpan (e := ⟨4, g, numL x (j : Int), a, m.value, m.g, false, true⟩) (f := ⟨7, m.g, numL x (j : Int), m.case_, m.value, g, true, true⟩) (i := i) (y := { p with buf := [], senders := L2, sent := p.sent + 1, received := p.received + 1 }) hs (.inr ⟨rfl, rfl⟩) rfl hi hil hm (by rw [hi]; rfl) (fun h => by cases h) ?_ hclf ?_ rfl rfl rfl hpan hp
    ·rw [hpp]
     simp [takeF, coreP, hb, hm.1]
    ·rw [hpp]
     intro a ha
     rw [hse]
     exact ha.imp (fun ha => List.mem_cons_of_mem _ ha) id
   | nil =>
    dsimp only
    cases hcl : p.closed with
    | true =>
     rw [if_pos rfl]
     dsimp only
     rw [if_neg (by decide), if_neg (by decide)]
     intro hp
     refine h.ended hE hpan (e := ⟨4, g, numL x (j : Int), a, 0, -1, false, false⟩) (i := i) hs ⟨rfl, rfl, rfl⟩ hi hil (by rw [hpp]; exact hcl) (by rw [hpp]; exact hb) rfl rfl ?_ hpan hp
     refine set_id ?_
     rw [List.getD_eq_getElem?_getD, List.getElem?_eq_getElem hil] at hpp
     rw [List.getElem?_eq_getElem hil]
     exact congrArg some hpp
    | false =>
     exfalso
     simp [hcl, hse, hb] at hr
theorem Gk.alone (h : Gk l x) (hE : ∀ e ∈ l, entF e = 0) (hk : Lk np k x) (hpan : x.pan = false) (hs : Stt x.crew g 0) {c : CaseM} (hc : 0 ≤ c.chan ∧ c.chan < 8) (hn : -1 ≤ numL x c.chan) (hp : (aloneL x g c).tr <+: l) : Gk l (aloneL x g c) := by
 revert hp
 unfold aloneL
 by_cases hr : readyC (okN x) (pipesN x) c = true
 ·rw [if_pos hr]
  exact fun hp => h.talk hE hk hpan hs hc hr hp
 ·rw [if_neg hr]
  dsimp only
  by_cases h0 : 0 ≤ numL x c.chan
  ·rw [if_pos h0]
   obtain ⟨i, hi⟩ := Int.eq_ofNat_of_zero_le h0
   have hil : i < x.M.length := by
    obtain ⟨j, hj⟩ := Int.eq_ofNat_of_zero_le hc.1
    have := num_lt hk (j := j) (by omega)
    rw [← hj, hi] at this
    omega
   rw [hi, Int.toNat_natCast]
   intro hp
   refine h.park hE hpan (e := ⟨6, g, (i : Int), -1, c.value, -1, c.send, false⟩) (i := i) hs rfl rfl hil (M' := x.M.set i (waitF (x.M.getD i (emptyM 0)) c.send ⟨g, -1, c.value⟩).2) (set_core (wait_core _ _ _)) ?_ rfl rfl rfl hpan hp
   have hw := WtS.turn (fr := 0) (to := 1) (b := byOf 0 1) (h.wt hpan) hs
   exact WP.set hw i (fun a ha => (wait_wt _ _ _ _ ha).elim (WP.at_ hw i a) (fun e => by rw [e]; exact Stt.self hs))
  ·rw [if_neg h0]
   intro hp
   have hm : numL x c.chan = -1 := by omega
   exact h.bare hE hpan (e := ⟨6, g, numL x c.chan, -1, c.value, -1, c.send, false⟩) (s' := 1) (M' := x.M) hs hm (.inl rfl) rfl rfl (WtS.turn (h.wt hpan) hs) rfl rfl rfl hpan hp
theorem Gk.at_d (h : Gk l x) (d : Nat) : Gk l { x with d := d } := ⟨by
 obtain ⟨r, h1, h2⟩ := h.r
 exact ⟨r, h1, fun hp => ⟨(h2 hp).crew, (h2 hp).chans, (h2 hp).over⟩⟩, h.calm, h.wt⟩
theorem Gk.at_p (h : Gk l x) (p : Nat) : Gk l { x with p := p } := ⟨by
 obtain ⟨r, h1, h2⟩ := h.r
 exact ⟨r, h1, fun hp => ⟨(h2 hp).crew, (h2 hp).chans, (h2 hp).over⟩⟩, h.calm, h.wt⟩
theorem Gk.choose (h : Gk l x) (hE : ∀ e ∈ l, entF e = 0) (hk : Lk np k x) (hpan : x.pan = false) (hs : Stt x.crew g 0) {o : OpM} (ho : OpOk np o) (s : ScrM) (hp : (chooseL s x g o).tr <+: l) : Gk l (chooseL s x g o) := by
 revert hp
 unfold chooseL
 dsimp only
 by_cases hl : 0 < (readyL (okN x) (pipesN x) o.cases).length
 ·rw [if_pos hl]
  have hm := draw_lt s x hl
  rw [show (readyL (okN x) (pipesN x) o.cases).getD (drawL s x (readyL (okN x) (pipesN x) o.cases).length).1 0 = (readyL (okN x) (pipesN x) o.cases)[(drawL s x (readyL (okN x) (pipesN x) o.cases).length).1] from by rw [List.getD_eq_getElem?_getD, List.getElem?_eq_getElem hm]; rfl]
  obtain ⟨i, hi, hil, hr⟩ := ready_mem (List.getElem_mem hm)
  rw [hi, Int.toNat_natCast]
  have hin : o.cases.getD i ⟨false, 0, 0⟩ ∈ o.cases := by
   rw [List.getD_eq_getElem?_getD, List.getElem?_eq_getElem hil]
   exact List.getElem_mem hil
  rw [drawL_I]
  exact fun hp => Gk.talk (x := { x with d := (drawI s.draws x.d (readyL (okN x) (pipesN x) o.cases).length).2 }) (h.at_d _) hE (hk.dd _) hpan hs (ho.ch _ hin) hr hp
 ·rw [if_neg hl]
  by_cases hd : o.dflt = true
  ·rw [if_pos hd]
   exact fun hp => h.bare hE hpan (e := bareE 8 g) (s' := 0) (M' := x.M) hs rfl (.inr (.inl rfl)) rfl rfl (WtS.turn (h.wt hpan) hs) rfl rfl rfl hpan hp
  ·rw [if_neg hd]
   intro hp
   refine h.bare hE hpan (e := ⟨6, g, -1, (o.cases.length : Int), 0, -1, false, false⟩) (s' := 1) (M' := backN x.name (parkF (okN x) g o.cases (pipesN x)).2 x.M) hs rfl (.inl rfl) rfl (back_core hk (parkF_core _ _ _ _)) ?_ rfl rfl rfl hpan hp
   have hw := WtS.turn (fr := 0) (to := 1) (b := byOf 0 1) (h.wt hpan) hs
   exact WP.back _ _ _ (WP.parkF (WP.named hw) _ (fun _ _ => Stt.self hs) _) hw
theorem closed_shut {r : RdrM} {e : Ev} {c : ChnM} {i : Nat} (hi : e.chan = (i : Int)) (hc : chanF r e.chan = some c) (h5 : e.kind = 5) (hcl : c.closed = false) : closedF r e = (true, { r with chans := r.chans.set i { c with closed := true } }) := by
 unfold closedF
 rw [hc]
 dsimp only
 rw [if_pos h5, hcl, hi, Int.toNat_natCast]
 rfl
structure Gc (l : List Ev) (x : LmM) (i : Nat) (e : Ev) : Prop where
 r : ∃ r, Pg l x.tr.length r ∧ SimG x r ∧ r.closer = e
 calm : CalmP (prevF l x.tr.length)
 wt : WtS x.crew x.M
 pan : x.pan = false
 len : i < x.M.length
theorem Gc.out {i : Nat} {e : Ev} (h : Gc l x i e) : Gk l x := ⟨by
 obtain ⟨r, h1, h2, _⟩ := h.r
 exact ⟨r, h1, fun _ => h2⟩, h.calm, fun _ => h.wt⟩
theorem stt_of {L : List One} {g : Int} (h : (stateF L g).1 = 1) : Stt L g 1 := by
 unfold stateF at h
 split at h
 ·rename_i hg
  split at h
  ·cases h
  ·rename_i o ho
   exact ⟨hg, o, ho, h⟩
 ·cases h
theorem Gc.wakes {i : Nat} {e : Ev} (hE : ∀ e ∈ l, entF e = 0) (he : e.kind = 5 ∧ e.g = g ∧ e.chan = (i : Int)) : ∀ (ws : List Wtr) {x : LmM}, Gc l x i e → (wakesL x g (i : Int) ws).tr <+: l → Gc l (wakesL x g (i : Int) ws) i e
 | [], _, h, _ => h
 | w :: ws, x, h, hp => by
  revert hp
  unfold wakesL
  by_cases hst : (stateF x.crew w.g).1 = 1
  ·rw [if_pos hst]
   intro hp
   refine Gc.wakes hE he ws ?_ hp
   have hp1 : (wakeL x ⟨7, w.g, (i : Int), w.case_, 0, g, false, false⟩).tr <+: l := (pre_wakes _ _ _ _).trans hp
   have hs := stt_of hst
   obtain ⟨r, hr, hsim, hcl⟩ := h.r
   have hp2 : (x.tr ++ [⟨7, w.g, (i : Int), w.case_, 0, g, false, false⟩]) <+: l := hp1
   have hst2 := step_wake (prev := prevF l x.tr.length) (next := nextF l x.tr.length) (e := ⟨7, w.g, (i : Int), w.case_, 0, g, false, false⟩) (ent_of hE hp2) hsim.over (hsim.wait hs) rfl (hsim.chan rfl h.len) (fun r1 h1 => by
    unfold servedF
    rw [show (prevF l x.tr.length).filter servesF = none from h.calm]
    dsimp only
    rw [if_pos rfl, h1, hcl]
    simp [he])
   refine ⟨⟨_, hr.note hp2 hst2, SimG.mk ?_ ?_ rfl, hcl⟩, ?_, ?_, h.pan, ?_⟩
   ·dsimp only
    obtain ⟨hg, o, ho, h1⟩ := hs
    show _ = crewG (turnF x.crew w.g 1 0 (byOf 1 0)).2
    rw [turn_G hg ho h1, hsim.crew]
    rfl
   ·show r.chans = chanG (x.M.map (fun y => dropM y w.g))
    rw [chanG_drop, hsim.chans]
   ·show CalmP (prevF l (x.tr ++ [(⟨7, w.g, (i : Int), w.case_, 0, g, false, false⟩ : Ev)]).length)
    rw [prev_is hp2]
    exact calm_kinds (show (7 : Int) ≠ 3 by decide) (show (7 : Int) ≠ 4 by decide)
   ·show WtS (turnF x.crew w.g 1 0 (byOf 1 0)).2 (x.M.map (fun y => dropM y w.g))
    exact WP.mono (P := fun a => Stt x.crew a.g 1 ∧ a.g ≠ w.g) (WP.drop h.wt w.g) (fun a h12 => h12.1.turn hs.1 h12.2)
   ·show i < (x.M.map (fun y => dropM y w.g)).length
    rw [List.length_map]
    exact h.len
  ·rw [if_neg hst]
   exact fun hp => Gc.wakes hE he ws h hp
theorem Gc.senders {i : Nat} {e : Ev} (hE : ∀ e ∈ l, entF e = 0) (h : Gc l x i e) : ∀ (ws : List Wtr), (sendersL x ws).tr <+: l → Gk l (sendersL x ws)
 | [], _ => h.out
 | w :: ws, hp => by
  revert hp
  unfold sendersL
  by_cases hst : (stateF x.crew w.g).1 = 1
  ·rw [if_pos hst]
   exact fun hp => h.out.panic hE h.pan (stt_of hst) (.inr rfl) rfl rfl hp
  ·rw [if_neg hst]
   exact fun hp => Gc.senders hE h ws hp
theorem Gk.shut (h : Gk l x) (hE : ∀ e ∈ l, entF e = 0) (hk : Lk np k x) (hpan : x.pan = false) (hs : Stt x.crew g 0) {c : Int} (hc : 0 ≤ c ∧ c < 8) (hp : (shutL x g c).tr <+: l) : Gk l (shutL x g c) := by
 revert hp
 unfold shutL
 dsimp only
 by_cases h0 : numL x c < 0
 ·rw [if_pos h0]
  exact fun hp => h.panic hE hpan hs (.inl rfl) rfl rfl hp
 ·rw [if_neg h0]
  obtain ⟨i, hi⟩ := Int.eq_ofNat_of_zero_le (Int.not_lt.1 h0)
  rw [hi, Int.toNat_natCast]
  by_cases hcl : (x.M.getD i (emptyM 0)).closed = true
  ·rw [if_pos hcl]
   exact fun hp => h.panic hE hpan hs (.inl rfl) rfl rfl hp
  ·rw [if_neg hcl]
   intro hp
   have hil : i < x.M.length := by
    obtain ⟨j, hj⟩ := Int.eq_ofNat_of_zero_le hc.1
    have := num_lt hk (j := j) (by omega)
    rw [← hj, hi] at this
    omega
   obtain ⟨p, hpp⟩ : ∃ p, x.M.getD i (emptyM 0) = p := ⟨_, rfl⟩
   rw [hpp] at hp hcl ⊢
   have hclf : p.closed = false := by simpa using hcl
   have hcF : closeF p = ((p.receivers, p.senders, 0), { p with closed := true, senders := [], receivers := [] }) := by unfold closeF; rw [if_neg hcl]
   rw [hcF] at hp ⊢
   dsimp only at hp ⊢
   obtain ⟨r, hr, hsim⟩ := h.r
   have hsim := hsim hpan
   have hp2 : (x.tr ++ [⟨5, g, (i : Int), -1, -1, -1, false, false⟩]) <+: l := ((pre_wakes _ _ _ _).trans (pre_senders _ _)).trans hp
   have hc1 := hsim.chan (c := (i : Int)) rfl hil
   have hlen : i < r.chans.length := by rw [hsim.chans]; unfold chanG; rw [List.length_map]; exact hil
   have hst : stepG r (prevF l x.tr.length) (nextF l x.tr.length) ⟨5, g, (i : Int), -1, -1, -1, false, false⟩ = (0, { r with crew := r.crew.set g.toNat (false, false), over := false, closer := ⟨5, g, (i : Int), -1, -1, -1, false, false⟩, chans := r.chans.set i { coreP p with closed := true } }) := by
    refine stepG_ok (ent_of hE hp2) (crewed_run (e := ⟨5, g, (i : Int), -1, -1, -1, false, false⟩) hsim.over (show (5 : Int) ≠ 13 by decide) (hsim.run hs) (show (5 : Int) ≠ 7 by decide) (show (5 : Int) ≠ 1 by decide)) (made_some (show (5 : Int) ≠ 2 by decide) ((chanF_at rfl).trans hc1)) (served_calm h.calm (show (5 : Int) ≠ 7 by decide)) (ordered_other ((chanF_at rfl).trans hc1) ⟨show (5 : Int) ≠ 3 by decide, .inl (show (5 : Int) ≠ 4 by decide)⟩) ?_
    exact closed_shut (i := i) rfl ((chanF_at rfl).trans (hc1.trans (by rw [hpp]))) rfl hclf
   have hw : WtS (turnF x.crew g 0 0 (byOf 0 0)).2 (x.M.set i { p with closed := true, senders := [], receivers := [] }) := WP.set (WtS.turn (h.wt hpan) hs) i (fun a ha => by simp at ha)
   have h1 : Gc l (turnL (noteL { x with M := x.M.set i { p with closed := true, senders := [], receivers := [] } } ⟨5, g, (i : Int), -1, -1, -1, false, false⟩) g 0 0) i ⟨5, g, (i : Int), -1, -1, -1, false, false⟩ := by
    refine ⟨⟨_, hr.note hp2 hst, SimG.mk ?_ ?_ rfl, rfl⟩, ?_, hw, hpan, ?_⟩
    ·dsimp only
     show _ = crewG (turnF x.crew g 0 0 (byOf 0 0)).2
     rw [turn_same hs, set_id (hsim.run hs), hsim.crew]
    ·dsimp only
     show _ = chanG (x.M.set i { p with closed := true, senders := [], receivers := [] })
     rw [chanG_set, hsim.chans]
     rfl
    ·show CalmP (prevF l (x.tr ++ [(⟨5, g, (i : Int), -1, -1, -1, false, false⟩ : Ev)]).length)
     rw [prev_is hp2]
     exact calm_kinds (show (5 : Int) ≠ 3 by decide) (show (5 : Int) ≠ 4 by decide)
    ·show i < (x.M.set i _).length
     rw [List.length_set]
     exact hil
   exact (h1.wakes hE ⟨rfl, rfl, rfl⟩ _ ((pre_senders _ _).trans hp)).senders hE _ hp
theorem Gk.other (h : Gk l x) (hE : ∀ e ∈ l, entF e = 0) (hpan : x.pan = false) (hs : Stt x.crew g 0) {o : OpM} (ho : OpOk np o) (hl : x.crew.length < 512) (hp : (otherL x g o).tr <+: l) : Gk l (otherL x g o) := by
 revert hp
 unfold otherL
 by_cases h1 : o.kind = 1
 ·rw [if_pos h1]
  exact fun hp => h.spawn hE hpan hs ho.a0 hl hp rfl rfl rfl hpan
 ·rw [if_neg h1]
  by_cases h2 : o.kind = 2
  ·rw [if_pos h2]
   exact fun hp => h.make hE hpan hs ho.b0 hp rfl rfl rfl hpan
  ·rw [if_neg h2]
   by_cases h7 : o.kind = 7
   ·rw [if_pos h7]
    exact fun hp => h.bare hE hpan (e := ⟨9, g, -1, -1, o.a, -1, false, false⟩) (s' := 0) (M' := x.M) hs rfl (.inr (.inr (.inl rfl))) rfl rfl (WtS.turn (h.wt hpan) hs) rfl rfl rfl hpan hp
   ·rw [if_neg h7]
    by_cases h8 : o.kind = 8
    ·rw [if_pos h8]
     exact fun hp => h.bare hE hpan (e := ⟨10, g, -1, -1, o.a, -1, false, false⟩) (s' := 0) (M' := x.M) hs rfl (.inr (.inr (.inr (.inl rfl)))) rfl rfl (WtS.turn (h.wt hpan) hs) rfl rfl rfl hpan hp
    ·rw [if_neg h8]
     exact fun hp => h.bare hE hpan (e := bareE 11 g) (s' := 2) (M' := x.M) hs rfl (.inr (.inr (.inr (.inr rfl)))) rfl rfl (WtS.turn (h.wt hpan) hs) rfl rfl rfl hpan hp
theorem Gk.does (h : Gk l x) (hE : ∀ e ∈ l, entF e = 0) (hk : Lk np k x) (hpan : x.pan = false) (hs : Stt x.crew g 0) {o : OpM} (ho : OpOk np o) (hn : ∀ c : Int, 0 ≤ c ∧ c < 8 → -1 ≤ numL x c) (hl : x.crew.length < 512) (s : ScrM) (hp : (doesL s x g o).tr <+: l) : Gk l (doesL s x g o) := by
 revert hp
 unfold doesL
 by_cases h3 : o.kind = 3
 ·rw [if_pos h3]
  exact fun hp => h.alone hE hk hpan hs ⟨ho.a0, ho.a1⟩ (hn _ ⟨ho.a0, ho.a1⟩) hp
 ·rw [if_neg h3]
  by_cases h4 : o.kind = 4
  ·rw [if_pos h4]
   exact fun hp => h.alone hE hk hpan hs ⟨ho.a0, ho.a1⟩ (hn _ ⟨ho.a0, ho.a1⟩) hp
  ·rw [if_neg h4]
   by_cases h5 : o.kind = 5
   ·rw [if_pos h5]
    exact fun hp => h.shut hE hk hpan hs ⟨ho.a0, ho.a1⟩ hp
   ·rw [if_neg h5]
    by_cases h6 : o.kind = 6
    ·rw [if_pos h6]
     exact fun hp => h.choose hE hk hpan hs ho s hp
    ·rw [if_neg h6]
     exact fun hp => h.other hE hpan hs ho hl hp
end
theorem inF_mem {L : List One} {s g : Int} : ∀ {k : Nat}, g ∈ inF L s k → Stt L g s
 | 0, h => by simp [inF] at h
 | k + 1, h => by
  unfold inF at h
  rcases List.mem_append.1 h with h | h
  ·exact inF_mem h
  ·split at h
   ·cases h
   ·rename_i o ho
    split at h
    ·rename_i hs
     rw [List.mem_singleton.1 h]
     exact ⟨Int.natCast_nonneg _, o, by rw [Int.toNat_natCast]; exact ho, hs⟩
    ·cases h
theorem who_stt {s : ScrM} {x : LmM} (h : verL s x = 0) (h0 : ¬ whoL s x < 0) : Stt x.crew (whoL s x) 0 := by
 obtain ⟨_, ho, _⟩ := ver_zero h
 have ha := over_able ho
 unfold whoL at h0 ⊢
 split
 ·rename_i hn
  rw [if_pos hn] at h0
  exact absurd (show (-1 : Int) < 0 by decide) h0
 ·have hm : (s.plan.getD x.p 0).toNat % (ableF x.crew).length < (ableF x.crew).length := Nat.mod_lt _ ha
  rw [List.getD_eq_getElem?_getD, List.getElem?_eq_getElem hm]
  exact inF_mem (k := x.crew.length) (List.getElem_mem hm)
theorem Gk.step {l : List Ev} {x : LmM} {np k n : Nat} {s : ScrM} (h : Gk l x) (hE : ∀ e ∈ l, entF e = 0) (hk : Lk np k x) (hr : Rgt n x) (hn : n ≤ 510) (hs : ProgsOk s.progs) (hnp : s.progs.length = np) (h1 : 1 ≤ np) (hp : (stepL s x).tr <+: l) : Gk l (stepL s x) := by
 revert hp
 unfold stepL
 by_cases hv : verL s x = 0
 ·rw [if_neg (fun hh => hh hv)]
  obtain ⟨hpan, _, _⟩ := ver_zero hv
  by_cases h0 : whoL s x < 0
  ·rw [if_pos h0]
   exact fun hp => h.compact hE hpan rfl rfl rfl hpan hp
  ·rw [if_neg h0]
   subst hnp
   have hc := hr.c
   have g1 : Gk l { x with p := x.p + 1 } := h.at_p _
   have g2 : Lk s.progs.length k { x with p := x.p + 1 } := hk.pp (x.p + 1)
   have g3 : ∀ c : Int, 0 ≤ c ∧ c < 8 → -1 ≤ numL { x with p := x.p + 1 } c := fun c hc => (hr.num hk (by omega) hc).1
   have g4 := who_stt hv h0
   have g5 := opL_ok hs h1 x (whoL s x)
   have g6 : x.crew.length < 512 := by omega
   generalize whoL s x = w at g4 g5 ⊢
   generalize opL s x w = o at g5 ⊢
   exact fun hp => Gk.does g1 hE g2 hpan g4 g5 g3 g6 s hp
 ·rw [if_pos hv]
  exact fun _ => h
theorem Gk.new (l : List Ev) : Gk l newL := ⟨⟨⟨[(false, false)], [], evz, false⟩, ⟨fun j hj => absurd hj (Nat.not_lt_zero j), rfl⟩, fun _ => ⟨rfl, rfl, rfl⟩⟩, rfl, fun _ y hy => absurd hy List.not_mem_nil⟩
theorem Gk.run {l : List Ev} {np : Nat} {s : ScrM} (hE : ∀ e ∈ l, entF e = 0) (hs : ProgsOk s.progs) (hnp : s.progs.length = np) (h1 : 1 ≤ np) (hv : ProgsV s.progs) : ∀ n, n ≤ 500 → (runL s n).tr <+: l → Gk l (runL s n)
 | 0, _, _ => Gk.new l
 | n + 1, hn, hp => (Gk.run hE hs hnp h1 hv n (by omega) ((pre_step s (runL s n)).trans hp)).step hE (Lk.run hs hnp h1 n) (Rgt.run hs hnp h1 hv n (by omega)) (by omega) hs hnp h1 hp
/-- A run's trace keeps all rules, and no service is missing at its end. -/
theorem run_keeps {s : ScrM} (h : checkE s = 0) : (∀ j < (runL s (s.plan.length + 1)).tr.length, brG (runL s (s.plan.length + 1)).tr j = 0) ∧ CalmP (prevF (runL s (s.plan.length + 1)).tr (runL s (s.plan.length + 1)).tr.length) := by
 have hr := checkE_right h
 have hpl := hr.pl
 have hG := Gk.run (run_right h) hr.ok rfl hr.n1 (checkE_V h) (s.plan.length + 1) (by omega) (List.prefix_refl _)
 obtain ⟨r, hb, _⟩ := hG.r
 exact ⟨hb.b, hG.calm⟩
end Go.Proofs.YtchkaaeoffmjnaaGreatDoor
namespace Go.Proofs.YtchkaaeoffmjnaaGreatDoor
set_option linter.unusedVariables false
set_option linter.unusedSimpArgs false
open Go.RowKit
section
variable {l t T : List Ev} {i j n : Nat} {r r' : RdrM} {e : Ev} {prev : Option Ev} {nx nx' : Option Int}
theorem prev_congr (h : ∀ k, k < i → l[k]? = t[k]?) : prevF l i = prevF t i := by
 unfold prevF
 split
 ·rfl
 ·exact h _ (by omega)
theorem st_congr : ∀ (i : Nat), (∀ k, k ≤ i → l[k]? = t[k]?) → stG l i = stG t i
 | 0, _ => rfl
 | i + 1, h => by
  rw [stG, stG, st_congr i (fun k hk => h k (by omega)), prev_congr (fun k hk => h k (by omega)), show nextF l i = nextF t i by unfold nextF; rw [h (i + 1) (Nat.le_refl _)], List.getD_eq_getElem?_getD, List.getD_eq_getElem?_getD, h i (by omega)]
theorem br_congr (h : ∀ k, k ≤ i + 1 → l[k]? = t[k]?) : brG l i = brG t i := by
 unfold brG
 rw [st_congr i (fun k hk => h k (by omega)), prev_congr (fun k hk => h k (by omega)), show nextF l i = nextF t i by unfold nextF; rw [h (i + 1) (Nat.le_refl _)], List.getD_eq_getElem?_getD, List.getD_eq_getElem?_getD, h i (by omega)]
def stS (r : RdrM) (prev : Option Ev) (e : Ev) : RdrM := (servedF (madeF (crewedF r e).2 e).2 prev e).2
theorem step_zero : (stepG r prev nx e).1 = 0 ↔ entF e = 0 ∧ (crewedF r e).1 = true ∧ (madeF (crewedF r e).2 e).1 = true ∧ (servedF (madeF (crewedF r e).2 e).2 prev e).1 = true ∧ (orderedF (stS r prev e) nx e).1 = true ∧ (closedF (orderedF (stS r prev e) nx e).2 e).1 = true := by
 unfold stepG stS
 repeat' split
 all_goals simp_all
theorem step_two (h : (stepG r prev nx e).1 = 0) : (stepG r prev nx e).2 = (closedF (orderedF (stS r prev e) nx e).2 e).2 := by
 obtain ⟨h1, h2, h3, h4, h5, h6⟩ := step_zero.1 h
 unfold stS at h5 h6 ⊢
 unfold stepG
 simp only [h1, h2, h3, h4, h5, h6]
 simp
theorem ordered_next (h3 : e.kind ≠ 3) (h4 : e.kind ≠ 4) : orderedF r nx e = (true, r) := by
 unfold orderedF
 split
 ·rfl
 ·rw [if_pos ⟨h3, .inl h4⟩]
theorem step_next (h3 : e.kind ≠ 3) (h4 : e.kind ≠ 4) : stepG r prev nx e = stepG r prev nx' e := by
 unfold stepG
 simp only [ordered_next (nx := nx) h3 h4, ordered_next (nx := nx') h3 h4]
/-- What a channel takes where nothing is seen behind. -/
theorem take_none {c : ChnM} (h : (takeF c nx e).1 = true) : (takeF c none e).1 = true ∧ (takeF c none e).2.closed = c.closed ∧ (takeF c nx e).2.closed = c.closed := by
 cases nx with
 | none =>
  refine ⟨h, ?_, ?_⟩ <;> (unfold takeF; dsimp only; split <;> rfl)
 | some v =>
  refine ⟨?_, ?_, ?_⟩
  ·revert h
   unfold takeF
   dsimp only
   cases hs : e.send with
   | true => simp
   | false =>
    simp only [if_neg (show ¬ (false = true) by decide)]
    by_cases hm : 0 ≤ e.mate
    ·simp only [if_pos hm]
     cases hb : c.buf with
     | nil => simp [hm]
     | cons b L => simp; omega
    ·simp only [if_neg hm]
     simp [hm]
  ·unfold takeF; dsimp only; split <;> rfl
  ·unfold takeF; dsimp only; split <;> rfl
theorem step_last (h : (stepG r prev nx e).1 = 0) : (stepG r prev none e).1 = 0 := by
 obtain ⟨h1, h2, h3, h4, h5, h6⟩ := step_zero.1 h
 refine step_zero.2 ⟨h1, h2, h3, h4, ?_⟩
 generalize stS r prev e = s at h5 h6
 unfold orderedF at h5 h6 ⊢
 cases hc : chanF s e.chan with
 | none =>
  rw [hc] at h6
  exact ⟨rfl, h6⟩
 | some c =>
  rw [hc] at h5 h6
  dsimp only at h5 h6 ⊢
  by_cases hk : e.kind ≠ 3 ∧ (e.kind ≠ 4 ∨ e.ok = false)
  ·rw [if_pos hk] at h6 ⊢
   exact ⟨rfl, h6⟩
  ·rw [if_neg hk] at h5 h6 ⊢
   dsimp only at h5 h6 ⊢
   obtain ⟨t1, t2, t3⟩ := take_none h5
   refine ⟨t1, ?_⟩
   have hc0 : 0 ≤ e.chan ∧ e.chan.toNat < s.chans.length := by
    unfold chanF at hc
    split at hc
    ·cases hc
    ·exact ⟨by omega, (List.getElem?_eq_some_iff.1 hc).1⟩
   have hset : ∀ d : ChnM, chanF { s with chans := s.chans.set e.chan.toNat d } e.chan = some d := by
    intro d
    unfold chanF
    rw [if_neg (by omega), List.getElem?_set, if_pos rfl, if_pos hc0.2]
   unfold closedF at h6 ⊢
   rw [hset] at h6 ⊢
   dsimp only at h6 ⊢
   have hkk : e.kind = 3 ∨ (e.kind = 4 ∧ e.ok = true) := by
    by_cases h3 : e.kind = 3
    ·exact .inl h3
    ·right
     refine ⟨?_, ?_⟩
     ·by_cases h4 : e.kind = 4
      ·exact h4
      ·exact absurd ⟨h3, .inl h4⟩ hk
     ·cases ho : e.ok with
      | true => rfl
      | false => exact absurd ⟨h3, .inr ho⟩ hk
   rw [if_neg (by omega)] at h6 ⊢
   by_cases hm : e.kind = 3 ∨ e.kind = 4 ∧ 0 ≤ e.mate
   ·rw [if_pos hm] at h6 ⊢
    rw [t3] at h6
    rw [t2]
    exact h6
   ·rw [if_neg hm]
    split
    ·rename_i h9
     rcases hkk with h | h
     ·omega
     ·rw [h.2] at h9
      cases h9.2
    ·rfl
/-- A beginning keeps the rules. -/
theorem keep_take (hT : ∀ j, j < T.length → brG T j = 0) (hn : n ≤ T.length) : ∀ j, j < (T.take n).length → brG (T.take n) j = 0 := by
 intro j hj
 rw [List.length_take] at hj
 have hg : ∀ k, k < n → (T.take n)[k]? = T[k]? := fun k hk => by rw [List.getElem?_take, if_pos hk]
 rcases Nat.lt_or_ge (j + 1) n with h | h
 ·rw [br_congr (t := T) (fun k hk => hg k (by omega))]
  exact hT j (by omega)
 ·have hb := hT j (by omega)
  unfold brG at hb ⊢
  rw [st_congr (t := T) j (fun k hk => hg k (by omega)), prev_congr (t := T) (fun k hk => hg k (by omega)), show nextF (T.take n) j = none by unfold nextF; rw [List.getElem?_eq_none (by rw [List.length_take]; omega)]; rfl, List.getD_eq_getElem?_getD, hg j (by omega), ← List.getD_eq_getElem?_getD]
  exact step_last hb
theorem check_none (h : ∀ j, j < l.length → brG l j = 0) : checkG l = if 0 < l.length ∧ servesF (l.getD (l.length - 1) evz) = true then (4, l.length) else (0, 0) := by
 unfold checkG
 rw [scan_none h]
 rfl
theorem calm_last (h : CalmP (prevF l l.length)) : ¬ (0 < l.length ∧ servesF (l.getD (l.length - 1) evz) = true) := by
 rintro ⟨h0, hs⟩
 unfold CalmP prevF at h
 rw [if_neg (by omega), List.getElem?_eq_getElem (by omega)] at h
 rw [List.getD_eq_getElem?_getD, List.getElem?_eq_getElem (by omega)] at hs
 simp only [Option.getD_some] at hs
 simp [hs] at h
def dupE (T : List Ev) (n : Nat) : List Ev := T.take (n + 1) ++ T.drop n
theorem dup_lo (hn : n < T.length) {k : Nat} (hk : k ≤ n) : (dupE T n)[k]? = T[k]? := by
 unfold dupE
 rw [List.getElem?_append_left (by rw [List.length_take]; omega), List.getElem?_take, if_pos (by omega)]
theorem dup_hi (hn : n < T.length) (k : Nat) : (dupE T n)[n + 1 + k]? = T[n + k]? := by
 unfold dupE
 rw [List.getElem?_append_right (by rw [List.length_take]; omega), List.length_take, List.getElem?_drop]
 congr 1
 omega
theorem dup_len (hn : n < T.length) : (dupE T n).length = T.length + 1 := by
 unfold dupE
 rw [List.length_append, List.length_take, List.length_drop]
 omega
theorem dup_before (hT : ∀ j, j < T.length → brG T j = 0) (hn : n < T.length) : ∀ j, j < n → brG (dupE T n) j = 0 := fun j hj => by
 rw [br_congr (t := T) (fun k hk => dup_lo hn (by omega))]
 exact hT j (by omega)
theorem dup_at (hT : ∀ j, j < T.length → brG T j = 0) (hn : n < T.length) (he : T[n]? = some e) (h3 : e.kind ≠ 3) (h4 : e.kind ≠ 4) : brG (dupE T n) n = 0 ∧ stG (dupE T n) (n + 1) = stG T (n + 1) := by
 have hs : stG (dupE T n) n = stG T n := st_congr n (fun k hk => dup_lo hn hk)
 have hp : prevF (dupE T n) n = prevF T n := prev_congr (fun k hk => dup_lo hn (by omega))
 have hd : (dupE T n).getD n evz = e := by rw [List.getD_eq_getElem?_getD, dup_lo hn (Nat.le_refl n), he]; rfl
 have hd' : T.getD n evz = e := by rw [List.getD_eq_getElem?_getD, he]; rfl
 have hx := step_next (r := stG T n) (prev := prevF T n) (nx := nextF (dupE T n) n) (nx' := nextF T n) h3 h4
 refine ⟨?_, ?_⟩
 ·have := hT n hn
  unfold brG at this ⊢
  rw [hs, hp, hd, hx]
  rw [hd'] at this
  exact this
 ·rw [stG, stG, hs, hp, hd, hd', hx]
theorem crew_then (h : (crewedF r e).1 = true) (h13 : e.kind ≠ 13) : ∃ x, r.crew[e.g.toNat]? = some x ∧ x.2 = false ∧ (e.kind ≠ 12 → x.1 = (e.kind == 7)) ∧ r.over = false ∧ (crewedF r e).2.over = (e.kind == 12) ∧ (crewedF r e).2.crew = (if e.kind = 1 then r.crew.set e.g.toNat (e.kind == 6, e.kind == 11) ++ [(false, false)] else r.crew.set e.g.toNat (e.kind == 6, e.kind == 11)) ∧ (e.kind = 1 → e.mate = r.crew.length) := by
 unfold crewedF at h ⊢
 by_cases ho : r.over = true
 ·rw [if_pos ho] at h
  cases h
 ·rw [if_neg ho, if_neg h13] at h ⊢
  cases hc : r.crew[e.g.toNat]? with
  | none =>
   rw [hc] at h
   cases h
  | some x =>
   rw [hc] at h
   dsimp only at h ⊢
   by_cases hx : x.2 = true
   ·rw [if_pos hx] at h
    cases h
   ·rw [if_neg hx] at h ⊢
    by_cases hw : e.kind ≠ 12 ∧ x.1 ≠ (e.kind == 7)
    ·rw [if_pos hw] at h
     cases h
    ·rw [if_neg hw] at h ⊢
     refine ⟨x, rfl, by simpa using hx, fun h12 => Classical.byContradiction (fun hh => hw ⟨h12, hh⟩), by simpa using ho, ?_⟩
     by_cases h1 : e.kind = 1
     ·rw [if_pos h1] at h ⊢
      by_cases hm : e.mate ≠ r.crew.length
      ·rw [if_pos hm] at h
       cases h
      ·rw [if_neg hm, if_pos h1]
       exact ⟨rfl, rfl, fun _ => Classical.not_not.1 hm⟩
     ·rw [if_neg h1, if_neg h1]
      exact ⟨rfl, rfl, fun h => absurd h h1⟩
theorem keep_ordered (r : RdrM) (nx : Option Int) (e : Ev) : (orderedF r nx e).2.crew = r.crew ∧ (orderedF r nx e).2.over = r.over ∧ (orderedF r nx e).2.closer = r.closer := by
 unfold orderedF
 split
 ·exact ⟨rfl, rfl, rfl⟩
 ·split <;> exact ⟨rfl, rfl, rfl⟩
theorem keep_closed (r : RdrM) (e : Ev) : (closedF r e).2.crew = r.crew ∧ (closedF r e).2.over = r.over ∧ (closedF r e).2.closer = r.closer := by
 unfold closedF
 split
 ·exact ⟨rfl, rfl, rfl⟩
 ·split
  ·exact ⟨rfl, rfl, rfl⟩
  ·split
   ·exact ⟨rfl, rfl, rfl⟩
   ·split <;> exact ⟨rfl, rfl, rfl⟩
/-- The crew behind an event that keeps the rules. -/
theorem step_crew (h : (stepG r prev nx e).1 = 0) : (stepG r prev nx e).2.crew = (crewedF r e).2.crew ∧ (stepG r prev nx e).2.over = (crewedF r e).2.over := by
 rw [step_two h]
 obtain ⟨a1, a2, _⟩ := keep_closed (orderedF (stS r prev e) nx e).2 e
 obtain ⟨b1, b2, _⟩ := keep_ordered (stS r prev e) nx e
 rw [a1, a2, b1, b2]
 unfold stS
 obtain ⟨c1, c2⟩ := served_keeps2 (madeF (crewedF r e).2 e).2 prev e
 obtain ⟨d1, d2⟩ := made_keeps2 (crewedF r e).2 e
 exact ⟨c1.trans d1, c2.trans d2⟩
theorem keep_crewed (r : RdrM) (e : Ev) : (crewedF r e).2.chans = r.chans := by
 unfold crewedF
 split
 ·rfl
 ·split
  ·rfl
  ·split
   ·rfl
   ·split
    ·rfl
    ·split
     ·rfl
     ·split
      ·split <;> rfl
      ·rfl
theorem keep_served (r : RdrM) (p : Option Ev) (e : Ev) : (servedF r p e).2.chans = r.chans := by
 unfold servedF
 split
 ·rfl
 ·split <;> rfl
theorem ent_chan (h : entF e = 0) : inn (shapeF e.kind).c0 (shapeF e.kind).c1 e.chan = true := by
 cases hI : inn (shapeF e.kind).c0 (shapeF e.kind).c1 e.chan with
 | true => rfl
 | false =>
  unfold entF at h
  rw [hI] at h
  simp at h
  omega
/-- One that breaks a rule where it stands again. -/
theorem again_breaks (h : (stepG r prev nx e).1 = 0) (hk : e.kind = 7 ∨ e.kind = 1 ∨ e.kind = 2 ∨ e.kind = 11 ∨ e.kind = 6 ∨ e.kind = 5 ∨ e.kind = 12) : (stepG (stepG r prev nx e).2 (some e) nx' e).1 ≠ 0 := by
 intro h2
 obtain ⟨s1, s2⟩ := step_crew h
 obtain ⟨z1, z2, z3, z4, z5, z6⟩ := step_zero.1 h
 obtain ⟨y1, y2, y3, y4, y5, y6⟩ := step_zero.1 h2
 obtain ⟨x, c1, c2, c3, c4, c5, c6, c7⟩ := crew_then z2 (by omega)
 obtain ⟨x', d1, d2, d3, d4, d5, d6, d7⟩ := crew_then y2 (by omega)
 obtain ⟨hl, _⟩ := List.getElem?_eq_some_iff.1 c1
 rw [s1, c6] at d1
 rw [s2, c5] at d4
 rcases hk with hk | hk | hk | hk | hk | hk | hk
 ·-- a wake
  rw [if_neg (by omega), List.getElem?_set, if_pos rfl, if_pos hl] at d1
  injection d1 with d1
  have := d3 (by omega)
  rw [← d1, hk] at this
  cases this
 ·-- a spawn
  have m1 := c7 hk
  have m2 := d7 hk
  rw [s1, c6, if_pos hk] at m2
  simp at m2
  omega
 ·-- a make
  have e1 : madeF (crewedF r e).2 e = (true, { (crewedF r e).2 with chans := (crewedF r e).2.chans ++ [⟨e.value, [], false⟩] }) := by
   unfold madeF at z3 ⊢
   rw [if_pos hk] at z3 ⊢
   split at z3
   ·cases z3
   ·rename_i hh
    rw [if_neg hh]
  have e2 : e.chan = r.chans.length := by
   unfold madeF at z3
   rw [if_pos hk] at z3
   split at z3
   ·cases z3
   ·rename_i hh
    rw [keep_crewed] at hh
    exact Classical.not_not.1 hh
  have e3 : (stepG r prev nx e).2.chans.length = r.chans.length + 1 := by
   rw [step_two h]
   rw [ordered_next (by omega) (by omega)]
   dsimp only
   have : (closedF (stS r prev e) e).2.chans = (stS r prev e).chans := by
    unfold closedF
    split
    ·rfl
    ·rw [if_neg (by omega), if_neg (by omega), if_neg (by omega)]
   rw [this]
   unfold stS
   rw [keep_served, e1]
   dsimp only
   rw [keep_crewed, List.length_append]
   rfl
  unfold madeF at y3
  rw [if_pos hk] at y3
  split at y3
  ·cases y3
  ·rename_i hh
   rw [keep_crewed, e3] at hh
   omega
 ·-- an exit
  rw [if_neg (by omega), List.getElem?_set, if_pos rfl, if_pos hl] at d1
  injection d1 with d1
  rw [← d1, hk] at d2
  cases d2
 ·-- a park
  rw [if_neg (by omega), List.getElem?_set, if_pos rfl, if_pos hl] at d1
  injection d1 with d1
  have := d3 (by omega)
  rw [← d1, hk] at this
  cases this
 ·-- a close
  have hch : 0 ≤ e.chan := by
   have hh := ent_chan z1
   simp [shapeF, hk, inn] at hh
   omega
  have hmk : ∀ q : RdrM, madeF q e = (true, q) ∨ (madeF q e).1 = false := fun q => by
   unfold madeF
   rw [if_neg (by omega)]
   cases (e.chan == -1 || (chanF q e.chan).isSome)
   ·exact .inr rfl
   ·exact .inl rfl
  have q1 : madeF (crewedF r e).2 e = (true, (crewedF r e).2) := (hmk _).resolve_right (by rw [z3]; decide)
  have hsome : (chanF (crewedF r e).2 e.chan).isSome = true := by
   unfold madeF at z3
   rw [if_neg (by omega)] at z3
   simp at z3
   rcases z3 with hh | hh
   ·omega
   ·exact hh
  obtain ⟨c, hc⟩ := Option.isSome_iff_exists.1 hsome
  have hst : (stS r prev e).chans = (crewedF r e).2.chans := by
   unfold stS
   rw [keep_served, q1]
  have hc' : chanF (stS r prev e) e.chan = some c := (chanF_at hst).trans hc
  have hlen : e.chan.toNat < (stS r prev e).chans.length := by
   unfold chanF at hc'
   rw [if_neg (by omega)] at hc'
   exact (List.getElem?_eq_some_iff.1 hc').1
  have e3 : (stepG r prev nx e).2.chans = (stS r prev e).chans.set e.chan.toNat { c with closed := true } := by
   rw [step_two h, ordered_next (by omega) (by omega)]
   dsimp only
   unfold closedF
   rw [hc']
   dsimp only
   rw [if_pos hk]
  have q2 : madeF (crewedF (stepG r prev nx e).2 e).2 e = (true, (crewedF (stepG r prev nx e).2 e).2) := (hmk _).resolve_right (by rw [y3]; decide)
  rw [ordered_next (by omega) (by omega)] at y6
  dsimp only at y6
  have hst2 : (stS (stepG r prev nx e).2 (some e) e).chans = (stS r prev e).chans.set e.chan.toNat { c with closed := true } := by
   unfold stS
   rw [keep_served, q2]
   dsimp only
   rw [keep_crewed, e3]
   rfl
  have hc2 : chanF (stS (stepG r prev nx e).2 (some e) e) e.chan = some { c with closed := true } := by
   unfold chanF
   rw [if_neg (by omega), hst2, List.getElem?_set, if_pos rfl, if_pos hlen]
  unfold closedF at y6
  rw [hc2] at y6
  dsimp only at y6
  rw [if_pos hk] at y6
  cases y6
 ·-- a panic
  rw [hk] at d4
  cases d4
/-- One that breaks nothing where it stands again. -/
theorem again_keeps (h : (stepG r prev nx e).1 = 0) (hk : e.kind = 13 ∨ e.kind = 9 ∨ e.kind = 10 ∨ e.kind = 8) : stepG (stepG r prev nx e).2 (some e) nx' e = (0, (stepG r prev nx e).2) := by
 obtain ⟨s1, s2⟩ := step_crew h
 obtain ⟨z1, z2, z3, z4, z5, z6⟩ := step_zero.1 h
 have hch : e.chan = -1 := by
  have hh := ent_chan z1
  rcases hk with hk | hk | hk | hk <;> simp [shapeF, hk, inn] at hh <;> omega
 have hcalm : CalmP (some e) := calm_kinds (by omega) (by omega)
 have hclo : (stepG r prev nx e).2.closer = e := by
  rw [step_two h, (keep_closed _ _).2.2, (keep_ordered _ _ _).2.2]
  unfold stS
  unfold servedF at z4 ⊢
  split at z4
  ·rename_i s hs
   have := of_decide_eq_true z4
   have := congrArg Ev.kind this
   unfold wantF at this
   dsimp only at this
   omega
  ·rename_i hs
   rw [if_neg (by omega)]
 by_cases h13 : e.kind = 13
 ·have hov : (stepG r prev nx e).2.over = false := by
   rw [s2]
   unfold crewedF at z2 ⊢
   split at z2
   ·cases z2
   ·rename_i ho
    rw [if_neg ho, if_pos h13]
    simpa using ho
  have hst : stepG (stepG r prev nx e).2 (some e) nx' e = (0, { (stepG r prev nx e).2 with closer := e }) := stepG_ok z1 (crewed_compact hov h13) (made_none (by omega) hch) (served_calm hcalm (by omega)) (ordered_none hch) (closed_none hch)
  rw [hst]
  congr 1
  generalize (stepG r prev nx e).2 = q at hclo
  cases q
  simp at hclo
  rw [hclo]
 ·obtain ⟨x, c1, c2, c3, c4, c5, c6, c7⟩ := crew_then z2 h13
  obtain ⟨hl, _⟩ := List.getElem?_eq_some_iff.1 c1
  have hff : (e.kind == 6, e.kind == 11) = (false, false) := by rcases hk with hk | hk | hk | hk <;> rw [hk] <;> rfl
  have hov : (stepG r prev nx e).2.over = false := by
   rw [s2, c5]
   rcases hk with hk | hk | hk | hk <;> rw [hk] <;> rfl
  have hcr : (stepG r prev nx e).2.crew[e.g.toNat]? = some (false, false) := by
   rw [s1, c6, if_neg (by omega), List.getElem?_set, if_pos rfl, if_pos hl, hff]
  rw [step_bare z1 hov h13 hcr (by omega) (by omega) (by omega) hch hcalm]
  congr 1
  rw [hff, set_id hcr]
  have h12 : (e.kind == 12) = false := by rcases hk with hk | hk | hk | hk <;> rw [hk] <;> rfl
  rw [h12]
  generalize (stepG r prev nx e).2 = q at hclo hov
  cases q
  simp at hclo hov
  rw [hclo, hov]
/-- Spoiled. -/
theorem dup_spoils (hT : ∀ j, j < T.length → brG T j = 0) (hn : n < T.length) (he : T[n]? = some e) (hk : e.kind = 7 ∨ e.kind = 1 ∨ e.kind = 2 ∨ e.kind = 11 ∨ e.kind = 6 ∨ e.kind = 5 ∨ e.kind = 12) : (checkG (dupE T n)).1 ≠ 0 ∧ (checkG (dupE T n)).2 = n + 1 := by
 obtain ⟨b1, b2⟩ := dup_at hT hn he (by omega) (by omega)
 have hd' : T.getD n evz = e := by rw [List.getD_eq_getElem?_getD, he]; rfl
 have hb : brG (dupE T n) (n + 1) ≠ 0 := by
  have h0 := hT n hn
  unfold brG at h0 ⊢
  rw [hd'] at h0
  rw [b2, stG, hd', show prevF (dupE T n) (n + 1) = some e by unfold prevF; rw [if_neg (by omega)]; exact (dup_lo hn (Nat.le_refl n)).trans he, show (dupE T n).getD (n + 1) evz = e by rw [List.getD_eq_getElem?_getD, show (dupE T n)[n + 1]? = T[n]? from dup_hi hn 0, he]; rfl]
  exact again_breaks h0 hk
 have hs : scanB (brG (dupE T n)) (dupE T n).length 0 = some (brG (dupE T n) (n + 1), n + 1) := scan_hit (by rw [dup_len hn]; omega) (fun j hj => by
  by_cases hj' : j = n
  ·rw [hj']; exact b1
  ·exact dup_before hT hn j (by omega)) hb
 unfold checkG
 rw [hs]
 exact ⟨hb, rfl⟩
theorem dup_keeps (hT : ∀ j, j < T.length → brG T j = 0) (hc : CalmP (prevF T T.length)) (hn : n < T.length) (he : T[n]? = some e) (hk : e.kind = 13 ∨ e.kind = 9 ∨ e.kind = 10 ∨ e.kind = 8) : checkG (dupE T n) = (0, 0) := by
 obtain ⟨b1, b2⟩ := dup_at hT hn he (by omega) (by omega)
 have hd' : T.getD n evz = e := by rw [List.getD_eq_getElem?_getD, he]; rfl
 have hda : (dupE T n).getD (n + 1) evz = e := by rw [List.getD_eq_getElem?_getD, show (dupE T n)[n + 1]? = T[n]? from dup_hi hn 0, he]; rfl
 have hpa : prevF (dupE T n) (n + 1) = some e := by unfold prevF; rw [if_neg (by omega)]; exact (dup_lo hn (Nat.le_refl n)).trans he
 have h0 := hT n hn
 unfold brG at h0
 rw [hd'] at h0
 have hag := again_keeps (nx' := nextF (dupE T n) (n + 1)) h0 hk
 have hsT : stG T (n + 1) = (stepG (stG T n) (prevF T n) (nextF T n) e).2 := by rw [stG, hd']
 have hs2 : stG (dupE T n) (n + 1 + 1) = stG T (n + 1) := by rw [stG, b2, hpa, hda, hsT, hag]
 have hstep : ∀ k, brG (dupE T n) (n + 2 + k) = brG T (n + 1 + k) ∧ stG (dupE T n) (n + 2 + k) = stG T (n + 1 + k) := by
  have hgd : ∀ k, (dupE T n).getD (n + 2 + k) evz = T.getD (n + 1 + k) evz := fun k => by
   rw [List.getD_eq_getElem?_getD, List.getD_eq_getElem?_getD, show n + 2 + k = n + 1 + (1 + k) by omega, dup_hi hn, show n + (1 + k) = n + 1 + k by omega]
  have hpv : ∀ k, prevF (dupE T n) (n + 2 + k) = prevF T (n + 1 + k) := fun k => by
   unfold prevF
   rw [if_neg (by omega), if_neg (by omega), show n + 2 + k - 1 = n + 1 + k by omega, dup_hi hn, show n + 1 + k - 1 = n + k by omega]
  have hnx : ∀ k, nextF (dupE T n) (n + 2 + k) = nextF T (n + 1 + k) := fun k => by
   unfold nextF
   rw [show n + 2 + k + 1 = n + 1 + (2 + k) by omega, dup_hi hn, show n + (2 + k) = n + 1 + k + 1 by omega]
  have hst : ∀ k, stG (dupE T n) (n + 2 + k) = stG T (n + 1 + k) := fun k => by
   induction k with
   | zero => exact hs2
   | succ k ih => rw [show n + 2 + (k + 1) = n + 2 + k + 1 by omega, show n + 1 + (k + 1) = n + 1 + k + 1 by omega, stG, stG, ih, hpv, hnx, hgd]
  exact fun k => ⟨by unfold brG; rw [hst, hpv, hnx, hgd], hst k⟩
 have hall : ∀ j, j < (dupE T n).length → brG (dupE T n) j = 0 := by
  intro j hj
  rw [dup_len hn] at hj
  rcases Nat.lt_trichotomy j n with h | h | h
  ·exact dup_before hT hn j h
  ·rw [h]; exact b1
  ·by_cases h1 : j = n + 1
   ·subst h1
    unfold brG
    rw [b2, hsT, hpa, hda, hag]
   ·obtain ⟨k, rfl⟩ : ∃ k, j = n + 2 + k := ⟨j - (n + 2), by omega⟩
    rw [(hstep k).1]
    exact hT _ (by omega)
 rw [check_none hall, if_neg]
 have hl := calm_last hc
 rw [dup_len hn]
 intro hh
 refine hl ⟨by omega, ?_⟩
 have := hh.2
 rw [List.getD_eq_getElem?_getD, show T.length + 1 - 1 = n + 1 + (T.length - 1 - n) by omega, dup_hi hn, show n + (T.length - 1 - n) = T.length - 1 by omega, ← List.getD_eq_getElem?_getD] at this
 exact this
end
end Go.Proofs.YtchkaaeoffmjnaaGreatDoor
