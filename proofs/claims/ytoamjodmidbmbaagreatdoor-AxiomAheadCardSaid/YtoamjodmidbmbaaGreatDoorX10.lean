/- Texts of the proof. -/
import Derived.Test.YtoamjodmidbmbaaGreatDoorX02
import Derived.Test.YtoamjodmidbmbaaGreatDoorX05
import Derived.Test.YtoamjodmidbmbaaGreatDoorX01
import Derived.WideKeyEntry
set_option linter.unusedVariables false
set_option linter.unusedSimpArgs false
namespace Go.Proofs.YtoamjodmidbmbaaGreatDoor
structure ChnM where
 size : Int
 buf : List Int
 closed : Bool
structure RdrM where
 crew : List (Bool × Bool)
 chans : List ChnM
 closer : Ev
 over : Bool
def evz : Ev := ⟨0, 0, 0, 0, 0, 0, false, false⟩
def servesF (e : Ev) : Bool := decide (0 ≤ e.mate) && (e.kind == 3 || e.kind == 4)
def crewedF (r : RdrM) (e : Ev) : Bool × RdrM :=
 if r.over = true then (false, r)
 else if e.kind = 13 then (true, r)
 else match r.crew[e.g.toNat]? with
  | none => (false, r)
  | some x =>
   if x.2 = true then (false, r)
   else if e.kind ≠ 12 ∧ x.1 ≠ (e.kind == 7) then (false, r)
   else if e.kind = 1 then
    if e.mate ≠ r.crew.length then (false, { r with crew := r.crew.set e.g.toNat (e.kind == 6, e.kind == 11), over := e.kind == 12 })
    else (true, { r with crew := r.crew.set e.g.toNat (e.kind == 6, e.kind == 11) ++ [(false, false)], over := e.kind == 12 })
   else (true, { r with crew := r.crew.set e.g.toNat (e.kind == 6, e.kind == 11), over := e.kind == 12 })
def chanF (r : RdrM) (c : Int) : Option ChnM := if c < 0 then none else r.chans[c.toNat]?
def madeF (r : RdrM) (e : Ev) : Bool × RdrM :=
 if e.kind = 2 then
  if e.chan ≠ r.chans.length then (false, r) else (true, { r with chans := r.chans ++ [⟨e.value, [], false⟩] })
 else (e.chan == -1 || (chanF r e.chan).isSome, r)
def wantF (s e : Ev) : Ev := ⟨7, s.mate, s.chan, e.case_, if s.send = true then s.value else e.value, s.g, !s.send, true⟩
def servedF (r : RdrM) (prev : Option Ev) (e : Ev) : Bool × RdrM :=
 match prev.filter servesF with
 | some s => (decide (e = wantF s e), r)
 | none =>
  if e.kind = 7 then (r.closer.kind == 5 && e.mate == r.closer.g && e.chan == r.closer.chan && !e.send && !e.ok, r)
  else (true, { r with closer := e })
def takeF (c : ChnM) (next : Option Int) (e : Ev) : Bool × ChnM :=
 let L := if e.send = true then c.buf ++ [e.value] else if 0 ≤ e.mate then (match next with | some v => c.buf ++ [v] | none => c.buf) else c.buf
 let takes := if e.send = true then decide (0 ≤ e.mate) else true
 let missing := !e.send && decide (0 ≤ e.mate) && next.isNone
 match takes, L with
 | true, v :: L => (v == e.value && decide ((L.length : Int) ≤ c.size), { c with buf := L })
 | _, L => ((!takes || missing) && decide ((L.length : Int) ≤ c.size), { c with buf := L })
def orderedF (r : RdrM) (next : Option Int) (e : Ev) : Bool × RdrM :=
 match chanF r e.chan with
 | none => (true, r)
 | some c =>
  if e.kind ≠ 3 ∧ (e.kind ≠ 4 ∨ e.ok = false) then (true, r)
  else ((takeF c next e).1, { r with chans := r.chans.set e.chan.toNat (takeF c next e).2 })
def closedF (r : RdrM) (e : Ev) : Bool × RdrM :=
 match chanF r e.chan with
 | none => (true, r)
 | some c =>
  if e.kind = 5 then (!c.closed, { r with chans := r.chans.set e.chan.toNat { c with closed := true } })
  else if e.kind = 3 ∨ e.kind = 4 ∧ 0 ≤ e.mate then (!c.closed, r)
  else if e.kind = 4 ∧ e.ok = false then (c.closed && c.buf.isEmpty, r)
  else (true, r)
def stepG (r : RdrM) (prev : Option Ev) (next : Option Int) (e : Ev) : Int × RdrM :=
 if entF e ≠ 0 then (1, r)
 else if (crewedF r e).1 = false then (2, (crewedF r e).2)
 else if (madeF (crewedF r e).2 e).1 = false then (3, (madeF (crewedF r e).2 e).2)
 else if (servedF (madeF (crewedF r e).2 e).2 prev e).1 = false then (4, (servedF (madeF (crewedF r e).2 e).2 prev e).2)
 else if (orderedF (servedF (madeF (crewedF r e).2 e).2 prev e).2 next e).1 = false then (5, (orderedF (servedF (madeF (crewedF r e).2 e).2 prev e).2 next e).2)
 else if (closedF (orderedF (servedF (madeF (crewedF r e).2 e).2 prev e).2 next e).2 e).1 = false then (6, (closedF (orderedF (servedF (madeF (crewedF r e).2 e).2 prev e).2 next e).2 e).2)
 else (0, (closedF (orderedF (servedF (madeF (crewedF r e).2 e).2 prev e).2 next e).2 e).2)
def prevF (l : List Ev) (i : Nat) : Option Ev := if i = 0 then none else l[i - 1]?
def nextF (l : List Ev) (i : Nat) : Option Int := (l[i + 1]?).map (·.value)
def stG (l : List Ev) : Nat → RdrM
 | 0 => ⟨[(false, false)], [], evz, false⟩
 | n + 1 => (stepG (stG l n) (prevF l n) (nextF l n) (l.getD n evz)).2
def brG (l : List Ev) (i : Nat) : Int := (stepG (stG l i) (prevF l i) (nextF l i) (l.getD i evz)).1
structure GoM where
 there : Nat
 waits : Bool
 exited : Bool
 over : Bool
def goR (l : List Ev) (g : Int) : Nat → GoM
  | 0 => ⟨1, false, false, false⟩
  | n + 1 =>
    let s := goR l g n
    let x := l.getD n evz
    ⟨if x.kind = 1 then s.there + 1 else s.there,
     if x.g ≠ g ∨ x.kind = 13 then s.waits else if x.kind = 7 then false else if x.kind = 6 then true else s.waits,
     if x.g ≠ g ∨ x.kind = 13 then s.exited else (s.exited || x.kind == 11),
     s.over || x.kind == 12⟩
def crewR (l : List Ev) (i : Nat) : Bool :=
 let e := l.getD i evz
 let s := goR l e.g i
 if s.over = true then false
 else if e.kind = 13 then true
 else decide (e.g < s.there) && !s.exited && (e.kind == 12 || s.waits == (e.kind == 7)) && (e.kind != 1 || e.mate == s.there)
def makesR (l : List Ev) : Nat → Nat
 | 0 => 0
 | n + 1 => if (l.getD n evz).kind = 2 then makesR l n + 1 else makesR l n
def madeR (l : List Ev) (i : Nat) : Bool :=
 if (l.getD i evz).kind = 2 then (l.getD i evz).chan == makesR l i else decide ((l.getD i evz).chan < makesR l i)
def backR (l : List Ev) (e : Ev) : Nat → Bool
 | 0 => false
 | k + 1 =>
  let x := l.getD k evz
  if x.kind = 5 then x.g == e.mate && x.chan == e.chan
  else if x.kind ≠ 7 ∨ (0 < k ∧ servesF (l.getD (k - 1) evz) = true) then false
  else backR l e k
def servedR (l : List Ev) (i : Nat) : Bool :=
 let e := l.getD i evz
 if 0 < i ∧ servesF (l.getD (i - 1) evz) = true then
  let s := l.getD (i - 1) evz
  e.kind == 7 && e.g == s.mate && e.mate == s.g && e.chan == s.chan && e.send != s.send && e.ok && (!s.send || e.value == s.value)
 else if e.kind ≠ 7 then true
 else if e.ok = true ∨ e.send = true then false
 else backR l e i
structure InsM where
 size : Int
 buf : List Int
 closed : Bool
 right : Bool
def insStep (l : List Ev) (c : Int) (i : Nat) (s : InsM) : InsM :=
 let e := l.getD i evz
 if e.chan ≠ c then s
 else
  let size := if e.kind = 2 then e.value else s.size
  let closed := if e.kind = 5 then true else s.closed
  if e.kind ≠ 3 ∧ (e.kind ≠ 4 ∨ e.ok = false) then ⟨size, s.buf, closed, s.right⟩
  else
   let last := decide (i + 1 = l.length)
   let L := if e.kind = 3 then s.buf ++ [e.value] else if 0 ≤ e.mate ∧ last = false then s.buf ++ [(l.getD (i + 1) evz).value] else s.buf
   if e.kind = 4 ∨ 0 ≤ e.mate then
    match L with
    | v :: L => ⟨size, L, closed, v == e.value && decide ((L.length : Int) ≤ size)⟩
    | [] => ⟨size, [], closed, (decide (0 ≤ e.mate) && last) && decide ((0 : Int) ≤ size)⟩
   else ⟨size, L, closed, true && decide ((L.length : Int) ≤ size)⟩
def insR (l : List Ev) (c : Int) : Nat → InsM
 | 0 => ⟨0, [], false, true⟩
 | n + 1 => insStep l c n (insR l c n)
def orderedR (l : List Ev) (i : Nat) : Bool :=
 let e := l.getD i evz
 if e.kind ≠ 3 ∧ (e.kind ≠ 4 ∨ e.ok = false) then true else (insR l e.chan (i + 1)).right
def closedR (l : List Ev) (i : Nat) : Bool :=
 let e := l.getD i evz
 if e.kind < 3 ∨ 5 < e.kind then true
 else
  let s := insR l e.chan i
  if e.kind = 4 ∧ e.ok = false then s.closed && s.buf.isEmpty
  else if e.kind = 4 ∧ e.mate < 0 then true
  else !s.closed
def brR (l : List Ev) (i : Nat) : Int :=
 if ref12 (l.getD i evz) ≠ 0 then 1
 else if crewR l i = false then 2
 else if madeR l i = false then 3
 else if servedR l i = false then 4
 else if orderedR l i = false then 5
 else if closedR l i = false then 6
 else 0
structure Rt (e : Ev) : Prop where
 k0 : 1 ≤ e.kind
 k1 : e.kind ≤ 13
 g : e.kind ≠ 13 → 0 ≤ e.g ∧ e.g ≤ 511
 c0 : -1 ≤ e.chan
 cc : e.kind = 2 ∨ e.kind = 3 ∨ e.kind = 4 ∨ e.kind = 5 ∨ e.kind = 7 → 0 ≤ e.chan
 s3 : e.kind = 3 → e.send = true
 s4 : e.kind = 4 → e.send = false
 m4 : e.kind = 4 → e.ok = false → e.mate = -1
 v2 : e.kind = 2 → 0 ≤ e.value
set_option maxHeartbeats 4000000 in
theorem Rt.of {e : Ev} (h : ref12 e = 0) : Rt e := by
 obtain ⟨kind, g, chan, case_, value, mate, send, ok⟩ := e
 unfold ref12 at h
 by_cases hh : kind < 1 ∨ 13 < kind
 ·rw [if_pos hh] at h
  simp at h
 ·rw [if_neg hh] at h
  have hk : kind = 1 ∨ kind = 2 ∨ kind = 3 ∨ kind = 4 ∨ kind = 5 ∨ kind = 6 ∨ kind = 7 ∨ kind = 8 ∨ kind = 9 ∨ kind = 10 ∨ kind = 11 ∨ kind = 12 ∨ kind = 13 := by omega
  clear hh
  by_cases h2 : (okF ⟨kind, g, chan, case_, value, mate, send, ok⟩ && (if kind = 13 then g == -1 else inn 0 511 g)) = true
  ·clear h
   rcases hk with rfl | rfl | rfl | rfl | rfl | rfl | rfl | rfl | rfl | rfl | rfl | rfl | rfl <;> cases send <;> cases ok <;> simp [okF, inn] at h2 <;> constructor <;> simp <;> omega
  ·rw [if_neg h2] at h
   simp at h
structure InvG (l : List Ev) (i : Nat) (r : RdrM) : Prop where
 over : ∀ g, r.over = (goR l g i).over
 there : ∀ g, (goR l g i).there = r.crew.length
 crew : r.over = false → ∀ g : Nat, g < r.crew.length → r.crew[g]? = some ((goR l g i).waits, (goR l g i).exited)
 new : ∀ g : Nat, r.crew.length ≤ g → (goR l g i).waits = false ∧ (goR l g i).exited = false
 makes : r.chans.length = makesR l i
 ins : ∀ c : Nat, c < r.chans.length → r.chans[c]? = some ⟨(insR l c i).size, (insR l c i).buf, (insR l c i).closed⟩
 insNew : ∀ c : Nat, r.chans.length ≤ c → (insR l c i).buf = [] ∧ (insR l c i).closed = false
 closer : ∀ e, backR l e i = (r.closer.kind == 5 && e.mate == r.closer.g && e.chan == r.closer.chan)
theorem InvG.start (l : List Ev) : InvG l 0 (stG l 0) := by
 constructor
 ·intro g; rfl
 ·intro g; rfl
 ·intro _ g hg
  have : g = 0 := by simp [stG] at hg; omega
  subst this
  rfl
 ·intro g hg; exact ⟨rfl, rfl⟩
 ·rfl
 ·intro c hc; simp [stG] at hc
 ·intro c hc; exact ⟨rfl, rfl⟩
 ·intro e; rfl
section
variable {l : List Ev} {i : Nat} {r : RdrM}
theorem crewed_keeps (r : RdrM) (e : Ev) : (crewedF r e).2.chans = r.chans ∧ (crewedF r e).2.closer = r.closer := by
 unfold crewedF
 split
 ·exact ⟨rfl, rfl⟩
 split
 ·exact ⟨rfl, rfl⟩
 split
 ·exact ⟨rfl, rfl⟩
 split
 ·exact ⟨rfl, rfl⟩
 split
 ·exact ⟨rfl, rfl⟩
 split
 ·split <;> exact ⟨rfl, rfl⟩
 ·exact ⟨rfl, rfl⟩
theorem crew_same (h : InvG l i r) (hr : Rt (l.getD i evz)) : (crewedF r (l.getD i evz)).1 = crewR l i := by
 unfold crewR crewedF
 obtain ⟨e, he⟩ : ∃ e, l.getD i evz = e := ⟨_, rfl⟩
 rw [he] at hr ⊢
 dsimp only
 rw [h.over e.g]
 split
 ·rfl
 split
 ·rfl
 ·rename_i h1 h13
  have hg := hr.g h13
  obtain ⟨g, hgg⟩ : ∃ g : Nat, e.g = g := ⟨e.g.toNat, by omega⟩
  have ht := h.there (g : Int)
  rw [hgg, ht, Int.toNat_natCast]
  by_cases hlt : g < r.crew.length
  ·have hc := h.crew (by rw [h.over e.g]; simpa using h1) g hlt
   rw [hc]
   have d : decide ((g : Int) < (r.crew.length : Int)) = true := by simp; exact hlt
   rw [d]
   dsimp only
   cases (goR l g i).exited
   ·cases (goR l g i).waits <;> by_cases h12 : e.kind = 12 <;> by_cases h7 : e.kind = 7 <;> by_cases h1 : e.kind = 1 <;> by_cases hm : e.mate = r.crew.length <;> simp [h12, h7, h1, hm] <;> omega
   ·simp
  ·rw [List.getElem?_eq_none (by omega)]
   have d : decide ((g : Int) < (r.crew.length : Int)) = false := by simp; omega
   rw [d]
   rfl
theorem made_same (h : InvG l i r) (hr : Rt (l.getD i evz)) : (madeF (crewedF r (l.getD i evz)).2 (l.getD i evz)).1 = madeR l i := by
 have hk := (crewed_keeps r (l.getD i evz)).1
 unfold madeF madeR chanF
 rw [hk]
 obtain ⟨e, he⟩ : ∃ e, l.getD i evz = e := ⟨_, rfl⟩
 rw [he] at hr ⊢
 rw [h.makes]
 have hm := h.makes
 split
 ·by_cases hc : e.chan = (makesR l i : Int)
  ·rw [if_neg (by simpa using hc)]
   simp [hc]
  ·rw [if_pos hc]
   simp [hc]
 ·dsimp only
  have := hr.c0
  by_cases hc : e.chan < 0
  ·have : e.chan = -1 := by omega
   rw [this]
   simp
   omega
  ·rw [if_neg hc]
   have d1 : (e.chan == -1) = false := by rw [beq_eq_false_iff_ne]; omega
   rw [d1, Bool.false_or]
   by_cases hlt : e.chan < (makesR l i : Int)
   ·rw [List.getElem?_eq_getElem (by omega), decide_eq_true hlt]
    rfl
   ·rw [List.getElem?_eq_none (by omega), decide_eq_false hlt]
    rfl
end
section
variable {l : List Ev} {i : Nat} {r r' : RdrM}
theorem prev_at (hi : i ≤ l.length) : prevF l i = if i = 0 then none else some (l.getD (i - 1) evz) := by
 unfold prevF
 split
 ·rfl
 ·rw [List.getD_eq_getElem?_getD, List.getElem?_eq_getElem (by omega)]
  rfl
theorem want_same (s e : Ev) : decide (e = wantF s e) = (e.kind == 7 && e.g == s.mate && e.mate == s.g && e.chan == s.chan && e.send != s.send && e.ok && (!s.send || e.value == s.value)) := by
 obtain ⟨kind, g, chan, case_, value, mate, send, ok⟩ := e
 obtain ⟨skind, sg, schan, scase, svalue, smate, ssend, sok⟩ := s
 rw [Bool.eq_iff_iff]
 unfold wantF
 cases ssend <;> cases send <;> cases ok <;> simp [Ev.mk.injEq] <;> omega
theorem served_same (h : InvG l i r) (hi : i < l.length) (hc : r'.closer = r.closer) : (servedF r' (prevF l i) (l.getD i evz)).1 = servedR l i := by
 unfold servedF servedR
 rw [prev_at (Nat.le_of_lt hi), hc]
 obtain ⟨e, he⟩ : ∃ e, l.getD i evz = e := ⟨_, rfl⟩
 rw [he]
 dsimp only
 by_cases h0 : 0 < i ∧ servesF (l.getD (i - 1) evz) = true
 ·rw [if_pos h0, if_neg (by omega)]
  simp only [Option.filter, h0.2, if_true]
  exact want_same _ _
 ·rw [if_neg h0]
  have hn : (if i = 0 then none else some (l.getD (i - 1) evz)).filter servesF = none := by
   by_cases hz : i = 0
   ·rw [if_pos hz]; rfl
   ·rw [if_neg hz]
    have : servesF (l.getD (i - 1) evz) = false := by
     cases hs : servesF (l.getD (i - 1) evz)
     ·rfl
     ·exact absurd ⟨by omega, hs⟩ h0
    simp only [Option.filter, this]
    rfl
  rw [hn]
  dsimp only
  by_cases h7 : e.kind = 7
  ·rw [if_pos h7, if_neg (by simpa using h7)]
   have hb := h.closer e
   cases hs : e.send <;> cases ho : e.ok <;> simp [hb]
  ·rw [if_neg h7, if_pos h7]
theorem next_at (hi : i < l.length) : nextF l i = if i + 1 = l.length then none else some (l.getD (i + 1) evz).value := by
 unfold nextF
 split
 ·rw [List.getElem?_eq_none (by omega)]
  rfl
 ·rw [List.getD_eq_getElem?_getD, List.getElem?_eq_getElem (by omega)]
  rfl
theorem take_same (hi : i < l.length) (s : InsM) (hk : ((l.getD i evz).kind = 3 ∧ (l.getD i evz).send = true) ∨ ((l.getD i evz).kind = 4 ∧ (l.getD i evz).send = false ∧ (l.getD i evz).ok = true)) :
  insStep l (l.getD i evz).chan i s = ⟨(takeF ⟨s.size, s.buf, s.closed⟩ (nextF l i) (l.getD i evz)).2.size, (takeF ⟨s.size, s.buf, s.closed⟩ (nextF l i) (l.getD i evz)).2.buf, (takeF ⟨s.size, s.buf, s.closed⟩ (nextF l i) (l.getD i evz)).2.closed, (takeF ⟨s.size, s.buf, s.closed⟩ (nextF l i) (l.getD i evz)).1⟩ := by
 unfold insStep takeF
 rw [next_at hi]
 obtain ⟨e, he⟩ : ∃ e, l.getD i evz = e := ⟨_, rfl⟩
 rw [he] at hk ⊢
 obtain ⟨ev, hev⟩ : ∃ ev, l.getD (i + 1) evz = ev := ⟨_, rfl⟩
 rw [hev]
 dsimp only
 rw [if_neg (by simp)]
 have f0 : ¬ (false = true) := by simp
 rcases hk with ⟨h3, hs⟩ | ⟨h4, hs, ho⟩
 ·have a1 : ¬ e.kind = 2 := by omega
  have a2 : ¬ e.kind = 5 := by omega
  have a3 : ¬ (e.kind ≠ 3 ∧ (e.kind ≠ 4 ∨ e.ok = false)) := fun hh => hh.1 h3
  have a4 : ¬ e.kind = 4 := by omega
  rw [if_neg a1, if_neg a2, if_neg a3, if_pos h3, hs]
  simp only [if_true]
  obtain ⟨v, L, hL⟩ : ∃ v L, s.buf ++ [e.value] = v :: L := by
   cases s.buf with
   | nil => exact ⟨_, _, rfl⟩
   | cons a b => exact ⟨_, _, rfl⟩
  rw [hL]
  by_cases hm : 0 ≤ e.mate
  ·have a5 : e.kind = 4 ∨ 0 ≤ e.mate := .inr hm
   rw [if_pos a5, decide_eq_true hm]
  ·have a5 : ¬ (e.kind = 4 ∨ 0 ≤ e.mate) := by omega
   rw [if_neg a5, decide_eq_false hm]
   simp
 ·have a1 : ¬ e.kind = 2 := by omega
  have a2 : ¬ e.kind = 5 := by omega
  have a3 : ¬ (e.kind ≠ 3 ∧ (e.kind ≠ 4 ∨ e.ok = false)) := fun hh => hh.2.elim (fun h => h h4) (fun h => by rw [ho] at h; cases h)
  have a4 : ¬ e.kind = 3 := by omega
  have a5 : e.kind = 4 ∨ 0 ≤ e.mate := .inl h4
  rw [if_neg a1, if_neg a2, if_neg a3, if_neg a4, if_pos a5, hs]
  simp only [if_neg f0]
  by_cases hm : 0 ≤ e.mate
  ·rw [decide_eq_true hm]
   by_cases hl : i + 1 = l.length
   ·have a6 : ¬ (0 ≤ e.mate ∧ decide (i + 1 = l.length) = false) := fun hh => by simp [hl] at hh
    rw [if_neg a6, if_pos hl, if_pos hm, decide_eq_true hl]
    cases s.buf <;> simp
   ·have a6 : 0 ≤ e.mate ∧ decide (i + 1 = l.length) = false := ⟨hm, by simp [hl]⟩
    rw [if_pos a6, if_neg hl, if_pos hm]
    cases s.buf <;> simp
  ·have a6 : ¬ (0 ≤ e.mate ∧ decide (i + 1 = l.length) = false) := fun hh => hm hh.1
   rw [if_neg a6, if_neg hm, decide_eq_false hm]
   cases s.buf <;> simp
theorem made_keeps (r : RdrM) (e : Ev) : (madeF r e).2.closer = r.closer ∧ (e.kind ≠ 2 → (madeF r e).2.chans = r.chans) := by
 unfold madeF
 split
 ·rename_i h2
  split
  ·exact ⟨rfl, fun h => absurd h2 h⟩
  ·exact ⟨rfl, fun h => absurd h2 h⟩
 ·exact ⟨rfl, fun _ => rfl⟩
theorem served_keeps (r : RdrM) (p : Option Ev) (e : Ev) : (servedF r p e).2.chans = r.chans := by
 unfold servedF
 split
 ·rfl
 ·split <;> rfl
theorem chan_at (h : InvG l i r) (hch : r'.chans = r.chans) {c : Int} (h0 : 0 ≤ c) (hlt : c < makesR l i) : chanF r' c = some ⟨(insR l c i).size, (insR l c i).buf, (insR l c i).closed⟩ := by
 obtain ⟨n, rfl⟩ : ∃ n : Nat, c = n := ⟨c.toNat, by omega⟩
 unfold chanF
 rw [if_neg (by omega), hch, Int.toNat_natCast]
 exact h.ins n (by have := h.makes; omega)
theorem ordered_same (h : InvG l i r) (hi : i < l.length) (hr : Rt (l.getD i evz)) (hch : (l.getD i evz).kind ≠ 2 → r'.chans = r.chans) (hm : madeR l i = true) : (orderedF r' (nextF l i) (l.getD i evz)).1 = orderedR l i := by
 unfold orderedR orderedF
 have hts := take_same hi (insR l (l.getD i evz).chan i)
 unfold madeR at hm
 have hin : insR l (l.getD i evz).chan (i + 1) = insStep l (l.getD i evz).chan i (insR l (l.getD i evz).chan i) := rfl
 dsimp only
 rw [hin]
 obtain ⟨e, he⟩ : ∃ e, l.getD i evz = e := ⟨_, rfl⟩
 rw [he] at hr hch hm hts ⊢
 by_cases hk : e.kind ≠ 3 ∧ (e.kind ≠ 4 ∨ e.ok = false)
 ·rw [if_pos hk]
  split
  ·rfl
  ·rw [if_pos hk]
 ·have h2 : e.kind ≠ 2 := by omega
  rw [if_neg h2] at hm
  have h34 : e.kind = 3 ∨ e.kind = 4 := by omega
  have hc0 := hr.cc (by omega)
  rw [if_neg hk, chan_at h (hch h2) hc0 (by simpa using hm)]
  dsimp only
  rw [if_neg hk, hts ?_]
  rcases h34 with h3 | h4
  ·exact .inl ⟨h3, hr.s3 h3⟩
  ·refine .inr ⟨h4, hr.s4 h4, ?_⟩
   cases ho : e.ok
   ·exact absurd ⟨by omega, .inr ho⟩ hk
   ·rfl
theorem ordered_keeps (r : RdrM) (n : Option Int) (e : Ev) : (orderedF r n e).2.closer = r.closer ∧ (orderedF r n e).2.crew = r.crew ∧ (orderedF r n e).2.over = r.over ∧ (e.kind ≠ 3 → (e.kind ≠ 4 ∨ e.ok = false) → (orderedF r n e).2 = r) := by
 unfold orderedF
 split
 ·exact ⟨rfl, rfl, rfl, fun _ _ => rfl⟩
 ·split
  ·exact ⟨rfl, rfl, rfl, fun _ _ => rfl⟩
  ·rename_i hk
   exact ⟨rfl, rfl, rfl, fun a b => absurd ⟨a, b⟩ hk⟩
theorem ordered_chan (h : InvG l i r) (hch : r'.chans = r.chans) {e : Ev} {n : Option Int} (h0 : 0 ≤ e.chan) (hlt : e.chan < makesR l i) :
  ∃ L, chanF (orderedF r' n e).2 e.chan = some ⟨(insR l e.chan i).size, L, (insR l e.chan i).closed⟩ ∧ (e.kind = 4 ∧ e.ok = false → L = (insR l e.chan i).buf) := by
 have hc := chan_at h hch h0 hlt
 unfold orderedF
 rw [hc]
 dsimp only
 split
 ·exact ⟨_, hc, fun _ => rfl⟩
 ·rename_i hk
  refine ⟨(takeF ⟨(insR l e.chan i).size, (insR l e.chan i).buf, (insR l e.chan i).closed⟩ n e).2.buf, ?_, fun hh => absurd ⟨by omega, .inr hh.2⟩ hk⟩
  unfold chanF
  rw [if_neg (by omega)]
  dsimp only
  rw [hch, List.getElem?_set_self (by have := h.makes; omega)]
  unfold takeF
  dsimp only
  split <;> rfl
theorem closed_same (h : InvG l i r) (hr : Rt (l.getD i evz)) (hch : (l.getD i evz).kind ≠ 2 → r'.chans = r.chans) (hm : madeR l i = true) : (closedF (orderedF r' (nextF l i) (l.getD i evz)).2 (l.getD i evz)).1 = closedR l i := by
 unfold closedR
 unfold madeR at hm
 obtain ⟨n, hn⟩ : ∃ n, nextF l i = n := ⟨_, rfl⟩
 rw [hn]
 obtain ⟨e, he⟩ : ∃ e, l.getD i evz = e := ⟨_, rfl⟩
 rw [he] at hr hch hm ⊢
 dsimp only
 by_cases hk : e.kind < 3 ∨ 5 < e.kind
 ·rw [if_pos hk]
  unfold closedF
  split
  ·rfl
  ·have a1 : ¬ e.kind = 5 := by omega
   have a2 : ¬ (e.kind = 3 ∨ e.kind = 4 ∧ 0 ≤ e.mate) := by omega
   have a3 : ¬ (e.kind = 4 ∧ e.ok = false) := fun hh => by omega
   rw [if_neg a1, if_neg a2, if_neg a3]
 ·have h2 : e.kind ≠ 2 := by omega
  rw [if_neg h2] at hm
  rw [if_neg hk]
  obtain ⟨L, hL, hb⟩ := ordered_chan (n := n) h (hch h2) (hr.cc (by omega)) (by simpa using hm)
  unfold closedF
  rw [hL]
  dsimp only
  by_cases h5 : e.kind = 5
  ·have a3 : ¬ (e.kind = 4 ∧ e.ok = false) := fun hh => by omega
   have a4 : ¬ (e.kind = 4 ∧ e.mate < 0) := by omega
   rw [if_pos h5, if_neg a3, if_neg a4]
  ·rw [if_neg h5]
   by_cases h3 : e.kind = 3
   ·have a3 : ¬ (e.kind = 4 ∧ e.ok = false) := fun hh => by omega
    have a4 : ¬ (e.kind = 4 ∧ e.mate < 0) := by omega
    rw [if_pos (.inl h3), if_neg a3, if_neg a4]
   ·have h4 : e.kind = 4 := by omega
    by_cases ho : e.ok = false
    ·have hmm := hr.m4 h4 ho
     have a2 : ¬ (e.kind = 3 ∨ e.kind = 4 ∧ 0 ≤ e.mate) := by omega
     rw [if_neg a2, if_pos ⟨h4, ho⟩, if_pos ⟨h4, ho⟩, hb ⟨h4, ho⟩]
    ·have a3 : ¬ (e.kind = 4 ∧ e.ok = false) := fun hh => ho hh.2
     rw [if_neg a3, if_neg a3]
     by_cases hmm : 0 ≤ e.mate
     ·have a4 : ¬ (e.kind = 4 ∧ e.mate < 0) := by omega
      rw [if_pos (.inr ⟨h4, hmm⟩), if_neg a4]
     ·have a2 : ¬ (e.kind = 3 ∨ e.kind = 4 ∧ 0 ≤ e.mate) := by omega
      have a4 : e.kind = 4 ∧ e.mate < 0 := by omega
      rw [if_neg a2, if_pos a4]
end
section
variable {l : List Ev} {i : Nat} {r r' : RdrM}
structure CrewInv (l : List Ev) (i : Nat) (r : RdrM) : Prop where
 over : ∀ g, r.over = (goR l g i).over
 there : ∀ g, (goR l g i).there = r.crew.length
 crew : r.over = false → ∀ g : Nat, g < r.crew.length → r.crew[g]? = some ((goR l g i).waits, (goR l g i).exited)
 new : ∀ g : Nat, r.crew.length ≤ g → (goR l g i).waits = false ∧ (goR l g i).exited = false
theorem crew_step (h : InvG l i r) (hr : Rt (l.getD i evz)) (hp : (crewedF r (l.getD i evz)).1 = true) : CrewInv l (i + 1) (crewedF r (l.getD i evz)).2 := by
  have hg : ∀ g, goR l g (i + 1) = ⟨if (l.getD i evz).kind = 1 then (goR l g i).there + 1 else (goR l g i).there,
     if (l.getD i evz).g ≠ g ∨ (l.getD i evz).kind = 13 then (goR l g i).waits else if (l.getD i evz).kind = 7 then false else if (l.getD i evz).kind = 6 then true else (goR l g i).waits,
     if (l.getD i evz).g ≠ g ∨ (l.getD i evz).kind = 13 then (goR l g i).exited else ((goR l g i).exited || (l.getD i evz).kind == 11),
     (goR l g i).over || (l.getD i evz).kind == 12⟩ := fun g => rfl
  obtain ⟨e, he⟩ : ∃ e, l.getD i evz = e := ⟨_, rfl⟩
  rw [he] at hr hp ⊢
  simp only [he] at hg
  unfold crewedF at hp ⊢
  by_cases ho : r.over = true
  · rw [if_pos ho] at hp
    cases hp
  rw [if_neg ho] at hp ⊢
  have ho' : r.over = false := by simpa using ho
  by_cases h13 : e.kind = 13
  · rw [if_pos h13]
    constructor
    · intro g
      rw [hg g]
      dsimp only
      rw [h13, h.over g]
      simp
    · intro g
      rw [hg g]
      dsimp only
      rw [if_neg (by omega)]
      exact h.there g
    · intro _ g hgl
      rw [hg g]
      dsimp only
      rw [if_pos (.inr h13), if_pos (.inr h13)]
      exact h.crew ho' g hgl
    · intro g hgl
      rw [hg g]
      dsimp only
      rw [if_pos (.inr h13), if_pos (.inr h13)]
      exact h.new g hgl
  · rw [if_neg h13] at hp ⊢
    have heg := hr.g h13
    obtain ⟨n, hn⟩ : ∃ n : Nat, e.g = n := ⟨e.g.toNat, by omega⟩
    rw [hn, Int.toNat_natCast] at hp ⊢
    by_cases hlt : n < r.crew.length
    · rw [h.crew ho' n hlt] at hp ⊢
      dsimp only at hp ⊢
      by_cases hx : (goR l n i).exited = true
      · rw [if_pos hx] at hp
        cases hp
      rw [if_neg hx] at hp ⊢
      have hx' : (goR l n i).exited = false := by simpa using hx
      by_cases hw : e.kind ≠ 12 ∧ (goR l n i).waits ≠ (e.kind == 7)
      · rw [if_pos hw] at hp
        cases hp
      rw [if_neg hw] at hp ⊢
      have hno : ∀ g : Nat, g ≠ n → (goR l g (i + 1)).waits = (goR l g i).waits ∧ (goR l g (i + 1)).exited = (goR l g i).exited := fun g hgn => by
        rw [hg g]
        have : e.g ≠ (g : Int) ∨ e.kind = 13 := .inl (by omega)
        dsimp only
        rw [if_pos this, if_pos this]
        exact ⟨rfl, rfl⟩
      have hown : e.kind ≠ 12 → (goR l n (i + 1)).waits = (e.kind == 6) ∧ (goR l n (i + 1)).exited = (e.kind == 11) := fun h12 => by
        rw [hg n]
        have : ¬ (e.g ≠ (n : Int) ∨ e.kind = 13) := by omega
        dsimp only
        rw [if_neg this, if_neg this, hx', Bool.false_or]
        refine ⟨?_, rfl⟩
        have hwe : (goR l n i).waits = (e.kind == 7) := by
          rcases Decidable.em ((goR l n i).waits = (e.kind == 7)) with h1 | h1
          · exact h1
          · exact absurd ⟨h12, h1⟩ hw
        by_cases h7 : e.kind = 7
        · rw [if_pos h7, h7]
          rfl
        · rw [if_neg h7]
          by_cases h6 : e.kind = 6
          · rw [if_pos h6, h6]
            rfl
          · rw [if_neg h6, hwe]
            rw [beq_eq_false_iff_ne.2 h7, beq_eq_false_iff_ne.2 h6]
      have hover : ∀ g, (e.kind == 12) = (goR l g (i + 1)).over := fun g => by
        rw [hg g]
        dsimp only
        rw [← h.over g, ho', Bool.false_or]
      by_cases h1 : e.kind = 1
      · rw [if_pos h1] at hp ⊢
        by_cases hm : e.mate ≠ r.crew.length
        · rw [if_pos hm] at hp
          cases hp
        rw [if_neg hm]
        constructor
        · exact hover
        · intro g
          rw [hg g]
          dsimp only
          rw [if_pos h1, h.there g]
          simp
        · intro _ g hgl
          dsimp only at hgl ⊢
          simp only [List.length_append, List.length_set, List.length_singleton] at hgl
          by_cases hgn : g = n
          · subst hgn
            rw [List.getElem?_append_left (by simpa using hlt), List.getElem?_set_self hlt]
            obtain ⟨w1, w2⟩ := hown (by omega)
            rw [w1, w2]
          · obtain ⟨w1, w2⟩ := hno g hgn
            rw [w1, w2]
            by_cases hgl' : g < r.crew.length
            · rw [List.getElem?_append_left (by simpa using hgl'), List.getElem?_set_ne (by omega)]
              exact h.crew ho' g hgl'
            · have : g = r.crew.length := by omega
              subst this
              rw [List.getElem?_append_right (by simp)]
              obtain ⟨v1, v2⟩ := h.new r.crew.length (Nat.le_refl _)
              rw [v1, v2]
              simp
        · intro g hgl
          dsimp only at hgl
          simp only [List.length_append, List.length_set, List.length_singleton] at hgl
          obtain ⟨w1, w2⟩ := hno g (by omega)
          rw [w1, w2]
          exact h.new g (by omega)
      · rw [if_neg h1] at hp ⊢
        constructor
        · exact hover
        · intro g
          rw [hg g]
          dsimp only
          rw [if_neg h1, h.there g]
          simp
        · intro hov g hgl
          dsimp only at hov hgl ⊢
          simp only [List.length_set] at hgl
          have h12 : e.kind ≠ 12 := by
            intro h12
            rw [h12] at hov
            cases hov
          by_cases hgn : g = n
          · subst hgn
            rw [List.getElem?_set_self hlt]
            obtain ⟨w1, w2⟩ := hown h12
            rw [w1, w2]
          · obtain ⟨w1, w2⟩ := hno g hgn
            rw [w1, w2, List.getElem?_set_ne (by omega)]
            exact h.crew ho' g hgl
        · intro g hgl
          dsimp only at hgl
          simp only [List.length_set] at hgl
          obtain ⟨w1, w2⟩ := hno g (by omega)
          rw [w1, w2]
          exact h.new g hgl
    · rw [List.getElem?_eq_none (by omega)] at hp
      cases hp
end
section
variable {l : List Ev} {i : Nat} {r r1 : RdrM}
structure ChanInv (l : List Ev) (i : Nat) (L : List ChnM) : Prop where
 makes : L.length = makesR l i
 ins : ∀ c : Nat, c < L.length → L[c]? = some ⟨(insR l c i).size, (insR l c i).buf, (insR l c i).closed⟩
 insNew : ∀ c : Nat, L.length ≤ c → (insR l c i).buf = [] ∧ (insR l c i).closed = false
theorem closed_keeps (r : RdrM) (e : Ev) : (closedF r e).2.closer = r.closer ∧ (closedF r e).2.crew = r.crew ∧ (closedF r e).2.over = r.over ∧ (e.kind ≠ 5 → (closedF r e).2 = r) := by
 unfold closedF
 split
 ·exact ⟨rfl, rfl, rfl, fun _ => rfl⟩
 ·split
  ·rename_i h5
   exact ⟨rfl, rfl, rfl, fun h => absurd h5 h⟩
  ·split
   ·exact ⟨rfl, rfl, rfl, fun _ => rfl⟩
   ·split <;> exact ⟨rfl, rfl, rfl, fun _ => rfl⟩
theorem ins_other {c : Int} (hc : (l.getD i evz).chan ≠ c) : insR l c (i + 1) = insR l c i := by
 show insStep l c i (insR l c i) = _
 unfold insStep
 dsimp only
 rw [if_pos hc]
theorem makes_keep (h2 : (l.getD i evz).kind ≠ 2) : makesR l (i + 1) = makesR l i := by
 show (if (l.getD i evz).kind = 2 then makesR l i + 1 else makesR l i) = _
 rw [if_neg h2]
theorem chan_step (h : InvG l i r) (hi : i < l.length) (hr : Rt (l.getD i evz)) (hch : r1.chans = r.chans) {p : Option Ev} (hm : madeR l i = true) :
  ChanInv l (i + 1) (closedF (orderedF (servedF (madeF r1 (l.getD i evz)).2 p (l.getD i evz)).2 (nextF l i) (l.getD i evz)).2 (l.getD i evz)).2.chans := by
 have hmk := made_keeps r1 (l.getD i evz)
 have hsk := served_keeps (madeF r1 (l.getD i evz)).2 p (l.getD i evz)
 have hio := @ins_other l i
 have hts := take_same hi (insR l (l.getD i evz).chan i)
 have hst : insR l (l.getD i evz).chan (i + 1) = insStep l (l.getD i evz).chan i (insR l (l.getD i evz).chan i) := rfl
 have hmR := hm
 unfold madeR at hm
 by_cases h2 : (l.getD i evz).kind = 2
 ·have hmm : makesR l (i + 1) = makesR l i + 1 := by
   show (if (l.getD i evz).kind = 2 then makesR l i + 1 else makesR l i) = _
   rw [if_pos h2]
  rw [if_pos h2] at hm
  have hc : (l.getD i evz).chan = (makesR l i : Int) := by simpa using hm
  have e1 : (madeF r1 (l.getD i evz)).2.chans = r.chans ++ [⟨(l.getD i evz).value, [], false⟩] := by
   unfold madeF
   rw [if_pos h2, if_neg (by rw [hch, h.makes]; simpa using hc)]
   dsimp only
   rw [hch]
  obtain ⟨r2, hr2⟩ : ∃ r2, (servedF (madeF r1 (l.getD i evz)).2 p (l.getD i evz)).2 = r2 := ⟨_, rfl⟩
  rw [hr2] at hsk ⊢
  rw [(ordered_keeps r2 (nextF l i) (l.getD i evz)).2.2.2 (by omega) (.inl (by omega)), (closed_keeps r2 (l.getD i evz)).2.2.2 (by omega), hsk, e1]
  have hlen := h.makes
  constructor
  ·simp [hmm, hlen]
  ·intro c hcl
   simp only [List.length_append, List.length_singleton] at hcl
   by_cases hcc : c < r.chans.length
   ·rw [List.getElem?_append_left hcc, hio (by omega)]
    exact h.ins c hcc
   ·have : c = makesR l i := by omega
    subst this
    rw [List.getElem?_append_right (by omega), hlen, Nat.sub_self]
    rw [← hc, hst]
    obtain ⟨v1, v2⟩ := h.insNew (makesR l i) (by omega)
    rw [← hc] at v1 v2
    unfold insStep
    dsimp only
    have a2 : (l.getD i evz).kind ≠ 3 ∧ ((l.getD i evz).kind ≠ 4 ∨ (l.getD i evz).ok = false) := ⟨by omega, .inl (by omega)⟩
    have a3 : ¬ (l.getD i evz).kind = 5 := by omega
    rw [if_neg (fun hh => hh rfl), if_pos a2]
    dsimp only
    rw [if_pos h2, if_neg a3, v1, v2]
    rfl
  ·intro c hcl
   simp only [List.length_append, List.length_singleton] at hcl
   rw [hio (by omega)]
   exact h.insNew c (by omega)
 ·have hmm : makesR l (i + 1) = makesR l i := makes_keep h2
  rw [if_neg h2] at hm
  have hc : (l.getD i evz).chan < (makesR l i : Int) := by simpa using hm
  have hc1 := hr.c0
  obtain ⟨r2, hr2⟩ : ∃ r2, (servedF (madeF r1 (l.getD i evz)).2 p (l.getD i evz)).2 = r2 := ⟨_, rfl⟩
  rw [hr2] at hsk ⊢
  have e2 : r2.chans = r.chans := by rw [hsk, hmk.2 h2, hch]
  have hlen := h.makes
  by_cases h5 : (l.getD i evz).kind = 5
  ·have hc0 := hr.cc (.inr (.inr (.inr (.inl h5))))
   obtain ⟨n, hn⟩ : ∃ n : Nat, (l.getD i evz).chan = n := ⟨(l.getD i evz).chan.toNat, by omega⟩
   rw [(ordered_keeps r2 (nextF l i) (l.getD i evz)).2.2.2 (by omega) (.inl (by omega))]
   have e3 : (closedF r2 (l.getD i evz)).2.chans = r.chans.set n ⟨(insR l n i).size, (insR l n i).buf, true⟩ := by
    unfold closedF
    rw [chan_at h e2 hc0 hc]
    dsimp only
    rw [if_pos h5]
    dsimp only
    rw [e2, hn, Int.toNat_natCast]
   rw [e3]
   constructor
   ·rw [List.length_set, hmm, hlen]
   ·intro c hcl
    rw [List.length_set] at hcl
    by_cases hcn : c = n
    ·subst hcn
     rw [List.getElem?_set_self hcl, ← hn, hst]
     unfold insStep
     dsimp only
     have a2 : (l.getD i evz).kind ≠ 3 ∧ ((l.getD i evz).kind ≠ 4 ∨ (l.getD i evz).ok = false) := ⟨by omega, .inl (by omega)⟩
     rw [if_neg (fun hh => hh rfl), if_pos a2]
     dsimp only
     rw [if_neg h2, if_pos h5]
    ·rw [List.getElem?_set_ne (by omega), hio (by omega)]
     exact h.ins c hcl
   ·intro c hcl
    rw [List.length_set] at hcl
    rw [hio (by omega)]
    exact h.insNew c hcl
  ·rw [(closed_keeps _ (l.getD i evz)).2.2.2 h5]
   by_cases hk : (l.getD i evz).kind ≠ 3 ∧ ((l.getD i evz).kind ≠ 4 ∨ (l.getD i evz).ok = false)
   ·rw [(ordered_keeps r2 (nextF l i) (l.getD i evz)).2.2.2 hk.1 hk.2, e2]
    have hsame : ∀ c : Int, (insR l c (i + 1)).size = (insR l c i).size ∧ (insR l c (i + 1)).buf = (insR l c i).buf ∧ (insR l c (i + 1)).closed = (insR l c i).closed := fun c => by
     by_cases hcc : (l.getD i evz).chan = c
     ·subst hcc
      rw [hst]
      unfold insStep
      dsimp only
      rw [if_neg (fun hh => hh rfl), if_pos hk]
      dsimp only
      rw [if_neg h2, if_neg h5]
      exact ⟨rfl, rfl, rfl⟩
     ·rw [hio hcc]
      exact ⟨rfl, rfl, rfl⟩
    constructor
    ·rw [hmm, hlen]
    ·intro c hcl
     obtain ⟨a, b, d⟩ := hsame c
     rw [a, b, d]
     exact h.ins c hcl
    ·intro c hcl
     obtain ⟨a, b, d⟩ := hsame c
     rw [b, d]
     exact h.insNew c hcl
   ·have h34 : (l.getD i evz).kind = 3 ∨ (l.getD i evz).kind = 4 := by omega
    have hc0 := hr.cc (by omega)
    obtain ⟨n, hn⟩ : ∃ n : Nat, (l.getD i evz).chan = n := ⟨(l.getD i evz).chan.toNat, by omega⟩
    have hts := hts (by
     rcases h34 with h3 | h4
     ·exact .inl ⟨h3, hr.s3 h3⟩
     ·refine .inr ⟨h4, hr.s4 h4, ?_⟩
      cases ho : (l.getD i evz).ok
      ·exact absurd ⟨by omega, .inr ho⟩ hk
      ·rfl)
    have e3 : (orderedF r2 (nextF l i) (l.getD i evz)).2.chans = r.chans.set n (takeF ⟨(insR l (l.getD i evz).chan i).size, (insR l (l.getD i evz).chan i).buf, (insR l (l.getD i evz).chan i).closed⟩ (nextF l i) (l.getD i evz)).2 := by
     unfold orderedF
     rw [chan_at h e2 hc0 hc]
     dsimp only
     rw [if_neg hk]
     dsimp only
     rw [e2]
     congr 1
     omega
    rw [e3]
    constructor
    ·rw [List.length_set, hmm, hlen]
    ·intro c hcl
     rw [List.length_set] at hcl
     by_cases hcn : c = n
     ·subst hcn
      rw [List.getElem?_set_self hcl, ← hn, hst, hts]
     ·rw [List.getElem?_set_ne (by omega), hio (by omega)]
      exact h.ins c hcl
    ·intro c hcl
     rw [List.length_set] at hcl
     rw [hio (by omega)]
     exact h.insNew c hcl
end
section
variable {l : List Ev} {i : Nat} {r r1 : RdrM}
theorem closer_step (h : InvG l i r) (hi : i < l.length) (hc : r1.closer = r.closer) (hs : servedR l i = true) (e : Ev) :
  backR l e (i + 1) = ((servedF r1 (prevF l i) (l.getD i evz)).2.closer.kind == 5 && e.mate == (servedF r1 (prevF l i) (l.getD i evz)).2.closer.g && e.chan == (servedF r1 (prevF l i) (l.getD i evz)).2.closer.chan) := by
 have hb : backR l e (i + 1) = (if (l.getD i evz).kind = 5 then (l.getD i evz).g == e.mate && (l.getD i evz).chan == e.chan else if (l.getD i evz).kind ≠ 7 ∨ (0 < i ∧ servesF (l.getD (i - 1) evz) = true) then false else backR l e i) := rfl
 have hcl := h.closer e
 unfold servedR at hs
 unfold servedF
 rw [prev_at (Nat.le_of_lt hi)]
 obtain ⟨x, hx⟩ : ∃ x, l.getD i evz = x := ⟨_, rfl⟩
 rw [hx] at hb hs ⊢
 dsimp only at hs
 rw [hb]
 by_cases h0 : 0 < i ∧ servesF (l.getD (i - 1) evz) = true
 ·rw [if_pos h0] at hs
  have h7 : x.kind = 7 := by
   simp only [Bool.and_eq_true, beq_iff_eq] at hs
   exact hs.1.1.1.1.1.1
  rw [if_neg (by omega), if_pos (.inr h0), if_neg (show ¬ i = 0 by omega)]
  simp only [Option.filter, h0.2, if_true]
  rw [hc, ← hcl]
  obtain ⟨j, rfl⟩ : ∃ j, i = j + 1 := ⟨i - 1, by omega⟩
  have hj : backR l e (j + 1) = (if (l.getD j evz).kind = 5 then (l.getD j evz).g == e.mate && (l.getD j evz).chan == e.chan else if (l.getD j evz).kind ≠ 7 ∨ (0 < j ∧ servesF (l.getD (j - 1) evz) = true) then false else backR l e j) := rfl
  rw [hj]
  have hk := h0.2
  rw [Nat.add_sub_cancel] at hk
  unfold servesF at hk
  simp only [Bool.and_eq_true, Bool.or_eq_true, beq_iff_eq, decide_eq_true_eq] at hk
  rw [if_neg (by omega), if_pos (.inl (by omega))]
 ·rw [if_neg h0] at hs
  have hn : (if i = 0 then none else some (l.getD (i - 1) evz)).filter servesF = none := by
   by_cases hz : i = 0
   ·rw [if_pos hz]; rfl
   ·rw [if_neg hz]
    have : servesF (l.getD (i - 1) evz) = false := by
     cases hs : servesF (l.getD (i - 1) evz)
     ·rfl
     ·exact absurd ⟨by omega, hs⟩ h0
    simp only [Option.filter, this]
    rfl
  rw [hn]
  dsimp only
  by_cases h7 : x.kind = 7
  ·have a1 : ¬ (x.kind ≠ 7 ∨ (0 < i ∧ servesF (l.getD (i - 1) evz) = true)) := fun hh => hh.elim (fun h => h h7) h0
   rw [if_neg (show ¬ x.kind = 5 by omega), if_neg a1, if_pos h7, hcl, hc]
  ·rw [if_neg h7]
   dsimp only
   by_cases h5 : x.kind = 5
   ·rw [if_pos h5, h5]
    rw [Bool.eq_iff_iff]
    simp only [Bool.and_eq_true, beq_iff_eq, true_and]
    exact ⟨fun hh => ⟨hh.1.symm, hh.2.symm⟩, fun hh => ⟨hh.1.symm, hh.2.symm⟩⟩
   ·rw [if_neg h5, if_pos (.inl h7), beq_eq_false_iff_ne.2 h5]
    simp
theorem made_keeps2 (r : RdrM) (e : Ev) : (madeF r e).2.crew = r.crew ∧ (madeF r e).2.over = r.over := by
 unfold madeF
 split
 ·split <;> exact ⟨rfl, rfl⟩
 ·exact ⟨rfl, rfl⟩
theorem served_keeps2 (r : RdrM) (p : Option Ev) (e : Ev) : (servedF r p e).2.crew = r.crew ∧ (servedF r p e).2.over = r.over := by
 unfold servedF
 split
 ·exact ⟨rfl, rfl⟩
 ·split <;> exact ⟨rfl, rfl⟩
theorem step_rules (h : InvG l i r) (hi : i < l.length) : (stepG r (prevF l i) (nextF l i) (l.getD i evz)).1 = brR l i := by
 unfold stepG brR
 rw [ent_ref]
 by_cases h1 : ref12 (l.getD i evz) = 0
 ·have hr := Rt.of h1
  have a0 : ¬ ref12 (l.getD i evz) ≠ 0 := fun hh => hh h1
  rw [if_neg a0, if_neg a0, crew_same h hr, made_same h hr]
  have ck := crewed_keeps r (l.getD i evz)
  have mk := made_keeps (crewedF r (l.getD i evz)).2 (l.getD i evz)
  have sk := served_keeps (madeF (crewedF r (l.getD i evz)).2 (l.getD i evz)).2 (prevF l i) (l.getD i evz)
  rw [served_same h hi (mk.1.trans ck.2)]
  by_cases h2 : crewR l i = false
  ·rw [if_pos h2, if_pos h2]
  ·rw [if_neg h2, if_neg h2]
   by_cases h3 : madeR l i = false
   ·rw [if_pos h3, if_pos h3]
   ·rw [if_neg h3, if_neg h3]
    have h3' : madeR l i = true := by simpa using h3
    rw [ordered_same h hi hr (fun hk => sk.trans ((mk.2 hk).trans ck.1)) h3', closed_same h hr (fun hk => sk.trans ((mk.2 hk).trans ck.1)) h3']
    by_cases h4 : servedR l i = false
    ·rw [if_pos h4, if_pos h4]
    ·rw [if_neg h4, if_neg h4]
     by_cases h5 : orderedR l i = false
     ·rw [if_pos h5, if_pos h5]
     ·rw [if_neg h5, if_neg h5]
      by_cases h6 : closedR l i = false
      ·rw [if_pos h6, if_pos h6]
      ·rw [if_neg h6, if_neg h6]
 ·rw [if_pos h1, if_pos h1]
theorem InvG.step (h : InvG l i r) (hi : i < l.length) (hb : brR l i = 0) : InvG l (i + 1) (stepG r (prevF l i) (nextF l i) (l.getD i evz)).2 := by
 have hs := step_rules h hi
 rw [hb] at hs
 unfold brR at hb
 have h1 : ref12 (l.getD i evz) = 0 := by
  rcases Decidable.em (ref12 (l.getD i evz) = 0) with h1 | h1
  ·exact h1
  ·rw [if_pos h1] at hb
   cases hb
 have a0 : ¬ ref12 (l.getD i evz) ≠ 0 := fun hh => hh h1
 rw [if_neg a0] at hb
 have hr := Rt.of h1
 have h2 : crewR l i = true := by
  cases hx : crewR l i
  ·rw [if_pos hx] at hb
   cases hb
  ·rfl
 rw [if_neg (by simp [h2])] at hb
 have h3 : madeR l i = true := by
  cases hx : madeR l i
  ·rw [if_pos hx] at hb
   cases hb
  ·rfl
 rw [if_neg (by simp [h3])] at hb
 have h4 : servedR l i = true := by
  cases hx : servedR l i
  ·rw [if_pos hx] at hb
   cases hb
  ·rfl
 have ck := crewed_keeps r (l.getD i evz)
 have mk := made_keeps (crewedF r (l.getD i evz)).2 (l.getD i evz)
 have mk2 := made_keeps2 (crewedF r (l.getD i evz)).2 (l.getD i evz)
 have sk2 := served_keeps2 (madeF (crewedF r (l.getD i evz)).2 (l.getD i evz)).2 (prevF l i) (l.getD i evz)
 have hC := crew_step h hr (by rw [crew_same h hr]; exact h2)
 have hD := chan_step (p := prevF l i) h hi hr ck.1 h3
 have hE := closer_step h hi (mk.1.trans ck.2) h4
 have hfin : (stepG r (prevF l i) (nextF l i) (l.getD i evz)).2 = (closedF (orderedF (servedF (madeF (crewedF r (l.getD i evz)).2 (l.getD i evz)).2 (prevF l i) (l.getD i evz)).2 (nextF l i) (l.getD i evz)).2 (l.getD i evz)).2 := by
  unfold stepG at hs ⊢
  split
  ·rename_i hx; rw [if_pos hx] at hs; cases hs
  rename_i hx; rw [if_neg hx] at hs
  split
  ·rename_i hx; rw [if_pos hx] at hs; cases hs
  rename_i hx; rw [if_neg hx] at hs
  split
  ·rename_i hx; rw [if_pos hx] at hs; cases hs
  rename_i hx; rw [if_neg hx] at hs
  split
  ·rename_i hx; rw [if_pos hx] at hs; cases hs
  rename_i hx; rw [if_neg hx] at hs
  split
  ·rename_i hx; rw [if_pos hx] at hs; cases hs
  rename_i hx; rw [if_neg hx] at hs
  split <;> rfl
 rw [hfin]
 obtain ⟨r3, hr3⟩ : ∃ r3, (servedF (madeF (crewedF r (l.getD i evz)).2 (l.getD i evz)).2 (prevF l i) (l.getD i evz)).2 = r3 := ⟨_, rfl⟩
 rw [hr3] at sk2 hD hE ⊢
 have ok := ordered_keeps r3 (nextF l i) (l.getD i evz)
 have cl := closed_keeps (orderedF r3 (nextF l i) (l.getD i evz)).2 (l.getD i evz)
 have ecrew := cl.2.1.trans (ok.2.1.trans (sk2.1.trans mk2.1))
 have eover := cl.2.2.1.trans (ok.2.2.1.trans (sk2.2.trans mk2.2))
 have ecl := cl.1.trans ok.1
 refine ⟨fun g => ?_, fun g => ?_, fun ho g hg => ?_, fun g hg => ?_, hD.makes, hD.ins, hD.insNew, fun e => ?_⟩
 ·rw [eover]; exact hC.over g
 ·rw [ecrew]; exact hC.there g
 ·rw [ecrew] at hg ⊢
  rw [eover] at ho
  exact hC.crew ho g hg
 ·rw [ecrew] at hg
  exact hC.new g hg
 ·rw [ecl]; exact hE e
theorem inv_all (l : List Ev) : ∀ i, i ≤ l.length → (∀ j, j < i → brR l j = 0) → InvG l i (stG l i) := by
 intro i
 induction i with
 | zero => intro _ _; exact InvG.start l
 | succ n ih =>
  intro hn hb
  exact (ih (by omega) (fun j hj => hb j (by omega))).step (by omega) (hb n (by omega))
theorem br_same (l : List Ev) (i : Nat) (hi : i < l.length) (hb : ∀ j, j < i → brR l j = 0) : brG l i = brR l i :=
 step_rules (inv_all l i (by omega) hb) hi
end
def scanB (br : Nat → Int) : Nat → Nat → Option (Int × Nat)
 | 0, _ => none
 | k + 1, i => if br i ≠ 0 then some (br i, i) else scanB br k (i + 1)
def endB (l : List Ev) (o : Option (Int × Nat)) : Int × Nat :=
 match o with
 | some r => r
 | none => if 0 < l.length ∧ servesF (l.getD (l.length - 1) evz) = true then (4, l.length) else (0, 0)
def checkG (l : List Ev) : Int × Nat := endB l (scanB (brG l) l.length 0)
def checkR (l : List Ev) : Int × Nat := endB l (scanB (brR l) l.length 0)
theorem scan_same (l : List Ev) : ∀ k i, i + k = l.length → (∀ j, j < i → brR l j = 0) → scanB (brG l) k i = scanB (brR l) k i := by
 intro k
 induction k with
 | zero => intro _ _ _; rfl
 | succ k ih =>
  intro i hi hb
  unfold scanB
  rw [br_same l i (by omega) hb]
  by_cases h0 : brR l i ≠ 0
  ·rw [if_pos h0, if_pos h0]
  ·rw [if_neg h0, if_neg h0]
   refine ih (i + 1) (by omega) (fun j hj => ?_)
   by_cases hj' : j = i
   ·subst hj'
    exact Decidable.not_not.1 h0
   ·exact hb j (by omega)
theorem check_same (l : List Ev) : checkG l = checkR l := by
 unfold checkG checkR
 rw [scan_same l l.length 0 (by omega) (fun j hj => absurd hj (Nat.not_lt_zero j))]
theorem scan_at {br : Nat → Int} {n : Nat} : ∀ k, k ≤ n → (∀ j, j < k → br j = 0) → scanB br n 0 = scanB br (n - k) k := by
 intro k
 induction k with
 | zero => intro _ _; rfl
 | succ k ih =>
  intro hk hb
  rw [ih (by omega) (fun j hj => hb j (by omega)), show n - k = (n - (k + 1)) + 1 by omega]
  show (if br k ≠ 0 then some (br k, k) else scanB br (n - (k + 1)) (k + 1)) = _
  rw [if_neg (by rw [hb k (by omega)]; simp)]
theorem scan_hit {br : Nat → Int} {n k : Nat} (hk : k < n) (hb : ∀ j, j < k → br j = 0) (h : br k ≠ 0) : scanB br n 0 = some (br k, k) := by
 rw [scan_at k (by omega) hb, show n - k = (n - k - 1) + 1 by omega]
 show (if br k ≠ 0 then some (br k, k) else scanB br (n - k - 1) (k + 1)) = _
 rw [if_pos h]
theorem scan_none {br : Nat → Int} {n : Nat} (hb : ∀ j, j < n → br j = 0) : scanB br n 0 = none := by
 rw [scan_at n (Nat.le_refl _) hb, Nat.sub_self]
 rfl
structure Edg where
 src : Nat
 dst : Nat
 rule : Nat
deriving DecidableEq
structure ChE where
 size : Nat
 ins : List (Nat × Nat)
 outs : List (Nat × Nat)
 closed : Nat
def chz : ChE := ⟨0, [], [], 0⟩
structure EdS where
 edges : List Edg
 last : Int → Option Nat
 rule : Int → Option Nat
 parks : Int → Option Nat
 chans : List ChE
def updN (f : Int → Option Nat) (k : Int) (v : Nat) : Int → Option Nat := fun x => if x = k then some v else f x
def putL (es : List Edg) (f t r : Nat) : List Edg := if f < t then es ++ [⟨f, t, r⟩] else es
def fromE (i : Nat) (e : Ev) (s : EdS) : EdS :=
 match s.last e.g with
 | none => s
 | some f => { s with edges := putL s.edges f i ((s.rule e.g).getD 0) }
def ownE (i : Nat) (e : Ev) (s : EdS) : EdS := { s with last := updN s.last e.g i, rule := updN s.rule e.g 1 }
def servE (l : List Ev) (parks : Int → Option Nat) (i : Nat) (e : Ev) : Option (Nat × Nat) := if e.mate < 0 ∨ l.length ≤ i + 1 then none else some ((parks e.mate).getD 0, i + 1)
def movC (c : ChE) (e : Ev) (i : Nat) (o : Option (Nat × Nat)) : ChE :=
 if e.kind = 3 then { c with ins := c.ins ++ [(i, i)], outs := c.outs ++ o.toList }
 else if e.ok = true then { c with outs := c.outs ++ [(i, i)], ins := c.ins ++ o.toList }
 else c
def chAt (cs : List ChE) (c : Int) : ChE := cs.getD c.toNat chz
def movE (l : List Ev) (i : Nat) (e : Ev) (s : EdS) : EdS := { s with chans := s.chans.set e.chan.toNat (movC (chAt s.chans e.chan) e i (servE l s.parks i e)) }
def kindE (l : List Ev) (i : Nat) (e : Ev) (s : EdS) : EdS :=
 if e.kind = 1 then { s with last := updN s.last e.mate i, rule := updN s.rule e.mate 2 }
 else if e.kind = 2 then { s with chans := s.chans ++ [⟨e.value.toNat, [], [], 0⟩] }
 else if e.kind = 6 then { s with parks := updN s.parks e.g i }
 else if e.kind = 5 then { s with chans := s.chans.set e.chan.toNat { chAt s.chans e.chan with closed := i } }
 else if e.kind = 3 then movE l i e s
 else if e.kind = 4 ∨ e.kind = 7 then
  if e.ok = false then { s with edges := putL s.edges (chAt s.chans e.chan).closed i 4 }
  else if e.kind = 4 then movE l i e s else s
 else s
def nextE (l : List Ev) (i : Nat) (s : EdS) : EdS := if (l.getD i evz).kind = 13 then s else kindE l i (l.getD i evz) (ownE i (l.getD i evz) (fromE i (l.getD i evz) s))
def edz : EdS := ⟨[], fun _ => none, fun _ => none, fun _ => none, []⟩
def readE (l : List Ev) : Nat → EdS
 | 0 => edz
 | i + 1 => nextE l i (readE l i)
def crossK (c : ChE) (es : List Edg) (k : Nat) : List Edg :=
 match c.outs[k]? with
 | none => es
 | some o =>
  let es1 := match c.ins[k]? with
   | none => es
   | some p => putL es p.1 o.2 3
  match c.ins[k + c.size]? with
  | none => es1
  | some p => putL es1 o.1 p.2 (if c.size = 0 then 5 else 6)
def crossU (c : ChE) (es : List Edg) : Nat → List Edg
 | 0 => es
 | k + 1 => crossK c (crossU c es k) k
def crossA (cs : List ChE) (es : List Edg) : Nat → List Edg
 | 0 => es
 | j + 1 => crossU (cs.getD j chz) (crossA cs es j) (cs.getD j chz).outs.length
def rawE (l : List Ev) : List Edg := crossA (readE l l.length).chans (readE l l.length).edges (readE l l.length).chans.length
def ltE (a b : Edg) : Bool := decide (a.dst < b.dst ∨ a.dst = b.dst ∧ (a.src < b.src ∨ a.src = b.src ∧ a.rule < b.rule))
def insE (x : Edg) : List Edg → List Edg
 | [] => [x]
 | y :: L => if ltE y x = true then y :: insE x L else x :: y :: L
def sortE : List Edg → List Edg
 | [] => []
 | x :: L => insE x (sortE L)
theorem insE_perm (x : Edg) : ∀ L, (insE x L).Perm (x :: L)
 | [] => .refl _
 | y :: L => by
  unfold insE
  split
  ·exact ((insE_perm x L).cons y).trans (.swap x y L)
  ·exact .refl _
theorem sortE_perm : ∀ L, (sortE L).Perm L
 | [] => .refl _
 | x :: L => (insE_perm x (sortE L)).trans ((sortE_perm L).cons x)
theorem ltE_trans {a b c : Edg} (h : ltE a b = true) (h2 : ltE b c = true) : ltE a c = true := by
 unfold ltE at *
 simp only [decide_eq_true_eq] at *
 omega
theorem ltE_total {a b : Edg} (h : ltE a b = false) : ltE b a = true ∨ a = b := by
 obtain ⟨a1, a2, a3⟩ := a
 obtain ⟨b1, b2, b3⟩ := b
 unfold ltE at *
 simp only [decide_eq_true_eq, decide_eq_false_iff_not, Edg.mk.injEq] at *
 omega
theorem ltE_irrefl (a : Edg) : ltE a a = false := by
 unfold ltE
 simp
def SrtE (L : List Edg) : Prop := L.Pairwise (fun a b => ltE b a = false)
theorem insE_sorted (x : Edg) : ∀ {L}, SrtE L → SrtE (insE x L)
 | [], _ => List.pairwise_singleton _ _
 | y :: L, h => by
  unfold SrtE at h
  rw [List.pairwise_cons] at h
  unfold insE
  split
  ·rename_i hy
   refine List.pairwise_cons.2 ⟨fun z hz => ?_, insE_sorted x h.2⟩
   rcases List.mem_cons.1 ((insE_perm x L).mem_iff.1 hz) with rfl | hz
   ·cases hc : ltE z y with
    | false => rfl
    | true => rw [← ltE_irrefl z]; exact (ltE_trans hc hy).symm
   ·exact h.1 z hz
  ·rename_i hy
   refine List.pairwise_cons.2 ⟨fun z hz => ?_, List.pairwise_cons.2 h⟩
   rcases List.mem_cons.1 hz with rfl | hz
   ·simpa using hy
   ·cases hc : ltE z x with
    | false => rfl
    | true =>
     rcases ltE_total (by simpa using hy : ltE y x = false) with h1 | rfl
     ·have := ltE_trans hc h1
      rw [h.1 z hz] at this
      cases this
     ·rw [h.1 z hz] at hc
      cases hc
theorem sortE_sorted : ∀ L, SrtE (sortE L)
 | [] => List.Pairwise.nil
 | x :: L => insE_sorted x (sortE_sorted L)
theorem srt_eq : ∀ {L M : List Edg}, SrtE L → SrtE M → L.Perm M → L = M
 | [], M, _, _, hp => (List.Perm.nil_eq hp)
 | x :: L, [], _, _, hp => absurd hp.symm (by intro h; have := h.length_eq; simp at this)
 | x :: L, y :: M, h1, h2, hp => by
  unfold SrtE at h1 h2
  rw [List.pairwise_cons] at h1 h2
  have e : x = y := by
   have hx : x ∈ y :: M := hp.mem_iff.1 List.mem_cons_self
   have hy : y ∈ x :: L := hp.mem_iff.2 List.mem_cons_self
   rcases List.mem_cons.1 hx with h | hx
   ·exact h
   ·rcases List.mem_cons.1 hy with h | hy
    ·exact h.symm
    ·rcases ltE_total (h1.1 y hy) with h | h
     ·rw [h2.1 x hx] at h
      cases h
     ·exact h.symm
  subst e
  rw [srt_eq h1.2 h2.2 (List.Perm.cons_inv hp)]
def allE (l : List Ev) : List Edg := sortE (rawE l)
def begK (l : List Ev) (g : Int) (d : Nat) : Nat → Nat
 | 0 => d
 | k + 1 => if (l.getD k evz).kind = 6 ∧ (l.getD k evz).g = g then k else begK l g d k
def begF (l : List Ev) (i : Nat) : Nat := if (l.getD i evz).kind ≠ 7 then i else begK l (l.getD i evz).g i i
def sizeF (l : List Ev) (c : Int) : Nat := match l.find? (fun e => e.kind == 2 && e.chan == c) with
 | none => 0
 | some e => e.value.toNat
def doneO (l : List Ev) (c : Int) (send : Bool) (i : Nat) : List Nat :=
 if (l.getD i evz).chan ≠ c ∨ ((l.getD i evz).kind ≠ 3 ∧ ((l.getD i evz).kind ≠ 4 ∨ (l.getD i evz).ok = false)) then []
 else if (l.getD i evz).send = send then [i]
 else if 0 ≤ (l.getD i evz).mate ∧ i + 1 < l.length then [i + 1] else []
def doneU (l : List Ev) (c : Int) (send : Bool) : Nat → List Nat
 | 0 => []
 | i + 1 => doneU l c send i ++ doneO l c send i
def doneF (l : List Ev) (c : Int) (send : Bool) : List Nat := doneU l c send l.length
def btwF (l : List Ev) (f t : Nat) (g : Int) : Bool := (List.range t).any fun k => decide (f < k) && (l.getD k evz).g == g && (l.getD k evz).kind != 13
def crsF (l : List Ev) (f t r : Nat) : Bool :=
 let c := (l.getD t evz).chan
 if c < 0 then false
 else (List.range (doneF l c false).length).any fun k =>
  (r == 3 && decide (k < (doneF l c true).length) && begF l ((doneF l c true).getD k 0) == f && (doneF l c false).getD k 0 == t) ||
  (decide (k + sizeF l c < (doneF l c true).length) && begF l ((doneF l c false).getD k 0) == f && (doneF l c true).getD (k + sizeF l c) 0 == t && (r == 5 && sizeF l c == 0 || r == 6 && decide (0 < sizeF l c)))
def isF (l : List Ev) (f t r : Nat) : Bool :=
 if (l.getD f evz).kind = 13 ∨ (l.getD t evz).kind = 13 then false
 else if r = 1 then (l.getD f evz).g == (l.getD t evz).g && !btwF l f t (l.getD t evz).g
 else if r = 2 then ((l.getD f evz).kind == 1 && (l.getD f evz).mate == (l.getD t evz).g) && !btwF l f t (l.getD t evz).g
 else if r = 4 then (l.getD f evz).kind == 5 && ((l.getD t evz).kind == 4 || (l.getD t evz).kind == 7) && !(l.getD t evz).ok && (l.getD t evz).chan == (l.getD f evz).chan
 else crsF l f t r
def refE (l : List Ev) : List Edg :=
 (List.range l.length).flatMap fun t => (List.range t).flatMap fun f => [1, 2, 3, 4, 5, 6].filterMap fun r => if isF l f t r = true then some ⟨f, t, r⟩ else none
def rightF (l : List Ev) : Bool := (checkG l).1 == 0 || ((checkG l).1 == 4 && (checkG l).2 == l.length)
end Go.Proofs.YtoamjodmidbmbaaGreatDoor
namespace Go.Proofs.YtoamjodmidbmbaaGreatDoor
open Go.RowKit
section
variable {P : Program} {w : World} {L : List Piece} {σ : Fr}
theorem run_cut {t lo n c te sz : Nat} {op : Oper} (x l : Operand) (hop : op.op = .slice t x (some l) none none) (ht : P.underlying t = some (.slice te)) (hsz : (P.info? te).map (·.size) = some sz) {a : Option Addr} (hn : lo ≤ n) (hc : n ≤ c)
  (hx : ev σ x = .slice a n c) (hl : ev σ l = .int .i64 (lo : Int)) (w : World) : (execOp (ev σ) op).run P w = .ok (.value (.slice (if c = lo then a else a.map (·.add (lo * sz))) (n - lo) (c - lo))) w := by
 obtain ⟨i, hi, hs⟩ := Option.map_eq_some_iff.1 hsz
 have hle : (lo : Int) ≤ (n : Int) := by omega
 have h1 : ¬ (n < lo) := by omega
 have h2 : ¬ ((lo : Int) < 0) := by omega
 by_cases hc1 : c = lo
 ·subst hc1
  have hnc : n = c := by omega
  subst hnc
  simp [execOp, hop, hx, hl, Instr.sliceAt, Instr.slice, run_underlying ht, Instr.sliceBounds, Instr.sliceBound, asIntOf, sizeOf, typeInfo, hi, Result.andThen]
 ·simp [execOp, hop, hx, hl, Instr.sliceAt, Instr.slice, run_underlying ht, Instr.sliceBounds, Instr.sliceBound, asIntOf, hle, h1, hn, sizeOf, typeInfo, hi, hs, hc1, Result.andThen]
end
end Go.Proofs.YtoamjodmidbmbaaGreatDoor
namespace Go.Proofs.YtoamjodmidbmbaaGreatDoor
open Go.RowKit Go.ChangeMaps
open Go.Maps (Keyed)
open Go.ChangeMaps (heap_setBlock_same heap_setBlock_other)
section
variable {w : World} {L F : List Piece} {σ : Fr} {op : Oper} {kt b n : Nat} {f : Int → Option Value}
theorem MnC.lookOk {K : Value → Prop} (i : Nat) (hi : L[i]? = some (MapP kt b n f)) (m x : Operand) (t e : TypeId) (hop : op.op = .lookup t m x true) (hk : Tryz.prog.underlying kt = some (.int .i64)) (ht : Tryz.prog.underlying t = some (.map kt e)) {z : Value} (hz : ∀ w, (zeroValue e).run Tryz.prog w = .ok z w)
  (c : Int) (hc : (Lit.int .i64 c).wf = true) (hm : ev σ m = .map (some b)) (hx : ev σ x = .int .i64 c) (V : Value) (hV : (f c).getD z = V) (B : Bool) (hB : (f c).isSome = B) (k : K (.tuple #[V, .bool B])) : MnC Tryz.prog (fun w => SL w L) σ op K := by
 subst hV
 subst hB
 refine ⟨⟨_, fun w H => ?_, k⟩⟩
 have hrun := map_look_ok (SL.one H i hi) hk ht (hz w) hc
 simp [execOp, hop, hm, hx, hrun, Result.andThen]
def PendP (kt b n : Nat) (f : Int → Option Value) (c : Int) (st : Nat) : Piece where
 on S w := S b ∧ ∃ es1 clock1, w.heap[b]? = some (.map es1 clock1) ∧ ∀ val : Value, ∃ es' clock',
  (∀ (t : TypeId) (w2 : World), w2.heap[b]? = some (.map es1 clock1) → (Instr.entryStore t (.map (some b)) (.int .i64 (st : Int)) val).run Tryz.prog w2 = .ok () (setBlock w2 b (.map es' clock'))) ∧
  (∀ (w2 : World) (S2 : Nat → Prop), w2.heap[b]? = some (.map es' clock') → S2 b → (MapP kt b (if (f c).isSome then n else n + 1) (upd f c (some val))).on S2 w2)
 move := by
  rintro w w' S ⟨h1, es1, c1, hb, h2⟩ s
  exact ⟨h1, es1, c1, (s.block _ h1).trans hb, h2⟩
 mono h k := ⟨k _ h.1, h.2⟩
theorem put_on {t e : TypeId} {D : DataW Value} (hown : w.ownsMap Tryz.prog kt heldR b n D) (hD : MapIs D n f) (hn : n ≤ 3000000) (hk : Tryz.prog.underlying kt = some (.int .i64)) (ht : Tryz.prog.underlying t = some (.map kt e)) {c : Int} (hc : (Lit.int .i64 c).wf = true) {val : Value} {es es' : Array MapEntry} {clock clock' : Nat}
  (hb : w.heap[b]? = some (.map es clock)) (hrun : (Instr.mapUpdate t (.map (some b)) (.int .i64 c) val).run Tryz.prog w = .ok () (setBlock w b (.map es' clock'))) :
  ∀ (w2 : World) (S2 : Nat → Prop), w2.heap[b]? = some (.map es' clock') → S2 b → (MapP kt b (if (f c).isSome then n else n + 1) (upd f c (some val))).on S2 w2 := by
 obtain ⟨w', hr, h1, _⟩ := hown.update (Maps.int_keyed hk) ht (by unfold maxLen; omega) (Maps.keyOf_int_mk hk hc) (d := .held val) (ps := []) (val := val) rfl
 rw [hrun] at hr
 obtain rfl : setBlock w b (.map es' clock') = w' := by injection hr
 obtain ⟨es2, clock2, hb2, r1, r2, r3⟩ := h1
 rw [heap_setBlock_same hb] at hb2
 injection hb2 with hb2
 injection hb2 with e1 e2
 subst e1
 subst e2
 exact fun w2 S2 hw2 hS2 => ⟨hS2, _, n + 1, ⟨_, _, hw2, r1, r2, r3⟩, hD.put c val, by omega⟩
theorem Mn.entry {K : Value → World → Prop} (H : SL w (MapP kt b n f :: F)) (hn : n ≤ 3000000) (m x : Operand) (t e : TypeId) (hop : op.op = .mapEntry t m x) (hk : Tryz.prog.underlying kt = some (.int .i64)) (ht : Tryz.prog.underlying t = some (.map kt e)) {z : Value} (hz : ∀ w, (zeroValue e).run Tryz.prog w = .ok z w)
  (c : Int) (hc : (Lit.int .i64 c).wf = true) (hm : ev σ m = .map (some b)) (hx : ev σ x = .int .i64 c)
  (k : ∀ (v0 : Value) (st : Nat) (w' : World), SL w' (PendP kt b n f c st :: F) → K (.tuple #[v0, .int .i64 (st : Int)]) w') : Mn Tryz.prog σ op w K := by
 obtain ⟨S, ⟨hS, D, m', hown, hD, hm'⟩, hlt, hcall⟩ := H.call
 have hown' : w.ownsMap Tryz.prog kt heldR b n D := by
  obtain ⟨es, clock, hb, r, hs, rfl⟩ := hown
  refine ⟨es, clock, hb, r, ?_, rfl⟩
  have := hD.size_
  rw [Maps.size_eq, length_read] at this
  omega
 obtain ⟨es, clock, hb, F0, hs, hDe⟩ := hown
 have hkey := Maps.keyOf_int_mk hk hc
 have KD := Maps.int_keyed hk
 obtain ⟨s1, s2, _⟩ := F0.stamped
 have hfr : ∀ o : Obj, Frm S w (setBlock w b o) := fun o => (Frm.refl S w).grown (show w.grownBy (setBlock w b o) (some b) from ⟨rfl, rfl, rfl, by simp [setBlock], fun i _ hi => heap_setBlock_other hb _ (fun e => hi (by rw [e]))⟩) (fun k hk _ => by injection hk with hk; rw [← hk]; exact hS)
 rcases KD.find w hkey es.toList F0.keys with ⟨h1, h2⟩ | ⟨j, e0, h1, h2, h3⟩
 ·refine Mn.by (v := .tuple #[z, .int .i64 (clock : Int)]) (w' := setBlock w b (.map (es.push ⟨.int .i64 c, z, clock⟩) (clock + 1))) ?_ (k z clock _ (hcall _ [_] (hfr _) ⟨_, fun _ h => h, ⟨.inl hS, _, _, heap_setBlock_same hb _, fun val => ⟨es.push ⟨.int .i64 c, val, clock⟩, clock + 1, fun t2 w2 hw2 => ?_, put_on hown' hD hn hk ht hc hb ?_⟩⟩, trivial⟩))
  ·simp [execOp, hop, hm, hx, Instr.mapEntry, run_underlying ht, MapKept.run_getObj_map hb, KD.check w false hkey, h1, hz, MapKept.run_setObj_map _ hb, Result.andThen, setBlock, goInt]
  ·have hidx : (es.push ⟨.int .i64 c, z, clock⟩).findIdx? (fun e => ((e.born : Nat) : Int) == ((clock : Nat) : Int)) = some es.size := by
    rw [WideElems.findIdx_arr]
    refine WideElems.findIdx_born (l := (es.push ⟨.int .i64 c, z, clock⟩).toList) (j := es.size) (e0 := ⟨.int .i64 c, z, clock⟩) ?_ (by simp)
    simp only [Array.toList_push, List.map_append, List.map_cons, List.map_nil]
    refine List.nodup_append.2 ⟨s2, by simp, fun a ha d hd e1 => ?_⟩
    simp only [List.mem_singleton] at hd
    obtain ⟨y, hy, rfl⟩ := List.mem_map.1 ha
    have := s1 y hy
    omega
   have hmod : (es.push ⟨.int .i64 c, z, clock⟩).modify es.size (fun e => { e with val := val }) = es.push ⟨.int .i64 c, val, clock⟩ := by
    apply Array.ext'
    rw [Array.toList_modify, Array.toList_push, Array.toList_push, ← Array.length_toList, WideElems.modify_last]
   simp [Instr.entryStore, MapKept.run_getObj_map hw2, asInt, asIntOf, goInt, hidx, hmod, MapKept.run_setObj_map _ hw2, Result.andThen, setBlock]
  ·simp [Instr.mapUpdate, run_underlying ht, MapKept.run_getObj_map hb, KD.check w false hkey, h1, MapKept.run_setObj_map _ hb, Result.andThen, setBlock]
 ·have hj : es[j]? = some e0 := by simpa using h2
  have hsame : es.modify j (fun e => { e with key := .int .i64 c }) = es := by
   apply Array.ext'
   rw [Array.toList_modify, modify_eq_set _ _ _ _ h2]
   have : ({ e0 with key := .int .i64 c } : MapEntry) = e0 := by rw [← h3]
   rw [this]
   exact WideElems.set_self _ _ _ h2
  refine Mn.by (v := .tuple #[e0.val, .int .i64 (e0.born : Int)]) (w' := setBlock w b (.map es clock)) ?_ (k e0.val e0.born _ (hcall _ [_] (hfr _) ⟨_, fun _ h => h, ⟨.inl hS, _, _, heap_setBlock_same hb _, fun val => ⟨es.modify j (fun e' => { e' with key := .int .i64 c, val := val }), clock, fun t2 w2 hw2 => ?_, put_on hown' hD hn hk ht hc hb ?_⟩⟩, trivial⟩))
  ·simp [execOp, hop, hm, hx, Instr.mapEntry, run_underlying ht, MapKept.run_getObj_map hb, KD.check w false hkey, h1, hj, h3, KD.stays w hkey, hsame, MapKept.run_setObj_map _ hb, Result.andThen, setBlock, goInt]
  ·have hidx : es.findIdx? (fun e => ((e.born : Nat) : Int) == ((e0.born : Nat) : Int)) = some j := by
    rw [WideElems.findIdx_arr]
    exact WideElems.findIdx_born s2 h2
   have hmod : es.modify j (fun e => { e with val := val }) = es.modify j (fun e' => { e' with key := .int .i64 c, val := val }) := by
    apply Array.ext'
    rw [Array.toList_modify, Array.toList_modify, modify_eq_set _ _ _ _ h2, modify_eq_set _ _ _ _ h2, ← h3]
   simp [Instr.entryStore, MapKept.run_getObj_map hw2, asInt, asIntOf, goInt, hidx, hmod, MapKept.run_setObj_map _ hw2, Result.andThen, setBlock]
  ·simp [Instr.mapUpdate, run_underlying ht, MapKept.run_getObj_map hb, KD.check w false hkey, h1, hj, h3, KD.stays w hkey, MapKept.run_setObj_map _ hb, Result.andThen, setBlock]
theorem Mn.estore {K : Value → World → Prop} {c : Int} {st : Nat} (H : SL w (PendP kt b n f c st :: F)) (m s v : Operand) (t : TypeId) (hop : op.op = .entryStore t m s v) (val : Value) (hm : ev σ m = .map (some b)) (hs : ev σ s = .int .i64 (st : Int)) (hv : ev σ v = val)
  (k : ∀ w', SL w' (MapP kt b (if (f c).isSome then n else n + 1) (upd f c (some val)) :: F) → K undef w') : Mn Tryz.prog σ op w K := by
 obtain ⟨S, ⟨hS, es1, clock1, hb, h2⟩, hlt, hcall⟩ := H.call
 obtain ⟨es', clock', h3, h4⟩ := h2 val
 have hrun := h3 t w hb
 have hfr : ∀ o : Obj, Frm S w (setBlock w b o) := fun o => (Frm.refl S w).grown (show w.grownBy (setBlock w b o) (some b) from ⟨rfl, rfl, rfl, by simp [setBlock], fun i _ hi => heap_setBlock_other hb _ (fun e => hi (by rw [e]))⟩) (fun k hk _ => by injection hk with hk; rw [← hk]; exact hS)
 refine ⟨⟨undef, setBlock w b (.map es' clock'), .inr ⟨?_, rfl⟩, k _ (hcall _ [_] (hfr _) ⟨_, fun _ h => h, h4 _ _ (heap_setBlock_same hb _) (.inl hS), trivial⟩)⟩⟩
 simp [execOp, hop, hm, hs, hv, hrun, Result.andThen]
end
section
variable {P : Program} {w : World} {L : List Piece} {σ : Fr}
theorem retCT {fn : Func} {R : Ending → World → Prop} {p u ty b te : Nat} {cs : Array Value} {y : Value} (H : SL w L) (i : Nat) (hi : L[i]? = some (row b cs te)) (hr : fn.results = #[.cell p ty, .tmp u]) (hp : σ p = .pointer (some ⟨b, 0, none⟩)) (hy : σ u = y)
  (hd : (match P.underlying ty with | some (.struct _) => true | some (.array _ _) => true | _ => false) = true) (hs : (P.info? ty).map (·.size) = some cs.size) (h : R (.returned (.tuple #[.agg cs, y])) w) : RetOf P fn R σ w := by
 cases hu : P.underlying ty with
 | none => rw [hu] at hd; cases hd
 | some d =>
  rw [hu] at hd
  have key : ((loadVar ty ⟨b, 0, none⟩).run P w) = .ok (.agg cs) w := by
   cases d <;> first | (cases hd; done) | exact run_loadVar_row w b te ty cs (0, 0) _ (H.at i hi) hu rfl hs
  refine ⟨⟨_, fun a ha => ?_, h⟩⟩
  have h2 := ha p
  have h3 := ha u
  rw [hp] at h2
  rw [hy] at h3
  have hp' : a.tmps[p]?.getD undef = .pointer (some ⟨b, 0, none⟩) := by simpa using h2
  have h3' : a.tmps[u]?.getD undef = y := by simpa using h3
  simp [results, hr, h3', hp', asAddr, key]
end
end Go.Proofs.YtoamjodmidbmbaaGreatDoor
