/- Gauge, plain: the reader's state, the reference's looks back, and that they say the same. -/
import Derived.Test.YtoejhelhgfipkaaDoorEntryP
namespace Go.Proofs.YtoejhelhgfipkaaDoor
set_option linter.unusedVariables false
set_option linter.unusedSimpArgs false

structure ChnM where
  size : Int
  buf : List Int
  closed : Bool

structure RdrM where
  crew : List (Bool × Bool)
  chans : List ChnM
  closer : Ev
  over : Bool

def evz : Ev := ⟨0, 0, 0, 0, 0, 0, false, false⟩

/-! ## the program's -/
def servesF (e : Ev) : Bool := decide (0 ≤ e.mate) && (e.kind == 3 || e.kind == 4)

def crewedF (r : RdrM) (e : Ev) : Bool × RdrM :=
  if r.over = true then (false, r)
  else if e.kind = 13 then (true, r)
  else match r.crew[e.g.toNat]? with
    | none => (false, r)
    | some x =>
      if x.2 = true then (false, r)
      else if e.kind ≠ 12 ∧ x.1 ≠ (e.kind == 7) then (false, r)
      else if e.kind = 1 then
        if e.mate ≠ r.crew.length then (false, { r with crew := r.crew.set e.g.toNat (e.kind == 6, e.kind == 11), over := e.kind == 12 })
        else (true, { r with crew := r.crew.set e.g.toNat (e.kind == 6, e.kind == 11) ++ [(false, false)], over := e.kind == 12 })
      else (true, { r with crew := r.crew.set e.g.toNat (e.kind == 6, e.kind == 11), over := e.kind == 12 })

def chanF (r : RdrM) (c : Int) : Option ChnM := if c < 0 then none else r.chans[c.toNat]?

def madeF (r : RdrM) (e : Ev) : Bool × RdrM :=
  if e.kind = 2 then
    if e.chan ≠ r.chans.length then (false, r) else (true, { r with chans := r.chans ++ [⟨e.value, [], false⟩] })
  else (e.chan == -1 || (chanF r e.chan).isSome, r)

def wantF (s e : Ev) : Ev := ⟨7, s.mate, s.chan, e.case_, if s.send = true then s.value else e.value, s.g, !s.send, true⟩

def servedF (r : RdrM) (prev : Option Ev) (e : Ev) : Bool × RdrM :=
  match prev.filter servesF with
  | some s => (decide (e = wantF s e), r)
  | none =>
    if e.kind = 7 then (r.closer.kind == 5 && e.mate == r.closer.g && e.chan == r.closer.chan && !e.send && !e.ok, r)
    else (true, { r with closer := e })

/-- What a channel holds behind an event, and whether that is right. -/
def takeF (c : ChnM) (next : Option Int) (e : Ev) : Bool × ChnM :=
  let L := if e.send = true then c.buf ++ [e.value] else if 0 ≤ e.mate then (match next with | some v => c.buf ++ [v] | none => c.buf) else c.buf
  let takes := if e.send = true then decide (0 ≤ e.mate) else true
  let missing := !e.send && decide (0 ≤ e.mate) && next.isNone
  match takes, L with
  | true, v :: L => (v == e.value && decide ((L.length : Int) ≤ c.size), { c with buf := L })
  | _, L => ((!takes || missing) && decide ((L.length : Int) ≤ c.size), { c with buf := L })

def orderedF (r : RdrM) (next : Option Int) (e : Ev) : Bool × RdrM :=
  match chanF r e.chan with
  | none => (true, r)
  | some c =>
    if e.kind ≠ 3 ∧ (e.kind ≠ 4 ∨ e.ok = false) then (true, r)
    else ((takeF c next e).1, { r with chans := r.chans.set e.chan.toNat (takeF c next e).2 })

def closedF (r : RdrM) (e : Ev) : Bool × RdrM :=
  match chanF r e.chan with
  | none => (true, r)
  | some c =>
    if e.kind = 5 then (!c.closed, { r with chans := r.chans.set e.chan.toNat { c with closed := true } })
    else if e.kind = 3 ∨ e.kind = 4 ∧ 0 ≤ e.mate then (!c.closed, r)
    else if e.kind = 4 ∧ e.ok = false then (c.closed && c.buf.isEmpty, r)
    else (true, r)

/-- The rule that an event breaks, and the state behind it. -/
def stepG (r : RdrM) (prev : Option Ev) (next : Option Int) (e : Ev) : Int × RdrM :=
  if entF e ≠ 0 then (1, r)
  else if (crewedF r e).1 = false then (2, (crewedF r e).2)
  else if (madeF (crewedF r e).2 e).1 = false then (3, (madeF (crewedF r e).2 e).2)
  else if (servedF (madeF (crewedF r e).2 e).2 prev e).1 = false then (4, (servedF (madeF (crewedF r e).2 e).2 prev e).2)
  else if (orderedF (servedF (madeF (crewedF r e).2 e).2 prev e).2 next e).1 = false then (5, (orderedF (servedF (madeF (crewedF r e).2 e).2 prev e).2 next e).2)
  else if (closedF (orderedF (servedF (madeF (crewedF r e).2 e).2 prev e).2 next e).2 e).1 = false then (6, (closedF (orderedF (servedF (madeF (crewedF r e).2 e).2 prev e).2 next e).2 e).2)
  else (0, (closedF (orderedF (servedF (madeF (crewedF r e).2 e).2 prev e).2 next e).2 e).2)

def prevF (l : List Ev) (i : Nat) : Option Ev := if i = 0 then none else l[i - 1]?
def nextF (l : List Ev) (i : Nat) : Option Int := (l[i + 1]?).map (·.value)

def stG (l : List Ev) : Nat → RdrM
  | 0 => ⟨[(false, false)], [], evz, false⟩
  | n + 1 => (stepG (stG l n) (prevF l n) (nextF l n) (l.getD n evz)).2

def brG (l : List Ev) (i : Nat) : Int := (stepG (stG l i) (prevF l i) (nextF l i) (l.getD i evz)).1

/-! ## the reference's -/
structure GoM where
  there : Nat
  waits : Bool
  exited : Bool
  over : Bool

def goR (l : List Ev) (g : Int) : Nat → GoM
  | 0 => ⟨1, false, false, false⟩
  | n + 1 =>
    let s := goR l g n
    let x := l.getD n evz
    ⟨if x.kind = 1 then s.there + 1 else s.there,
     if x.g ≠ g ∨ x.kind = 13 then s.waits else if x.kind = 7 then false else if x.kind = 6 then true else s.waits,
     if x.g ≠ g ∨ x.kind = 13 then s.exited else (s.exited || x.kind == 11),
     s.over || x.kind == 12⟩

def crewR (l : List Ev) (i : Nat) : Bool :=
  let e := l.getD i evz
  let s := goR l e.g i
  if s.over = true then false
  else if e.kind = 13 then true
  else decide (e.g < s.there) && !s.exited && (e.kind == 12 || s.waits == (e.kind == 7)) && (e.kind != 1 || e.mate == s.there)

def makesR (l : List Ev) : Nat → Nat
  | 0 => 0
  | n + 1 => if (l.getD n evz).kind = 2 then makesR l n + 1 else makesR l n

def madeR (l : List Ev) (i : Nat) : Bool :=
  if (l.getD i evz).kind = 2 then (l.getD i evz).chan == makesR l i else decide ((l.getD i evz).chan < makesR l i)

/-- The look back for a Close. -/
def backR (l : List Ev) (e : Ev) : Nat → Bool
  | 0 => false
  | k + 1 =>
    let x := l.getD k evz
    if x.kind = 5 then x.g == e.mate && x.chan == e.chan
    else if x.kind ≠ 7 ∨ (0 < k ∧ servesF (l.getD (k - 1) evz) = true) then false
    else backR l e k

def servedR (l : List Ev) (i : Nat) : Bool :=
  let e := l.getD i evz
  if 0 < i ∧ servesF (l.getD (i - 1) evz) = true then
    let s := l.getD (i - 1) evz
    e.kind == 7 && e.g == s.mate && e.mate == s.g && e.chan == s.chan && e.send != s.send && e.ok && (!s.send || e.value == s.value)
  else if e.kind ≠ 7 then true
  else if e.ok = true ∨ e.send = true then false
  else backR l e i

structure InsM where
  size : Int
  buf : List Int
  closed : Bool
  right : Bool

def insStep (l : List Ev) (c : Int) (i : Nat) (s : InsM) : InsM :=
  let e := l.getD i evz
  if e.chan ≠ c then s
  else
    let size := if e.kind = 2 then e.value else s.size
    let closed := if e.kind = 5 then true else s.closed
    if e.kind ≠ 3 ∧ (e.kind ≠ 4 ∨ e.ok = false) then ⟨size, s.buf, closed, s.right⟩
    else
      let last := decide (i + 1 = l.length)
      let L := if e.kind = 3 then s.buf ++ [e.value] else if 0 ≤ e.mate ∧ last = false then s.buf ++ [(l.getD (i + 1) evz).value] else s.buf
      if e.kind = 4 ∨ 0 ≤ e.mate then
        match L with
        | v :: L => ⟨size, L, closed, v == e.value && decide ((L.length : Int) ≤ size)⟩
        | [] => ⟨size, [], closed, (decide (0 ≤ e.mate) && last) && decide ((0 : Int) ≤ size)⟩
      else ⟨size, L, closed, true && decide ((L.length : Int) ≤ size)⟩

def insR (l : List Ev) (c : Int) : Nat → InsM
  | 0 => ⟨0, [], false, true⟩
  | n + 1 => insStep l c n (insR l c n)

def orderedR (l : List Ev) (i : Nat) : Bool :=
  let e := l.getD i evz
  if e.kind ≠ 3 ∧ (e.kind ≠ 4 ∨ e.ok = false) then true else (insR l e.chan (i + 1)).right

def closedR (l : List Ev) (i : Nat) : Bool :=
  let e := l.getD i evz
  if e.kind < 3 ∨ 5 < e.kind then true
  else
    let s := insR l e.chan i
    if e.kind = 4 ∧ e.ok = false then s.closed && s.buf.isEmpty
    else if e.kind = 4 ∧ e.mate < 0 then true
    else !s.closed

def brR (l : List Ev) (i : Nat) : Int :=
  if ref12 (l.getD i evz) ≠ 0 then 1
  else if crewR l i = false then 2
  else if madeR l i = false then 3
  else if servedR l i = false then 4
  else if orderedR l i = false then 5
  else if closedR l i = false then 6
  else 0

end Go.Proofs.YtoejhelhgfipkaaDoor
