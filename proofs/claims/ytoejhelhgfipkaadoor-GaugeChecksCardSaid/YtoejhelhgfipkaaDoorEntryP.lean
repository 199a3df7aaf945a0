/- Events, plain: what entry and its reference say of an event. -/
import Derived.Test.YtoejhelhgfipkaaDoorSep
namespace Go.Proofs.YtoejhelhgfipkaaDoor
set_option linter.unusedVariables false
set_option linter.unusedSimpArgs false

structure Ev where
  kind : Int
  g : Int
  chan : Int
  case_ : Int
  value : Int
  mate : Int
  send : Bool
  ok : Bool
  deriving DecidableEq

def Ev.cells (e : Ev) : List Value := [.int .i64 e.kind, .int .i64 e.g, .int .i64 e.chan, .int .i64 e.case_, .int .i64 e.value, .int .i64 e.mate, .bool e.send, .bool e.ok]
def Ev.agg (e : Ev) : Value := .agg #[.int .i64 e.kind, .int .i64 e.g, .int .i64 e.chan, .int .i64 e.case_, .int .i64 e.value, .int .i64 e.mate, .bool e.send, .bool e.ok]

def inn (a b n : Int) : Bool := decide (a ≤ n) && decide (n ≤ b)

structure Shp where
  c0 : Int
  c1 : Int
  k0 : Int
  k1 : Int
  v0 : Int
  v1 : Int
  m0 : Int
  m1 : Int
  send : Bool
  ok : Bool

def shapeF (k : Int) : Shp :=
  if k = 1 then ⟨-1, -1, -1, -1, 0, 7, 0, 511, false, false⟩
  else if k = 2 then ⟨0, 511, -1, -1, 0, 4, -1, -1, false, false⟩
  else if k = 3 then ⟨0, 511, -1, 3, 0, 99, -1, 511, true, false⟩
  else if k = 4 then ⟨0, 511, -1, 3, 0, 99, -1, 511, false, true⟩
  else if k = 5 then ⟨0, 511, -1, -1, -1, -1, -1, -1, false, false⟩
  else if k = 6 then ⟨-1, 511, -1, 4, 0, 99, -1, -1, true, false⟩
  else if k = 7 then ⟨0, 511, -1, 3, 0, 99, 0, 511, true, true⟩
  else if k = 9 ∨ k = 10 then ⟨-1, -1, -1, -1, 0, 7, -1, -1, false, false⟩
  else ⟨-1, -1, -1, -1, -1, -1, -1, -1, false, false⟩

def oddF (e : Ev) : Bool :=
  if e.kind = 3 then !e.send
  else if e.kind = 4 then !e.ok && (e.value != 0 || e.mate != -1)
  else if e.kind = 6 then (!e.send && e.value != 0) || (decide (0 ≤ e.case_) && (decide (0 ≤ e.chan) || e.send))
  else if e.kind = 7 then (e.send && !e.ok) || (!e.ok && e.value != 0)
  else false

def entF (e : Ev) : Int :=
  if e.kind < 1 ∨ 13 < e.kind then 1
  else if (((((((((if e.kind = 13 then inn (-1) (-1) e.g else inn 0 511 e.g) && ((shapeF e.kind).send || !e.send)) && ((shapeF e.kind).ok || !e.ok)) && !oddF e) && inn (shapeF e.kind).c0 (shapeF e.kind).c1 e.chan) && inn (shapeF e.kind).k0 (shapeF e.kind).k1 e.case_) && inn (shapeF e.kind).v0 (shapeF e.kind).v1 e.value) && inn (shapeF e.kind).m0 (shapeF e.kind).m1 e.mate)) = true then 0 else 4

def okF (e : Ev) : Bool :=
  if e.kind = 1 then e.chan == -1 && e.case_ == -1 && inn 0 7 e.value && inn 0 511 e.mate && (!e.send && !e.ok)
  else if e.kind = 2 then inn 0 511 e.chan && e.case_ == -1 && inn 0 4 e.value && e.mate == -1 && (!e.send && !e.ok)
  else if e.kind = 3 then inn 0 511 e.chan && inn (-1) 3 e.case_ && inn 0 99 e.value && (e.mate == -1 || inn 0 511 e.mate) && e.send && !e.ok
  else if e.kind = 4 then inn 0 511 e.chan && inn (-1) 3 e.case_ && inn 0 99 e.value && (e.mate == -1 || inn 0 511 e.mate) && !e.send && (e.ok || (e.value == 0 && e.mate == -1))
  else if e.kind = 5 then inn 0 511 e.chan && e.case_ == -1 && e.value == -1 && e.mate == -1 && (!e.send && !e.ok)
  else if e.kind = 6 then ((e.case_ == -1 && (e.chan == -1 || inn 0 511 e.chan) && ((e.send && inn 0 99 e.value) || (!e.send && e.value == 0))) || (inn 0 4 e.case_ && e.chan == -1 && !e.send && e.value == 0)) && e.mate == -1 && !e.ok
  else if e.kind = 7 then inn 0 511 e.chan && inn (-1) 3 e.case_ && inn 0 99 e.value && inn 0 511 e.mate && (e.ok || (!e.send && e.value == 0))
  else if e.kind = 9 ∨ e.kind = 10 then e.chan == -1 && e.case_ == -1 && inn 0 7 e.value && e.mate == -1 && (!e.send && !e.ok)
  else e.chan == -1 && e.case_ == -1 && e.value == -1 && e.mate == -1 && (!e.send && !e.ok)

def ref12 (e : Ev) : Int :=
  if e.kind < 1 ∨ 13 < e.kind then 1
  else if (okF e && (if e.kind = 13 then e.g == -1 else inn 0 511 e.g)) = true then 0 else 4

set_option maxHeartbeats 4000000 in
theorem ent_ref (e : Ev) : entF e = ref12 e := by
  obtain ⟨kind, g, chan, case_, value, mate, send, ok⟩ := e
  unfold entF ref12
  by_cases h : kind < 1 ∨ 13 < kind
  · rw [if_pos h, if_pos h]
  · rw [if_neg h, if_neg h]
    congr 1
    have hk : kind = 1 ∨ kind = 2 ∨ kind = 3 ∨ kind = 4 ∨ kind = 5 ∨ kind = 6 ∨ kind = 7 ∨ kind = 8 ∨ kind = 9 ∨ kind = 10 ∨ kind = 11 ∨ kind = 12 ∨ kind = 13 := by omega
    clear h
    rcases hk with rfl | rfl | rfl | rfl | rfl | rfl | rfl | rfl | rfl | rfl | rfl | rfl | rfl <;> cases send <;> cases ok <;> simp [okF, shapeF, oddF, inn] <;> omega

end Go.Proofs.YtoejhelhgfipkaaDoor
