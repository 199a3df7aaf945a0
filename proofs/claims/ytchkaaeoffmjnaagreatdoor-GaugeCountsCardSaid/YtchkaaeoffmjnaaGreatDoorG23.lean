/- Texts of the proof, several in one file: OpenE. -/
import Derived.Test.YtchkaaeoffmjnaaGreatDoorG17
import Derived.Test.YtchkaaeoffmjnaaGreatDoorG04
namespace Go.Proofs.YtchkaaeoffmjnaaGreatDoor
set_option linter.unusedVariables false
set_option linter.unusedSimpArgs false
open Go.ChangeShapes Go.WideShapes Go.ChangeAt Go.RowKit
def EvWf (e : Ev) : Prop := ∀ z ∈ [e.kind, e.g, e.chan, e.case_, e.value, e.mate], -9223372036854775808 ≤ z ∧ z ≤ 9223372036854775807
def kEvW : Kx Ev := fun _ x c => c = x.cells ∧ EvWf x
theorem wf_range {n : Int} (h : (Lit.int .i64 n).wf = true) : -9223372036854775808 ≤ n ∧ n ≤ 9223372036854775807 := by
 simp only [Lit.wf, Bool.and_eq_true, decide_eq_true_eq] at h
 exact h
theorem opens_evW : Opens 53 kEvW :=
 (opens_struct (fs := [_, _, _, _, _, _, _, _]) (sz := 8) Tryz.underlying53 (by kernel_rfl)
  (parts_cons (sz := 1) (m := 7) rfl (by kernel_rfl) (opens_int Tryz.underlying3) (by decide)
  (parts_cons (sz := 1) (m := 6) rfl (by kernel_rfl) (opens_int Tryz.underlying3) (by decide)
  (parts_cons (sz := 1) (m := 5) rfl (by kernel_rfl) (opens_int Tryz.underlying3) (by decide)
  (parts_cons (sz := 1) (m := 4) rfl (by kernel_rfl) (opens_int Tryz.underlying3) (by decide)
  (parts_cons (sz := 1) (m := 3) rfl (by kernel_rfl) (opens_int Tryz.underlying3) (by decide)
  (parts_cons (sz := 1) (m := 2) rfl (by kernel_rfl) (opens_int Tryz.underlying3) (by decide)
  (parts_cons (sz := 1) (m := 1) rfl (by kernel_rfl) (opens_bool Tryz.underlying4) (by decide)
  (parts_one (sz := 1) rfl (by kernel_rfl) (opens_bool Tryz.underlying4)))))))))).imp
  (fun v => ⟨v.1, v.2.1, v.2.2.1, v.2.2.2.1, v.2.2.2.2.1, v.2.2.2.2.2.1, v.2.2.2.2.2.2.1, v.2.2.2.2.2.2.2⟩) (fun w v cs h => by
   obtain ⟨v1, v2, v3, v4, v5, v6, v7, v8⟩ := v
   obtain ⟨_, _, rfl, ⟨rfl, w1⟩, _, _, rfl, ⟨rfl, w2⟩, _, _, rfl, ⟨rfl, w3⟩, _, _, rfl, ⟨rfl, w4⟩, _, _, rfl, ⟨rfl, w5⟩, _, _, rfl, ⟨rfl, w6⟩, _, _, rfl, rfl, rfl⟩ := h
   refine ⟨rfl, fun z hz => ?_⟩
   simp only [List.mem_cons, List.not_mem_nil, or_false] at hz
   rcases hz with rfl | rfl | rfl | rfl | rfl | rfl
   ·exact wf_range w1
   ·exact wf_range w2
   ·exact wf_range w3
   ·exact wf_range w4
   ·exact wf_range w5
   ·exact wf_range w6)
/-- A slice of events that came in, their numbers in range. -/
structure EvInW (w : World) (v : Value) (l : List Ev) : Prop where
 ev : EvIn w v l
 wf : ∀ e ∈ l, EvWf e
set_option maxRecDepth 100000 in
theorem open_sl_api_EventW {r : Reach} {b0 : Nat} {H : Type} {enc : TypeId × Value → H} {w : World} {base : Nat} {sp : Nat → Bool} {held : Bool} {v : Value} {d : DataW H} {p : List MemPlace}
  (hv : Value.okWide Tryz.prog w r b0 22 v) (h : DataW.Trod enc Tryz.prog w base sp held 22 v d p) : ∃ l, EvInW w v l := by
 obtain ⟨l, hl⟩ := open_arg (opens_slice (sz := 8) (K := kEvW) Tryz.underlying22 (by kernel_rfl) (by decide) opens_evW) h
 have hw : ∀ e ∈ l, EvWf e := by
  obtain ⟨a, cap, _, _, _, hx⟩ := hl
  intro e he
  obtain ⟨i, hi, rfl⟩ := List.getElem_of_mem he
  obtain ⟨b, off, _, h3⟩ := hx (by omega)
  obtain ⟨c, _, ⟨_, h4⟩, _⟩ := h3 i hi
  exact h4
 obtain ⟨a, cap, he, hc, hr⟩ := rd_of_slice (f := Ev.cells) Ev.cells_len (hl.imp (K' := kEv) (fun x c hx => hx.1))
 obtain ⟨a', n', c', rfl⟩ := okWide_slice Tryz.underlying22 hv
 simp only [Value.cells] at he
 exact ⟨l, ⟨a, cap, List.head_eq_of_cons_eq he, hc, hr⟩, hw⟩
/-- An event that is right is in range. -/
theorem ent_wf {e : Ev} (h : entF e = 0) : EvWf e := by
 have hk : 1 ≤ e.kind ∧ e.kind ≤ 13 := by
  unfold entF at h
  split at h
  ·cases h
  ·omega
 have ha : (((((((((if e.kind = 13 then inn (-1) (-1) e.g else inn 0 511 e.g) && ((shapeF e.kind).send || !e.send)) && ((shapeF e.kind).ok || !e.ok)) && !oddF e) && inn (shapeF e.kind).c0 (shapeF e.kind).c1 e.chan) && inn (shapeF e.kind).k0 (shapeF e.kind).k1 e.case_) && inn (shapeF e.kind).v0 (shapeF e.kind).v1 e.value) && inn (shapeF e.kind).m0 (shapeF e.kind).m1 e.mate)) = true := by
  unfold entF at h
  rw [if_neg (by omega)] at h
  exact Classical.byContradiction fun hne => by
   rw [if_neg hne] at h
   cases h
 simp only [Bool.and_eq_true] at ha
 obtain ⟨⟨⟨⟨⟨⟨⟨h1, _⟩, _⟩, _⟩, h5⟩, h6⟩, h7⟩, h8⟩ := ha
 have hs : -1 ≤ (shapeF e.kind).c0 ∧ (shapeF e.kind).c1 ≤ 511 ∧ -1 ≤ (shapeF e.kind).k0 ∧ (shapeF e.kind).k1 ≤ 511 ∧ -1 ≤ (shapeF e.kind).v0 ∧ (shapeF e.kind).v1 ≤ 511 ∧ -1 ≤ (shapeF e.kind).m0 ∧ (shapeF e.kind).m1 ≤ 511 := by
  unfold shapeF
  repeat' split
  all_goals decide
 have hg : -1 ≤ e.g ∧ e.g ≤ 511 := by
  split at h1 <;> (simp [inn] at h1; omega)
 simp only [inn, Bool.and_eq_true, decide_eq_true_eq] at h5 h6 h7 h8
 intro z hz
 simp only [List.mem_cons, List.not_mem_nil, or_false] at hz
 rcases hz with rfl | rfl | rfl | rfl | rfl | rfl <;> omega
end Go.Proofs.YtchkaaeoffmjnaaGreatDoor
