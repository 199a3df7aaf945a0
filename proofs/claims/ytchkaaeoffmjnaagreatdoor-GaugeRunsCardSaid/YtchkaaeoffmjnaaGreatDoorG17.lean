/- Texts of the proof, several in one file: LoomG4, LoomG5, OpenG, OpenL, LawK, LawA, LawB, Loom13, LawC, GaugeR1, GaugeR2, GaugeR3, EntryA, EntryE, GaugeR4, GaugeW0, GaugeW, GaugeX0, GaugeX. -/
import Derived.Test.YtchkaaeoffmjnaaGreatDoorG16
import Derived.Test.YtchkaaeoffmjnaaGreatDoorG07
import Derived.ProofKit
import Derived.OpenShut
import Derived.Deep.Slices
import Derived.Test.YtchkaaeoffmjnaaGreatDoorG14
import Derived.Test.YtchkaaeoffmjnaaGreatDoorG15
import Derived.Test.YtchkaaeoffmjnaaGreatDoorG04
namespace Go.Proofs.YtchkaaeoffmjnaaGreatDoor
set_option linter.unusedVariables false
set_option linter.unusedSimpArgs false
open Go.RowKit
def greS (k : Int) (f : Ev → Int) (m : Int) (e : Ev) : Int := if e.kind = k ∧ f e < 1099511627776 then (if m < f e + 1 then f e + 1 else m) else m
def greL (k : Int) (f : Ev → Int) (m : Int) (l : List Ev) : Int := l.foldl (greS k f) m
theorem gre_snoc (k : Int) (f : Ev → Int) (m : Int) (l : List Ev) (e : Ev) : greL k f m (l ++ [e]) = greS k f (greL k f m l) e := by
 unfold greL; rw [List.foldl_append]; rfl
def Grw (x : LmM) : Prop := greL 1 (·.mate) 1 x.tr = (x.crew.length : Int)
namespace Grw
variable {n np kk : Nat} {x z : LmM} {e : Ev} {g : Int}
theorem same (h : Grw x) (ht : z.tr = x.tr) (hc : z.crew.length = x.crew.length) : Grw z := by
 unfold Grw at h ⊢; rw [ht, hc]; exact h
theorem note (h : Grw x) (he : e.kind ≠ 1) : Grw (noteL x e) := by
 unfold Grw at h ⊢
 show greL 1 (·.mate) 1 (x.tr ++ [e]) = (x.crew.length : Int)
 rw [gre_snoc]
 unfold greS
 rw [if_neg (fun hh => he hh.1)]
 exact h
theorem turn (h : Grw x) (g fr to : Int) : Grw (turnL x g fr to) := h.same rfl (turn_len _ _ _ _ _)
theorem wake (h : Grw x) (he : e.kind ≠ 1) : Grw (wakeL x e) := ((h.note he).same (z := { noteL x e with M := x.M.map (fun y => dropM y e.g) }) rfl rfl).turn e.g 1 0
theorem panic (h : Grw x) (g : Int) : Grw (panicL x g) := (h.note (e := bareE 12 g) (show (12 : Int) ≠ 1 by decide)).same rfl rfl
theorem wakes {ch : Int} : ∀ (ws : List Wtr) {x : LmM}, Grw x → Grw (wakesL x g ch ws)
 | [], _, h => h
 | w :: ws, x, h => by
  unfold wakesL
  refine wakes ws ?_
  split
  ·exact h.wake (show (7 : Int) ≠ 1 by decide)
  ·exact h
theorem senders : ∀ (ws : List Wtr) {x : LmM}, Grw x → Grw (sendersL x ws)
 | [], _, h => h
 | w :: ws, x, h => by
  unfold sendersL
  split
  ·exact h.panic _
  ·exact senders ws h
theorem talk (h : Grw x) {c : CaseM} {a : Int} : Grw (talkL x g c a) := by
 have h1 : Grw { x with M := backN x.name (tryF (okN x) (pipesN x) c).2 x.M } := h.same rfl rfl
 unfold talkL
 dsimp only
 split
 ·exact h1.panic g
 ·have hev : (if c.send = true then (⟨3, g, numL x c.chan, a, c.value, if (tryF (okN x) (pipesN x) c).1.1.woke = true then (tryF (okN x) (pipesN x) c).1.1.mate.g else -1, true, false⟩ : Ev) else ⟨4, g, numL x c.chan, a, (tryF (okN x) (pipesN x) c).1.1.value, if (tryF (okN x) (pipesN x) c).1.1.woke = true then (tryF (okN x) (pipesN x) c).1.1.mate.g else -1, false, (tryF (okN x) (pipesN x) c).1.1.ok⟩).kind ≠ 1 := by
   split
   ·exact show (3 : Int) ≠ 1 by decide
   ·exact show (4 : Int) ≠ 1 by decide
  generalize (if c.send = true then (⟨3, g, numL x c.chan, a, c.value, if (tryF (okN x) (pipesN x) c).1.1.woke = true then (tryF (okN x) (pipesN x) c).1.1.mate.g else -1, true, false⟩ : Ev) else ⟨4, g, numL x c.chan, a, (tryF (okN x) (pipesN x) c).1.1.value, if (tryF (okN x) (pipesN x) c).1.1.woke = true then (tryF (okN x) (pipesN x) c).1.1.mate.g else -1, false, (tryF (okN x) (pipesN x) c).1.1.ok⟩) = E at hev ⊢
  have h2 := (h1.note hev).turn g 0 0
  split
  ·exact h2.wake (show (7 : Int) ≠ 1 by decide)
  ·exact h2
theorem alone (h : Grw x) {c : CaseM} : Grw (aloneL x g c) := by
 unfold aloneL
 split
 ·exact h.talk
 ·dsimp only
  refine turn ?_ g 0 1
  have h1 := h.note (e := ⟨6, g, numL x c.chan, -1, c.value, -1, c.send, false⟩) (show (6 : Int) ≠ 1 by decide)
  split
  ·exact h1.same rfl rfl
  ·exact h1
theorem shut (h : Grw x) {c : Int} : Grw (shutL x g c) := by
 unfold shutL
 dsimp only
 split
 ·exact h.panic g
 ·split
  ·exact h.panic g
  ·have h1 : Grw { x with M := x.M.set (numL x c).toNat (closeF (x.M.getD (numL x c).toNat (emptyM 0))).2 } := h.same rfl rfl
   exact senders _ (wakes _ ((h1.note (show (5 : Int) ≠ 1 by decide)).turn g 0 0))
theorem choose (h : Grw x) {o : OpM} (s : ScrM) : Grw (chooseL s x g o) := by
 unfold chooseL
 dsimp only
 split
 ·refine talk ?_
  rw [drawL_I]
  exact h.same rfl rfl
 ·split
  ·exact (h.note (e := bareE 8 g) (show (8 : Int) ≠ 1 by decide)).turn g 0 0
  ·refine turn ?_ g 0 1
   exact (h.note (e := ⟨6, g, -1, (o.cases.length : Int), 0, -1, false, false⟩) (show (6 : Int) ≠ 1 by decide)).same rfl rfl
theorem other (h : Grw x) (hl : x.crew.length < 512) {o : OpM} (ha : 0 ≤ o.a) : Grw (otherL x g o) := by
 unfold otherL
 split
 ·refine turn ?_ g 0 0
  have hs : (spawnF x.crew o.a).1.1 = (x.crew.length : Int) ∧ (spawnF x.crew o.a).2.length = x.crew.length + 1 := by
   unfold spawnF
   split
   ·omega
   ·split
    ·omega
    ·exact ⟨rfl, by simp⟩
  unfold Grw at h ⊢
  show greL 1 (·.mate) 1 (x.tr ++ [⟨1, g, -1, -1, o.a, (spawnF x.crew o.a).1.1, false, false⟩]) = (((spawnF x.crew o.a).2.length : Nat) : Int)
  rw [gre_snoc, h, hs.1, hs.2]
  unfold greS
  rw [if_pos ⟨rfl, by show (x.crew.length : Int) < _; omega⟩, if_pos (by show (x.crew.length : Int) < (x.crew.length : Int) + 1; omega)]
  show (x.crew.length : Int) + 1 = _
  omega
 ·split
  ·refine turn (note ?_ (show (2 : Int) ≠ 1 by decide)) g 0 0
   exact h.same rfl rfl
  ·split
   ·exact (h.note (show (9 : Int) ≠ 1 by decide)).turn g 0 0
   ·split
    ·exact (h.note (show (10 : Int) ≠ 1 by decide)).turn g 0 0
    ·exact (h.turn g 0 2).note (e := bareE 11 g) (show (11 : Int) ≠ 1 by decide)
theorem does (h : Grw x) (hl : x.crew.length < 512) {o : OpM} (ha : 0 ≤ o.a) (s : ScrM) : Grw (doesL s x g o) := by
 unfold doesL
 split
 ·exact h.alone
 ·split
  ·exact h.alone
  ·split
   ·exact h.shut
   ·split
    ·exact h.choose s
    ·exact h.other hl ha
end Grw
theorem Grw.step {s : ScrM} {x : LmM} {np kk : Nat} (h : Grw x) (hl : x.crew.length < 512) (hs : ProgsOk s.progs) (hnp : s.progs.length = np) (h1 : 1 ≤ np) : Grw (stepL s x) := by
 unfold stepL
 split
 ·exact h
 ·split
  ·exact (h.same (z := { x with p := x.p + 1 }) rfl rfl).note (e := bareE 13 (-1)) (show (13 : Int) ≠ 1 by decide)
  ·subst hnp
   exact (h.same (z := { x with p := x.p + 1 }) rfl rfl).does hl (opL_ok hs h1 x _).a0 s
theorem Grw.run {s : ScrM} (h : checkE s = 0) : ∀ n, n ≤ 500 → Grw (runL s n)
 | 0, _ => rfl
 | n + 1, hn => by
  have hr := checkE_right h
  have hc := (Rgt.run hr.ok rfl hr.n1 (checkE_V h) n (by omega)).c
  exact (Grw.run h n (by omega)).step (kk := n) (by omega) hr.ok rfl hr.n1
/-- As many as the loom has. -/
theorem run_counts {s : ScrM} (h : checkE s = 0) : greL 1 (·.mate) 1 (runL s (s.plan.length + 1)).tr = ((runL s (s.plan.length + 1)).crew.length : Int) := by
 have hpl := (checkE_right h).pl
 exact Grw.run h _ (by omega)
end Go.Proofs.YtchkaaeoffmjnaaGreatDoor
namespace Go.Proofs.YtchkaaeoffmjnaaGreatDoor
set_option linter.unusedVariables false
set_option linter.unusedSimpArgs false
open Go.RowKit
def nwk (e : Ev) : Bool := e.kind != 7
def Nwk (n : Nat) (x : LmM) : Prop := x.tr.countP nwk ≤ n
namespace Nwk
variable {n : Nat} {x z : LmM} {e : Ev} {g : Int}
theorem same (h : Nwk n x) (ht : z.tr = x.tr) : Nwk n z := by unfold Nwk at h ⊢; rw [ht]; exact h
theorem note (h : Nwk n x) (e : Ev) : Nwk (n + 1) (noteL x e) := by
 unfold Nwk at h ⊢
 show (x.tr ++ [e]).countP nwk ≤ n + 1
 rw [List.countP_append]
 have : [e].countP nwk ≤ 1 := List.countP_le_length
 omega
theorem wake (h : Nwk n x) (he : e.kind = 7) : Nwk n (wakeL x e) := by
 unfold Nwk at h ⊢
 show (x.tr ++ [e]).countP nwk ≤ n
 rw [List.countP_append]
 have : [e].countP nwk = 0 := by simp [nwk, he]
 omega
theorem turn (h : Nwk n x) (g fr to : Int) : Nwk n (turnL x g fr to) := h
theorem panic (h : Nwk n x) (g : Int) : Nwk (n + 1) (panicL x g) := (h.note (bareE 12 g)).same rfl
theorem wakes {ch : Int} : ∀ (ws : List Wtr) {x : LmM}, Nwk n x → Nwk n (wakesL x g ch ws)
 | [], _, h => h
 | w :: ws, x, h => by
  unfold wakesL
  refine wakes ws ?_
  split
  ·exact h.wake rfl
  ·exact h
theorem up (h : Nwk n x) : Nwk (n + 1) x := Nat.le_succ_of_le h
theorem senders : ∀ (ws : List Wtr) {x : LmM}, Nwk n x → Nwk (n + 1) (sendersL x ws)
 | [], _, h => h.up
 | w :: ws, x, h => by
  unfold sendersL
  split
  ·exact h.panic _
  ·exact senders ws h
theorem talk (h : Nwk n x) {c : CaseM} {a : Int} : Nwk (n + 1) (talkL x g c a) := by
 have h1 : Nwk n { x with M := backN x.name (tryF (okN x) (pipesN x) c).2 x.M } := h.same rfl
 unfold talkL
 dsimp only
 split
 ·exact h1.panic g
 ·have h2 := fun e : Ev => (h1.note e).turn g 0 0
  generalize (if c.send = true then (⟨3, g, numL x c.chan, a, c.value, if (tryF (okN x) (pipesN x) c).1.1.woke = true then (tryF (okN x) (pipesN x) c).1.1.mate.g else -1, true, false⟩ : Ev) else ⟨4, g, numL x c.chan, a, (tryF (okN x) (pipesN x) c).1.1.value, if (tryF (okN x) (pipesN x) c).1.1.woke = true then (tryF (okN x) (pipesN x) c).1.1.mate.g else -1, false, (tryF (okN x) (pipesN x) c).1.1.ok⟩) = E
  split
  ·exact (h2 E).wake rfl
  ·exact h2 E
theorem alone (h : Nwk n x) {c : CaseM} : Nwk (n + 1) (aloneL x g c) := by
 unfold aloneL
 split
 ·exact h.talk
 ·dsimp only
  refine turn ?_ g 0 1
  split
  ·exact (h.note _).same rfl
  ·exact h.note _
theorem shut (h : Nwk n x) {c : Int} : Nwk (n + 2) (shutL x g c) := by
 unfold shutL
 dsimp only
 split
 ·exact (h.panic g).up
 ·split
  ·exact (h.panic g).up
  ·have h1 : Nwk n { x with M := x.M.set (numL x c).toNat (closeF (x.M.getD (numL x c).toNat (emptyM 0))).2 } := h.same rfl
   exact senders _ (wakes _ ((h1.note _).turn g 0 0))
theorem choose (h : Nwk n x) {o : OpM} (s : ScrM) : Nwk (n + 1) (chooseL s x g o) := by
 unfold chooseL
 dsimp only
 split
 ·refine talk ?_
  rw [drawL_I]
  exact h.same rfl
 ·split
  ·exact (h.note (bareE 8 g)).turn g 0 0
  ·refine turn ?_ g 0 1
   exact (h.note ⟨6, g, -1, (o.cases.length : Int), 0, -1, false, false⟩).same rfl
theorem other (h : Nwk n x) {o : OpM} : Nwk (n + 1) (otherL x g o) := by
 unfold otherL
 split
 ·exact turn (note (h.same rfl) _) g 0 0
 ·split
  ·exact turn (note (h.same rfl) _) g 0 0
  ·split
   ·exact (h.note _).turn g 0 0
   ·split
    ·exact (h.note _).turn g 0 0
    ·exact (h.turn g 0 2).note (bareE 11 g)
theorem does (h : Nwk n x) {o : OpM} (s : ScrM) : Nwk (n + 2) (doesL s x g o) := by
 unfold doesL
 split
 ·exact h.alone.up
 ·split
  ·exact h.alone.up
  ·split
   ·exact h.shut
   ·split
    ·exact (h.choose s).up
    ·exact h.other.up
theorem step {s : ScrM} (h : Nwk n x) : Nwk (n + 2) (stepL s x) := by
 unfold stepL
 split
 ·exact h.up.up
 ·split
  ·exact ((h.same (z := { x with p := x.p + 1 }) rfl).note (bareE 13 (-1))).up
  ·exact (h.same (z := { x with p := x.p + 1 }) rfl).does s
theorem run (s : ScrM) : ∀ n, Nwk (2 * n) (runL s n)
 | 0 => Nat.le_refl _
 | n + 1 => (run s n).step
end Nwk
theorem parks_wakes {T : List Ev} (hT : ∀ j, j < T.length → brG T j = 0) : ∀ j, j ≤ T.length → (T.take j).countP (·.kind == 7) + (stG T j).crew.countP (·.1) ≤ (T.take j).countP (·.kind == 6)
 | 0, _ => by simp [stG]
 | j + 1, hj => by
  have ih := parks_wakes hT j (by omega)
  have hx : T[j]? = some T[j] := List.getElem?_eq_getElem _
  obtain ⟨e, he⟩ : ∃ e, T[j] = e := ⟨_, rfl⟩
  rw [he] at hx
  have hz := hT j (by omega)
  unfold brG at hz
  rw [stG]
  rw [List.getD_eq_getElem?_getD, hx, Option.getD_some] at hz ⊢
  obtain ⟨s1, _⟩ := step_crew hz
  obtain ⟨_, z2, _⟩ := step_zero.1 hz
  rw [s1, List.take_add_one, hx, Option.toList_some, List.countP_append, List.countP_append]
  generalize stG T j = r at ih z2 ⊢
  by_cases h13 : e.kind = 13
  ·have : (crewedF r e).2.crew = r.crew := by
    unfold crewedF
    split
    ·rfl
    ·first | rfl | (rw [if_pos h13])
   rw [this]
   simp [h13]
   exact ih
  ·obtain ⟨x, c1, c2, c3, c4, c5, c6, c7⟩ := crew_then z2 h13
   obtain ⟨hl, hxe⟩ := List.getElem?_eq_some_iff.1 c1
   have hset := List.countP_set (p := fun y : Bool × Bool => y.1) (a := (e.kind == 6, e.kind == 11)) hl
   rw [hxe] at hset
   have hpos : x.1 = true → 0 < r.crew.countP (·.1) := fun h => List.countP_pos_iff.2 ⟨x, List.mem_of_getElem? c1, h⟩
   rw [c6]
   have hn : (if e.kind = 1 then r.crew.set e.g.toNat (e.kind == 6, e.kind == 11) ++ [(false, false)] else r.crew.set e.g.toNat (e.kind == 6, e.kind == 11)).countP (·.1) = (r.crew.set e.g.toNat (e.kind == 6, e.kind == 11)).countP (·.1) := by
    split
    ·rw [List.countP_append]; simp
    ·rfl
   rw [hn, hset]
   by_cases h7 : e.kind = 7
   ·have h1 : x.1 = true := by rw [c3 (by omega), h7]; rfl
    have := hpos h1
    simp [h7, h1]
    omega
   ·by_cases h6 : e.kind = 6
    ·have h1 : x.1 = false := by rw [c3 (by omega), h6]; rfl
     simp [h6, h1]
     omega
    ·simp [h6, h7]
     omega
/-- A run's trace is short. -/
theorem run_short {s : ScrM} (h : checkE s = 0) : (runL s (s.plan.length + 1)).tr.length ≤ 1000 := by
 have hpl := (checkE_right h).pl
 have hq := Nwk.run s (s.plan.length + 1)
 unfold Nwk at hq
 have hw := parks_wakes (run_keeps h).1 _ (Nat.le_refl _)
 rw [List.take_length] at hw
 generalize (runL s (s.plan.length + 1)).tr = T at hq hw ⊢
 have h6 : T.countP (·.kind == 6) ≤ T.countP nwk := List.countP_mono_left fun e _ he => by
  have : e.kind = 6 := by simpa using he
  simp [nwk, this]
 have hs := List.length_eq_countP_add_countP (l := T) nwk
 have h7 : T.countP (fun a => decide ¬(nwk a = true)) = T.countP (·.kind == 7) := by
  congr 1
  funext a
  by_cases h : a.kind = 7 <;> simp [nwk, h]
 omega
end Go.Proofs.YtchkaaeoffmjnaaGreatDoor
namespace Go.Proofs.YtchkaaeoffmjnaaGreatDoor
set_option linter.unusedVariables false
set_option linter.unusedSimpArgs false
open Go.ChangeShapes Go.WideShapes Go.ChangeAt Go.RowKit
abbrev Kx (α : Type) := World → α → List Value → Prop
/-- Whatever of type t can be read is some v of the kind K. -/
structure Opens {α : Type} (t : TypeId) (K : Kx α) : Prop where
 out : ∀ {H : Type} {enc : TypeId × Value → H} {w : World} {base : Nat} {sp : Nat → Bool} {held : Bool} {fuel : Nat} {cs : List Value} {x : DataW H × List MemPlace},
  DataW.trod enc Tryz.prog w base sp held fuel t cs = some x → ∃ v, K w v cs
def kInt : Kx Int := fun _ n cs => cs = [.int .i64 n] ∧ (Lit.int .i64 n).wf = true
def kBool : Kx Bool := fun _ b cs => cs = [.bool b]
def kSeq {α β : Type} (a : Kx α) (b : Kx β) : Kx (α × β) := fun w x cs => ∃ c d, cs = c ++ d ∧ a w x.1 c ∧ b w x.2 d
def kMap {α β : Type} (f : α → β) (a : Kx α) : Kx β := fun w y cs => ∃ x, y = f x ∧ a w x cs
/-- A slice: its elements stand one behind the other, each of sz cells. -/
def kSlice {α : Type} (sz : Nat) (K : Kx α) : Kx (List α) := fun w xs cs =>
 ∃ a cap, cs = [.slice a xs.length cap] ∧ xs.length ≤ cap ∧ cap ≤ maxLen ∧
  (0 < xs.length → ∃ b off, a = some ⟨b, off, none⟩ ∧ ∀ i (h : i < xs.length), ∃ c, c.length = sz ∧ K w xs[i] c ∧ ∀ j u, c[j]? = some u → w.cell? ⟨b, off + i * sz + j, none⟩ = some u)
theorem opens_int {t : TypeId} (ht : Tryz.prog.underlying t = some (.int .i64)) : Opens t kInt := by
 refine ⟨?_⟩
 intro H enc w base sp held fuel cs x h
 obtain ⟨n, hc, _, hw⟩ := DataW.trod_int ht h
 exact ⟨n, hc, hw⟩
theorem opens_bool {t : TypeId} (ht : Tryz.prog.underlying t = some .bool) : Opens t kBool := by
 refine ⟨?_⟩
 intro H enc w base sp held fuel cs x h
 obtain ⟨n, hc, _⟩ := DataW.trod_bool ht h
 exact ⟨n, hc⟩
theorem Opens.map {α β : Type} {t : TypeId} {K : Kx α} (h : Opens t K) (f : α → β) : Opens t (kMap f K) := by
 refine ⟨?_⟩
 intro H enc w base sp held fuel cs x hx
 obtain ⟨v, hv⟩ := h.out hx
 exact ⟨f v, v, rfl, hv⟩
theorem Opens.imp {α β : Type} {t : TypeId} {K : Kx α} {K' : Kx β} (h : Opens t K) (f : α → β) (hf : ∀ w v cs, K w v cs → K' w (f v) cs) : Opens t K' := by
 refine ⟨?_⟩
 intro H enc w base sp held fuel cs x hx
 obtain ⟨v, hv⟩ := h.out hx
 exact ⟨f v, hf _ _ _ hv⟩
theorem opens_slice {α : Type} {t e : TypeId} {sz : Nat} {K : Kx α} (ht : Tryz.prog.underlying t = some (.slice e)) (hC : Tryz.prog.cellsOf e = sz) (hs : 0 < sz) (hK : Opens e K) : Opens t (kSlice sz K) := by
 refine ⟨?_⟩
 intro H enc w base sp held fuel cs x h
 rcases Go.Deep.open_slice ht h with ⟨rfl, _⟩ | ⟨a, len, cap, m, n, D, Pl, rfl, hb, hl, hm, hmm, _, hi⟩
 ·exact ⟨[], none, 0, rfl, Nat.zero_le _, Nat.zero_le _, fun h => absurd h (Nat.lt_irrefl 0)⟩
 ·rw [hC] at hi
  have hlm : len ≤ m := by rw [hmm]; split <;> omega
  have key : ∀ i, i < len → ∃ v c, c.length = sz ∧ K w v c ∧ ∀ j, j < sz → w.cell? ((a.add (i * sz)).add j) = c[j]? := fun i hil => by
   obtain ⟨cs', h1, h2⟩ := hi i (by omega)
   obtain ⟨v, hv⟩ := hK.out h2
   obtain ⟨_, hcl, hat⟩ := World.cells?_some h1
   exact ⟨v, cs', hcl, hv, hat⟩
  have key2 : ∀ n, n ≤ len → ∃ xs : List α, xs.length = n ∧ ∀ i (h : i < xs.length), ∃ c, c.length = sz ∧ K w xs[i] c ∧ ∀ j, j < sz → w.cell? ((a.add (i * sz)).add j) = c[j]? := by
   intro n
   induction n with
   | zero => exact fun _ => ⟨[], rfl, fun i h => absurd h (Nat.not_lt_zero i)⟩
   | succ n ih =>
    intro hn
    obtain ⟨xs, hxl, hxs⟩ := ih (by omega)
    obtain ⟨v, hv⟩ := key n (by omega)
    refine ⟨xs ++ [v], by simp [hxl], fun i h => ?_⟩
    by_cases hi : i < xs.length
    ·rw [List.getElem_append_left hi]
     exact hxs i hi
    ·have hin : i = n := by simp at h; omega
     subst hin
     rw [List.getElem_append_right (by omega)]
     simpa using hv
  obtain ⟨xs, hxl, hxs⟩ := key2 len (Nat.le_refl _)
  subst hxl
  refine ⟨xs, some a, cap, rfl, hl, hm, fun h0 => ?_⟩
  obtain ⟨b, off, spot⟩ := a
  have hspot : spot = none := by
   obtain ⟨c, hcl, _, hat⟩ := hxs 0 h0
   have h1 := hat 0 hs
   have h2 : ((⟨b, off, spot⟩ : Addr).add (0 * sz)).add 0 = ⟨b, off, spot⟩ := by simp [Addr.add]
   rw [h2, List.getElem?_eq_getElem (by omega)] at h1
   unfold World.cell? at h1
   split at h1
   ·cases spot with
    | none => rfl
    | some z => simp at h1
   ·cases h1
  subst hspot
  refine ⟨b, off, rfl, fun i h => ?_⟩
  obtain ⟨c, hcl, hk, hat⟩ := hxs i h
  refine ⟨c, hcl, hk, fun j u hu => ?_⟩
  have hj : j < sz := by
   rcases Nat.lt_or_ge j sz with hj | hj
   ·exact hj
   ·rw [List.getElem?_eq_none (by omega)] at hu
    cases hu
  have h1 := hat j hj
  rw [hu] at h1
  have h2 : ∀ x y : Nat, (⟨b, x, none⟩ : Addr).add y = ⟨b, x + y, none⟩ := fun x y => by
   unfold Addr.add
   split
   ·rename_i hz
    subst hz
    rfl
   ·rfl
  rw [h2, h2] at h1
  exact h1
structure Parts {α : Type} (fs : List Field) (off : Nat) (sz : Nat) (K : Kx α) : Prop where
 out : ∀ {H : Type} {enc : TypeId × Value → H} {w : World} {base : Nat} {sp : Nat → Bool} {held : Bool} {fuel : Nat} {cs : List Value}, cs.length = sz →
  (∀ f ∈ fs, ∃ y, DataW.trod enc Tryz.prog w base sp held fuel f.type ((cs.drop (f.offset - off)).take (Tryz.prog.cellsOf f.type)) = some y) → ∃ v, K w v cs
theorem parts_one {α : Type} {f : Field} {off sz : Nat} {K : Kx α} (ho : f.offset = off) (hc : Tryz.prog.cellsOf f.type = sz) (hK : Opens f.type K) : Parts [f] off sz K := by
 refine ⟨?_⟩
 intro H enc w base sp held fuel cs hl h
 obtain ⟨y, hy⟩ := h f (List.mem_singleton.2 rfl)
 rw [ho, Nat.sub_self, List.drop_zero, hc, ← hl, List.take_length] at hy
 exact hK.out hy
theorem parts_cons {α β : Type} {f : Field} {fs : List Field} {off sz m : Nat} {K : Kx α} {K' : Kx β} (ho : f.offset = off) (hc : Tryz.prog.cellsOf f.type = sz) (hK : Opens f.type K)
  (hoff : ∀ g ∈ fs, off + sz ≤ g.offset) (hP : Parts fs (off + sz) m K') : Parts (f :: fs) off (sz + m) (kSeq K K') := by
 refine ⟨?_⟩
 intro H enc w base sp held fuel cs hl h
 obtain ⟨y, hy⟩ := h f List.mem_cons_self
 rw [ho, Nat.sub_self, List.drop_zero, hc] at hy
 obtain ⟨v, hv⟩ := hK.out hy
 obtain ⟨v', hv'⟩ := hP.out (cs := cs.drop sz) (by rw [List.length_drop]; omega) (fun g hg => by
  obtain ⟨y, hy⟩ := h g (List.mem_cons_of_mem _ hg)
  refine ⟨y, ?_⟩
  rw [List.drop_drop]
  rw [show sz + (g.offset - (off + sz)) = g.offset - off by have := hoff g hg; omega]
  exact hy)
 exact ⟨(v, v'), cs.take sz, cs.drop sz, (List.take_append_drop sz cs).symm, hv, hv'⟩
theorem opens_struct {α : Type} {t : TypeId} {fs : List Field} {sz : Nat} {K : Kx α} (ht : Tryz.prog.underlying t = some (.struct fs.toArray)) (hC : Tryz.prog.cellsOf t = sz) (hP : Parts fs 0 sz K) : Opens t K := by
 refine ⟨?_⟩
 intro H enc w base sp held fuel cs x h
 obtain ⟨xs, n, _, _, hl, hxl, hf⟩ := DataW.trod_struct ht h
 refine hP.out (H := H) (enc := enc) (w := w) (base := base) (sp := sp) (held := held) (fuel := n) (cs := cs) (hl.trans hC) (fun f hm => ?_)
 obtain ⟨i, hi, rfl⟩ := List.getElem_of_mem hm
 have h1 := hf i fs[i] (by simp [hi])
 rw [Nat.sub_zero]
 rw [List.getElem?_eq_getElem (by rw [hxl]; simpa using hi)] at h1
 exact ⟨_, h1⟩
/-- A slice of flat structs, as it is read. -/
theorem rd_of_slice {α : Type} {sz : Nat} {f : α → List Value} {w : World} {xs : List α} {cs : List Value} (hf : ∀ x, (f x).length = sz) (h : kSlice sz (fun _ x c => c = f x) w xs cs) :
  ∃ a cap, cs = [.slice a xs.length cap] ∧ xs.length ≤ cap ∧ Rd w sz a xs.length (xs.flatMap f) := by
 obtain ⟨a, cap, rfl, hc, hm, hx⟩ := h
 refine ⟨a, cap, rfl, hc, flat_length f sz hf xs, Nat.le_trans hc hm, fun h0 => ?_⟩
 obtain ⟨b, off, ha, hi⟩ := hx h0
 refine ⟨b, off, ha, fun i u hu => ?_⟩
 have hlt : i < xs.length * sz := by
  rcases Nat.lt_or_ge i (xs.length * sz) with hj | hj
  ·exact hj
  ·rw [List.getElem?_eq_none (by rw [flat_length f sz hf]; exact hj)] at hu
   cases hu
 have hs : 0 < sz := by
  rcases Nat.eq_zero_or_pos sz with h | h
  ·rw [h, Nat.mul_zero] at hlt
   omega
  ·exact h
 have hg : i / sz < xs.length := (Nat.div_lt_iff_lt_mul hs).2 hlt
 have hj : i % sz < sz := Nat.mod_lt _ hs
 have e : i / sz * sz + i % sz = i := by rw [Nat.mul_comm]; exact Nat.div_add_mod i sz
 obtain ⟨c, _, rfl, hc⟩ := hi (i / sz) hg
 have h1 := flat_get f sz hf xs (i / sz) (i % sz) hj hg
 rw [e, hu] at h1
 have h2 := hc (i % sz) u h1.symm
 rw [Nat.add_assoc, e] at h2
 exact h2
theorem kSlice.imp {α : Type} {sz : Nat} {K K' : Kx α} {w : World} {xs : List α} {cs : List Value} (h : kSlice sz K w xs cs) (hk : ∀ x c, K w x c → K' w x c) : kSlice sz K' w xs cs := by
 obtain ⟨a, cap, h1, h2, h2', h3⟩ := h
 refine ⟨a, cap, h1, h2, h2', fun h0 => ?_⟩
 obtain ⟨b, off, ha, hi⟩ := h3 h0
 refine ⟨b, off, ha, fun i h => ?_⟩
 obtain ⟨c, x, y, z⟩ := hi i h
 exact ⟨c, x, hk _ _ y, z⟩
/-- An argument: what it holds is of the kind K. -/
theorem open_arg {α : Type} {t : TypeId} {K : Kx α} (hK : Opens t K) {H : Type} {enc : TypeId × Value → H} {w : World} {base : Nat} {sp : Nat → Bool} {held : Bool} {v : Value} {d : DataW H} {p : List MemPlace}
  (h : DataW.Trod enc Tryz.prog w base sp held t v d p) : ∃ x, K w x v.cells.toList := by
 obtain ⟨fuel, hf⟩ := h
 exact hK.out hf
def kEv : Kx Ev := fun _ x c => c = x.cells
/-- A slice of events that came in. -/
structure EvIn (w : World) (v : Value) (l : List Ev) : Prop where
 out : ∃ a cap, v = .slice a l.length cap ∧ l.length ≤ cap ∧ Rd w 8 a l.length (l.flatMap Ev.cells)
end Go.Proofs.YtchkaaeoffmjnaaGreatDoor
namespace Go.Proofs.YtchkaaeoffmjnaaGreatDoor
set_option linter.unusedVariables false
set_option linter.unusedSimpArgs false
open Go.ChangeShapes Go.WideShapes Go.ChangeAt Go.RowKit
theorem Opens.ex {α β : Type} {t : TypeId} {K : Kx α} {K' : Kx β} (h : Opens t K) (hf : ∀ w v cs, K w v cs → ∃ v', K' w v' cs) : Opens t K' := by
 refine ⟨?_⟩
 intro H enc w base sp held fuel cs x hx
 obtain ⟨v, hv⟩ := h.out hx
 exact hf _ _ _ hv
def kCase : Kx CaseM := fun _ c cs => cs = c.cells
theorem opens_case : Opens 154 kCase :=
 (opens_struct (fs := [_, _, _]) (sz := 3) Tryz.underlying154 (by kernel_rfl)
  (parts_cons (sz := 1) (m := 2) rfl (by kernel_rfl) (opens_bool Tryz.underlying4) (by decide)
  (parts_cons (sz := 1) (m := 1) rfl (by kernel_rfl) (opens_int Tryz.underlying3) (by decide)
  (parts_one (sz := 1) rfl (by kernel_rfl) (opens_int Tryz.underlying3))))).imp
  (fun v => ⟨v.1, v.2.1, v.2.2⟩) (fun w v cs h => by
   obtain ⟨v1, v2, v3⟩ := v
   obtain ⟨_, _, rfl, rfl, _, _, rfl, ⟨rfl, _⟩, rfl, _⟩ := h
   rfl)
def kOp : Kx OpX := fun w o cs => cs = o.cells ∧ o.op.cases.length ≤ o.cc ∧ Rd w 3 o.ca o.op.cases.length (o.op.cases.flatMap CaseM.cells)
theorem opens_op : Opens 66 kOp :=
 (opens_struct (fs := [_, _, _, _, _]) (sz := 5) Tryz.underlying66 (by kernel_rfl)
  (parts_cons (sz := 1) (m := 4) rfl (by kernel_rfl) (opens_int Tryz.underlying3) (by decide)
  (parts_cons (sz := 1) (m := 3) rfl (by kernel_rfl) (opens_int Tryz.underlying3) (by decide)
  (parts_cons (sz := 1) (m := 2) rfl (by kernel_rfl) (opens_int Tryz.underlying3) (by decide)
  (parts_cons (sz := 1) (m := 1) rfl (by kernel_rfl) (opens_slice (sz := 3) (K := kCase) Tryz.underlying64 (by kernel_rfl) (by decide) opens_case) (by decide)
  (parts_one (sz := 1) rfl (by kernel_rfl) (opens_bool Tryz.underlying4))))))).ex
  (fun w v cs h => by
   obtain ⟨v1, v2, v3, v4, v5⟩ := v
   obtain ⟨_, _, rfl, ⟨rfl, _⟩, _, _, rfl, ⟨rfl, _⟩, _, _, rfl, ⟨rfl, _⟩, _, _, rfl, hs, rfl⟩ := h
   obtain ⟨a, cap, rfl, hc, hr⟩ := rd_of_slice (f := CaseM.cells) (fun _ => rfl) hs
   exact ⟨⟨⟨v1, v2, v3, v4, v5⟩, a, cap⟩, rfl, hc, hr⟩)
def kProg : Kx ProgX := fun w p cs => cs = [.slice p.pa p.ops.length p.pc] ∧ p.ops.length ≤ p.pc ∧ p.ops.length ≤ maxLen ∧ (0 < p.ops.length → ∃ b off, p.pa = some ⟨b, off, none⟩ ∧ ∀ j o, p.ops[j]? = some o → ∀ i v, o.cells[i]? = some v → w.cell? ⟨b, off + j * 5 + i, none⟩ = some v) ∧
 ∀ o ∈ p.ops, o.op.cases.length ≤ o.cc ∧ Rd w 3 o.ca o.op.cases.length (o.op.cases.flatMap CaseM.cells)
theorem opens_prog : Opens 67 kProg :=
 (opens_slice (sz := 5) (K := kOp) Tryz.underlying67 (by kernel_rfl) (by decide) opens_op).ex (fun w xs cs h => by
  obtain ⟨a, cap, rfl, hc, hm, hx⟩ := h
  refine ⟨⟨xs, a, cap⟩, rfl, hc, Nat.le_trans hc hm, fun h0 => ?_, fun o ho => ?_⟩
  ·obtain ⟨b, off, ha, hi⟩ := hx h0
   refine ⟨b, off, ha, fun j o hj i v hv => ?_⟩
   obtain ⟨hjl, rfl⟩ := List.getElem?_eq_some_iff.1 hj
   obtain ⟨c, _, ⟨rfl, _⟩, hcell⟩ := hi j hjl
   exact hcell i v hv
  ·obtain ⟨i, hi, rfl⟩ := List.getElem_of_mem ho
   obtain ⟨b, off, ha, hh⟩ := hx (Nat.lt_of_le_of_lt (Nat.zero_le _) hi)
   obtain ⟨c, _, ⟨rfl, h1, h2⟩, _⟩ := hh i hi
   exact ⟨h1, h2⟩)
/-- The parts of a script that came in. -/
structure ScrX where
 t : Int
 m : Int
 X : List ProgX
 pa : Option Addr
 pc : Nat
 pl : List Int
 la : Option Addr
 lc : Nat
 dr : List Int
 da : Option Addr
 dc : Nat
def ScrX.cells (s : ScrX) : List Value := [.int .i64 s.t, .int .i64 s.m, .slice s.pa s.X.length s.pc, .slice s.la s.pl.length s.lc, .slice s.da s.dr.length s.dc]
def ScrX.M (s : ScrX) : ScrM := ⟨s.t, s.m, progsM s.X, s.pl, s.dr⟩
structure ProgsIn (w : World) (pa : Option Addr) (X : List ProgX) : Prop where
 len : X.length ≤ maxLen
 at_ : 0 < X.length → ∃ b off, pa = some ⟨b, off, none⟩ ∧ ∀ (k : Nat) p, X[k]? = some p → w.cell? ⟨b, off + k * 1, none⟩ = some (.slice p.pa p.ops.length p.pc)
 prog : ∀ p ∈ X, p.ops.length ≤ p.pc ∧ p.ops.length ≤ maxLen ∧ (0 < p.ops.length → ∃ b off, p.pa = some ⟨b, off, none⟩ ∧ ∀ j o, p.ops[j]? = some o → ∀ i v, o.cells[i]? = some v → w.cell? ⟨b, off + j * 5 + i, none⟩ = some v) ∧
  ∀ o ∈ p.ops, o.op.cases.length ≤ o.cc ∧ Rd w 3 o.ca o.op.cases.length (o.op.cases.flatMap CaseM.cells)
def kScr : Kx ScrX := fun w s cs => cs = s.cells ∧ ProgsIn w s.pa s.X ∧ s.X.length ≤ s.pc ∧ Rd w 1 s.la s.pl.length (ints s.pl) ∧ s.pl.length ≤ s.lc ∧ Rd w 1 s.da s.dr.length (ints s.dr) ∧ s.dr.length ≤ s.dc
theorem flat_ints (l : List Int) : l.flatMap (fun n => [Value.int .i64 n]) = ints l := by
 induction l with
 | nil => rfl
 | cons a l ih =>
  rw [List.flatMap_cons, ih]
  rfl
set_option maxRecDepth 100000 in
theorem opens_scr : Opens 42 kScr :=
 (opens_struct (fs := [_, _, _, _, _]) (sz := 5) Tryz.underlying42 (by kernel_rfl)
  (parts_cons (sz := 1) (m := 4) rfl (by kernel_rfl) (opens_int Tryz.underlying3) (by decide)
  (parts_cons (sz := 1) (m := 3) rfl (by kernel_rfl) (opens_int Tryz.underlying3) (by decide)
  (parts_cons (sz := 1) (m := 2) rfl (by kernel_rfl) (opens_slice (sz := 1) (K := kProg) Tryz.underlying39 (by kernel_rfl) (by decide) opens_prog) (by decide)
  (parts_cons (sz := 1) (m := 1) rfl (by kernel_rfl) (opens_slice (sz := 1) (K := kInt) Tryz.underlying40 (by kernel_rfl) (by decide) (opens_int Tryz.underlying3)) (by decide)
  (parts_one (sz := 1) rfl (by kernel_rfl) (opens_slice (sz := 1) (K := kInt) Tryz.underlying40 (by kernel_rfl) (by decide) (opens_int Tryz.underlying3)))))))).ex
  (fun w v cs h => by
   obtain ⟨v1, v2, v3, v4, v5⟩ := v
   obtain ⟨_, _, rfl, ⟨rfl, _⟩, _, _, rfl, ⟨rfl, _⟩, _, _, rfl, hp, _, _, rfl, h4, h5⟩ := h
   obtain ⟨pa, pc, rfl, hpc, hpm, hpx⟩ := hp
   obtain ⟨la, lc, rfl, hlc, hlr⟩ := rd_of_slice (f := fun n => [Value.int .i64 n]) (fun _ => rfl) (h4.imp (fun _ _ h => h.1))
   obtain ⟨da, dc, rfl, hdc, hdr⟩ := rd_of_slice (f := fun n => [Value.int .i64 n]) (fun _ => rfl) (h5.imp (fun _ _ h => h.1))
   rw [flat_ints] at hlr hdr
   refine ⟨⟨v1, v2, v3, pa, pc, v4, la, lc, v5, da, dc⟩, rfl, ⟨Nat.le_trans hpc hpm, fun h0 => ?_, fun p hp => ?_⟩, hpc, hlr, hlc, hdr, hdc⟩
   ·obtain ⟨b, off, ha, hi⟩ := hpx h0
    refine ⟨b, off, ha, fun k p hk => ?_⟩
    obtain ⟨hkl, rfl⟩ := List.getElem?_eq_some_iff.1 hk
    obtain ⟨c, _, ⟨rfl, _⟩, hcell⟩ := hi k hkl
    exact hcell 0 _ rfl
   ·obtain ⟨i, hi, rfl⟩ := List.getElem_of_mem hp
    obtain ⟨b, off, ha, hh⟩ := hpx (Nat.lt_of_le_of_lt (Nat.zero_le _) hi)
    obtain ⟨c, _, ⟨rfl, h1, h2, h3, h4⟩, _⟩ := hh i hi
    exact ⟨h1, h2, h3, h4⟩)
structure ScrIn (w : World) (v : Value) (s : ScrX) : Prop where
 val : v = .agg s.cells.toArray
 progs : ProgsIn w s.pa s.X
 plan : Rd w 1 s.la s.pl.length (ints s.pl)
 planc : s.pl.length ≤ s.lc
 draws : Rd w 1 s.da s.dr.length (ints s.dr)
 drawsc : s.dr.length ≤ s.dc
set_option maxRecDepth 100000 in
theorem open_api_Script {r : Reach} {b0 : Nat} {H : Type} {enc : TypeId × Value → H} {w : World} {base : Nat} {sp : Nat → Bool} {held : Bool} {v : Value} {d : DataW H} {p : List MemPlace}
  (hv : Value.okWide Tryz.prog w r b0 42 v) (h : DataW.Trod enc Tryz.prog w base sp held 42 v d p) : ∃ s, ScrIn w v s := by
 obtain ⟨s, hs, h1, h2, h3, h4, h5, h6⟩ := open_arg opens_scr h
 obtain ⟨cs, rfl, _⟩ := okWide_struct Tryz.underlying42 hv
 simp only [Value.cells] at hs
 refine ⟨s, ?_, h1, h3, h4, h5, h6⟩
 rw [← hs]
section
variable {w0 : World}
theorem Old.cell {S : Nat → Prop} {w : World} (h : (Old w0).on S w) {b o : Nat} {v : Value} (hc : w0.cell? ⟨b, o, none⟩ = some v) : w.cell? ⟨b, o, none⟩ = some v :=
 (World.cell?_of_block (w := w0) (h.2.2.2 b (World.block_lt_of_cell? w0 _ hc)).2).trans hc
theorem Old.rd {sz n : Nat} {a : Option Addr} {xs : List Value} (h : Rd w0 sz a n xs) : Reader (Old w0) sz a n xs := by
 intro S w hS
 refine ⟨h.1, h.2.1, fun hn => ?_⟩
 obtain ⟨b, off, ha, hc⟩ := h.2.2 hn
 exact ⟨b, off, ha, fun i u hu => Old.cell hS (hc i u hu)⟩
theorem Old.scr {pa : Option Addr} {X : List ProgX} (h : ProgsIn w0 pa X) (h0 : 0 < X.length) : ∃ b off, pa = some ⟨b, off, none⟩ ∧ ScrA (Old w0) b off X := by
 obtain ⟨b, off, ha, hc⟩ := h.at_ h0
 refine ⟨b, off, ha, ?_⟩
 refine ⟨fun S w hS k p hk => Old.cell hS (hc k p hk), fun k p hk hl => ?_, fun S w hS k p hk b2 o2 hpa j o hj i v hv => ?_, fun k p hk => (h.prog p (List.mem_of_getElem? hk)).1, fun k p hk j o hj => ?_⟩
 ·obtain ⟨b, off, hb, _⟩ := (h.prog p (List.mem_of_getElem? hk)).2.2.1 hl
  exact ⟨b, off, hb⟩
 ·have hjl := (List.getElem?_eq_some_iff.1 hj).1
  obtain ⟨b', off', hb, hcell⟩ := (h.prog p (List.mem_of_getElem? hk)).2.2.1 (by omega)
  rw [hb] at hpa
  injection hpa with hpa
  injection hpa with e1 e2
  subst e1 e2
  exact Old.cell hS (hcell j o hj i v hv)
 ·obtain ⟨h1, h2⟩ := (h.prog p (List.mem_of_getElem? hk)).2.2.2 o (List.mem_of_getElem? hj)
  exact ⟨Old.rd h2, h1⟩
end
end Go.Proofs.YtchkaaeoffmjnaaGreatDoor
namespace Go.Proofs.YtchkaaeoffmjnaaGreatDoor
set_option linter.unusedVariables false
set_option linter.unusedSimpArgs false
open Go.RowKit
theorem ev_cell {L : List Ev} {j : Nat} {e : Ev} (h : L[j]? = some e) (i : Nat) (hi : i < 8) : (L.flatMap Ev.cells)[j * 8 + i]? = e.cells[i]? := by
 obtain ⟨hk, rfl⟩ := List.getElem?_eq_some_iff.1 h
 exact flat_get Ev.cells 8 (fun _ => rfl) L j i hi hk
end Go.Proofs.YtchkaaeoffmjnaaGreatDoor
namespace Go.Proofs.YtchkaaeoffmjnaaGreatDoor
set_option linter.unusedVariables false
set_option linter.unusedSimpArgs false
open Go.RowKit
set_option maxRecDepth 100000
end Go.Proofs.YtchkaaeoffmjnaaGreatDoor
namespace Go.Proofs.YtchkaaeoffmjnaaGreatDoor
set_option linter.unusedVariables false
set_option linter.unusedSimpArgs false
open Go.RowKit
set_option maxRecDepth 100000
def hop (k a b : Int) : OpX := ⟨⟨k, a, b, [], false⟩, none, 0⟩
section
variable {b7 b9 b10 b11 : Nat}
end
end Go.Proofs.YtchkaaeoffmjnaaGreatDoor
namespace Go.Proofs.YtchkaaeoffmjnaaGreatDoor
set_option linter.unusedVariables false
set_option linter.unusedSimpArgs false
open Go.RowKit
set_option maxRecDepth 100000
end Go.Proofs.YtchkaaeoffmjnaaGreatDoor
namespace Go.Proofs.YtchkaaeoffmjnaaGreatDoor
set_option linter.unusedVariables false
set_option linter.unusedSimpArgs false
open Go.RowKit
set_option maxRecDepth 100000
end Go.Proofs.YtchkaaeoffmjnaaGreatDoor
namespace Go.Proofs.YtchkaaeoffmjnaaGreatDoor
set_option linter.unusedVariables false
set_option linter.unusedSimpArgs false
open Go.RowKit
set_option maxRecDepth 100000
theorem r_serves {w : World} {F : List Piece} (H : SL w F) (e : Ev) : Calls Tryz.prog 32 #[e.agg] w fun o w' => o = .returned (.bool (servesF e)) ∧ SL w' F := by
 obtain ⟨kind, g, chan, case_, value, mate, send, ok⟩ := e
 refine calls_den (args := [_]) Tryz.func32 rfl (Nat.le_of_ble_eq_true (by kernel_rfl)) (by kernel_rfl) ?_
 refine ⟨?_⟩
 refine Nw.as #[.int .i64 kind, .int .i64 g, .int .i64 chan, .int .i64 case_, .int .i64 value, .int .i64 mate, .bool send, .bool ok] 53 rfl H fun b1 w H => ?_
 refine ⟨?_⟩
 refine H.ldi 0 rfl (v := .int .i64 kind) rfl ?_
 refine BB.vr fun q1 e1 => ?_
 cases q1
 ·skip
  have h1 := beq_eq_false_iff_ne.1 e1
  refine H.ldi 0 rfl (v := .int .i64 kind) rfl ?_
  refine BB.vr fun q2 e2 => ?_
  cases q2
  ·skip
   have h2 := beq_eq_false_iff_ne.1 e2
   refine ret1 (fn := Tryz.f32) (.bool false) rfl (by rfl) ?_
   exact ⟨by simp [servesF, *], H.tl⟩
  ·skip
   have h2 := eq_of_beq e2
   subst h2
   refine H.ldi 0 rfl (v := .int .i64 mate) rfl ?_
   refine BB.k ?_
   refine ret1 (fn := Tryz.f32) (.bool (decide (mate ≥ 0))) rfl (by rfl) ?_
   exact ⟨by simp [servesF, *], H.tl⟩
 ·skip
  have h1 := eq_of_beq e1
  subst h1
  refine H.ldi 0 rfl (v := .int .i64 mate) rfl ?_
  refine BB.k ?_
  refine ret1 (fn := Tryz.f32) (.bool (decide (mate ≥ 0))) rfl (by rfl) ?_
  exact ⟨by simp [servesF, *], H.tl⟩
end Go.Proofs.YtchkaaeoffmjnaaGreatDoor
namespace Go.Proofs.YtchkaaeoffmjnaaGreatDoor
set_option linter.unusedVariables false
set_option linter.unusedSimpArgs false
open Go.RowKit
set_option maxRecDepth 100000
end Go.Proofs.YtchkaaeoffmjnaaGreatDoor
namespace Go.Proofs.YtchkaaeoffmjnaaGreatDoor
set_option linter.unusedVariables false
set_option linter.unusedSimpArgs false
open Go.RowKit
set_option maxRecDepth 100000
end Go.Proofs.YtchkaaeoffmjnaaGreatDoor
namespace Go.Proofs.YtchkaaeoffmjnaaGreatDoor
set_option linter.unusedVariables false
set_option linter.unusedSimpArgs false
open Go.RowKit
theorem e_in (n a b : Int) (w : World) : Calls Tryz.prog 59 #[.agg #[.int .i64 a, .int .i64 b], .int .i64 n] w fun e w' => e = .returned (.bool (inn a b n)) ∧ Frm Nil w w' := by
 unfold inn
 by_cases h1 : a ≤ n <;> by_cases h2 : n ≤ b <;> simp only [h1, h2, decide_true, decide_false, Bool.and_true, Bool.and_false]
 all_goals
  go_enter Tryz.func59, Tryz.ntmps59
  go_wp2_with fail
  go_ret
  exact ⟨rfl, (Frm.refl _ _).alloc _⟩
set_option maxHeartbeats 2000000 in
theorem e_odd (e : Ev) (w : World) : Calls Tryz.prog 60 #[e.agg] w fun o w' => o = .returned (.bool (oddF e)) ∧ Frm Nil w w' := by
 obtain ⟨kind, g, chan, case_, value, mate, send, ok⟩ := e
 have hb : ∀ x y : Int, (x == y) = decide (x = y) := fun _ _ => rfl
 unfold oddF Ev.agg
 dsimp only
 by_cases h3 : kind = 3
 ·subst h3
  rw [if_pos rfl]
  go_enter Tryz.func60, Tryz.ntmps60
  go_wp2_with fail
  go_ret
  exact ⟨rfl, (Frm.refl _ _).alloc _⟩
 ·rw [if_neg h3]
  have e3 : (kind == 3) = false := beq_eq_false_iff_ne.2 h3
  by_cases h4 : kind = 4
  ·subst h4
   rw [if_pos rfl]
   cases ok
   ·by_cases hv : value = 0
    ·subst hv
     by_cases hm : mate = -1
     ·subst hm
      go_enter Tryz.func60, Tryz.ntmps60
      go_wp2_with fail
      go_ret
      exact ⟨rfl, (Frm.refl _ _).alloc _⟩
     ·have em : (mate == -1) = false := beq_eq_false_iff_ne.2 hm
      have em2 : (mate != -1) = true := by simp [hm]
      go_enter Tryz.func60, Tryz.ntmps60
      go_wp2_with fail
      go_ret
      exact ⟨by rw [em2]; rfl, (Frm.refl _ _).alloc _⟩
    ·have em : (value == 0) = false := beq_eq_false_iff_ne.2 hv
     have em2 : (value != 0) = true := by simp [hv]
     go_enter Tryz.func60, Tryz.ntmps60
     go_wp2_with fail
     go_ret
     exact ⟨by rw [em2]; rfl, (Frm.refl _ _).alloc _⟩
   ·go_enter Tryz.func60, Tryz.ntmps60
    go_wp2_with fail
    go_ret
    exact ⟨rfl, (Frm.refl _ _).alloc _⟩
  ·rw [if_neg h4]
   have e4 : (kind == 4) = false := beq_eq_false_iff_ne.2 h4
   by_cases h6 : kind = 6
   ·subst h6
    rw [if_pos rfl]
    rcases Decidable.em (value = 0) with hv | hv <;> rcases Decidable.em (0 ≤ case_) with hc | hc <;> rcases Decidable.em (0 ≤ chan) with hh | hh
    all_goals
     have ev : (value == 0) = decide (value = 0) := rfl
     have ev2 : (value != 0) = !decide (value = 0) := rfl
     simp only [hv, hc, hh, decide_true, decide_false, Bool.not_true, Bool.not_false] at ev ev2 ⊢
     cases send
     all_goals
      go_enter Tryz.func60, Tryz.ntmps60
      go_wp2_with fail
      go_ret
      exact ⟨by first | rfl | simp [ev2, hc, hh, hv], (Frm.refl _ _).alloc _⟩
   ·rw [if_neg h6]
    have e6 : (kind == 6) = false := beq_eq_false_iff_ne.2 h6
    by_cases h7 : kind = 7
    ·subst h7
     rw [if_pos rfl]
     rcases Decidable.em (value = 0) with hv | hv
     all_goals
      have ev : (value == 0) = decide (value = 0) := rfl
      have ev2 : (value != 0) = !decide (value = 0) := rfl
      simp only [hv, decide_true, decide_false, Bool.not_true, Bool.not_false] at ev ev2 ⊢
      cases send <;> cases ok
      all_goals
       go_enter Tryz.func60, Tryz.ntmps60
       go_wp2_with fail
       go_ret
       exact ⟨by first | rfl | simp [ev2, hv], (Frm.refl _ _).alloc _⟩
    ·rw [if_neg h7]
     have e7 : (kind == 7) = false := beq_eq_false_iff_ne.2 h7
     go_enter Tryz.func60, Tryz.ntmps60
     go_wp2_with fail
     go_ret
     exact ⟨by first | rfl | simp [hb], (Frm.refl _ _).alloc _⟩
end Go.Proofs.YtchkaaeoffmjnaaGreatDoor
namespace Go.Proofs.YtchkaaeoffmjnaaGreatDoor
set_option linter.unusedVariables false
open Go.RowKit
set_option maxRecDepth 100000
end Go.Proofs.YtchkaaeoffmjnaaGreatDoor
namespace Go.Proofs.YtchkaaeoffmjnaaGreatDoor
set_option linter.unusedVariables false
set_option linter.unusedSimpArgs false
open Go.RowKit
set_option maxRecDepth 100000
end Go.Proofs.YtchkaaeoffmjnaaGreatDoor
namespace Go.Proofs.YtchkaaeoffmjnaaGreatDoor
set_option linter.unusedVariables false
set_option linter.unusedSimpArgs false
def oneC (x : Bool × Bool) : List Value := [.bool x.1, .bool x.2]
def crewC (cr : List (Bool × Bool)) : List Value := cr.flatMap oneC
theorem oneC_len (x : Bool × Bool) : (oneC x).length = 2 := rfl
theorem crewC_length (cr : List (Bool × Bool)) : (crewC cr).length = cr.length * 2 := flat_length oneC 2 oneC_len cr
theorem crewC_0 {cr : List (Bool × Bool)} {j : Nat} {a b : Bool} (h : cr[j]? = some (a, b)) : (crewC cr)[j * 2]? = some (.bool a) := by
 obtain ⟨hj, e⟩ := List.getElem?_eq_some_iff.1 h
 have := flat_get oneC 2 oneC_len cr j 0 (by decide) hj
 rw [e] at this
 exact this
theorem crewC_1 {cr : List (Bool × Bool)} {j : Nat} {a b : Bool} (h : cr[j]? = some (a, b)) : (crewC cr)[j * 2 + 1]? = some (.bool b) := by
 obtain ⟨hj, e⟩ := List.getElem?_eq_some_iff.1 h
 have := flat_get oneC 2 oneC_len cr j 1 (by decide) hj
 rw [e] at this
 exact this
theorem crewC_lt {cr : List (Bool × Bool)} {j : Nat} {a b : Bool} (h : cr[j]? = some (a, b)) : j * 2 < (crewC cr).length ∧ j * 2 + 1 < (crewC cr).length := by
 obtain ⟨hj, e⟩ := List.getElem?_eq_some_iff.1 h
 rw [crewC_length]
 omega
theorem crewC_set0 {cr : List (Bool × Bool)} {j : Nat} {a b : Bool} (c : Bool) (h : cr[j]? = some (a, b)) : (crewC cr).set (j * 2) (.bool c) = crewC (cr.set j (c, b)) := by
 obtain ⟨hj, e⟩ := List.getElem?_eq_some_iff.1 h
 exact flat_set oneC 2 oneC_len cr j 0 _ (c, b) hj (by decide) (by rw [e]; rfl)
theorem crewC_set1 {cr : List (Bool × Bool)} {j : Nat} {a b : Bool} (c : Bool) (h : cr[j]? = some (a, b)) : (crewC cr).set (j * 2 + 1) (.bool c) = crewC (cr.set j (a, c)) := by
 obtain ⟨hj, e⟩ := List.getElem?_eq_some_iff.1 h
 exact flat_set oneC 2 oneC_len cr j 1 _ (a, c) hj (by decide) (by rw [e]; rfl)
theorem crewC_app (cr : List (Bool × Bool)) : crewC cr ++ [.bool false, .bool false] = crewC (cr ++ [(false, false)]) := (flat_one oneC cr (false, false)).symm
end Go.Proofs.YtchkaaeoffmjnaaGreatDoor
namespace Go.Proofs.YtchkaaeoffmjnaaGreatDoor
set_option linter.unusedVariables false
set_option linter.unusedSimpArgs false
open Go.RowKit
set_option maxRecDepth 100000
theorem g_serves {w : World} {F : List Piece} (H : SL w F) (e : Ev) : Calls Tryz.prog 67 #[e.agg] w fun o w' => o = .returned (.bool (servesF e)) ∧ SL w' F := by
 obtain ⟨kind, g, chan, case_, value, mate, send, ok⟩ := e
 refine calls_den (args := [_]) Tryz.func67 rfl (Nat.le_of_ble_eq_true (by kernel_rfl)) (by kernel_rfl) ?_
 refine ⟨?_⟩
 refine Nw.as #[.int .i64 kind, .int .i64 g, .int .i64 chan, .int .i64 case_, .int .i64 value, .int .i64 mate, .bool send, .bool ok] 53 rfl H fun b1 w H => ?_
 refine ⟨?_⟩
 refine H.ldi 0 rfl (v := .int .i64 mate) rfl ?_
 refine BB.vr fun q1 e1 => ?_
 cases q1
 ·skip
  have h1 := of_decide_eq_false e1
  refine ret1 (fn := Tryz.f67) (.bool false) rfl (by rfl) ?_
  exact ⟨by simp [servesF, *], H.tl⟩
 ·skip
  have h1 := of_decide_eq_true e1
  refine H.ldi 0 rfl (v := .int .i64 kind) rfl ?_
  refine BB.vr fun q2 e2 => ?_
  cases q2
  ·skip
   have h2 := beq_eq_false_iff_ne.1 e2
   refine H.ldi 0 rfl (v := .int .i64 kind) rfl ?_
   refine BB.k ?_
   refine ret1 (fn := Tryz.f67) (.bool (kind == 4)) rfl (by rfl) ?_
   exact ⟨by simp [servesF, *], H.tl⟩
  ·skip
   have h2 := eq_of_beq e2
   subst h2
   refine ret1 (fn := Tryz.f67) (.bool true) rfl (by rfl) ?_
   exact ⟨by simp [servesF, *], H.tl⟩
@[reducible] def rdrRow (rb : Nat) (lv : Value) (at_ : Int) (crv : Value) (mb : Nat) (c : Ev) (over : Bool) : Piece := row rb #[lv, .int .i64 at_, crv, .map (some mb), .int .i64 c.kind, .int .i64 c.g, .int .i64 c.chan, .int .i64 c.case_, .int .i64 c.value, .int .i64 c.mate, .bool c.send, .bool c.ok, .bool over] 125
theorem set_at {α : Type} {l : List α} {j : Nat} {x : α} (h : l[j]? = some x) (y : α) : (l.set j y)[j]? = some y := by
 obtain ⟨hj, _⟩ := List.getElem?_eq_some_iff.1 h
 simp [hj]
set_option maxHeartbeats 1000000 in
theorem crewed_in {w : World} {F : List Piece} {rb cb mb cap gn : Nat} {lv : Value} {at_ : Int} {c : Ev} {cr : List (Bool × Bool)} {wa ex : Bool} {kind chan case_ value mate : Int} {send ok : Bool} (h13 : kind ≠ 13) (hx : cr[gn]? = some (wa, ex)) (hn : cr.length < 100000000)
  (H : SL w (row rb #[lv, .int .i64 at_, .slice (some ⟨cb, 0, none⟩) cr.length cap, .map (some mb), .int .i64 c.kind, .int .i64 c.g, .int .i64 c.chan, .int .i64 c.case_, .int .i64 c.value, .int .i64 c.mate, .bool c.send, .bool c.ok, .bool false] 125 :: Slc 242 2 (.slice (some ⟨cb, 0, none⟩) cr.length cap) cr.length (crewC cr) :: F)) (chans : List ChnM) :
  Calls Tryz.prog 116 #[.pointer (some ⟨rb, 0, none⟩), (Ev.mk kind gn chan case_ value mate send ok).agg] w fun o w' => o = .returned (.bool (crewedF ⟨cr, chans, c, false⟩ ⟨kind, gn, chan, case_, value, mate, send, ok⟩).1) ∧
   ∃ crv, SL w' (rdrRow rb lv at_ crv mb c (crewedF ⟨cr, chans, c, false⟩ ⟨kind, gn, chan, case_, value, mate, send, ok⟩).2.over :: Slc 242 2 crv (crewedF ⟨cr, chans, c, false⟩ ⟨kind, gn, chan, case_, value, mate, send, ok⟩).2.crew.length (crewC (crewedF ⟨cr, chans, c, false⟩ ⟨kind, gn, chan, case_, value, mate, send, ok⟩).2.crew) :: F) := by
 have hlt : gn < cr.length := (List.getElem?_eq_some_iff.1 hx).1
 refine calls_den (args := [_, _]) Tryz.func116 rfl (Nat.le_of_ble_eq_true (by kernel_rfl)) (by kernel_rfl) ?_
 refine ⟨?_⟩
 refine Nw.as #[.int .i64 kind, .int .i64 ↑gn, .int .i64 chan, .int .i64 case_, .int .i64 value, .int .i64 mate, .bool send, .bool ok] 53 rfl H fun b3 w H => ?_
 refine ⟨?_⟩
 refine ⟨?_⟩
 refine H.ldi 1 rfl (v := .bool false) rfl ?_
 refine BB.no rfl ?_
 refine Cn.no ?_
 refine ⟨?_⟩
 refine H.ldi 0 rfl (v := .int .i64 kind) rfl ?_
 refine BB.no (show (kind == 13) = false from beq_eq_false_iff_ne.2 h13) ?_
 refine Cn.no ?_
 refine ⟨?_⟩
 refine Drw.of [(0, true), (1, true), (2, true), (3, true), (4, true), (5, true), (6, true), (7, true), (8, true), (9, true), (10, true), (11, true), (12, true), (13, true), (14, true), (15, true), (16, true), (17, true), (18, true), (19, true)] (by kernel_rfl) mixed (fun w => SL w _) H.drew ?_
 replace H := H.drew
 refine LdC.i 0 rfl (v := .int .i64 ↑gn) rfl ?_
 refine LdC.i 1 rfl (v := .slice (some ⟨cb, 0, none⟩) cr.length cap) rfl ?_
 refine BB.no (decide_eq_false (show ¬ ((gn : Int) ≥ (cr.length : Int)) by omega)) ?_
 refine LdC.i 1 rfl (v := .slice (some ⟨cb, 0, none⟩) cr.length cap) rfl ?_
 refine LdC.i 0 rfl (v := .int .i64 ↑gn) rfl ?_
 refine Ix.at0 gn 2 (by kernel_rfl) (rfl) (hlt) ?_
 refine LdC.S 2 rfl (v := .bool ex) (crewC_1 hx) ?_
 refine BB.k ?_
 cases ex
 ·skip
  refine Cn.no ?_
  refine ⟨?_⟩
  refine Drw.of [(0, true), (1, true), (2, true), (3, true), (4, true), (5, true), (6, true), (7, true), (8, true), (9, true), (10, true), (11, true), (12, true), (13, true), (14, true), (15, true), (16, true), (17, true), (18, true)] (by kernel_rfl) mixed (fun w => SL w _) H.drew ?_
  replace H := H.drew
  refine LdC.i 0 rfl (v := .int .i64 kind) rfl ?_
  refine BB.vr fun q1 e1 => ?_
  cases q1
  ·skip
   have h1 := bne_eq_false_iff_eq.1 e1
   subst h1
   refine Cn.no ?_
   refine ⟨?_⟩
   refine Drw.of [(0, true), (1, true), (2, true), (3, true), (4, true), (5, true), (6, true), (7, true)] (by kernel_rfl) mixed (fun w => SL w _) H.drew ?_
   replace H := H.drew
   refine LdC.i 1 rfl (v := .slice (some ⟨cb, 0, none⟩) cr.length cap) rfl ?_
   refine LdC.i 0 rfl (v := .int .i64 ↑gn) rfl ?_
   refine Ix.at0 gn 2 (by kernel_rfl) (rfl) (hlt) ?_
   refine ⟨?_⟩
   refine H.ldi 0 rfl (v := .int .i64 12) rfl ?_
   refine BB.no rfl ?_
   refine SL.stS (o := gn * 2) (u := .bool false) H.up2 ((crewC_lt hx).1) rfl fun w H => ?_
   rw [crewC_set0 _ hx] at H
   replace H := H.dn2
   refine ⟨?_⟩
   refine H.ldi 0 rfl (v := .int .i64 12) rfl ?_
   refine BB.no rfl ?_
   refine SL.stS (o := gn * 2 + 1) (u := .bool false) H.up2 ((crewC_lt (set_at hx _)).2) rfl fun w H => ?_
   rw [crewC_set1 _ (set_at hx _), List.set_set] at H
   replace H := H.dn2
   refine ⟨?_⟩
   refine H.ldi 0 rfl (v := .int .i64 12) rfl ?_
   refine BB.yes rfl ?_
   refine H.st1 (cs' := #[lv, .int .i64 at_, .slice (some ⟨cb, 0, none⟩) cr.length cap, .map (some mb), .int .i64 c.kind, .int .i64 c.g, .int .i64 c.chan, .int .i64 c.case_, .int .i64 c.value, .int .i64 c.mate, .bool c.send, .bool c.ok, .bool true]) rfl rfl rfl fun w H => ?_
   refine ⟨?_⟩
   refine H.ldi 0 rfl (v := .int .i64 12) rfl ?_
   refine BB.no rfl ?_
   refine Cn.no ?_
   refine ⟨?_⟩
   refine ret1 (fn := Tryz.f116) (.bool true) rfl (by rfl) ?_
   have hc : crewedF ⟨cr, chans, c, false⟩ ⟨12, ↑gn, chan, case_, value, mate, send, ok⟩ = (true, ⟨(cr.set gn (false, false)), chans, c, true⟩) := by
    unfold crewedF
    simp only [Int.toNat_natCast, hx]
    first | (simp [*]; done) | (cases wa <;> simp_all; done) | (cases wa <;> by_cases h7 : kind = 7 <;> simp_all)
   rw [hc]
   exact ⟨rfl, _, by simp only [List.length_set]; exact H.tl⟩
  ·skip
   have h1 := bne_iff_ne.1 e1
   refine LdC.i 1 rfl (v := .slice (some ⟨cb, 0, none⟩) cr.length cap) rfl ?_
   refine LdC.i 0 rfl (v := .int .i64 ↑gn) rfl ?_
   refine Ix.at0 gn 2 (by kernel_rfl) (rfl) (hlt) ?_
   refine LdC.S 2 rfl (v := .bool wa) (crewC_0 hx) ?_
   refine BB.k ?_
   refine LdC.i 0 rfl (v := .int .i64 kind) rfl ?_
   refine BB.k ?_
   refine BB.vr fun q2 e2 => ?_
   cases q2
   ·skip
    refine Cn.no ?_
    refine ⟨?_⟩
    refine Drw.of [(0, true), (1, true), (2, true), (3, true), (4, true), (5, true), (6, true), (7, true)] (by kernel_rfl) mixed (fun w => SL w _) H.drew ?_
    replace H := H.drew
    refine LdC.i 1 rfl (v := .slice (some ⟨cb, 0, none⟩) cr.length cap) rfl ?_
    refine LdC.i 0 rfl (v := .int .i64 ↑gn) rfl ?_
    refine Ix.at0 gn 2 (by kernel_rfl) (rfl) (hlt) ?_
    refine ⟨?_⟩
    refine H.ldi 0 rfl (v := .int .i64 kind) rfl ?_
    refine BB.k ?_
    refine SL.stS (o := gn * 2) (u := .bool (kind == 6)) H.up2 ((crewC_lt hx).1) rfl fun w H => ?_
    rw [crewC_set0 _ hx] at H
    replace H := H.dn2
    refine ⟨?_⟩
    refine H.ldi 0 rfl (v := .int .i64 kind) rfl ?_
    refine BB.k ?_
    refine SL.stS (o := gn * 2 + 1) (u := .bool (kind == 11)) H.up2 ((crewC_lt (set_at hx _)).2) rfl fun w H => ?_
    rw [crewC_set1 _ (set_at hx _), List.set_set] at H
    replace H := H.dn2
    refine ⟨?_⟩
    refine H.ldi 0 rfl (v := .int .i64 kind) rfl ?_
    refine BB.no (beq_eq_false_iff_ne.2 h1) ?_
    refine H.st1 (cs' := #[lv, .int .i64 at_, .slice (some ⟨cb, 0, none⟩) cr.length cap, .map (some mb), .int .i64 c.kind, .int .i64 c.g, .int .i64 c.chan, .int .i64 c.case_, .int .i64 c.value, .int .i64 c.mate, .bool c.send, .bool c.ok, .bool false]) rfl rfl rfl fun w H => ?_
    refine ⟨?_⟩
    refine H.ldi 0 rfl (v := .int .i64 kind) rfl ?_
    refine BB.vr fun q3 e3 => ?_
    cases q3
    ·skip
     have h3 := beq_eq_false_iff_ne.1 e3
     refine Cn.no ?_
     refine ⟨?_⟩
     refine ret1 (fn := Tryz.f116) (.bool true) rfl (by rfl) ?_
     have hc : crewedF ⟨cr, chans, c, false⟩ ⟨kind, ↑gn, chan, case_, value, mate, send, ok⟩ = (true, ⟨(cr.set gn (kind == 6, kind == 11)), chans, c, false⟩) := by
      unfold crewedF
      simp only [Int.toNat_natCast, hx]
      first | (simp [*]; done) | (cases wa <;> simp_all; done) | (cases wa <;> by_cases h7 : kind = 7 <;> simp_all)
     rw [hc]
     exact ⟨rfl, _, by simp only [List.length_set]; exact H.tl⟩
    ·skip
     have h3 := eq_of_beq e3
     subst h3
     refine Cn.yes ?_
     refine ⟨?_⟩
     refine Drw.of [(0, true), (1, true), (2, true), (3, true), (4, true), (5, true), (6, true), (7, true)] (by kernel_rfl) mixed (fun w => SL w _) H.drew ?_
     replace H := H.drew
     refine LdC.i 0 rfl (v := .int .i64 mate) rfl ?_
     refine LdC.i 1 rfl (v := .slice (some ⟨cb, 0, none⟩) cr.length cap) rfl ?_
     refine BB.vr fun q4 e4 => ?_
     cases q4
     ·skip
      have h4 := bne_eq_false_iff_eq.1 e4
      subst h4
      refine Cn.no ?_
      refine ⟨?_⟩
      refine H.ldi 1 rfl (v := .slice (some ⟨cb, 0, none⟩) cr.length cap) rfl ?_
      refine Mn.pure (.agg #[.bool false, .bool false]) (by kernel_rfl) ?_
      refine Mn.new (fun b => .slice (some ⟨b, 0, none⟩) 1 1) #[.bool false, .bool false] 242 (by kernel_rfl) H fun b96 w H => ?_
      refine SL.appS H.up3 (.tmp 94) (.tmp 96) 122 (.agg #[.bool false, .bool false]) 2 (by rfl) (by kernel_rfl) (by kernel_rfl) (by rfl) (by decide) (by rfl) (some ⟨b96, 0, none⟩) 1 1 [.bool false, .bool false] (by rfl) (H.rdRow 0 rfl (by rfl) (by decide)) (by rfl) (by omega) (by decide) (by decide) fun g5 c5 w H => ?_
      refine H.st3 (cs' := #[lv, .int .i64 at_, .slice (some ⟨g5, 0, none⟩) (cr.length + 1) c5, .map (some mb), .int .i64 c.kind, .int .i64 c.g, .int .i64 c.chan, .int .i64 c.case_, .int .i64 c.value, .int .i64 c.mate, .bool c.send, .bool c.ok, .bool false]) rfl rfl rfl fun w H => ?_
      refine ⟨?_⟩
      refine ret1 (fn := Tryz.f116) (.bool true) rfl (by rfl) ?_
      have hc : crewedF ⟨cr, chans, c, false⟩ ⟨1, ↑gn, chan, case_, value, ↑cr.length, send, ok⟩ = (true, ⟨(cr.set gn (1 == 6, 1 == 11) ++ [(false, false)]), chans, c, false⟩) := by
       unfold crewedF
       simp only [Int.toNat_natCast, hx]
       first | (simp [*]; done) | (cases wa <;> simp_all; done) | (cases wa <;> by_cases h7 : kind = 7 <;> simp_all)
      rw [hc]
      exact ⟨rfl, _, by rw [← crewC_app]; simp only [List.length_set, List.length_append, List.length_singleton]; exact H.drop1.drop1.up1⟩
     ·skip
      have h4 := bne_iff_ne.1 e4
      refine Cn.yes ?_
      refine ⟨?_⟩
      refine ret1 (fn := Tryz.f116) (.bool false) rfl (by rfl) ?_
      have hc : crewedF ⟨cr, chans, c, false⟩ ⟨1, ↑gn, chan, case_, value, mate, send, ok⟩ = (false, ⟨(cr.set gn (1 == 6, 1 == 11)), chans, c, false⟩) := by
       unfold crewedF
       simp only [Int.toNat_natCast, hx]
       first | (simp [*]; done) | (cases wa <;> simp_all; done) | (cases wa <;> by_cases h7 : kind = 7 <;> simp_all)
      rw [hc]
      exact ⟨rfl, _, by simp only [List.length_set]; exact H.tl⟩
   ·skip
    refine Cn.yes ?_
    refine ⟨?_⟩
    refine ret1 (fn := Tryz.f116) (.bool false) rfl (by rfl) ?_
    have hc : crewedF ⟨cr, chans, c, false⟩ ⟨kind, ↑gn, chan, case_, value, mate, send, ok⟩ = (false, ⟨cr, chans, c, false⟩) := by
     unfold crewedF
     simp only [Int.toNat_natCast, hx]
     first | (simp [*]; done) | (cases wa <;> simp_all; done) | (cases wa <;> by_cases h7 : kind = 7 <;> simp_all)
    rw [hc]
    exact ⟨rfl, _, by simp only [List.length_set]; exact H.tl⟩
 ·skip
  refine Cn.yes ?_
  refine ⟨?_⟩
  refine ret1 (fn := Tryz.f116) (.bool false) rfl (by rfl) ?_
  have hc : crewedF ⟨cr, chans, c, false⟩ ⟨kind, ↑gn, chan, case_, value, mate, send, ok⟩ = (false, ⟨cr, chans, c, false⟩) := by
   unfold crewedF
   simp only [Int.toNat_natCast, hx]
   first | (simp [*]; done) | (cases wa <;> simp_all; done) | (cases wa <;> by_cases h7 : kind = 7 <;> simp_all)
  rw [hc]
  exact ⟨rfl, _, by simp only [List.length_set]; exact H.tl⟩
theorem crewed_over {w : World} {F : List Piece} {rb cb mb cap gn : Nat} {lv crv : Value} {at_ : Int} {c : Ev} {cr : List (Bool × Bool)} {kind g chan case_ value mate : Int} {send ok : Bool} 
  (H : SL w (row rb #[lv, .int .i64 at_, crv, .map (some mb), .int .i64 c.kind, .int .i64 c.g, .int .i64 c.chan, .int .i64 c.case_, .int .i64 c.value, .int .i64 c.mate, .bool c.send, .bool c.ok, .bool true] 125 :: Slc 242 2 (crv) cr.length (crewC cr) :: F)) (chans : List ChnM) :
  Calls Tryz.prog 116 #[.pointer (some ⟨rb, 0, none⟩), (Ev.mk kind g chan case_ value mate send ok).agg] w fun o w' => o = .returned (.bool (crewedF ⟨cr, chans, c, true⟩ ⟨kind, g, chan, case_, value, mate, send, ok⟩).1) ∧
   ∃ crv, SL w' (rdrRow rb lv at_ crv mb c (crewedF ⟨cr, chans, c, true⟩ ⟨kind, g, chan, case_, value, mate, send, ok⟩).2.over :: Slc 242 2 crv (crewedF ⟨cr, chans, c, true⟩ ⟨kind, g, chan, case_, value, mate, send, ok⟩).2.crew.length (crewC (crewedF ⟨cr, chans, c, true⟩ ⟨kind, g, chan, case_, value, mate, send, ok⟩).2.crew) :: F) := by
 refine calls_den (args := [_, _]) Tryz.func116 rfl (Nat.le_of_ble_eq_true (by kernel_rfl)) (by kernel_rfl) ?_
 refine ⟨?_⟩
 refine Nw.as #[.int .i64 kind, .int .i64 g, .int .i64 chan, .int .i64 case_, .int .i64 value, .int .i64 mate, .bool send, .bool ok] 53 rfl H fun b3 w H => ?_
 refine ⟨?_⟩
 refine ⟨?_⟩
 refine H.ldi 1 rfl (v := .bool true) rfl ?_
 refine BB.yes rfl ?_
 refine Cn.yes ?_
 refine ⟨?_⟩
 refine ret1 (fn := Tryz.f116) (.bool false) rfl (by rfl) ?_
 have hc : crewedF ⟨cr, chans, c, true⟩ ⟨kind, g, chan, case_, value, mate, send, ok⟩ = (false, ⟨cr, chans, c, true⟩) := by
  rfl
 rw [hc]
 exact ⟨rfl, _, H.tl⟩
theorem crewed_13 {w : World} {F : List Piece} {rb cb mb cap gn : Nat} {lv crv : Value} {at_ : Int} {c : Ev} {cr : List (Bool × Bool)} {kind g chan case_ value mate : Int} {send ok : Bool} 
  (H : SL w (row rb #[lv, .int .i64 at_, crv, .map (some mb), .int .i64 c.kind, .int .i64 c.g, .int .i64 c.chan, .int .i64 c.case_, .int .i64 c.value, .int .i64 c.mate, .bool c.send, .bool c.ok, .bool false] 125 :: Slc 242 2 (crv) cr.length (crewC cr) :: F)) (chans : List ChnM) :
  Calls Tryz.prog 116 #[.pointer (some ⟨rb, 0, none⟩), (Ev.mk 13 g chan case_ value mate send ok).agg] w fun o w' => o = .returned (.bool (crewedF ⟨cr, chans, c, false⟩ ⟨13, g, chan, case_, value, mate, send, ok⟩).1) ∧
   ∃ crv, SL w' (rdrRow rb lv at_ crv mb c (crewedF ⟨cr, chans, c, false⟩ ⟨13, g, chan, case_, value, mate, send, ok⟩).2.over :: Slc 242 2 crv (crewedF ⟨cr, chans, c, false⟩ ⟨13, g, chan, case_, value, mate, send, ok⟩).2.crew.length (crewC (crewedF ⟨cr, chans, c, false⟩ ⟨13, g, chan, case_, value, mate, send, ok⟩).2.crew) :: F) := by
 refine calls_den (args := [_, _]) Tryz.func116 rfl (Nat.le_of_ble_eq_true (by kernel_rfl)) (by kernel_rfl) ?_
 refine ⟨?_⟩
 refine Nw.as #[.int .i64 13, .int .i64 g, .int .i64 chan, .int .i64 case_, .int .i64 value, .int .i64 mate, .bool send, .bool ok] 53 rfl H fun b3 w H => ?_
 refine ⟨?_⟩
 refine ⟨?_⟩
 refine H.ldi 1 rfl (v := .bool false) rfl ?_
 refine BB.no rfl ?_
 refine Cn.no ?_
 refine ⟨?_⟩
 refine H.ldi 0 rfl (v := .int .i64 13) rfl ?_
 refine BB.yes rfl ?_
 refine Cn.yes ?_
 refine ⟨?_⟩
 refine ret1 (fn := Tryz.f116) (.bool true) rfl (by rfl) ?_
 have hc : crewedF ⟨cr, chans, c, false⟩ ⟨13, g, chan, case_, value, mate, send, ok⟩ = (true, ⟨cr, chans, c, false⟩) := by
  rfl
 rw [hc]
 exact ⟨rfl, _, H.tl⟩
theorem crewed_none {w : World} {F : List Piece} {rb cb mb cap gn : Nat} {lv crv : Value} {at_ : Int} {c : Ev} {cr : List (Bool × Bool)} {kind g chan case_ value mate : Int} {send ok : Bool} (h13 : kind ≠ 13) (hx : cr.length ≤ gn)
  (H : SL w (row rb #[lv, .int .i64 at_, .slice (some ⟨cb, 0, none⟩) cr.length cap, .map (some mb), .int .i64 c.kind, .int .i64 c.g, .int .i64 c.chan, .int .i64 c.case_, .int .i64 c.value, .int .i64 c.mate, .bool c.send, .bool c.ok, .bool false] 125 :: Slc 242 2 (.slice (some ⟨cb, 0, none⟩) cr.length cap) cr.length (crewC cr) :: F)) (chans : List ChnM) :
  Calls Tryz.prog 116 #[.pointer (some ⟨rb, 0, none⟩), (Ev.mk kind ↑gn chan case_ value mate send ok).agg] w fun o w' => o = .returned (.bool (crewedF ⟨cr, chans, c, false⟩ ⟨kind, ↑gn, chan, case_, value, mate, send, ok⟩).1) ∧
   ∃ crv, SL w' (rdrRow rb lv at_ crv mb c (crewedF ⟨cr, chans, c, false⟩ ⟨kind, ↑gn, chan, case_, value, mate, send, ok⟩).2.over :: Slc 242 2 crv (crewedF ⟨cr, chans, c, false⟩ ⟨kind, ↑gn, chan, case_, value, mate, send, ok⟩).2.crew.length (crewC (crewedF ⟨cr, chans, c, false⟩ ⟨kind, ↑gn, chan, case_, value, mate, send, ok⟩).2.crew) :: F) := by
 refine calls_den (args := [_, _]) Tryz.func116 rfl (Nat.le_of_ble_eq_true (by kernel_rfl)) (by kernel_rfl) ?_
 refine ⟨?_⟩
 refine Nw.as #[.int .i64 kind, .int .i64 ↑gn, .int .i64 chan, .int .i64 case_, .int .i64 value, .int .i64 mate, .bool send, .bool ok] 53 rfl H fun b3 w H => ?_
 refine ⟨?_⟩
 refine ⟨?_⟩
 refine H.ldi 1 rfl (v := .bool false) rfl ?_
 refine BB.no rfl ?_
 refine Cn.no ?_
 refine ⟨?_⟩
 refine H.ldi 0 rfl (v := .int .i64 kind) rfl ?_
 refine BB.no (show (kind == 13) = false from beq_eq_false_iff_ne.2 h13) ?_
 refine Cn.no ?_
 refine ⟨?_⟩
 refine Drw.of [(0, true), (1, true), (2, true), (3, true), (4, true), (5, true), (6, true), (7, true), (8, true), (9, true), (10, true), (11, true), (12, true), (13, true), (14, true), (15, true), (16, true), (17, true), (18, true), (19, true)] (by kernel_rfl) mixed (fun w => SL w _) H.drew ?_
 replace H := H.drew
 refine LdC.i 0 rfl (v := .int .i64 ↑gn) rfl ?_
 refine LdC.i 1 rfl (v := .slice (some ⟨cb, 0, none⟩) cr.length cap) rfl ?_
 refine BB.yes (decide_eq_true (show (gn : Int) ≥ (cr.length : Int) by omega)) ?_
 refine Cn.yes ?_
 refine ⟨?_⟩
 refine ret1 (fn := Tryz.f116) (.bool false) rfl (by rfl) ?_
 have hc : crewedF ⟨cr, chans, c, false⟩ ⟨kind, ↑gn, chan, case_, value, mate, send, ok⟩ = (false, ⟨cr, chans, c, false⟩) := by
  simp [crewedF, h13, List.getElem?_eq_none hx]
 rw [hc]
 exact ⟨rfl, _, H.tl⟩
end Go.Proofs.YtchkaaeoffmjnaaGreatDoor
namespace Go.Proofs.YtchkaaeoffmjnaaGreatDoor
set_option linter.unusedVariables false
set_option linter.unusedSimpArgs false
open Go.RowKit
/-- What entry lets by lies in these bounds. -/
structure EvB (e : Ev) : Prop where
 kind : 1 ≤ e.kind ∧ e.kind ≤ 13
 g : -1 ≤ e.g ∧ e.g ≤ 511
 g0 : e.kind ≠ 13 → 0 ≤ e.g
 chan : -1 ≤ e.chan ∧ e.chan ≤ 511
 mate : -1 ≤ e.mate ∧ e.mate ≤ 511
 value : -1 ≤ e.value ∧ e.value ≤ 99
/-- A channel: its row and its buffer. -/
def chP (p : Nat) (c : ChnM) : Piece := exP fun v => all [row p #[.int .i64 c.size, v, .bool c.closed] 246, Qu 3 1 v c.buf.length (ints c.buf)]
def chMap (ps : List Nat) : Int → Option Value := fun c => if c < 0 then none else (ps[c.toNat]?).map fun p => .pointer (some ⟨p, 0, none⟩)
def chsP (ps : List Nat) (cs : List ChnM) : Piece := all (List.zipWith chP ps cs)
theorem chMap_none {ps : List Nat} {cs : List ChnM} (hl : ps.length = cs.length) {r : RdrM} (hr : r.chans = cs) {c : Int} (h : chanF r c = none) : chMap ps c = none := by
 unfold chanF at h
 unfold chMap
 split
 ·rfl
 ·rename_i h0
  rw [if_neg h0, hr] at h
  rw [List.getElem?_eq_none (by rw [hl]; exact List.getElem?_eq_none_iff.1 h)]
  rfl
theorem chMap_some {ps : List Nat} {cs : List ChnM} (hl : ps.length = cs.length) {r : RdrM} (hr : r.chans = cs) {c : Int} {x : ChnM} (h : chanF r c = some x) : ∃ (k : Nat) (p : Nat), c = (k : Int) ∧ cs[k]? = some x ∧ ps[k]? = some p ∧ chMap ps c = some (.pointer (some ⟨p, 0, none⟩)) := by
 unfold chanF at h
 unfold chMap
 split at h
 ·cases h
 ·rename_i h0
  rw [if_neg h0]
  rw [hr] at h
  obtain ⟨hk, e⟩ := List.getElem?_eq_some_iff.1 h
  refine ⟨c.toNat, ps[c.toNat]'(by omega), by omega, h, by simp, ?_⟩
  rw [List.getElem?_eq_getElem (by omega)]
  rfl
theorem chMap_snoc (ps : List Nat) (b : Nat) : upd (chMap ps) (ps.length : Int) (some (.pointer (some ⟨b, 0, none⟩))) = chMap (ps ++ [b]) := by
 funext c
 unfold upd chMap
 by_cases h : c = (ps.length : Int)
 ·subst h
  simp
 ·rw [if_neg h]
  split
  ·rfl
  ·rename_i h0
   rcases Nat.lt_or_ge c.toNat ps.length with h1 | h1
   ·rw [List.getElem?_append_left h1]
   ·rw [List.getElem?_eq_none h1, List.getElem?_eq_none (by simp; omega)]
theorem chMap_new (ps : List Nat) : chMap ps (ps.length : Int) = none := by
 unfold chMap
 split
 ·rfl
 ·simp
section
variable {w : World} {F : List Piece} {ps : List Nat} {cs : List ChnM} {k p : Nat} {x y : ChnM}
theorem chs_take (hl : ps.length = cs.length) (hp : ps[k]? = some p) (hx : cs[k]? = some x) (H : SL w (chsP ps cs :: F)) : ∃ v, SL w (row p #[.int .i64 x.size, v, .bool x.closed] 246 :: Qu 3 1 v x.buf.length (ints x.buf) :: all ((List.zipWith chP ps cs).eraseIdx k) :: F) := by
 have h := allq_take (A := chP p x) k (by rw [List.getElem?_zipWith, hp, hx]) H
 obtain ⟨v, h⟩ := SL.exP.1 h
 exact ⟨v, SL.all.1 h⟩
theorem chs_put (hl : ps.length = cs.length) (hp : ps[k]? = some p) (hx : cs[k]? = some x) {v : Value} (H : SL w (row p #[.int .i64 y.size, v, .bool y.closed] 246 :: Qu 3 1 v y.buf.length (ints y.buf) :: all ((List.zipWith chP ps cs).eraseIdx k) :: F)) : SL w (chsP ps (cs.set k y) :: F) := by
 have h : SL w (chP p y :: all ((List.zipWith chP ps cs).eraseIdx k) :: F) := SL.exP.2 ⟨v, SL.all.2 H⟩
 obtain ⟨hk, _⟩ := List.getElem?_eq_some_iff.1 hp
 have h2 := allq_put k (by rw [List.length_zipWith]; omega) h
 have e : (List.zipWith chP ps cs).set k (chP p y) = List.zipWith chP ps (cs.set k y) := by
  apply List.ext_getElem?
  intro i
  rw [List.getElem?_zipWith, List.getElem?_set]
  by_cases hi : k = i
  ·subst hi
   rw [if_pos rfl, List.length_zipWith, if_pos (by omega), hp, List.getElem?_set_self (by omega)]
  ·rw [if_neg hi, List.getElem?_zipWith, List.getElem?_set_ne hi]
 rw [e] at h2
 exact h2
theorem chs_snoc (hl : ps.length = cs.length) {b : Nat} {v : Value} (H : SL w (row b #[.int .i64 y.size, v, .bool y.closed] 246 :: Qu 3 1 v y.buf.length (ints y.buf) :: chsP ps cs :: F)) : SL w (chsP (ps ++ [b]) (cs ++ [y]) :: F) := by
 have h : SL w (chP b y :: chsP ps cs :: F) := SL.exP.2 ⟨v, SL.all.2 H⟩
 unfold chsP
 rw [List.zipWith_append hl]
 refine SL.all.2 ?_
 have h2 := SL.all.1 h.up1
 have h3 := h2.perm (List.perm_middle (a := chP b y) (l₁ := List.zipWith chP ps cs) (l₂ := F))
 rw [List.append_assoc]
 exact h2
end
/-- The reader behind a pointer. -/
def RdrP (rb : Nat) (lv : Value) (at_ : Int) (r : RdrM) : Piece := exP fun (x : Value × Nat × List Nat) => andP (x.2.2.length = r.chans.length)
 (all [rdrRow rb lv at_ x.1 x.2.1 r.closer r.over, Slc 242 2 x.1 r.crew.length (crewC r.crew), MapP 3 x.2.1 r.chans.length (chMap x.2.2), chsP x.2.2 r.chans])
theorem RdrP.iff {w : World} {F : List Piece} {rb : Nat} {lv : Value} {at_ : Int} {r : RdrM} : SL w (RdrP rb lv at_ r :: F) ↔ ∃ crv mb ps, ps.length = r.chans.length ∧
  SL w (rdrRow rb lv at_ crv mb r.closer r.over :: Slc 242 2 crv r.crew.length (crewC r.crew) :: MapP 3 mb r.chans.length (chMap ps) :: chsP ps r.chans :: F) := by
 constructor
 ·intro h
  obtain ⟨⟨crv, mb, ps⟩, h⟩ := SL.exP.1 h
  obtain ⟨h1, h⟩ := SL.andP.1 h
  exact ⟨crv, mb, ps, h1, SL.all.1 h⟩
 ·rintro ⟨crv, mb, ps, h1, h⟩
  exact SL.exP.2 ⟨(crv, mb, ps), SL.andP.2 ⟨h1, SL.all.2 h⟩⟩
/-- How large the reader may be. -/
structure Sized (n : Nat) (r : RdrM) : Prop where
 pos : 0 < r.crew.length
 crew : r.crew.length ≤ n + 1
 chans : r.chans.length ≤ n
 buf : ∀ c ∈ r.chans, c.buf.length ≤ n
/-- Rule 2. -/
theorem g_crewed {w : World} {F : List Piece} {rb n : Nat} {lv : Value} {at_ : Int} {r : RdrM} {e : Ev} (B : EvB e) (hs : Sized n r) (hn : n < 1000000) (H : SL w (RdrP rb lv at_ r :: F)) :
  Calls Tryz.prog 116 #[.pointer (some ⟨rb, 0, none⟩), e.agg] w fun o w' => o = .returned (.bool (crewedF r e).1) ∧ SL w' (RdrP rb lv at_ (crewedF r e).2 :: F) := by
 obtain ⟨crv, mb, ps, hl, H⟩ := RdrP.iff.1 H
 obtain ⟨g, cap, hv⟩ : ∃ g c, crv = .slice (some ⟨g, 0, none⟩) r.crew.length c := by
  obtain ⟨S, _, h⟩ := H.tl.on
  obtain ⟨a, c, e⟩ := own_form h.1
  rw [e] at h
  obtain ⟨g, e2⟩ := own_some h.1 hs.pos
  exact ⟨g, c, by rw [e, e2]⟩
 have hch : (crewedF r e).2.chans = r.chans ∧ (crewedF r e).2.closer = r.closer := by
  unfold crewedF
  repeat' split
  all_goals exact ⟨rfl, rfl⟩
 obtain ⟨cr, chans, c, over⟩ := r
 obtain ⟨kind, gg, chan, case_, value, mate, send, ok⟩ := e
 have close : ∀ o w', (o = Ending.returned (.bool (crewedF ⟨cr, chans, c, over⟩ ⟨kind, gg, chan, case_, value, mate, send, ok⟩).1) ∧ ∃ crv, SL w' (rdrRow rb lv at_ crv mb c (crewedF ⟨cr, chans, c, over⟩ ⟨kind, gg, chan, case_, value, mate, send, ok⟩).2.over :: Slc 242 2 crv (crewedF ⟨cr, chans, c, over⟩ ⟨kind, gg, chan, case_, value, mate, send, ok⟩).2.crew.length (crewC (crewedF ⟨cr, chans, c, over⟩ ⟨kind, gg, chan, case_, value, mate, send, ok⟩).2.crew) :: MapP 3 mb chans.length (chMap ps) :: chsP ps chans :: F)) →
   o = .returned (.bool (crewedF ⟨cr, chans, c, over⟩ ⟨kind, gg, chan, case_, value, mate, send, ok⟩).1) ∧ SL w' (RdrP rb lv at_ (crewedF ⟨cr, chans, c, over⟩ ⟨kind, gg, chan, case_, value, mate, send, ok⟩).2 :: F) := by
  rintro o w' ⟨h1, crv, h2⟩
  refine ⟨h1, RdrP.iff.2 ⟨crv, mb, ps, ?_, ?_⟩⟩
  ·rw [hch.1]
   exact hl
  ·rw [hch.1, hch.2]
   exact h2
 dsimp only at hl H hv
 subst hv
 cases over
 ·by_cases h13 : kind = 13
  ·subst h13
   exact (crewed_13 (gn := 0) (cb := 0) (cap := 0) (kind := 0) H chans).mono close
  ·have h0 := B.g0 h13
   dsimp only at h0
   obtain ⟨gn, rfl⟩ := Int.eq_ofNat_of_zero_le h0
   cases hx : cr[gn]? with
   | none => exact (crewed_none (crv := .nilFunc) (g := 0) h13 (List.getElem?_eq_none_iff.1 hx) H chans).mono close
   | some x =>
    obtain ⟨wa, ex⟩ := x
    exact (crewed_in h13 hx (Nat.lt_of_le_of_lt hs.crew (by omega)) H chans).mono close
 ·exact (crewed_over (gn := 0) (cb := 0) (cap := 0) H chans).mono close
end Go.Proofs.YtchkaaeoffmjnaaGreatDoor
namespace Go.Proofs.YtchkaaeoffmjnaaGreatDoor
set_option linter.unusedVariables false
set_option linter.unusedSimpArgs false
open Go.RowKit
set_option maxRecDepth 100000
theorem madeFix {w : World} {F : List Piece} {crv : Value} {mb b : Nat} {A : Piece} {ps : List Nat} {cs : List ChnM} {x : ChnM} {crew : List (Bool × Bool)} (hl : ps.length = cs.length)
  (H : SL w (A :: Slc 242 2 crv crew.length (crewC crew) :: MapP 3 mb (if (chMap ps (cs.length : Int)).isSome then cs.length else cs.length + 1) (upd (chMap ps) (cs.length : Int) (some (.pointer (some ⟨b, 0, none⟩)))) :: chsP (ps ++ [b]) (cs ++ [x]) :: F)) :
  SL w (A :: Slc 242 2 crv crew.length (crewC crew) :: MapP 3 mb (cs ++ [x]).length (chMap (ps ++ [b])) :: chsP (ps ++ [b]) (cs ++ [x]) :: F) := by
 rw [← hl, chMap_new, chMap_snoc, hl] at H
 rw [List.length_append, List.length_singleton]
 exact H
theorem g_made {w : World} {F : List Piece} {rb n : Nat} {lv : Value} {at_ : Int} {r : RdrM} {e : Ev} (B : EvB e) (hs : Sized n r) (hn : n < 1000000) (H : SL w (RdrP rb lv at_ r :: F)) :
  Calls Tryz.prog 117 #[.pointer (some ⟨rb, 0, none⟩), e.agg] w fun o w' => o = .returned (.bool (madeF r e).1) ∧ SL w' (RdrP rb lv at_ (madeF r e).2 :: F) := by
 obtain ⟨crv, mb, ps, hl, H⟩ := RdrP.iff.1 H
 obtain ⟨cr, chans, c, over⟩ := r
 obtain ⟨kind, g, chan, case_, value, mate, send, ok⟩ := e
 dsimp only at hl H hs
 have hcl := hs.chans
 dsimp only at hcl
 by_cases h2 : kind = 2
 ·subst h2
  refine calls_den (args := [_, _]) Tryz.func117 rfl (Nat.le_of_ble_eq_true (by kernel_rfl)) (by kernel_rfl) ?_
  refine ⟨?_⟩
  refine Nw.as #[.int .i64 2, .int .i64 g, .int .i64 chan, .int .i64 case_, .int .i64 value, .int .i64 mate, .bool send, .bool ok] 53 rfl H fun b3 w H => ?_
  refine ⟨?_⟩
  refine H.ldi 0 rfl (v := .int .i64 2) rfl ?_
  refine BB.yes rfl ?_
  refine Cn.yes ?_
  refine ⟨?_⟩
  refine Drw.of [(0, true), (1, true), (2, true), (3, true), (4, true), (5, true), (6, true), (7, true)] (by kernel_rfl) mixed (fun w => SL w _) H.drew ?_
  replace H := H.drew
  refine LdC.i 0 rfl (v := .int .i64 chan) rfl ?_
  refine LdC.i 1 rfl (v := .map (some mb)) rfl ?_
  refine MnC.mapLen 3 rfl (.tmp 13) 123 244 (by rfl) (by kernel_rfl) (by rfl) ?_
  refine BB.vr fun q1 e1 => ?_
  cases q1
  ·skip
   have h1 := bne_eq_false_iff_eq.1 e1
   refine Cn.no ?_
   refine ⟨?_⟩
   refine Drw.of [(0, true), (1, true), (2, true), (3, true), (4, true), (5, true), (6, true), (7, true), (8, true), (9, false), (10, false)] (by kernel_rfl) mixed (fun w => SL w _) H.drew ?_
   replace H := H.drew
   refine LdC.i 1 rfl (v := .map (some mb)) rfl ?_
   refine LdC.i 0 rfl (v := .int .i64 chan) rfl ?_
   refine LdC.i 0 rfl (v := .int .i64 value) rfl ?_
   refine MnC.pure (.agg #[.int .i64 value, .slice none 0 0, .bool false]) (fun _ => by kernel_rfl) ?_
   refine Nw.as #[.int .i64 value, .slice none 0 0, .bool false] 246 rfl H fun b25 w H => ?_
   refine ⟨.inr H.tl, ?_⟩
   refine Mn.mapSet H.up4 (by omega) (.tmp 19) (.tmp 21) (.tmp 25) 123 244 (by rfl) (by kernel_rfl) (by kernel_rfl) chan (key_wf (by have := B.chan; dsimp only at this; omega) (by have := B.chan; dsimp only at this; omega)) (.pointer (some ⟨b25, 0, none⟩)) (by rfl) (by rfl) (by rfl) fun w H => ?_
   refine ⟨.inl rfl, ?_⟩
   refine ⟨?_⟩
   refine ret1 (fn := Tryz.f117) (.bool true) rfl (by rfl) ?_
   subst h1
   have hc : madeF ⟨cr, chans, c, over⟩ ⟨2, g, ↑chans.length, case_, value, mate, send, ok⟩ = (true, ⟨cr, chans ++ [⟨value, [], false⟩], c, over⟩) := by simp [madeF, *]
   rw [hc]
   have q := H.pick [1, 5, 3, 4, 0] 6 (by decide)
   simp only [pk, nth, pkA, pkB, pkC, pkD, pkE, pkF] at q
   have q2 := chs_snoc hl (y := ⟨value, [], false⟩) ((SL.quNil _ 1 q).up1)
   have q3 := q2.pick [1, 2, 3, 0] 4 (by decide)
   simp only [pk, nth, pkA, pkB, pkC, pkD, pkE, pkF] at q3
   exact ⟨rfl, RdrP.iff.2 ⟨crv, mb, ps ++ [b25], by simp [hl], madeFix hl q3⟩⟩
  ·skip
   have h1 := bne_iff_ne.1 e1
   refine Cn.yes ?_
   refine ⟨?_⟩
   refine ret1 (fn := Tryz.f117) (.bool false) rfl (by rfl) ?_
   have hc : madeF ⟨cr, chans, c, over⟩ ⟨2, g, chan, case_, value, mate, send, ok⟩ = (false, ⟨cr, chans, c, over⟩) := by simp [madeF, *]
   rw [hc]
   exact ⟨rfl, RdrP.iff.2 ⟨crv, mb, ps, hl, H.tl⟩⟩
 ·cases hf : chanF ⟨cr, chans, c, over⟩ chan with
  | none =>
   have hm := chMap_none hl (r := ⟨cr, chans, c, over⟩) rfl hf
   refine calls_den (args := [_, _]) Tryz.func117 rfl (Nat.le_of_ble_eq_true (by kernel_rfl)) (by kernel_rfl) ?_
   refine ⟨?_⟩
   refine Nw.as #[.int .i64 kind, .int .i64 g, .int .i64 chan, .int .i64 case_, .int .i64 value, .int .i64 mate, .bool send, .bool ok] 53 rfl H fun b3 w H => ?_
   refine ⟨?_⟩
   refine H.ldi 0 rfl (v := .int .i64 kind) rfl ?_
   refine BB.no (beq_eq_false_iff_ne.2 h2) ?_
   refine Cn.no ?_
   refine ⟨?_⟩
   refine Drw.of [(0, true), (1, true), (2, true), (3, true), (4, true), (5, true), (6, true), (7, true), (8, true), (9, true), (10, true), (11, true), (12, true), (13, true)] (by kernel_rfl) mixed (fun w => SL w _) H.drew ?_
   replace H := H.drew
   refine LdC.i 0 rfl (v := .int .i64 chan) rfl ?_
   refine BB.vr fun q1 e1 => ?_
   cases q1
   ·skip
    have h1 := beq_eq_false_iff_ne.1 e1
    refine LdC.i 1 rfl (v := .map (some mb)) rfl ?_
    refine LdC.i 0 rfl (v := .int .i64 chan) rfl ?_
    refine MnC.lookV 3 rfl (.tmp 33) (.tmp 35) 123 244 (by rfl) (by kernel_rfl) (by kernel_rfl) (z := .pointer none) (fun _ => by kernel_rfl) chan (key_wf (by have := B.chan; dsimp only at this; omega) (by have := B.chan; dsimp only at this; omega)) (by rfl) (by rfl) (.pointer none) (by rw [hm]; rfl) ?_
    refine BB.no rfl ?_
    refine ret1 (fn := Tryz.f117) (.bool false) rfl (by rfl) ?_
    have hc : madeF ⟨cr, chans, c, over⟩ ⟨kind, g, chan, case_, value, mate, send, ok⟩ = (false, ⟨cr, chans, c, over⟩) := by simp [madeF, *]
    rw [hc]
    exact ⟨rfl, RdrP.iff.2 ⟨crv, mb, ps, hl, H.tl⟩⟩
   ·skip
    have h1 := eq_of_beq e1
    subst h1
    refine ret1 (fn := Tryz.f117) (.bool true) rfl (by rfl) ?_
    have hc : madeF ⟨cr, chans, c, over⟩ ⟨kind, g, (-1), case_, value, mate, send, ok⟩ = (true, ⟨cr, chans, c, over⟩) := by simp [madeF, *]
    rw [hc]
    exact ⟨rfl, RdrP.iff.2 ⟨crv, mb, ps, hl, H.tl⟩⟩
  | some x =>
   obtain ⟨k, p, hk, hx, hp, hm⟩ := chMap_some hl (r := ⟨cr, chans, c, over⟩) rfl hf
   clear hk
   refine calls_den (args := [_, _]) Tryz.func117 rfl (Nat.le_of_ble_eq_true (by kernel_rfl)) (by kernel_rfl) ?_
   refine ⟨?_⟩
   refine Nw.as #[.int .i64 kind, .int .i64 g, .int .i64 chan, .int .i64 case_, .int .i64 value, .int .i64 mate, .bool send, .bool ok] 53 rfl H fun b3 w H => ?_
   refine ⟨?_⟩
   refine H.ldi 0 rfl (v := .int .i64 kind) rfl ?_
   refine BB.no (beq_eq_false_iff_ne.2 h2) ?_
   refine Cn.no ?_
   refine ⟨?_⟩
   refine Drw.of [(0, true), (1, true), (2, true), (3, true), (4, true), (5, true), (6, true), (7, true), (8, true), (9, true), (10, true), (11, true), (12, true), (13, true)] (by kernel_rfl) mixed (fun w => SL w _) H.drew ?_
   replace H := H.drew
   refine LdC.i 0 rfl (v := .int .i64 chan) rfl ?_
   refine BB.vr fun q1 e1 => ?_
   cases q1
   ·skip
    have h1 := beq_eq_false_iff_ne.1 e1
    refine LdC.i 1 rfl (v := .map (some mb)) rfl ?_
    refine LdC.i 0 rfl (v := .int .i64 chan) rfl ?_
    refine MnC.lookV 3 rfl (.tmp 33) (.tmp 35) 123 244 (by rfl) (by kernel_rfl) (by kernel_rfl) (z := .pointer none) (fun _ => by kernel_rfl) chan (key_wf (by have := B.chan; dsimp only at this; omega) (by have := B.chan; dsimp only at this; omega)) (by rfl) (by rfl) (.pointer (some ⟨p, 0, none⟩)) (by rw [hm]; rfl) ?_
    refine BB.yes rfl ?_
    refine ret1 (fn := Tryz.f117) (.bool true) rfl (by rfl) ?_
    have hc : madeF ⟨cr, chans, c, over⟩ ⟨kind, g, chan, case_, value, mate, send, ok⟩ = (true, ⟨cr, chans, c, over⟩) := by simp [madeF, *]
    rw [hc]
    exact ⟨rfl, RdrP.iff.2 ⟨crv, mb, ps, hl, H.tl⟩⟩
   ·skip
    have h1 := eq_of_beq e1
    subst h1
    refine ret1 (fn := Tryz.f117) (.bool true) rfl (by rfl) ?_
    have hc : madeF ⟨cr, chans, c, over⟩ ⟨kind, g, (-1), case_, value, mate, send, ok⟩ = (true, ⟨cr, chans, c, over⟩) := by simp [madeF, *]
    rw [hc]
    exact ⟨rfl, RdrP.iff.2 ⟨crv, mb, ps, hl, H.tl⟩⟩
end Go.Proofs.YtchkaaeoffmjnaaGreatDoor
