/- Texts of the proof, several in one file: Sep, PipeF, PipeG, PipeH, RefB, RefC, RefD, RefE, RefF. -/
import Derived.Test.YtchkaaeoffmjnaaGreatDoorG01
import Derived.Laws.EntriesVeiled
import Derived.Maps.AppendAt
import Derived.Deep.AppendLies
import Derived.RegionTactic
import Derived.OwnWalk
import Derived.Test.YtchkaaeoffmjnaaGreatDoorG02
import Derived.Deep.RegionHeld3
import Derived.Deep.DeepMust
import Derived.Deep.RegionLaw
namespace Go.Proofs.YtchkaaeoffmjnaaGreatDoor
set_option linter.unusedVariables false
set_option linter.unusedSimpArgs false
open Go.RowKit
/-- The blocks of S are the same, and the streams. -/
structure Same (S : Nat → Prop) (w w' : World) : Prop where
 os : w'.os = w.os
 tape : w'.tape = w.tape
 output : w'.output = w.output
 block : ∀ k, S k → w'.heap[k]? = w.heap[k]?
/-- A piece of memory: what it says of a world of which the blocks S are its own. -/
structure Piece where
 on : (Nat → Prop) → World → Prop
 move : ∀ {S : Nat → Prop} {w w' : World}, on S w → Same S w w' → on S w'
 mono : ∀ {S T : Nat → Prop} {w : World}, on S w → (∀ k, S k → T k) → on T w
def SLs (w : World) : (Nat → Prop) → List Piece → Prop
 | _, [] => True
 | S, A :: L => ∃ T : Nat → Prop, (∀ k, T k → S k) ∧ A.on T w ∧ SLs w (fun k => S k ∧ ¬ T k) L
/-- The pieces L lie apart in w. -/
def SL (w : World) (L : List Piece) : Prop := SLs w (fun k => k < w.heap.size) L
theorem SLs.mono {w : World} : ∀ {L : List Piece} {S T : Nat → Prop}, SLs w S L → (∀ k, S k → T k) → SLs w T L
 | [], _, _, _, _ => trivial
 | _ :: _, _, _, ⟨U, h1, h2, h3⟩, h => ⟨U, fun k hk => h k (h1 k hk), h2, SLs.mono h3 (fun k hk => ⟨h k hk.1, hk.2⟩)⟩
theorem SLs.move {w w' : World} : ∀ {L : List Piece} {S : Nat → Prop}, SLs w S L → Same S w w' → SLs w' S L
 | [], _, _, _ => trivial
 | A :: _, _, ⟨U, h1, h2, h3⟩, h => ⟨U, h1, A.move h2 ⟨h.os, h.tape, h.output, fun k hk => h.block k (h1 k hk)⟩, SLs.move h3 ⟨h.os, h.tape, h.output, fun k hk => h.block k hk.1⟩⟩
theorem SLs.congr {w : World} {A : Piece} {L M : List Piece} (hh : ∀ S, SLs w S L → SLs w S M) {S : Nat → Prop} (h : SLs w S (A :: L)) : SLs w S (A :: M) := by
 obtain ⟨T, h1, h2, h3⟩ := h
 exact ⟨T, h1, h2, hh _ h3⟩
theorem SLs.swap {w : World} {A B : Piece} {L : List Piece} {S : Nat → Prop} (h : SLs w S (A :: B :: L)) : SLs w S (B :: A :: L) := by
 obtain ⟨T, h1, h2, U, h3, h4, h5⟩ := h
 exact ⟨U, fun k hk => (h3 k hk).1, h4, T, fun k hk => ⟨h1 k hk, fun hu => (h3 k hu).2 hk⟩, h2, h5.mono (fun k hk => ⟨⟨hk.1.1, hk.2⟩, hk.1.2⟩)⟩
theorem SLs.perm {w : World} {L M : List Piece} (h : L.Perm M) : ∀ {S : Nat → Prop}, SLs w S L → SLs w S M := by
 induction h with
 | nil => exact fun h => h
 | cons _ _ ih => exact fun h => SLs.congr (fun _ => ih) h
 | swap => exact fun h => h.swap
 | trans _ _ ih1 ih2 => exact fun h => ih2 (ih1 h)
theorem SLs.app {w : World} : ∀ {L M : List Piece} {S : Nat → Prop}, SLs w S (L ++ M) ↔ ∃ T : Nat → Prop, (∀ k, T k → S k) ∧ SLs w T L ∧ SLs w (fun k => S k ∧ ¬ T k) M
 | [], M, S => ⟨fun h => ⟨fun _ => False, fun _ h => h.elim, trivial, h.mono (fun k hk => ⟨hk, id⟩)⟩, fun ⟨T, _, _, h⟩ => SLs.mono (L := M) h (fun k hk => hk.1)⟩
 | A :: L, M, S => by
  constructor
  ·rintro ⟨T, h1, h2, h3⟩
   obtain ⟨U, u1, u2, u3⟩ := SLs.app.1 h3
   exact ⟨fun k => T k ∨ U k, fun k hk => hk.elim (h1 k) (fun h => (u1 k h).1), ⟨T, fun k hk => .inl hk, h2, u2.mono (fun k hk => ⟨.inr hk, (u1 k hk).2⟩)⟩, u3.mono (fun k hk => ⟨hk.1.1, fun h => h.elim hk.1.2 hk.2⟩)⟩
  ·rintro ⟨U, u1, ⟨T, h1, h2, h3⟩, u3⟩
   exact ⟨T, fun k hk => u1 k (h1 k hk), h2, SLs.app.2 ⟨fun k => U k ∧ ¬ T k, fun k hk => ⟨u1 k hk.1, hk.2⟩, h3, u3.mono (fun k hk => ⟨⟨hk.1, fun h => hk.2 (h1 k h)⟩, fun h => hk.2 h.1⟩)⟩⟩
/-- Block g holds o. -/
def blk (g : Nat) (o : Obj) : Piece where
 on S w := S g ∧ w.heap[g]? = some o
 move h s := ⟨h.1, (s.block _ h.1).trans h.2⟩
 mono h k := ⟨k _ h.1, h.2⟩
/-- Block g holds the cells cs. -/
@[reducible] def row (g : Nat) (cs : Array Value) (t : TypeId) : Piece := blk g (.cells cs t (0, 0))
/-- Block g is at hand. -/
def any (g : Nat) : Piece where
 on S w := S g
 move h s := h
 mono h k := k _ h
/-- Nothing. -/
def emp : Piece where
 on _ _ := True
 move _ _ := trivial
 mono _ _ := trivial
def all (L : List Piece) : Piece where
 on S w := SLs w S L
 move h s := h.move s
 mono h k := h.mono k
def exP {α : Type} (f : α → Piece) : Piece where
 on S w := ∃ a, (f a).on S w
 move h s := by
  obtain ⟨a, h⟩ := h
  exact ⟨a, (f a).move h s⟩
 mono h k := by
  obtain ⟨a, h⟩ := h
  exact ⟨a, (f a).mono h k⟩
def andP (p : Prop) (A : Piece) : Piece where
 on S w := p ∧ A.on S w
 move h s := ⟨h.1, A.move h.2 s⟩
 mono h k := ⟨h.1, A.mono h.2 k⟩
/-- All that was there in w0 is as it was. -/
def Old (w0 : World) : Piece where
 on S w := w.os = w0.os ∧ w.tape = w0.tape ∧ w.output = w0.output ∧ ∀ k, k < w0.heap.size → S k ∧ w.heap[k]? = w0.heap[k]?
 move h s := ⟨s.os.trans h.1, s.tape.trans h.2.1, s.output.trans h.2.2.1, fun k hk => ⟨(h.2.2.2 k hk).1, (s.block k (h.2.2.2 k hk).1).trans (h.2.2.2 k hk).2⟩⟩
 mono h k := ⟨h.1, h.2.1, h.2.2.1, fun i hi => ⟨k i (h.2.2.2 i hi).1, (h.2.2.2 i hi).2⟩⟩
/-- A slice of n elements (sz cells each, type te) that lies in a block of its own. -/
def Slc (te sz : Nat) (v : Value) (n : Nat) (xs : List Value) : Piece where
 on S w := w.ownsRow 0 te sz v n xs ∧ ∀ k, v.ownBlock = some k → S k
 move h s := ⟨own_move h.1 (fun k hk => s.block k (h.2 k hk)), h.2⟩
 mono h k := ⟨h.1, fun i hi => k i (h.2 i hi)⟩
/-- A predicate of the elder form as a piece. -/
def ofAt (A : World → (Nat → Prop) → Prop) (mv : ∀ {w w' S}, A w S → (∀ k, S k → w'.heap[k]? = w.heap[k]?) → A w' S) (mn : ∀ {w S T}, A w S → (∀ k, S k → T k) → A w T) : Piece where
 on S w := A w S
 move h s := mv h s.block
 mono h k := mn h k
section
variable {w : World} {L M F : List Piece} {A B C D E G H : Piece}
theorem SL.perm (h : SL w L) (p : L.Perm M) : SL w M := SLs.perm p h
theorem SL.up1 (h : SL w (A :: B :: F)) : SL w (B :: A :: F) := SLs.swap h
theorem SL.under (h : SL w (A :: L)) (hh : ∀ S, SLs w S L → SLs w S M) : SL w (A :: M) := SLs.congr hh h
theorem SLs.up2 {S} (h : SLs w S (A :: B :: C :: F)) : SLs w S (C :: A :: B :: F) := (SLs.congr (fun _ => SLs.swap) h).swap
theorem SL.up2 (h : SL w (A :: B :: C :: F)) : SL w (C :: A :: B :: F) := SLs.up2 h
theorem SLs.up3 {S} (h : SLs w S (A :: B :: C :: D :: F)) : SLs w S (D :: A :: B :: C :: F) := (SLs.congr (fun _ => SLs.up2) h).swap
theorem SL.up3 (h : SL w (A :: B :: C :: D :: F)) : SL w (D :: A :: B :: C :: F) := SLs.up3 h
theorem SLs.up4 {S} (h : SLs w S (A :: B :: C :: D :: E :: F)) : SLs w S (E :: A :: B :: C :: D :: F) := (SLs.congr (fun _ => SLs.up3) h).swap
theorem SL.up4 (h : SL w (A :: B :: C :: D :: E :: F)) : SL w (E :: A :: B :: C :: D :: F) := SLs.up4 h
theorem SLs.up5 {S} (h : SLs w S (A :: B :: C :: D :: E :: G :: F)) : SLs w S (G :: A :: B :: C :: D :: E :: F) := (SLs.congr (fun _ => SLs.up4) h).swap
theorem SL.up5 (h : SL w (A :: B :: C :: D :: E :: G :: F)) : SL w (G :: A :: B :: C :: D :: E :: F) := SLs.up5 h
theorem SLs.up6 {S} (h : SLs w S (A :: B :: C :: D :: E :: G :: H :: F)) : SLs w S (H :: A :: B :: C :: D :: E :: G :: F) := (SLs.congr (fun _ => SLs.up5) h).swap
theorem SL.up6 (h : SL w (A :: B :: C :: D :: E :: G :: H :: F)) : SL w (H :: A :: B :: C :: D :: E :: G :: F) := SLs.up6 h
theorem SL.dn1 (h : SL w (A :: B :: F)) : SL w (B :: A :: F) := SLs.swap h
theorem SLs.dn2 {S} (h : SLs w S (A :: B :: C :: F)) : SLs w S (B :: C :: A :: F) := SLs.congr (fun _ => SLs.swap) h.swap
theorem SL.dn2 (h : SL w (A :: B :: C :: F)) : SL w (B :: C :: A :: F) := SLs.dn2 h
theorem SLs.dn3 {S} (h : SLs w S (A :: B :: C :: D :: F)) : SLs w S (B :: C :: D :: A :: F) := SLs.congr (fun _ => SLs.dn2) h.swap
theorem SL.dn3 (h : SL w (A :: B :: C :: D :: F)) : SL w (B :: C :: D :: A :: F) := SLs.dn3 h
theorem SLs.dn4 {S} (h : SLs w S (A :: B :: C :: D :: E :: F)) : SLs w S (B :: C :: D :: E :: A :: F) := SLs.congr (fun _ => SLs.dn3) h.swap
theorem SL.dn4 (h : SL w (A :: B :: C :: D :: E :: F)) : SL w (B :: C :: D :: E :: A :: F) := SLs.dn4 h
theorem SLs.tl {S} (h : SLs w S (A :: F)) : SLs w S F := by
 obtain ⟨T, _, _, h⟩ := h
 exact h.mono (fun k hk => hk.1)
theorem SL.tl (h : SL w (A :: F)) : SL w F := SLs.tl h
theorem SL.drop1 (h : SL w (A :: B :: F)) : SL w (A :: F) := SLs.tl (SLs.swap h)
theorem SL.drop2 (h : SL w (A :: B :: C :: F)) : SL w (A :: B :: F) := SLs.tl (SLs.up2 h)
theorem SL.drop3 (h : SL w (A :: B :: C :: D :: F)) : SL w (A :: B :: C :: F) := SLs.tl (SLs.up3 h)
theorem size_alloc (w : World) (o : Obj) : (w.alloc o).heap.size = w.heap.size + 1 := by simp
theorem SL.later {w' : World} (h : SL w L) (f : Frm Nil w w') : SL w' L :=
 (SLs.move h ⟨f.os, f.tape, f.output, fun k hk => f.block k hk id⟩).mono (fun k hk => Nat.lt_of_lt_of_le hk f.size)
theorem SL.drew (h : SL w L) : SL w.drew L := h.later ((Frm.refl _ _).drew)
theorem SL.drewN (h : SL w L) (n : Nat) : SL (w.drewN n) L := h.later ((Frm.refl _ _).drewN n)
theorem SL.allocd (h : SL w L) (o : Obj) : SL (w.alloc o) L := h.later ((Frm.refl _ _).alloc o)
/-- A call that changes the first piece: what it may touch, and how the whole goes on behind it. -/
theorem SL.call (h : SL w (A :: F)) : ∃ S : Nat → Prop, A.on S w ∧ (∀ k, S k → k < w.heap.size) ∧ ∀ (w' : World) (M : List Piece), Frm S w w' → SLs w' (New S w w') M → SL w' (M ++ F) := by
 obtain ⟨T, h1, h2, h3⟩ := h
 refine ⟨T, h2, h1, fun w' M f h4 => SLs.app.2 ⟨New T w w', fun k hk => ?_, h4, ?_⟩⟩
 ·rcases hk with hk | hk
  ·exact Nat.lt_of_lt_of_le (h1 k hk) f.size
  ·exact hk.2
 ·refine (h3.move ⟨f.os, f.tape, f.output, fun k hk => f.block k hk.1 hk.2⟩).mono (fun k hk => ⟨Nat.lt_of_lt_of_le hk.1 f.size, fun hn => ?_⟩)
  rcases hn with hn | hn
  ·exact hk.2 hn
  ·have := hk.1
   omega
theorem SL.new {w' : World} (h : SL w L) (f : Frm Nil w w') (hA : SLs w' (New Nil w w') M) : SL w' (M ++ L) := by
 refine SLs.app.2 ⟨New Nil w w', fun k hk => hk.elim (fun f => f.elim) (fun g => g.2), hA, ?_⟩
 exact (SLs.move h ⟨f.os, f.tape, f.output, fun k hk => f.block k hk id⟩).mono (fun k hk => ⟨Nat.lt_of_lt_of_le hk f.size, fun hn => hn.elim (fun f => f.elim) (fun g => by omega)⟩)
theorem SL.alloc (h : SL w L) (o : Obj) : SL (w.alloc o) (blk w.heap.size o :: L) :=
 h.new (M := [blk w.heap.size o]) ((Frm.refl _ _).alloc o) ⟨_, fun _ h => h, ⟨.inr ⟨Nat.le_refl _, by simp⟩, heap_alloc_new w o⟩, trivial⟩
theorem SL.set {g : Nat} {cs : Array Value} {t : TypeId} (h : SL w (row g cs t :: F)) (i : Nat) (v : Value) : SL (w.setCell ⟨g, i, none⟩ v) (row g (cs.setIfInBounds i v) t :: F) := by
 obtain ⟨S, h1, h2, h3⟩ := h.call
 exact h3 _ [row g (cs.setIfInBounds i v) t] ((Frm.refl S w).setCell (p := ⟨g, i, none⟩) (fun _ => h1.1) v) ⟨_, fun _ h => h, ⟨.inl h1.1, blk_set h1.2 i v⟩, trivial⟩
/-- A store into a block whose content does not matter. -/
theorem SL.scr {g : Nat} (h : SL w (any g :: F)) (i : Nat) (v : Value) : SL (w.setCell ⟨g, i, none⟩ v) (any g :: F) := by
 obtain ⟨S, h1, h2, h3⟩ := h.call
 exact h3 _ [any g] ((Frm.refl S w).setCell (p := ⟨g, i, none⟩) (fun _ => h1) v) ⟨_, fun _ h => h, .inl h1, trivial⟩
theorem SL.toAny {g : Nat} {o : Obj} (h : SL w (blk g o :: F)) : SL w (any g :: F) := by
 obtain ⟨T, h1, h2, h3⟩ := h
 exact ⟨T, h1, h2.1, h3⟩
/-- A piece may be told in another way. -/
theorem SL.conv (h : SL w (A :: F)) (hh : ∀ S, (∀ k, S k → k < w.heap.size) → A.on S w → B.on S w) : SL w (B :: F) := by
 obtain ⟨T, h1, h2, h3⟩ := h
 exact ⟨T, h1, hh T h1 h2, h3⟩
theorem SL.on (h : SL w (A :: F)) : ∃ S : Nat → Prop, (∀ k, S k → k < w.heap.size) ∧ A.on S w := by
 obtain ⟨T, h1, h2, h3⟩ := h
 exact ⟨T, h1, h2⟩
theorem SL.exP {α : Type} {f : α → Piece} : SL w (exP f :: F) ↔ ∃ a, SL w (f a :: F) :=
 ⟨fun ⟨T, h1, ⟨a, h2⟩, h3⟩ => ⟨a, T, h1, h2, h3⟩, fun ⟨a, T, h1, h2, h3⟩ => ⟨T, h1, ⟨a, h2⟩, h3⟩⟩
theorem SL.andP {p : Prop} : SL w (andP p A :: F) ↔ p ∧ SL w (A :: F) :=
 ⟨fun ⟨T, h1, ⟨a, h2⟩, h3⟩ => ⟨a, T, h1, h2, h3⟩, fun ⟨a, T, h1, h2, h3⟩ => ⟨T, h1, ⟨a, h2⟩, h3⟩⟩
theorem SL.all : SL w (all L :: F) ↔ SL w (L ++ F) := SLs.app.symm
theorem SL.start (w : World) : SL w [Old w] := ⟨_, fun _ h => h, ⟨rfl, rfl, rfl, fun k hk => ⟨hk, rfl⟩⟩, trivial⟩
theorem SL.old {w0 : World} (h : SL w (Old w0 :: F)) : Frm Nil w0 w := by
 obtain ⟨T, h1, ⟨h2, h3, h4, h5⟩, h6⟩ := h
 refine ⟨h2, h3, h4, Nat.le_of_not_lt (fun hlt => ?_), fun k hk _ => (h5 k hk).2⟩
 have := h1 w.heap.size (h5 _ hlt).1
 omega
/-- The piece at a place. -/
theorem SLs.at {A : Piece} : ∀ {L : List Piece} {S : Nat → Prop} (i : Nat), SLs w S L → L[i]? = some A → ∃ T : Nat → Prop, (∀ k, T k → S k) ∧ A.on T w
 | [], _, i, _, h => by simp at h
 | B :: L, S, 0, ⟨T, h1, h2, _⟩, h => by
  simp at h
  subst h
  exact ⟨T, h1, h2⟩
 | B :: L, S, i + 1, ⟨T, h1, _, h3⟩, h => by
  obtain ⟨U, u1, u2⟩ := SLs.at i h3 (by simpa using h)
  exact ⟨U, fun k hk => (u1 k hk).1, u2⟩
theorem SL.at {g : Nat} {o : Obj} (h : SL w L) (i : Nat) (hi : L[i]? = some (blk g o)) : w.heap[g]? = some o := by
 obtain ⟨T, _, _, h⟩ := SLs.at i h hi
 exact h
theorem SLs.two {A B : Piece} : ∀ {L : List Piece} {S : Nat → Prop} (i j : Nat), i < j → SLs w S L → L[i]? = some A → L[j]? = some B → ∃ T U : Nat → Prop, (∀ k, T k → ¬ U k) ∧ A.on T w ∧ B.on U w
 | [], _, i, _, _, _, h, _ => by simp at h
 | C :: L, S, 0, j + 1, _, ⟨T, h1, h2, h3⟩, h, h' => by
  simp at h
  subst h
  obtain ⟨U, u1, u2⟩ := SLs.at j h3 (by simpa using h')
  exact ⟨T, U, fun k hk hu => (u1 k hu).2 hk, h2, u2⟩
 | C :: L, S, i + 1, j + 1, hij, ⟨T, h1, _, h3⟩, h, h' => SLs.two i j (by omega) h3 (by simpa using h) (by simpa using h')
theorem SL.ne {a b : Nat} {o p : Obj} (h : SL w L) (i j : Nat) (hij : i < j) (hi : L[i]? = some (blk a o)) (hj : L[j]? = some (blk b p)) : a ≠ b ∧ b ≠ a := by
 obtain ⟨T, U, h1, h2, h3⟩ := SLs.two i j hij h hi hj
 have : a ≠ b := fun e => h1 a h2.1 (by rw [e]; exact h3.1)
 exact ⟨this, fun e => this e.symm⟩
theorem SL.at0 {g : Nat} {o : Obj} (h : SL w (blk g o :: F)) : w.heap[g]? = some o := h.at 0 rfl
theorem SL.at1 {g : Nat} {o : Obj} (h : SL w (A :: blk g o :: F)) : w.heap[g]? = some o := h.at 1 rfl
theorem SL.at2 {g : Nat} {o : Obj} (h : SL w (A :: B :: blk g o :: F)) : w.heap[g]? = some o := h.at 2 rfl
theorem SL.at3 {g : Nat} {o : Obj} (h : SL w (A :: B :: C :: blk g o :: F)) : w.heap[g]? = some o := h.at 3 rfl
end
def nth : List Piece → Nat → Piece
 | [], _ => emp
 | A :: _, 0 => A
 | _ :: L, i + 1 => nth L i
def pk (is : List Nat) (n : Nat) (L : List Piece) : List Piece := is.map (nth L) ++ L.drop n
theorem pkA {α β : Type} {f : α → β} {a : α} {l : List α} : List.map f (a :: l) = f a :: List.map f l := rfl
theorem pkB {α β : Type} {f : α → β} : List.map f [] = [] := rfl
theorem pkC {α : Type} {a : α} {l m : List α} : (a :: l) ++ m = a :: (l ++ m) := rfl
theorem pkD {α : Type} {m : List α} : [] ++ m = m := rfl
theorem pkE {α : Type} {n : Nat} {a : α} {l : List α} : List.drop (n + 1) (a :: l) = List.drop n l := rfl
theorem pkF {α : Type} {l : List α} : List.drop 0 l = l := rfl
theorem SLs.fam {w : World} : ∀ {L : List Piece} {S : Nat → Prop}, SLs w S L → ∃ f : Nat → Nat → Prop, (∀ i k, f i k → S k) ∧ (∀ i j k, f i k → f j k → i = j) ∧ ∀ i, (nth L i).on (f i) w
 | [], S, _ => ⟨fun _ _ => False, fun _ _ h => h.elim, fun _ _ _ h => h.elim, fun i => by cases i <;> trivial⟩
 | A :: L, S, ⟨T, h1, h2, h3⟩ => by
  obtain ⟨f, f1, f2, f3⟩ := SLs.fam h3
  refine ⟨fun i => match i with | 0 => T | i + 1 => f i, fun i k hk => ?_, fun i j k hi hj => ?_, fun i => ?_⟩
  ·cases i with
   | zero => exact h1 k hk
   | succ i => exact (f1 i k hk).1
  ·cases i with
   | zero =>
    cases j with
    | zero => rfl
    | succ j => exact absurd hi (f1 j k hj).2
   | succ i =>
    cases j with
    | zero => exact absurd hj (f1 i k hi).2
    | succ j => rw [f2 i j k hi hj]
  ·cases i with
   | zero => exact h2
   | succ i => exact f3 i
theorem SLs.of_fam {w : World} : ∀ (L : List Piece) (S : Nat → Prop) (f : Nat → Nat → Prop), (∀ i k, f i k → S k) → (∀ i j k, i < L.length → j < L.length → f i k → f j k → i = j) → (∀ i, i < L.length → (nth L i).on (f i) w) → SLs w S L
 | [], _, _, _, _, _ => trivial
 | A :: L, S, f, f1, f2, f3 => by
  have key : SLs w (fun k => (∃ i, i < L.length ∧ f (i + 1) k)) L := by
   refine SLs.of_fam L _ (fun i k => i < L.length ∧ f (i + 1) k) (fun i k hk => ⟨i, hk⟩) (fun i j k hi hj h1 h2 => ?_) (fun i hi => ?_)
   ·have := f2 (i + 1) (j + 1) k (by simpa using hi) (by simpa using hj) h1.2 h2.2
    omega
   ·exact (nth L i).mono (f3 (i + 1) (by simpa using hi)) (fun k hk => ⟨hi, hk⟩)
  refine ⟨f 0, f1 0, f3 0 (by simp), key.mono (fun k hk => ?_)⟩
  obtain ⟨i, hi, hk⟩ := hk
  refine ⟨f1 _ _ hk, fun h0 => ?_⟩
  have := f2 0 (i + 1) k (by simp) (by simpa using hi) h0 hk
  omega
theorem nth_app_left : ∀ (L M : List Piece) (i : Nat), i < L.length → nth (L ++ M) i = nth L i
 | A :: L, M, 0, _ => rfl
 | A :: L, M, i + 1, h => nth_app_left L M i (by simpa using h)
theorem nth_app_right : ∀ (L M : List Piece) (i : Nat), nth (L ++ M) (L.length + i) = nth M i
 | [], M, i => by simp
 | A :: L, M, i => by
  rw [List.length_cons, show L.length + 1 + i = (L.length + i) + 1 by omega]
  exact nth_app_right L M i
theorem nth_drop : ∀ (n : Nat) (L : List Piece) (i : Nat), nth (L.drop n) i = nth L (n + i)
 | 0, L, i => by simp
 | n + 1, [], i => by simp [nth]
 | n + 1, A :: L, i => by
  rw [List.drop_succ_cons, show n + 1 + i = (n + i) + 1 by omega]
  exact nth_drop n L i
theorem nth_map (L : List Piece) : ∀ (is : List Nat) (i : Nat) (h : i < is.length), nth (is.map (nth L)) i = nth L is[i]
 | a :: is, 0, _ => rfl
 | a :: is, i + 1, h => nth_map L is i (by simpa using h)
/-- The pieces of these places, in this order, and all behind the first n. -/
theorem SL.pick {w : World} {L : List Piece} (h : SL w L) (is : List Nat) (n : Nat) (hd : is.Nodup ∧ ∀ i ∈ is, i < n) : SL w (pk is n L) := by
 obtain ⟨f, f1, f2, f3⟩ := SLs.fam h
 refine SLs.of_fam _ _ (fun i k => if h : i < is.length then f is[i] k else f (n + (i - is.length)) k) (fun i k hk => ?_) (fun i j k hi hj h1 h2 => ?_) (fun i hi => ?_)
 ·split at hk
  ·exact f1 _ _ hk
  ·exact f1 _ _ hk
 ·by_cases a : i < is.length
  ·rw [dif_pos a] at h1
   by_cases b : j < is.length
   ·rw [dif_pos b] at h2
    have e := f2 _ _ _ h1 h2
    have key := List.pairwise_iff_getElem.1 hd.1
    rcases Nat.lt_trichotomy i j with lt | lt | lt
    ·exact absurd e (key i j a b lt)
    ·exact lt
    ·exact absurd e.symm (key j i b a lt)
   ·rw [dif_neg b] at h2
    have e := f2 _ _ _ h1 h2
    have := hd.2 is[i] (List.getElem_mem a)
    omega
  ·rw [dif_neg a] at h1
   by_cases b : j < is.length
   ·rw [dif_pos b] at h2
    have e := f2 _ _ _ h1 h2
    have := hd.2 is[j] (List.getElem_mem b)
    omega
   ·rw [dif_neg b] at h2
    have e := f2 _ _ _ h1 h2
    omega
 ·by_cases a : i < is.length
  ·have e : nth (pk is n L) i = nth L is[i] := by
    unfold pk
    rw [nth_app_left _ _ _ (by simpa using a), nth_map L is i a]
   rw [e]
   refine (nth L is[i]).mono (f3 is[i]) (fun k hk => ?_)
   rw [dif_pos a]
   exact hk
  ·have e : nth (pk is n L) i = nth L (n + (i - is.length)) := by
    unfold pk
    have := nth_app_right (is.map (nth L)) (L.drop n) (i - is.length)
    rw [List.length_map, show is.length + (i - is.length) = i by omega] at this
    rw [this, nth_drop]
   rw [e]
   refine (nth L (n + (i - is.length))).mono (f3 _) (fun k hk => ?_)
   rw [dif_neg a]
   exact hk
theorem SL.slcNil {w : World} {F : List Piece} (te sz : Nat) (h : SL w F) : SL w (Slc te sz (.slice none 0 0) 0 [] :: F) :=
 ⟨fun _ => False, fun _ h => h.elim, ⟨World.ownsRow_nil _ _ _ _, fun k hk => by cases hk⟩, h.mono (fun k hk => ⟨hk, id⟩)⟩
section
variable {P : Program} {ops : Array Oper} {rest : List Oper} {o : Oper} {a : Act} {Q : Exit → Act → World → Prop}
theorem sl_app {te sz : Nat} {W : World} {F : List Piece} (hgd : o.guard = none) (s x : Operand) (t : TypeId) (z : Value) (bytes : Nat)
  (ho : o.op = .call { callee := .builtin .append, args := #[s, x], argTypes := #[t, t] })
  (ht : P.underlying t = some (.slice te)) (hinfo : (P.info? te).map (fun i => (i.zero, i.size, i.bytes)) = some (some z, sz, bytes)) (hz : z.cells.size = sz) (hs0 : 0 < sz)
  (v : Value) (n : Nat) (cs ys : List Value) (hs : a.eval s = v) {b0 : Nat} (hx : a.eval x = .slice (some ⟨b0, 0, none⟩) 1 1) (hb0 : b0 = W.heap.size) (hys : ys.length = sz) (h1 : ys.all Value.oneCell' = true)
  (H : SL W (Slc te sz v n cs :: F)) (hn : n < 1000000000) (hl : bytes ≤ 1000)
  (h : ∀ g c w1, SL w1 (Slc te sz (.slice (some ⟨g, 0, none⟩) (n + 1) c) (n + 1) (cs ++ ys) :: F) → W.heap.size ≤ w1.heap.size → wpList P ops Q rest (a.put o.dst (.slice (some ⟨g, 0, none⟩) (n + 1) c)) w1) :
  wpList P ops Q (o :: rest) a (W.alloc (.cells ys.toArray te)) := by
 obtain ⟨S, ⟨h2, h3⟩, h4, h5⟩ := H.call
 refine app_one hgd s x t te z sz bytes ho ht hinfo hz hs0 v n cs ys hs hx hb0 hys h1 h2 hn hl ?_
 intro g c w1 k1 k2 k3
 refine h g c w1 (h5 w1 [Slc te sz (.slice (some ⟨g, 0, none⟩) (n + 1) c) (n + 1) (cs ++ ys)] (k2.mono (fun k _ hk => h3 k hk)) ⟨_, fun _ h => h, ⟨k1, fun k hk => ?_⟩, trivial⟩) k2.size
 injection hk with hk
 dsimp only at hk
 subst hk
 have hlt := own_lt k1 (k := g) rfl
 rcases k3 with k3 | k3
 ·exact .inl (h3 _ k3)
 ·exact .inr ⟨k3, hlt⟩
end
theorem append_nothing {P : Program} (W : World) (t ty te : TypeId) {sz n : Nat} {i : TypeInfo} (ht : P.underlying t = some (.slice te)) (hi : P.info? te = some i) {v : Value} {cs : List Value} (hown : W.ownsRow 0 te sz v n cs) (c : Nat) :
  (Builtin.append_ #[t, t] ty #[v, .slice none 0 c]).run P W = .ok v W := by
 rcases hown.2 with ⟨rfl, rfl⟩ | ⟨g, cap, cur, rfl, _, _, hle, _⟩
 all_goals simp [Builtin.append_, Builtin.lenOf, Builtin.firstCells, run_underlying ht, sizeOf, typeInfo, hi]
 simp [hle, storeCells]
theorem sl_append_run {P : Program} {te sz : Nat} {W : World} {F : List Piece} (t ty : TypeId) (z : Value) (bytes : Nat)
  (ht : P.underlying t = some (.slice te)) (hinfo : (P.info? te).map (fun i => (i.zero, i.size, i.bytes)) = some (some z, sz, bytes)) (hz : z.cells.size = sz) (hs0 : 0 < sz)
  (v : Value) (n : Nat) (cs : List Value) (A : Option Addr) (m c : Nat) (news : List Value) (hr : Rd W sz A m news) (h1 : news.all Value.oneCell' = true)
  (H : SL W (Slc te sz v n cs :: F)) (hn : n + m < 1000000000) (hl : bytes ≤ 1000) :
  ∃ v1 w1, (Builtin.append_ #[t, t] ty #[v, .slice A m c]).run P W = .ok v1 w1 ∧ SL w1 (Slc te sz v1 (n + m) (cs ++ news) :: F) ∧ W.heap.size ≤ w1.heap.size := by
 obtain ⟨i0, hi, hzz⟩ := Option.map_eq_some_iff.1 hinfo
 simp only [Prod.mk.injEq] at hzz
 obtain ⟨hz0, hz1, hz2⟩ := hzz
 obtain ⟨S, ⟨h2, h3⟩, h4, h5⟩ := H.call
 rcases A with _ | ad
 ·have hm : m = 0 := by
   rcases Nat.eq_zero_or_pos m with h0 | h0
   ·exact h0
   ·obtain ⟨b, off, h, _⟩ := hr.2.2 h0
    cases h
  subst hm
  have hnn : news = [] := List.eq_nil_of_length_eq_zero (by simpa using hr.1)
  subst hnn
  refine ⟨v, W, append_nothing W t ty te ht hi h2 c, ?_, Nat.le_refl _⟩
  rw [Nat.add_zero, List.append_nil]
  exact H
 ·have hcells : ∀ j u, news[j]? = some u → W.cell? (ad.add j) = some u := by
   intro j u hu
   rcases Nat.eq_zero_or_pos m with h0 | h0
   ·subst h0
    have hnn : news = [] := List.eq_nil_of_length_eq_zero (by simpa using hr.1)
    subst hnn
    simp at hu
   ·obtain ⟨b, off, h, hc⟩ := hr.2.2 h0
    injection h with h
    subst h
    have := hc j u hu
    unfold Addr.add
    split
    ·rename_i h0; subst h0; exact this
    ·exact this
  obtain ⟨v1, w1, hrun, k1, k2, _, k3⟩ := run_append_own_at (P := P) W 0 t ty te i0 z sz bytes ht hi hz0 hz1 hz2 hz hs0 v n cs h2 ad m c news hr.1 hcells (List.all_eq_true.1 h1) (by simp only [maxLen]; omega) (Nat.le_trans (Nat.mul_le_mul (show n + m ≤ 1000000000 by omega) hl) (by decide)) (Nat.zero_le _)
  refine ⟨v1, w1, hrun, h5 w1 [Slc te sz v1 (n + m) (cs ++ news)] ((Frm.refl _ W).grown k2 (fun k hk _ => h3 k hk)) ⟨_, fun _ h => h, ⟨k1, fun k hk => ?_⟩, trivial⟩, k2.size⟩
  rcases k3 with k3 | k3
  ·exact .inl (h3 k (by rw [← k3]; exact hk))
  ·rw [k3] at hk
   injection hk with hk
   exact .inr ⟨by omega, own_lt k1 (by rw [k3, hk])⟩
section
variable {P : Program} {ops : Array Oper} {rest : List Oper} {o : Oper} {a : Act} {Q : Exit → Act → World → Prop} {K : Act → World → Prop}
end
theorem enters {P : Program} {f : FuncId} {fn : Func} (hf : P.funcs[f]? = some fn) (hname : (fn.name == "runtime.NumGoroutine") = false) (hb' : fn.body.isSome = true) (args : Array Value) (w : World) :
  (callFunc f args).run P w = .ok (.enter f args) w := by
 have h1 : fn.name ≠ "runtime.NumGoroutine" := by simpa using hname
 obtain ⟨c, hb⟩ := Option.isSome_iff_exists.1 hb'
 simp [callFunc, hf, h1, hb]
/-- A function that calls enter by its number. -/
def Enters (P : Program) (f : FuncId) : Prop := ∀ args w, (callFunc f args).run P w = .ok (.enter f args) w
end Go.Proofs.YtchkaaeoffmjnaaGreatDoor
namespace Go.Proofs.YtchkaaeoffmjnaaGreatDoor
set_option linter.unusedVariables false
set_option linter.unusedSimpArgs false
open Go.RowKit
/-- A pipe as a piece. -/
def PipeP (g : Nat) (x : PipeM) : Piece := ofAt (fun w S => PipeAt w S g x) PipeAt.move PipeAt.mono
theorem PipePost.sl {w : World} {S : Nat → Prop} {g : Nat} {x : PipeM} {F : List Piece} {r : Value} {y : PipeM} {P : Program} {n : Nat} {args : Array Value}
  (h : ∀ S, PipeAt w S g x → Calls P n args w (PipePost S g w r y)) (H : SL w (PipeP g x :: F)) : Calls P n args w fun e w' => e = .returned r ∧ SL w' (PipeP g y :: F) := by
 obtain ⟨S, h1, _, h2⟩ := H.call
 refine (h S h1).mono ?_
 rintro e w' ⟨rfl, h3, h4⟩
 exact ⟨rfl, h2 w' [PipeP g y] h4 ⟨_, fun _ h => h, h3, trivial⟩⟩
theorem sl_recv1 {w : World} {g pb gb : Nat} {x y : PipeM} {cs cs' : Array Value} {t t' : Nat} {cp : Array Value} {F : List Piece} {P : Program} {n : Nat} {args : Array Value}
  (h : ∀ S : Nat → Prop, PipeAt w S g x → w.heap[pb]? = some (.cells cp t' (0, 0)) → w.heap[gb]? = some (.cells cs t (0, 0)) → ¬ S pb → ¬ S gb → pb ≠ gb → Calls P n args w
   fun e w' => e = .returned (.tuple #[]) ∧ PipeAt w' (New S w w') g y ∧ w'.heap[gb]? = some (.cells cs' t (0, 0)) ∧ Frm (fun k => S k ∨ k = gb) w w')
  (H : SL w (PipeP g x :: row pb cp t' :: row gb cs t :: F)) : Calls P n args w fun e w' => e = .returned (.tuple #[]) ∧ SL w' (PipeP g y :: row pb cp t' :: row gb cs' t :: F) := by
 have H' : SL w (all [PipeP g x, row pb cp t', row gb cs t] :: F) := SL.all.2 H
 obtain ⟨S, ⟨T, t1, t2, U, u1, u2, V, v1, v2, _⟩, hS, hG⟩ := H'.call
 have np : ¬ T pb := (u1 pb u2.1).2
 have ng : ¬ T gb := (v1 gb v2.1).1.2
 have npg : ¬ U gb := (v1 gb v2.1).2
 have npg' : pb ≠ gb := fun e => npg (by rw [← e]; exact u2.1)
 refine (h T t2 u2.2 v2.2 np ng npg').mono ?_
 rintro e w' ⟨rfl, h3, h4, h5⟩
 refine ⟨rfl, hG w' [PipeP g y, row pb cp t', row gb cs' t] (h5.mono (fun k _ hk => hk.elim (t1 k) (fun e => by rw [e]; exact (v1 gb v2.1).1.1))) ?_⟩
 have hpl := hS pb (u1 pb u2.1).1
 have hgl := hS gb (v1 gb v2.1).1.1
 refine ⟨New T w w', fun k hk => hk.imp (t1 k) id, h3, fun k => k = pb, fun k hk => ?_, ⟨rfl, h5.blk u2.2 (fun h => h.elim np npg')⟩, fun k => k = gb, fun k hk => ?_, ⟨rfl, h4⟩, trivial⟩
 ·subst hk
  exact ⟨.inl (u1 k u2.1).1, fun h => h.elim np (fun h => by omega)⟩
 ·subst hk
  exact ⟨⟨.inl (v1 k v2.1).1.1, fun h => h.elim ng (fun h => by omega)⟩, fun h => npg' h.symm⟩
def recvF (x : PipeM) : GotM × PipeM :=
 match x.buf, x.senders with
 | a :: L, m :: l => (⟨true, true, true, a, m⟩, { x with buf := L ++ [m.value], senders := l, sent := x.sent + 1, received := x.received + 1 })
 | a :: L, [] => (⟨true, true, false, a, wzero⟩, { x with buf := L, received := x.received + 1 })
 | [], m :: l => (⟨true, true, true, m.value, m⟩, { x with senders := l, sent := x.sent + 1, received := x.received + 1 })
 | [], [] => if x.closed then ({ gzero with ready := true }, x) else (gzero, x)
/-- What a method gives back, and the pipe behind it. -/
def Does (g : Nat) (F : List Piece) (r : Value) (y : PipeM) : Ending → World → Prop := fun e w' => e = .returned r ∧ SL w' (PipeP g y :: F)
section
variable {w : World} {F : List Piece} {g : Nat} {x : PipeM}
theorem sl_ready (s : Bool) (H : SL w (PipeP g x :: F)) : Calls Tryz.prog 107 #[.pointer (some ⟨g, 0, none⟩), .bool s] w fun e w' => e = .returned (.bool (readyF x s)) ∧ SL w' (PipeP g x :: F) := by
 obtain ⟨S, _, h⟩ := H.on
 exact (pipe_ready h s).mono (fun e w' q => ⟨q.1, H.later q.2⟩)
set_option maxRecDepth 100000 in
set_option maxHeartbeats 400000 in
theorem recv_no (hr : readyF x false = false) (H : SL w (PipeP g x :: F)) : Calls Tryz.prog 196 #[.pointer (some ⟨g, 0, none⟩)] w (Does g F gzero.agg x) := by
 unfold gzero GotM.agg wzero Does
 dsimp only
 go_enter Tryz.func196, Tryz.ntmps196
 go_wp2_with fail
 have H1 := (H.alloc (.cells #[.pointer (some ⟨g, 0, none⟩)] 176)).alloc (.cells #[.bool false, .bool false, .bool false, .int .i64 0, .int .i64 0, .int .i64 0, .int .i64 0] 227)
 rw [size_alloc] at H1
 obtain ⟨pb, hpb⟩ : ∃ b, w.heap.size = b := ⟨_, rfl⟩
 obtain ⟨r, hrb⟩ : ∃ b, pb + 1 = b := ⟨_, rfl⟩
 rw [hpb, hrb] at H1 ⊢
 clear hpb hrb
 refine (sl_ready false H1.up2).mono ?_
 rw [hr]
 clear hr
 rintro e w1 ⟨rfl, H2⟩
 obtain ⟨r0, r1, r2, r3, r4, r5, r6, rf⟩ := box7 H2.at1
 have rl := lt_of_block H2.at1
 go_wp2_with fail
 refine bodyPost_ret (v := .agg #[.bool false, .bool false, .bool false, .int .i64 0, .int .i64 0, .int .i64 0, .int .i64 0]) (by simp [results, Tryz.results196, go_sem, r0, r1, r2, r3, r4, r5, r6, rl]) rfl ⟨rfl, (?_ : SL _ (any r :: PipeP g x :: F)).tl⟩
 repeat (first | with_reducible refine SL.scr ?_ _ _ | with_reducible refine SL.allocd ?_ _ | with_reducible exact H2.up1.toAny.drop2)
theorem sl_len (H : SL w (PipeP g x :: F)) : Calls Tryz.prog 156 #[.pointer (some ⟨g, 0, none⟩)] w fun e w' => e = .returned (.int .i64 x.buf.length) ∧ w = w' := by
 obtain ⟨S, _, h⟩ := H.on
 exact pipe_len h
set_option maxRecDepth 100000 in
set_option maxHeartbeats 400000 in
theorem recv_closed (hc : x.closed = true) (hb : x.buf = []) (hs : x.senders = []) (H : SL w (PipeP g x :: F)) : Calls Tryz.prog 196 #[.pointer (some ⟨g, 0, none⟩)] w (Does g F ({ gzero with ready := true } : GotM).agg x) := by
 unfold Does
 have hr : readyF x false = true := by unfold readyF; simp [hc]
 unfold gzero GotM.agg wzero
 dsimp only
 clear hc
 have HX := Lib.hid (⟨hb, hs⟩ : _ ∧ _)
 have hbl : x.buf.length = _ := congrArg List.length hb
 clear hb hs
 go_enter Tryz.func196, Tryz.ntmps196
 go_wp2_with fail
 have H1 := (H.alloc (.cells #[.pointer (some ⟨g, 0, none⟩)] 176)).alloc (.cells #[.bool false, .bool false, .bool false, .int .i64 0, .int .i64 0, .int .i64 0, .int .i64 0] 227)
 rw [size_alloc] at H1
 obtain ⟨pb, hpb⟩ : ∃ b, w.heap.size = b := ⟨_, rfl⟩
 obtain ⟨r, hrb⟩ : ∃ b, pb + 1 = b := ⟨_, rfl⟩
 rw [hpb, hrb] at H1 ⊢
 clear hpb hrb
 refine (sl_ready false H1.up2).mono ?_
 rw [hr]
 clear hr
 rintro e w1 ⟨rfl, H2⟩
 obtain ⟨r0, r1, r2, r3, r4, r5, r6, rf⟩ := box7 H2.at1
 obtain ⟨p0, pf⟩ := box1 H2.at2
 have rl := lt_of_block H2.at1
 have pl := lt_of_block H2.at2
 obtain ⟨n1, n2⟩ := H2.ne 1 2 (by decide) rfl rfl
 go_wp2_with fail
 have H3 := (H2.alloc (.cells #[.bool true, .bool false, .bool false, .int .i64 0, .int .i64 0, .int .i64 0, .int .i64 0] 227)).up1
 obtain ⟨gb, hgb⟩ : ∃ b, w1.heap.size = b := ⟨_, rfl⟩
 obtain ⟨w2, hw2⟩ : ∃ w2, w1.alloc (.cells #[.bool true, .bool false, .bool false, .int .i64 0, .int .i64 0, .int .i64 0, .int .i64 0] 227) = w2 := ⟨_, rfl⟩
 rw [hw2, hgb] at H3
 rw [hw2, hgb]
 clear hw2 hgb r0 r1 r2 r3 r4 r5 r6 rf p0 pf rl pl n1 n2
 obtain ⟨g0, g1, g2, g3, g4, g5, g6, gf⟩ := box7 H3.at1
 obtain ⟨r0, r1, r2, r3, r4, r5, r6, rf⟩ := box7 H3.at2
 obtain ⟨p0, pf⟩ := box1 H3.at3
 have gl := lt_of_block H3.at1
 have rl := lt_of_block H3.at2
 have pl := lt_of_block H3.at3
 obtain ⟨n1, n2⟩ := H3.ne 1 2 (by decide) rfl rfl
 obtain ⟨n3, n4⟩ := H3.ne 1 3 (by decide) rfl rfl
 obtain ⟨n5, n6⟩ := H3.ne 2 3 (by decide) rfl rfl
 have K1 := sl_len H3
 rw [hbl] at K1
 clear hbl
 simp only [List.length_nil, List.length_cons] at K1
 refine K1.mono ?_
 rintro e w' ⟨rfl, rfl⟩
 clear K1
 obtain ⟨S, hS, rgb, sp, rp, R, P, Q, hq⟩ := H3.on
 obtain ⟨c0, c1, c2, c3, c4, c5, cf⟩ := pipe_cells hq.row
 have cl := lt_of_block hq.row
 go_wp2_with fail
 have K2 := pew_len hq.snd
 rw [HX.out.2] at K2
 simp only [List.length_nil, List.length_cons] at K2
 refine K2.mono ?_
 rintro e w' ⟨rfl, rfl⟩
 clear K2
 go_wp2_with fail
 refine bodyPost_ret (v := .agg #[.bool true, .bool false, .bool false, .int .i64 0, .int .i64 0, .int .i64 0, .int .i64 0]) (by simp [results, Tryz.results196, go_sem, r0, r1, r2, r3, r4, r5, r6, rl]) rfl ⟨rfl, (?_ : SL _ (any r :: PipeP g _ :: F)).tl⟩
 repeat (first | with_reducible refine SL.scr ?_ _ _ | with_reducible refine SL.allocd ?_ _ | with_reducible exact H3.up2.toAny.drop3.drop2)
set_option maxRecDepth 100000 in
set_option maxHeartbeats 400000 in
theorem recv_none {a : Int} {L : List Int} (hb : x.buf = a :: L) (hs : x.senders = []) (hn : Cnt x) (H : SL w (PipeP g x :: F)) : Calls Tryz.prog 196 #[.pointer (some ⟨g, 0, none⟩)] w (Does g F (⟨true, true, false, a, wzero⟩ : GotM).agg { x with buf := L, received := x.received + 1 }) := by
 unfold Does
 have hr : readyF x false = true := by unfold readyF; simp [hb]
 unfold GotM.agg wzero
 dsimp only
 have HX := Lib.hid (⟨hb, hs⟩ : _ ∧ _)
 have hbl : x.buf.length = _ := congrArg List.length hb
 clear hb hs
 go_enter Tryz.func196, Tryz.ntmps196
 go_wp2_with fail
 have H1 := (H.alloc (.cells #[.pointer (some ⟨g, 0, none⟩)] 176)).alloc (.cells #[.bool false, .bool false, .bool false, .int .i64 0, .int .i64 0, .int .i64 0, .int .i64 0] 227)
 rw [size_alloc] at H1
 obtain ⟨pb, hpb⟩ : ∃ b, w.heap.size = b := ⟨_, rfl⟩
 obtain ⟨r, hrb⟩ : ∃ b, pb + 1 = b := ⟨_, rfl⟩
 rw [hpb, hrb] at H1 ⊢
 clear hpb hrb
 refine (sl_ready false H1.up2).mono ?_
 rw [hr]
 clear hr
 rintro e w1 ⟨rfl, H2⟩
 obtain ⟨r0, r1, r2, r3, r4, r5, r6, rf⟩ := box7 H2.at1
 obtain ⟨p0, pf⟩ := box1 H2.at2
 have rl := lt_of_block H2.at1
 have pl := lt_of_block H2.at2
 obtain ⟨n1, n2⟩ := H2.ne 1 2 (by decide) rfl rfl
 go_wp2_with fail
 have H3 := (H2.alloc (.cells #[.bool true, .bool false, .bool false, .int .i64 0, .int .i64 0, .int .i64 0, .int .i64 0] 227)).up1
 obtain ⟨gb, hgb⟩ : ∃ b, w1.heap.size = b := ⟨_, rfl⟩
 obtain ⟨w2, hw2⟩ : ∃ w2, w1.alloc (.cells #[.bool true, .bool false, .bool false, .int .i64 0, .int .i64 0, .int .i64 0, .int .i64 0] 227) = w2 := ⟨_, rfl⟩
 rw [hw2, hgb] at H3
 rw [hw2, hgb]
 clear hw2 hgb r0 r1 r2 r3 r4 r5 r6 rf p0 pf rl pl n1 n2
 obtain ⟨g0, g1, g2, g3, g4, g5, g6, gf⟩ := box7 H3.at1
 obtain ⟨r0, r1, r2, r3, r4, r5, r6, rf⟩ := box7 H3.at2
 obtain ⟨p0, pf⟩ := box1 H3.at3
 have gl := lt_of_block H3.at1
 have rl := lt_of_block H3.at2
 have pl := lt_of_block H3.at3
 obtain ⟨n1, n2⟩ := H3.ne 1 2 (by decide) rfl rfl
 obtain ⟨n3, n4⟩ := H3.ne 1 3 (by decide) rfl rfl
 obtain ⟨n5, n6⟩ := H3.ne 2 3 (by decide) rfl rfl
 have K1 := sl_len H3
 rw [hbl] at K1
 clear hbl
 simp only [List.length_nil, List.length_cons] at K1
 refine K1.mono ?_
 rintro e w' ⟨rfl, rfl⟩
 clear K1
 go_wp2_with fail
 have H3' : SL w2 (PipeP g x :: row pb _ _ :: row gb _ _ :: row r _ _ :: F) := H3.up3.dn1
 refine (sl_recv1 (fun S h hp hg pS gS ne => recv1_none h HX.out.1 HX.out.2 hn hp hg pS gS ne) H3').mono ?_
 rintro e w3 ⟨rfl, H4⟩
 clear g0 g1 g2 g3 g4 g5 g6 gf r0 r1 r2 r3 r4 r5 r6 rf p0 pf gl rl pl
 obtain ⟨g0, g1, g2, g3, g4, g5, g6, gf⟩ := box7 H4.at2
 obtain ⟨r0, r1, r2, r3, r4, r5, r6, rf⟩ := box7 H4.at3
 have gl := lt_of_block H4.at2
 have rl := lt_of_block H4.at3
 go_wp2_with fail
 refine bodyPost_ret (v := .agg #[.bool true, .bool true, .bool false, .int .i64 a, .int .i64 0, .int .i64 0, .int .i64 0]) (by simp [results, Tryz.results196, go_sem, r0, r1, r2, r3, r4, r5, r6, rl]) rfl ⟨rfl, (?_ : SL _ (any r :: PipeP g _ :: F)).tl⟩
 repeat (first | with_reducible refine SL.scr ?_ _ _ | with_reducible refine SL.allocd ?_ _ | with_reducible exact H4.up3.toAny.drop3.drop2)
set_option maxRecDepth 100000 in
set_option maxHeartbeats 400000 in
theorem recv_woke {a : Int} {L : List Int} {m : Wtr} {l : List Wtr} (hb : x.buf = a :: L) (hs : x.senders = m :: l) (hl : l.length < 1000000) (hz : L.length < x.size) (hn : Cnt x) (H : SL w (PipeP g x :: F)) : Calls Tryz.prog 196 #[.pointer (some ⟨g, 0, none⟩)] w (Does g F (⟨true, true, true, a, m⟩ : GotM).agg { x with buf := L ++ [m.value], senders := l, sent := x.sent + 1, received := x.received + 1 }) := by
 unfold Does
 have hr : readyF x false = true := by unfold readyF; simp [hb]
 obtain ⟨mg, mc, mv⟩ := m
 unfold GotM.agg
 dsimp only
 have HX := Lib.hid (⟨hb, hs⟩ : _ ∧ _)
 have hbl : x.buf.length = _ := congrArg List.length hb
 clear hb hs
 go_enter Tryz.func196, Tryz.ntmps196
 go_wp2_with fail
 have H1 := (H.alloc (.cells #[.pointer (some ⟨g, 0, none⟩)] 176)).alloc (.cells #[.bool false, .bool false, .bool false, .int .i64 0, .int .i64 0, .int .i64 0, .int .i64 0] 227)
 rw [size_alloc] at H1
 obtain ⟨pb, hpb⟩ : ∃ b, w.heap.size = b := ⟨_, rfl⟩
 obtain ⟨r, hrb⟩ : ∃ b, pb + 1 = b := ⟨_, rfl⟩
 rw [hpb, hrb] at H1 ⊢
 clear hpb hrb
 refine (sl_ready false H1.up2).mono ?_
 rw [hr]
 clear hr
 rintro e w1 ⟨rfl, H2⟩
 obtain ⟨r0, r1, r2, r3, r4, r5, r6, rf⟩ := box7 H2.at1
 obtain ⟨p0, pf⟩ := box1 H2.at2
 have rl := lt_of_block H2.at1
 have pl := lt_of_block H2.at2
 obtain ⟨n1, n2⟩ := H2.ne 1 2 (by decide) rfl rfl
 go_wp2_with fail
 have H3 := (H2.alloc (.cells #[.bool true, .bool false, .bool false, .int .i64 0, .int .i64 0, .int .i64 0, .int .i64 0] 227)).up1
 obtain ⟨gb, hgb⟩ : ∃ b, w1.heap.size = b := ⟨_, rfl⟩
 obtain ⟨w2, hw2⟩ : ∃ w2, w1.alloc (.cells #[.bool true, .bool false, .bool false, .int .i64 0, .int .i64 0, .int .i64 0, .int .i64 0] 227) = w2 := ⟨_, rfl⟩
 rw [hw2, hgb] at H3
 rw [hw2, hgb]
 clear hw2 hgb r0 r1 r2 r3 r4 r5 r6 rf p0 pf rl pl n1 n2
 obtain ⟨g0, g1, g2, g3, g4, g5, g6, gf⟩ := box7 H3.at1
 obtain ⟨r0, r1, r2, r3, r4, r5, r6, rf⟩ := box7 H3.at2
 obtain ⟨p0, pf⟩ := box1 H3.at3
 have gl := lt_of_block H3.at1
 have rl := lt_of_block H3.at2
 have pl := lt_of_block H3.at3
 obtain ⟨n1, n2⟩ := H3.ne 1 2 (by decide) rfl rfl
 obtain ⟨n3, n4⟩ := H3.ne 1 3 (by decide) rfl rfl
 obtain ⟨n5, n6⟩ := H3.ne 2 3 (by decide) rfl rfl
 have K1 := sl_len H3
 rw [hbl] at K1
 clear hbl
 simp only [List.length_nil, List.length_cons] at K1
 refine K1.mono ?_
 rintro e w' ⟨rfl, rfl⟩
 clear K1
 go_wp2_with fail
 have H3' : SL w2 (PipeP g x :: row pb _ _ :: row gb _ _ :: row r _ _ :: F) := H3.up3.dn1
 refine (sl_recv1 (fun S h hp hg pS gS ne => recv1_woke h HX.out.1 HX.out.2 hl hz hn hp hg pS gS ne) H3').mono ?_
 rintro e w3 ⟨rfl, H4⟩
 clear g0 g1 g2 g3 g4 g5 g6 gf r0 r1 r2 r3 r4 r5 r6 rf p0 pf gl rl pl
 obtain ⟨g0, g1, g2, g3, g4, g5, g6, gf⟩ := box7 H4.at2
 obtain ⟨r0, r1, r2, r3, r4, r5, r6, rf⟩ := box7 H4.at3
 have gl := lt_of_block H4.at2
 have rl := lt_of_block H4.at3
 go_wp2_with fail
 refine bodyPost_ret (v := .agg #[.bool true, .bool true, .bool true, .int .i64 a, .int .i64 mg, .int .i64 mc, .int .i64 mv]) (by simp [results, Tryz.results196, go_sem, r0, r1, r2, r3, r4, r5, r6, rl]) rfl ⟨rfl, (?_ : SL _ (any r :: PipeP g _ :: F)).tl⟩
 repeat (first | with_reducible refine SL.scr ?_ _ _ | with_reducible refine SL.allocd ?_ _ | with_reducible exact H4.up3.toAny.drop3.drop2)
set_option maxRecDepth 100000 in
set_option maxHeartbeats 400000 in
theorem recv_direct {m : Wtr} {l : List Wtr} (hb : x.buf = []) (hs : x.senders = m :: l) (hl : l.length < 1000000) (hn : Cnt x) (H : SL w (PipeP g x :: F)) : Calls Tryz.prog 196 #[.pointer (some ⟨g, 0, none⟩)] w (Does g F (⟨true, true, true, m.value, m⟩ : GotM).agg { x with senders := l, sent := x.sent + 1, received := x.received + 1 }) := by
 unfold Does
 have hr : readyF x false = true := by unfold readyF; simp [hs]
 obtain ⟨mg, mc, mv⟩ := m
 unfold GotM.agg
 dsimp only
 have HX := Lib.hid (⟨hb, hs⟩ : _ ∧ _)
 have hbl : x.buf.length = _ := congrArg List.length hb
 clear hb hs
 go_enter Tryz.func196, Tryz.ntmps196
 go_wp2_with fail
 have H1 := (H.alloc (.cells #[.pointer (some ⟨g, 0, none⟩)] 176)).alloc (.cells #[.bool false, .bool false, .bool false, .int .i64 0, .int .i64 0, .int .i64 0, .int .i64 0] 227)
 rw [size_alloc] at H1
 obtain ⟨pb, hpb⟩ : ∃ b, w.heap.size = b := ⟨_, rfl⟩
 obtain ⟨r, hrb⟩ : ∃ b, pb + 1 = b := ⟨_, rfl⟩
 rw [hpb, hrb] at H1 ⊢
 clear hpb hrb
 refine (sl_ready false H1.up2).mono ?_
 rw [hr]
 clear hr
 rintro e w1 ⟨rfl, H2⟩
 obtain ⟨r0, r1, r2, r3, r4, r5, r6, rf⟩ := box7 H2.at1
 obtain ⟨p0, pf⟩ := box1 H2.at2
 have rl := lt_of_block H2.at1
 have pl := lt_of_block H2.at2
 obtain ⟨n1, n2⟩ := H2.ne 1 2 (by decide) rfl rfl
 go_wp2_with fail
 have H3 := (H2.alloc (.cells #[.bool true, .bool false, .bool false, .int .i64 0, .int .i64 0, .int .i64 0, .int .i64 0] 227)).up1
 obtain ⟨gb, hgb⟩ : ∃ b, w1.heap.size = b := ⟨_, rfl⟩
 obtain ⟨w2, hw2⟩ : ∃ w2, w1.alloc (.cells #[.bool true, .bool false, .bool false, .int .i64 0, .int .i64 0, .int .i64 0, .int .i64 0] 227) = w2 := ⟨_, rfl⟩
 rw [hw2, hgb] at H3
 rw [hw2, hgb]
 clear hw2 hgb r0 r1 r2 r3 r4 r5 r6 rf p0 pf rl pl n1 n2
 obtain ⟨g0, g1, g2, g3, g4, g5, g6, gf⟩ := box7 H3.at1
 obtain ⟨r0, r1, r2, r3, r4, r5, r6, rf⟩ := box7 H3.at2
 obtain ⟨p0, pf⟩ := box1 H3.at3
 have gl := lt_of_block H3.at1
 have rl := lt_of_block H3.at2
 have pl := lt_of_block H3.at3
 obtain ⟨n1, n2⟩ := H3.ne 1 2 (by decide) rfl rfl
 obtain ⟨n3, n4⟩ := H3.ne 1 3 (by decide) rfl rfl
 obtain ⟨n5, n6⟩ := H3.ne 2 3 (by decide) rfl rfl
 have K1 := sl_len H3
 rw [hbl] at K1
 clear hbl
 simp only [List.length_nil, List.length_cons] at K1
 refine K1.mono ?_
 rintro e w' ⟨rfl, rfl⟩
 clear K1
 obtain ⟨S, hS, rgb, sp, rp, R, P, Q, hq⟩ := H3.on
 obtain ⟨c0, c1, c2, c3, c4, c5, cf⟩ := pipe_cells hq.row
 have cl := lt_of_block hq.row
 go_wp2_with fail
 have K2 := pew_len hq.snd
 rw [HX.out.2] at K2
 simp only [List.length_nil, List.length_cons] at K2
 refine K2.mono ?_
 rintro e w' ⟨rfl, rfl⟩
 clear K2
 go_wp2_with fail
 have H3' : SL w2 (PipeP g x :: row pb _ _ :: row gb _ _ :: row r _ _ :: F) := H3.up3.dn1
 refine (sl_recv1 (fun S h hp hg pS gS ne => recv1_direct h HX.out.2 hl hn hp hg pS gS ne) H3').mono ?_
 rintro e w3 ⟨rfl, H4⟩
 clear g0 g1 g2 g3 g4 g5 g6 gf r0 r1 r2 r3 r4 r5 r6 rf p0 pf gl rl pl
 obtain ⟨g0, g1, g2, g3, g4, g5, g6, gf⟩ := box7 H4.at2
 obtain ⟨r0, r1, r2, r3, r4, r5, r6, rf⟩ := box7 H4.at3
 have gl := lt_of_block H4.at2
 have rl := lt_of_block H4.at3
 go_wp2_with fail
 refine bodyPost_ret (v := .agg #[.bool true, .bool true, .bool true, .int .i64 mv, .int .i64 mg, .int .i64 mc, .int .i64 mv]) (by simp [results, Tryz.results196, go_sem, r0, r1, r2, r3, r4, r5, r6, rl]) rfl ⟨rfl, (?_ : SL _ (any r :: PipeP g _ :: F)).tl⟩
 repeat (first | with_reducible refine SL.scr ?_ _ _ | with_reducible refine SL.allocd ?_ _ | with_reducible exact H4.up3.toAny.drop3.drop2)
theorem sl_recv (hl : x.senders.length ≤ 1000000) (hz : x.buf.length ≤ x.size) (hn : Cnt x) (H : SL w (PipeP g x :: F)) :
  Calls Tryz.prog 196 #[.pointer (some ⟨g, 0, none⟩)] w (Does g F (recvF x).1.agg (recvF x).2) := by
 rcases hb : x.buf with _ | ⟨a, L⟩
 ·rcases hs : x.senders with _ | ⟨m, l⟩
  ·by_cases hc : x.closed = true
   ·rw [show recvF x = ({ gzero with ready := true }, x) by unfold recvF; rw [hb, hs]; simp [hc]]
    exact recv_closed hc hb hs H
   ·rw [show recvF x = (gzero, x) by unfold recvF; rw [hb, hs]; simp [hc]]
    exact recv_no (by unfold readyF; simp [hc, hb, hs]) H
  ·rw [show recvF x = (⟨true, true, true, m.value, m⟩, { x with senders := l, sent := x.sent + 1, received := x.received + 1 }) by unfold recvF; rw [hb, hs]]
   exact recv_direct hb hs (by rw [hs] at hl; simp at hl; omega) hn H
 ·rcases hs : x.senders with _ | ⟨m, l⟩
  ·rw [show recvF x = (⟨true, true, false, a, wzero⟩, { x with buf := L, received := x.received + 1 }) by unfold recvF; rw [hb, hs]]
   exact recv_none hb hs hn H
  ·rw [show recvF x = (⟨true, true, true, a, m⟩, { x with buf := L ++ [m.value], senders := l, sent := x.sent + 1, received := x.received + 1 }) by unfold recvF; rw [hb, hs]]
   exact recv_woke hb hs (by rw [hs] at hl; simp at hl; omega) (by rw [hb] at hz; simp at hz; omega) hn H
end
set_option maxRecDepth 100000 in
set_option maxHeartbeats 400000 in
theorem pipe_recv_nil (w : World) : Calls Tryz.prog 196 #[.pointer none] w fun e w' => e = .returned gzero.agg ∧ Frm Nil w w' := by
 unfold gzero GotM.agg wzero
 dsimp only
 have H := SL.start w
 go_enter Tryz.func196, Tryz.ntmps196
 go_wp2_with fail
 have H1 := (H.alloc (.cells #[.pointer none] 176)).alloc (.cells #[.bool false, .bool false, .bool false, .int .i64 0, .int .i64 0, .int .i64 0, .int .i64 0] 227)
 rw [size_alloc] at H1
 obtain ⟨pb, hpb⟩ : ∃ b, w.heap.size = b := ⟨_, rfl⟩
 obtain ⟨r, hrb⟩ : ∃ b, pb + 1 = b := ⟨_, rfl⟩
 rw [hpb, hrb] at H1 ⊢
 clear hpb hrb
 refine (pipe_ready_nil false _).mono ?_
 rintro e w1 ⟨rfl, f1⟩
 have H2 := H1.later f1
 obtain ⟨r0, r1, r2, r3, r4, r5, r6, rf⟩ := box7 H2.at0
 have rl := lt_of_block H2.at0
 go_wp2_with fail
 refine bodyPost_ret (v := .agg #[.bool false, .bool false, .bool false, .int .i64 0, .int .i64 0, .int .i64 0, .int .i64 0]) (by simp [results, Tryz.results196, go_sem, r0, r1, r2, r3, r4, r5, r6, rl]) rfl ⟨rfl, SL.old (?_ : SL _ (any r :: Old w :: [])).tl⟩
 repeat (first | with_reducible refine SL.scr ?_ _ _ | with_reducible refine SL.allocd ?_ _ | with_reducible exact H2.toAny.drop1)
end Go.Proofs.YtchkaaeoffmjnaaGreatDoor
namespace Go.Proofs.YtchkaaeoffmjnaaGreatDoor
set_option linter.unusedVariables false
set_option linter.unusedSimpArgs false
open Go.RowKit
theorem wtr_at {w : World} {a : Option Addr} {n : Nat} {L : List Wtr} (h : Rd w 3 a n (L.flatMap Wtr.cells)) (k : Nat) (hk : k < L.length) : ∃ b off, a = some ⟨b, off, none⟩ ∧
  w.cell? ⟨b, off + k * 3, none⟩ = some (.int .i64 L[k].g) ∧ w.cell? ⟨b, off + k * 3 + 1, none⟩ = some (.int .i64 L[k].case_) ∧ w.cell? ⟨b, off + k * 3 + 2, none⟩ = some (.int .i64 L[k].value) := by
 have hl := h.1
 rw [flat_length Wtr.cells 3 (fun _ => rfl)] at hl
 obtain ⟨b, off, rfl, hc⟩ := h.2.2 (by omega)
 have key : ∀ j (hj : j < 3), ∀ u, (L[k].cells)[j]? = some u → w.cell? ⟨b, off + k * 3 + j, none⟩ = some u := fun j hj u hu => by
  rw [Nat.add_assoc]
  exact hc (k * 3 + j) u (by rw [flat_get Wtr.cells 3 (fun _ => rfl) L k j hj hk]; exact hu)
 exact ⟨b, off, rfl, key 0 (by omega) _ rfl, key 1 (by omega) _ rfl, key 2 (by omega) _ rfl⟩
theorem any_take {α : Type} (p : α → Bool) (L : List α) (k : Nat) (h : k < L.length) : (L.take (k + 1)).any p = ((L.take k).any p || p L[k]) := by
 rw [List.take_succ_eq_append_getElem h, List.any_append]
 simp
section
variable {w : World} {F : List Piece} {g : Nat} {x : PipeM}
theorem alone1 {b : Nat} {i : Int} (m : Wtr) (hb : w.heap[b]? = some (.cells #[.int .i64 i] 3 (0, 0))) : Calls Tryz.prog 217 #[m.agg, .pointer (some ⟨b, 0, none⟩)] w fun e w' => e = .returned (.bool (m.g == i)) ∧ Frm Nil w w' := by
 obtain ⟨c0, cf⟩ := box1 hb
 have bl := lt_of_block hb
 obtain ⟨mg, mc, mv⟩ := m
 unfold Wtr.agg
 dsimp only
 go_enter Tryz.func217, Tryz.ntmps217
 go_wp2_with fail
 try go_quiet (fail)
 go_wp2_with fail
 go_ret
 exact ⟨rfl, (by repeat (first | with_reducible exact Frm.refl _ _ | apply Frm.drewN | apply Frm.drew | apply Frm.alloc))⟩
theorem alone2 {b ob : Nat} {i : Int} (m : Wtr) (hb : w.heap[b]? = some (.cells #[.int .i64 i] 3 (0, 0))) (ho : w.heap[ob]? = some (.cells #[.func (.func 217) #[] #[.pointer (some ⟨b, 0, none⟩)]] 302 (0, 0))) :
  Calls Tryz.prog 219 #[m.agg, .pointer (some ⟨ob, 0, none⟩)] w fun e w' => e = .returned (.bool (!(m.g == i))) ∧ Frm Nil w w' := by
 obtain ⟨c0, cf⟩ := box1 ho
 have bl := lt_of_block ho
 have K := fun w' (f : Frm Nil w w') => alone1 m (f.blk hb id)
 have HK := Lib.hid K
 clear K
 obtain ⟨mg, mc, mv⟩ := m
 unfold Wtr.agg at HK ⊢
 dsimp only at HK ⊢
 go_enter Tryz.func219, Tryz.ntmps219
 go_wp2_with fail
 refine (HK.out _ ((Frm.refl _ _).alloc _)).mono ?_
 rintro e w1 ⟨rfl, f1⟩
 go_wp2_with fail
 go_ret
 exact ⟨rfl, ((Frm.refl Nil w).alloc _).then f1⟩
set_option maxHeartbeats 400000 in
theorem wtr_index {a : Option Addr} {n cap fn : Nat} {L : List Wtr} {cv : Value} (p : Wtr → Bool) (he : Enters Tryz.prog fn) (hn : n = L.length) (hr : Rd w 3 a n (L.flatMap Wtr.cells))
  (hf : ∀ m w', Frm Nil w w' → Calls Tryz.prog fn #[m.agg, cv] w' fun e w'' => e = .returned (.bool (p m)) ∧ Frm Nil w' w'') :
  Calls Tryz.prog 227 #[.slice a n cap, .func (.func fn) #[] #[cv]] w fun e w' => (∃ i : Int, e = .returned (.int .i64 i) ∧ (decide (0 ≤ i) = L.any p)) ∧ Frm Nil w w' := by
 subst hn
 have hm := hr.2.1
 unfold maxLen at hm
 have HF := Lib.hid hf
 clear hf
 unfold Enters at he
 go_enter Tryz.func227, Tryz.ntmps227
 go_wp2_with fail
 go_loopw [8] (fun i wr => ∃ k : Nat, k ≤ L.length ∧ i = .int .i64 k ∧ Frm Nil w wr ∧ Hid ((L.take k).any p = false)) (fun i _ => L.length - (intOf i).toNat)
 case atStart => exact ⟨0, Nat.zero_le _, rfl, Frm.refl _ _, Lib.hid rfl⟩
 case round =>
  obtain ⟨k, hk, rfl, hfr, hno⟩ := hrel
  by_cases hlt : k < L.length
  ·obtain ⟨b, off, rfl, d0, d1, d2⟩ := wtr_at (hr.nil hfr) k hlt
   have ht := any_take p L k hlt
   rw [hno.out] at ht
   obtain ⟨m, hm⟩ : ∃ m, L[k] = m := ⟨_, rfl⟩
   rw [hm] at ht d0 d1 d2
   have HM := Lib.hid hm
   have HT := Lib.hid ht
   clear hm ht
   have K := HF.out m wr hfr
   obtain ⟨pm, hpm⟩ : ∃ pm, p m = pm := ⟨_, rfl⟩
   rw [hpm] at K
   have HP := Lib.hid hpm
   clear hpm
   obtain ⟨mg, mc, mv⟩ := m
   unfold Wtr.agg at K
   dsimp only at K d0 d1 d2
   have HK := Lib.hid K
   clear K
   go_wp2_with fail
   refine HK.out.mono ?_
   rintro e w1 ⟨rfl, f1⟩
   cases pm
   ·go_wp2_with fail
    go_roundw
    case rel => exact ⟨k + 1, by omega, by go_num, hfr.then f1, Lib.hid (by rw [HT.out, HP.out]; rfl)⟩
    case measure => simp [intOf]; omega
   ·go_wp2_with fail
    go_ret
    refine ⟨⟨k, rfl, ?_⟩, hfr.then f1⟩
    have : L.any p = true := List.any_eq_true.2 ⟨L[k], List.getElem_mem hlt, by rw [HM.out]; exact HP.out⟩
    rw [this]
    simp
  ·have hkn : k = L.length := by omega
   have hno' := hno.out
   rw [hkn, List.take_length] at hno'
   have HN := Lib.hid hno'
   clear hno' hkn
   go_wp2_with fail
   go_ret
   exact ⟨⟨-1, rfl, by rw [HN.out]; rfl⟩, hfr⟩
set_option maxHeartbeats 400000 in
theorem wtr_contains {a : Option Addr} {n cap fn : Nat} {L : List Wtr} {cv : Value} (p : Wtr → Bool) (he : Enters Tryz.prog fn) (hn : n = L.length) (hr : Rd w 3 a n (L.flatMap Wtr.cells))
  (hf : ∀ m w', Frm Nil w w' → Calls Tryz.prog fn #[m.agg, cv] w' fun e w'' => e = .returned (.bool (p m)) ∧ Frm Nil w' w'') :
  Calls Tryz.prog 218 #[.slice a n cap, .func (.func fn) #[] #[cv]] w fun e w' => e = .returned (.bool (L.any p)) ∧ Frm Nil w w' := by
 subst hn
 have K := wtr_index (cap := cap) p he rfl hr hf
 have HK := Lib.hid K
 clear K hf he
 go_enter Tryz.func218, Tryz.ntmps218
 go_wp2_with fail
 refine HK.out.mono ?_
 rintro e w1 ⟨⟨i, rfl, hi⟩, f1⟩
 have HI := Lib.hid hi
 clear hi
 go_wp2_with fail
 go_ret
 exact ⟨ret_bool HI.out, f1⟩
def aloneF (x : PipeM) (s : Bool) (i : Int) : Bool := decide (0 < (if s then x.senders else x.receivers).length) && (!x.closed && (decide (x.size = 0) && !((if s then x.senders else x.receivers).any (fun m => !(m.g == i)))))
theorem sl_waiting (s : Bool) (hs : x.senders.length ≤ 100000) (hr : x.receivers.length ≤ 100000) (H : SL w (PipeP g x :: F)) : Calls Tryz.prog 201 #[.pointer (some ⟨g, 0, none⟩), .bool s] w (Wtrs w (if s then x.senders else x.receivers)) := by
 obtain ⟨S, _, h⟩ := H.on
 exact pipe_waiting h s hs hr
theorem sl_cap (H : SL w (PipeP g x :: F)) : Calls Tryz.prog 157 #[.pointer (some ⟨g, 0, none⟩)] w fun e w' => e = .returned (.int .i64 x.size) ∧ w = w' := by
 obtain ⟨S, _, h⟩ := H.on
 exact pipe_cap h
set_option maxRecDepth 100000 in
set_option maxHeartbeats 400000 in
theorem sl_alone (s : Bool) (i : Int) (hs : x.senders.length ≤ 100000) (hr : x.receivers.length ≤ 100000) (H : SL w (PipeP g x :: F)) :
  Calls Tryz.prog 200 #[.pointer (some ⟨g, 0, none⟩), .bool s, .int .i64 i] w fun e w' => e = .returned (.bool (aloneF x s i)) ∧ SL w' (PipeP g x :: F) := by
 unfold aloneF
 obtain ⟨cl, hcl⟩ : ∃ cl, x.closed = cl := ⟨_, rfl⟩
 obtain ⟨z, hz⟩ : ∃ z, x.size = z := ⟨_, rfl⟩
 obtain ⟨L, hL⟩ : ∃ L, (if s then x.senders else x.receivers) = L := ⟨_, rfl⟩
 rw [hcl, hz, hL]
 have HC := Lib.hid hcl
 have HZ := Lib.hid hz
 have HL := Lib.hid hL
 clear hcl hz hL
 go_enter Tryz.func200, Tryz.ntmps200
 go_wp2_with fail
 have H1 := (H.alloc (.cells #[.int .i64 i] 3)).alloc (.cells #[.func (.func 217) #[] #[.pointer (some ⟨w.heap.size, 0, none⟩)]] 302)
 rw [size_alloc] at H1
 obtain ⟨gb, hgb⟩ : ∃ b, w.heap.size = b := ⟨_, rfl⟩
 obtain ⟨ob, hob⟩ : ∃ b, gb + 1 = b := ⟨_, rfl⟩
 rw [hgb, hob] at H1
 rw [hgb, hob]
 clear hgb hob
 have H1' := H1.up2
 have K := sl_waiting s hs hr H1'
 rw [HL.out] at K
 have HK := Lib.hid K
 clear K
 refine HK.out.mono ?_
 rintro e w1 ⟨a, cap, rfl, hrd, hnew, f1⟩
 have H2 := H1'.later f1
 clear HK H1 H1' hnew f1
 have hm := hrd.2.1
 unfold maxLen at hm
 obtain ⟨S, hS, rgb, sp, rp, R, P, Q, hq⟩ := H2.on
 obtain ⟨c0, c1, c2, c3, c4, c5, cf⟩ := pipe_cells hq.row
 rw [HC.out] at c3
 have gl := lt_of_block hq.row
 obtain ⟨n, hn⟩ : ∃ n, L.length = n := ⟨_, rfl⟩
 rw [hn]
 rw [hn] at hrd hm
 have K2 := fun w' (f : Frm Nil w1 w') => sl_cap (H2.later f)
 rw [HZ.out] at K2
 have K3 := fun w' (f : Frm Nil w1 w') => wtr_contains (w := w') (cap := cap) (cv := .pointer (some ⟨ob, 0, none⟩)) (fun m => !(m.g == i)) (enters Tryz.func219 (by kernel_rfl) (by kernel_rfl)) hn.symm (hrd.nil f) (fun m w'' f' => alone2 m (f'.blk (f.blk H2.at2 id) id) (f'.blk (f.blk H2.at1 id) id))
 have HK2 := Lib.hid K2
 have HK3 := Lib.hid K3
 have HN := Lib.hid hn
 clear K2 K3 hn hq
 by_cases h0 : 0 < n
 ·have hb0 : decide (0 < (n : Int)) = true := by simpa using h0
  have hb0' : decide (0 < n) = true := by simpa using h0
  cases cl with
  | true =>
   go_wp2_with fail
   go_ret
   exact ⟨ret_bool (by rw [HN.out, hb0']; rfl), by repeat (first | with_reducible refine SL.drewN ?_ _ | with_reducible refine SL.drew ?_ | with_reducible exact H2.drop1.drop1)⟩
  | false =>
   by_cases hz : z = 0
   ·have hbz : ((z : Int) == 0) = true := by simp [hz]
    have hbz' : decide (z = 0) = true := by simp [hz]
    have hi : (z : Int) = 0 := by simp [hz]
    clear hz
    go_wp2_with fail
    refine (HK2.out _ (by repeat (first | with_reducible exact Frm.refl _ _ | apply Frm.drewN | apply Frm.drew | apply Frm.alloc))).mono ?_
    rintro e w' ⟨rfl, rfl⟩
    go_wp2_with fail
    refine (HK3.out _ (by repeat (first | with_reducible exact Frm.refl _ _ | apply Frm.drewN | apply Frm.drew | apply Frm.alloc))).mono ?_
    rintro e w' ⟨rfl, f2⟩
    go_wp2_with fail
    go_ret
    refine ⟨ret_bool (by rw [HN.out, hb0', hbz']; rfl), ?_⟩
    have H3 := H2.later f2
    repeat (first | with_reducible refine SL.drewN ?_ _ | with_reducible refine SL.drew ?_ | with_reducible exact H3.drop1.drop1)
   ·have hbz : ((z : Int) == 0) = false := by simp; omega
    have hbz' : decide (z = 0) = false := by simp [hz]
    go_wp2_with fail
    refine (HK2.out _ (by repeat (first | with_reducible exact Frm.refl _ _ | apply Frm.drewN | apply Frm.drew | apply Frm.alloc))).mono ?_
    rintro e w' ⟨rfl, rfl⟩
    go_wp2_with fail
    go_ret
    exact ⟨ret_bool (by rw [HN.out, hb0', hbz']; rfl), by repeat (first | with_reducible refine SL.drewN ?_ _ | with_reducible refine SL.drew ?_ | with_reducible exact H2.drop1.drop1)⟩
 ·have hb0 : decide (0 < (n : Int)) = false := by simpa using h0
  have hb0' : decide (0 < n) = false := by simpa using h0
  go_wp2_with fail
  go_ret
  exact ⟨ret_bool (by rw [HN.out, hb0']; rfl), by repeat (first | with_reducible refine SL.drewN ?_ _ | with_reducible refine SL.drew ?_ | with_reducible exact H2.drop1.drop1)⟩
end
end Go.Proofs.YtchkaaeoffmjnaaGreatDoor
namespace Go.Proofs.YtchkaaeoffmjnaaGreatDoor
set_option linter.unusedVariables false
set_option linter.unusedSimpArgs false
open Go.RowKit
def RingP (g size : Nat) (L : List Int) : Piece := ofAt (fun w S => RingAt w S g size L) RingAt.move RingAt.mono
def PewP (g : Nat) (L : List Wtr) : Piece := ofAt (fun w S => PewAt w S g L) PewAt.move PewAt.mono
/-- A slice that may be read: n elements of sz cells. -/
def RdP (a : Option Addr) (n sz : Nat) (xs : List Value) : Piece where
 on S w := Rd w sz a n xs ∧ ∀ b o, a = some ⟨b, o, none⟩ → 0 < n → S b
 move := by
  rintro S w w' ⟨h1, h2⟩ s
  refine ⟨⟨h1.1, h1.2.1, fun hn => ?_⟩, h2⟩
  obtain ⟨b, off, ha, hc⟩ := h1.2.2 hn
  exact ⟨b, off, ha, fun i u hu => (World.cell?_of_block (w := w) (s.block b (h2 b off ha hn))).trans (hc i u hu)⟩
 mono h k := ⟨h.1, fun b o hb hn => k b (h.2 b o hb hn)⟩
theorem SL.rd {w : World} {F : List Piece} {a : Option Addr} {n sz : Nat} {xs : List Value} (h : SL w (RdP a n sz xs :: F)) : Rd w sz a n xs := by
 obtain ⟨S, _, h⟩ := h.on
 exact h.1
theorem SL.rdNew {w w' : World} {F : List Piece} {a : Option Addr} {n sz : Nat} {xs : List Value} (h : SL w F) (hr : Rd w' sz a n xs) (hs : 0 < sz) (hn : ∀ b o, a = some ⟨b, o, none⟩ → w.heap.size ≤ b) (f : Frm Nil w w') : SL w' (RdP a n sz xs :: F) := by
 refine h.new (M := [RdP a n sz xs]) f ⟨_, fun _ h => h, ⟨hr, fun b o hb hn' => .inr ⟨hn b o hb, ?_⟩⟩, trivial⟩
 obtain ⟨b', off, ha, hc⟩ := hr.2.2 hn'
 rw [hb] at ha
 injection ha with ha
 injection ha with ha1 ha2
 subst ha1
 have hl : 0 < xs.length := by
  rw [hr.1]
  exact Nat.mul_pos hn' hs
 exact World.block_lt_of_cell? w' _ (hc 0 _ (List.getElem?_eq_getElem hl))
theorem SL.rdNil {w : World} {F : List Piece} (sz : Nat) (h : SL w F) : SL w (RdP none 0 sz [] :: F) :=
 ⟨fun _ => False, fun _ h => h.elim, ⟨⟨by simp, Nat.zero_le _, fun h => absurd h (Nat.lt_irrefl 0)⟩, fun b o hb => by cases hb⟩, h.mono (fun k hk => ⟨hk, id⟩)⟩
/-- A slice of waiters comes back, a piece of its own. -/
theorem Wtrs.sl {w w' : World} {F : List Piece} {L : List Wtr} {e : Ending} (h : Wtrs w L e w') (H : SL w F) : ∃ a cap, e = .returned (.slice a L.length cap) ∧ SL w' (RdP a L.length 3 (L.flatMap Wtr.cells) :: F) := by
 obtain ⟨a, cap, rfl, h1, h2, h3⟩ := h
 exact ⟨a, cap, rfl, H.rdNew h1 (by decide) h2 h3⟩
section
variable {w : World} {F : List Piece} {g : Nat} {x : PipeM}
theorem pipe_open (H : SL w (PipeP g x :: F)) : ∃ rb sp rp, SL w (row g #[.pointer (some ⟨rb, 0, none⟩), .pointer (some ⟨sp, 0, none⟩), .pointer (some ⟨rp, 0, none⟩), .bool x.closed, .int .i64 x.sent, .int .i64 x.received] 223 :: RingP rb x.size x.buf :: PewP sp x.senders :: PewP rp x.receivers :: F) := by
 obtain ⟨T, h1, ⟨rb, sp, rp, R, P, Q, h⟩, h2⟩ := H
 have h0 := h.bound
 have hg := lt_of_block h.row
 refine ⟨rb, sp, rp, fun k => k = g, fun k hk => by rw [hk]; exact hg, ⟨rfl, h.row⟩, R, fun k hk => ⟨h1 k (h.subR k hk).1, (h.subR k hk).2⟩, h.ring, P, fun k hk => ⟨⟨h1 k (h.subP k hk).1, (h.subP k hk).2⟩, fun hr => h.rp_ k hr hk⟩, h.snd, Q, fun k hk => ⟨⟨⟨h1 k (h.subQ k hk).1, (h.subQ k hk).2⟩, fun hr => h.rq_ k hr hk⟩, fun hp => h.pq_ k hp hk⟩, h.rcv, h2.mono (fun k hk => ⟨⟨⟨⟨hk.1, fun e => hk.2 (by rw [e]; exact h.own)⟩, fun e => hk.2 (h.subR k e).1⟩, fun e => hk.2 (h.subP k e).1⟩, fun e => hk.2 (h.subQ k e).1⟩)⟩
theorem pipe_shut {rb sp rp : Nat} (H : SL w (row g #[.pointer (some ⟨rb, 0, none⟩), .pointer (some ⟨sp, 0, none⟩), .pointer (some ⟨rp, 0, none⟩), .bool x.closed, .int .i64 x.sent, .int .i64 x.received] 223 :: RingP rb x.size x.buf :: PewP sp x.senders :: PewP rp x.receivers :: F)) : SL w (PipeP g x :: F) := by
 obtain ⟨T, h1, ⟨hT, hrow⟩, R, hR1, hR, P, hP1, hP, Q, hQ1, hQ, hF⟩ := H
 refine ⟨fun k => T k ∨ R k ∨ P k ∨ Q k, fun k hk => ?_, ⟨rb, sp, rp, R, P, Q, hrow, .inl hT, hR, hP, hQ, fun k hk => ⟨.inr (.inl hk), ?_⟩, fun k hk => ⟨.inr (.inr (.inl hk)), ?_⟩, fun k hk => ⟨.inr (.inr (.inr hk)), ?_⟩, fun k hk hp => (hP1 k hp).2 hk, fun k hk hq => (hQ1 k hq).1.2 hk, fun k hp hq => (hQ1 k hq).2 hp⟩, hF.mono (fun k hk => ⟨hk.1.1.1.1, fun h => ?_⟩)⟩
 ·rcases hk with h | h | h | h
  ·exact h1 k h
  ·exact (hR1 k h).1
  ·exact (hP1 k h).1.1
  ·exact (hQ1 k h).1.1.1
 ·intro e
  subst e
  exact (hR1 _ hk).2 hT
 ·intro e
  subst e
  exact (hP1 _ hk).1.2 hT
 ·intro e
  subst e
  exact (hQ1 _ hk).1.1.2 hT
 ·rcases h with h | h | h | h
  ·exact hk.1.1.1.2 h
  ·exact hk.1.1.2 h
  ·exact hk.1.2 h
  ·exact hk.2 h
theorem sl_pew {rb sp rp : Nat} {t : Bool} {i j : Int} (s : Bool) (H : SL w (row g #[.pointer (some ⟨rb, 0, none⟩), .pointer (some ⟨sp, 0, none⟩), .pointer (some ⟨rp, 0, none⟩), .bool t, .int .i64 i, .int .i64 j] 223 :: F)) :
  Calls Tryz.prog 154 #[.pointer (some ⟨g, 0, none⟩), .bool s] w fun e w' => e = .returned (.pointer (some ⟨if s then sp else rp, 0, none⟩)) ∧ w = w' := by
 obtain ⟨c0, c1, c2, c3, c4, c5, cf⟩ := pipe_cells H.at0
 cases s
 all_goals
  go_enter Tryz.func154, Tryz.ntmps154
  go_wp2
  go_ret
  exact ⟨rfl, rfl⟩
theorem sl_pew_new (H : SL w F) : Calls Tryz.prog 168 #[] w fun e w' => ∃ p, e = .returned (.pointer (some ⟨p, 0, none⟩)) ∧ SL w' (PewP p [] :: F) := by
 refine (pew_new w).mono ?_
 rintro e w' ⟨p, rfl, h1, f1⟩
 exact ⟨p, rfl, H.new (M := [PewP p []]) f1 ⟨_, fun _ h => h, h1, trivial⟩⟩
theorem sl_pew_add {p : Nat} {L : List Wtr} (hL : L.length ≤ 1024) (m : Wtr) (H : SL w (PewP p L :: F)) :
  Calls Tryz.prog 199 #[.pointer (some ⟨p, 0, none⟩), m.agg] w fun e w' => e = .returned (.int .i64 (addF L m).1) ∧ SL w' (PewP p (addF L m).2 :: F) := by
 unfold addF
 by_cases h1 : m.g < 0 ∨ m.case_ < -1
 ·rw [if_pos h1]
  refine (pew_add_arg _ m h1 w).mono ?_
  rintro e w' ⟨rfl, f⟩
  exact ⟨rfl, H.later f⟩
 ·rw [if_neg h1]
  by_cases h2 : L.length = 1024
  ·rw [if_pos h2]
   obtain ⟨S, _, h⟩ := H.on
   refine (pew_add_full h h2 m (by omega) (by omega)).mono ?_
   rintro e w' ⟨rfl, f⟩
   exact ⟨rfl, H.later f⟩
  ·rw [if_neg h2]
   obtain ⟨S, h, _, hG⟩ := H.call
   refine (pew_add_ok h (by omega) m (by omega) (by omega)).mono ?_
   rintro e w' ⟨rfl, h3, f⟩
   exact ⟨rfl, hG w' [PewP p (L ++ [m])] f ⟨_, fun _ h => h, h3, trivial⟩⟩
def waitF (x : PipeM) (s : Bool) (m : Wtr) : Int × PipeM :=
 if readyF x s && !aloneF x (!s) m.g then (7, x)
 else if s then ((addF x.senders m).1, { x with senders := (addF x.senders m).2 }) else ((addF x.receivers m).1, { x with receivers := (addF x.receivers m).2 })
set_option maxRecDepth 100000 in
set_option maxHeartbeats 400000 in
theorem sl_wait (s : Bool) (m : Wtr) (hs : x.senders.length ≤ 1024) (hr : x.receivers.length ≤ 1024) (H : SL w (PipeP g x :: F)) :
  Calls Tryz.prog 160 #[.pointer (some ⟨g, 0, none⟩), .bool s, m.agg] w fun e w' => e = .returned (.int .i64 (waitF x s m).1) ∧ SL w' (PipeP g (waitF x s m).2 :: F) := by
 have K1 := fun F' w' (H : SL w' (PipeP g x :: F')) => sl_ready s H
 have K2 := fun F' w' (H : SL w' (PipeP g x :: F')) => sl_alone (!s) m.g (Nat.le_trans hs (by decide)) (Nat.le_trans hr (by decide)) H
 obtain ⟨R, hR⟩ : ∃ R, waitF x s m = R := ⟨_, rfl⟩
 rw [hR]
 unfold waitF at hR
 obtain ⟨rd, hrd⟩ : ∃ rd, readyF x s = rd := ⟨_, rfl⟩
 obtain ⟨al, hal⟩ : ∃ al, aloneF x (!s) m.g = al := ⟨_, rfl⟩
 rw [hrd] at K1
 rw [hal] at K2
 rw [hrd, hal] at hR
 have HR := Lib.hid hR
 clear hR
 have HK1 := Lib.hid K1
 have HK2 := Lib.hid K2
 clear hrd hal K1 K2
 obtain ⟨mg, mc, mv⟩ := m
 have HA := Lib.hid (fun p (L : List Wtr) (hL : L.length ≤ 1024) F' w' (H : SL w' (PewP p L :: F')) => sl_pew_add hL ⟨mg, mc, mv⟩ H)
 unfold Wtr.agg at HA ⊢
 dsimp only at HK2 HA ⊢
 go_enter Tryz.func160, Tryz.ntmps160
 go_wp2_with fail
 have H1 := (H.alloc (.cells #[.int .i64 mg, .int .i64 mc, .int .i64 mv] 225)).up1
 obtain ⟨b, hb⟩ : ∃ b, w.heap.size = b := ⟨_, rfl⟩
 rw [hb] at H1 ⊢
 clear hb
 refine (HK1.out _ _ H1).mono ?_
 rintro e w1 ⟨rfl, H2⟩
 obtain ⟨b0, b1, b2, bf⟩ := pew_cells H2.at1
 have bl := lt_of_block H2.at1
 have fin : ∀ (s : Bool) w2, SL w2 (PipeP g x :: row b #[.int .i64 mg, .int .i64 mc, .int .i64 mv] 225 :: F) → ∃ (q : Nat) (r : Int × PipeM), r = (if s then ((addF x.senders ⟨mg, mc, mv⟩).1, { x with senders := (addF x.senders ⟨mg, mc, mv⟩).2 }) else ((addF x.receivers ⟨mg, mc, mv⟩).1, { x with receivers := (addF x.receivers ⟨mg, mc, mv⟩).2 })) ∧ ∀ w2', Frm Nil w2 w2' → Calls Tryz.prog 154 #[.pointer (some ⟨g, 0, none⟩), .bool s] w2' (fun e w' => e = .returned (.pointer (some ⟨q, 0, none⟩)) ∧ w2' = w') ∧ Calls Tryz.prog 199 #[.pointer (some ⟨q, 0, none⟩), .agg #[.int .i64 mg, .int .i64 mc, .int .i64 mv]] w2' fun e w' => e = .returned (.int .i64 r.1) ∧ SL w' (PipeP g r.2 :: row b #[.int .i64 mg, .int .i64 mc, .int .i64 mv] 225 :: F) := by
  intro s w2 H2
  obtain ⟨rb, sp, rp, H3⟩ := pipe_open H2
  cases s
  ·refine ⟨rp, ((addF x.receivers ⟨mg, mc, mv⟩).1, { x with receivers := (addF x.receivers ⟨mg, mc, mv⟩).2 }), rfl, fun w2' f => ⟨sl_pew false (H3.later f), (HA.out rp x.receivers hr _ _ (H3.later f).up3).mono ?_⟩⟩
   rintro e w' ⟨rfl, H4⟩
   exact ⟨rfl, (pipe_shut (x := { x with receivers := (addF x.receivers ⟨mg, mc, mv⟩).2 }) H4.dn3)⟩
  ·refine ⟨sp, ((addF x.senders ⟨mg, mc, mv⟩).1, { x with senders := (addF x.senders ⟨mg, mc, mv⟩).2 }), rfl, fun w2' f => ⟨sl_pew true (H3.later f), (HA.out sp x.senders hs _ _ (H3.later f).up2).mono ?_⟩⟩
   rintro e w' ⟨rfl, H4⟩
   exact ⟨rfl, (pipe_shut (x := { x with senders := (addF x.senders ⟨mg, mc, mv⟩).2 }) H4.dn2)⟩
 have FIN := Lib.hid fin
 clear fin HA
 cases rd with
 | false =>
  go_wp2_with fail
  obtain ⟨q, ⟨r1, r2⟩, hq, k1⟩ := FIN.out s _ H2
  have HQ := Lib.hid hq
  clear hq
  have HK4 := Lib.hid k1
  clear k1
  go_region_held3 (fun w' => w'.cell? ⟨b, 0, none⟩ = some (.int .i64 mg) ∧ w'.cell? ⟨b, 1, none⟩ = some (.int .i64 mc) ∧ w'.cell? ⟨b, 2, none⟩ = some (.int .i64 mv)) (first | go_keep | (go_split_ands; refine ⟨?_, ?_, ?_⟩ <;> assumption)) (first | (go_at_call 154; refine (HK4.out _ (by repeat (first | with_reducible exact Frm.refl _ _ | apply Frm.drewN | apply Frm.drew | apply Frm.alloc))).1.mono ?_; rintro e w' ⟨rfl, rfl⟩) | (go_at_call 199; refine (HK4.out _ (by repeat (first | with_reducible exact Frm.refl _ _ | apply Frm.drewN | apply Frm.drew | apply Frm.alloc))).2.mono ?_; rintro e w3 ⟨rfl, H5⟩; obtain ⟨b0', b1', b2', bf'⟩ := pew_cells H5.at1))
  all_goals
   go_wp2_with fail
   go_ret
   have hR := HR.out
   rw [if_neg (by simp), ← HQ.out] at hR
   subst hR
   refine ⟨rfl, ?_⟩
   repeat (first | with_reducible refine SL.drewN ?_ _ | with_reducible refine SL.drew ?_ | with_reducible exact H5.drop1)
 | true =>
  go_wp2_with fail
  refine (HK2.out _ _ H2).mono ?_
  rintro e w2 ⟨rfl, H2⟩
  clear b0 b1 b2 bf bl
  obtain ⟨b0, b1, b2, bf⟩ := pew_cells H2.at1
  have bl := lt_of_block H2.at1
  cases al with
  | false =>
   go_wp2_with fail
   go_ret
   have hR := HR.out
   rw [if_pos (by simp)] at hR
   subst hR
   exact ⟨rfl, H2.drop1⟩
  | true =>
   go_wp2_with fail
   obtain ⟨q, ⟨r1, r2⟩, hq, k1⟩ := FIN.out s _ H2
   have HQ := Lib.hid hq
   clear hq
   have HK4 := Lib.hid k1
   clear k1
   go_region_held3 (fun w' => w'.cell? ⟨b, 0, none⟩ = some (.int .i64 mg) ∧ w'.cell? ⟨b, 1, none⟩ = some (.int .i64 mc) ∧ w'.cell? ⟨b, 2, none⟩ = some (.int .i64 mv)) (first | go_keep | (go_split_ands; refine ⟨?_, ?_, ?_⟩ <;> assumption)) (first | (go_at_call 154; refine (HK4.out _ (by repeat (first | with_reducible exact Frm.refl _ _ | apply Frm.drewN | apply Frm.drew | apply Frm.alloc))).1.mono ?_; rintro e w' ⟨rfl, rfl⟩) | (go_at_call 199; refine (HK4.out _ (by repeat (first | with_reducible exact Frm.refl _ _ | apply Frm.drewN | apply Frm.drew | apply Frm.alloc))).2.mono ?_; rintro e w3 ⟨rfl, H5⟩; obtain ⟨b0', b1', b2', bf'⟩ := pew_cells H5.at1))
   all_goals
    go_wp2_with fail
    go_ret
    have hR := HR.out
    rw [if_neg (by simp), ← HQ.out] at hR
    subst hR
    refine ⟨rfl, ?_⟩
    repeat (first | with_reducible refine SL.drewN ?_ _ | with_reducible refine SL.drew ?_ | with_reducible exact H5.drop1)
def closeF (x : PipeM) : (List Wtr × List Wtr × Int) × PipeM :=
 if x.closed then (([], [], 90), x) else ((x.receivers, x.senders, 0), { x with closed := true, senders := [], receivers := [] })
set_option maxRecDepth 100000 in
set_option maxHeartbeats 400000 in
theorem sl_close (hs : x.senders.length ≤ 1024) (hr : x.receivers.length ≤ 1024) (H : SL w (PipeP g x :: F)) :
  Calls Tryz.prog 162 #[.pointer (some ⟨g, 0, none⟩)] w fun e w' => ∃ a c b d, e = .returned (.tuple #[.slice a (closeF x).1.1.length c, .slice b (closeF x).1.2.1.length d, .int .i64 (closeF x).1.2.2]) ∧
   SL w' (RdP a (closeF x).1.1.length 3 ((closeF x).1.1.flatMap Wtr.cells) :: RdP b (closeF x).1.2.1.length 3 ((closeF x).1.2.1.flatMap Wtr.cells) :: PipeP g (closeF x).2 :: F) := by
 unfold closeF
 by_cases hc : x.closed = true
 ·rw [if_pos hc]
  obtain ⟨rb, sp, rp, H1⟩ := pipe_open H
  obtain ⟨c0, c1, c2, c3, c4, c5, cf⟩ := pipe_cells H1.at0
  rw [hc] at c3
  have gl := lt_of_block H1.at0
  have HC := Lib.hid hc
  clear hc
  go_enter Tryz.func162, Tryz.ntmps162
  go_wp2_with fail
  go_ret3
  refine ⟨none, 0, none, 0, rfl, SL.rdNil 3 (SL.rdNil 3 ?_)⟩
  repeat (first | with_reducible refine SL.drewN ?_ _ | with_reducible refine SL.drew ?_ | with_reducible exact H)
 ·rw [if_neg hc]
  have hc' : x.closed = false := by simpa using hc
  obtain ⟨rb, sp, rp, H1⟩ := pipe_open H
  obtain ⟨c0, c1, c2, c3, c4, c5, cf⟩ := pipe_cells H1.at0
  rw [hc'] at c3
  have gl := lt_of_block H1.at0
  have HC := Lib.hid hc'
  clear hc hc'
  go_enter Tryz.func162, Tryz.ntmps162
  go_wp2_with fail
  have H2 := H1.set 3 (.bool true)
  dsimp [Array.setIfInBounds] at H2
  have H3 := pipe_shut (x := { x with closed := true }) H2
  clear H2 c0 c1 c2 c3 c4 c5 cf gl
  refine (sl_waiting (x := { x with closed := true }) false (Nat.le_trans hs (by decide)) (Nat.le_trans hr (by decide)) H3).mono ?_
  intro e w1 hW
  obtain ⟨a, c, rfl, H4⟩ := hW.sl H3
  clear hW
  go_wp2_with fail
  refine (sl_waiting (x := { x with closed := true }) true (Nat.le_trans hs (by decide)) (Nat.le_trans hr (by decide)) H4.up1).mono ?_
  intro e w2 hW
  obtain ⟨b, d, rfl, H5⟩ := hW.sl H4
  clear hW
  go_wp2_with fail
  refine (sl_pew_new H5).mono ?_
  rintro e w3 ⟨p1, rfl, H6⟩
  go_wp2_with fail
  refine (sl_pew_new H6).mono ?_
  rintro e w4 ⟨p2, rfl, H7⟩
  obtain ⟨rb', sp', rp', H8⟩ := pipe_open H7.up4
  obtain ⟨c0, c1, c2, c3, c4, c5, cf⟩ := pipe_cells H8.at0
  have gl := lt_of_block H8.at0
  go_wp2_with fail
  go_ret3
  have H9 := (H8.set 2 (.pointer (some ⟨p1, 0, none⟩))).set 1 (.pointer (some ⟨p2, 0, none⟩))
  dsimp [Array.setIfInBounds] at H9
  have H10 := pipe_shut (x := { x with closed := true, senders := [], receivers := [] }) (H9.drop2.drop2).dn1.dn1
  have H11 := H10.up1.up2
  exact ⟨a, c, b, d, rfl, H11⟩
end
end Go.Proofs.YtchkaaeoffmjnaaGreatDoor
namespace Go.Proofs.YtchkaaeoffmjnaaGreatDoor
set_option linter.unusedVariables false
set_option linter.unusedSimpArgs false
open Go.RowKit
theorem Rd.cut {w : World} {sz n k cap d : Nat} {a : Option Addr} {xs : List Value} (h : Rd w sz a n xs) (hd : k * sz = d) (hk : k ≤ n) (hc : n ≤ cap) :
  Rd w sz (if cap = k then a else a.map (fun x => ⟨x.block, x.off + d, none⟩)) (n - k) (xs.drop d) := by
 subst hd
 refine ⟨by rw [List.length_drop, h.1, Nat.sub_mul], Nat.le_trans (Nat.sub_le _ _) h.2.1, fun hn => ?_⟩
 obtain ⟨b, off, rfl, hcell⟩ := h.2.2 (by omega)
 rw [if_neg (by omega)]
 refine ⟨b, off + k * sz, rfl, fun j u hu => ?_⟩
 rw [Nat.add_assoc]
 exact hcell _ u (by rw [← hu, List.getElem?_drop])
theorem SL.slc {w : World} {F : List Piece} {te sz n : Nat} {v : Value} {xs : List Value} (h : SL w (Slc te sz v n xs :: F)) : ∃ a cap, v = .slice a n cap ∧ n ≤ cap ∧ cap ≤ maxLen ∧ Rd w sz a n xs := by
 obtain ⟨S, _, h1, _⟩ := h.on
 rcases h1.2 with ⟨rfl, rfl⟩ | ⟨g, cap, cur, rfl, _, _, h2, h3, _⟩
 ·exact ⟨none, 0, rfl, Nat.le_refl _, Nat.zero_le _, Rd.of_own h1⟩
 ·exact ⟨_, cap, rfl, h2, h3, Rd.of_own h1⟩
/-- A piece out of which a slice can be read. -/
def Reader (A : Piece) (sz : Nat) (a : Option Addr) (n : Nat) (xs : List Value) : Prop := ∀ (S : Nat → Prop) (w : World), A.on S w → Rd w sz a n xs
theorem Reader.slc {te sz n cap : Nat} {a : Option Addr} {xs : List Value} : Reader (Slc te sz (.slice a n cap) n xs) sz a n xs := fun S w h => Rd.of_own h.1
theorem Reader.rdp {sz n : Nat} {a : Option Addr} {xs : List Value} : Reader (RdP a n sz xs) sz a n xs := fun S w h => h.1
theorem Reader.old {w0 : World} {sz n : Nat} {a : Option Addr} {xs : List Value} (h : Rd w0 sz a n xs) : Reader (Old w0) sz a n xs := by
 intro S w ho
 refine ⟨h.1, h.2.1, fun hn => ?_⟩
 obtain ⟨b, off, ha, hc⟩ := h.2.2 hn
 refine ⟨b, off, ha, fun i u hu => ?_⟩
 have hx := hc i u hu
 exact (World.cell?_of_block (w := w0) (ho.2.2.2 b (World.block_lt_of_cell? w0 _ hx)).2).trans hx
theorem SL.read {w : World} {A : Piece} {F : List Piece} {sz n : Nat} {a : Option Addr} {xs : List Value} (h : SL w (A :: F)) (hr : Reader A sz a n xs) : Rd w sz a n xs := by
 obtain ⟨S, _, h1⟩ := h.on
 exact hr S w h1
section
variable {w : World} {F : List Piece}
end
end Go.Proofs.YtchkaaeoffmjnaaGreatDoor
namespace Go.Proofs.YtchkaaeoffmjnaaGreatDoor
set_option linter.unusedVariables false
set_option linter.unusedSimpArgs false
open Go.RowKit
def refL (h : Nat) (x : PipeM) (v : Value × Value × Value) : List Piece :=
 [row h #[.int .i64 x.size, v.1, v.2.1, v.2.2, .bool x.closed, .int .i64 x.sent, .int .i64 x.received] 259, Slc 3 1 v.1 x.buf.length (ints x.buf),
  Slc 255 3 v.2.1 x.senders.length (x.senders.flatMap Wtr.cells), Slc 255 3 v.2.2 x.receivers.length (x.receivers.flatMap Wtr.cells)]
/-- The reference's pipe. -/
def RefP (h : Nat) (x : PipeM) : Piece := exP fun v => all (refL h x v)
section
variable {w : World} {F : List Piece} {h : Nat} {x : PipeM}
end
end Go.Proofs.YtchkaaeoffmjnaaGreatDoor
namespace Go.Proofs.YtchkaaeoffmjnaaGreatDoor
set_option linter.unusedVariables false
set_option linter.unusedSimpArgs false
open Go.RowKit
section
variable {w : World} {F : List Piece} {h : Nat} {x : PipeM}
end
end Go.Proofs.YtchkaaeoffmjnaaGreatDoor
namespace Go.Proofs.YtchkaaeoffmjnaaGreatDoor
set_option linter.unusedVariables false
set_option linter.unusedSimpArgs false
open Go.RowKit
section
variable {w : World} {F : List Piece} {h : Nat} {x : PipeM}
end
end Go.Proofs.YtchkaaeoffmjnaaGreatDoor
namespace Go.Proofs.YtchkaaeoffmjnaaGreatDoor
set_option linter.unusedVariables false
set_option linter.unusedSimpArgs false
open Go.RowKit
def rwaitF (x : PipeM) (s : Bool) (m : Wtr) : Int × PipeM :=
 if x.closed || (if s then decide (x.buf.length < x.size) else decide (0 < x.buf.length)) || decide (0 < (without m.g (if s then x.receivers else x.senders)).length) then (7, x)
 else if m.g < 0 ∨ m.case_ < -1 then (1, x)
 else if s then (if 1024 ≤ x.senders.length then (5, x) else (0, { x with senders := x.senders ++ [m] }))
 else (if 1024 ≤ x.receivers.length then (5, x) else (0, { x with receivers := x.receivers ++ [m] }))
section
variable {w : World} {F : List Piece} {h : Nat} {x : PipeM}
end
end Go.Proofs.YtchkaaeoffmjnaaGreatDoor
