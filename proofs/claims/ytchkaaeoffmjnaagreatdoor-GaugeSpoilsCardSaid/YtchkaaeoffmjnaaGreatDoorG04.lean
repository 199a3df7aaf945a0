/- Texts of the proof, several in one file: PlainP, Pipe9, Quiet9, ForkA, ForkB, ForkC, ForkD, EntryP, Crew, CrewB, Ref11, LoomP. -/
import Derived.Test.YtchkaaeoffmjnaaGreatDoorG03
import Derived.Deep.QuietTactic
import Derived.Deep.RegionHeld3
import Derived.Test.YtchkaaeoffmjnaaGreatDoorG01
import Derived.Deep.DeepMust
import Derived.BigQuiet
namespace Go.Proofs.YtchkaaeoffmjnaaGreatDoor
set_option linter.unusedVariables false
set_option linter.unusedSimpArgs false
open Go.RowKit
structure Inv9 (n : Nat) (x : PipeM) : Prop where
 size : x.size ≤ 4
 buf : x.buf.length ≤ x.size
 snd : Fine x.senders
 rcv : Fine x.receivers
 s0 : 0 ≤ x.sent
 s1 : x.sent ≤ n
 r0 : 0 ≤ x.received
 r1 : x.received ≤ n
 cl : x.closed = true → x.senders = [] ∧ x.receivers = []
 re : x.receivers ≠ [] → x.buf = []
 se : x.senders ≠ [] → x.buf.length = x.size
 own : ∀ a ∈ x.senders, ∀ b ∈ x.receivers, a.g = b.g
theorem Fine.nil : Fine [] := ⟨by simp, by simp⟩
theorem Fine.tail {m : Wtr} {l : List Wtr} (h : Fine (m :: l)) : Fine l := ⟨by have := h.1; simp at this; omega, fun x hx => h.2 x (List.mem_cons_of_mem _ hx)⟩
theorem Inv9.empty {z : Nat} (h : z ≤ 4) : Inv9 0 (emptyM z) :=
 ⟨h, Nat.zero_le _, Fine.nil, Fine.nil, by simp [emptyM], by simp [emptyM], by simp [emptyM], by simp [emptyM], fun h => ⟨rfl, rfl⟩, fun h => rfl, fun h => absurd rfl h, fun a h => by simp [emptyM] at h⟩
theorem Inv9.more {n k : Nat} {x : PipeM} (h : Inv9 n x) (hk : n ≤ k) : Inv9 k x := { h with s1 := by have := h.s1; omega, r1 := by have := h.r1; omega }
theorem Inv9.send {n : Nat} {x : PipeM} (h : Inv9 n x) (v : Int) : Inv9 (n + 1) (sendF x v).2 := by
 unfold sendF
 by_cases hc : x.closed = true
 ·rw [if_pos hc]
  exact h.more (by omega)
 ·rw [if_neg hc]
  have s0 := h.s0; have s1 := h.s1; have r0 := h.r0; have r1 := h.r1
  rcases hr : x.receivers with _ | ⟨m, l⟩
  ·dsimp only
   by_cases hz : x.buf.length < x.size
   ·rw [if_pos hz]
    exact { h with buf := by simp; omega, rcv := Fine.nil, s0 := by dsimp only; omega, s1 := by dsimp only; omega, r1 := by dsimp only; omega, cl := fun hh => absurd hh hc, re := fun hh => absurd rfl hh, se := fun hh => by have := h.se hh; omega, own := fun a _ b hb => by cases hb }
   ·rw [if_neg hz]
    exact h.more (by omega)
  ·dsimp only
   have hre := h.re (by rw [hr]; simp)
   exact { h with rcv := by have := h.rcv; rw [hr] at this; exact this.tail, s0 := by dsimp only; omega, s1 := by dsimp only; omega, r0 := by dsimp only; omega, r1 := by dsimp only; omega, cl := fun hh => absurd hh hc, re := fun hh => hre, own := fun a ha b hb => h.own a ha b (by rw [hr]; exact List.mem_cons_of_mem _ hb) }
theorem Inv9.recv {n : Nat} {x : PipeM} (h : Inv9 n x) : Inv9 (n + 1) (recvF x).2 := by
 unfold recvF
 have s0 := h.s0; have s1 := h.s1; have r0 := h.r0; have r1 := h.r1
 rcases hb : x.buf with _ | ⟨a, L⟩
 ·rcases hs : x.senders with _ | ⟨m, l⟩
  ·dsimp only
   by_cases hc : x.closed = true
   ·rw [if_pos hc]
    exact h.more (by omega)
   ·rw [if_neg hc]
    exact h.more (by omega)
  ·have hc : ¬ x.closed = true := fun hh => by have := (h.cl hh).1; rw [hs] at this; cases this
   have hse := h.se (by rw [hs]; simp)
   rw [hb] at hse
   dsimp only
   exact { h with buf := by simp, re := fun _ => rfl, snd := by have := h.snd; rw [hs] at this; exact this.tail, s0 := by dsimp only; omega, s1 := by dsimp only; omega, r0 := by dsimp only; omega, r1 := by dsimp only; omega, cl := fun hh => absurd hh hc, se := fun hh => hse, own := fun c hc' b hb' => h.own c (by rw [hs]; exact List.mem_cons_of_mem _ hc') b hb' }
 ·have hr : x.receivers = [] := Classical.byContradiction fun hh => by have := h.re hh; rw [hb] at this; cases this
  have hbl := h.buf
  rw [hb] at hbl
  simp at hbl
  rcases hs : x.senders with _ | ⟨m, l⟩
  ·dsimp only
   exact { h with buf := by dsimp only; omega, snd := Fine.nil, s0 := s0, s1 := by dsimp only; omega, r0 := by dsimp only; omega, r1 := by dsimp only; omega, cl := fun hh => ⟨rfl, (h.cl hh).2⟩, re := fun hh => absurd hr hh, se := fun hh => absurd rfl hh, own := fun a ha => by cases ha }
  ·have hc : ¬ x.closed = true := fun hh => by have := (h.cl hh).1; rw [hs] at this; cases this
   have hse := h.se (by rw [hs]; simp)
   rw [hb] at hse
   simp at hse
   dsimp only
   exact { h with buf := by simp; omega, snd := by have := h.snd; rw [hs] at this; exact this.tail, s0 := by dsimp only; omega, s1 := by dsimp only; omega, r0 := by dsimp only; omega, r1 := by dsimp only; omega, cl := fun hh => absurd hh hc, re := fun hh => absurd hr hh, se := fun hh => by simp; omega, own := fun c hc' b hb' => h.own c (by rw [hs]; exact List.mem_cons_of_mem _ hc') b hb' }
theorem without_nil {g : Int} {L : List Wtr} : (¬ 0 < (without g L).length) ↔ ∀ b ∈ L, b.g = g := by
 unfold without
 rw [Nat.not_lt, Nat.le_zero_eq, List.length_eq_zero_iff, List.filter_eq_nil_iff]
 exact ⟨fun h b hb => by have := h b hb; simpa using this, fun h b hb => by simp [h b hb]⟩
theorem any_not {g : Int} {L : List Wtr} : (L.any (fun m => !(m.g == g))) = decide (0 < (without g L).length) := by
 rw [Bool.eq_iff_iff, decide_eq_true_iff, List.any_eq_true]
 constructor
 ·rintro ⟨b, hb, hn⟩
  apply Classical.byContradiction
  intro hh
  have := without_nil.1 hh b hb
  simp [this] at hn
 ·intro hh
  apply Classical.byContradiction
  intro hno
  refine absurd hh (without_nil.2 fun b hb => ?_)
  apply Classical.byContradiction
  intro hg
  exact hno ⟨b, hb, by simpa using hg⟩
theorem wait_eq {n : Nat} {x : PipeM} (h : Inv9 n x) (s : Bool) (m : Wtr) : waitF x s m = rwaitF x s m := by
 have key : (readyF x s && !aloneF x (!s) m.g) = (x.closed || (if s then decide (x.buf.length < x.size) else decide (0 < x.buf.length)) || decide (0 < (without m.g (if s then x.receivers else x.senders)).length)) := by
  have hb := h.buf
  unfold readyF aloneF
  cases s
  ·simp only [Bool.not_false, Bool.false_eq_true, if_false, if_true]
   rw [any_not]
   by_cases hc : x.closed = true
   ·simp [hc]
   ·have hc' : x.closed = false := by simpa using hc
    simp only [hc', Bool.not_false, Bool.true_and, Bool.false_or]
    by_cases h1 : 0 < x.buf.length
    ·have hz : ¬ x.size = 0 := by omega
     simp [h1, hz]
    ·by_cases h2 : 0 < x.senders.length
     ·have := h.se (by intro e; rw [e] at h2; simp at h2)
      have hz : x.size = 0 := by omega
      simp [h1, h2, hz]
     ·have hs : x.senders = [] := List.eq_nil_of_length_eq_zero (by omega)
      simp [hs, h1, without]
  ·simp only [Bool.not_true, Bool.false_eq_true, if_false, if_true]
   rw [any_not]
   by_cases hc : x.closed = true
   ·simp [hc]
   ·have hc' : x.closed = false := by simpa using hc
    simp only [hc', Bool.not_false, Bool.true_and, Bool.false_or]
    by_cases h1 : x.buf.length < x.size
    ·have hz : ¬ x.size = 0 := by omega
     simp [h1, hz]
    ·by_cases h2 : 0 < x.receivers.length
     ·have := h.re (by intro e; rw [e] at h2; simp at h2)
      have hz : x.size = 0 := by rw [this] at h1; simp at h1; omega
      simp [h1, h2, hz]
     ·have hs : x.receivers = [] := List.eq_nil_of_length_eq_zero (by omega)
      simp [hs, h1, without]
 unfold waitF rwaitF
 rw [key]
 by_cases hc : (x.closed || (if s then decide (x.buf.length < x.size) else decide (0 < x.buf.length)) || decide (0 < (without m.g (if s then x.receivers else x.senders)).length)) = true
 ·rw [if_pos hc, if_pos hc]
 ·rw [if_neg hc, if_neg hc]
  unfold addF
  have l1 := h.snd.1
  have l2 := h.rcv.1
  by_cases h1 : m.g < 0 ∨ m.case_ < -1
  ·cases s <;> simp [h1]
  ·cases s
   ·simp only [Bool.false_eq_true, if_false, if_neg h1]
    by_cases h2 : x.receivers.length = 1024
    ·rw [if_pos h2, if_pos (by omega)]
    ·rw [if_neg h2, if_neg (by omega)]
   ·simp only [if_true, if_neg h1]
    by_cases h2 : x.senders.length = 1024
    ·rw [if_pos h2, if_pos (by omega)]
    ·rw [if_neg h2, if_neg (by omega)]
theorem Inv9.wait {n : Nat} {x : PipeM} (h : Inv9 n x) (s : Bool) (m : Wtr) : Inv9 n (waitF x s m).2 := by
 rw [wait_eq h]
 unfold rwaitF
 have hb := h.buf
 by_cases hc : (x.closed || (if s then decide (x.buf.length < x.size) else decide (0 < x.buf.length)) || decide (0 < (without m.g (if s then x.receivers else x.senders)).length)) = true
 ·rw [if_pos hc]
  exact h
 ·rw [if_neg hc]
  by_cases h1 : m.g < 0 ∨ m.case_ < -1
  ·rw [if_pos h1]
   exact h
  ·rw [if_neg h1]
   cases s
   ·simp only [Bool.false_eq_true, if_false] at hc ⊢
    simp only [Bool.or_eq_true, decide_eq_true_iff, not_or] at hc
    obtain ⟨⟨c1, c2⟩, c3⟩ := hc
    by_cases h2 : 1024 ≤ x.receivers.length
    ·rw [if_pos h2]
     exact h
    ·rw [if_neg h2]
     exact { h with rcv := ⟨by simp; omega, fun y hy => (List.mem_append.1 hy).elim (fun hy => h.rcv.2 y hy) (fun hy => by simp at hy; subst hy; omega)⟩, cl := fun hh => absurd hh c1, re := fun _ => List.eq_nil_of_length_eq_zero (by dsimp only; omega), own := fun a ha b hb' => (List.mem_append.1 hb').elim (fun hb' => h.own a ha b hb') (fun hb' => by simp at hb'; subst hb'; exact without_nil.1 c3 a ha) }
   ·simp only [if_true] at hc ⊢
    simp only [Bool.or_eq_true, decide_eq_true_iff, not_or] at hc
    obtain ⟨⟨c1, c2⟩, c3⟩ := hc
    by_cases h2 : 1024 ≤ x.senders.length
    ·rw [if_pos h2]
     exact h
    ·rw [if_neg h2]
     exact { h with snd := ⟨by simp; omega, fun y hy => (List.mem_append.1 hy).elim (fun hy => h.snd.2 y hy) (fun hy => by simp at hy; subst hy; omega)⟩, cl := fun hh => absurd hh c1, se := fun _ => by dsimp only; omega, own := fun a ha b hb' => (List.mem_append.1 ha).elim (fun ha => h.own a ha b hb') (fun ha => by simp at ha; subst ha; exact (without_nil.1 c3 b hb').symm) }
theorem Inv9.close {n : Nat} {x : PipeM} (h : Inv9 n x) : Inv9 n (closeF x).2 := by
 unfold closeF
 by_cases hc : x.closed = true
 ·rw [if_pos hc]
  exact h
 ·rw [if_neg hc]
  exact { h with snd := Fine.nil, rcv := Fine.nil, cl := fun _ => ⟨rfl, rfl⟩, re := fun hh => absurd rfl hh, se := fun hh => absurd rfl hh, own := fun a ha => by cases ha }
theorem Inv9.drop {n : Nat} {x : PipeM} (h : Inv9 n x) (g : Int) : Inv9 n (dropM x g) := by
 have sub : ∀ {L : List Wtr} {a : Wtr}, a ∈ without g L → a ∈ L := fun ha => (List.mem_filter.1 ha).1
 have ne : ∀ {L : List Wtr}, without g L ≠ [] → L ≠ [] := fun hh e => hh (by rw [e]; rfl)
 exact { h with snd := h.snd.without g, rcv := h.rcv.without g, cl := fun hh => by obtain ⟨a, b⟩ := h.cl hh; exact ⟨by unfold dropM; dsimp only; rw [a]; rfl, by unfold dropM; dsimp only; rw [b]; rfl⟩, re := fun hh => h.re (ne hh), se := fun hh => h.se (ne hh), own := fun a ha b hb => h.own a (sub ha) b (sub hb) }
structure Step9 where
 what : Int
 w : Wtr
def Step9.cells (s : Step9) : List Value := [.int .i64 s.what, .int .i64 s.w.g, .int .i64 s.w.case_, .int .i64 s.w.value]
def Step9.agg (s : Step9) : Value := .agg #[.int .i64 s.what, .int .i64 s.w.g, .int .i64 s.w.case_, .int .i64 s.w.value]
def stepF (x : PipeM) (s : Step9) : PipeM :=
 if s.what = 0 ∨ s.what = 1 then (sendF x s.w.value).2
 else if s.what = 2 ∨ s.what = 3 then (recvF x).2
 else if s.what = 4 ∨ s.what = 5 then (waitF x (s.what == 4) s.w).2
 else if s.what = 6 then (closeF x).2
 else if s.what = 7 then dropM x s.w.g
 else x
theorem Inv9.step {n : Nat} {x : PipeM} (h : Inv9 n x) (s : Step9) : Inv9 (n + 1) (stepF x s) := by
 unfold stepF
 split
 ·exact h.send _
 split
 ·exact h.recv
 split
 ·exact (h.wait _ _).more (by omega)
 split
 ·exact h.close.more (by omega)
 split
 ·exact (h.drop _).more (by omega)
 ·exact h.more (by omega)
theorem Inv9.cnt {n : Nat} {x : PipeM} (h : Inv9 n x) (hn : n ≤ 1000000000) : Cnt x := ⟨h.s0, by have := h.s1; omega, h.r0, by have := h.r1; omega⟩
end Go.Proofs.YtchkaaeoffmjnaaGreatDoor
namespace Go.Proofs.YtchkaaeoffmjnaaGreatDoor
set_option linter.unusedVariables false
set_option linter.unusedSimpArgs false
open Go.RowKit
section
variable {w : World} {F : List Piece} {g h n : Nat} {x : PipeM}
theorem sl_send (v : Int) (hI : Inv9 n x) (hn : n ≤ 1000000) (H : SL w (PipeP g x :: F)) : Calls Tryz.prog 195 #[.pointer (some ⟨g, 0, none⟩), .int .i64 v] w fun e w' => e = .returned (.tuple #[(sendF x v).1.1.agg, .int .i64 (sendF x v).1.2]) ∧ SL w' (PipeP g (sendF x v).2 :: F) :=
 PipePost.sl (S := fun _ => False) (fun S h => pipe_send h (by have := hI.rcv.1; omega) (hI.cnt (by omega)) v) H
theorem sl_drop (i : Int) (hI : Inv9 n x) (H : SL w (PipeP g x :: F)) : Calls Tryz.prog 216 #[.pointer (some ⟨g, 0, none⟩), .int .i64 i] w fun e w' => e = .returned (.int .i64 (((x.senders.length : Int) - (without i x.senders).length) + ((x.receivers.length : Int) - (without i x.receivers).length))) ∧ SL w' (PipeP g (dropM x i) :: F) :=
 PipePost.sl (S := fun _ => False) (fun S h => pipe_drop h hI.snd hI.rcv i) H
theorem sl_new (z : Nat) (hz : z ≤ 4) (H : SL w F) : Calls Tryz.prog 112 #[.int .i64 z] w fun e w' => ∃ g, e = .returned (.tuple #[.pointer (some ⟨g, 0, none⟩), .int .i64 0]) ∧ SL w' (PipeP g (emptyM z) :: F) := by
 refine (pipe_new_ok z hz w).mono ?_
 rintro e w' ⟨g, rfl, h1, f1⟩
 exact ⟨g, rfl, H.new (M := [PipeP g (emptyM z)]) f1 ⟨_, fun _ h => h, h1, trivial⟩⟩
end
end Go.Proofs.YtchkaaeoffmjnaaGreatDoor
namespace Go.Proofs.YtchkaaeoffmjnaaGreatDoor
set_option linter.unusedVariables false
set_option linter.unusedSimpArgs false
open Go.RowKit
section
variable {w : World} {F : List Piece} {g h n : Nat} {x : PipeM}
end
end Go.Proofs.YtchkaaeoffmjnaaGreatDoor
namespace Go.Proofs.YtchkaaeoffmjnaaGreatDoor
set_option linter.unusedVariables false
set_option linter.unusedSimpArgs false
open Go.RowKit
def adr (o : Option Nat) : Value := .pointer (o.map fun g => ⟨g, 0, none⟩)
def pcs (gs : List (Option Nat)) : List Value := gs.map adr
def pieceO (P : Nat → PipeM → Piece) : Option Nat → PipeM → Piece
 | none, _ => emp
 | some g, x => P g x
/-- Pipes side by side; of none there is nothing. -/
def PsP (gs : List (Option Nat)) (M : List PipeM) : Piece := all (List.zipWith (pieceO PipeP) gs M)
def RsP (gs : List (Option Nat)) (M : List PipeM) : Piece := all (List.zipWith (pieceO RefP) gs M)
theorem SLs.take {w : World} : ∀ {L : List Piece} {S : Nat → Prop} (i : Nat) {A : Piece}, SLs w S L → L[i]? = some A → SLs w S (A :: L.set i emp)
 | [], _, i, _, _, h => by simp at h
 | B :: L, S, 0, A, h, hi => by
  simp at hi
  subst hi
  obtain ⟨T, h1, h2, h3⟩ := h
  exact ⟨T, h1, h2, fun _ => False, fun _ h => h.elim, trivial, h3.mono (fun k hk => ⟨hk, id⟩)⟩
 | B :: L, S, i + 1, A, h, hi => (SLs.congr (fun S' h' => SLs.take i h' (by simpa using hi)) h).swap
theorem SLs.put {w : World} : ∀ {L : List Piece} {S : Nat → Prop} (i : Nat) {A : Piece}, i < L.length → SLs w S (A :: L.set i emp) → SLs w S (L.set i A)
 | [], _, i, _, h, _ => absurd h (Nat.not_lt_zero i)
 | B :: L, S, 0, A, _, h => SLs.congr (fun S' h' => SLs.tl h') h
 | B :: L, S, i + 1, A, hi, h => SLs.congr (fun S' h' => SLs.put i (by simpa using hi) h') h.swap
section
variable {w : World} {F : List Piece} {gs : List (Option Nat)} {M : List PipeM} {P : Nat → PipeM → Piece}
theorem zip_get {i g : Nat} {x : PipeM} (hg : gs[i]? = some (some g)) (hx : M[i]? = some x) : (List.zipWith (pieceO P) gs M)[i]? = some (P g x) := by
 rw [List.getElem?_zipWith, hg, hx]
 rfl
theorem zip_set {i g : Nat} (hg : gs[i]? = some (some g)) (y : PipeM) : (List.zipWith (pieceO P) gs M).set i (P g y) = List.zipWith (pieceO P) gs (M.set i y) := by
 apply List.ext_getElem?
 intro j
 by_cases hj : i = j
 ·subst hj
  rw [List.getElem?_set_self', List.getElem?_zipWith, List.getElem?_zipWith, hg, List.getElem?_set_self']
  cases M[i]? <;> rfl
 ·rw [List.getElem?_set_ne hj, List.getElem?_zipWith, List.getElem?_zipWith, List.getElem?_set_ne hj]
theorem all_take {i g : Nat} {x : PipeM} (hg : gs[i]? = some (some g)) (hx : M[i]? = some x) (H : SL w (all (List.zipWith (pieceO P) gs M) :: F)) : SL w (P g x :: all ((List.zipWith (pieceO P) gs M).set i emp) :: F) := by
 have h := SL.all.1 H
 obtain ⟨T, t1, t2, t3⟩ := SLs.app.1 h
 have t4 := SLs.take i t2 (zip_get (P := P) hg hx)
 obtain ⟨U, u1, u2, u3⟩ := t4
 exact ⟨U, fun k hk => t1 k (u1 k hk), u2, fun k => T k ∧ ¬ U k, fun k hk => ⟨t1 k hk.1, hk.2⟩, u3, t3.mono (fun k hk => ⟨⟨hk.1, fun hu => hk.2 (u1 k hu)⟩, fun ht => hk.2 ht.1⟩)⟩
theorem all_put {i g : Nat} {x y : PipeM} (hg : gs[i]? = some (some g)) (hx : M[i]? = some x) (H : SL w (P g y :: all ((List.zipWith (pieceO P) gs M).set i emp) :: F)) : SL w (all (List.zipWith (pieceO P) gs (M.set i y)) :: F) := by
 obtain ⟨U, u1, u2, T, t1, t2, t3⟩ := H
 rw [← zip_set hg y]
 have hlen : i < (List.zipWith (pieceO P) gs M).length := by
  have := zip_get (P := P) hg hx
  exact (List.getElem?_eq_some_iff.1 this).1
 refine ⟨fun k => U k ∨ T k, fun k hk => hk.elim (u1 k) (fun h => (t1 k h).1), SLs.put i hlen ⟨U, fun k hk => .inl hk, u2, t2.mono (fun k hk => ⟨.inr hk, (t1 k hk).2⟩)⟩, t3.mono (fun k hk => ⟨hk.1.1, fun h => h.elim hk.1.2 hk.2⟩)⟩
theorem all_at {i g : Nat} {x : PipeM} (hg : gs[i]? = some (some g)) (hx : M[i]? = some x) (H : SL w (all (List.zipWith (pieceO P) gs M) :: F)) : ∃ S, (P g x).on S w := by
 obtain ⟨S, _, h⟩ := (all_take hg hx H).on
 exact ⟨S, h⟩
end
structure CaseM where
 send : Bool
 chan : Int
 value : Int
def CaseM.cells (c : CaseM) : List Value := [.bool c.send, .int .i64 c.chan, .int .i64 c.value]
def CaseM.agg (c : CaseM) : Value := .agg #[.bool c.send, .int .i64 c.chan, .int .i64 c.value]
theorem case_at {w : World} {a : Option Addr} {n : Nat} {L : List CaseM} (h : Rd w 3 a n (L.flatMap CaseM.cells)) (k : Nat) (hk : k < L.length) : ∃ b off, a = some ⟨b, off, none⟩ ∧
  w.cell? ⟨b, off + k * 3, none⟩ = some (.bool L[k].send) ∧ w.cell? ⟨b, off + k * 3 + 1, none⟩ = some (.int .i64 L[k].chan) ∧ w.cell? ⟨b, off + k * 3 + 2, none⟩ = some (.int .i64 L[k].value) := by
 have hl := h.1
 rw [flat_length CaseM.cells 3 (fun _ => rfl)] at hl
 obtain ⟨b, off, rfl, hc⟩ := h.2.2 (by omega)
 have key : ∀ j (hj : j < 3), ∀ u, (L[k].cells)[j]? = some u → w.cell? ⟨b, off + k * 3 + j, none⟩ = some u := fun j hj u hu => by
  rw [Nat.add_assoc]
  exact hc (k * 3 + j) u (by rw [flat_get CaseM.cells 3 (fun _ => rfl) L k j hj hk]; exact hu)
 exact ⟨b, off, rfl, key 0 (by omega) _ rfl, key 1 (by omega) _ rfl, key 2 (by omega) _ rfl⟩
/-- Whose address a name has. -/
def nm (gs : List (Option Nat)) (c : Int) : Option Nat := if 0 ≤ c ∧ c < gs.length then gs.getD c.toNat none else none
/-- Which pipe a name is; ok: which are there. -/
def posF (ok : List Bool) (c : Int) : Option Nat := if 0 ≤ c ∧ c < ok.length ∧ ok.getD c.toNat false = true then some c.toNat else none
def oks (gs : List (Option Nat)) : List Bool := gs.map Option.isSome
theorem nm_pos (gs : List (Option Nat)) (c : Int) : (posF (oks gs) c = none ∧ nm gs c = none) ∨ (∃ i g, posF (oks gs) c = some i ∧ nm gs c = some g ∧ gs[i]? = some (some g) ∧ c = i) := by
 unfold posF nm oks
 rw [List.length_map]
 by_cases h : 0 ≤ c ∧ c < gs.length
 ·rw [if_pos h]
  obtain ⟨i, rfl⟩ : ∃ i : Nat, c = i := ⟨c.toNat, by omega⟩
  have hi : i < gs.length := by omega
  rw [Int.toNat_natCast, List.getD_eq_getElem?_getD, List.getD_eq_getElem?_getD, List.getElem?_map, List.getElem?_eq_getElem hi]
  rcases hg : gs[i] with _ | g
  ·exact .inl ⟨by rw [if_neg (by simp)], rfl⟩
  ·exact .inr ⟨i, g, by rw [if_pos ⟨h.1, h.2, rfl⟩], rfl, by rw [List.getElem?_eq_getElem hi, hg], rfl⟩
 ·rw [if_neg h]
  exact .inl ⟨if_neg (fun q => h ⟨q.1, q.2.1⟩), rfl⟩
def readyC (ok : List Bool) (M : List PipeM) (c : CaseM) : Bool := match posF ok c.chan with | none => false | some i => readyF (M.getD i (emptyM 0)) c.send
def readyK (ok : List Bool) (M : List PipeM) (L : List CaseM) (k : Nat) : List Int := ((List.range k).filter (fun i : Nat => readyC ok M (L.getD i ⟨false, 0, 0⟩))).map (fun i : Nat => (i : Int))
def readyL (ok : List Bool) (M : List PipeM) (L : List CaseM) : List Int := readyK ok M L L.length
theorem readyK_succ (ok : List Bool) (M : List PipeM) (L : List CaseM) (k : Nat) (hk : k < L.length) : readyK ok M L (k + 1) = readyK ok M L k ++ if readyC ok M L[k] then [(k : Int)] else [] := by
 unfold readyK
 rw [List.range_succ, List.filter_append, List.map_append]
 congr 1
 have e : L.getD k ⟨false, 0, 0⟩ = L[k] := by rw [List.getD_eq_getElem?_getD, List.getElem?_eq_getElem hk]; rfl
 rw [List.filter_cons, e, List.filter_nil]
 split <;> rfl
theorem readyK_le (ok : List Bool) (M : List PipeM) (L : List CaseM) (k : Nat) : (readyK ok M L k).length ≤ k := by
 unfold readyK
 rw [List.length_map]
 exact Nat.le_trans (List.length_filter_le _ _) (by simp)
section
variable {w : World} {F : List Piece} {gs : List (Option Nat)} {M : List PipeM}
set_option maxHeartbeats 400000 in
theorem f_named {a : Option Addr} {n cap : Nat} (c : Int) (hn : n = gs.length) (h : Rd w 1 a n (pcs gs)) : Calls Tryz.prog 194 #[.slice a n cap, .int .i64 c] w fun e w' => e = .returned (adr (nm gs c)) ∧ w = w' := by
 obtain ⟨v, hv⟩ : ∃ v, nm gs c = v := ⟨_, rfl⟩
 rw [hv]
 unfold nm at hv
 subst hn
 by_cases h1 : c < 0
 ·rw [if_neg (by omega)] at hv
  subst hv
  go_enter Tryz.func194, Tryz.ntmps194
  go_wp2_with fail
  go_ret
  exact ⟨rfl, rfl⟩
 ·obtain ⟨k, rfl⟩ : ∃ k : Nat, c = k := ⟨c.toNat, by omega⟩
  by_cases h2 : k < gs.length
  ·rw [if_pos (by omega), Int.toNat_natCast] at hv
   obtain ⟨b, off, rfl, hc⟩ := h.2.2 (by omega)
   have h3 := hc k (adr v) (by unfold pcs; rw [List.getElem?_map, List.getElem?_eq_getElem h2]; rw [List.getD_eq_getElem?_getD, List.getElem?_eq_getElem h2] at hv; simp at hv; rw [hv]; rfl)
   have h4 := World.block_lt_of_cell? w _ h3
   dsimp only at h4
   unfold adr at h3 ⊢
   obtain ⟨q, hq⟩ : ∃ q, v.map (fun g => (⟨g, 0, none⟩ : Addr)) = q := ⟨_, rfl⟩
   rw [hq] at h3 ⊢
   clear hc hv hq
   have d1 : (k : Int) < (gs.length : Int) := by omega
   have d2 : ¬ (gs.length : Int) ≤ (k : Int) := by omega
   have d3 : (0 : Int) ≤ (k : Int) := by omega
   go_enter Tryz.func194, Tryz.ntmps194
   go_wp2_with fail
   go_ret
   exact ⟨rfl, rfl⟩
  ·rw [if_neg (by omega)] at hv
   subst hv
   have d2 : (gs.length : Int) ≤ (k : Int) := by omega
   go_enter Tryz.func194, Tryz.ntmps194
   go_wp2_with fail
   go_ret
   exact ⟨rfl, rfl⟩
theorem ps_ready (hM : M.length = gs.length) (c : Int) (s : Bool) (v : Int) (H : SL w (PsP gs M :: F)) : Calls Tryz.prog 107 #[adr (nm gs c), .bool s] w fun e w' => e = .returned (.bool (readyC (oks gs) M ⟨s, c, v⟩)) ∧ Frm Nil w w' := by
 unfold readyC
 rcases nm_pos gs c with ⟨h1, h2⟩ | ⟨i, g, h1, h2, h3, h4⟩
 ·dsimp only
  rw [h1, h2]
  exact pipe_ready_nil s w
 ·dsimp only
  rw [h1, h2]
  have hi : i < M.length := by rw [hM]; exact (List.getElem?_eq_some_iff.1 h3).1
  obtain ⟨S, hS⟩ := all_at (P := PipeP) h3 (List.getElem?_eq_getElem hi) H
  show Calls _ _ _ _ fun e w' => e = .returned (.bool (readyF (M.getD i (emptyM 0)) s)) ∧ Frm Nil w w'
  rw [List.getD_eq_getElem?_getD, List.getElem?_eq_getElem hi]
  exact pipe_ready hS s
end
end Go.Proofs.YtchkaaeoffmjnaaGreatDoor
namespace Go.Proofs.YtchkaaeoffmjnaaGreatDoor
set_option linter.unusedVariables false
set_option linter.unusedSimpArgs false
open Go.RowKit
section
variable {w : World} {F : List Piece} {gs : List (Option Nat)} {M : List PipeM}
set_option maxRecDepth 100000 in
set_option maxHeartbeats 1000000 in
theorem f_ready {A B : Piece} {a b : Option Addr} {ca cb n m : Nat} {L : List CaseM} (hM : M.length = gs.length) (hn : n = L.length) (hm : m = gs.length) (hA : Reader A 3 a n (L.flatMap CaseM.cells)) (hB : Reader B 1 b m (pcs gs)) (hL : L.length ≤ 100000) (H : SL w (PsP gs M :: A :: B :: F)) :
  Calls Tryz.prog 164 #[.slice a n ca, .slice b m cb] w fun e w' => ∃ v, e = .returned v ∧ SL w' (Slc 3 1 v (readyL (oks gs) M L).length (ints (readyL (oks gs) M L)) :: PsP gs M :: A :: B :: F) := by
 subst hn hm
 have HM := Lib.hid hM
 clear hM
 unfold readyL
 go_enter Tryz.func164, Tryz.ntmps164
 go_wp2_with fail
 go_loopw [5, 9] (fun v i wr => ∃ k : Nat, k ≤ L.length ∧ i = .int .i64 k ∧ SL wr (Slc 3 1 v (readyK (oks gs) M L k).length (ints (readyK (oks gs) M L k)) :: PsP gs M :: A :: B :: F)) (fun _ i _ => L.length - (intOf i).toNat)
 case atStart => exact ⟨0, Nat.zero_le _, rfl, SL.slcNil _ _ H⟩
 case round =>
  obtain ⟨k, hk, rfl, HR⟩ := hrel
  obtain ⟨va, vc, hv, hvl, hvm, _⟩ := HR.slc
  subst hv
  have hle := readyK_le (oks gs) M L k
  by_cases hlt : k < L.length
  ·obtain ⟨b1, o1, e1, d0, d1, d2⟩ := case_at (HR.up2.read hA) k hlt
   subst e1
   have hsc := readyK_succ (oks gs) M L k hlt
   obtain ⟨c, hc⟩ : ∃ c, L[k] = c := ⟨_, rfl⟩
   rw [hc] at d0 d1 d2 hsc
   clear hc
   obtain ⟨cs, cc, cv⟩ := c
   dsimp only at d0 d1 d2
   have k1 := fun w' (f : Frm Nil wr w') => f_named (cap := cb) cc rfl (((HR.later f).up3).read hB)
   have k2 := fun w' (f : Frm Nil wr w') => ps_ready HM.out cc cs cv ((HR.later f).up1)
   obtain ⟨pv, hpv⟩ : ∃ p, adr (nm gs cc) = p := ⟨_, rfl⟩
   obtain ⟨rb, hrb⟩ : ∃ r, readyC (oks gs) M ⟨cs, cc, cv⟩ = r := ⟨_, rfl⟩
   rw [hpv] at k1 k2
   rw [hrb] at k2 hsc
   have K1 := Lib.hid k1
   have K2 := Lib.hid k2
   have HSC := Lib.hid hsc
   clear k1 k2 hpv hrb hsc
   have dl : (k : Int) < (L.length : Int) := by omega
   go_wp2_with fail
   go_region_held3 (fun w' => w'.cell? ⟨b1, o1 + k * 3, none⟩ = some (.bool cs) ∧ w'.cell? ⟨b1, o1 + k * 3 + 1, none⟩ = some (.int .i64 cc)) (first | go_keep | (go_split_ands; refine ⟨?_, ?_⟩ <;> exact Frm.out (by assumption) (by assumption) (fun h => h))) (first | (go_at_call 194; (with_reducible refine (K1.out _ (by repeat (first | with_reducible exact Frm.refl _ _ | apply Frm.drewN | apply Frm.drew | apply Frm.alloc | (refine Frm.then ?_ (by assumption))))).mono ?_); rintro e w' ⟨rfl, rfl⟩) | (go_at_call 107; (with_reducible refine (K2.out _ (by repeat (first | with_reducible exact Frm.refl _ _ | apply Frm.drewN | apply Frm.drew | apply Frm.alloc | (refine Frm.then ?_ (by assumption))))).mono ?_); rintro e w' ⟨rfl, fq⟩))
   all_goals
    cases rb with
    | false =>
     go_wp2_with fail
     go_roundw
     case rel => exact ⟨k + 1, by omega, by go_num, by rw [HSC.out]; simp only [Bool.false_eq_true, if_false, List.append_nil]; exact HR.later (by repeat (first | with_reducible exact Frm.refl _ _ | apply Frm.drewN | apply Frm.drew | apply Frm.alloc | (refine Frm.then ?_ (by assumption))))⟩
     case measure => simp [intOf]; omega
    | true =>
     have HQ := HR.later (w' := w') (by repeat (first | with_reducible exact Frm.refl _ _ | apply Frm.drewN | apply Frm.drew | apply Frm.alloc | (refine Frm.then ?_ (by assumption))))
     go_wp2_with (at_builtin; go_must (refine sl_app rfl _ _ 40 _ 8 rfl Tryz.underlying40 infoInt rfl (by decide) (.slice va _ vc) _ _ [.int .i64 k] rfl rfl (by simp) rfl rfl HQ (by omega) (by decide) ?_); intro g c w1 H1 hs1)
     go_roundw
     case rel => exact ⟨k + 1, by omega, by go_num, by rw [HSC.out]; simp only [if_true]; rw [List.length_append, ints_append]; exact H1⟩
     case measure => simp [intOf]; omega
  ·have hkn : k = L.length := by omega
   rw [hkn] at HR
   rw [hkn]
   clear hkn hle hvl
   go_wp2_with fail
   go_ret
   exact ⟨_, rfl, HR⟩
end
end Go.Proofs.YtchkaaeoffmjnaaGreatDoor
namespace Go.Proofs.YtchkaaeoffmjnaaGreatDoor
set_option linter.unusedVariables false
set_option linter.unusedSimpArgs false
open Go.RowKit
def AllInv (n : Nat) (M : List PipeM) : Prop := ∀ x ∈ M, Inv9 n x
theorem AllInv.more {n k : Nat} {M : List PipeM} (h : AllInv n M) (hk : n ≤ k) : AllInv k M := fun x hx => (h x hx).more hk
theorem AllInv.set {n : Nat} {M : List PipeM} (h : AllInv n M) {y : PipeM} (hy : Inv9 n y) (i : Nat) : AllInv n (M.set i y) := fun x hx => (List.mem_or_eq_of_mem_set hx).elim (h x) (fun e => by rw [e]; exact hy)
theorem AllInv.get {n : Nat} {M : List PipeM} (h : AllInv n M) {i : Nat} (hi : i < M.length) : Inv9 n (M.getD i (emptyM 0)) := by
 rw [List.getD_eq_getElem?_getD, List.getElem?_eq_getElem hi]
 exact h _ (List.getElem_mem hi)
def tryF (ok : List Bool) (M : List PipeM) (c : CaseM) : (GotM × Int) × List PipeM :=
 match posF ok c.chan with
 | none => ((gzero, 0), M)
 | some i => if c.send then ((sendF (M.getD i (emptyM 0)) c.value).1, M.set i (sendF (M.getD i (emptyM 0)) c.value).2) else (((recvF (M.getD i (emptyM 0))).1, 0), M.set i (recvF (M.getD i (emptyM 0))).2)
theorem tryF_len (ok : List Bool) (M : List PipeM) (c : CaseM) : (tryF ok M c).2.length = M.length := by
 unfold tryF
 split
 ·rfl
 ·split <;> simp
theorem pos_lt {ok : List Bool} {c : Int} {i : Nat} (h : posF ok c = some i) : i < ok.length := by
 unfold posF at h
 split at h
 ·injection h with h
  omega
 ·cases h
theorem AllInv.try {n : Nat} {M : List PipeM} {ok : List Bool} (h : AllInv n M) (hM : M.length = ok.length) (c : CaseM) : AllInv (n + 1) (tryF ok M c).2 := by
 unfold tryF
 split
 ·exact h.more (by omega)
 ·rename_i i hi
  have hi' := pos_lt hi
  split
  ·exact (h.more (Nat.le_succ n)).set ((h.get (by omega)).send _) i
  ·exact (h.more (Nat.le_succ n)).set ((h.get (by omega)).recv) i
/-- Park, case by case: how many were put, and the pipes. -/
def parkK (ok : List Bool) (g : Int) (L : List CaseM) (M : List PipeM) : Nat → Int × List PipeM
 | 0 => (0, M)
 | k + 1 =>
  match posF ok (L.getD k ⟨false, 0, 0⟩).chan with
  | none => parkK ok g L M k
  | some i =>
   let r := waitF ((parkK ok g L M k).2.getD i (emptyM 0)) (L.getD k ⟨false, 0, 0⟩).send ⟨g, k, (L.getD k ⟨false, 0, 0⟩).value⟩
   ((parkK ok g L M k).1 + (if r.1 = 0 then 1 else 0), (parkK ok g L M k).2.set i r.2)
theorem parkK_len (ok : List Bool) (g : Int) (L : List CaseM) (M : List PipeM) (k : Nat) : (parkK ok g L M k).2.length = M.length := by
 induction k with
 | zero => rfl
 | succ k ih =>
  unfold parkK
  split
  ·exact ih
  ·simp [ih]
theorem AllInv.park {n : Nat} {M : List PipeM} {ok : List Bool} (h : AllInv n M) (hM : M.length = ok.length) (g : Int) (L : List CaseM) (k : Nat) : AllInv n (parkK ok g L M k).2 := by
 induction k with
 | zero => exact h
 | succ k ih =>
  unfold parkK
  split
  ·exact ih
  ·rename_i i hi
   have hi' := pos_lt hi
   have hl := parkK_len ok g L M k
   exact ih.set ((ih.get (by omega)).wait _ _) i
theorem parkK_bd (ok : List Bool) (g : Int) (L : List CaseM) (M : List PipeM) (k : Nat) : 0 ≤ (parkK ok g L M k).1 ∧ (parkK ok g L M k).1 ≤ k := by
 induction k with
 | zero => exact ⟨Int.le_refl _, Int.le_refl _⟩
 | succ k ih =>
  unfold parkK
  split
  ·omega
  ·dsimp only
   split <;> omega
def parkF (ok : List Bool) (g : Int) (L : List CaseM) (M : List PipeM) : (Int × Int) × List PipeM :=
 if g < 0 ∨ 4 < L.length then ((0, 1), M)
 else if 0 < (readyL ok M L).length then ((0, 7), M)
 else (((parkK ok g L M L.length).1, 0), (parkK ok g L M L.length).2)
theorem parkF_len (ok : List Bool) (g : Int) (L : List CaseM) (M : List PipeM) : (parkF ok g L M).2.length = M.length := by
 unfold parkF
 split
 ·rfl
 ·split
  ·rfl
  ·exact parkK_len ok g L M L.length
theorem AllInv.parkF {n : Nat} {M : List PipeM} {ok : List Bool} (h : AllInv n M) (hM : M.length = ok.length) (g : Int) (L : List CaseM) : AllInv n (parkF ok g L M).2 := by
 unfold Go.Proofs.YtchkaaeoffmjnaaGreatDoor.parkF
 split
 ·exact h
 ·split
  ·exact h
  ·exact h.park hM g L _
/-- Leave, pipe by pipe. -/
def dropN (x : PipeM) (g : Int) : Int := ((x.senders.length : Int) - (without g x.senders).length) + ((x.receivers.length : Int) - (without g x.receivers).length)
def leaveM (g : Int) (M : List PipeM) (k : Nat) : List PipeM := (M.take k).map (fun x => dropM x g) ++ M.drop k
def leaveN (ok : List Bool) (g : Int) (M : List PipeM) : Nat → Int
 | 0 => 0
 | k + 1 => leaveN ok g M k + (if ok.getD k false then dropN (M.getD k (emptyM 0)) g else 0)
def leaveF (ok : List Bool) (g : Int) (M : List PipeM) : Int × List PipeM := (leaveN ok g M M.length, M.map (fun x => dropM x g))
theorem leaveM_at (g : Int) (M : List PipeM) (k : Nat) (hk : k < M.length) : (leaveM g M k)[k]? = some M[k] := by
 unfold leaveM
 rw [List.getElem?_append_right (by simp; omega)]
 simp
 rw [show k - min k M.length = 0 by omega, Nat.add_zero, List.getElem?_eq_getElem hk]
theorem leaveM_succ (g : Int) (M : List PipeM) (k : Nat) (hk : k < M.length) : (leaveM g M k).set k (dropM M[k] g) = leaveM g M (k + 1) := by
 unfold leaveM
 rw [List.set_append_right _ _ (by simp; omega), List.length_map, List.length_take, Nat.min_eq_left (Nat.le_of_lt hk), Nat.sub_self, List.drop_eq_getElem_cons hk, List.set_cons_zero, List.take_succ_eq_append_getElem hk, List.map_append]
 simp
theorem leaveM_all (g : Int) (M : List PipeM) : leaveM g M M.length = M.map (fun x => dropM x g) := by
 unfold leaveM
 simp
theorem AllInv.leave {n : Nat} {M : List PipeM} (h : AllInv n M) (g : Int) : AllInv n (M.map (fun x => dropM x g)) := fun x hx => by
 obtain ⟨y, hy, rfl⟩ := List.mem_map.1 hx
 exact (h y hy).drop g
theorem dropN_bd {n : Nat} (x : PipeM) (g : Int) (h : Inv9 n x) : 0 ≤ dropN x g ∧ dropN x g ≤ 2048 := by
 have := without_le g x.senders
 have := without_le g x.receivers
 have := h.snd.1
 have := h.rcv.1
 unfold dropN
 omega
theorem leaveN_bd {n : Nat} (ok : List Bool) (g : Int) {M : List PipeM} (h : AllInv n M) (k : Nat) (hk : k ≤ M.length) : 0 ≤ leaveN ok g M k ∧ leaveN ok g M k ≤ 2048 * k := by
 induction k with
 | zero => exact ⟨Int.le_refl _, Int.le_refl _⟩
 | succ k ih =>
  have ih := ih (by omega)
  have hb := dropN_bd (M.getD k (emptyM 0)) g (h.get (show k < M.length by omega))
  unfold leaveN
  split <;> omega
theorem zip_none {P : Nat → PipeM → Piece} {gs : List (Option Nat)} {M : List PipeM} {i : Nat} (hg : gs[i]? = some none) (y : PipeM) : List.zipWith (pieceO P) gs (M.set i y) = List.zipWith (pieceO P) gs M := by
 apply List.ext_getElem?
 intro j
 rw [List.getElem?_zipWith, List.getElem?_zipWith]
 by_cases hj : i = j
 ·subst hj
  rw [hg, List.getElem?_set_self']
  cases M[i]? <;> rfl
 ·rw [List.getElem?_set_ne hj]
end Go.Proofs.YtchkaaeoffmjnaaGreatDoor
namespace Go.Proofs.YtchkaaeoffmjnaaGreatDoor
set_option linter.unusedVariables false
set_option linter.unusedSimpArgs false
open Go.RowKit
end Go.Proofs.YtchkaaeoffmjnaaGreatDoor
namespace Go.Proofs.YtchkaaeoffmjnaaGreatDoor
set_option linter.unusedVariables false
set_option linter.unusedSimpArgs false
structure Ev where
 kind : Int
 g : Int
 chan : Int
 case_ : Int
 value : Int
 mate : Int
 send : Bool
 ok : Bool
 deriving DecidableEq
def Ev.cells (e : Ev) : List Value := [.int .i64 e.kind, .int .i64 e.g, .int .i64 e.chan, .int .i64 e.case_, .int .i64 e.value, .int .i64 e.mate, .bool e.send, .bool e.ok]
def Ev.agg (e : Ev) : Value := .agg #[.int .i64 e.kind, .int .i64 e.g, .int .i64 e.chan, .int .i64 e.case_, .int .i64 e.value, .int .i64 e.mate, .bool e.send, .bool e.ok]
def inn (a b n : Int) : Bool := decide (a ≤ n) && decide (n ≤ b)
structure Shp where
 c0 : Int
 c1 : Int
 k0 : Int
 k1 : Int
 v0 : Int
 v1 : Int
 m0 : Int
 m1 : Int
 send : Bool
 ok : Bool
def shapeF (k : Int) : Shp :=
 if k = 1 then ⟨-1, -1, -1, -1, 0, 7, 0, 511, false, false⟩
 else if k = 2 then ⟨0, 511, -1, -1, 0, 4, -1, -1, false, false⟩
 else if k = 3 then ⟨0, 511, -1, 3, 0, 99, -1, 511, true, false⟩
 else if k = 4 then ⟨0, 511, -1, 3, 0, 99, -1, 511, false, true⟩
 else if k = 5 then ⟨0, 511, -1, -1, -1, -1, -1, -1, false, false⟩
 else if k = 6 then ⟨-1, 511, -1, 4, 0, 99, -1, -1, true, false⟩
 else if k = 7 then ⟨0, 511, -1, 3, 0, 99, 0, 511, true, true⟩
 else if k = 9 ∨ k = 10 then ⟨-1, -1, -1, -1, 0, 7, -1, -1, false, false⟩
 else ⟨-1, -1, -1, -1, -1, -1, -1, -1, false, false⟩
def oddF (e : Ev) : Bool :=
 if e.kind = 3 then !e.send
 else if e.kind = 4 then !e.ok && (e.value != 0 || e.mate != -1)
 else if e.kind = 6 then (!e.send && e.value != 0) || (decide (0 ≤ e.case_) && (decide (0 ≤ e.chan) || e.send))
 else if e.kind = 7 then (e.send && !e.ok) || (!e.ok && e.value != 0)
 else false
def entF (e : Ev) : Int :=
 if e.kind < 1 ∨ 13 < e.kind then 1
 else if (((((((((if e.kind = 13 then inn (-1) (-1) e.g else inn 0 511 e.g) && ((shapeF e.kind).send || !e.send)) && ((shapeF e.kind).ok || !e.ok)) && !oddF e) && inn (shapeF e.kind).c0 (shapeF e.kind).c1 e.chan) && inn (shapeF e.kind).k0 (shapeF e.kind).k1 e.case_) && inn (shapeF e.kind).v0 (shapeF e.kind).v1 e.value) && inn (shapeF e.kind).m0 (shapeF e.kind).m1 e.mate)) = true then 0 else 4
def okF (e : Ev) : Bool :=
 if e.kind = 1 then e.chan == -1 && e.case_ == -1 && inn 0 7 e.value && inn 0 511 e.mate && (!e.send && !e.ok)
 else if e.kind = 2 then inn 0 511 e.chan && e.case_ == -1 && inn 0 4 e.value && e.mate == -1 && (!e.send && !e.ok)
 else if e.kind = 3 then inn 0 511 e.chan && inn (-1) 3 e.case_ && inn 0 99 e.value && (e.mate == -1 || inn 0 511 e.mate) && e.send && !e.ok
 else if e.kind = 4 then inn 0 511 e.chan && inn (-1) 3 e.case_ && inn 0 99 e.value && (e.mate == -1 || inn 0 511 e.mate) && !e.send && (e.ok || (e.value == 0 && e.mate == -1))
 else if e.kind = 5 then inn 0 511 e.chan && e.case_ == -1 && e.value == -1 && e.mate == -1 && (!e.send && !e.ok)
 else if e.kind = 6 then ((e.case_ == -1 && (e.chan == -1 || inn 0 511 e.chan) && ((e.send && inn 0 99 e.value) || (!e.send && e.value == 0))) || (inn 0 4 e.case_ && e.chan == -1 && !e.send && e.value == 0)) && e.mate == -1 && !e.ok
 else if e.kind = 7 then inn 0 511 e.chan && inn (-1) 3 e.case_ && inn 0 99 e.value && inn 0 511 e.mate && (e.ok || (!e.send && e.value == 0))
 else if e.kind = 9 ∨ e.kind = 10 then e.chan == -1 && e.case_ == -1 && inn 0 7 e.value && e.mate == -1 && (!e.send && !e.ok)
 else e.chan == -1 && e.case_ == -1 && e.value == -1 && e.mate == -1 && (!e.send && !e.ok)
def ref12 (e : Ev) : Int :=
 if e.kind < 1 ∨ 13 < e.kind then 1
 else if (okF e && (if e.kind = 13 then e.g == -1 else inn 0 511 e.g)) = true then 0 else 4
set_option maxHeartbeats 4000000 in
theorem ent_ref (e : Ev) : entF e = ref12 e := by
 obtain ⟨kind, g, chan, case_, value, mate, send, ok⟩ := e
 unfold entF ref12
 by_cases h : kind < 1 ∨ 13 < kind
 ·rw [if_pos h, if_pos h]
 ·rw [if_neg h, if_neg h]
  congr 1
  have hk : kind = 1 ∨ kind = 2 ∨ kind = 3 ∨ kind = 4 ∨ kind = 5 ∨ kind = 6 ∨ kind = 7 ∨ kind = 8 ∨ kind = 9 ∨ kind = 10 ∨ kind = 11 ∨ kind = 12 ∨ kind = 13 := by omega
  clear h
  rcases hk with rfl | rfl | rfl | rfl | rfl | rfl | rfl | rfl | rfl | rfl | rfl | rfl | rfl <;> cases send <;> cases ok <;> simp [okF, shapeF, oddF, inn] <;> omega
end Go.Proofs.YtchkaaeoffmjnaaGreatDoor
namespace Go.Proofs.YtchkaaeoffmjnaaGreatDoor
set_option linter.unusedVariables false
set_option linter.unusedSimpArgs false
open Go.RowKit
structure One where
 program : Int
 place : Int
 state : Int
 deriving DecidableEq
def One.cells (x : One) : List Value := [.int .i64 x.program, .int .i64 x.place, .int .i64 x.state]
theorem One.cells_length (x : One) : x.cells.length = 3 := rfl
theorem ones_set : ∀ (L : List One) (g : Nat) (x : One), g < L.length →
  (L.set g x).flatMap One.cells = ((((L.flatMap One.cells).set (g * 3) (.int .i64 x.program)).set (g * 3 + 1) (.int .i64 x.place))).set (g * 3 + 2) (.int .i64 x.state)
 | [], _, _, h => absurd h (Nat.not_lt_zero _)
 | y :: l, 0, x, _ => by simp [One.cells]
 | y :: l, g + 1, x, h => by
  rw [List.set_cons_succ, List.flatMap_cons, List.flatMap_cons, ones_set l g x (by simpa using h)]
  rw [show (g + 1) * 3 = y.cells.length + g * 3 from by rw [One.cells_length]; omega]
  simp only [Nat.add_assoc]
  simp [List.set_append_right]
/-- Block c (of type tc) is a struct with a slice of goroutines L (of type te), all whose blocks are of S. -/
def OnesAt (tc te : Nat) (w : World) (S : Nat → Prop) (c : Nat) (L : List One) : Prop :=
 ∃ v, w.heap[c]? = some (.cells #[v] tc (0, 0)) ∧ w.ownsRow 0 te 3 v L.length (L.flatMap One.cells) ∧ S c ∧ ∀ k, v.ownBlock = some k → S k ∧ k ≠ c
/-- A crew. -/
abbrev CrewAt := OnesAt 168 170
theorem OnesAt.move {tc te : Nat} {w w' : World} {S : Nat → Prop} {c : Nat} {L : List One} (h : OnesAt tc te w S c L) (hm : ∀ k, S k → w'.heap[k]? = w.heap[k]?) : OnesAt tc te w' S c L := by
 obtain ⟨v, h1, h2, h3, h4⟩ := h
 exact ⟨v, (hm c h3).trans h1, own_move h2 (fun k hk => hm k (h4 k hk).1), h3, h4⟩
theorem OnesAt.mono {tc te : Nat} {w : World} {S T : Nat → Prop} {c : Nat} {L : List One} (h : OnesAt tc te w S c L) (hm : ∀ k, S k → T k) : OnesAt tc te w T c L := by
 obtain ⟨v, h1, h2, h3, h4⟩ := h
 exact ⟨v, h1, h2, hm c h3, fun k hk => ⟨hm k (h4 k hk).1, (h4 k hk).2⟩⟩
theorem OnesAt.bound {tc te : Nat} {w : World} {S : Nat → Prop} {c : Nat} {L : List One} (h : OnesAt tc te w S c L) : OnesAt tc te w (fun k => S k ∧ k < w.heap.size) c L := by
 obtain ⟨v, h1, h2, h3, h4⟩ := h
 exact ⟨v, h1, h2, ⟨h3, lt_of_block h1⟩, fun k hk => ⟨⟨(h4 k hk).1, own_lt h2 hk⟩, (h4 k hk).2⟩⟩
theorem OnesAt.move' {tc te : Nat} {w w' : World} {S : Nat → Prop} {c : Nat} {L : List One} (h : OnesAt tc te w (fun k => S k ∧ k < w.heap.size) c L) (hf : Frm Nil w w') : OnesAt tc te w' S c L :=
 (h.move (fun k hk => hf.block k hk.2 id)).mono (fun _ hk => hk.1)
theorem OnesAt.alloc {tc te : Nat} {w : World} {S : Nat → Prop} {c : Nat} {L : List One} (h : OnesAt tc te w S c L) (o : Obj) : OnesAt tc te (w.alloc o) S c L := h.bound.move' ((Frm.refl Nil w).alloc o)
/-- What it gives to a walk. -/
theorem OnesAt.cells {tc te : Nat} {w : World} {S : Nat → Prop} {c : Nat} {L : List One} (h : OnesAt tc te w S c L) :
  ∃ a cap, w.cell? ⟨c, 0, none⟩ = some (.slice a L.length cap) ∧ w.frozen? ⟨c, 0, none⟩ = false ∧ L.length ≤ maxLen ∧
   (0 < L.length → ∃ b, a = some ⟨b, 0, none⟩ ∧ S b ∧ b ≠ c ∧ (∀ j, w.frozen? ⟨b, j, none⟩ = false) ∧
    ∀ g (hg : g < L.length), w.cell? ⟨b, g * 3, none⟩ = some (.int .i64 L[g].program) ∧ w.cell? ⟨b, g * 3 + 1, none⟩ = some (.int .i64 L[g].place) ∧ w.cell? ⟨b, g * 3 + 2, none⟩ = some (.int .i64 L[g].state)) := by
 obtain ⟨v, h1, h2, h3, h4⟩ := h
 obtain ⟨a, cap, rfl⟩ := own_form h2
 refine ⟨a, cap, cell_of_one h1, free_of_one h1, own_max h2, fun hn => ?_⟩
 obtain ⟨b, rfl⟩ := own_some h2 hn
 refine ⟨b, rfl, (h4 b rfl).1, (h4 b rfl).2, fun j => h2.frozenAt j, fun g hg => ?_⟩
 have key : ∀ j, j < 3 → w.cell? ⟨b, g * 3 + j, none⟩ = (L[g].cells)[j]? := fun j hj => by
  rw [h2.cellAt (g * 3 + j) (by omega), flat_get One.cells 3 One.cells_length L g j hj hg]
 exact ⟨key 0 (by omega), key 1 (by omega), key 2 (by omega)⟩
theorem OnesAt.stored {tc te : Nat} {w : World} {S : Nat → Prop} {c b : Nat} {cap : Nat} {L : List One} (h : OnesAt tc te w S c L) (hc : w.cell? ⟨c, 0, none⟩ = some (.slice (some ⟨b, 0, none⟩) L.length cap)) (g : Nat) (hg : g < L.length) (pl st : Int) :
  OnesAt tc te ((w.setCell ⟨b, g * 3 + 2, none⟩ (.int .i64 st)).setCell ⟨b, g * 3 + 1, none⟩ (.int .i64 pl)) S c (L.set g ⟨L[g].program, pl, st⟩) := by
 obtain ⟨v, h1, h2, h3, h4⟩ := h
 rw [cell_of_one h1] at hc
 injection hc with hc
 subst hc
 have hne : c ≠ b := (h4 b rfl).2.symm
 refine ⟨_, ?_, ?_, h3, h4⟩
 ·rw [Below.heap_setCell _ _ _ _ hne, Below.heap_setCell _ _ _ _ hne]
  exact h1
 ·have h5 := ((h2.stored (g * 3 + 2) (.int .i64 st)).1.stored (g * 3 + 1) (.int .i64 pl)).1
  rw [List.length_set]
  have e : (L.set g ⟨L[g].program, pl, st⟩).flatMap One.cells = ((L.flatMap One.cells).set (g * 3 + 2) (.int .i64 st)).set (g * 3 + 1) (.int .i64 pl) := by
   rw [ones_set L g _ hg, List.set_comm _ _ (by omega)]
   congr 2
   have h0 := flat_get One.cells 3 One.cells_length L g 0 (by omega) hg
   rw [Nat.add_zero] at h0
   apply List.ext_getElem?
   intro i
   rw [List.getElem?_set]
   split
   ·rename_i hi
    subst hi
    rw [h0]
    split
    ·rfl
    ·rename_i hlt
     rw [List.getElem?_eq_none (by omega)] at h0
     simp [One.cells] at h0
   ·rfl
  rw [e]
  exact h5
def spawnF (L : List One) (p : Int) : (Int × Int) × List One :=
 if p < 0 then ((0, 1), L) else if L.length = 512 then ((0, 5), L) else ((L.length, 0), L ++ [⟨p, 0, 0⟩])
def turnF (L : List One) (g fr to by_ : Int) : Int × List One :=
 if 0 ≤ g then
  match L[g.toNat]? with
  | none => (6, L)
  | some x => if x.state = fr then (0, L.set g.toNat ⟨x.program, x.place + by_, to⟩) else (7, L)
 else (6, L)
def stateF (L : List One) (g : Int) : Int × Bool := if 0 ≤ g then (match L[g.toNat]? with | none => (0, false) | some x => (x.state, true)) else (0, false)
def atF (L : List One) (g : Int) : Int × Int × Bool := if 0 ≤ g then (match L[g.toNat]? with | none => (0, 0, false) | some x => (x.program, x.place, true)) else (0, 0, false)
def inF (L : List One) (s : Int) : Nat → List Int
 | 0 => []
 | k + 1 => inF L s k ++ (match L[k]? with | none => [] | some x => if x.state = s then [(k : Int)] else [])
def ableF (L : List One) : List Int := inF L 0 L.length
def overF (L : List One) : Int := if 0 < (ableF L).length then 0 else if 0 < (inF L 1 L.length).length then 2 else 1
theorem inF_length (L : List One) (s : Int) : ∀ k, (inF L s k).length ≤ k
 | 0 => Nat.le_refl _
 | k + 1 => by
  have := inF_length L s k
  rw [inF, List.length_append]
  split
  ·simp; omega
  ·split <;> simp <;> omega
theorem infoOne : (Tryz.prog.info? 170).map (fun i => (i.zero, i.size, i.bytes)) = some (some (.agg #[.int .i64 0, .int .i64 0, .int .i64 0]), 3, 24) := by kernel_rfl
set_option maxHeartbeats 400000 in
theorem crew_new (w : World) : Calls Tryz.prog 48 #[] w fun e w' => ∃ c, e = .returned (.pointer (some ⟨c, 0, none⟩)) ∧ CrewAt w' (New Nil w w') c [] ∧ Frm Nil w w' := by
 go_enter Tryz.func48, Tryz.ntmps48
 go_wp2
 go_ret
 exact ⟨w.heap.size, rfl, ⟨.slice none 0 0, heap_alloc_new w _, World.ownsRow_nil _ _ _ _, .inr ⟨Nat.le_refl _, by simp⟩, fun k hk => by cases hk⟩, (Frm.refl _ _).alloc _⟩
section
variable {w : World} {S : Nat → Prop} {c : Nat} {L : List One}
set_option maxHeartbeats 400000 in
theorem crew_len (h : CrewAt w S c L) : Calls Tryz.prog 65 #[.pointer (some ⟨c, 0, none⟩)] w fun e w' => e = .returned (.int .i64 L.length) ∧ w = w' := by
 obtain ⟨a, cap, hc, hf, hm, _⟩ := h.cells
 unfold maxLen at hm
 go_enter Tryz.func65, Tryz.ntmps65
 go_wp2
 go_ret
 exact ⟨rfl, rfl⟩
set_option maxHeartbeats 400000 in
theorem crew_of (h : CrewAt w S c L) {b cap : Nat} (hc : w.cell? ⟨c, 0, none⟩ = some (.slice (some ⟨b, 0, none⟩) L.length cap)) (g : Nat) (hg : g < L.length) :
  Calls Tryz.prog 191 #[.pointer (some ⟨c, 0, none⟩), .int .i64 g] w fun e w' => e = .returned (.pointer (some ⟨b, g * 3, none⟩)) ∧ w = w' := by
 obtain ⟨_, _, _, hf, hm, _⟩ := h.cells
 unfold maxLen at hm
 go_enter Tryz.func191, Tryz.ntmps191
 go_wp2_with (go_at_call 65; refine (crew_len h).mono ?_; rintro e w' ⟨rfl, rfl⟩)
 go_ret
 exact ⟨rfl, rfl⟩
set_option maxHeartbeats 400000 in
theorem crew_of_none (h : CrewAt w S c L) (g : Int) (hg : ¬ (0 ≤ g ∧ g < L.length)) :
  Calls Tryz.prog 191 #[.pointer (some ⟨c, 0, none⟩), .int .i64 g] w fun e w' => e = .returned (.pointer none) ∧ w = w' := by
 obtain ⟨a, cap, hc, hf, hm, _⟩ := h.cells
 unfold maxLen at hm
 go_enter Tryz.func191, Tryz.ntmps191
 go_wp2_with (go_at_call 65; refine (crew_len h).mono ?_; rintro e w' ⟨rfl, rfl⟩)
 all_goals (go_ret; exact ⟨rfl, rfl⟩)
/-- What 'of' answers, in one word for those that call it. -/
def OfIs (w : World) (p : Option Addr) (g : Int) (q : Option Addr) : Prop :=
 Calls Tryz.prog 191 #[.pointer p, .int .i64 g] w fun e w' => e = .returned (.pointer q) ∧ w = w'
set_option maxHeartbeats 400000 in
theorem turn_none {p : Option Addr} {g : Int} (hof : OfIs w p g none) (fr to by_ : Int) :
  Calls Tryz.prog 169 #[.pointer p, .int .i64 g, .int .i64 fr, .int .i64 to, .int .i64 by_] w fun e w' => e = .returned (.int .i64 6) ∧ w = w' := by
 go_enter Tryz.func169, Tryz.ntmps169
 go_wp2_with (go_at_call 191; refine Calls.mono hof ?_; rintro e w' ⟨rfl, rfl⟩)
 go_ret
 exact ⟨rfl, rfl⟩
set_option maxHeartbeats 400000 in
theorem turn_state {p : Option Addr} {g : Int} {b j : Nat} (hof : OfIs w p g (some ⟨b, j, none⟩)) (fr to by_ st : Int) (hs : w.cell? ⟨b, j + 2, none⟩ = some (.int .i64 st)) (hne : (st != fr) = true) :
  Calls Tryz.prog 169 #[.pointer p, .int .i64 g, .int .i64 fr, .int .i64 to, .int .i64 by_] w fun e w' => e = .returned (.int .i64 7) ∧ w = w' := by
 go_enter Tryz.func169, Tryz.ntmps169
 go_wp2_with (go_at_call 191; refine Calls.mono hof ?_; rintro e w' ⟨rfl, rfl⟩)
 go_ret
 exact ⟨rfl, rfl⟩
set_option maxHeartbeats 400000 in
theorem turn_ok {p : Option Addr} {g : Int} {b j : Nat} (hof : OfIs w p g (some ⟨b, j, none⟩)) (fr to by_ pl : Int) (hs : w.cell? ⟨b, j + 2, none⟩ = some (.int .i64 fr)) (hp : w.cell? ⟨b, j + 1, none⟩ = some (.int .i64 pl))
  (hf : ∀ i, w.frozen? ⟨b, i, none⟩ = false) (h2 : -1000000000 ≤ pl + by_) (h3 : pl + by_ ≤ 1000000000) :
  Calls Tryz.prog 169 #[.pointer p, .int .i64 g, .int .i64 fr, .int .i64 to, .int .i64 by_] w fun e w' => e = .returned (.int .i64 0) ∧
   w' = (w.setCell ⟨b, j + 2, none⟩ (.int .i64 to)).setCell ⟨b, j + 1, none⟩ (.int .i64 (pl + by_)) := by
 go_enter Tryz.func169, Tryz.ntmps169
 go_wp2_with (go_at_call 191; refine Calls.mono hof ?_; rintro e w' ⟨rfl, rfl⟩)
 go_ret
 exact ⟨rfl, rfl⟩
/-- A method that changes a crew answers r, and it is L' then. -/
def CrewPost (S : Nat → Prop) (c : Nat) (w : World) (r : Value) (L' : List One) : Ending → World → Prop :=
 fun e w' => e = .returned r ∧ CrewAt w' (New S w w') c L' ∧ Frm S w w'
def Small (L : List One) (N : Int) : Prop := ∀ x ∈ L, 0 ≤ x.place ∧ x.place ≤ N
theorem crew_turn (h : CrewAt w S c L) (hp : Small L 100000000) (g fr to by_ : Int) (hb0 : 0 ≤ by_) (hb1 : by_ ≤ 1) :
  Calls Tryz.prog 169 #[.pointer (some ⟨c, 0, none⟩), .int .i64 g, .int .i64 fr, .int .i64 to, .int .i64 by_] w
   (CrewPost S c w (.int .i64 (turnF L g fr to by_).1) (turnF L g fr to by_).2) := by
 have stay : ∀ r, Ending.returned r = Ending.returned r ∧ CrewAt w (New S w w) c L ∧ Frm S w w := fun r => ⟨rfl, h.mono (fun k hk => .inl hk), Frm.refl _ _⟩
 by_cases hg : 0 ≤ g ∧ g < L.length
 ·obtain ⟨k, rfl⟩ := Int.eq_ofNat_of_zero_le hg.1
  have hk : k < L.length := by omega
  obtain ⟨a, cap, hc, _, _, hx⟩ := h.cells
  obtain ⟨b, rfl, hSb, hbc, hfz, hcells⟩ := hx (by omega)
  obtain ⟨_, h1, h2⟩ := hcells k hk
  have hof : OfIs w (some ⟨c, 0, none⟩) (k : Int) (some ⟨b, k * 3, none⟩) := crew_of h hc k hk
  have hget : L[((k : Nat) : Int).toNat]? = some L[k] := by rw [Int.toNat_natCast]; exact List.getElem?_eq_getElem hk
  have hpl := hp L[k] (List.getElem_mem hk)
  by_cases hst : L[k].state = fr
  ·have e : turnF L k fr to by_ = (0, L.set k ⟨L[k].program, L[k].place + by_, to⟩) := by
    unfold turnF
    rw [if_pos (by omega), hget]
    simp only [hst, if_true, Int.toNat_natCast]
   rw [e]
   refine (turn_ok hof fr to by_ L[k].place (by rw [← hst]; exact h2) h1 hfz (by omega) (by omega)).mono ?_
   rintro e w' ⟨rfl, rfl⟩
   have hst2 := OnesAt.stored h hc k hk (L[k].place + by_) to
   exact ⟨rfl, hst2.mono (fun k hk => .inl hk), ((Frm.refl _ _).setCell (fun _ => hSb) _).setCell (fun _ => hSb) _⟩
  ·have e : turnF L k fr to by_ = (7, L) := by
    unfold turnF
    rw [if_pos (by omega), hget]
    simp only [hst, if_false]
   rw [e]
   refine (turn_state hof fr to by_ _ h2 (by simpa using hst)).mono ?_
   rintro e w' ⟨rfl, rfl⟩
   exact stay _
 ·have e : turnF L g fr to by_ = (6, L) := by
   unfold turnF
   split
   ·rw [List.getElem?_eq_none (by omega)]
   ·rfl
  rw [e]
  refine (turn_none (crew_of_none h g hg) fr to by_).mono ?_
  rintro e w' ⟨rfl, rfl⟩
  exact stay _
set_option maxHeartbeats 400000 in
theorem crew_go (h : CrewAt w S c L) (hp : Small L 100000000) (g : Int) : Calls Tryz.prog 114 #[.pointer (some ⟨c, 0, none⟩), .int .i64 g] w (CrewPost S c w (.int .i64 (turnF L g 0 0 1).1) (turnF L g 0 0 1).2) := by
 go_enter Tryz.func114, Tryz.ntmps114
 go_wp2_with (go_at_call 169; refine (crew_turn h hp g 0 0 1 (by omega) (by omega)).mono ?_; rintro e w' ⟨rfl, h1, h2⟩)
 go_ret
 exact ⟨rfl, h1, h2⟩
set_option maxHeartbeats 400000 in
theorem crew_park (h : CrewAt w S c L) (hp : Small L 100000000) (g : Int) : Calls Tryz.prog 161 #[.pointer (some ⟨c, 0, none⟩), .int .i64 g] w (CrewPost S c w (.int .i64 (turnF L g 0 1 0).1) (turnF L g 0 1 0).2) := by
 go_enter Tryz.func161, Tryz.ntmps161
 go_wp2_with (go_at_call 169; refine (crew_turn h hp g 0 1 0 (by omega) (by omega)).mono ?_; rintro e w' ⟨rfl, h1, h2⟩)
 go_ret
 exact ⟨rfl, h1, h2⟩
set_option maxHeartbeats 400000 in
theorem crew_wake (h : CrewAt w S c L) (hp : Small L 100000000) (g : Int) : Calls Tryz.prog 198 #[.pointer (some ⟨c, 0, none⟩), .int .i64 g] w (CrewPost S c w (.int .i64 (turnF L g 1 0 1).1) (turnF L g 1 0 1).2) := by
 go_enter Tryz.func198, Tryz.ntmps198
 go_wp2_with (go_at_call 169; refine (crew_turn h hp g 1 0 1 (by omega) (by omega)).mono ?_; rintro e w' ⟨rfl, h1, h2⟩)
 go_ret
 exact ⟨rfl, h1, h2⟩
set_option maxHeartbeats 400000 in
theorem crew_exit (h : CrewAt w S c L) (hp : Small L 100000000) (g : Int) : Calls Tryz.prog 113 #[.pointer (some ⟨c, 0, none⟩), .int .i64 g] w (CrewPost S c w (.int .i64 (turnF L g 0 2 0).1) (turnF L g 0 2 0).2) := by
 go_enter Tryz.func113, Tryz.ntmps113
 go_wp2_with (go_at_call 169; refine (crew_turn h hp g 0 2 0 (by omega) (by omega)).mono ?_; rintro e w' ⟨rfl, h1, h2⟩)
 go_ret
 exact ⟨rfl, h1, h2⟩
end
end Go.Proofs.YtchkaaeoffmjnaaGreatDoor
namespace Go.Proofs.YtchkaaeoffmjnaaGreatDoor
set_option linter.unusedVariables false
set_option linter.unusedSimpArgs false
open Go.RowKit
section
variable {w : World} {S : Nat → Prop} {c : Nat} {L : List One}
set_option maxHeartbeats 400000 in
theorem state_none {p : Option Addr} {g : Int} (hof : OfIs w p g none) :
  Calls Tryz.prog 163 #[.pointer p, .int .i64 g] w fun e w' => e = .returned (.tuple #[.int .i64 0, .bool false]) ∧ w = w' := by
 go_enter Tryz.func163, Tryz.ntmps163
 go_wp2_with (go_at_call 191; refine Calls.mono hof ?_; rintro e w' ⟨rfl, rfl⟩)
 go_ret2
 exact ⟨rfl, rfl⟩
set_option maxHeartbeats 400000 in
theorem state_some {p : Option Addr} {g : Int} {b j : Nat} (hof : OfIs w p g (some ⟨b, j, none⟩)) (st : Int) (hs : w.cell? ⟨b, j + 2, none⟩ = some (.int .i64 st)) :
  Calls Tryz.prog 163 #[.pointer p, .int .i64 g] w fun e w' => e = .returned (.tuple #[.int .i64 st, .bool true]) ∧ w = w' := by
 go_enter Tryz.func163, Tryz.ntmps163
 go_wp2_with (go_at_call 191; refine Calls.mono hof ?_; rintro e w' ⟨rfl, rfl⟩)
 go_ret2
 exact ⟨rfl, rfl⟩
set_option maxHeartbeats 400000 in
theorem at_none {p : Option Addr} {g : Int} (hof : OfIs w p g none) :
  Calls Tryz.prog 153 #[.pointer p, .int .i64 g] w fun e w' => e = .returned (.tuple #[.int .i64 0, .int .i64 0, .bool false]) ∧ w = w' := by
 go_enter Tryz.func153, Tryz.ntmps153
 go_wp2_with (go_at_call 191; refine Calls.mono hof ?_; rintro e w' ⟨rfl, rfl⟩)
 go_ret3
 exact ⟨rfl, rfl⟩
set_option maxHeartbeats 400000 in
theorem at_some {p : Option Addr} {g : Int} {b j : Nat} (hof : OfIs w p g (some ⟨b, j, none⟩)) (pr pl : Int) (hs : w.cell? ⟨b, j, none⟩ = some (.int .i64 pr)) (hp : w.cell? ⟨b, j + 1, none⟩ = some (.int .i64 pl)) :
  Calls Tryz.prog 153 #[.pointer p, .int .i64 g] w fun e w' => e = .returned (.tuple #[.int .i64 pr, .int .i64 pl, .bool true]) ∧ ∃ n, w' = w.drewN n := by
 go_enter Tryz.func153, Tryz.ntmps153
 go_wp2_with (go_at_call 191; refine Calls.mono hof ?_; rintro e w' ⟨rfl, rfl⟩)
 go_quiet (fail)
 go_wp2
 go_ret3
 exact ⟨rfl, _, rfl⟩
set_option maxHeartbeats 400000 in
theorem crew_in (h : CrewAt w S c L) (hL : L.length ≤ 512) (s : Int) : Calls Tryz.prog 102 #[.pointer (some ⟨c, 0, none⟩), .int .i64 s] w fun e w' =>
  ∃ a cap n, e = .returned (.slice a n cap) ∧ Rd w' 1 a n (ints (inF L s L.length)) ∧ Frm Nil w w' := by
 obtain ⟨a, cap, hc, hf, hm, hcells⟩ := h.cells
 unfold maxLen at hm
 go_enter Tryz.func102, Tryz.ntmps102
 go_wp2_with (go_at_call 65; refine (crew_len h).mono ?_; rintro e w' ⟨rfl, rfl⟩)
 go_loopw [5, 9] (fun v i wr => ∃ k : Nat, k ≤ L.length ∧ i = .int .i64 k ∧ Frm Nil w wr ∧ Col w.heap.size wr v (inF L s k)) (fun _ i _ => L.length - (intOf i).toNat)
 case atStart => exact ⟨0, Nat.zero_le _, rfl, Frm.refl _ _, Col.nil _ _⟩
 case round =>
  obtain ⟨k, hk, rfl, hfr, hcol⟩ := hrel
  by_cases hlt : k < L.length
  ·have hr : CrewAt wr S c L := h.bound.move' hfr
   obtain ⟨a2, cap2, hc2, hf2, hm2, hx2⟩ := hr.cells
   obtain ⟨b, rfl, hSb, hbc, hfz, hcells2⟩ := hx2 (by omega)
   obtain ⟨_, _, hst⟩ := hcells2 k hlt
   have hll := inF_length L s k
   have hget : L[k]? = some L[k] := List.getElem?_eq_getElem hlt
   have hcomes : inF L s (k + 1) = inF L s k ++ (if L[k].state = s then [(k : Int)] else []) := by rw [inF, hget]
   obtain ⟨st, hst0⟩ : ∃ st, L[k].state = st := ⟨_, rfl⟩
   rw [hst0] at hst hcomes
   have HC := Lib.hid hcomes
   clear hcomes hcells2 hx2 hget hcells hc hst0
   by_cases hs : st = s
   ·have hb0 : (st == s) = true := by simpa using hs
    have HS := Lib.hid hs
    clear hs
    go_wp2_with (at_builtin; go_must (refine col_app rfl _ _ rfl u5 _ (k : Int) rfl rfl (by simp) hcol hfr rfl (by omega) ?_); intro v1 w1 hcol1 hfr1)
    go_roundw
    case rel => exact ⟨k + 1, by omega, by go_num, hfr1, by rw [HC.out, if_pos HS.out]; exact hcol1⟩
    case measure => simp [intOf]; omega
   ·have hb0 : (st == s) = false := by simpa using hs
    go_wp2
    go_roundw
    case rel => exact ⟨k + 1, by omega, by go_num, hfr, by rw [HC.out, if_neg hs, List.append_nil]; exact hcol⟩
    case measure => simp [intOf]; omega
  ·go_wp2
   go_ret
   have hkn : k = L.length := by omega
   subst hkn
   obtain ⟨a3, cap3, rfl, hrd⟩ := hcol.rd
   exact ⟨a3, cap3, _, rfl, hrd, hfr⟩
set_option maxHeartbeats 400000 in
theorem crew_spawn_ok (h : CrewAt w S c L) (hL : L.length < 512) (pr : Int) (h0 : 0 ≤ pr) : Calls Tryz.prog 49 #[.pointer (some ⟨c, 0, none⟩), .int .i64 pr] w
  (CrewPost S c w (.tuple #[.int .i64 L.length, .int .i64 0]) (L ++ [⟨pr, 0, 0⟩])) := by
 obtain ⟨v, h1, h2, h3, h4⟩ := h
 obtain ⟨a, cap, rfl⟩ := own_form h2
 have hc := cell_of_one h1
 have hf := free_of_one h1
 go_enter Tryz.func49, Tryz.ntmps49
 go_wp2_with (at_builtin; go_must (refine app_one rfl _ _ 166 170 _ 3 24 rfl Tryz.underlying166 infoOne rfl (by decide) (.slice a L.length cap) L.length _ [.int .i64 pr, .int .i64 0, .int .i64 0] rfl rfl (by simp) rfl rfl h2 (by omega) (by decide) ?_); intro g' c' w1 hown hfrm hat; have hb1 := hfrm.blk h1 (fun hk => (h4 _ hk).2 rfl); have hc1 := cell_of_one hb1; have hf1 := free_of_one hb1)
 go_ret2
 have hgc : g' ≠ c := by
  rcases hat with hat | hat
  ·exact (h4 _ hat).2
  ·have := lt_of_block h1
   omega
 refine ⟨rfl, ⟨_, one_setCell hb1, ?_, .inl h3, fun k hk => ?_⟩, ?_⟩
 ·rw [List.length_append, List.length_singleton, flat_one]
  exact own_move hown (fun k hk => Below.heap_setCell _ _ _ _ (by rintro rfl; injection hk with hk; exact hgc hk))
 ·injection hk with hk
  dsimp only at hk
  subst hk
  refine ⟨?_, hgc⟩
  rcases hat with hat | hat
  ·exact .inl (h4 _ hat).1
  ·exact .inr ⟨hat, by simpa [World.setCell] using own_lt hown rfl⟩
 ·exact ((hfrm.mono (fun k hk hs => (h4 k hs).1)).setCell (fun _ => h3) _)
set_option maxHeartbeats 400000 in
theorem crew_spawn_arg (p : Option Addr) (pr : Int) (h0 : pr < 0) (w : World) : Calls Tryz.prog 49 #[.pointer p, .int .i64 pr] w
  fun e w' => e = .returned (.tuple #[.int .i64 0, .int .i64 1]) ∧ w = w' := by
 go_enter Tryz.func49, Tryz.ntmps49
 go_wp2
 go_ret2
 exact ⟨rfl, rfl⟩
set_option maxHeartbeats 400000 in
theorem crew_spawn_full (h : CrewAt w S c L) (hL : L.length = 512) (pr : Int) (h0 : 0 ≤ pr) : Calls Tryz.prog 49 #[.pointer (some ⟨c, 0, none⟩), .int .i64 pr] w
  fun e w' => e = .returned (.tuple #[.int .i64 0, .int .i64 5]) ∧ w = w' := by
 obtain ⟨a, cap, hc, _, _, _⟩ := h.cells
 rw [hL] at hc
 clear hL
 go_enter Tryz.func49, Tryz.ntmps49
 go_wp2
 go_ret2
 exact ⟨rfl, rfl⟩
theorem crew_spawn (h : CrewAt w S c L) (hL : L.length ≤ 512) (pr : Int) : Calls Tryz.prog 49 #[.pointer (some ⟨c, 0, none⟩), .int .i64 pr] w
  (CrewPost S c w (.tuple #[.int .i64 (spawnF L pr).1.1, .int .i64 (spawnF L pr).1.2]) (spawnF L pr).2) := by
 unfold spawnF
 by_cases h0 : pr < 0
 ·rw [if_pos h0]
  refine (crew_spawn_arg _ pr h0 w).mono ?_
  rintro e w' ⟨rfl, rfl⟩
  exact ⟨rfl, h.mono (fun k hk => .inl hk), Frm.refl _ _⟩
 ·rw [if_neg h0]
  by_cases h1 : L.length = 512
  ·rw [if_pos h1]
   refine (crew_spawn_full h h1 pr (by omega)).mono ?_
   rintro e w' ⟨rfl, rfl⟩
   exact ⟨rfl, h.mono (fun k hk => .inl hk), Frm.refl _ _⟩
  ·rw [if_neg h1]
   exact crew_spawn_ok h (by omega) pr (by omega)
theorem crew_state (h : CrewAt w S c L) (g : Int) : Calls Tryz.prog 163 #[.pointer (some ⟨c, 0, none⟩), .int .i64 g] w
  fun e w' => e = .returned (.tuple #[.int .i64 (stateF L g).1, .bool (stateF L g).2]) ∧ w = w' := by
 by_cases hg : 0 ≤ g ∧ g < L.length
 ·obtain ⟨k, rfl⟩ := Int.eq_ofNat_of_zero_le hg.1
  have hk : k < L.length := by omega
  obtain ⟨a, cap, hc, _, _, hx⟩ := h.cells
  obtain ⟨b, rfl, _, _, _, hcells⟩ := hx (by omega)
  have e : stateF L k = (L[k].state, true) := by
   unfold stateF
   rw [if_pos (by omega), Int.toNat_natCast, List.getElem?_eq_getElem hk]
  rw [e]
  exact state_some (crew_of h hc k hk) _ (hcells k hk).2.2
 ·have e : stateF L g = (0, false) := by
   unfold stateF
   split
   ·rw [List.getElem?_eq_none (by omega)]
   ·rfl
  rw [e]
  exact state_none (crew_of_none h g hg)
theorem crew_at (h : CrewAt w S c L) (g : Int) : Calls Tryz.prog 153 #[.pointer (some ⟨c, 0, none⟩), .int .i64 g] w
  fun e w' => e = .returned (.tuple #[.int .i64 (atF L g).1, .int .i64 (atF L g).2.1, .bool (atF L g).2.2]) ∧ ∃ n, w' = w.drewN n := by
 by_cases hg : 0 ≤ g ∧ g < L.length
 ·obtain ⟨k, rfl⟩ := Int.eq_ofNat_of_zero_le hg.1
  have hk : k < L.length := by omega
  obtain ⟨a, cap, hc, _, _, hx⟩ := h.cells
  obtain ⟨b, rfl, _, _, _, hcells⟩ := hx (by omega)
  have e : atF L k = (L[k].program, L[k].place, true) := by
   unfold atF
   rw [if_pos (by omega), Int.toNat_natCast, List.getElem?_eq_getElem hk]
  rw [e]
  exact at_some (crew_of h hc k hk) _ _ (hcells k hk).1 (hcells k hk).2.1
 ·have e : atF L g = (0, 0, false) := by
   unfold atF
   split
   ·rw [List.getElem?_eq_none (by omega)]
   ·rfl
  rw [e]
  refine (at_none (crew_of_none h g hg)).mono ?_
  rintro e w' ⟨rfl, rfl⟩
  exact ⟨rfl, 0, rfl⟩
/-- A slice of the numbers xs comes back. -/
def Ints (w : World) (xs : List Int) : Ending → World → Prop := fun e w' => ∃ a cap n, e = .returned (.slice a n cap) ∧ Rd w' 1 a n (ints xs) ∧ Frm Nil w w'
set_option maxHeartbeats 400000 in
theorem crew_able (h : CrewAt w S c L) (hL : L.length ≤ 512) : Calls Tryz.prog 101 #[.pointer (some ⟨c, 0, none⟩)] w (Ints w (ableF L)) := by
 go_enter Tryz.func101, Tryz.ntmps101
 go_wp2_with (go_at_call 102; refine (crew_in h hL 0).mono ?_; rintro e w' ⟨a, cap, n, rfl, h1, h2⟩)
 go_ret
 exact ⟨a, cap, n, rfl, h1, h2⟩
set_option maxHeartbeats 400000 in
theorem crew_over (h : CrewAt w S c L) (hL : L.length ≤ 512) : Calls Tryz.prog 50 #[.pointer (some ⟨c, 0, none⟩)] w fun e w' => e = .returned (.int .i64 (overF L)) ∧ Frm Nil w w' := by
 unfold overF
 by_cases h0 : 0 < (ableF L).length
 ·rw [if_pos h0]
  go_enter Tryz.func50, Tryz.ntmps50
  go_wp2_with (go_at_call 101; refine (crew_able h hL).mono ?_; rintro e w' ⟨a, cap, n, rfl, h1, h2⟩; have e1 := h1.int; have hn : 0 < n := by omega)
  go_ret
  exact ⟨rfl, h2⟩
 ·rw [if_neg h0]
  by_cases hi : 0 < (inF L 1 L.length).length
  ·rw [if_pos hi]
   go_enter Tryz.func50, Tryz.ntmps50
   go_wp2_with fail
   refine (crew_able h hL).mono ?_
   rintro e w' ⟨a, cap, n, rfl, h1, h2⟩
   have e1 := h1.int
   obtain rfl : n = 0 := by omega
   clear e1
   go_wp2_with fail
   refine (crew_in (h.bound.move' h2) hL 1).mono ?_
   rintro e w2 ⟨a2, cap2, n2, rfl, h3, h4⟩
   have e2 := h3.int
   have hn : 0 < n2 := by omega
   clear e2
   go_wp2_with fail
   go_ret
   exact ⟨rfl, h2.then h4⟩
  ·rw [if_neg hi]
   go_enter Tryz.func50, Tryz.ntmps50
   go_wp2_with fail
   refine (crew_able h hL).mono ?_
   rintro e w' ⟨a, cap, n, rfl, h1, h2⟩
   have e1 := h1.int
   obtain rfl : n = 0 := by omega
   clear e1
   go_wp2_with fail
   refine (crew_in (h.bound.move' h2) hL 1).mono ?_
   rintro e w2 ⟨a2, cap2, n2, rfl, h3, h4⟩
   have e2 := h3.int
   obtain rfl : n2 = 0 := by omega
   clear e2
   go_wp2_with fail
   go_ret
   exact ⟨rfl, h2.then h4⟩
end
end Go.Proofs.YtchkaaeoffmjnaaGreatDoor
namespace Go.Proofs.YtchkaaeoffmjnaaGreatDoor
set_option linter.unusedVariables false
set_option linter.unusedSimpArgs false
open Go.RowKit
section
variable {w : World} {S : Nat → Prop} {c : Nat} {L : List One}
def byOf (fr to : Int) : Int := if fr = 1 ∨ (fr = 0 ∧ to = 0) then 1 else 0
end
end Go.Proofs.YtchkaaeoffmjnaaGreatDoor
namespace Go.Proofs.YtchkaaeoffmjnaaGreatDoor
set_option linter.unusedVariables false
set_option linter.unusedSimpArgs false
structure OpM where
 kind : Int
 a : Int
 b : Int
 cases : List CaseM
 dflt : Bool
structure ScrM where
 t : Int
 m : Int
 progs : List (List OpM)
 plan : List Int
 draws : List Int
structure LmM where
 p : Nat
 d : Nat
 crew : List One
 M : List PipeM
 name : List Int
 tr : List Ev
 pan : Bool
def bareE (k g : Int) : Ev := ⟨k, g, -1, -1, -1, -1, false, false⟩
def noteL (x : LmM) (e : Ev) : LmM := { x with tr := x.tr ++ [e] }
def turnL (x : LmM) (g fr to : Int) : LmM := { x with crew := (turnF x.crew g fr to (byOf fr to)).2 }
def wakeL (x : LmM) (e : Ev) : LmM := turnL { noteL x e with M := x.M.map (fun y => dropM y e.g) } e.g 1 0
def panicL (x : LmM) (g : Int) : LmM := { noteL x (bareE 12 g) with pan := true }
def verL (s : ScrM) (x : LmM) : Int :=
 if x.pan = true then 3 else if overF x.crew ≠ 0 then overF x.crew else if s.plan.length ≤ x.p then 4 else 0
/-- Who is next by an entry of the plan; -1: it compacts. -/
def whoL (s : ScrM) (x : LmM) : Int :=
 if s.plan.getD x.p 0 = -1 then -1 else (ableF x.crew).getD ((s.plan.getD x.p 0).toNat % (ableF x.crew).length) 0
def exitOp : OpM := ⟨9, 0, 0, [], false⟩
def opL (s : ScrM) (x : LmM) (g : Int) : OpM :=
 match x.crew[g.toNat]? with
 | none => exitOp
 | some o =>
  match s.progs[o.program.toNat]? with
  | none => exitOp
  | some p => if (p.length : Int) ≤ o.place then exitOp else p.getD o.place.toNat exitOp
/-- The number of a name; -1: it is nil. -/
def numL (x : LmM) (c : Int) : Int := x.name.getD c.toNat (-1)
/-- The pipes by the names: which are there, and their states. -/
def okN (x : LmM) : List Bool := x.name.map (fun n => decide (0 ≤ n))
def pipesN (x : LmM) : List PipeM := x.name.map (fun n => if 0 ≤ n then x.M.getD n.toNat (emptyM 0) else emptyM 0)
/-- What is done to the pipes by the names, done to the channels. -/
def backN : List Int → List PipeM → List PipeM → List PipeM
 | n :: ns, y :: ys, M => backN ns ys (if 0 ≤ n then M.set n.toNat y else M)
 | _, _, M => M
/-- A case that is ready is done. -/
def talkL (x : LmM) (g : Int) (c : CaseM) (at_ : Int) : LmM :=
 let r := tryF (okN x) (pipesN x) c
 let got := r.1.1
 let x1 := { x with M := backN x.name r.2 x.M }
 if r.1.2 ≠ 0 then panicL x1 g
 else
  let ch := numL x c.chan
  let e : Ev := if c.send = true then ⟨3, g, ch, at_, c.value, if got.woke = true then got.mate.g else -1, true, false⟩ else ⟨4, g, ch, at_, got.value, if got.woke = true then got.mate.g else -1, false, got.ok⟩
  let x2 := turnL (noteL x1 e) g 0 0
  if got.woke = true then wakeL x2 ⟨7, got.mate.g, ch, got.mate.case_, if c.send = true then c.value else got.mate.value, g, !c.send, true⟩ else x2
/-- A send or a receive alone. -/
def aloneL (x : LmM) (g : Int) (c : CaseM) : LmM :=
 if readyC (okN x) (pipesN x) c = true then talkL x g c (-1)
 else
  let n := numL x c.chan
  let x1 := noteL x ⟨6, g, n, -1, c.value, -1, c.send, false⟩
  let x2 := if 0 ≤ n then { x1 with M := x1.M.set n.toNat (waitF (x1.M.getD n.toNat (emptyM 0)) c.send ⟨g, -1, c.value⟩).2 } else x1
  turnL x2 g 0 1
def wakesL (x : LmM) (g ch : Int) : List Wtr → LmM
 | [] => x
 | w :: ws => wakesL (if (stateF x.crew w.g).1 = 1 then wakeL x ⟨7, w.g, ch, w.case_, 0, g, false, false⟩ else x) g ch ws
/-- The first sender that still waits: it panics. -/
def sendersL (x : LmM) : List Wtr → LmM
 | [] => x
 | w :: ws => if (stateF x.crew w.g).1 = 1 then panicL x w.g else sendersL x ws
/-- A close. -/
def shutL (x : LmM) (g c : Int) : LmM :=
 let n := numL x c
 if n < 0 then panicL x g
 else
  let y := x.M.getD n.toNat (emptyM 0)
  if y.closed = true then panicL x g
  else
   let x1 := { x with M := x.M.set n.toNat (closeF y).2 }
   let x2 := turnL (noteL x1 ⟨5, g, n, -1, -1, -1, false, false⟩) g 0 0
   sendersL (wakesL x2 g n (closeF y).1.1) (closeF y).1.2.1
/-- A draw among n. -/
def drawL (s : ScrM) (x : LmM) (n : Nat) : Nat × LmM :=
 if n = 1 ∨ s.draws.length ≤ x.d then (0, x) else ((s.draws.getD x.d 0).toNat % n, { x with d := x.d + 1 })
/-- A select. -/
def chooseL (s : ScrM) (x : LmM) (g : Int) (o : OpM) : LmM :=
 let rd := readyL (okN x) (pipesN x) o.cases
 if 0 < rd.length then
  let dr := drawL s x rd.length
  let at_ := rd.getD dr.1 0
  talkL dr.2 g (o.cases.getD at_.toNat ⟨false, 0, 0⟩) at_
 else if o.dflt = true then turnL (noteL x (bareE 8 g)) g 0 0
 else
  let x1 := noteL x ⟨6, g, -1, (o.cases.length : Int), 0, -1, false, false⟩
  turnL { x1 with M := backN x.name (parkF (okN x) g o.cases (pipesN x)).2 x.M } g 0 1
/-- An operation that is about no channel, or makes one. -/
def otherL (x : LmM) (g : Int) (o : OpM) : LmM :=
 if o.kind = 1 then turnL (noteL { x with crew := (spawnF x.crew o.a).2 } ⟨1, g, -1, -1, o.a, (spawnF x.crew o.a).1.1, false, false⟩) g 0 0
 else if o.kind = 2 then turnL (noteL { x with M := x.M ++ [emptyM o.b.toNat], name := x.name.set o.a.toNat x.M.length } ⟨2, g, x.M.length, -1, o.b, -1, false, false⟩) g 0 0
 else if o.kind = 7 then turnL (noteL x ⟨9, g, -1, -1, o.a, -1, false, false⟩) g 0 0
 else if o.kind = 8 then turnL (noteL x ⟨10, g, -1, -1, o.a, -1, false, false⟩) g 0 0
 else noteL (turnL x g 0 2) (bareE 11 g)
/-- What a goroutine does. -/
def doesL (s : ScrM) (x : LmM) (g : Int) (o : OpM) : LmM :=
 if o.kind = 3 then aloneL x g ⟨true, o.a, o.b⟩
 else if o.kind = 4 then aloneL x g ⟨false, o.a, 0⟩
 else if o.kind = 5 then shutL x g o.a
 else if o.kind = 6 then chooseL s x g o
 else otherL x g o
/-- A step. -/
def stepL (s : ScrM) (x : LmM) : LmM :=
 if verL s x ≠ 0 then x
 else if whoL s x < 0 then noteL { x with p := x.p + 1 } (bareE 13 (-1))
 else doesL s { x with p := x.p + 1 } (whoL s x) (opL s x (whoL s x))
def newL : LmM := ⟨0, 0, [⟨0, 0, 0⟩], [], List.replicate 8 (-1), [], false⟩
def runL (s : ScrM) : Nat → LmM
 | 0 => newL
 | n + 1 => stepL s (runL s n)
end Go.Proofs.YtchkaaeoffmjnaaGreatDoor
