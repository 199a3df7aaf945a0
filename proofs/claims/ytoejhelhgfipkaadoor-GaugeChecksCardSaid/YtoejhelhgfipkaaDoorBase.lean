/- Plain words that all walks of this seat use: what a call leaves alone (Frm), slices that a call owns, rows of structs. No Go in it. -/
import Derived.Test.YtoejhelhgfipkaaDoorRows
import Derived.WalkKit
import Derived.WalkSpells
import Derived.WalkLawsBesides
import Derived.Lib.Hide
import Derived.Maps.AppendAt
import Derived.Deep.AppendLies
namespace Go.Proofs.YtoejhelhgfipkaaDoor
set_option linter.unusedVariables false
set_option linter.unusedSimpArgs false
open Go.RowKit

/-! ## what a call leaves alone: all blocks that were there, but for those of S -/
structure Frm (S : Nat → Prop) (w w' : World) : Prop where
  os : w'.os = w.os
  tape : w'.tape = w.tape
  output : w'.output = w.output
  size : w.heap.size ≤ w'.heap.size
  block : ∀ k, k < w.heap.size → ¬ S k → w'.heap[k]? = w.heap[k]?

/-- Nothing. -/
def Nil : Nat → Prop := fun _ => False

theorem Frm.refl (S : Nat → Prop) (w : World) : Frm S w w := ⟨rfl, rfl, rfl, Nat.le_refl _, fun _ _ _ => rfl⟩

theorem Frm.trans {S T : Nat → Prop} {a b c : World} (h : Frm S a b) (k : Frm T b c) (hT : ∀ x, x < a.heap.size → T x → S x) : Frm S a c :=
  ⟨k.os.trans h.os, k.tape.trans h.tape, k.output.trans h.output, Nat.le_trans h.size k.size,
   fun i hi hn => (k.block i (Nat.lt_of_lt_of_le hi h.size) (fun ht => hn (hT i hi ht))).trans (h.block i hi hn)⟩

theorem Frm.mono {S T : Nat → Prop} {a b : World} (h : Frm S a b) (hT : ∀ x, x < a.heap.size → S x → T x) : Frm T a b :=
  ⟨h.os, h.tape, h.output, h.size, fun i hi hn => h.block i hi (fun hs => hn (hT i hi hs))⟩

theorem Frm.nil {S : Nat → Prop} {a b : World} (h : Frm Nil a b) : Frm S a b := h.mono (fun _ _ f => f.elim)

theorem Frm.then {S : Nat → Prop} {a b c : World} (h : Frm S a b) (k : Frm Nil b c) : Frm S a c := h.trans k (fun _ _ f => f.elim)

theorem Frm.alloc {S : Nat → Prop} {a w : World} (h : Frm S a w) (o : Obj) : Frm S a (w.alloc o) :=
  h.then ⟨rfl, rfl, rfl, by simp, fun k hk _ => Below.heap_alloc _ _ _ hk⟩

theorem Frm.drew {S : Nat → Prop} {a w : World} (h : Frm S a w) : Frm S a w.drew := ⟨h.os, h.tape, h.output, h.size, h.block⟩

theorem Frm.drewN {S : Nat → Prop} {a w : World} (h : Frm S a w) (n : Nat) : Frm S a (w.drewN n) := ⟨h.os, h.tape, h.output, h.size, h.block⟩

theorem Frm.setCell {S : Nat → Prop} {a w : World} (h : Frm S a w) {p : Addr} (hp : p.block < a.heap.size → S p.block) (u : Value) : Frm S a (w.setCell p u) :=
  h.trans (T := fun k => k = p.block) ⟨rfl, rfl, rfl, by simp [World.setCell], fun k hk hn => Below.heap_setCell _ _ _ _ hn⟩ (fun x hx e => by subst e; exact hp hx)

theorem Frm.grown {S : Nat → Prop} {a w w' : World} {row : Option Nat} (h : Frm S a w) (hg : w.grownBy w' row) (hr : ∀ k, row = some k → k < a.heap.size → S k) : Frm S a w' :=
  h.trans (T := fun k => row = some k) ⟨hg.os, hg.tape, hg.output, hg.size, fun k hk hn => hg.block k hk (fun e => hn e.symm)⟩ (fun x hx e => hr x e hx)

theorem Frm.cell {S : Nat → Prop} {w w' : World} (h : Frm S w w') {p : Addr} (hp : p.block < w.heap.size) (hn : ¬ S p.block) : w'.cell? p = w.cell? p := World.cell?_of_block (w := w) (h.block p.block hp hn)

theorem Frm.below {w w' : World} (h : Frm Nil w w') : Below w.heap.size w w' := ⟨h.os, h.tape, h.output, h.size, fun k hk => h.block k hk id⟩

theorem Frm.of_below {w w' : World} (h : Below w.heap.size w w') : Frm Nil w w' := ⟨h.os, h.tape, h.output, h.size, fun k hk _ => h.block k hk⟩

theorem Frm.blk {S : Nat → Prop} {w w' : World} (h : Frm S w w') {k : Nat} {o : Obj} (hb : w.heap[k]? = some o) (hn : ¬ S k) : w'.heap[k]? = some o :=
  (h.block k (lt_of_block hb) hn).trans hb

/-- What was at hand, and all that is new behind a call. -/
def New (S : Nat → Prop) (w w' : World) : Nat → Prop := fun k => S k ∨ (w.heap.size ≤ k ∧ k < w'.heap.size)

theorem New.old {S : Nat → Prop} {w w' : World} {k : Nat} (h : S k) : New S w w' k := .inl h

theorem Frm.new {S : Nat → Prop} {a b c : World} (h : Frm S a b) (k : Frm (New S a b) b c) : Frm S a c :=
  h.trans k (fun x hx hn => hn.elim id (fun g => by omega))

/-- All blocks from a number on: what a call makes itself. -/
def From (B : Nat) : Nat → Prop := fun k => B ≤ k

theorem new_from {w w' : World} {B : Nat} (hB : B ≤ w.heap.size) : ∀ k, New (From B) w w' k → From B k := fun _ h => h.elim id (fun g => Nat.le_trans hB g.1)
theorem nil_from {w w' : World} : ∀ k, New Nil w w' k → From w.heap.size k := fun _ h => h.elim (fun f => f.elim) (fun g => g.1)

theorem Frm.step {a b c : World} (h : Frm Nil a b) (k : Frm (From a.heap.size) b c) : Frm Nil a c :=
  h.trans k (fun x hx hn => by unfold From at hn; omega)

/-- S are blocks that were made since there were B of them, and that are there. -/
structure Zone (B : Nat) (w : World) (S : Nat → Prop) : Prop where
  lo : ∀ k, S k → B ≤ k
  hi : ∀ k, S k → k < w.heap.size

theorem Zone.step {B : Nat} {w w' : World} {S : Nat → Prop} (hz : Zone B w S) (f : Frm S w w') (hB : B ≤ w.heap.size) : Zone B w' (New S w w') :=
  ⟨fun k hk => hk.elim (hz.lo k) (fun g => Nat.le_trans hB g.1), fun k hk => hk.elim (fun g => Nat.lt_of_lt_of_le (hz.hi k g) f.size) (fun g => g.2)⟩

theorem Zone.later {B : Nat} {w w' : World} {S T : Nat → Prop} (hz : Zone B w S) (f : Frm T w w') : Zone B w' S := ⟨hz.lo, fun k hk => Nat.lt_of_lt_of_le (hz.hi k hk) f.size⟩

theorem Zone.alloc {B : Nat} {w : World} {S : Nat → Prop} (hz : Zone B w S) (o : Obj) : Zone B (w.alloc o) S := hz.later ((Frm.refl Nil w).alloc o)

theorem Zone.first {w w' : World} (f : Frm Nil w w') : Zone w.heap.size w' (New Nil w w') := (⟨fun _ h => h.elim, fun _ h => h.elim⟩ : Zone w.heap.size w Nil).step f (Nat.le_refl _)

theorem Frm.zone {w0 w w' : World} {S : Nat → Prop} (h : Frm Nil w0 w) (hz : Zone w0.heap.size w S) (f : Frm S w w') : Frm Nil w0 w' :=
  h.trans f (fun x hx hs => by have := hz.lo x hs; omega)

/-- A block outside, of which a call tells nothing: it is as it was. -/
theorem Frm.out {S : Nat → Prop} {w w' : World} (f : Frm S w w') {p : Addr} {v : Value} (hc : w.cell? p = some v) (hn : ¬ S p.block) : w'.cell? p = some v :=
  (f.cell (World.block_lt_of_cell? w p hc) hn).trans hc

/-- A box that a function made at its head, behind a call. -/
theorem box_at {S : Nat → Prop} {w w1 : World} {cs : Array Value} {t : TypeId} (f : Frm S (w.alloc (.cells cs t)) w1) (hn : ¬ S w.heap.size) : w1.heap[w.heap.size]? = some (.cells cs t (0, 0)) :=
  f.blk (heap_alloc_new w _) hn

theorem row_cell {w : World} {g : Nat} {cs : Array Value} {t : TypeId} (h : w.heap[g]? = some (.cells cs t (0, 0))) (i : Nat) {v : Value} (hv : cs[i]? = some v) : w.cell? ⟨g, i, none⟩ = some v := by
  rw [cell_of_row _ _ _ _ _ _ h]
  exact hv
theorem row_free {w : World} {g : Nat} {cs : Array Value} {t : TypeId} (h : w.heap[g]? = some (.cells cs t (0, 0))) (i : Nat) : w.frozen? ⟨g, i, none⟩ = false := by simp [World.frozen?, h]

theorem blk_set {w : World} {g : Nat} {t : TypeId} {cs : Array Value} (h : w.heap[g]? = some (.cells cs t (0, 0))) (i : Nat) (u : Value) : (w.setCell ⟨g, i, none⟩ u).heap[g]? = some (.cells (cs.setIfInBounds i u) t (0, 0)) := by
  simp [World.setCell, Array.getElem?_modify, h]

theorem blk_far {w : World} {g : Nat} {o : Obj} (h : w.heap[g]? = some o) {p : Addr} (hp : g ≠ p.block) (u : Value) : (w.setCell p u).heap[g]? = some o := (Below.heap_setCell w p u g hp).trans h

/-! ## slices that are owned -/
section
variable {w w' : World} {e : TypeId} {sz n : Nat} {v : Value} {xs : List Value}

theorem own_form (h : w.ownsRow 0 e sz v n xs) : ∃ a c, v = .slice a n c := by
  rcases h.2 with ⟨rfl, rfl⟩ | ⟨g, cap, cur, rfl, _⟩
  · exact ⟨none, 0, rfl⟩
  · exact ⟨_, _, rfl⟩

theorem own_max (h : w.ownsRow 0 e sz v n xs) : n ≤ maxLen := by
  rcases h.2 with ⟨rfl, rfl⟩ | ⟨g, cap, cur, rfl, _, _, h1, h2, _⟩
  · exact Nat.zero_le _
  · exact Nat.le_trans h1 h2

theorem own_some {a : Option Addr} {c : Nat} (h : w.ownsRow 0 e sz (.slice a n c) n xs) (hn : 0 < n) : ∃ b, a = some ⟨b, 0, none⟩ := by
  rcases h.2 with ⟨h1, rfl⟩ | ⟨g, cap, cur, h1, _⟩
  · omega
  · injection h1 with h1
    exact ⟨g, h1⟩

theorem own_move (h : w.ownsRow 0 e sz v n xs) (hm : ∀ k, v.ownBlock = some k → w'.heap[k]? = w.heap[k]?) : w'.ownsRow 0 e sz v n xs := by
  refine ⟨h.1, ?_⟩
  rcases h.2 with h2 | ⟨g, cap, cur, rfl, h0, hg, r⟩
  · exact .inl h2
  · exact .inr ⟨g, cap, cur, rfl, h0, (hm g rfl).trans hg, r⟩

theorem own_lt (h : w.ownsRow 0 e sz v n xs) {k : Nat} (hk : v.ownBlock = some k) : k < w.heap.size := (h.lt k hk).2
end

/-! ## rows of structs: each of sz cells -/
section
variable {α : Type} (enc : α → List Value) (sz : Nat)

theorem flat_length (hsz : ∀ x, (enc x).length = sz) : ∀ L : List α, (L.flatMap enc).length = L.length * sz
  | [] => by simp
  | x :: l => by rw [List.flatMap_cons, List.length_append, hsz, flat_length hsz l, List.length_cons, Nat.succ_mul, Nat.add_comm]

theorem flat_get (hsz : ∀ x, (enc x).length = sz) : ∀ (L : List α) (g j : Nat) (_ : j < sz) (hg : g < L.length), (L.flatMap enc)[g * sz + j]? = (enc L[g])[j]?
  | [], g, _, _, hg => absurd hg (Nat.not_lt_zero g)
  | x :: l, 0, j, hj, _ => by
    rw [List.flatMap_cons, Nat.zero_mul, Nat.zero_add, List.getElem?_append_left (by rw [hsz]; exact hj)]
    rfl
  | x :: l, g + 1, j, hj, hg => by
    rw [List.flatMap_cons, List.getElem?_append_right (by rw [hsz, Nat.succ_mul]; omega), hsz]
    rw [show (g + 1) * sz + j - sz = g * sz + j by rw [Nat.succ_mul]; omega]
    exact flat_get hsz l g j hj (by simpa using hg)

theorem flat_one (f : α → List Value) (L : List α) (x : α) : (L ++ [x]).flatMap f = L.flatMap f ++ f x := by
  rw [List.flatMap_append, List.flatMap_cons, List.flatMap_nil, List.append_nil]
end

/-! ## append of one element -/
section
variable {P : Program} {ops : Array Oper} {rest : List Oper} {o : Oper} {a : Act} {Q : Exit → Act → World → Prop}
/-- append(v, x) behind 'at_builtin': x's cells stand in a new block; v is nil or owned. -/
theorem app_one {W : World} (hgd : o.guard = none) (s x : Operand) (t e : TypeId) (z : Value) (size bytes : Nat)
    (ho : o.op = .call { callee := .builtin .append, args := #[s, x], argTypes := #[t, t] })
    (ht : P.underlying t = some (.slice e)) (hinfo : (P.info? e).map (fun i => (i.zero, i.size, i.bytes)) = some (some z, size, bytes)) (hz : z.cells.size = size) (hs0 : 0 < size)
    (v : Value) (n : Nat) (xs ys : List Value) (hs : a.eval s = v) {b0 : Nat} (hx : a.eval x = .slice (some ⟨b0, 0, none⟩) 1 1) (hb0 : b0 = W.heap.size) (hys : ys.length = size) (h1 : ys.all Value.oneCell' = true)
    (HO : W.ownsRow 0 e size v n xs) (hn : n < 1000000000) (hl : bytes ≤ 1000)
    (h : ∀ g c w1, w1.ownsRow 0 e size (.slice (some ⟨g, 0, none⟩) (n + 1) c) (n + 1) (xs ++ ys) → Frm (fun k => v.ownBlock = some k) W w1 → (v.ownBlock = some g ∨ W.heap.size ≤ g) → wpList P ops Q rest (a.put o.dst (.slice (some ⟨g, 0, none⟩) (n + 1) c)) w1) :
    wpList P ops Q (o :: rest) a (W.alloc (.cells ys.toArray e)) := by
  subst hb0
  obtain ⟨i0, hi, hzz⟩ := Option.map_eq_some_iff.1 hinfo
  simp only [Prod.mk.injEq] at hzz
  obtain ⟨hz0, hz1, hz2⟩ := hzz
  refine wpList_append_own_at (W.alloc (.cells ys.toArray e)) hgd s x t ho 0 e i0 z size bytes ht hi hz0 hz1 hz2 hz hs0 v n xs hs (HO.alloc _) ⟨W.heap.size, 0, none⟩ 1 1 ys hx (by rw [hys]; simp)
    (by simpa using World.news_of_block (cs := ys.toArray) (t := e) (fr := (0, 0)) (heap_alloc_new W (.cells ys.toArray e))) (List.all_eq_true.1 h1) (by simp only [maxLen]; omega) (Nat.le_trans (Nat.mul_le_mul (show n + 1 ≤ 1000000000 by omega) hl) (by decide)) (Nat.zero_le _) ?_
  intro v1 w1 hown hg _ hat
  rcases hown.2 with ⟨_, h0⟩ | ⟨g, cap, cur, rfl, _⟩
  · omega
  · refine h g cap w1 hown (((Frm.refl _ W).alloc _).grown hg (fun k hk _ => hk)) ?_
    rcases hat with hat | hat
    · exact .inl hat.symm
    · injection hat with hat
      refine .inr ?_
      dsimp only at hat
      rw [hat]
      simp
end

/-! ## slices that are read -/
def Rd (w : World) (sz : Nat) (a : Option Addr) (n : Nat) (xs : List Value) : Prop :=
  xs.length = n * sz ∧ n ≤ maxLen ∧ (0 < n → ∃ b off, a = some ⟨b, off, none⟩ ∧ ∀ i u, xs[i]? = some u → w.cell? ⟨b, off + i, none⟩ = some u)

theorem Rd.of_own {w : World} {e : TypeId} {sz n : Nat} {a : Option Addr} {c : Nat} {xs : List Value} (h : w.ownsRow 0 e sz (.slice a n c) n xs) : Rd w sz a n xs := by
  refine ⟨h.1, own_max h, fun hn => ?_⟩
  obtain ⟨b, rfl⟩ := own_some h hn
  refine ⟨b, 0, rfl, fun i u hu => ?_⟩
  have := h.cells (g := b) rfl i u hu
  rw [Nat.zero_add]
  unfold Addr.add at this
  split at this
  · rename_i h0; subst h0; exact this
  · simpa using this

theorem Rd.keep {S : Nat → Prop} {w w' : World} {sz n : Nat} {a : Option Addr} {xs : List Value} (h : Rd w sz a n xs) (hf : Frm S w w') (hs : ∀ b off, a = some ⟨b, off, none⟩ → ¬ S b) : Rd w' sz a n xs := by
  refine ⟨h.1, h.2.1, fun hn => ?_⟩
  obtain ⟨b, off, ha, hc⟩ := h.2.2 hn
  refine ⟨b, off, ha, fun i u hu => ?_⟩
  have hx := hc i u hu
  rw [hf.cell (p := ⟨b, off + i, none⟩) (World.block_lt_of_cell? w _ hx) (hs b off ha)]
  exact hx

theorem Rd.nil {w w' : World} {sz n : Nat} {a : Option Addr} {xs : List Value} (h : Rd w sz a n xs) (hf : Frm Nil w w') : Rd w' sz a n xs := h.keep hf (fun _ _ _ => id)

def ints (xs : List Int) : List Value := xs.map (Value.int .i64)
theorem ints_length (xs : List Int) : (ints xs).length = xs.length := by simp [ints]
theorem ints_at (xs : List Int) (i : Nat) (h : i < xs.length) : (ints xs)[i]? = some (.int .i64 xs[i]) := by simp [ints, h]
theorem ints_append (xs ys : List Int) : ints (xs ++ ys) = ints xs ++ ints ys := by simp [ints]

theorem Rd.int {w : World} {n : Nat} {a : Option Addr} {xs : List Int} (h : Rd w 1 a n (ints xs)) : xs.length = n := by
  have := h.1
  rw [ints_length] at this
  omega

/-- The cells of a slice of numbers: its address, and each of them. -/
theorem Rd.int_at {w : World} {n : Nat} {a : Option Addr} {xs : List Int} (h : Rd w 1 a n (ints xs)) (hn : 0 < n) : ∃ b off, a = some ⟨b, off, none⟩ ∧ ∀ i, i < n → w.cell? ⟨b, off + i, none⟩ = some (.int .i64 (xs.getD i 0)) := by
  have hl := h.int
  obtain ⟨b, off, ha, hc⟩ := h.2.2 hn
  refine ⟨b, off, ha, fun i hi => ?_⟩
  have := hc i _ (ints_at xs i (by omega))
  rw [this, List.getD_eq_getElem?_getD, List.getElem?_eq_getElem (by omega)]
  rfl

/-- A slice of numbers that the call itself gathers: its block is new. -/
def Col (B : Nat) (w : World) (v : Value) (xs : List Int) : Prop :=
  w.ownsRow 0 3 1 v xs.length (ints xs) ∧ ∀ k, v.ownBlock = some k → B ≤ k

theorem Col.nil (B : Nat) (w : World) : Col B w (.slice none 0 0) [] := ⟨World.ownsRow_nil _ _ _ _, fun k hk => by cases hk⟩

theorem Col.move {B : Nat} {w w' : World} {v : Value} {xs : List Int} (h : Col B w v xs) (hm : ∀ k, B ≤ k → k < w.heap.size → w'.heap[k]? = w.heap[k]?) : Col B w' v xs :=
  ⟨own_move h.1 (fun k hk => hm k (h.2 k hk) (own_lt h.1 hk)), h.2⟩

theorem Col.rd {B : Nat} {w : World} {v : Value} {xs : List Int} (h : Col B w v xs) : ∃ a cap, v = .slice a xs.length cap ∧ Rd w 1 a xs.length (ints xs) := by
  obtain ⟨a, cap, rfl⟩ := own_form h.1
  exact ⟨a, cap, rfl, Rd.of_own h.1⟩

theorem infoInt : (Tryd.prog.info? 3).map (fun i => (i.zero, i.size, i.bytes)) = some (some (.int .i64 0), 1, 8) := by kernel_rfl

section
variable {ops : Array Oper} {rest : List Oper} {o : Oper} {a : Act} {Q : Exit → Act → World → Prop}
theorem col_app {B : Nat} {w W : World} (hgd : o.guard = none) (s x : Operand) (ho : o.op = .call { callee := .builtin .append, args := #[s, x], argTypes := #[56, 56] })
    (v : Value) (xs : List Int) (y : Int) (hs : a.eval s = v) {b0 : Nat} (hx : a.eval x = .slice (some ⟨b0, 0, none⟩) 1 1) (hb0 : b0 = W.heap.size)
    (HO : Col B W v xs) (hf : Frm Nil w W) (hB : B = w.heap.size) (hn : xs.length < 1000000000)
    (h : ∀ v1 w1, Col B w1 v1 (xs ++ [y]) → Frm Nil w w1 → wpList Tryd.prog ops Q rest (a.put o.dst v1) w1) :
    wpList Tryd.prog ops Q (o :: rest) a (W.alloc (.cells #[.int .i64 y] 3)) := by
  subst hB
  refine app_one hgd s x 56 3 _ 1 8 ho Tryd.underlying56 infoInt rfl (by decide) v xs.length _ [.int .i64 y] hs hx hb0 rfl rfl HO.1 hn (by decide) ?_
  intro g c w1 h1 h2 h3
  refine h _ _ ⟨?_, ?_⟩ ?_
  · rw [List.length_append, List.length_singleton, ints_append]
    exact h1
  · intro k hk
    injection hk with hk
    dsimp only at hk
    subst hk
    rcases h3 with h3 | h3
    · exact HO.2 _ h3
    · exact Nat.le_trans hf.size h3
  · exact hf.trans h2 (fun k hk hv => by have := HO.2 _ hv; omega)
end

/-- A slice of structs (cells cs, n of them, sz cells each, type te) that the call itself gathers: its block is new. -/
def ColC (te sz B : Nat) (w : World) (v : Value) (n : Nat) (cs : List Value) : Prop :=
  w.ownsRow 0 te sz v n cs ∧ ∀ k, v.ownBlock = some k → B ≤ k

theorem ColC.nil (te sz B : Nat) (w : World) : ColC te sz B w (.slice none 0 0) 0 [] := ⟨World.ownsRow_nil _ _ _ _, fun k hk => by cases hk⟩

theorem ColC.move {te sz B : Nat} {w w' : World} {v : Value} {n : Nat} {cs : List Value} (h : ColC te sz B w v n cs) (hm : ∀ k, B ≤ k → k < w.heap.size → w'.heap[k]? = w.heap[k]?) : ColC te sz B w' v n cs :=
  ⟨own_move h.1 (fun k hk => hm k (h.2 k hk) (own_lt h.1 hk)), h.2⟩

theorem ColC.later {te sz B : Nat} {w w' : World} {v : Value} {n : Nat} {cs : List Value} (h : ColC te sz B w v n cs) (hf : Frm Nil w w') : ColC te sz B w' v n cs := h.move (fun k _ hk => hf.block k hk id)

theorem ColC.rd {te sz B : Nat} {w : World} {v : Value} {n : Nat} {cs : List Value} (h : ColC te sz B w v n cs) : ∃ a cap, v = .slice a n cap ∧ Rd w sz a n cs := by
  obtain ⟨a, cap, rfl⟩ := own_form h.1
  exact ⟨a, cap, rfl, Rd.of_own h.1⟩

section
variable {P : Program} {ops : Array Oper} {rest : List Oper} {o : Oper} {a : Act} {Q : Exit → Act → World → Prop}
theorem colc_app {te sz B : Nat} {w W : World} (hgd : o.guard = none) (s x : Operand) (t : TypeId) (z : Value) (bytes : Nat)
    (ho : o.op = .call { callee := .builtin .append, args := #[s, x], argTypes := #[t, t] })
    (ht : P.underlying t = some (.slice te)) (hinfo : (P.info? te).map (fun i => (i.zero, i.size, i.bytes)) = some (some z, sz, bytes)) (hz : z.cells.size = sz) (hs0 : 0 < sz)
    (v : Value) (n : Nat) (cs ys : List Value) (hs : a.eval s = v) {b0 : Nat} (hx : a.eval x = .slice (some ⟨b0, 0, none⟩) 1 1) (hb0 : b0 = W.heap.size) (hys : ys.length = sz) (h1 : ys.all Value.oneCell' = true)
    (HO : ColC te sz B W v n cs) (hf : Frm Nil w W) (hB : B = w.heap.size) (hn : n < 1000000000) (hl : bytes ≤ 1000)
    (h : ∀ v1 w1, ColC te sz B w1 v1 (n + 1) (cs ++ ys) → Frm Nil w w1 → Frm (From B) W w1 → wpList P ops Q rest (a.put o.dst v1) w1) :
    wpList P ops Q (o :: rest) a (W.alloc (.cells ys.toArray te)) := by
  subst hB
  refine app_one hgd s x t te z sz bytes ho ht hinfo hz hs0 v n cs ys hs hx hb0 hys h1 HO.1 hn hl ?_
  intro g c w1 h2 h3 h4
  refine h _ _ ⟨h2, ?_⟩ (hf.trans h3 (fun k hk hv => by have := HO.2 _ hv; omega)) (h3.mono (fun k _ hv => HO.2 _ hv))
  intro k hk
  injection hk with hk
  dsimp only at hk
  subst hk
  rcases h4 with h4 | h4
  · exact HO.2 _ h4
  · exact Nat.le_trans hf.size h4
end

theorem ret_int {k : IntKind} {a b : Int} (h : a = b) : Ending.returned (.int k a) = .returned (.int k b) := by rw [h]
theorem ret_bool {a b : Bool} (h : a = b) : Ending.returned (.bool a) = .returned (.bool b) := by rw [h]

end Go.Proofs.YtoejhelhgfipkaaDoor
