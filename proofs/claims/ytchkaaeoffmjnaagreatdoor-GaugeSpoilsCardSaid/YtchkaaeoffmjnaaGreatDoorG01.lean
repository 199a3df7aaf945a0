/- Texts of the proof, several in one file: Base, Ring, Pew, PewB, PewC. -/
import Derived.Test.YtchkaaeoffmjnaaGreatDoorRows
import Derived.WalkKit
import Derived.WalkSpells
import Derived.WalkLawsBesides
import Derived.Lib.Hide
import Derived.Maps.AppendAt
import Derived.Deep.AppendLies
import Derived.Deep.QuietTactic
import Derived.BigQuiet
import Derived.Deep.DeepMust
import Derived.Deep.RegionWith
namespace Go.Proofs.YtchkaaeoffmjnaaGreatDoor
set_option linter.unusedVariables false
set_option linter.unusedSimpArgs false
open Go.RowKit
structure Frm (S : Nat → Prop) (w w' : World) : Prop where
 os : w'.os = w.os
 tape : w'.tape = w.tape
 output : w'.output = w.output
 size : w.heap.size ≤ w'.heap.size
 block : ∀ k, k < w.heap.size → ¬ S k → w'.heap[k]? = w.heap[k]?
/-- Nothing. -/
def Nil : Nat → Prop := fun _ => False
theorem Frm.refl (S : Nat → Prop) (w : World) : Frm S w w := ⟨rfl, rfl, rfl, Nat.le_refl _, fun _ _ _ => rfl⟩
theorem Frm.trans {S T : Nat → Prop} {a b c : World} (h : Frm S a b) (k : Frm T b c) (hT : ∀ x, x < a.heap.size → T x → S x) : Frm S a c :=
  ⟨k.os.trans h.os, k.tape.trans h.tape, k.output.trans h.output, Nat.le_trans h.size k.size,
   fun i hi hn => (k.block i (Nat.lt_of_lt_of_le hi h.size) (fun ht => hn (hT i hi ht))).trans (h.block i hi hn)⟩
theorem Frm.mono {S T : Nat → Prop} {a b : World} (h : Frm S a b) (hT : ∀ x, x < a.heap.size → S x → T x) : Frm T a b :=
 ⟨h.os, h.tape, h.output, h.size, fun i hi hn => h.block i hi (fun hs => hn (hT i hi hs))⟩
theorem Frm.nil {S : Nat → Prop} {a b : World} (h : Frm Nil a b) : Frm S a b := h.mono (fun _ _ f => f.elim)
theorem Frm.then {S : Nat → Prop} {a b c : World} (h : Frm S a b) (k : Frm Nil b c) : Frm S a c := h.trans k (fun _ _ f => f.elim)
theorem Frm.alloc {S : Nat → Prop} {a w : World} (h : Frm S a w) (o : Obj) : Frm S a (w.alloc o) :=
 h.then ⟨rfl, rfl, rfl, by simp, fun k hk _ => Below.heap_alloc _ _ _ hk⟩
theorem Frm.drew {S : Nat → Prop} {a w : World} (h : Frm S a w) : Frm S a w.drew := ⟨h.os, h.tape, h.output, h.size, h.block⟩
theorem Frm.drewN {S : Nat → Prop} {a w : World} (h : Frm S a w) (n : Nat) : Frm S a (w.drewN n) := ⟨h.os, h.tape, h.output, h.size, h.block⟩
theorem Frm.setCell {S : Nat → Prop} {a w : World} (h : Frm S a w) {p : Addr} (hp : p.block < a.heap.size → S p.block) (u : Value) : Frm S a (w.setCell p u) :=
 h.trans (T := fun k => k = p.block) ⟨rfl, rfl, rfl, by simp [World.setCell], fun k hk hn => Below.heap_setCell _ _ _ _ hn⟩ (fun x hx e => by subst e; exact hp hx)
theorem Frm.grown {S : Nat → Prop} {a w w' : World} {row : Option Nat} (h : Frm S a w) (hg : w.grownBy w' row) (hr : ∀ k, row = some k → k < a.heap.size → S k) : Frm S a w' :=
 h.trans (T := fun k => row = some k) ⟨hg.os, hg.tape, hg.output, hg.size, fun k hk hn => hg.block k hk (fun e => hn e.symm)⟩ (fun x hx e => hr x e hx)
theorem Frm.cell {S : Nat → Prop} {w w' : World} (h : Frm S w w') {p : Addr} (hp : p.block < w.heap.size) (hn : ¬ S p.block) : w'.cell? p = w.cell? p := World.cell?_of_block (w := w) (h.block p.block hp hn)
theorem Frm.below {w w' : World} (h : Frm Nil w w') : Below w.heap.size w w' := ⟨h.os, h.tape, h.output, h.size, fun k hk => h.block k hk id⟩
theorem Frm.blk {S : Nat → Prop} {w w' : World} (h : Frm S w w') {k : Nat} {o : Obj} (hb : w.heap[k]? = some o) (hn : ¬ S k) : w'.heap[k]? = some o :=
 (h.block k (lt_of_block hb) hn).trans hb
/-- What was at hand, and all that is new behind a call. -/
def New (S : Nat → Prop) (w w' : World) : Nat → Prop := fun k => S k ∨ (w.heap.size ≤ k ∧ k < w'.heap.size)
theorem New.old {S : Nat → Prop} {w w' : World} {k : Nat} (h : S k) : New S w w' k := .inl h
theorem Frm.new {S : Nat → Prop} {a b c : World} (h : Frm S a b) (k : Frm (New S a b) b c) : Frm S a c :=
 h.trans k (fun x hx hn => hn.elim id (fun g => by omega))
/-- All blocks from a number on: what a call makes itself. -/
def From (B : Nat) : Nat → Prop := fun k => B ≤ k
theorem Frm.step {a b c : World} (h : Frm Nil a b) (k : Frm (From a.heap.size) b c) : Frm Nil a c :=
 h.trans k (fun x hx hn => by unfold From at hn; omega)
/-- S are blocks that were made since there were B of them, and that are there. -/
structure Zone (B : Nat) (w : World) (S : Nat → Prop) : Prop where
 lo : ∀ k, S k → B ≤ k
 hi : ∀ k, S k → k < w.heap.size
theorem Zone.step {B : Nat} {w w' : World} {S : Nat → Prop} (hz : Zone B w S) (f : Frm S w w') (hB : B ≤ w.heap.size) : Zone B w' (New S w w') :=
 ⟨fun k hk => hk.elim (hz.lo k) (fun g => Nat.le_trans hB g.1), fun k hk => hk.elim (fun g => Nat.lt_of_lt_of_le (hz.hi k g) f.size) (fun g => g.2)⟩
theorem Zone.later {B : Nat} {w w' : World} {S T : Nat → Prop} (hz : Zone B w S) (f : Frm T w w') : Zone B w' S := ⟨hz.lo, fun k hk => Nat.lt_of_lt_of_le (hz.hi k hk) f.size⟩
theorem Zone.alloc {B : Nat} {w : World} {S : Nat → Prop} (hz : Zone B w S) (o : Obj) : Zone B (w.alloc o) S := hz.later ((Frm.refl Nil w).alloc o)
theorem Zone.first {w w' : World} (f : Frm Nil w w') : Zone w.heap.size w' (New Nil w w') := (⟨fun _ h => h.elim, fun _ h => h.elim⟩ : Zone w.heap.size w Nil).step f (Nat.le_refl _)
/-- A block outside, of which a call tells nothing: it is as it was. -/
theorem Frm.out {S : Nat → Prop} {w w' : World} (f : Frm S w w') {p : Addr} {v : Value} (hc : w.cell? p = some v) (hn : ¬ S p.block) : w'.cell? p = some v :=
 (f.cell (World.block_lt_of_cell? w p hc) hn).trans hc
/-- A box that a function made at its head, behind a call. -/
theorem box_at {S : Nat → Prop} {w w1 : World} {cs : Array Value} {t : TypeId} (f : Frm S (w.alloc (.cells cs t)) w1) (hn : ¬ S w.heap.size) : w1.heap[w.heap.size]? = some (.cells cs t (0, 0)) :=
 f.blk (heap_alloc_new w _) hn
theorem row_cell {w : World} {g : Nat} {cs : Array Value} {t : TypeId} (h : w.heap[g]? = some (.cells cs t (0, 0))) (i : Nat) {v : Value} (hv : cs[i]? = some v) : w.cell? ⟨g, i, none⟩ = some v := by
 rw [cell_of_row _ _ _ _ _ _ h]
 exact hv
theorem row_free {w : World} {g : Nat} {cs : Array Value} {t : TypeId} (h : w.heap[g]? = some (.cells cs t (0, 0))) (i : Nat) : w.frozen? ⟨g, i, none⟩ = false := by simp [World.frozen?, h]
theorem blk_set {w : World} {g : Nat} {t : TypeId} {cs : Array Value} (h : w.heap[g]? = some (.cells cs t (0, 0))) (i : Nat) (u : Value) : (w.setCell ⟨g, i, none⟩ u).heap[g]? = some (.cells (cs.setIfInBounds i u) t (0, 0)) := by
 simp [World.setCell, Array.getElem?_modify, h]
theorem blk_far {w : World} {g : Nat} {o : Obj} (h : w.heap[g]? = some o) {p : Addr} (hp : g ≠ p.block) (u : Value) : (w.setCell p u).heap[g]? = some o := (Below.heap_setCell w p u g hp).trans h
section
variable {w w' : World} {e : TypeId} {sz n : Nat} {v : Value} {xs : List Value}
theorem own_form (h : w.ownsRow 0 e sz v n xs) : ∃ a c, v = .slice a n c := by
 rcases h.2 with ⟨rfl, rfl⟩ | ⟨g, cap, cur, rfl, _⟩
 ·exact ⟨none, 0, rfl⟩
 ·exact ⟨_, _, rfl⟩
theorem own_max (h : w.ownsRow 0 e sz v n xs) : n ≤ maxLen := by
 rcases h.2 with ⟨rfl, rfl⟩ | ⟨g, cap, cur, rfl, _, _, h1, h2, _⟩
 ·exact Nat.zero_le _
 ·exact Nat.le_trans h1 h2
theorem own_some {a : Option Addr} {c : Nat} (h : w.ownsRow 0 e sz (.slice a n c) n xs) (hn : 0 < n) : ∃ b, a = some ⟨b, 0, none⟩ := by
 rcases h.2 with ⟨h1, rfl⟩ | ⟨g, cap, cur, h1, _⟩
 ·omega
 ·injection h1 with h1
  exact ⟨g, h1⟩
theorem own_move (h : w.ownsRow 0 e sz v n xs) (hm : ∀ k, v.ownBlock = some k → w'.heap[k]? = w.heap[k]?) : w'.ownsRow 0 e sz v n xs := by
 refine ⟨h.1, ?_⟩
 rcases h.2 with h2 | ⟨g, cap, cur, rfl, h0, hg, r⟩
 ·exact .inl h2
 ·exact .inr ⟨g, cap, cur, rfl, h0, (hm g rfl).trans hg, r⟩
theorem own_lt (h : w.ownsRow 0 e sz v n xs) {k : Nat} (hk : v.ownBlock = some k) : k < w.heap.size := (h.lt k hk).2
end
section
variable {α : Type} (enc : α → List Value) (sz : Nat)
theorem flat_length (hsz : ∀ x, (enc x).length = sz) : ∀ L : List α, (L.flatMap enc).length = L.length * sz
 | [] => by simp
 | x :: l => by rw [List.flatMap_cons, List.length_append, hsz, flat_length hsz l, List.length_cons, Nat.succ_mul, Nat.add_comm]
theorem flat_get (hsz : ∀ x, (enc x).length = sz) : ∀ (L : List α) (g j : Nat) (_ : j < sz) (hg : g < L.length), (L.flatMap enc)[g * sz + j]? = (enc L[g])[j]?
 | [], g, _, _, hg => absurd hg (Nat.not_lt_zero g)
 | x :: l, 0, j, hj, _ => by
  rw [List.flatMap_cons, Nat.zero_mul, Nat.zero_add, List.getElem?_append_left (by rw [hsz]; exact hj)]
  rfl
 | x :: l, g + 1, j, hj, hg => by
  rw [List.flatMap_cons, List.getElem?_append_right (by rw [hsz, Nat.succ_mul]; omega), hsz]
  rw [show (g + 1) * sz + j - sz = g * sz + j by rw [Nat.succ_mul]; omega]
  exact flat_get hsz l g j hj (by simpa using hg)
theorem flat_one (f : α → List Value) (L : List α) (x : α) : (L ++ [x]).flatMap f = L.flatMap f ++ f x := by
 rw [List.flatMap_append, List.flatMap_cons, List.flatMap_nil, List.append_nil]
end
section
variable {P : Program} {ops : Array Oper} {rest : List Oper} {o : Oper} {a : Act} {Q : Exit → Act → World → Prop}
/-- append(v, x) behind 'at_builtin': x's cells stand in a new block; v is nil or owned. -/
theorem app_one {W : World} (hgd : o.guard = none) (s x : Operand) (t e : TypeId) (z : Value) (size bytes : Nat)
  (ho : o.op = .call { callee := .builtin .append, args := #[s, x], argTypes := #[t, t] })
  (ht : P.underlying t = some (.slice e)) (hinfo : (P.info? e).map (fun i => (i.zero, i.size, i.bytes)) = some (some z, size, bytes)) (hz : z.cells.size = size) (hs0 : 0 < size)
  (v : Value) (n : Nat) (xs ys : List Value) (hs : a.eval s = v) {b0 : Nat} (hx : a.eval x = .slice (some ⟨b0, 0, none⟩) 1 1) (hb0 : b0 = W.heap.size) (hys : ys.length = size) (h1 : ys.all Value.oneCell' = true)
  (HO : W.ownsRow 0 e size v n xs) (hn : n < 1000000000) (hl : bytes ≤ 1000)
  (h : ∀ g c w1, w1.ownsRow 0 e size (.slice (some ⟨g, 0, none⟩) (n + 1) c) (n + 1) (xs ++ ys) → Frm (fun k => v.ownBlock = some k) W w1 → (v.ownBlock = some g ∨ W.heap.size ≤ g) → wpList P ops Q rest (a.put o.dst (.slice (some ⟨g, 0, none⟩) (n + 1) c)) w1) :
  wpList P ops Q (o :: rest) a (W.alloc (.cells ys.toArray e)) := by
 subst hb0
 obtain ⟨i0, hi, hzz⟩ := Option.map_eq_some_iff.1 hinfo
 simp only [Prod.mk.injEq] at hzz
 obtain ⟨hz0, hz1, hz2⟩ := hzz
 refine wpList_append_own_at (W.alloc (.cells ys.toArray e)) hgd s x t ho 0 e i0 z size bytes ht hi hz0 hz1 hz2 hz hs0 v n xs hs (HO.alloc _) ⟨W.heap.size, 0, none⟩ 1 1 ys hx (by rw [hys]; simp)
  (by simpa using World.news_of_block (cs := ys.toArray) (t := e) (fr := (0, 0)) (heap_alloc_new W (.cells ys.toArray e))) (List.all_eq_true.1 h1) (by simp only [maxLen]; omega) (Nat.le_trans (Nat.mul_le_mul (show n + 1 ≤ 1000000000 by omega) hl) (by decide)) (Nat.zero_le _) ?_
 intro v1 w1 hown hg _ hat
 rcases hown.2 with ⟨_, h0⟩ | ⟨g, cap, cur, rfl, _⟩
 ·omega
 ·refine h g cap w1 hown (((Frm.refl _ W).alloc _).grown hg (fun k hk _ => hk)) ?_
  rcases hat with hat | hat
  ·exact .inl hat.symm
  ·injection hat with hat
   refine .inr ?_
   dsimp only at hat
   rw [hat]
   simp
end
def Rd (w : World) (sz : Nat) (a : Option Addr) (n : Nat) (xs : List Value) : Prop :=
 xs.length = n * sz ∧ n ≤ maxLen ∧ (0 < n → ∃ b off, a = some ⟨b, off, none⟩ ∧ ∀ i u, xs[i]? = some u → w.cell? ⟨b, off + i, none⟩ = some u)
theorem Rd.of_own {w : World} {e : TypeId} {sz n : Nat} {a : Option Addr} {c : Nat} {xs : List Value} (h : w.ownsRow 0 e sz (.slice a n c) n xs) : Rd w sz a n xs := by
 refine ⟨h.1, own_max h, fun hn => ?_⟩
 obtain ⟨b, rfl⟩ := own_some h hn
 refine ⟨b, 0, rfl, fun i u hu => ?_⟩
 have := h.cells (g := b) rfl i u hu
 rw [Nat.zero_add]
 unfold Addr.add at this
 split at this
 ·rename_i h0; subst h0; exact this
 ·simpa using this
theorem Rd.keep {S : Nat → Prop} {w w' : World} {sz n : Nat} {a : Option Addr} {xs : List Value} (h : Rd w sz a n xs) (hf : Frm S w w') (hs : ∀ b off, a = some ⟨b, off, none⟩ → ¬ S b) : Rd w' sz a n xs := by
 refine ⟨h.1, h.2.1, fun hn => ?_⟩
 obtain ⟨b, off, ha, hc⟩ := h.2.2 hn
 refine ⟨b, off, ha, fun i u hu => ?_⟩
 have hx := hc i u hu
 rw [hf.cell (p := ⟨b, off + i, none⟩) (World.block_lt_of_cell? w _ hx) (hs b off ha)]
 exact hx
theorem Rd.nil {w w' : World} {sz n : Nat} {a : Option Addr} {xs : List Value} (h : Rd w sz a n xs) (hf : Frm Nil w w') : Rd w' sz a n xs := h.keep hf (fun _ _ _ => id)
def ints (xs : List Int) : List Value := xs.map (Value.int .i64)
theorem ints_length (xs : List Int) : (ints xs).length = xs.length := by simp [ints]
theorem ints_at (xs : List Int) (i : Nat) (h : i < xs.length) : (ints xs)[i]? = some (.int .i64 xs[i]) := by simp [ints, h]
theorem ints_append (xs ys : List Int) : ints (xs ++ ys) = ints xs ++ ints ys := by simp [ints]
theorem Rd.int {w : World} {n : Nat} {a : Option Addr} {xs : List Int} (h : Rd w 1 a n (ints xs)) : xs.length = n := by
 have := h.1
 rw [ints_length] at this
 omega
/-- The cells of a slice of numbers: its address, and each of them. -/
theorem Rd.int_at {w : World} {n : Nat} {a : Option Addr} {xs : List Int} (h : Rd w 1 a n (ints xs)) (hn : 0 < n) : ∃ b off, a = some ⟨b, off, none⟩ ∧ ∀ i, i < n → w.cell? ⟨b, off + i, none⟩ = some (.int .i64 (xs.getD i 0)) := by
 have hl := h.int
 obtain ⟨b, off, ha, hc⟩ := h.2.2 hn
 refine ⟨b, off, ha, fun i hi => ?_⟩
 have := hc i _ (ints_at xs i (by omega))
 rw [this, List.getD_eq_getElem?_getD, List.getElem?_eq_getElem (by omega)]
 rfl
/-- A slice of numbers that the call itself gathers: its block is new. -/
def Col (B : Nat) (w : World) (v : Value) (xs : List Int) : Prop :=
 w.ownsRow 0 3 1 v xs.length (ints xs) ∧ ∀ k, v.ownBlock = some k → B ≤ k
theorem Col.nil (B : Nat) (w : World) : Col B w (.slice none 0 0) [] := ⟨World.ownsRow_nil _ _ _ _, fun k hk => by cases hk⟩
theorem Col.move {B : Nat} {w w' : World} {v : Value} {xs : List Int} (h : Col B w v xs) (hm : ∀ k, B ≤ k → k < w.heap.size → w'.heap[k]? = w.heap[k]?) : Col B w' v xs :=
 ⟨own_move h.1 (fun k hk => hm k (h.2 k hk) (own_lt h.1 hk)), h.2⟩
theorem Col.rd {B : Nat} {w : World} {v : Value} {xs : List Int} (h : Col B w v xs) : ∃ a cap, v = .slice a xs.length cap ∧ Rd w 1 a xs.length (ints xs) := by
 obtain ⟨a, cap, rfl⟩ := own_form h.1
 exact ⟨a, cap, rfl, Rd.of_own h.1⟩
theorem infoInt : (Tryz.prog.info? 3).map (fun i => (i.zero, i.size, i.bytes)) = some (some (.int .i64 0), 1, 8) := by kernel_rfl
section
variable {ops : Array Oper} {rest : List Oper} {o : Oper} {a : Act} {Q : Exit → Act → World → Prop}
theorem col_app {B : Nat} {w W : World} (hgd : o.guard = none) (s x : Operand) (ho : o.op = .call { callee := .builtin .append, args := #[s, x], argTypes := #[40, 40] })
  (v : Value) (xs : List Int) (y : Int) (hs : a.eval s = v) {b0 : Nat} (hx : a.eval x = .slice (some ⟨b0, 0, none⟩) 1 1) (hb0 : b0 = W.heap.size)
  (HO : Col B W v xs) (hf : Frm Nil w W) (hB : B = w.heap.size) (hn : xs.length < 1000000000)
  (h : ∀ v1 w1, Col B w1 v1 (xs ++ [y]) → Frm Nil w w1 → wpList Tryz.prog ops Q rest (a.put o.dst v1) w1) :
  wpList Tryz.prog ops Q (o :: rest) a (W.alloc (.cells #[.int .i64 y] 3)) := by
 subst hB
 refine app_one hgd s x 40 3 _ 1 8 ho Tryz.underlying40 infoInt rfl (by decide) v xs.length _ [.int .i64 y] hs hx hb0 rfl rfl HO.1 hn (by decide) ?_
 intro g c w1 h1 h2 h3
 refine h _ _ ⟨?_, ?_⟩ ?_
 ·rw [List.length_append, List.length_singleton, ints_append]
  exact h1
 ·intro k hk
  injection hk with hk
  dsimp only at hk
  subst hk
  rcases h3 with h3 | h3
  ·exact HO.2 _ h3
  ·exact Nat.le_trans hf.size h3
 ·exact hf.trans h2 (fun k hk hv => by have := HO.2 _ hv; omega)
end
/-- A slice of structs (cells cs, n of them, sz cells each, type te) that the call itself gathers: its block is new. -/
def ColC (te sz B : Nat) (w : World) (v : Value) (n : Nat) (cs : List Value) : Prop :=
 w.ownsRow 0 te sz v n cs ∧ ∀ k, v.ownBlock = some k → B ≤ k
theorem ColC.nil (te sz B : Nat) (w : World) : ColC te sz B w (.slice none 0 0) 0 [] := ⟨World.ownsRow_nil _ _ _ _, fun k hk => by cases hk⟩
theorem ColC.move {te sz B : Nat} {w w' : World} {v : Value} {n : Nat} {cs : List Value} (h : ColC te sz B w v n cs) (hm : ∀ k, B ≤ k → k < w.heap.size → w'.heap[k]? = w.heap[k]?) : ColC te sz B w' v n cs :=
 ⟨own_move h.1 (fun k hk => hm k (h.2 k hk) (own_lt h.1 hk)), h.2⟩
theorem ColC.later {te sz B : Nat} {w w' : World} {v : Value} {n : Nat} {cs : List Value} (h : ColC te sz B w v n cs) (hf : Frm Nil w w') : ColC te sz B w' v n cs := h.move (fun k _ hk => hf.block k hk id)
theorem ColC.rd {te sz B : Nat} {w : World} {v : Value} {n : Nat} {cs : List Value} (h : ColC te sz B w v n cs) : ∃ a cap, v = .slice a n cap ∧ Rd w sz a n cs := by
 obtain ⟨a, cap, rfl⟩ := own_form h.1
 exact ⟨a, cap, rfl, Rd.of_own h.1⟩
section
variable {P : Program} {ops : Array Oper} {rest : List Oper} {o : Oper} {a : Act} {Q : Exit → Act → World → Prop}
theorem colc_app {te sz B : Nat} {w W : World} (hgd : o.guard = none) (s x : Operand) (t : TypeId) (z : Value) (bytes : Nat)
  (ho : o.op = .call { callee := .builtin .append, args := #[s, x], argTypes := #[t, t] })
  (ht : P.underlying t = some (.slice te)) (hinfo : (P.info? te).map (fun i => (i.zero, i.size, i.bytes)) = some (some z, sz, bytes)) (hz : z.cells.size = sz) (hs0 : 0 < sz)
  (v : Value) (n : Nat) (cs ys : List Value) (hs : a.eval s = v) {b0 : Nat} (hx : a.eval x = .slice (some ⟨b0, 0, none⟩) 1 1) (hb0 : b0 = W.heap.size) (hys : ys.length = sz) (h1 : ys.all Value.oneCell' = true)
  (HO : ColC te sz B W v n cs) (hf : Frm Nil w W) (hB : B = w.heap.size) (hn : n < 1000000000) (hl : bytes ≤ 1000)
  (h : ∀ v1 w1, ColC te sz B w1 v1 (n + 1) (cs ++ ys) → Frm Nil w w1 → Frm (From B) W w1 → wpList P ops Q rest (a.put o.dst v1) w1) :
  wpList P ops Q (o :: rest) a (W.alloc (.cells ys.toArray te)) := by
 subst hB
 refine app_one hgd s x t te z sz bytes ho ht hinfo hz hs0 v n cs ys hs hx hb0 hys h1 HO.1 hn hl ?_
 intro g c w1 h2 h3 h4
 refine h _ _ ⟨h2, ?_⟩ (hf.trans h3 (fun k hk hv => by have := HO.2 _ hv; omega)) (h3.mono (fun k _ hv => HO.2 _ hv))
 intro k hk
 injection hk with hk
 dsimp only at hk
 subst hk
 rcases h4 with h4 | h4
 ·exact HO.2 _ h4
 ·exact Nat.le_trans hf.size h4
end
theorem ret_int {k : IntKind} {a b : Int} (h : a = b) : Ending.returned (.int k a) = .returned (.int k b) := by rw [h]
theorem ret_bool {a b : Bool} (h : a = b) : Ending.returned (.bool a) = .returned (.bool b) := by rw [h]
end Go.Proofs.YtchkaaeoffmjnaaGreatDoor
namespace Go.Proofs.YtchkaaeoffmjnaaGreatDoor
set_option linter.unusedVariables false
set_option linter.unusedSimpArgs false
open Go.RowKit
/-- Block g is a ring of capacity size with the values L. -/
def RingAt (w : World) (S : Nat → Prop) (g size : Nat) (L : List Int) : Prop :=
 ∃ (at_ : Nat) (vs : List Int), vs.length = 4 ∧ w.heap[g]? = some (.cells ((Value.int .i64 at_ :: .int .i64 L.length :: .int .i64 size :: ints vs).toArray) 285 (0, 0)) ∧ S g ∧
  L.length ≤ size ∧ size ≤ 4 ∧ at_ ≤ 4 ∧ (0 < size → at_ < size) ∧ ∀ i (h : i < L.length), vs[(at_ + i) % size]? = some L[i]
theorem RingAt.move {w w' : World} {S : Nat → Prop} {g size : Nat} {L : List Int} (h : RingAt w S g size L) (hm : ∀ k, S k → w'.heap[k]? = w.heap[k]?) : RingAt w' S g size L := by
 obtain ⟨at_, vs, h1, h2, h3, r⟩ := h
 exact ⟨at_, vs, h1, (hm g h3).trans h2, h3, r⟩
theorem RingAt.mono {w : World} {S T : Nat → Prop} {g size : Nat} {L : List Int} (h : RingAt w S g size L) (hm : ∀ k, S k → T k) : RingAt w T g size L := by
 obtain ⟨at_, vs, h1, h2, h3, r⟩ := h
 exact ⟨at_, vs, h1, h2, hm g h3, r⟩
theorem RingAt.bound {w : World} {S : Nat → Prop} {g size : Nat} {L : List Int} (h : RingAt w S g size L) : RingAt w (fun k => S k ∧ k < w.heap.size) g size L := by
 obtain ⟨at_, vs, h1, h2, h3, r⟩ := h
 exact ⟨at_, vs, h1, h2, ⟨h3, lt_of_block h2⟩, r⟩
theorem RingAt.move' {w w' : World} {S : Nat → Prop} {g size : Nat} {L : List Int} (h : RingAt w S g size L) (hf : Frm Nil w w') : RingAt w' S g size L :=
 (h.bound.move (fun k hk => hf.block k hk.2 id)).mono (fun _ hk => hk.1)
theorem ring_set (a b c : Value) (vs : List Int) (k : Nat) (v m : Int) (hk : k < vs.length) :
  ((a :: b :: c :: ints vs).toArray.setIfInBounds (3 + k) (.int .i64 v)).setIfInBounds 1 (.int .i64 m) = (a :: .int .i64 m :: c :: ints (vs.set k v)).toArray := by
 rw [Nat.add_comm 3 k]
 simp [ints, List.map_set]
theorem mod_two {x s : Nat} (h : x < 2 * s) : x % s = if x < s then x else x - s := by
 split
 ·exact Nat.mod_eq_of_lt (by assumption)
 ·rw [Nat.mod_eq_sub_mod (by omega), Nat.mod_eq_of_lt (by omega)]
theorem mod_ne {a i n s : Nat} (ha : a < s) (hn : n < s) (hi : i < n) : (a + n) % s ≠ (a + i) % s := by
 rw [mod_two (show a + n < 2 * s by omega), mod_two (show a + i < 2 * s by omega)]
 split <;> split <;> omega
section
variable {w : World} {S : Nat → Prop} {g size : Nat} {L : List Int}
set_option maxHeartbeats 400000 in
theorem ring_new_ok (n : Nat) (hn : n ≤ 4) (w : World) : Calls Tryz.prog 167 #[.int .i64 n] w fun e w' => ∃ g, e = .returned (.tuple #[.pointer (some ⟨g, 0, none⟩), .int .i64 0]) ∧ RingAt w' (New Nil w w') g n [] ∧ Frm Nil w w' := by
 go_enter Tryz.func167, Tryz.ntmps167
 go_wp2
 go_ret2
 exact ⟨w.heap.size, rfl, ⟨0, [0, 0, 0, 0], rfl, heap_alloc_new w _, .inr ⟨Nat.le_refl _, by simp⟩, Nat.zero_le _, hn, by omega, id, fun i h => absurd h (Nat.not_lt_zero _)⟩, (Frm.refl _ _).alloc _⟩
theorem ring_cells {at_ : Nat} {vs : List Int} (hvs : vs.length = 4) (h2 : w.heap[g]? = some (.cells ((Value.int .i64 at_ :: .int .i64 L.length :: .int .i64 size :: ints vs).toArray) 285 (0, 0))) :
  w.cell? ⟨g, 0, none⟩ = some (.int .i64 at_) ∧ w.cell? ⟨g, 1, none⟩ = some (.int .i64 L.length) ∧ w.cell? ⟨g, 2, none⟩ = some (.int .i64 size) ∧ (∀ i v, vs[i]? = some v → w.cell? ⟨g, 3 + i, none⟩ = some (.int .i64 v)) ∧ ∀ i, w.frozen? ⟨g, i, none⟩ = false := by
 refine ⟨by rw [cell_of_row _ _ _ _ _ _ h2]; rfl, by rw [cell_of_row _ _ _ _ _ _ h2]; rfl, by rw [cell_of_row _ _ _ _ _ _ h2]; rfl, fun i v hv => ?_, fun i => by simp [World.frozen?, h2]⟩
 rw [cell_of_row _ _ _ _ _ _ h2]
 rw [Nat.add_comm 3 i]
 obtain ⟨hi, rfl⟩ := List.getElem?_eq_some_iff.1 hv
 simp [ints, hi]
set_option maxHeartbeats 400000 in
theorem ring_len (h : RingAt w S g size L) : Calls Tryz.prog 192 #[.pointer (some ⟨g, 0, none⟩)] w fun e w' => e = .returned (.int .i64 L.length) ∧ w = w' := by
 obtain ⟨at_, vs, h1, h2, _⟩ := h
 obtain ⟨c0, c1, c2, c3, cf⟩ := ring_cells h1 h2
 go_enter Tryz.func192, Tryz.ntmps192
 go_wp2
 go_ret
 exact ⟨rfl, rfl⟩
set_option maxHeartbeats 400000 in
theorem ring_cap (h : RingAt w S g size L) : Calls Tryz.prog 193 #[.pointer (some ⟨g, 0, none⟩)] w fun e w' => e = .returned (.int .i64 size) ∧ w = w' := by
 obtain ⟨at_, vs, h1, h2, _⟩ := h
 obtain ⟨c0, c1, c2, c3, cf⟩ := ring_cells h1 h2
 go_enter Tryz.func193, Tryz.ntmps193
 go_wp2
 go_ret
 exact ⟨rfl, rfl⟩
set_option maxHeartbeats 400000 in
theorem ring_push_ok (h : RingAt w S g size L) (hf : L.length < size) (v : Int) : Calls Tryz.prog 211 #[.pointer (some ⟨g, 0, none⟩), .int .i64 v] w fun e w' => e = .returned (.int .i64 0) ∧ RingAt w' S g size (L ++ [v]) ∧ Frm S w w' := by
 have K1 := Lib.hid (ring_len h)
 have K2 := Lib.hid (ring_cap h)
 obtain ⟨at_, vs, h1, h2, hS, h3, h4, h5, h6, h7⟩ := h
 obtain ⟨c0, c1, c2, c3, cf⟩ := ring_cells h1 h2
 obtain ⟨n, hn⟩ : ∃ n, L.length = n := ⟨_, rfl⟩
 rw [hn] at K1 c1 hf h3
 have hat := h6 (by omega)
 have hk : (at_ + n) % size < 4 := Nat.lt_of_lt_of_le (Nat.mod_lt _ (by omega)) h4
 obtain ⟨k, hkk⟩ : ∃ k, (at_ + n) % size = k := ⟨_, rfl⟩
 rw [hkk] at hk
 obtain ⟨u, hold⟩ : ∃ u, w.cell? ⟨g, 3 + k, none⟩ = some (.int .i64 u) := ⟨_, c3 k _ (List.getElem?_eq_getElem (by omega))⟩
 have hb : ((n : Int) == (size : Int)) = false := by simp; omega
 have hmod : ((at_ : Int) + (n : Int)) % (size : Int) = (k : Int) := by rw [← hkk]; simp
 have hw1 : IntKind.i64.wrap ((at_ : Int) + (n : Int)) = (at_ : Int) + (n : Int) := IntWalk.i64_in _ (by omega)
 have hmt : Int.tmod ((at_ : Int) + (n : Int)) (size : Int) = (k : Int) := by rw [Int.tmod_eq_emod_of_nonneg (by omega)]; exact hmod
 have hs0 : ((size : Int) == 0) = false := by simp; omega
 have hk4 : (k : Int) < 4 := by omega
 have hk0 : (0 : Int) ≤ (k : Int) := by omega
 have H2 := Lib.hid h2
 have H7 := Lib.hid h7
 have HN := Lib.hid hn
 have HK := Lib.hid hkk
 have H6 := Lib.hid h6
 clear c3 h2 h7 hn hkk h6
 go_enter Tryz.func211, Tryz.ntmps211
 go_wp2_with (first | (go_at_call 192; refine K1.out.mono ?_; rintro e w' ⟨rfl, rfl⟩) | (go_at_call 193; refine K2.out.mono ?_; rintro e w' ⟨rfl, rfl⟩))
 go_region
 all_goals
  go_wp2_with fail
  go_ret
  refine ⟨rfl, ?_, ((((Frm.refl S w).setCell (p := ⟨g, 3 + k, none⟩) (fun _ => hS) (.int .i64 v)).setCell (p := ⟨g, 1, none⟩) (fun _ => hS) (.int .i64 ((n : Int) + 1))).drew)⟩
  have hn := HN.out
  have hkk := HK.out
  refine ⟨at_, vs.set k v, by rw [List.length_set]; exact h1, ?_, hS, by rw [List.length_append, List.length_singleton]; omega, h4, h5, H6.out, fun i hi => ?_⟩
  ·have e1 := blk_set (blk_set H2.out (3 + k) (.int .i64 v)) 1 (.int .i64 ((n : Int) + 1))
   rw [ring_set _ _ _ _ k v _ (by rw [h1]; exact hk)] at e1
   rw [List.length_append, List.length_singleton, hn]
   exact e1
  ·rw [List.length_append, List.length_singleton] at hi
   by_cases hin : i < L.length
   ·rw [List.getElem_append_left hin, List.getElem?_set_ne (by rw [← hkk]; exact mod_ne hat hf (by omega))]
    exact H7.out i hin
   ·have : i = n := by omega
    subst this
    rw [hkk, List.getElem?_set_self (by rw [h1]; exact hk)]
    simp [← hn]
set_option maxHeartbeats 400000 in
theorem ring_at_zero {x : Int} (h : RingAt w S g size (x :: L)) : Calls Tryz.prog 225 #[.pointer (some ⟨g, 0, none⟩), .int .i64 0] w fun e w' => e = .returned (.tuple #[.int .i64 x, .int .i64 0]) ∧ ∃ n, w' = w.drewN n := by
 have K1 := Lib.hid (ring_len h)
 obtain ⟨at_, vs, h1, h2, hS, h3, h4, h5, h6, h7⟩ := h
 obtain ⟨c0, c1, c2, c3, cf⟩ := ring_cells h1 h2
 have hl : 0 < (x :: L).length := by simp
 have hat := h6 (by omega)
 have hx := h7 0 hl
 rw [Nat.add_zero, Nat.mod_eq_of_lt hat] at hx
 have hc := c3 at_ _ hx
 dsimp only [List.getElem_cons_zero] at hc
 obtain ⟨n, hn⟩ : ∃ n, (x :: L).length = n := ⟨_, rfl⟩
 rw [hn] at K1 c1 hl h3
 have ha4 : (at_ : Int) < 4 := by omega
 have hmt : Int.tmod (at_ : Int) (size : Int) = (at_ : Int) := by rw [Int.tmod_eq_emod_of_nonneg (by omega)]; exact Int.emod_eq_of_lt (by omega) (by omega)
 have hmt2 : (at_ : Int) % (size : Int) = (at_ : Int) := Int.emod_eq_of_lt (by omega) (by omega)
 have hw1 : IntKind.i64.wrap ((at_ : Int) + 0) = (at_ : Int) := by rw [Int.add_zero]; exact IntWalk.i64_in _ (by omega)
 have hs0 : ((size : Int) == 0) = false := by simp; omega
 have hs1 : 0 < (size : Int) := by omega
 have hg : decide ((n : Int) ≤ 0) = false := by simp; omega
 clear c3 h2 h7 hn h6 hx
 go_enter Tryz.func225, Tryz.ntmps225
 go_wp2_with (go_at_call 192; refine K1.out.mono ?_; rintro e w' ⟨rfl, rfl⟩)
 go_quiet (fail)
 go_wp2_with fail
 go_ret2
 exact ⟨rfl, _, rfl⟩
set_option maxHeartbeats 400000 in
theorem ring_pop {x : Int} (h : RingAt w S g size (x :: L)) : Calls Tryz.prog 214 #[.pointer (some ⟨g, 0, none⟩)] w fun e w' => e = .returned (.tuple #[.int .i64 x, .int .i64 0]) ∧ RingAt w' S g size L ∧ Frm S w w' := by
 have K1 := Lib.hid (ring_at_zero h)
 obtain ⟨at_, vs, h1, h2, hS, h3, h4, h5, h6, h7⟩ := h
 obtain ⟨c0, c1, c2, c3, cf⟩ := ring_cells h1 h2
 have hl : 0 < (x :: L).length := by simp
 have hat := h6 (by omega)
 obtain ⟨n, hn⟩ : ∃ n, L.length = n := ⟨_, rfl⟩
 have hn1 : (x :: L).length = n + 1 := by simp [hn]
 rw [hn1] at c1 h3
 obtain ⟨k, hkk⟩ : ∃ k, (at_ + 1) % size = k := ⟨_, rfl⟩
 have hks : k < size := by rw [← hkk]; exact Nat.mod_lt _ (by omega)
 have hmod : ((at_ : Int) + 1) % (size : Int) = (k : Int) := by rw [← hkk]; simp
 have hmt : Int.tmod ((at_ : Int) + 1) (size : Int) = (k : Int) := by rw [Int.tmod_eq_emod_of_nonneg (by omega)]; exact hmod
 have hs0 : ((size : Int) == 0) = false := by simp; omega
 have hs1 : 0 < (size : Int) := by omega
 have H2 := Lib.hid h2
 have H7 := Lib.hid h7
 have HN := Lib.hid hn
 have HK := Lib.hid hkk
 clear c3 h2 h7 hn hn1 h6 hkk
 go_enter Tryz.func214, Tryz.ntmps214
 go_wp2_with (go_at_call 225; refine K1.out.mono ?_; rintro e w' ⟨rfl, nq, rfl⟩)
 try go_region
 all_goals
  go_wp2_with fail
  go_ret2
  have hn := HN.out
  have hkk := HK.out
  have e1 := blk_set (blk_set H2.out 0 (.int .i64 k)) 1 (.int .i64 n)
  have f1 := ((Frm.refl S w).setCell (p := ⟨g, 0, none⟩) (fun _ => hS) (.int .i64 k)).setCell (p := ⟨g, 1, none⟩) (fun _ => hS) (.int .i64 n)
  refine ⟨rfl, ⟨k, vs, h1, ?_, hS, by omega, h4, by omega, fun _ => hks, fun i hi => ?_⟩, ⟨f1.os, f1.tape, f1.output, f1.size, f1.block⟩⟩
  ·rw [hn]
   simp only [List.setIfInBounds_toArray, List.set_cons_zero, List.set_cons_succ] at e1
   exact e1
  ·have := H7.out (i + 1) (by simp; omega)
   rw [List.getElem_cons_succ] at this
   rw [← this, ← hkk]
   congr 1
   rw [Nat.mod_add_mod]
   congr 1
   omega
end
end Go.Proofs.YtchkaaeoffmjnaaGreatDoor
namespace Go.Proofs.YtchkaaeoffmjnaaGreatDoor
set_option linter.unusedVariables false
set_option linter.unusedSimpArgs false
open Go.RowKit
structure Wtr where
 g : Int
 case_ : Int
 value : Int
 deriving DecidableEq
def Wtr.cells (x : Wtr) : List Value := [.int .i64 x.g, .int .i64 x.case_, .int .i64 x.value]
def Wtr.agg (x : Wtr) : Value := .agg #[.int .i64 x.g, .int .i64 x.case_, .int .i64 x.value]
def ptrOf (b : Option Nat) : Value := .pointer (b.map fun b => ⟨b, 0, none⟩)
def seatRow (x : Wtr) (next : Option Nat) : Obj := .cells #[.int .i64 x.g, .int .i64 x.case_, .int .i64 x.value, ptrOf next] 301 (0, 0)
theorem seatRow_inj {x y : Wtr} {a b : Option Nat} (h : seatRow x a = seatRow y b) : x = y := by
 obtain ⟨x1, x2, x3⟩ := x
 obtain ⟨y1, y2, y3⟩ := y
 simp only [seatRow, Obj.cells.injEq, Array.mk.injEq, List.cons.injEq, Value.int.injEq, true_and, and_true] at h
 obtain ⟨h1, h2, h3, _⟩ := h
 rw [h1, h2, h3]
/-- The blocks bs are linked seats with the waiters L. -/
def SeatsAt (w : World) (bs : List Nat) (L : List Wtr) : Prop :=
 bs.length = L.length ∧ ∀ i (h : i < L.length) (h' : i < bs.length), w.heap[bs[i]]? = some (seatRow L[i] bs[i + 1]?)
/-- Block p is a pew in which L wait. -/
def PewAt (w : World) (S : Nat → Prop) (p : Nat) (L : List Wtr) : Prop :=
 ∃ bs : List Nat, SeatsAt w bs L ∧ bs.Nodup ∧ p ∉ bs ∧ (∀ b ∈ bs, S b) ∧ S p ∧
  w.heap[p]? = some (.cells #[ptrOf bs.head?, ptrOf bs.getLast?, .int .i64 L.length] 275 (0, 0))
theorem SeatsAt.move {w w' : World} {bs : List Nat} {L : List Wtr} (h : SeatsAt w bs L) (hm : ∀ b ∈ bs, w'.heap[b]? = w.heap[b]?) : SeatsAt w' bs L :=
 ⟨h.1, fun i hi hb => (hm _ (List.getElem_mem hb)).trans (h.2 i hi hb)⟩
theorem SeatsAt.lt {w : World} {bs : List Nat} {L : List Wtr} (h : SeatsAt w bs L) : ∀ b ∈ bs, b < w.heap.size := by
 intro b hb
 obtain ⟨i, hi, rfl⟩ := List.getElem_of_mem hb
 exact lt_of_block (h.2 i (by rw [← h.1]; exact hi) hi)
theorem PewAt.move {w w' : World} {S : Nat → Prop} {p : Nat} {L : List Wtr} (h : PewAt w S p L) (hm : ∀ k, S k → w'.heap[k]? = w.heap[k]?) : PewAt w' S p L := by
 obtain ⟨bs, h1, h2, h3, h4, h5, h6⟩ := h
 exact ⟨bs, h1.move (fun b hb => hm b (h4 b hb)), h2, h3, h4, h5, (hm p h5).trans h6⟩
theorem PewAt.mono {w : World} {S T : Nat → Prop} {p : Nat} {L : List Wtr} (h : PewAt w S p L) (hm : ∀ k, S k → T k) : PewAt w T p L := by
 obtain ⟨bs, h1, h2, h3, h4, h5, h6⟩ := h
 exact ⟨bs, h1, h2, h3, fun b hb => hm b (h4 b hb), hm p h5, h6⟩
theorem PewAt.bound {w : World} {S : Nat → Prop} {p : Nat} {L : List Wtr} (h : PewAt w S p L) : PewAt w (fun k => S k ∧ k < w.heap.size) p L := by
 obtain ⟨bs, h1, h2, h3, h4, h5, h6⟩ := h
 exact ⟨bs, h1, h2, h3, fun b hb => ⟨h4 b hb, h1.lt b hb⟩, ⟨h5, lt_of_block h6⟩, h6⟩
theorem PewAt.move' {w w' : World} {S : Nat → Prop} {p : Nat} {L : List Wtr} (h : PewAt w S p L) (hf : Frm Nil w w') : PewAt w' S p L :=
 (h.bound.move (fun k hk => hf.block k hk.2 id)).mono (fun _ hk => hk.1)
section
variable {w : World} {S : Nat → Prop} {p : Nat} {L : List Wtr}
theorem heap_old2 {w : World} {g : Nat} {o : Obj} (a b : Obj) (h : w.heap[g]? = some o) : ((w.alloc a).alloc b).heap[g]? = some o :=
 (Below.heap_alloc _ _ _ (by have := lt_of_block h; simp; omega)).trans ((Below.heap_alloc _ _ _ (lt_of_block h)).trans h)
theorem heap_new2 {w : World} (a b : Obj) : ((w.alloc a).alloc b).heap[w.heap.size + 1]? = some b := by
 have := heap_alloc_new (w.alloc a) b
 rwa [show (w.alloc a).heap.size = w.heap.size + 1 by simp] at this
theorem heap_new2' {w : World} (a b : Obj) {k : Nat} (hk : k = w.heap.size + 1) : ((w.alloc a).alloc b).heap[k]? = some b := by
 rw [hk]
 exact heap_new2 a b
theorem pew_cells {a b c : Value} {t : Nat} (h : w.heap[p]? = some (.cells #[a, b, c] t (0, 0))) :
  w.cell? ⟨p, 0, none⟩ = some a ∧ w.cell? ⟨p, 1, none⟩ = some b ∧ w.cell? ⟨p, 2, none⟩ = some c ∧ (∀ i, w.frozen? ⟨p, i, none⟩ = false) :=
 ⟨by rw [cell_of_row _ _ _ _ _ _ h]; rfl, by rw [cell_of_row _ _ _ _ _ _ h]; rfl, by rw [cell_of_row _ _ _ _ _ _ h]; rfl, fun i => by simp [World.frozen?, h]⟩
theorem seat_cells {b : Nat} {x : Wtr} {n : Option Nat} (h : w.heap[b]? = some (seatRow x n)) :
  w.cell? ⟨b, 0, none⟩ = some (.int .i64 x.g) ∧ w.cell? ⟨b, 1, none⟩ = some (.int .i64 x.case_) ∧ w.cell? ⟨b, 2, none⟩ = some (.int .i64 x.value) ∧ w.cell? ⟨b, 3, none⟩ = some (ptrOf n) ∧ (∀ i, w.frozen? ⟨b, i, none⟩ = false) := by
 unfold seatRow at h
 exact ⟨by rw [cell_of_row _ _ _ _ _ _ h]; rfl, by rw [cell_of_row _ _ _ _ _ _ h]; rfl, by rw [cell_of_row _ _ _ _ _ _ h]; rfl, by rw [cell_of_row _ _ _ _ _ _ h]; rfl, fun i => by simp [World.frozen?, h]⟩
set_option maxHeartbeats 400000 in
theorem pew_new (w : World) : Calls Tryz.prog 168 #[] w fun e w' => ∃ p, e = .returned (.pointer (some ⟨p, 0, none⟩)) ∧ PewAt w' (New Nil w w') p [] ∧ Frm Nil w w' := by
 go_enter Tryz.func168, Tryz.ntmps168
 go_wp2
 go_ret
 exact ⟨w.heap.size, rfl, ⟨[], ⟨rfl, fun i h => absurd h (Nat.not_lt_zero _)⟩, List.nodup_nil, by simp, by simp, .inr ⟨Nat.le_refl _, by simp⟩, heap_alloc_new w _⟩, (Frm.refl _ _).alloc _⟩
set_option maxHeartbeats 400000 in
theorem pew_len (h : PewAt w S p L) : Calls Tryz.prog 155 #[.pointer (some ⟨p, 0, none⟩)] w fun e w' => e = .returned (.int .i64 L.length) ∧ w = w' := by
 obtain ⟨bs, _, _, _, _, _, h6⟩ := h
 obtain ⟨_, _, c2, _⟩ := pew_cells h6
 go_enter Tryz.func155, Tryz.ntmps155
 go_wp2
 go_ret
 exact ⟨rfl, rfl⟩
set_option maxHeartbeats 400000 in
theorem pew_len_nil (w : World) : Calls Tryz.prog 155 #[.pointer none] w fun e w' => e = .returned (.int .i64 0) ∧ w = w' := by
 go_enter Tryz.func155, Tryz.ntmps155
 go_wp2
 go_ret
 exact ⟨rfl, rfl⟩
/-- What Add answers. -/
def addF (L : List Wtr) (x : Wtr) : Int × List Wtr := if x.g < 0 ∨ x.case_ < -1 then (1, L) else if L.length = 1024 then (5, L) else (0, L ++ [x])
theorem seats_snoc {w w' : World} {bs : List Nat} {L : List Wtr} {b : Nat} {x : Wtr} (h : SeatsAt w bs L) (hn : bs.Nodup) (hb : b ∉ bs)
  (hnew : w'.heap[b]? = some (seatRow x none)) (hlast : ∀ l, bs.getLast? = some l → ∀ y, w.heap[l]? = some (seatRow y none) → w'.heap[l]? = some (seatRow y (some b)))
  (hold : ∀ k ∈ bs, bs.getLast? ≠ some k → w'.heap[k]? = w.heap[k]?) : SeatsAt w' (bs ++ [b]) (L ++ [x]) := by
 refine ⟨by simp [h.1], fun i hi hi' => ?_⟩
 by_cases hlt : i < L.length
 ·have hbl : i < bs.length := by rw [h.1]; exact hlt
  rw [List.getElem_append_left hlt, List.getElem_append_left hbl]
  have h0 := h.2 i hlt hbl
  by_cases he : i + 1 < bs.length
  ·rw [List.getElem?_append_left he]
   rw [hold _ (List.getElem_mem hbl) (fun hl => ?_)]
   ·exact h0
   ·rw [List.getLast?_eq_getElem?, List.getElem?_eq_getElem (by omega)] at hl
    injection hl with hl
    have := (List.getElem_inj hn).1 hl
    omega
  ·have hle : bs.getLast? = some bs[i] := by
    rw [List.getLast?_eq_getElem?, List.getElem?_eq_getElem (by omega)]
    congr 2
    omega
   rw [List.getElem?_eq_none (by omega)] at h0
   rw [List.getElem?_append_right (by omega), show i + 1 - bs.length = 0 by omega]
   exact hlast _ hle _ h0
 ·have hil : i = L.length := by simp at hi; omega
  subst hil
  rw [List.getElem_append_right (Nat.le_refl _), List.getElem_append_right (by rw [h.1]; exact Nat.le_refl _)]
  simp only [h.1, Nat.sub_self, List.getElem_cons_zero]
  rw [List.getElem?_eq_none (by simp [h.1])]
  exact hnew
set_option maxHeartbeats 400000 in
theorem pew_add_arg (q : Option Addr) (x : Wtr) (hx : x.g < 0 ∨ x.case_ < -1) (w : World) : Calls Tryz.prog 199 #[.pointer q, x.agg] w fun e w' => e = .returned (.int .i64 1) ∧ Frm Nil w w' := by
 obtain ⟨g, c, v⟩ := x
 dsimp only at hx
 unfold Wtr.agg
 dsimp only
 rcases Int.lt_or_le g 0 with hg | hg
 ·go_enter Tryz.func199, Tryz.ntmps199
  go_wp2
  go_ret
  exact ⟨rfl, (Frm.refl _ _).alloc _⟩
 ·have hc : c < -1 := by omega
  clear hx
  go_enter Tryz.func199, Tryz.ntmps199
  go_wp2
  go_ret
  exact ⟨rfl, (Frm.refl _ _).alloc _⟩
set_option maxHeartbeats 400000 in
theorem pew_add_full (h : PewAt w S p L) (hL : L.length = 1024) (x : Wtr) (h0 : 0 ≤ x.g) (h1 : -1 ≤ x.case_) : Calls Tryz.prog 199 #[.pointer (some ⟨p, 0, none⟩), x.agg] w fun e w' => e = .returned (.int .i64 5) ∧ Frm Nil w w' := by
 obtain ⟨bs, hs, hn, hp, hb, hS, h6⟩ := h
 have hpl := lt_of_block h6
 obtain ⟨c0, c1, c2, cf⟩ := pew_cells h6
 rw [hL] at c2
 clear hL h6
 obtain ⟨g, cs, v⟩ := x
 dsimp only at h0 h1
 unfold Wtr.agg
 dsimp only
 go_enter Tryz.func199, Tryz.ntmps199
 go_wp2
 go_ret
 exact ⟨rfl, (Frm.refl _ _).alloc _⟩
set_option maxHeartbeats 400000 in
theorem pew_add_ok (h : PewAt w S p L) (hL : L.length < 1024) (x : Wtr) (h0 : 0 ≤ x.g) (h1 : -1 ≤ x.case_) : Calls Tryz.prog 199 #[.pointer (some ⟨p, 0, none⟩), x.agg] w
  fun e w' => e = .returned (.int .i64 0) ∧ PewAt w' (New S w w') p (L ++ [x]) ∧ Frm S w w' := by
 obtain ⟨bs, hs, hn, hp, hb, hS, h6⟩ := h
 have hpl := lt_of_block h6
 obtain ⟨c0, c1, c2, cf⟩ := pew_cells h6
 obtain ⟨g, cs, v⟩ := x
 dsimp only at h0 h1
 unfold Wtr.agg
 dsimp only
 obtain ⟨n, hnL⟩ : ∃ n, L.length = n := ⟨_, rfl⟩
 rw [hnL] at c2 hL h6
 have hn0 : ((n : Int) == 1024) = false := by simp; omega
 have HN := Lib.hid hnL
 have HS := Lib.hid hs
 have H6 := Lib.hid h6
 clear hnL hs h6
 rcases bs with _ | ⟨b0, bs⟩
 ·have hc1 : w.cell? ⟨p, 1, none⟩ = some (.pointer none) := c1
  have hc0 : w.cell? ⟨p, 0, none⟩ = some (.pointer none) := c0
  clear c0 c1
  go_enter Tryz.func199, Tryz.ntmps199
  go_wp2
  go_ret
  refine ⟨rfl, ?_, ?_⟩
  ·have hs := HS.out
   have hL0 : L = [] := List.eq_nil_of_length_eq_zero hs.1.symm
   subst hL0
   have hn := HN.out
   subst hn
   have e0 := H6.out
   have e2 := heap_old2 (.cells #[.int .i64 g, .int .i64 cs, .int .i64 v] 225) (.cells #[.int .i64 g, .int .i64 cs, .int .i64 v, .pointer none] 301) (blk_set (blk_set (blk_set e0 0 (.pointer (some ⟨w.heap.size + 1, 0, none⟩))) 1 (.pointer (some ⟨w.heap.size + 1, 0, none⟩))) 2 (.int .i64 ((0 : Int) + 1)))
   refine ⟨[w.heap.size + 1], ⟨rfl, fun i hi hi' => ?_⟩, by simp, by simp; omega, fun b hb => ?_, .inl hS, e2⟩
   ·have hi0 : i = 0 := by simp at hi; omega
    subst hi0
    exact heap_new2' _ _ (by simp [World.setCell])
   ·rw [List.mem_singleton] at hb
    subst hb
    exact .inr ⟨Nat.le_succ _, by simp [World.setCell]⟩
  ·exact (((((Frm.refl S w).setCell (p := ⟨p, 0, none⟩) (fun _ => hS) _).setCell (p := ⟨p, 1, none⟩) (fun _ => hS) _).setCell (p := ⟨p, 2, none⟩) (fun _ => hS) _).alloc _).alloc _
 ·obtain ⟨l, hl⟩ : ∃ l, (b0 :: bs).getLast? = some l := ⟨_, List.getLast?_eq_some_getLast (by simp)⟩
  have hlm : l ∈ b0 :: bs := List.mem_of_getLast? hl
  have hc1 : w.cell? ⟨p, 1, none⟩ = some (.pointer (some ⟨l, 0, none⟩)) := by rw [c1, hl]; rfl
  have hll := HS.out.lt l hlm
  have hlp : l ≠ p := fun h => hp (h ▸ hlm)
  have hlp' : p ≠ l := fun h => hp (h ▸ hlm)
  obtain ⟨y, hy⟩ : ∃ y, w.heap[l]? = some (seatRow y none) := by
   have h1 := HS.out
   rw [List.getLast?_eq_getElem?] at hl
   obtain ⟨hi, hl⟩ := List.getElem?_eq_some_iff.1 hl
   have h2 := h1.2 _ (by rw [← h1.1]; exact hi) hi
   rw [hl, List.getElem?_eq_none (by simp)] at h2
   exact ⟨_, h2⟩
  obtain ⟨_, _, _, d3, df⟩ := seat_cells hy
  have d3' : w.cell? ⟨l, 3, none⟩ = some (.pointer none) := d3
  have HL := Lib.hid hl
  have HY := Lib.hid hy
  clear c0 c1 d3 hl hy
  have HW3 : Hid (∃ W3, ((w.setCell ⟨l, 3, none⟩ (.pointer (some ⟨w.heap.size + 1, 0, none⟩))).setCell ⟨p, 1, none⟩ (.pointer (some ⟨w.heap.size + 1, 0, none⟩))).setCell ⟨p, 2, none⟩ (.int .i64 ((n : Int) + 1)) = W3 ∧
    W3.heap.size = w.heap.size ∧ Frm S w W3 ∧ W3.heap[l]? = some (seatRow y (some (w.heap.size + 1))) ∧ (∀ k, k ≠ l → k ≠ p → W3.heap[k]? = w.heap[k]?) ∧
    W3.heap[p]? = some (.cells #[ptrOf (some b0), ptrOf (some (w.heap.size + 1)), .int .i64 ((n : Int) + 1)] 275 (0, 0))) := by
   refine ⟨_, rfl, by simp [World.setCell], ?_, ?_, ?_, ?_⟩
   ·exact (((Frm.refl S w).setCell (p := ⟨l, 3, none⟩) (fun _ => hb l hlm) _).setCell (p := ⟨p, 1, none⟩) (fun _ => hS) _).setCell (p := ⟨p, 2, none⟩) (fun _ => hS) _
   ·exact blk_far (blk_far (blk_set (show w.heap[l]? = some (Obj.cells _ _ (0, 0)) from HY.out) 3 (.pointer (some ⟨w.heap.size + 1, 0, none⟩))) (p := ⟨p, 1, none⟩) hlp (.pointer (some ⟨w.heap.size + 1, 0, none⟩))) (p := ⟨p, 2, none⟩) hlp (.int .i64 ((n : Int) + 1))
   ·intro k hkl hkp
    rw [Below.heap_setCell _ _ _ _ hkp, Below.heap_setCell _ _ _ _ hkp, Below.heap_setCell _ _ _ _ hkl]
   ·exact blk_set (blk_set (blk_far H6.out (p := ⟨l, 3, none⟩) hlp' (.pointer (some ⟨w.heap.size + 1, 0, none⟩))) 1 (.pointer (some ⟨w.heap.size + 1, 0, none⟩))) 2 (.int .i64 ((n : Int) + 1))
  go_enter Tryz.func199, Tryz.ntmps199
  go_wp2
  go_ret
  obtain ⟨W3, hW, hsz, hfr, hWl, hWk, hWp⟩ := HW3.out
  rw [hW]
  clear hW HW3
  have hs := HS.out
  have hn0 := HN.out
  subst hn0
  have hnew : ((W3.alloc (.cells #[.int .i64 g, .int .i64 cs, .int .i64 v] 225)).alloc (.cells #[.int .i64 g, .int .i64 cs, .int .i64 v, .pointer none] 301)).heap[w.heap.size + 1]? = some (seatRow ⟨g, cs, v⟩ none) := heap_new2' _ _ (by rw [hsz])
  refine ⟨rfl, ⟨(b0 :: bs) ++ [w.heap.size + 1], ?_, ?_, ?_, fun b hb' => ?_, .inl hS, ?_⟩, (hfr.alloc _).alloc _⟩
  ·refine seats_snoc hs hn (fun hm => by have := hs.lt _ hm; omega) hnew (fun l' hl' z hz => ?_) (fun k hk hne => ?_)
   ·rw [HL.out] at hl'
    injection hl' with hl'
    subst hl'
    rw [HY.out] at hz
    injection hz with hz
    have hyz : y = z := seatRow_inj hz
    subst hyz
    exact heap_old2 _ _ hWl
   ·have hkp : k ≠ p := fun h => hp (h ▸ hk)
    have hkl : k ≠ l := fun h => hne (by rw [h]; exact HL.out)
    have hkw := hs.lt k hk
    exact ((Below.heap_alloc _ _ _ (by simp; omega)).trans (Below.heap_alloc _ _ _ (by omega))).trans (hWk k hkl hkp)
  ·rw [List.nodup_append]
   exact ⟨hn, by simp, fun a ha b hb' => by rw [List.mem_singleton] at hb'; subst hb'; have := hs.lt a ha; omega⟩
  ·intro hm
   rcases List.mem_append.1 hm with hm | hm
   ·exact hp hm
   ·rw [List.mem_singleton] at hm
    omega
  ·rcases List.mem_append.1 hb' with hm | hm
   ·exact .inl (hb b hm)
   ·rw [List.mem_singleton] at hm
    subst hm
    exact .inr ⟨Nat.le_succ _, by simp [hsz]⟩
  ·have e2 := heap_old2 (.cells #[.int .i64 g, .int .i64 cs, .int .i64 v] 225) (.cells #[.int .i64 g, .int .i64 cs, .int .i64 v, .pointer none] 301) hWp
   rw [List.getLast?_append, List.length_append]
   exact e2
end
end Go.Proofs.YtchkaaeoffmjnaaGreatDoor
namespace Go.Proofs.YtchkaaeoffmjnaaGreatDoor
set_option linter.unusedVariables false
set_option linter.unusedSimpArgs false
open Go.RowKit
theorem SeatsAt.tail {w : World} {b : Nat} {bs : List Nat} {x : Wtr} {L : List Wtr} (h : SeatsAt w (b :: bs) (x :: L)) : SeatsAt w bs L :=
 ⟨by have := h.1; simpa using this, fun i hi hi' => h.2 (i + 1) (by simp; exact hi) (by simp; exact hi')⟩
def sliceLen : Value → Nat | .slice _ n _ => n | _ => 0
def wzero : Wtr := ⟨0, 0, 0⟩
section
variable {w : World} {S : Nat → Prop} {p : Nat} {L : List Wtr}
/-- What Len answers in whatever world behind w. -/
def LenIs (w : World) (q : Option Addr) (n : Int) : Prop := ∀ w', Frm Nil w w' → Calls Tryz.prog 155 #[.pointer q] w' fun e w2 => e = .returned (.int .i64 n) ∧ w' = w2
theorem len_is (h : PewAt w S p L) : LenIs w (some ⟨p, 0, none⟩) L.length := fun w' f => pew_len (h.move' f)
set_option maxHeartbeats 400000 in
theorem pew_first_none {q : Option Addr} (hl : LenIs w q 0) :
  Calls Tryz.prog 224 #[.pointer q] w fun e w' => e = .returned (.tuple #[wzero.agg, .bool false]) ∧ Frm Nil w w' := by
 go_enter Tryz.func224, Tryz.ntmps224
 go_wp2_with (go_at_call 155; refine (hl _ (by repeat (first | exact Frm.refl _ _ | apply Frm.drewN | apply Frm.drew | apply Frm.alloc | (refine Frm.then ?_ (by assumption))))).mono ?_; rintro e w' ⟨rfl, rfl⟩)
 exact bodyPost_ret (v := .tuple #[.agg #[.int .i64 0, .int .i64 0, .int .i64 0], .bool false]) (by simp [results, Tryz.results224, go_sem]) rfl ⟨rfl, (by repeat (first | exact Frm.refl _ _ | apply Frm.drewN | apply Frm.drew | apply Frm.alloc | (refine Frm.then ?_ (by assumption))))⟩
set_option maxHeartbeats 400000 in
theorem pew_first {x : Wtr} (h : PewAt w S p (x :: L)) :
  Calls Tryz.prog 224 #[.pointer (some ⟨p, 0, none⟩)] w fun e w' => e = .returned (.tuple #[x.agg, .bool true]) ∧ Frm Nil w w' := by
 have K1 := len_is h
 obtain ⟨bs, hs, hn, hp, hb, hS, h6⟩ := h
 obtain ⟨c0, c1, c2, cf⟩ := pew_cells h6
 rcases bs with _ | ⟨b0, bs⟩
 ·have := hs.1; simp at this
 have hs0 := hs.2 0 (by simp) (by simp)
 obtain ⟨d0, d1, d2, d3, df⟩ := seat_cells hs0
 have hc0 : w.cell? ⟨p, 0, none⟩ = some (.pointer (some ⟨b0, 0, none⟩)) := c0
 have hbl := hs.lt b0 (by simp)
 have hpl := lt_of_block h6
 obtain ⟨g, cs, v⟩ := x
 simp only [List.getElem_cons_zero] at d0 d1 d2
 obtain ⟨n, hnn⟩ : ∃ n, ((⟨g, cs, v⟩ : Wtr) :: L).length = n := ⟨_, rfl⟩
 rw [hnn] at K1
 have hn1 : ((n : Int) == 0) = false := by
  have : n ≠ 0 := by rw [← hnn]; simp
  simpa using this
 unfold Wtr.agg
 dsimp only
 clear c0 c1 c2 d3 hs0 hs hnn h6
 go_enter Tryz.func224, Tryz.ntmps224
 go_wp2_with (go_at_call 155; refine (K1 _ (by repeat (first | exact Frm.refl _ _ | apply Frm.drewN | apply Frm.drew | apply Frm.alloc | (refine Frm.then ?_ (by assumption))))).mono ?_; rintro e w' ⟨rfl, rfl⟩)
 exact bodyPost_ret (v := .tuple #[.agg #[.int .i64 g, .int .i64 cs, .int .i64 v], .bool true]) (by simp [results, Tryz.results224, go_sem]) rfl ⟨rfl, (by repeat (first | exact Frm.refl _ _ | apply Frm.drewN | apply Frm.drew | apply Frm.alloc | (refine Frm.then ?_ (by assumption))))⟩
set_option maxHeartbeats 400000 in
theorem pew_take_none (h : PewAt w S p []) :
  Calls Tryz.prog 210 #[.pointer (some ⟨p, 0, none⟩)] w fun e w' => e = .returned (.tuple #[wzero.agg, .bool false]) ∧ PewAt w' (New S w w') p [] ∧ Frm S w w' := by
 go_enter Tryz.func210, Tryz.ntmps210
 go_wp2_with fail
 refine (pew_first_none (fun w' f => len_is h w' (Frm.then (by repeat (first | exact Frm.refl _ _ | apply Frm.drewN | apply Frm.drew | apply Frm.alloc | (refine Frm.then ?_ (by assumption)))) f))).mono ?_
 rintro e w1 ⟨rfl, f1⟩
 unfold wzero Wtr.agg
 dsimp only
 have rb := box_at f1 id
 have rl := lt_of_block rb
 have h1 := h.move' (Frm.then (Frm.alloc (Frm.refl Nil w) _) f1)
 have fw := Frm.then (Frm.alloc (Frm.refl Nil w) _) f1
 obtain ⟨r, hr⟩ : ∃ r, w.heap.size = r := ⟨_, rfl⟩
 rw [hr] at rb rl ⊢
 have r0 : w1.cell? ⟨r, 0, none⟩ = some (.int .i64 0) := row_cell rb 0 rfl
 have r1 : w1.cell? ⟨r, 1, none⟩ = some (.int .i64 0) := row_cell rb 1 rfl
 have r2 : w1.cell? ⟨r, 2, none⟩ = some (.int .i64 0) := row_cell rb 2 rfl
 have rf := row_free rb
 have HR := Lib.hid hr
 clear hr
 go_wp2_with fail
 refine bodyPost_ret (v := .tuple #[.agg #[.int .i64 0, .int .i64 0, .int .i64 0], .bool false]) (by simp [results, Tryz.results210, go_sem, r0, r1, r2, rl]) rfl ?_
 have HW : Hid (∃ W, ((w1.setCell ⟨r, 0, none⟩ (.int .i64 0)).setCell ⟨r, 1, none⟩ (.int .i64 0)).setCell ⟨r, 2, none⟩ (.int .i64 0) = W ∧ Frm (fun k => k = r) w1 W) := by
  have f0 : Frm (fun k => k = r) w1 w1 := Frm.refl _ _
  exact ⟨_, rfl, ((f0.setCell (p := ⟨r, 0, none⟩) (fun _ => rfl) (.int .i64 0)).setCell (p := ⟨r, 1, none⟩) (fun _ => rfl) (.int .i64 0)).setCell (p := ⟨r, 2, none⟩) (fun _ => rfl) (.int .i64 0)⟩
 obtain ⟨W, hW, hfr⟩ := HW.out
 rw [hW]
 clear hW HW
 have hbd := h.bound
 have hfw : Frm Nil w W := fw.trans hfr (fun x hx e => by have := HR.out; omega)
 exact ⟨rfl, (h.move' (hfw.alloc _)).mono (fun k hk => .inl hk), (hfw.alloc _).nil⟩
set_option maxHeartbeats 400000 in
theorem pew_take {x : Wtr} (h : PewAt w S p (x :: L)) (hLn : L.length < 1000000) :
  Calls Tryz.prog 210 #[.pointer (some ⟨p, 0, none⟩)] w fun e w' => e = .returned (.tuple #[x.agg, .bool true]) ∧ PewAt w' (New S w w') p L ∧ Frm S w w' := by
 obtain ⟨g, cs, v⟩ := x
 unfold Wtr.agg
 dsimp only
 go_enter Tryz.func210, Tryz.ntmps210
 go_wp2_with fail
 refine (pew_first (h.move' (by repeat (first | exact Frm.refl _ _ | apply Frm.drewN | apply Frm.drew | apply Frm.alloc | (refine Frm.then ?_ (by assumption)))))).mono ?_
 rintro e w1 ⟨rfl, f1⟩
 unfold Wtr.agg
 dsimp only
 have rb := box_at f1 id
 have rl := lt_of_block rb
 have fw := Frm.then (Frm.alloc (Frm.refl Nil w) _) f1
 obtain ⟨bs, hs', hn, hp, hb, hS, h6'⟩ := h
 have hs := hs'.move (fun b hb => fw.block b (hs'.lt b hb) id)
 have h6 := fw.blk h6' id
 have hpr := lt_of_block h6'
 have hbr := hs'.lt
 clear hs' h6'
 obtain ⟨r, hr⟩ : ∃ r, w.heap.size = r := ⟨_, rfl⟩
 rw [hr] at rb rl hpr hbr ⊢
 have r0 : w1.cell? ⟨r, 0, none⟩ = some (.int .i64 0) := row_cell rb 0 rfl
 have r1 : w1.cell? ⟨r, 1, none⟩ = some (.int .i64 0) := row_cell rb 1 rfl
 have r2 : w1.cell? ⟨r, 2, none⟩ = some (.int .i64 0) := row_cell rb 2 rfl
 have rf := row_free rb
 have HR := Lib.hid hr
 clear hr
 obtain ⟨c0, c1, c2, cf⟩ := pew_cells h6
 rcases bs with _ | ⟨b0, bs⟩
 ·have := hs.1; simp at this
 have hs0 := hs.2 0 (by simp) (by simp)
 obtain ⟨d0, d1, d2, d3, df⟩ := seat_cells hs0
 have hc0 : w1.cell? ⟨p, 0, none⟩ = some (.pointer (some ⟨b0, 0, none⟩)) := c0
 have hbl := hs.lt b0 (by simp)
 have hpl := lt_of_block h6
 have hbr0 := hbr b0 (by simp)
 have n1 : p ≠ r := by omega
 have n2 : b0 ≠ r := by omega
 have n3 : p ≠ b0 := fun h => hp (by rw [h]; simp)
 have n1' : r ≠ p := by omega
 have n2' : r ≠ b0 := by omega
 have n3' : b0 ≠ p := fun h => n3 h.symm
 simp only [List.getElem_cons_zero] at d0 d1 d2 d3
 simp only [List.length_cons] at c2
 obtain ⟨n, hnn⟩ : ∃ n, L.length = n := ⟨_, rfl⟩
 rw [hnn] at c2
 have hc2 : w1.cell? ⟨p, 2, none⟩ = some (.int .i64 ((n : Int) + 1)) := by rw [c2]; simp
 have hnm : n < 9223372036854775807 := by omega
 have HN := Lib.hid hnn
 have HS := Lib.hid hs
 have H6 := Lib.hid h6
 have HBR := Lib.hid hbr
 clear c0 c2 hs h6 hs0 hnn hbr
 rcases bs with _ | ⟨b1, bs⟩
 ·have d3' : w1.cell? ⟨b0, 3, none⟩ = some (.pointer none) := d3
  clear d3
  have HW : Hid (∃ W, (((((w1.setCell ⟨p, 0, none⟩ (.pointer none)).setCell ⟨p, 2, none⟩ (.int .i64 (n : Int))).setCell ⟨p, 1, none⟩ (.pointer none)).setCell ⟨r, 0, none⟩ (.int .i64 g)).setCell ⟨r, 1, none⟩ (.int .i64 cs)).setCell ⟨r, 2, none⟩ (.int .i64 v) = W ∧ W.heap.size = w1.heap.size ∧ Frm S w W ∧ (∀ k, k ≠ p → k ≠ r → W.heap[k]? = w1.heap[k]?) ∧
    W.heap[p]? = some (.cells #[ptrOf none, ptrOf none, .int .i64 (n : Int)] 275 (0, 0))) :=
   ⟨_, rfl, by simp [World.setCell], ((((((fw.nil (S := S)).setCell (p := ⟨p, 0, none⟩) (fun _ => hS) (.pointer none)).setCell (p := ⟨p, 2, none⟩) (fun _ => hS) (.int .i64 (n : Int))).setCell (p := ⟨p, 1, none⟩) (fun _ => hS) (.pointer none)).setCell (p := ⟨r, 0, none⟩) (fun h => absurd h (by rw [HR.out]; exact Nat.lt_irrefl r)) (.int .i64 g)).setCell (p := ⟨r, 1, none⟩) (fun h => absurd h (by rw [HR.out]; exact Nat.lt_irrefl r)) (.int .i64 cs)).setCell (p := ⟨r, 2, none⟩) (fun h => absurd h (by rw [HR.out]; exact Nat.lt_irrefl r)) (.int .i64 v), fun k hkp hkr => by rw [Below.heap_setCell _ _ _ _ hkr, Below.heap_setCell _ _ _ _ hkr, Below.heap_setCell _ _ _ _ hkr, Below.heap_setCell _ _ _ _ hkp, Below.heap_setCell _ _ _ _ hkp, Below.heap_setCell _ _ _ _ hkp], (blk_far (blk_far (blk_far (blk_set (blk_set (blk_set H6.out 0 (.pointer none)) 2 (.int .i64 (n : Int))) 1 (.pointer none)) (p := ⟨r, 0, none⟩) n1 (.int .i64 g)) (p := ⟨r, 1, none⟩) n1 (.int .i64 cs)) (p := ⟨r, 2, none⟩) n1 (.int .i64 v))⟩
  go_wp2_with fail
  refine bodyPost_ret (v := .tuple #[.agg #[.int .i64 g, .int .i64 cs, .int .i64 v], .bool true]) (by simp [results, Tryz.results210, go_sem, r0, r1, r2, rl, n1, n1']) rfl ?_
  obtain ⟨W, hW, hsz, hfr, hWk, hWp⟩ := HW.out
  rw [hW]
  clear hW HW
  have hn0 := HN.out
  have ht := HS.out.tail
  refine ⟨rfl, ⟨[], ht.move (fun b hb' => ?_), (List.nodup_cons.1 hn).2, fun hm => hp (List.mem_cons_of_mem _ hm), fun b hb' => .inl (hb b (List.mem_cons_of_mem _ hb')), .inl hS, ?_⟩, hfr.alloc _⟩
  ·have hbl := ht.lt b hb'
   exact (Below.heap_alloc _ _ _ (by rw [hsz]; exact hbl)).trans (hWk b (fun h => hp (by rw [← h]; exact List.mem_cons_of_mem _ hb')) (fun h => by have := HBR.out b (List.mem_cons_of_mem _ hb'); omega))
  ·refine (Below.heap_alloc _ _ _ (by rw [hsz]; exact hpl)).trans ?_
   rw [hWp, hn0]
   rfl
 ·have d3' : w1.cell? ⟨b0, 3, none⟩ = some (.pointer (some ⟨b1, 0, none⟩)) := d3
  clear d3
  have HW : Hid (∃ W, ((((w1.setCell ⟨p, 0, none⟩ (.pointer (some ⟨b1, 0, none⟩))).setCell ⟨p, 2, none⟩ (.int .i64 (n : Int))).setCell ⟨r, 0, none⟩ (.int .i64 g)).setCell ⟨r, 1, none⟩ (.int .i64 cs)).setCell ⟨r, 2, none⟩ (.int .i64 v) = W ∧ W.heap.size = w1.heap.size ∧ Frm S w W ∧ (∀ k, k ≠ p → k ≠ r → W.heap[k]? = w1.heap[k]?) ∧
    W.heap[p]? = some (.cells #[ptrOf (some b1), ptrOf (b0 :: b1 :: bs).getLast?, .int .i64 (n : Int)] 275 (0, 0))) :=
   ⟨_, rfl, by simp [World.setCell], (((((fw.nil (S := S)).setCell (p := ⟨p, 0, none⟩) (fun _ => hS) (.pointer (some ⟨b1, 0, none⟩))).setCell (p := ⟨p, 2, none⟩) (fun _ => hS) (.int .i64 (n : Int))).setCell (p := ⟨r, 0, none⟩) (fun h => absurd h (by rw [HR.out]; exact Nat.lt_irrefl r)) (.int .i64 g)).setCell (p := ⟨r, 1, none⟩) (fun h => absurd h (by rw [HR.out]; exact Nat.lt_irrefl r)) (.int .i64 cs)).setCell (p := ⟨r, 2, none⟩) (fun h => absurd h (by rw [HR.out]; exact Nat.lt_irrefl r)) (.int .i64 v), fun k hkp hkr => by rw [Below.heap_setCell _ _ _ _ hkr, Below.heap_setCell _ _ _ _ hkr, Below.heap_setCell _ _ _ _ hkr, Below.heap_setCell _ _ _ _ hkp, Below.heap_setCell _ _ _ _ hkp], (blk_far (blk_far (blk_far (blk_set (blk_set H6.out 0 (.pointer (some ⟨b1, 0, none⟩))) 2 (.int .i64 (n : Int))) (p := ⟨r, 0, none⟩) n1 (.int .i64 g)) (p := ⟨r, 1, none⟩) n1 (.int .i64 cs)) (p := ⟨r, 2, none⟩) n1 (.int .i64 v))⟩
  go_wp2_with fail
  refine bodyPost_ret (v := .tuple #[.agg #[.int .i64 g, .int .i64 cs, .int .i64 v], .bool true]) (by simp [results, Tryz.results210, go_sem, r0, r1, r2, rl, n1, n1']) rfl ?_
  obtain ⟨W, hW, hsz, hfr, hWk, hWp⟩ := HW.out
  rw [hW]
  clear hW HW
  have hn0 := HN.out
  have ht := HS.out.tail
  refine ⟨rfl, ⟨b1 :: bs, ht.move (fun b hb' => ?_), (List.nodup_cons.1 hn).2, fun hm => hp (List.mem_cons_of_mem _ hm), fun b hb' => .inl (hb b (List.mem_cons_of_mem _ hb')), .inl hS, ?_⟩, hfr.alloc _⟩
  ·have hbl := ht.lt b hb'
   exact (Below.heap_alloc _ _ _ (by rw [hsz]; exact hbl)).trans (hWk b (fun h => hp (by rw [← h]; exact List.mem_cons_of_mem _ hb')) (fun h => by have := HBR.out b (List.mem_cons_of_mem _ hb'); omega))
  ·refine (Below.heap_alloc _ _ _ (by rw [hsz]; exact hpl)).trans ?_
   rw [hWp, hn0]
   rfl
theorem infoW : (Tryz.prog.info? 225).map (fun i => (i.zero, i.size, i.bytes)) = some (some (.agg #[.int .i64 0, .int .i64 0, .int .i64 0]), 3, 24) := by kernel_rfl
theorem take_one {α : Type} (f : α → List Value) (L : List α) (k : Nat) (h : k < L.length) : (L.take (k + 1)).flatMap f = (L.take k).flatMap f ++ f L[k] := by
 rw [List.take_succ_eq_append_getElem h, flat_one]
/-- A slice of the waiters L comes back, new. -/
def Wtrs (w : World) (L : List Wtr) : Ending → World → Prop := fun e w' => ∃ a cap, e = .returned (.slice a L.length cap) ∧ Rd w' 3 a L.length (L.flatMap Wtr.cells) ∧ (∀ b o, a = some ⟨b, o, none⟩ → w.heap.size ≤ b) ∧ Frm Nil w w'
set_option maxRecDepth 100000 in
set_option maxHeartbeats 400000 in
theorem pew_list_nil (w : World) : Calls Tryz.prog 220 #[.pointer none] w fun e w' => e = .returned (.slice none 0 0) ∧ w = w' := by
 go_enter Tryz.func220, Tryz.ntmps220
 go_wp2
 go_ret
 exact ⟨rfl, rfl⟩
set_option maxRecDepth 100000 in
set_option maxHeartbeats 400000 in
theorem pew_list (h : PewAt w S p L) (hL : L.length ≤ 100000) : Calls Tryz.prog 220 #[.pointer (some ⟨p, 0, none⟩)] w (Wtrs w L) := by
 obtain ⟨bs, hs, hn, hp, hb, hS, h6⟩ := h
 obtain ⟨c0, c1, c2, cf⟩ := pew_cells h6
 have hfst : ptrOf bs.head? = ptrOf bs[0]? := by rw [List.head?_eq_getElem?]
 rw [hfst] at c0
 clear hfst
 obtain ⟨a0, ha0⟩ : ∃ a0, ptrOf bs[0]? = .pointer a0 := ⟨_, rfl⟩
 rw [ha0] at c0
 have HA := Lib.hid ha0
 clear ha0
 go_enter Tryz.func220, Tryz.ntmps220
 go_wp2
 go_loopw [3, 4] (fun v sp wr => ∃ k : Nat, k ≤ L.length ∧ Hid (sp = ptrOf bs[k]?) ∧ (∃ a, sp = .pointer a) ∧ Frm Nil w wr ∧ ColC 225 3 w.heap.size wr v k ((L.take k).flatMap Wtr.cells)) (fun v _ _ => L.length - sliceLen v)
 case atStart => exact ⟨0, Nat.zero_le _, HA.out.symm, ⟨_, rfl⟩, Frm.refl _ _, ColC.nil _ _ _ _⟩
 case round =>
  obtain ⟨k, hk, hsp, ⟨ak, rfl⟩, hfr, hcol⟩ := hrel
  obtain ⟨va, vc, rfl, _⟩ := hcol.rd
  by_cases hlt : k < L.length
  ·have hkb : k < bs.length := by rw [hs.1]; exact hlt
   have e0 := hsp.out
   rw [List.getElem?_eq_getElem hkb] at e0
   obtain ⟨b, hbk⟩ : ∃ b, bs[k] = b := ⟨_, rfl⟩
   have hbw := hs.lt _ (List.getElem_mem hkb)
   have hsr := hfr.blk (hs.2 k hlt hkb) id
   rw [hbk] at e0 hsr hbw
   obtain rfl : ak = some ⟨b, 0, none⟩ := by injection e0
   obtain ⟨x, hx⟩ : ∃ x, L[k] = x := ⟨_, rfl⟩
   rw [hx] at hsr
   obtain ⟨a1, ha1⟩ : ∃ a1, ptrOf bs[k + 1]? = .pointer a1 := ⟨_, rfl⟩
   obtain ⟨d0, d1, d2, d3, df⟩ := seat_cells hsr
   rw [ha1] at d3
   have hbl := lt_of_block hsr
   have htk := take_one Wtr.cells L k hlt
   rw [hx] at htk
   obtain ⟨g, cs, v⟩ := x
   dsimp only at d0 d1 d2
   have HT := Lib.hid htk
   have HA1 := Lib.hid ha1
   have HSR := Lib.hid hsr
   clear htk ha1 e0 hsp hbk hx hsr
   go_wp2_with (at_builtin; go_must (refine colc_app rfl _ _ 231 _ 24 rfl Tryz.underlying231 infoW rfl (by decide) (.slice va k vc) k _ [.int .i64 g, .int .i64 cs, .int .i64 v] rfl rfl (by simp) rfl rfl hcol hfr rfl (by omega) (by decide) ?_); intro v1 w1 hcol1 hfr1 hfr2; have hsr1 := hfr2.blk HSR.out (fun h => by unfold From at h; omega); obtain ⟨_, _, _, d3', _⟩ := seat_cells hsr1; rw [HA1.out] at d3')
   go_roundw
   case rel => exact ⟨k + 1, by omega, HA1.out.symm, ⟨_, rfl⟩, hfr1, by rw [HT.out]; exact hcol1⟩
   case measure =>
    obtain ⟨a9, c9, e9, _⟩ := hcol1.rd
    rw [e9]
    simp [sliceLen]
    omega
  ·have hkn : k = L.length := by omega
   have e0 := hsp.out
   rw [List.getElem?_eq_none (by rw [hs.1]; omega)] at e0
   obtain rfl : ak = none := by injection e0
   clear e0 hsp
   have HK := Lib.hid hkn
   clear hkn
   go_wp2
   go_ret
   have hkn := HK.out
   subst hkn
   obtain ⟨a9, c9, e9, h9⟩ := hcol.rd
   rw [List.take_length] at h9
   injection e9 with e9 _ e10
   subst e9
   exact ⟨_, _, rfl, h9, fun b o hb => hcol.2 b (by rw [hb]; rfl), hfr⟩
end
end Go.Proofs.YtchkaaeoffmjnaaGreatDoor
namespace Go.Proofs.YtchkaaeoffmjnaaGreatDoor
set_option linter.unusedVariables false
set_option linter.unusedSimpArgs false
open Go.RowKit
def Fine (L : List Wtr) : Prop := L.length ≤ 1024 ∧ ∀ x ∈ L, 0 ≤ x.g ∧ -1 ≤ x.case_
def without (g : Int) (L : List Wtr) : List Wtr := L.filter (fun x => decide (x.g ≠ g))
theorem without_le (g : Int) (L : List Wtr) : (without g L).length ≤ L.length := List.length_filter_le _ _
theorem Fine.without {L : List Wtr} (h : Fine L) (g : Int) : Fine (without g L) :=
 ⟨Nat.le_trans (without_le g L) h.1, fun x hx => h.2 x (List.mem_filter.1 hx).1⟩
theorem without_snoc (g : Int) (L : List Wtr) (k : Nat) (h : k < L.length) : without g (L.take (k + 1)) = without g (L.take k) ++ (if L[k].g = g then [] else [L[k]]) := by
 unfold Go.Proofs.YtchkaaeoffmjnaaGreatDoor.without
 rw [List.take_succ_eq_append_getElem h, List.filter_append]
 congr 1
 by_cases hg : L[k].g = g <;> simp [hg]
section
variable {w : World} {S : Nat → Prop} {p : Nat} {L : List Wtr}
set_option maxHeartbeats 400000 in
theorem pew_drop_nil (g : Int) (w : World) : Calls Tryz.prog 226 #[.pointer none, .int .i64 g] w fun e w' => e = .returned (.int .i64 0) ∧ Frm Nil w w' := by
 go_enter Tryz.func226, Tryz.ntmps226
 go_wp2_with fail
 refine (pew_list_nil w).mono ?_
 rintro e w1 ⟨rfl, rfl⟩
 go_wp2_with fail
 go_loopw [17] (fun i wr => i = .int .i64 0 ∧ wr = w) (fun _ _ => 0)
 case atStart => exact ⟨rfl, rfl⟩
 case round =>
  obtain ⟨rfl, rfl⟩ := hrel
  go_wp2_with fail
  refine (pew_len_nil _).mono ?_
  rintro e w' ⟨rfl, rfl⟩
  all_goals
   go_wp2_with fail
   go_ret
   exact ⟨rfl, (by repeat (first | exact Frm.refl _ _ | apply Frm.drewN | apply Frm.drew | apply Frm.alloc | (refine Frm.then ?_ (by assumption))))⟩
set_option maxRecDepth 100000 in
set_option maxHeartbeats 400000 in
theorem pew_drop (h : PewAt w S p L) (hF : Fine L) (g : Int) : Calls Tryz.prog 226 #[.pointer (some ⟨p, 0, none⟩), .int .i64 g] w fun e w' =>
  e = .returned (.int .i64 ((L.length : Int) - (without g L).length)) ∧ PewAt w' (New S w w') p (without g L) ∧ Frm S w w' := by
 have hbd := h.bound
 go_enter Tryz.func226, Tryz.ntmps226
 go_wp2_with fail
 refine (pew_list h (Nat.le_trans hF.1 (by decide))).mono ?_
 rintro e w1 ⟨a, cap, rfl, hrd, hnew, f1⟩
 have h1 := hbd.move (fun k hk => f1.block k hk.2 id)
 obtain ⟨_, _, _, _, _, hSp, h6⟩ := h1
 obtain ⟨c0, c1, c2, cf⟩ := pew_cells h6
 have hm := hrd.2.1
 unfold maxLen at hm
 go_wp2_with fail
 have e2 := blk_set (blk_set (blk_set h6 0 (.pointer none)) 1 (.pointer none)) 2 (.int .i64 0)
 have f0 : Frm (fun k => S k ∧ k < w.heap.size) w1 w1 := Frm.refl _ _
 have f2 := ((f0.setCell (p := ⟨p, 0, none⟩) (fun _ => hSp) (.pointer none)).setCell (p := ⟨p, 1, none⟩) (fun _ => hSp) (.pointer none)).setCell (p := ⟨p, 2, none⟩) (fun _ => hSp) (.int .i64 0)
 have hs2 : (((w1.setCell ⟨p, 0, none⟩ (.pointer none)).setCell ⟨p, 1, none⟩ (.pointer none)).setCell ⟨p, 2, none⟩ (.int .i64 0)).heap.size = w1.heap.size := by simp [World.setCell]
 obtain ⟨w2, hw2⟩ : ∃ w2, ((w1.setCell ⟨p, 0, none⟩ (.pointer none)).setCell ⟨p, 1, none⟩ (.pointer none)).setCell ⟨p, 2, none⟩ (.int .i64 0) = w2 := ⟨_, rfl⟩
 rw [hw2] at e2 f2 hs2 ⊢
 have hp2 : PewAt w2 (fun k => S k ∧ k < w.heap.size) p [] := ⟨[], ⟨rfl, fun i h => absurd h (Nat.not_lt_zero _)⟩, List.nodup_nil, by simp, by simp, hSp, e2⟩
 have hrd2 : Rd w2 3 a L.length (L.flatMap Wtr.cells) := hrd.keep f2 (fun b o hb hk => by have := hnew b o hb; omega)
 have hnb : ∀ b o, a = some ⟨b, o, none⟩ → 0 < L.length → b < w2.heap.size := fun b o hb hl => by
  obtain ⟨b', o', hb', hc⟩ := hrd2.2.2 hl
  rw [hb] at hb'
  injection hb' with hb'
  injection hb' with hb1 hb2
  subst hb1
  have hcell := hc 0 _ (List.getElem?_eq_getElem (by rw [hrd2.1]; omega))
  exact World.block_lt_of_cell? w2 _ hcell
 have fw2 : Frm S w w2 := (f1.nil.trans f2 (fun x _ hk => hk.1))
 have hsz2 : w.heap.size ≤ w2.heap.size := fw2.size
 clear hw2 e2 f2 hs2 h6 c0 c1 c2 cf f0 hrd f1
 go_loopw [17] (fun i wr => ∃ (k : Nat) (S' : Nat → Prop), k ≤ L.length ∧ i = .int .i64 k ∧ Frm S w wr ∧ PewAt wr S' p (without g (L.take k)) ∧ Rd wr 3 a L.length (L.flatMap Wtr.cells) ∧ w2.heap.size ≤ wr.heap.size ∧ (∀ k, S' k → (S k ∧ k < w.heap.size) ∨ (w2.heap.size ≤ k ∧ k < wr.heap.size))) (fun i _ => L.length - (intOf i).toNat)
 case atStart => exact ⟨0, _, Nat.zero_le _, rfl, fw2, hp2, hrd2, Nat.le_refl _, fun k hk => .inl hk⟩
 case round =>
  obtain ⟨k, S', hk, rfl, hfr, hpw, hrr, hszr, hS'⟩ := hrel
  by_cases hlt : k < L.length
  ·obtain ⟨b, off, rfl, hc⟩ := hrr.2.2 (by omega)
   have hbn := hnb b off rfl (by omega)
   have hbo := hnew b off rfl
   obtain ⟨x, hx⟩ : ∃ x, L[k] = x := ⟨_, rfl⟩
   have key : ∀ j (hj : j < 3), ∀ u, (x.cells)[j]? = some u → wr.cell? ⟨b, off + k * 3 + j, none⟩ = some u := fun j hj u hu => by
    rw [Nat.add_assoc]
    exact hc (k * 3 + j) u (by rw [flat_get Wtr.cells 3 (fun _ => rfl) L k j hj hlt, hx]; exact hu)
   have d0 := key 0 (by omega) _ rfl
   have d1 := key 1 (by omega) _ rfl
   have d2 := key 2 (by omega) _ rfl
   rw [Nat.add_zero] at d0
   have hfx := hF.2 L[k] (List.getElem_mem hlt)
   have hsn := without_snoc g L k hlt
   have hml : (without g (L.take k)).length < 1024 := Nat.lt_of_le_of_lt (without_le g _) (by rw [List.length_take]; have := hF.1; omega)
   rw [hx] at hfx hsn
   obtain ⟨xg, xc, xv⟩ := x
   dsimp only at hfx
   obtain ⟨fx1, fx2⟩ := hfx
   have HSN := Lib.hid hsn
   clear key hc hx hsn
   have hbS : ¬ S' b := fun h => (hS' b h).elim (fun h => by omega) (fun h => by omega)
   by_cases hg : xg = g
   ·have hb0 : (xg != g) = false := by simp [hg]
    have HG := Lib.hid hg
    clear hg
    go_wp2_with fail
    go_roundw
    case rel => exact ⟨k + 1, S', by omega, by go_num, hfr.alloc _, by rw [HSN.out, if_pos HG.out, List.append_nil]; exact hpw.move' ((Frm.refl _ _).alloc _), hrr.nil ((Frm.refl _ _).alloc _), Nat.le_trans hszr (by simp), fun j hj => (hS' j hj).imp id (fun h => ⟨h.1, by simp; omega⟩)⟩
    case measure => simp [intOf]; omega
   ·have hb0 : (xg != g) = true := by simp [hg]
    have HG := Lib.hid hg
    clear hg
    go_wp2_with fail
    refine (pew_add_ok (hpw.move' ((Frm.refl _ _).alloc _)) hml ⟨xg, xc, xv⟩ fx1 fx2).mono ?_
    rintro e w3 ⟨rfl, h3, f3⟩
    go_wp2_with fail
    go_roundw
    case rel =>
     refine ⟨k + 1, _, by omega, by go_num, (hfr.alloc _).trans f3 (fun j hj hs => (hS' j hs).elim (fun h => h.1) (fun h => by omega)), by rw [HSN.out, if_neg HG.out]; exact h3, (hrr.nil ((Frm.refl _ _).alloc _)).keep f3 (fun b' o' he hs => ?_), Nat.le_trans hszr (Nat.le_trans (by simp) f3.size), fun j hj => ?_⟩
     ·injection he with he
      injection he with he _
      subst he
      exact hbS hs
     ·rcases hj with hj | hj
      ·exact (hS' j hj).imp id (fun h => ⟨h.1, Nat.lt_of_lt_of_le h.2 (Nat.le_trans (by simp) f3.size)⟩)
      ·exact .inr ⟨Nat.le_trans hszr (Nat.le_trans (by simp) hj.1), hj.2⟩
    case measure => simp [intOf]; omega
  ·have hkn : k = L.length := by omega
   rw [hkn, List.take_length] at hpw
   clear hkn
   obtain ⟨m, hm2⟩ : ∃ m, (without g L).length = m := ⟨_, rfl⟩
   have hml : m ≤ L.length := by rw [← hm2]; exact without_le g L
   have K1 := len_is hpw
   rw [hm2] at K1
   have HM := Lib.hid hm2
   clear hm2
   go_wp2_with fail
   refine (K1 _ (by repeat (first | exact Frm.refl _ _ | apply Frm.drewN | apply Frm.drew | apply Frm.alloc | (refine Frm.then ?_ (by assumption))))).mono ?_
   rintro e w' ⟨rfl, rfl⟩
   all_goals
    go_wp2_with fail
    go_ret
    refine ⟨ret_int (by rw [HM.out]), (hpw.move' (by repeat (first | exact Frm.refl _ _ | apply Frm.drewN | apply Frm.drew | apply Frm.alloc | (refine Frm.then ?_ (by assumption))))).mono (fun j hj => (hS' j hj).imp (fun h => h.1) (fun h => ⟨Nat.le_trans hsz2 h.1, h.2⟩)), (hfr.then (by repeat (first | exact Frm.refl _ _ | apply Frm.drewN | apply Frm.drew | apply Frm.alloc | (refine Frm.then ?_ (by assumption)))))⟩
end
end Go.Proofs.YtchkaaeoffmjnaaGreatDoor
