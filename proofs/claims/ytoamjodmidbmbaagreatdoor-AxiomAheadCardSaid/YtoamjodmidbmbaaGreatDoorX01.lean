/- Texts of the proof. -/
import Derived.Test.YtoamjodmidbmbaaGreatDoorRows
import Derived.WalkKit
import Derived.WalkSpells
import Derived.WalkLawsBesides
import Derived.Lib.Hide
import Derived.Maps.AppendAt
import Derived.Deep.AppendLies
import Derived.Deep.QuietTactic
import Derived.BigQuiet
import Derived.Deep.DeepMust
import Derived.Deep.RegionWith
import Derived.Laws.EntriesVeiled
import Derived.RegionTactic
import Derived.OwnWalk
import Derived.Deep.RegionHeld3
set_option linter.unusedVariables false
set_option linter.unusedSimpArgs false
namespace Go.Proofs.YtoamjodmidbmbaaGreatDoor
open Go.RowKit
structure Frm (S : Nat → Prop) (w w' : World) : Prop where
 os : w'.os = w.os
 tape : w'.tape = w.tape
 output : w'.output = w.output
 size : w.heap.size ≤ w'.heap.size
 block : ∀ k, k < w.heap.size → ¬ S k → w'.heap[k]? = w.heap[k]?
def Nil : Nat → Prop := fun _ => False
theorem Frm.refl (S : Nat → Prop) (w : World) : Frm S w w := ⟨rfl, rfl, rfl, Nat.le_refl _, fun _ _ _ => rfl⟩
theorem Frm.trans {S T : Nat → Prop} {a b c : World} (h : Frm S a b) (k : Frm T b c) (hT : ∀ x, x < a.heap.size → T x → S x) : Frm S a c :=
  ⟨k.os.trans h.os, k.tape.trans h.tape, k.output.trans h.output, Nat.le_trans h.size k.size,
   fun i hi hn => (k.block i (Nat.lt_of_lt_of_le hi h.size) (fun ht => hn (hT i hi ht))).trans (h.block i hi hn)⟩
theorem Frm.mono {S T : Nat → Prop} {a b : World} (h : Frm S a b) (hT : ∀ x, x < a.heap.size → S x → T x) : Frm T a b :=
 ⟨h.os, h.tape, h.output, h.size, fun i hi hn => h.block i hi (fun hs => hn (hT i hi hs))⟩
theorem Frm.nil {S : Nat → Prop} {a b : World} (h : Frm Nil a b) : Frm S a b := h.mono (fun _ _ f => f.elim)
theorem Frm.then {S : Nat → Prop} {a b c : World} (h : Frm S a b) (k : Frm Nil b c) : Frm S a c := h.trans k (fun _ _ f => f.elim)
theorem Frm.alloc {S : Nat → Prop} {a w : World} (h : Frm S a w) (o : Obj) : Frm S a (w.alloc o) :=
 h.then ⟨rfl, rfl, rfl, by simp, fun k hk _ => Below.heap_alloc _ _ _ hk⟩
theorem Frm.drew {S : Nat → Prop} {a w : World} (h : Frm S a w) : Frm S a w.drew := ⟨h.os, h.tape, h.output, h.size, h.block⟩
theorem Frm.drewN {S : Nat → Prop} {a w : World} (h : Frm S a w) (n : Nat) : Frm S a (w.drewN n) := ⟨h.os, h.tape, h.output, h.size, h.block⟩
theorem Frm.setCell {S : Nat → Prop} {a w : World} (h : Frm S a w) {p : Addr} (hp : p.block < a.heap.size → S p.block) (u : Value) : Frm S a (w.setCell p u) :=
 h.trans (T := fun k => k = p.block) ⟨rfl, rfl, rfl, by simp [World.setCell], fun k hk hn => Below.heap_setCell _ _ _ _ hn⟩ (fun x hx e => by subst e; exact hp hx)
theorem Frm.grown {S : Nat → Prop} {a w w' : World} {row : Option Nat} (h : Frm S a w) (hg : w.grownBy w' row) (hr : ∀ k, row = some k → k < a.heap.size → S k) : Frm S a w' :=
 h.trans (T := fun k => row = some k) ⟨hg.os, hg.tape, hg.output, hg.size, fun k hk hn => hg.block k hk (fun e => hn e.symm)⟩ (fun x hx e => hr x e hx)
theorem Frm.cell {S : Nat → Prop} {w w' : World} (h : Frm S w w') {p : Addr} (hp : p.block < w.heap.size) (hn : ¬ S p.block) : w'.cell? p = w.cell? p := World.cell?_of_block (w := w) (h.block p.block hp hn)
theorem Frm.below {w w' : World} (h : Frm Nil w w') : Below w.heap.size w w' := ⟨h.os, h.tape, h.output, h.size, fun k hk => h.block k hk id⟩
theorem Frm.blk {S : Nat → Prop} {w w' : World} (h : Frm S w w') {k : Nat} {o : Obj} (hb : w.heap[k]? = some o) (hn : ¬ S k) : w'.heap[k]? = some o :=
 (h.block k (lt_of_block hb) hn).trans hb
def New (S : Nat → Prop) (w w' : World) : Nat → Prop := fun k => S k ∨ (w.heap.size ≤ k ∧ k < w'.heap.size)
theorem New.old {S : Nat → Prop} {w w' : World} {k : Nat} (h : S k) : New S w w' k := .inl h
theorem Frm.new {S : Nat → Prop} {a b c : World} (h : Frm S a b) (k : Frm (New S a b) b c) : Frm S a c :=
 h.trans k (fun x hx hn => hn.elim id (fun g => by omega))
def From (B : Nat) : Nat → Prop := fun k => B ≤ k
theorem Frm.step {a b c : World} (h : Frm Nil a b) (k : Frm (From a.heap.size) b c) : Frm Nil a c :=
 h.trans k (fun x hx hn => by unfold From at hn; omega)
structure Zone (B : Nat) (w : World) (S : Nat → Prop) : Prop where
 lo : ∀ k, S k → B ≤ k
 hi : ∀ k, S k → k < w.heap.size
theorem Zone.step {B : Nat} {w w' : World} {S : Nat → Prop} (hz : Zone B w S) (f : Frm S w w') (hB : B ≤ w.heap.size) : Zone B w' (New S w w') :=
 ⟨fun k hk => hk.elim (hz.lo k) (fun g => Nat.le_trans hB g.1), fun k hk => hk.elim (fun g => Nat.lt_of_lt_of_le (hz.hi k g) f.size) (fun g => g.2)⟩
theorem Zone.later {B : Nat} {w w' : World} {S T : Nat → Prop} (hz : Zone B w S) (f : Frm T w w') : Zone B w' S := ⟨hz.lo, fun k hk => Nat.lt_of_lt_of_le (hz.hi k hk) f.size⟩
theorem Zone.alloc {B : Nat} {w : World} {S : Nat → Prop} (hz : Zone B w S) (o : Obj) : Zone B (w.alloc o) S := hz.later ((Frm.refl Nil w).alloc o)
theorem Zone.first {w w' : World} (f : Frm Nil w w') : Zone w.heap.size w' (New Nil w w') := (⟨fun _ h => h.elim, fun _ h => h.elim⟩ : Zone w.heap.size w Nil).step f (Nat.le_refl _)
theorem Frm.out {S : Nat → Prop} {w w' : World} (f : Frm S w w') {p : Addr} {v : Value} (hc : w.cell? p = some v) (hn : ¬ S p.block) : w'.cell? p = some v :=
 (f.cell (World.block_lt_of_cell? w p hc) hn).trans hc
theorem row_cell {w : World} {g : Nat} {cs : Array Value} {t : TypeId} (h : w.heap[g]? = some (.cells cs t (0, 0))) (i : Nat) {v : Value} (hv : cs[i]? = some v) : w.cell? ⟨g, i, none⟩ = some v := by
 rw [cell_of_row _ _ _ _ _ _ h]
 exact hv
theorem row_free {w : World} {g : Nat} {cs : Array Value} {t : TypeId} (h : w.heap[g]? = some (.cells cs t (0, 0))) (i : Nat) : w.frozen? ⟨g, i, none⟩ = false := by simp [World.frozen?, h]
theorem blk_set {w : World} {g : Nat} {t : TypeId} {cs : Array Value} (h : w.heap[g]? = some (.cells cs t (0, 0))) (i : Nat) (u : Value) : (w.setCell ⟨g, i, none⟩ u).heap[g]? = some (.cells (cs.setIfInBounds i u) t (0, 0)) := by
 simp [World.setCell, Array.getElem?_modify, h]
theorem blk_far {w : World} {g : Nat} {o : Obj} (h : w.heap[g]? = some o) {p : Addr} (hp : g ≠ p.block) (u : Value) : (w.setCell p u).heap[g]? = some o := (Below.heap_setCell w p u g hp).trans h
section
variable {w w' : World} {e : TypeId} {sz n : Nat} {v : Value} {xs : List Value}
theorem own_form (h : w.ownsRow 0 e sz v n xs) : ∃ a c, v = .slice a n c := by
 rcases h.2 with ⟨rfl, rfl⟩ | ⟨g, cap, cur, rfl, _⟩
 ·exact ⟨none, 0, rfl⟩
 ·exact ⟨_, _, rfl⟩
theorem own_max (h : w.ownsRow 0 e sz v n xs) : n ≤ maxLen := by
 rcases h.2 with ⟨rfl, rfl⟩ | ⟨g, cap, cur, rfl, _, _, h1, h2, _⟩
 ·exact Nat.zero_le _
 ·exact Nat.le_trans h1 h2
theorem own_some {a : Option Addr} {c : Nat} (h : w.ownsRow 0 e sz (.slice a n c) n xs) (hn : 0 < n) : ∃ b, a = some ⟨b, 0, none⟩ := by
 rcases h.2 with ⟨h1, rfl⟩ | ⟨g, cap, cur, h1, _⟩
 ·omega
 ·injection h1 with h1
  exact ⟨g, h1⟩
theorem own_move (h : w.ownsRow 0 e sz v n xs) (hm : ∀ k, v.ownBlock = some k → w'.heap[k]? = w.heap[k]?) : w'.ownsRow 0 e sz v n xs := by
 refine ⟨h.1, ?_⟩
 rcases h.2 with h2 | ⟨g, cap, cur, rfl, h0, hg, r⟩
 ·exact .inl h2
 ·exact .inr ⟨g, cap, cur, rfl, h0, (hm g rfl).trans hg, r⟩
theorem own_lt (h : w.ownsRow 0 e sz v n xs) {k : Nat} (hk : v.ownBlock = some k) : k < w.heap.size := (h.lt k hk).2
end
section
variable {α : Type} (enc : α → List Value) (sz : Nat)
theorem flat_length (hsz : ∀ x, (enc x).length = sz) : ∀ L : List α, (L.flatMap enc).length = L.length * sz
 | [] => by simp
 | x :: l => by rw [List.flatMap_cons, List.length_append, hsz, flat_length hsz l, List.length_cons, Nat.succ_mul, Nat.add_comm]
theorem flat_get (hsz : ∀ x, (enc x).length = sz) : ∀ (L : List α) (g j : Nat) (_ : j < sz) (hg : g < L.length), (L.flatMap enc)[g * sz + j]? = (enc L[g])[j]?
 | [], g, _, _, hg => absurd hg (Nat.not_lt_zero g)
 | x :: l, 0, j, hj, _ => by
  rw [List.flatMap_cons, Nat.zero_mul, Nat.zero_add, List.getElem?_append_left (by rw [hsz]; exact hj)]
  rfl
 | x :: l, g + 1, j, hj, hg => by
  rw [List.flatMap_cons, List.getElem?_append_right (by rw [hsz, Nat.succ_mul]; omega), hsz]
  rw [show (g + 1) * sz + j - sz = g * sz + j by rw [Nat.succ_mul]; omega]
  exact flat_get hsz l g j hj (by simpa using hg)
theorem flat_one (f : α → List Value) (L : List α) (x : α) : (L ++ [x]).flatMap f = L.flatMap f ++ f x := by
 rw [List.flatMap_append, List.flatMap_cons, List.flatMap_nil, List.append_nil]
end
section
variable {P : Program} {ops : Array Oper} {rest : List Oper} {o : Oper} {a : Act} {Q : Exit → Act → World → Prop}
theorem app_one {W : World} (hgd : o.guard = none) (s x : Operand) (t e : TypeId) (z : Value) (size bytes : Nat)
  (ho : o.op = .call { callee := .builtin .append, args := #[s, x], argTypes := #[t, t] })
  (ht : P.underlying t = some (.slice e)) (hinfo : (P.info? e).map (fun i => (i.zero, i.size, i.bytes)) = some (some z, size, bytes)) (hz : z.cells.size = size) (hs0 : 0 < size)
  (v : Value) (n : Nat) (xs ys : List Value) (hs : a.eval s = v) {b0 : Nat} (hx : a.eval x = .slice (some ⟨b0, 0, none⟩) 1 1) (hb0 : b0 = W.heap.size) (hys : ys.length = size) (h1 : ys.all Value.oneCell' = true)
  (HO : W.ownsRow 0 e size v n xs) (hn : n < 1000000000) (hl : bytes ≤ 1000)
  (h : ∀ g c w1, w1.ownsRow 0 e size (.slice (some ⟨g, 0, none⟩) (n + 1) c) (n + 1) (xs ++ ys) → Frm (fun k => v.ownBlock = some k) W w1 → (v.ownBlock = some g ∨ W.heap.size ≤ g) → wpList P ops Q rest (a.put o.dst (.slice (some ⟨g, 0, none⟩) (n + 1) c)) w1) :
  wpList P ops Q (o :: rest) a (W.alloc (.cells ys.toArray e)) := by
 subst hb0
 obtain ⟨i0, hi, hzz⟩ := Option.map_eq_some_iff.1 hinfo
 simp only [Prod.mk.injEq] at hzz
 obtain ⟨hz0, hz1, hz2⟩ := hzz
 refine wpList_append_own_at (W.alloc (.cells ys.toArray e)) hgd s x t ho 0 e i0 z size bytes ht hi hz0 hz1 hz2 hz hs0 v n xs hs (HO.alloc _) ⟨W.heap.size, 0, none⟩ 1 1 ys hx (by rw [hys]; simp)
  (by simpa using World.news_of_block (cs := ys.toArray) (t := e) (fr := (0, 0)) (heap_alloc_new W (.cells ys.toArray e))) (List.all_eq_true.1 h1) (by simp only [maxLen]; omega) (Nat.le_trans (Nat.mul_le_mul (show n + 1 ≤ 1000000000 by omega) hl) (by decide)) (Nat.zero_le _) ?_
 intro v1 w1 hown hg _ hat
 rcases hown.2 with ⟨_, h0⟩ | ⟨g, cap, cur, rfl, _⟩
 ·omega
 ·refine h g cap w1 hown (((Frm.refl _ W).alloc _).grown hg (fun k hk _ => hk)) ?_
  rcases hat with hat | hat
  ·exact .inl hat.symm
  ·injection hat with hat
   refine .inr ?_
   dsimp only at hat
   rw [hat]
   simp
end
def Rd (w : World) (sz : Nat) (a : Option Addr) (n : Nat) (xs : List Value) : Prop :=
 xs.length = n * sz ∧ n ≤ maxLen ∧ (0 < n → ∃ b off, a = some ⟨b, off, none⟩ ∧ ∀ i u, xs[i]? = some u → w.cell? ⟨b, off + i, none⟩ = some u)
theorem Rd.of_own {w : World} {e : TypeId} {sz n : Nat} {a : Option Addr} {c : Nat} {xs : List Value} (h : w.ownsRow 0 e sz (.slice a n c) n xs) : Rd w sz a n xs := by
 refine ⟨h.1, own_max h, fun hn => ?_⟩
 obtain ⟨b, rfl⟩ := own_some h hn
 refine ⟨b, 0, rfl, fun i u hu => ?_⟩
 have := h.cells (g := b) rfl i u hu
 rw [Nat.zero_add]
 unfold Addr.add at this
 split at this
 ·rename_i h0; subst h0; exact this
 ·simpa using this
theorem Rd.keep {S : Nat → Prop} {w w' : World} {sz n : Nat} {a : Option Addr} {xs : List Value} (h : Rd w sz a n xs) (hf : Frm S w w') (hs : ∀ b off, a = some ⟨b, off, none⟩ → ¬ S b) : Rd w' sz a n xs := by
 refine ⟨h.1, h.2.1, fun hn => ?_⟩
 obtain ⟨b, off, ha, hc⟩ := h.2.2 hn
 refine ⟨b, off, ha, fun i u hu => ?_⟩
 have hx := hc i u hu
 rw [hf.cell (p := ⟨b, off + i, none⟩) (World.block_lt_of_cell? w _ hx) (hs b off ha)]
 exact hx
theorem Rd.nil {w w' : World} {sz n : Nat} {a : Option Addr} {xs : List Value} (h : Rd w sz a n xs) (hf : Frm Nil w w') : Rd w' sz a n xs := h.keep hf (fun _ _ _ => id)
def ints (xs : List Int) : List Value := xs.map (Value.int .i64)
theorem ints_length (xs : List Int) : (ints xs).length = xs.length := by simp [ints]
theorem ints_at (xs : List Int) (i : Nat) (h : i < xs.length) : (ints xs)[i]? = some (.int .i64 xs[i]) := by simp [ints, h]
theorem ints_append (xs ys : List Int) : ints (xs ++ ys) = ints xs ++ ints ys := by simp [ints]
theorem Rd.int {w : World} {n : Nat} {a : Option Addr} {xs : List Int} (h : Rd w 1 a n (ints xs)) : xs.length = n := by
 have := h.1
 rw [ints_length] at this
 omega
theorem Rd.int_at {w : World} {n : Nat} {a : Option Addr} {xs : List Int} (h : Rd w 1 a n (ints xs)) (hn : 0 < n) : ∃ b off, a = some ⟨b, off, none⟩ ∧ ∀ i, i < n → w.cell? ⟨b, off + i, none⟩ = some (.int .i64 (xs.getD i 0)) := by
 have hl := h.int
 obtain ⟨b, off, ha, hc⟩ := h.2.2 hn
 refine ⟨b, off, ha, fun i hi => ?_⟩
 have := hc i _ (ints_at xs i (by omega))
 rw [this, List.getD_eq_getElem?_getD, List.getElem?_eq_getElem (by omega)]
 rfl
def Col (B : Nat) (w : World) (v : Value) (xs : List Int) : Prop :=
 w.ownsRow 0 3 1 v xs.length (ints xs) ∧ ∀ k, v.ownBlock = some k → B ≤ k
theorem Col.nil (B : Nat) (w : World) : Col B w (.slice none 0 0) [] := ⟨World.ownsRow_nil _ _ _ _, fun k hk => by cases hk⟩
theorem Col.move {B : Nat} {w w' : World} {v : Value} {xs : List Int} (h : Col B w v xs) (hm : ∀ k, B ≤ k → k < w.heap.size → w'.heap[k]? = w.heap[k]?) : Col B w' v xs :=
 ⟨own_move h.1 (fun k hk => hm k (h.2 k hk) (own_lt h.1 hk)), h.2⟩
theorem Col.rd {B : Nat} {w : World} {v : Value} {xs : List Int} (h : Col B w v xs) : ∃ a cap, v = .slice a xs.length cap ∧ Rd w 1 a xs.length (ints xs) := by
 obtain ⟨a, cap, rfl⟩ := own_form h.1
 exact ⟨a, cap, rfl, Rd.of_own h.1⟩
theorem infoInt : (Tryz.prog.info? 3).map (fun i => (i.zero, i.size, i.bytes)) = some (some (.int .i64 0), 1, 8) := by kernel_rfl
section
variable {ops : Array Oper} {rest : List Oper} {o : Oper} {a : Act} {Q : Exit → Act → World → Prop}
theorem col_app {B : Nat} {w W : World} (hgd : o.guard = none) (s x : Operand) (ho : o.op = .call { callee := .builtin .append, args := #[s, x], argTypes := #[67, 67] })
  (v : Value) (xs : List Int) (y : Int) (hs : a.eval s = v) {b0 : Nat} (hx : a.eval x = .slice (some ⟨b0, 0, none⟩) 1 1) (hb0 : b0 = W.heap.size)
  (HO : Col B W v xs) (hf : Frm Nil w W) (hB : B = w.heap.size) (hn : xs.length < 1000000000)
  (h : ∀ v1 w1, Col B w1 v1 (xs ++ [y]) → Frm Nil w w1 → wpList Tryz.prog ops Q rest (a.put o.dst v1) w1) :
  wpList Tryz.prog ops Q (o :: rest) a (W.alloc (.cells #[.int .i64 y] 3)) := by
 subst hB
 refine app_one hgd s x 67 3 _ 1 8 ho Tryz.underlying67 infoInt rfl (by decide) v xs.length _ [.int .i64 y] hs hx hb0 rfl rfl HO.1 hn (by decide) ?_
 intro g c w1 h1 h2 h3
 refine h _ _ ⟨?_, ?_⟩ ?_
 ·rw [List.length_append, List.length_singleton, ints_append]
  exact h1
 ·intro k hk
  injection hk with hk
  dsimp only at hk
  subst hk
  rcases h3 with h3 | h3
  ·exact HO.2 _ h3
  ·exact Nat.le_trans hf.size h3
 ·exact hf.trans h2 (fun k hk hv => by have := HO.2 _ hv; omega)
end
def ColC (te sz B : Nat) (w : World) (v : Value) (n : Nat) (cs : List Value) : Prop :=
 w.ownsRow 0 te sz v n cs ∧ ∀ k, v.ownBlock = some k → B ≤ k
theorem ColC.nil (te sz B : Nat) (w : World) : ColC te sz B w (.slice none 0 0) 0 [] := ⟨World.ownsRow_nil _ _ _ _, fun k hk => by cases hk⟩
theorem ColC.move {te sz B : Nat} {w w' : World} {v : Value} {n : Nat} {cs : List Value} (h : ColC te sz B w v n cs) (hm : ∀ k, B ≤ k → k < w.heap.size → w'.heap[k]? = w.heap[k]?) : ColC te sz B w' v n cs :=
 ⟨own_move h.1 (fun k hk => hm k (h.2 k hk) (own_lt h.1 hk)), h.2⟩
theorem ColC.later {te sz B : Nat} {w w' : World} {v : Value} {n : Nat} {cs : List Value} (h : ColC te sz B w v n cs) (hf : Frm Nil w w') : ColC te sz B w' v n cs := h.move (fun k _ hk => hf.block k hk id)
theorem ColC.rd {te sz B : Nat} {w : World} {v : Value} {n : Nat} {cs : List Value} (h : ColC te sz B w v n cs) : ∃ a cap, v = .slice a n cap ∧ Rd w sz a n cs := by
 obtain ⟨a, cap, rfl⟩ := own_form h.1
 exact ⟨a, cap, rfl, Rd.of_own h.1⟩
section
variable {P : Program} {ops : Array Oper} {rest : List Oper} {o : Oper} {a : Act} {Q : Exit → Act → World → Prop}
end
theorem ret_int {k : IntKind} {a b : Int} (h : a = b) : Ending.returned (.int k a) = .returned (.int k b) := by rw [h]
theorem ret_bool {a b : Bool} (h : a = b) : Ending.returned (.bool a) = .returned (.bool b) := by rw [h]
section
variable {w : World} {S : Nat → Prop} {g size : Nat} {L : List Int}
end
structure Wtr where
 g : Int
 case_ : Int
 value : Int
 deriving DecidableEq
def Wtr.cells (x : Wtr) : List Value := [.int .i64 x.g, .int .i64 x.case_, .int .i64 x.value]
def Wtr.agg (x : Wtr) : Value := .agg #[.int .i64 x.g, .int .i64 x.case_, .int .i64 x.value]
section
variable {w : World} {S : Nat → Prop} {p : Nat} {L : List Wtr}
theorem pew_cells {a b c : Value} {t : Nat} (h : w.heap[p]? = some (.cells #[a, b, c] t (0, 0))) :
  w.cell? ⟨p, 0, none⟩ = some a ∧ w.cell? ⟨p, 1, none⟩ = some b ∧ w.cell? ⟨p, 2, none⟩ = some c ∧ (∀ i, w.frozen? ⟨p, i, none⟩ = false) :=
 ⟨by rw [cell_of_row _ _ _ _ _ _ h]; rfl, by rw [cell_of_row _ _ _ _ _ _ h]; rfl, by rw [cell_of_row _ _ _ _ _ _ h]; rfl, fun i => by simp [World.frozen?, h]⟩
def addF (L : List Wtr) (x : Wtr) : Int × List Wtr := if x.g < 0 ∨ x.case_ < -1 then (1, L) else if L.length = 1024 then (5, L) else (0, L ++ [x])
end
def wzero : Wtr := ⟨0, 0, 0⟩
section
variable {w : World} {S : Nat → Prop} {p : Nat} {L : List Wtr}
def Wtrs (w : World) (L : List Wtr) : Ending → World → Prop := fun e w' => ∃ a cap, e = .returned (.slice a L.length cap) ∧ Rd w' 3 a L.length (L.flatMap Wtr.cells) ∧ (∀ b o, a = some ⟨b, o, none⟩ → w.heap.size ≤ b) ∧ Frm Nil w w'
end
def Fine (L : List Wtr) : Prop := L.length ≤ 1024 ∧ ∀ x ∈ L, 0 ≤ x.g ∧ -1 ≤ x.case_
def without (g : Int) (L : List Wtr) : List Wtr := L.filter (fun x => decide (x.g ≠ g))
theorem without_le (g : Int) (L : List Wtr) : (without g L).length ≤ L.length := List.length_filter_le _ _
theorem Fine.without {L : List Wtr} (h : Fine L) (g : Int) : Fine (without g L) :=
 ⟨Nat.le_trans (without_le g L) h.1, fun x hx => h.2 x (List.mem_filter.1 hx).1⟩
theorem without_snoc (g : Int) (L : List Wtr) (k : Nat) (h : k < L.length) : without g (L.take (k + 1)) = without g (L.take k) ++ (if L[k].g = g then [] else [L[k]]) := by
 unfold Go.Proofs.YtoamjodmidbmbaaGreatDoor.without
 rw [List.take_succ_eq_append_getElem h, List.filter_append]
 congr 1
 by_cases hg : L[k].g = g <;> simp [hg]
section
variable {w : World} {S : Nat → Prop} {p : Nat} {L : List Wtr}
end
structure PipeM where
 size : Nat
 buf : List Int
 senders : List Wtr
 receivers : List Wtr
 closed : Bool
 sent : Int
 received : Int
section
variable {w : World} {S : Nat → Prop} {g : Nat} {x : PipeM}
def emptyM (n : Nat) : PipeM := ⟨n, [], [], [], false, 0, 0⟩
def readyF (x : PipeM) (s : Bool) : Bool := if s then x.closed || decide (0 < x.receivers.length) || decide (x.buf.length < x.size) else x.closed || decide (0 < x.senders.length) || decide (0 < x.buf.length)
end
section
variable {w : World} {S : Nat → Prop} {g : Nat} {x : PipeM}
theorem New.trans {S : Nat → Prop} {a b c : World} (h1 : a.heap.size ≤ b.heap.size) (h2 : b.heap.size ≤ c.heap.size) : ∀ k, New (New S a b) b c k → New S a c k := fun k h => by
 rcases h with (h | h) | h
 ·exact .inl h
 ·exact .inr ⟨h.1, by omega⟩
 ·exact .inr ⟨by omega, h.2⟩
def dropM (x : PipeM) (g : Int) : PipeM := { x with senders := without g x.senders, receivers := without g x.receivers }
end
structure GotM where
 ready : Bool
 ok : Bool
 woke : Bool
 value : Int
 mate : Wtr
 deriving DecidableEq
def GotM.cells (x : GotM) : List Value := [.bool x.ready, .bool x.ok, .bool x.woke, .int .i64 x.value, .int .i64 x.mate.g, .int .i64 x.mate.case_, .int .i64 x.mate.value]
def GotM.agg (x : GotM) : Value := .agg #[.bool x.ready, .bool x.ok, .bool x.woke, .int .i64 x.value, .int .i64 x.mate.g, .int .i64 x.mate.case_, .int .i64 x.mate.value]
def gzero : GotM := ⟨false, false, false, 0, wzero⟩
def sendF (x : PipeM) (v : Int) : (GotM × Int) × PipeM :=
 if x.closed then ((gzero, 90), x)
 else match x.receivers with
  | m :: l => ((⟨true, false, true, 0, m⟩, 0), { x with receivers := l, sent := x.sent + 1, received := x.received + 1 })
  | [] => if x.buf.length < x.size then ((⟨true, false, false, 0, wzero⟩, 0), { x with buf := x.buf ++ [v], sent := x.sent + 1 }) else ((gzero, 0), x)
def Cnt (x : PipeM) : Prop := 0 ≤ x.sent ∧ x.sent ≤ 1000000000 ∧ 0 ≤ x.received ∧ x.received ≤ 1000000000
theorem box7 {w : World} {g : Nat} {a b c d e f h : Value} {t : Nat} (k : w.heap[g]? = some (.cells #[a, b, c, d, e, f, h] t (0, 0))) :
  w.cell? ⟨g, 0, none⟩ = some a ∧ w.cell? ⟨g, 1, none⟩ = some b ∧ w.cell? ⟨g, 2, none⟩ = some c ∧ w.cell? ⟨g, 3, none⟩ = some d ∧ w.cell? ⟨g, 4, none⟩ = some e ∧ w.cell? ⟨g, 5, none⟩ = some f ∧ w.cell? ⟨g, 6, none⟩ = some h ∧ (∀ i, w.frozen? ⟨g, i, none⟩ = false) :=
 ⟨row_cell k 0 rfl, row_cell k 1 rfl, row_cell k 2 rfl, row_cell k 3 rfl, row_cell k 4 rfl, row_cell k 5 rfl, row_cell k 6 rfl, row_free k⟩
section
variable {w : World} {S : Nat → Prop} {g : Nat} {x : PipeM}
end
section
variable {w : World} {S : Nat → Prop} {g : Nat} {x : PipeM}
end
section
variable {w : World} {S : Nat → Prop} {g pb gb : Nat} {x : PipeM}
end
structure Same (S : Nat → Prop) (w w' : World) : Prop where
 os : w'.os = w.os
 tape : w'.tape = w.tape
 output : w'.output = w.output
 block : ∀ k, S k → w'.heap[k]? = w.heap[k]?
structure Piece where
 on : (Nat → Prop) → World → Prop
 move : ∀ {S : Nat → Prop} {w w' : World}, on S w → Same S w w' → on S w'
 mono : ∀ {S T : Nat → Prop} {w : World}, on S w → (∀ k, S k → T k) → on T w
def SLs (w : World) : (Nat → Prop) → List Piece → Prop
 | _, [] => True
 | S, A :: L => ∃ T : Nat → Prop, (∀ k, T k → S k) ∧ A.on T w ∧ SLs w (fun k => S k ∧ ¬ T k) L
def SL (w : World) (L : List Piece) : Prop := SLs w (fun k => k < w.heap.size) L
theorem SLs.mono {w : World} : ∀ {L : List Piece} {S T : Nat → Prop}, SLs w S L → (∀ k, S k → T k) → SLs w T L
 | [], _, _, _, _ => trivial
 | _ :: _, _, _, ⟨U, h1, h2, h3⟩, h => ⟨U, fun k hk => h k (h1 k hk), h2, SLs.mono h3 (fun k hk => ⟨h k hk.1, hk.2⟩)⟩
theorem SLs.move {w w' : World} : ∀ {L : List Piece} {S : Nat → Prop}, SLs w S L → Same S w w' → SLs w' S L
 | [], _, _, _ => trivial
 | A :: _, _, ⟨U, h1, h2, h3⟩, h => ⟨U, h1, A.move h2 ⟨h.os, h.tape, h.output, fun k hk => h.block k (h1 k hk)⟩, SLs.move h3 ⟨h.os, h.tape, h.output, fun k hk => h.block k hk.1⟩⟩
theorem SLs.congr {w : World} {A : Piece} {L M : List Piece} (hh : ∀ S, SLs w S L → SLs w S M) {S : Nat → Prop} (h : SLs w S (A :: L)) : SLs w S (A :: M) := by
 obtain ⟨T, h1, h2, h3⟩ := h
 exact ⟨T, h1, h2, hh _ h3⟩
theorem SLs.swap {w : World} {A B : Piece} {L : List Piece} {S : Nat → Prop} (h : SLs w S (A :: B :: L)) : SLs w S (B :: A :: L) := by
 obtain ⟨T, h1, h2, U, h3, h4, h5⟩ := h
 exact ⟨U, fun k hk => (h3 k hk).1, h4, T, fun k hk => ⟨h1 k hk, fun hu => (h3 k hu).2 hk⟩, h2, h5.mono (fun k hk => ⟨⟨hk.1.1, hk.2⟩, hk.1.2⟩)⟩
theorem SLs.perm {w : World} {L M : List Piece} (h : L.Perm M) : ∀ {S : Nat → Prop}, SLs w S L → SLs w S M := by
 induction h with
 | nil => exact fun h => h
 | cons _ _ ih => exact fun h => SLs.congr (fun _ => ih) h
 | swap => exact fun h => h.swap
 | trans _ _ ih1 ih2 => exact fun h => ih2 (ih1 h)
theorem SLs.app {w : World} : ∀ {L M : List Piece} {S : Nat → Prop}, SLs w S (L ++ M) ↔ ∃ T : Nat → Prop, (∀ k, T k → S k) ∧ SLs w T L ∧ SLs w (fun k => S k ∧ ¬ T k) M
 | [], M, S => ⟨fun h => ⟨fun _ => False, fun _ h => h.elim, trivial, h.mono (fun k hk => ⟨hk, id⟩)⟩, fun ⟨T, _, _, h⟩ => SLs.mono (L := M) h (fun k hk => hk.1)⟩
 | A :: L, M, S => by
  constructor
  ·rintro ⟨T, h1, h2, h3⟩
   obtain ⟨U, u1, u2, u3⟩ := SLs.app.1 h3
   exact ⟨fun k => T k ∨ U k, fun k hk => hk.elim (h1 k) (fun h => (u1 k h).1), ⟨T, fun k hk => .inl hk, h2, u2.mono (fun k hk => ⟨.inr hk, (u1 k hk).2⟩)⟩, u3.mono (fun k hk => ⟨hk.1.1, fun h => h.elim hk.1.2 hk.2⟩)⟩
  ·rintro ⟨U, u1, ⟨T, h1, h2, h3⟩, u3⟩
   exact ⟨T, fun k hk => u1 k (h1 k hk), h2, SLs.app.2 ⟨fun k => U k ∧ ¬ T k, fun k hk => ⟨u1 k hk.1, hk.2⟩, h3, u3.mono (fun k hk => ⟨⟨hk.1, fun h => hk.2 (h1 k h)⟩, fun h => hk.2 h.1⟩)⟩⟩
def blk (g : Nat) (o : Obj) : Piece where
 on S w := S g ∧ w.heap[g]? = some o
 move h s := ⟨h.1, (s.block _ h.1).trans h.2⟩
 mono h k := ⟨k _ h.1, h.2⟩
@[reducible] def row (g : Nat) (cs : Array Value) (t : TypeId) : Piece := blk g (.cells cs t (0, 0))
def any (g : Nat) : Piece where
 on S w := S g
 move h s := h
 mono h k := k _ h
def emp : Piece where
 on _ _ := True
 move _ _ := trivial
 mono _ _ := trivial
def all (L : List Piece) : Piece where
 on S w := SLs w S L
 move h s := h.move s
 mono h k := h.mono k
def exP {α : Type} (f : α → Piece) : Piece where
 on S w := ∃ a, (f a).on S w
 move h s := by
  obtain ⟨a, h⟩ := h
  exact ⟨a, (f a).move h s⟩
 mono h k := by
  obtain ⟨a, h⟩ := h
  exact ⟨a, (f a).mono h k⟩
def andP (p : Prop) (A : Piece) : Piece where
 on S w := p ∧ A.on S w
 move h s := ⟨h.1, A.move h.2 s⟩
 mono h k := ⟨h.1, A.mono h.2 k⟩
def Old (w0 : World) : Piece where
 on S w := w.os = w0.os ∧ w.tape = w0.tape ∧ w.output = w0.output ∧ ∀ k, k < w0.heap.size → S k ∧ w.heap[k]? = w0.heap[k]?
 move h s := ⟨s.os.trans h.1, s.tape.trans h.2.1, s.output.trans h.2.2.1, fun k hk => ⟨(h.2.2.2 k hk).1, (s.block k (h.2.2.2 k hk).1).trans (h.2.2.2 k hk).2⟩⟩
 mono h k := ⟨h.1, h.2.1, h.2.2.1, fun i hi => ⟨k i (h.2.2.2 i hi).1, (h.2.2.2 i hi).2⟩⟩
def Slc (te sz : Nat) (v : Value) (n : Nat) (xs : List Value) : Piece where
 on S w := w.ownsRow 0 te sz v n xs ∧ ∀ k, v.ownBlock = some k → S k
 move h s := ⟨own_move h.1 (fun k hk => s.block k (h.2 k hk)), h.2⟩
 mono h k := ⟨h.1, fun i hi => k i (h.2 i hi)⟩
def ofAt (A : World → (Nat → Prop) → Prop) (mv : ∀ {w w' S}, A w S → (∀ k, S k → w'.heap[k]? = w.heap[k]?) → A w' S) (mn : ∀ {w S T}, A w S → (∀ k, S k → T k) → A w T) : Piece where
 on S w := A w S
 move h s := mv h s.block
 mono h k := mn h k
section
variable {w : World} {L M F : List Piece} {A B C D E G H : Piece}
theorem SL.perm (h : SL w L) (p : L.Perm M) : SL w M := SLs.perm p h
theorem SL.up1 (h : SL w (A :: B :: F)) : SL w (B :: A :: F) := SLs.swap h
theorem SL.under (h : SL w (A :: L)) (hh : ∀ S, SLs w S L → SLs w S M) : SL w (A :: M) := SLs.congr hh h
theorem SLs.up2 {S} (h : SLs w S (A :: B :: C :: F)) : SLs w S (C :: A :: B :: F) := (SLs.congr (fun _ => SLs.swap) h).swap
theorem SL.up2 (h : SL w (A :: B :: C :: F)) : SL w (C :: A :: B :: F) := SLs.up2 h
theorem SLs.up3 {S} (h : SLs w S (A :: B :: C :: D :: F)) : SLs w S (D :: A :: B :: C :: F) := (SLs.congr (fun _ => SLs.up2) h).swap
theorem SL.up3 (h : SL w (A :: B :: C :: D :: F)) : SL w (D :: A :: B :: C :: F) := SLs.up3 h
theorem SLs.up4 {S} (h : SLs w S (A :: B :: C :: D :: E :: F)) : SLs w S (E :: A :: B :: C :: D :: F) := (SLs.congr (fun _ => SLs.up3) h).swap
theorem SL.up4 (h : SL w (A :: B :: C :: D :: E :: F)) : SL w (E :: A :: B :: C :: D :: F) := SLs.up4 h
theorem SLs.up5 {S} (h : SLs w S (A :: B :: C :: D :: E :: G :: F)) : SLs w S (G :: A :: B :: C :: D :: E :: F) := (SLs.congr (fun _ => SLs.up4) h).swap
theorem SL.up5 (h : SL w (A :: B :: C :: D :: E :: G :: F)) : SL w (G :: A :: B :: C :: D :: E :: F) := SLs.up5 h
theorem SLs.up6 {S} (h : SLs w S (A :: B :: C :: D :: E :: G :: H :: F)) : SLs w S (H :: A :: B :: C :: D :: E :: G :: F) := (SLs.congr (fun _ => SLs.up5) h).swap
theorem SL.up6 (h : SL w (A :: B :: C :: D :: E :: G :: H :: F)) : SL w (H :: A :: B :: C :: D :: E :: G :: F) := SLs.up6 h
theorem SL.dn1 (h : SL w (A :: B :: F)) : SL w (B :: A :: F) := SLs.swap h
theorem SLs.dn2 {S} (h : SLs w S (A :: B :: C :: F)) : SLs w S (B :: C :: A :: F) := SLs.congr (fun _ => SLs.swap) h.swap
theorem SL.dn2 (h : SL w (A :: B :: C :: F)) : SL w (B :: C :: A :: F) := SLs.dn2 h
theorem SLs.dn3 {S} (h : SLs w S (A :: B :: C :: D :: F)) : SLs w S (B :: C :: D :: A :: F) := SLs.congr (fun _ => SLs.dn2) h.swap
theorem SL.dn3 (h : SL w (A :: B :: C :: D :: F)) : SL w (B :: C :: D :: A :: F) := SLs.dn3 h
theorem SLs.dn4 {S} (h : SLs w S (A :: B :: C :: D :: E :: F)) : SLs w S (B :: C :: D :: E :: A :: F) := SLs.congr (fun _ => SLs.dn3) h.swap
theorem SL.dn4 (h : SL w (A :: B :: C :: D :: E :: F)) : SL w (B :: C :: D :: E :: A :: F) := SLs.dn4 h
theorem SLs.tl {S} (h : SLs w S (A :: F)) : SLs w S F := by
 obtain ⟨T, _, _, h⟩ := h
 exact h.mono (fun k hk => hk.1)
theorem SL.tl (h : SL w (A :: F)) : SL w F := SLs.tl h
theorem SL.drop1 (h : SL w (A :: B :: F)) : SL w (A :: F) := SLs.tl (SLs.swap h)
theorem SL.drop2 (h : SL w (A :: B :: C :: F)) : SL w (A :: B :: F) := SLs.tl (SLs.up2 h)
theorem size_alloc (w : World) (o : Obj) : (w.alloc o).heap.size = w.heap.size + 1 := by simp
theorem SL.later {w' : World} (h : SL w L) (f : Frm Nil w w') : SL w' L :=
 (SLs.move h ⟨f.os, f.tape, f.output, fun k hk => f.block k hk id⟩).mono (fun k hk => Nat.lt_of_lt_of_le hk f.size)
theorem SL.drew (h : SL w L) : SL w.drew L := h.later ((Frm.refl _ _).drew)
theorem SL.drewN (h : SL w L) (n : Nat) : SL (w.drewN n) L := h.later ((Frm.refl _ _).drewN n)
theorem SL.allocd (h : SL w L) (o : Obj) : SL (w.alloc o) L := h.later ((Frm.refl _ _).alloc o)
theorem SL.call (h : SL w (A :: F)) : ∃ S : Nat → Prop, A.on S w ∧ (∀ k, S k → k < w.heap.size) ∧ ∀ (w' : World) (M : List Piece), Frm S w w' → SLs w' (New S w w') M → SL w' (M ++ F) := by
 obtain ⟨T, h1, h2, h3⟩ := h
 refine ⟨T, h2, h1, fun w' M f h4 => SLs.app.2 ⟨New T w w', fun k hk => ?_, h4, ?_⟩⟩
 ·rcases hk with hk | hk
  ·exact Nat.lt_of_lt_of_le (h1 k hk) f.size
  ·exact hk.2
 ·refine (h3.move ⟨f.os, f.tape, f.output, fun k hk => f.block k hk.1 hk.2⟩).mono (fun k hk => ⟨Nat.lt_of_lt_of_le hk.1 f.size, fun hn => ?_⟩)
  rcases hn with hn | hn
  ·exact hk.2 hn
  ·have := hk.1
   omega
theorem SL.new {w' : World} (h : SL w L) (f : Frm Nil w w') (hA : SLs w' (New Nil w w') M) : SL w' (M ++ L) := by
 refine SLs.app.2 ⟨New Nil w w', fun k hk => hk.elim (fun f => f.elim) (fun g => g.2), hA, ?_⟩
 exact (SLs.move h ⟨f.os, f.tape, f.output, fun k hk => f.block k hk id⟩).mono (fun k hk => ⟨Nat.lt_of_lt_of_le hk f.size, fun hn => hn.elim (fun f => f.elim) (fun g => by omega)⟩)
theorem SL.alloc (h : SL w L) (o : Obj) : SL (w.alloc o) (blk w.heap.size o :: L) :=
 h.new (M := [blk w.heap.size o]) ((Frm.refl _ _).alloc o) ⟨_, fun _ h => h, ⟨.inr ⟨Nat.le_refl _, by simp⟩, heap_alloc_new w o⟩, trivial⟩
theorem SL.set {g : Nat} {cs : Array Value} {t : TypeId} (h : SL w (row g cs t :: F)) (i : Nat) (v : Value) : SL (w.setCell ⟨g, i, none⟩ v) (row g (cs.setIfInBounds i v) t :: F) := by
 obtain ⟨S, h1, h2, h3⟩ := h.call
 exact h3 _ [row g (cs.setIfInBounds i v) t] ((Frm.refl S w).setCell (p := ⟨g, i, none⟩) (fun _ => h1.1) v) ⟨_, fun _ h => h, ⟨.inl h1.1, blk_set h1.2 i v⟩, trivial⟩
theorem SL.scr {g : Nat} (h : SL w (any g :: F)) (i : Nat) (v : Value) : SL (w.setCell ⟨g, i, none⟩ v) (any g :: F) := by
 obtain ⟨S, h1, h2, h3⟩ := h.call
 exact h3 _ [any g] ((Frm.refl S w).setCell (p := ⟨g, i, none⟩) (fun _ => h1) v) ⟨_, fun _ h => h, .inl h1, trivial⟩
theorem SL.toAny {g : Nat} {o : Obj} (h : SL w (blk g o :: F)) : SL w (any g :: F) := by
 obtain ⟨T, h1, h2, h3⟩ := h
 exact ⟨T, h1, h2.1, h3⟩
theorem SL.conv (h : SL w (A :: F)) (hh : ∀ S, (∀ k, S k → k < w.heap.size) → A.on S w → B.on S w) : SL w (B :: F) := by
 obtain ⟨T, h1, h2, h3⟩ := h
 exact ⟨T, h1, hh T h1 h2, h3⟩
theorem SL.on (h : SL w (A :: F)) : ∃ S : Nat → Prop, (∀ k, S k → k < w.heap.size) ∧ A.on S w := by
 obtain ⟨T, h1, h2, h3⟩ := h
 exact ⟨T, h1, h2⟩
theorem SL.exP {α : Type} {f : α → Piece} : SL w (exP f :: F) ↔ ∃ a, SL w (f a :: F) :=
 ⟨fun ⟨T, h1, ⟨a, h2⟩, h3⟩ => ⟨a, T, h1, h2, h3⟩, fun ⟨a, T, h1, h2, h3⟩ => ⟨T, h1, ⟨a, h2⟩, h3⟩⟩
theorem SL.andP {p : Prop} : SL w (andP p A :: F) ↔ p ∧ SL w (A :: F) :=
 ⟨fun ⟨T, h1, ⟨a, h2⟩, h3⟩ => ⟨a, T, h1, h2, h3⟩, fun ⟨a, T, h1, h2, h3⟩ => ⟨T, h1, ⟨a, h2⟩, h3⟩⟩
theorem SL.all : SL w (all L :: F) ↔ SL w (L ++ F) := SLs.app.symm
theorem SL.start (w : World) : SL w [Old w] := ⟨_, fun _ h => h, ⟨rfl, rfl, rfl, fun k hk => ⟨hk, rfl⟩⟩, trivial⟩
theorem SL.old {w0 : World} (h : SL w (Old w0 :: F)) : Frm Nil w0 w := by
 obtain ⟨T, h1, ⟨h2, h3, h4, h5⟩, h6⟩ := h
 refine ⟨h2, h3, h4, Nat.le_of_not_lt (fun hlt => ?_), fun k hk _ => (h5 k hk).2⟩
 have := h1 w.heap.size (h5 _ hlt).1
 omega
theorem SLs.at {A : Piece} : ∀ {L : List Piece} {S : Nat → Prop} (i : Nat), SLs w S L → L[i]? = some A → ∃ T : Nat → Prop, (∀ k, T k → S k) ∧ A.on T w
 | [], _, i, _, h => by simp at h
 | B :: L, S, 0, ⟨T, h1, h2, _⟩, h => by
  simp at h
  subst h
  exact ⟨T, h1, h2⟩
 | B :: L, S, i + 1, ⟨T, h1, _, h3⟩, h => by
  obtain ⟨U, u1, u2⟩ := SLs.at i h3 (by simpa using h)
  exact ⟨U, fun k hk => (u1 k hk).1, u2⟩
theorem SL.at {g : Nat} {o : Obj} (h : SL w L) (i : Nat) (hi : L[i]? = some (blk g o)) : w.heap[g]? = some o := by
 obtain ⟨T, _, _, h⟩ := SLs.at i h hi
 exact h
theorem SLs.two {A B : Piece} : ∀ {L : List Piece} {S : Nat → Prop} (i j : Nat), i < j → SLs w S L → L[i]? = some A → L[j]? = some B → ∃ T U : Nat → Prop, (∀ k, T k → ¬ U k) ∧ A.on T w ∧ B.on U w
 | [], _, i, _, _, _, h, _ => by simp at h
 | C :: L, S, 0, j + 1, _, ⟨T, h1, h2, h3⟩, h, h' => by
  simp at h
  subst h
  obtain ⟨U, u1, u2⟩ := SLs.at j h3 (by simpa using h')
  exact ⟨T, U, fun k hk hu => (u1 k hu).2 hk, h2, u2⟩
 | C :: L, S, i + 1, j + 1, hij, ⟨T, h1, _, h3⟩, h, h' => SLs.two i j (by omega) h3 (by simpa using h) (by simpa using h')
theorem SL.ne {a b : Nat} {o p : Obj} (h : SL w L) (i j : Nat) (hij : i < j) (hi : L[i]? = some (blk a o)) (hj : L[j]? = some (blk b p)) : a ≠ b ∧ b ≠ a := by
 obtain ⟨T, U, h1, h2, h3⟩ := SLs.two i j hij h hi hj
 have : a ≠ b := fun e => h1 a h2.1 (by rw [e]; exact h3.1)
 exact ⟨this, fun e => this e.symm⟩
theorem SL.at0 {g : Nat} {o : Obj} (h : SL w (blk g o :: F)) : w.heap[g]? = some o := h.at 0 rfl
theorem SL.at1 {g : Nat} {o : Obj} (h : SL w (A :: blk g o :: F)) : w.heap[g]? = some o := h.at 1 rfl
theorem SL.at2 {g : Nat} {o : Obj} (h : SL w (A :: B :: blk g o :: F)) : w.heap[g]? = some o := h.at 2 rfl
theorem SL.at3 {g : Nat} {o : Obj} (h : SL w (A :: B :: C :: blk g o :: F)) : w.heap[g]? = some o := h.at 3 rfl
end
def nth : List Piece → Nat → Piece
 | [], _ => emp
 | A :: _, 0 => A
 | _ :: L, i + 1 => nth L i
def pk (is : List Nat) (n : Nat) (L : List Piece) : List Piece := is.map (nth L) ++ L.drop n
theorem pkA {α β : Type} {f : α → β} {a : α} {l : List α} : List.map f (a :: l) = f a :: List.map f l := rfl
theorem pkB {α β : Type} {f : α → β} : List.map f [] = [] := rfl
theorem pkC {α : Type} {a : α} {l m : List α} : (a :: l) ++ m = a :: (l ++ m) := rfl
theorem pkD {α : Type} {m : List α} : [] ++ m = m := rfl
theorem pkE {α : Type} {n : Nat} {a : α} {l : List α} : List.drop (n + 1) (a :: l) = List.drop n l := rfl
theorem pkF {α : Type} {l : List α} : List.drop 0 l = l := rfl
theorem SLs.fam {w : World} : ∀ {L : List Piece} {S : Nat → Prop}, SLs w S L → ∃ f : Nat → Nat → Prop, (∀ i k, f i k → S k) ∧ (∀ i j k, f i k → f j k → i = j) ∧ ∀ i, (nth L i).on (f i) w
 | [], S, _ => ⟨fun _ _ => False, fun _ _ h => h.elim, fun _ _ _ h => h.elim, fun i => by cases i <;> trivial⟩
 | A :: L, S, ⟨T, h1, h2, h3⟩ => by
  obtain ⟨f, f1, f2, f3⟩ := SLs.fam h3
  refine ⟨fun i => match i with | 0 => T | i + 1 => f i, fun i k hk => ?_, fun i j k hi hj => ?_, fun i => ?_⟩
  ·cases i with
   | zero => exact h1 k hk
   | succ i => exact (f1 i k hk).1
  ·cases i with
   | zero =>
    cases j with
    | zero => rfl
    | succ j => exact absurd hi (f1 j k hj).2
   | succ i =>
    cases j with
    | zero => exact absurd hj (f1 i k hi).2
    | succ j => rw [f2 i j k hi hj]
  ·cases i with
   | zero => exact h2
   | succ i => exact f3 i
theorem SLs.of_fam {w : World} : ∀ (L : List Piece) (S : Nat → Prop) (f : Nat → Nat → Prop), (∀ i k, f i k → S k) → (∀ i j k, i < L.length → j < L.length → f i k → f j k → i = j) → (∀ i, i < L.length → (nth L i).on (f i) w) → SLs w S L
 | [], _, _, _, _, _ => trivial
 | A :: L, S, f, f1, f2, f3 => by
  have key : SLs w (fun k => (∃ i, i < L.length ∧ f (i + 1) k)) L := by
   refine SLs.of_fam L _ (fun i k => i < L.length ∧ f (i + 1) k) (fun i k hk => ⟨i, hk⟩) (fun i j k hi hj h1 h2 => ?_) (fun i hi => ?_)
   ·have := f2 (i + 1) (j + 1) k (by simpa using hi) (by simpa using hj) h1.2 h2.2
    omega
   ·exact (nth L i).mono (f3 (i + 1) (by simpa using hi)) (fun k hk => ⟨hi, hk⟩)
  refine ⟨f 0, f1 0, f3 0 (by simp), key.mono (fun k hk => ?_)⟩
  obtain ⟨i, hi, hk⟩ := hk
  refine ⟨f1 _ _ hk, fun h0 => ?_⟩
  have := f2 0 (i + 1) k (by simp) (by simpa using hi) h0 hk
  omega
theorem nth_app_left : ∀ (L M : List Piece) (i : Nat), i < L.length → nth (L ++ M) i = nth L i
 | A :: L, M, 0, _ => rfl
 | A :: L, M, i + 1, h => nth_app_left L M i (by simpa using h)
theorem nth_app_right : ∀ (L M : List Piece) (i : Nat), nth (L ++ M) (L.length + i) = nth M i
 | [], M, i => by simp
 | A :: L, M, i => by
  rw [List.length_cons, show L.length + 1 + i = (L.length + i) + 1 by omega]
  exact nth_app_right L M i
theorem nth_drop : ∀ (n : Nat) (L : List Piece) (i : Nat), nth (L.drop n) i = nth L (n + i)
 | 0, L, i => by simp
 | n + 1, [], i => by simp [nth]
 | n + 1, A :: L, i => by
  rw [List.drop_succ_cons, show n + 1 + i = (n + i) + 1 by omega]
  exact nth_drop n L i
theorem nth_map (L : List Piece) : ∀ (is : List Nat) (i : Nat) (h : i < is.length), nth (is.map (nth L)) i = nth L is[i]
 | a :: is, 0, _ => rfl
 | a :: is, i + 1, h => nth_map L is i (by simpa using h)
theorem SL.pick {w : World} {L : List Piece} (h : SL w L) (is : List Nat) (n : Nat) (hd : is.Nodup ∧ ∀ i ∈ is, i < n) : SL w (pk is n L) := by
 obtain ⟨f, f1, f2, f3⟩ := SLs.fam h
 refine SLs.of_fam _ _ (fun i k => if h : i < is.length then f is[i] k else f (n + (i - is.length)) k) (fun i k hk => ?_) (fun i j k hi hj h1 h2 => ?_) (fun i hi => ?_)
 ·split at hk
  ·exact f1 _ _ hk
  ·exact f1 _ _ hk
 ·by_cases a : i < is.length
  ·rw [dif_pos a] at h1
   by_cases b : j < is.length
   ·rw [dif_pos b] at h2
    have e := f2 _ _ _ h1 h2
    have key := List.pairwise_iff_getElem.1 hd.1
    rcases Nat.lt_trichotomy i j with lt | lt | lt
    ·exact absurd e (key i j a b lt)
    ·exact lt
    ·exact absurd e.symm (key j i b a lt)
   ·rw [dif_neg b] at h2
    have e := f2 _ _ _ h1 h2
    have := hd.2 is[i] (List.getElem_mem a)
    omega
  ·rw [dif_neg a] at h1
   by_cases b : j < is.length
   ·rw [dif_pos b] at h2
    have e := f2 _ _ _ h1 h2
    have := hd.2 is[j] (List.getElem_mem b)
    omega
   ·rw [dif_neg b] at h2
    have e := f2 _ _ _ h1 h2
    omega
 ·by_cases a : i < is.length
  ·have e : nth (pk is n L) i = nth L is[i] := by
    unfold pk
    rw [nth_app_left _ _ _ (by simpa using a), nth_map L is i a]
   rw [e]
   refine (nth L is[i]).mono (f3 is[i]) (fun k hk => ?_)
   rw [dif_pos a]
   exact hk
  ·have e : nth (pk is n L) i = nth L (n + (i - is.length)) := by
    unfold pk
    have := nth_app_right (is.map (nth L)) (L.drop n) (i - is.length)
    rw [List.length_map, show is.length + (i - is.length) = i by omega] at this
    rw [this, nth_drop]
   rw [e]
   refine (nth L (n + (i - is.length))).mono (f3 _) (fun k hk => ?_)
   rw [dif_neg a]
   exact hk
def drL : Nat → List Piece → List Piece
 | 0, L => L
 | _ + 1, [] => []
 | n + 1, _ :: L => drL n L
theorem drL_is : ∀ (n : Nat) (L : List Piece), drL n L = L.drop n
 | 0, L => rfl
 | n + 1, [] => by simp [drL]
 | n + 1, A :: L => by rw [drL, List.drop_succ_cons, drL_is n L]
def pl : List Nat → Nat → List Piece → List Piece
 | [], n, L => drL n L
 | i :: is, n, L => nth L i :: pl is n L
theorem pl_is : ∀ (is : List Nat) (n : Nat) (L : List Piece), pl is n L = pk is n L
 | [], n, L => drL_is n L
 | i :: is, n, L => by
  rw [pl, pl_is is n L]
  rfl
theorem SL.pi {w : World} {L : List Piece} (h : SL w L) (is : List Nat) (n : Nat) (hd : is.Nodup ∧ ∀ i ∈ is, i < n := by decide) : SL w (pl is n L) := by
 rw [pl_is]
 exact h.pick is n hd
theorem SL.slcNil {w : World} {F : List Piece} (te sz : Nat) (h : SL w F) : SL w (Slc te sz (.slice none 0 0) 0 [] :: F) :=
 ⟨fun _ => False, fun _ h => h.elim, ⟨World.ownsRow_nil _ _ _ _, fun k hk => by cases hk⟩, h.mono (fun k hk => ⟨hk, id⟩)⟩
section
variable {P : Program} {ops : Array Oper} {rest : List Oper} {o : Oper} {a : Act} {Q : Exit → Act → World → Prop}
theorem sl_app {te sz : Nat} {W : World} {F : List Piece} (hgd : o.guard = none) (s x : Operand) (t : TypeId) (z : Value) (bytes : Nat)
  (ho : o.op = .call { callee := .builtin .append, args := #[s, x], argTypes := #[t, t] })
  (ht : P.underlying t = some (.slice te)) (hinfo : (P.info? te).map (fun i => (i.zero, i.size, i.bytes)) = some (some z, sz, bytes)) (hz : z.cells.size = sz) (hs0 : 0 < sz)
  (v : Value) (n : Nat) (cs ys : List Value) (hs : a.eval s = v) {b0 : Nat} (hx : a.eval x = .slice (some ⟨b0, 0, none⟩) 1 1) (hb0 : b0 = W.heap.size) (hys : ys.length = sz) (h1 : ys.all Value.oneCell' = true)
  (H : SL W (Slc te sz v n cs :: F)) (hn : n < 1000000000) (hl : bytes ≤ 1000)
  (h : ∀ g c w1, SL w1 (Slc te sz (.slice (some ⟨g, 0, none⟩) (n + 1) c) (n + 1) (cs ++ ys) :: F) → W.heap.size ≤ w1.heap.size → wpList P ops Q rest (a.put o.dst (.slice (some ⟨g, 0, none⟩) (n + 1) c)) w1) :
  wpList P ops Q (o :: rest) a (W.alloc (.cells ys.toArray te)) := by
 obtain ⟨S, ⟨h2, h3⟩, h4, h5⟩ := H.call
 refine app_one hgd s x t te z sz bytes ho ht hinfo hz hs0 v n cs ys hs hx hb0 hys h1 h2 hn hl ?_
 intro g c w1 k1 k2 k3
 refine h g c w1 (h5 w1 [Slc te sz (.slice (some ⟨g, 0, none⟩) (n + 1) c) (n + 1) (cs ++ ys)] (k2.mono (fun k _ hk => h3 k hk)) ⟨_, fun _ h => h, ⟨k1, fun k hk => ?_⟩, trivial⟩) k2.size
 injection hk with hk
 dsimp only at hk
 subst hk
 have hlt := own_lt k1 (k := g) rfl
 rcases k3 with k3 | k3
 ·exact .inl (h3 _ k3)
 ·exact .inr ⟨k3, hlt⟩
end
theorem rd_new (w : World) (ys : List Value) (te sz : Nat) (h : ys.length = sz) : Rd (w.alloc (.cells ys.toArray te)) sz (some ⟨w.heap.size, 0, none⟩) 1 ys :=
 ⟨by rw [h, Nat.one_mul], by decide, fun _ => ⟨_, 0, rfl, fun i u hu => row_cell (heap_alloc_new w (.cells ys.toArray te)) (0 + i) (by rw [Nat.zero_add]; simpa using hu)⟩⟩
theorem append_nothing {P : Program} (W : World) (t ty te : TypeId) {sz n : Nat} {i : TypeInfo} (ht : P.underlying t = some (.slice te)) (hi : P.info? te = some i) {v : Value} {cs : List Value} (hown : W.ownsRow 0 te sz v n cs) (c : Nat) :
  (Builtin.append_ #[t, t] ty #[v, .slice none 0 c]).run P W = .ok v W := by
 rcases hown.2 with ⟨rfl, rfl⟩ | ⟨g, cap, cur, rfl, _, _, hle, _⟩
 all_goals simp [Builtin.append_, Builtin.lenOf, Builtin.firstCells, run_underlying ht, sizeOf, typeInfo, hi]
 simp [hle, storeCells]
theorem sl_append_run {P : Program} {te sz : Nat} {W : World} {F : List Piece} (t ty : TypeId) (z : Value) (bytes : Nat)
  (ht : P.underlying t = some (.slice te)) (hinfo : (P.info? te).map (fun i => (i.zero, i.size, i.bytes)) = some (some z, sz, bytes)) (hz : z.cells.size = sz) (hs0 : 0 < sz)
  (v : Value) (n : Nat) (cs : List Value) (A : Option Addr) (m c : Nat) (news : List Value) (hr : Rd W sz A m news) (h1 : news.all Value.oneCell' = true)
  (H : SL W (Slc te sz v n cs :: F)) (hn : n + m < 1000000000) (hl : bytes ≤ 1000) :
  ∃ v1 w1, (Builtin.append_ #[t, t] ty #[v, .slice A m c]).run P W = .ok v1 w1 ∧ SL w1 (Slc te sz v1 (n + m) (cs ++ news) :: F) ∧ W.heap.size ≤ w1.heap.size := by
 obtain ⟨i0, hi, hzz⟩ := Option.map_eq_some_iff.1 hinfo
 simp only [Prod.mk.injEq] at hzz
 obtain ⟨hz0, hz1, hz2⟩ := hzz
 obtain ⟨S, ⟨h2, h3⟩, h4, h5⟩ := H.call
 rcases A with _ | ad
 ·have hm : m = 0 := by
   rcases Nat.eq_zero_or_pos m with h0 | h0
   ·exact h0
   ·obtain ⟨b, off, h, _⟩ := hr.2.2 h0
    cases h
  subst hm
  have hnn : news = [] := List.eq_nil_of_length_eq_zero (by simpa using hr.1)
  subst hnn
  refine ⟨v, W, append_nothing W t ty te ht hi h2 c, ?_, Nat.le_refl _⟩
  rw [Nat.add_zero, List.append_nil]
  exact H
 ·have hcells : ∀ j u, news[j]? = some u → W.cell? (ad.add j) = some u := by
   intro j u hu
   rcases Nat.eq_zero_or_pos m with h0 | h0
   ·subst h0
    have hnn : news = [] := List.eq_nil_of_length_eq_zero (by simpa using hr.1)
    subst hnn
    simp at hu
   ·obtain ⟨b, off, h, hc⟩ := hr.2.2 h0
    injection h with h
    subst h
    have := hc j u hu
    unfold Addr.add
    split
    ·rename_i h0; subst h0; exact this
    ·exact this
  obtain ⟨v1, w1, hrun, k1, k2, _, k3⟩ := run_append_own_at (P := P) W 0 t ty te i0 z sz bytes ht hi hz0 hz1 hz2 hz hs0 v n cs h2 ad m c news hr.1 hcells (List.all_eq_true.1 h1) (by simp only [maxLen]; omega) (Nat.le_trans (Nat.mul_le_mul (show n + m ≤ 1000000000 by omega) hl) (by decide)) (Nat.zero_le _)
  refine ⟨v1, w1, hrun, h5 w1 [Slc te sz v1 (n + m) (cs ++ news)] ((Frm.refl _ W).grown k2 (fun k hk _ => h3 k hk)) ⟨_, fun _ h => h, ⟨k1, fun k hk => ?_⟩, trivial⟩, k2.size⟩
  rcases k3 with k3 | k3
  ·exact .inl (h3 k (by rw [← k3]; exact hk))
  ·rw [k3] at hk
   injection hk with hk
   exact .inr ⟨by omega, own_lt k1 (by rw [k3, hk])⟩
section
variable {P : Program} {ops : Array Oper} {rest : List Oper} {o : Oper} {a : Act} {Q : Exit → Act → World → Prop} {K : Act → World → Prop}
theorem wp_sl_append {te sz : Nat} {W : World} {F : List Piece} (s x : Operand) (t : TypeId) (z : Value) (bytes : Nat)
  (ho : o.op = .call { callee := .builtin .append, args := #[s, x], argTypes := #[t, t] })
  (ht : P.underlying t = some (.slice te)) (hinfo : (P.info? te).map (fun i => (i.zero, i.size, i.bytes)) = some (some z, sz, bytes)) (hz : z.cells.size = sz) (hs0 : 0 < sz)
  (v : Value) (n : Nat) (cs : List Value) (hs : a.eval s = v) (A : Option Addr) (m c : Nat) (news : List Value) (hx : a.eval x = .slice A m c) (hr : Rd W sz A m news) (h1 : news.all Value.oneCell' = true)
  (H : SL W (Slc te sz v n cs :: F)) (hn : n + m < 1000000000) (hl : bytes ≤ 1000)
  (h : ∀ v1 w1, SL w1 (Slc te sz v1 (n + m) (cs ++ news) :: F) → W.heap.size ≤ w1.heap.size → K (a.put o.dst v1) w1) : o.wp P a W K Q := by
 obtain ⟨v1, w1, hrun, k1, k2⟩ := sl_append_run (P := P) t o.type z bytes ht hinfo hz hs0 v n cs A m c news hr h1 H hn hl
 unfold Oper.wp execOp
 simp only [ho, resolve, invoke, builtin, Sem.run_bind, Sem.run_pure, Result.andThen_ok, List.map_toArray, List.map_cons, List.map_nil, hs, hx, hrun]
 exact h v1 w1 k1 k2
theorem sl_append {te sz : Nat} {W : World} {F : List Piece} (hgd : o.guard = none) (s x : Operand) (t : TypeId) (z : Value) (bytes : Nat)
  (ho : o.op = .call { callee := .builtin .append, args := #[s, x], argTypes := #[t, t] })
  (ht : P.underlying t = some (.slice te)) (hinfo : (P.info? te).map (fun i => (i.zero, i.size, i.bytes)) = some (some z, sz, bytes)) (hz : z.cells.size = sz) (hs0 : 0 < sz)
  (v : Value) (n : Nat) (cs : List Value) (hs : a.eval s = v) (A : Option Addr) (m c : Nat) (news : List Value) (hx : a.eval x = .slice A m c) (hr : Rd W sz A m news) (h1 : news.all Value.oneCell' = true)
  (H : SL W (Slc te sz v n cs :: F)) (hn : n + m < 1000000000) (hl : bytes ≤ 1000)
  (h : ∀ v1 w1, SL w1 (Slc te sz v1 (n + m) (cs ++ news) :: F) → W.heap.size ≤ w1.heap.size → wpList P ops Q rest (a.put o.dst v1) w1) : wpList P ops Q (o :: rest) a W :=
 wpList_plain hgd fun _ hK => wp_sl_append s x t z bytes ho ht hinfo hz hs0 v n cs hs A m c news hx hr h1 H hn hl (fun v1 w1 k1 k2 => hK _ _ (h v1 w1 k1 k2))
theorem step_sl_append {te sz : Nat} {W : World} {F : List Piece} {E : Prop} (hgd : o.guard = none) (s x : Operand) (t : TypeId) (z : Value) (bytes : Nat)
  (ho : o.op = .call { callee := .builtin .append, args := #[s, x], argTypes := #[t, t] })
  (ht : P.underlying t = some (.slice te)) (hinfo : (P.info? te).map (fun i => (i.zero, i.size, i.bytes)) = some (some z, sz, bytes)) (hz : z.cells.size = sz) (hs0 : 0 < sz)
  (v : Value) (n : Nat) (cs : List Value) (hs : a.eval s = v) (A : Option Addr) (m c : Nat) (news : List Value) (hx : a.eval x = .slice A m c) (hr : Rd W sz A m news) (h1 : news.all Value.oneCell' = true)
  (H : SL W (Slc te sz v n cs :: F)) (hn : n + m < 1000000000) (hl : bytes ≤ 1000)
  (h : ∀ v1 w1, SL w1 (Slc te sz v1 (n + m) (cs ++ news) :: F) → W.heap.size ≤ w1.heap.size → K (a.put o.dst v1) w1) : if Region.wanted o (yielded ops a.tmps) = true then o.wp P a W K Q else E := by
 rw [if_pos (by simp [Region.wanted, hgd])]
 exact wp_sl_append s x t z bytes ho ht hinfo hz hs0 v n cs hs A m c news hx hr h1 H hn hl h
end
theorem enters {P : Program} {f : FuncId} {fn : Func} (hf : P.funcs[f]? = some fn) (hname : (fn.name == "runtime.NumGoroutine") = false) (hb' : fn.body.isSome = true) (args : Array Value) (w : World) :
  (callFunc f args).run P w = .ok (.enter f args) w := by
 have h1 : fn.name ≠ "runtime.NumGoroutine" := by simpa using hname
 obtain ⟨c, hb⟩ := Option.isSome_iff_exists.1 hb'
 simp [callFunc, hf, h1, hb]
def recvF (x : PipeM) : GotM × PipeM :=
 match x.buf, x.senders with
 | a :: L, m :: l => (⟨true, true, true, a, m⟩, { x with buf := L ++ [m.value], senders := l, sent := x.sent + 1, received := x.received + 1 })
 | a :: L, [] => (⟨true, true, false, a, wzero⟩, { x with buf := L, received := x.received + 1 })
 | [], m :: l => (⟨true, true, true, m.value, m⟩, { x with senders := l, sent := x.sent + 1, received := x.received + 1 })
 | [], [] => if x.closed then ({ gzero with ready := true }, x) else (gzero, x)
section
variable {w : World} {F : List Piece} {g : Nat} {x : PipeM}
end
theorem wtr_at {w : World} {a : Option Addr} {n : Nat} {L : List Wtr} (h : Rd w 3 a n (L.flatMap Wtr.cells)) (k : Nat) (hk : k < L.length) : ∃ b off, a = some ⟨b, off, none⟩ ∧
  w.cell? ⟨b, off + k * 3, none⟩ = some (.int .i64 L[k].g) ∧ w.cell? ⟨b, off + k * 3 + 1, none⟩ = some (.int .i64 L[k].case_) ∧ w.cell? ⟨b, off + k * 3 + 2, none⟩ = some (.int .i64 L[k].value) := by
 have hl := h.1
 rw [flat_length Wtr.cells 3 (fun _ => rfl)] at hl
 obtain ⟨b, off, rfl, hc⟩ := h.2.2 (by omega)
 have key : ∀ j (hj : j < 3), ∀ u, (L[k].cells)[j]? = some u → w.cell? ⟨b, off + k * 3 + j, none⟩ = some u := fun j hj u hu => by
  rw [Nat.add_assoc]
  exact hc (k * 3 + j) u (by rw [flat_get Wtr.cells 3 (fun _ => rfl) L k j hj hk]; exact hu)
 exact ⟨b, off, rfl, key 0 (by omega) _ rfl, key 1 (by omega) _ rfl, key 2 (by omega) _ rfl⟩
section
variable {w : World} {F : List Piece} {g : Nat} {x : PipeM}
def aloneF (x : PipeM) (s : Bool) (i : Int) : Bool := decide (0 < (if s then x.senders else x.receivers).length) && (!x.closed && (decide (x.size = 0) && !((if s then x.senders else x.receivers).any (fun m => !(m.g == i)))))
end
def RdP (a : Option Addr) (n sz : Nat) (xs : List Value) : Piece where
 on S w := Rd w sz a n xs ∧ ∀ b o, a = some ⟨b, o, none⟩ → 0 < n → S b
 move := by
  rintro S w w' ⟨h1, h2⟩ s
  refine ⟨⟨h1.1, h1.2.1, fun hn => ?_⟩, h2⟩
  obtain ⟨b, off, ha, hc⟩ := h1.2.2 hn
  exact ⟨b, off, ha, fun i u hu => (World.cell?_of_block (w := w) (s.block b (h2 b off ha hn))).trans (hc i u hu)⟩
 mono h k := ⟨h.1, fun b o hb hn => k b (h.2 b o hb hn)⟩
theorem SL.rd {w : World} {F : List Piece} {a : Option Addr} {n sz : Nat} {xs : List Value} (h : SL w (RdP a n sz xs :: F)) : Rd w sz a n xs := by
 obtain ⟨S, _, h⟩ := h.on
 exact h.1
theorem SL.rdNew {w w' : World} {F : List Piece} {a : Option Addr} {n sz : Nat} {xs : List Value} (h : SL w F) (hr : Rd w' sz a n xs) (hs : 0 < sz) (hn : ∀ b o, a = some ⟨b, o, none⟩ → w.heap.size ≤ b) (f : Frm Nil w w') : SL w' (RdP a n sz xs :: F) := by
 refine h.new (M := [RdP a n sz xs]) f ⟨_, fun _ h => h, ⟨hr, fun b o hb hn' => .inr ⟨hn b o hb, ?_⟩⟩, trivial⟩
 obtain ⟨b', off, ha, hc⟩ := hr.2.2 hn'
 rw [hb] at ha
 injection ha with ha
 injection ha with ha1 ha2
 subst ha1
 have hl : 0 < xs.length := by
  rw [hr.1]
  exact Nat.mul_pos hn' hs
 exact World.block_lt_of_cell? w' _ (hc 0 _ (List.getElem?_eq_getElem hl))
theorem SL.rdNil {w : World} {F : List Piece} (sz : Nat) (h : SL w F) : SL w (RdP none 0 sz [] :: F) :=
 ⟨fun _ => False, fun _ h => h.elim, ⟨⟨by simp, Nat.zero_le _, fun h => absurd h (Nat.lt_irrefl 0)⟩, fun b o hb => by cases hb⟩, h.mono (fun k hk => ⟨hk, id⟩)⟩
theorem Wtrs.sl {w w' : World} {F : List Piece} {L : List Wtr} {e : Ending} (h : Wtrs w L e w') (H : SL w F) : ∃ a cap, e = .returned (.slice a L.length cap) ∧ SL w' (RdP a L.length 3 (L.flatMap Wtr.cells) :: F) := by
 obtain ⟨a, cap, rfl, h1, h2, h3⟩ := h
 exact ⟨a, cap, rfl, H.rdNew h1 (by decide) h2 h3⟩
section
variable {w : World} {F : List Piece} {g : Nat} {x : PipeM}
def waitF (x : PipeM) (s : Bool) (m : Wtr) : Int × PipeM :=
 if readyF x s && !aloneF x (!s) m.g then (7, x)
 else if s then ((addF x.senders m).1, { x with senders := (addF x.senders m).2 }) else ((addF x.receivers m).1, { x with receivers := (addF x.receivers m).2 })
def closeF (x : PipeM) : (List Wtr × List Wtr × Int) × PipeM :=
 if x.closed then (([], [], 90), x) else ((x.receivers, x.senders, 0), { x with closed := true, senders := [], receivers := [] })
end
theorem Rd.cut {w : World} {sz n k cap d : Nat} {a : Option Addr} {xs : List Value} (h : Rd w sz a n xs) (hd : k * sz = d) (hk : k ≤ n) (hc : n ≤ cap) :
  Rd w sz (if cap = k then a else a.map (fun x => ⟨x.block, x.off + d, none⟩)) (n - k) (xs.drop d) := by
 subst hd
 refine ⟨by rw [List.length_drop, h.1, Nat.sub_mul], Nat.le_trans (Nat.sub_le _ _) h.2.1, fun hn => ?_⟩
 obtain ⟨b, off, rfl, hcell⟩ := h.2.2 (by omega)
 rw [if_neg (by omega)]
 refine ⟨b, off + k * sz, rfl, fun j u hu => ?_⟩
 rw [Nat.add_assoc]
 exact hcell _ u (by rw [← hu, List.getElem?_drop])
theorem SL.slc {w : World} {F : List Piece} {te sz n : Nat} {v : Value} {xs : List Value} (h : SL w (Slc te sz v n xs :: F)) : ∃ a cap, v = .slice a n cap ∧ n ≤ cap ∧ cap ≤ maxLen ∧ Rd w sz a n xs := by
 obtain ⟨S, _, h1, _⟩ := h.on
 rcases h1.2 with ⟨rfl, rfl⟩ | ⟨g, cap, cur, rfl, _, _, h2, h3, _⟩
 ·exact ⟨none, 0, rfl, Nat.le_refl _, Nat.zero_le _, Rd.of_own h1⟩
 ·exact ⟨_, cap, rfl, h2, h3, Rd.of_own h1⟩
def Reader (A : Piece) (sz : Nat) (a : Option Addr) (n : Nat) (xs : List Value) : Prop := ∀ (S : Nat → Prop) (w : World), A.on S w → Rd w sz a n xs
theorem Reader.slc {te sz n cap : Nat} {a : Option Addr} {xs : List Value} : Reader (Slc te sz (.slice a n cap) n xs) sz a n xs := fun S w h => Rd.of_own h.1
theorem Reader.rdp {sz n : Nat} {a : Option Addr} {xs : List Value} : Reader (RdP a n sz xs) sz a n xs := fun S w h => h.1
theorem Reader.old {w0 : World} {sz n : Nat} {a : Option Addr} {xs : List Value} (h : Rd w0 sz a n xs) : Reader (Old w0) sz a n xs := by
 intro S w ho
 refine ⟨h.1, h.2.1, fun hn => ?_⟩
 obtain ⟨b, off, ha, hc⟩ := h.2.2 hn
 refine ⟨b, off, ha, fun i u hu => ?_⟩
 have hx := hc i u hu
 exact (World.cell?_of_block (w := w0) (ho.2.2.2 b (World.block_lt_of_cell? w0 _ hx)).2).trans hx
theorem SL.read {w : World} {A : Piece} {F : List Piece} {sz n : Nat} {a : Option Addr} {xs : List Value} (h : SL w (A :: F)) (hr : Reader A sz a n xs) : Rd w sz a n xs := by
 obtain ⟨S, _, h1⟩ := h.on
 exact hr S w h1
theorem infoW8 : (Tryz.prog.info? 200).map (fun i => (i.zero, i.size, i.bytes)) = some (some (.agg #[.int .i64 0, .int .i64 0, .int .i64 0]), 3, 24) := by kernel_rfl
theorem wcells_one (L : List Wtr) : (L.flatMap Wtr.cells).all Value.oneCell' = true := by
 rw [List.all_eq_true]
 intro u hu
 obtain ⟨x, _, hx⟩ := List.mem_flatMap.1 hu
 simp [Wtr.cells] at hx
 rcases hx with rfl | rfl | rfl <;> rfl
theorem ints_one (L : List Int) : (ints L).all Value.oneCell' = true := by
 rw [List.all_eq_true]
 intro u hu
 obtain ⟨x, _, rfl⟩ := List.mem_map.1 hu
 rfl
theorem wcells_drop (m : Wtr) (L : List Wtr) : ((m :: L).flatMap Wtr.cells).drop 3 = L.flatMap Wtr.cells := rfl
section
variable {w : World} {F : List Piece}
set_option maxHeartbeats 400000 in
theorem r_behind {a : Option Addr} {cap : Nat} {m : Wtr} {L : List Wtr} {n : Nat} (hn : n = L.length + 1) (hr : Rd w 3 a n ((m :: L).flatMap Wtr.cells)) (hc : n ≤ cap) (hm : cap ≤ maxLen) (hL : L.length ≤ 100000) (H : SL w F) :
  Calls Tryz.prog 173 #[.slice a n cap] w fun e w' => ∃ v, e = .returned v ∧ SL w' (Slc 200 3 v L.length (L.flatMap Wtr.cells) :: F) := by
 have hcut := hr.cut (k := 1) (d := 3) rfl (by omega) hc
 rw [wcells_drop, show n - 1 = L.length by omega] at hcut
 have h1 : (1 : Int) ≤ (n : Int) := by omega
 have h2 : (n : Int) ≤ (cap : Int) := by omega
 have h3 : (1 : Int) ≤ (cap : Int) := by omega
 have h4 : ((n : Int) - 1).toNat = L.length := by omega
 unfold maxLen at hm
 go_enter Tryz.func173, Tryz.ntmps173
 have H0 := SL.slcNil 200 3 H
 go_wp2_with (at_builtin; refine sl_append rfl _ _ 202 _ 24 rfl Tryz.underlying202 infoW8 rfl (by decide) (.slice none 0 0) 0 [] rfl _ _ _ _ rfl hcut (wcells_one L) H0 (by omega) (by decide) ?_; intro v1 w1 H1 hs1)
 all_goals
  go_ret
  rw [Nat.zero_add, List.nil_append] at H1
  exact ⟨v1, rfl, H1⟩
set_option maxRecDepth 100000 in
set_option maxHeartbeats 400000 in
theorem r_without {a : Option Addr} {cap : Nat} {L : List Wtr} {n : Nat} {A : Piece} (i : Int) (hn : n = L.length) (hA : Reader A 3 a n (L.flatMap Wtr.cells)) (hL : L.length ≤ 100000) (H : SL w (A :: F)) :
  Calls Tryz.prog 161 #[.slice a n cap, .int .i64 i] w fun e w' => ∃ v, e = .returned v ∧ SL w' (Slc 200 3 v (without i L).length ((without i L).flatMap Wtr.cells) :: A :: F) := by
 subst hn
 go_enter Tryz.func161, Tryz.ntmps161
 go_wp2
 go_loopw [5, 10] (fun v j wr => ∃ k : Nat, k ≤ L.length ∧ j = .int .i64 k ∧ SL wr (Slc 200 3 v (without i (L.take k)).length ((without i (L.take k)).flatMap Wtr.cells) :: A :: F)) (fun _ j _ => L.length - (intOf j).toNat)
 case atStart => exact ⟨0, Nat.zero_le _, rfl, SL.slcNil _ _ H⟩
 case round =>
  obtain ⟨k, hk, rfl, HR⟩ := hrel
  by_cases hlt : k < L.length
  ·obtain ⟨b, off, rfl, d0, d1, d2⟩ := wtr_at (HR.up1.read hA) k hlt
   have hsn := without_snoc i L k hlt
   have hml : (without i (L.take k)).length ≤ L.length := Nat.le_trans (without_le i _) (by rw [List.length_take]; omega)
   obtain ⟨x, hx⟩ : ∃ x, L[k] = x := ⟨_, rfl⟩
   rw [hx] at hsn d0 d1 d2
   obtain ⟨xg, xc, xv⟩ := x
   dsimp only at d0 d1 d2 hsn
   have HSN := Lib.hid hsn
   clear hx hsn
   by_cases hg : xg = i
   ·have hb0 : (xg != i) = false := by simp [hg]
    have HG := Lib.hid hg
    clear hg
    go_wp2_with fail
    go_roundw
    case rel => exact ⟨k + 1, by omega, by go_num, by rw [HSN.out, if_pos HG.out, List.append_nil]; exact HR.allocd _⟩
    case measure => simp [intOf]; omega
   ·have hb0 : (xg != i) = true := by simp [hg]
    have HG := Lib.hid hg
    clear hg
    obtain ⟨va, vc, hv, hle, hcm, hrd⟩ := HR.slc
    subst hv
    go_wp2_with (at_builtin; go_must (refine sl_app rfl _ _ 202 _ 24 rfl Tryz.underlying202 infoW8 rfl (by decide) (.slice va _ vc) _ _ [.int .i64 xg, .int .i64 xc, .int .i64 xv] rfl rfl (by simp) rfl rfl (HR.allocd _) (by omega) (by decide) ?_); intro g c w1 H1 hs1)
    go_roundw
    case rel => exact ⟨k + 1, by omega, by go_num, by rw [HSN.out, if_neg HG.out, List.length_append, List.flatMap_append]; exact H1⟩
    case measure => simp [intOf]; omega
  ·have hkn : k = L.length := by omega
   rw [hkn, List.take_length] at HR
   clear hkn
   go_wp2_with fail
   go_ret
   exact ⟨_, rfl, HR⟩
end
def refL (h : Nat) (x : PipeM) (v : Value × Value × Value) : List Piece :=
 [row h #[.int .i64 x.size, v.1, v.2.1, v.2.2, .bool x.closed, .int .i64 x.sent, .int .i64 x.received] 204, Slc 3 1 v.1 x.buf.length (ints x.buf),
  Slc 200 3 v.2.1 x.senders.length (x.senders.flatMap Wtr.cells), Slc 200 3 v.2.2 x.receivers.length (x.receivers.flatMap Wtr.cells)]
def RefP (h : Nat) (x : PipeM) : Piece := exP fun v => all (refL h x v)
section
variable {w : World} {F : List Piece} {h : Nat} {x : PipeM}
theorem ref_open (H : SL w (RefP h x :: F)) : ∃ a1 c1 a2 c2 a3 c3, SL w (row h #[.int .i64 x.size, .slice a1 x.buf.length c1, .slice a2 x.senders.length c2, .slice a3 x.receivers.length c3, .bool x.closed, .int .i64 x.sent, .int .i64 x.received] 204 ::
  Slc 3 1 (.slice a1 x.buf.length c1) x.buf.length (ints x.buf) :: Slc 200 3 (.slice a2 x.senders.length c2) x.senders.length (x.senders.flatMap Wtr.cells) :: Slc 200 3 (.slice a3 x.receivers.length c3) x.receivers.length (x.receivers.flatMap Wtr.cells) :: F) := by
 obtain ⟨⟨v1, v2, v3⟩, H⟩ := SL.exP.1 H
 have H := SL.all.1 H
 obtain ⟨a1, c1, h1, _⟩ := H.up1.slc
 obtain ⟨a2, c2, h2, _⟩ := H.up2.slc
 obtain ⟨a3, c3, h3, _⟩ := H.up3.slc
 dsimp only at h1 h2 h3
 subst h1 h2 h3
 exact ⟨a1, c1, a2, c2, a3, c3, H⟩
theorem ref_shut {v1 v2 v3 : Value} (H : SL w (row h #[.int .i64 x.size, v1, v2, v3, .bool x.closed, .int .i64 x.sent, .int .i64 x.received] 204 ::
  Slc 3 1 v1 x.buf.length (ints x.buf) :: Slc 200 3 v2 x.senders.length (x.senders.flatMap Wtr.cells) :: Slc 200 3 v3 x.receivers.length (x.receivers.flatMap Wtr.cells) :: F)) : SL w (RefP h x :: F) :=
 SL.exP.2 ⟨(v1, v2, v3), SL.all.2 H⟩
theorem ref_shut' {v1 v2 v3 : Value} {n1 n2 n3 : Nat} {l1 l2 l3 : List Value} (H : SL w (row h #[.int .i64 x.size, v1, v2, v3, .bool x.closed, .int .i64 x.sent, .int .i64 x.received] 204 ::
  Slc 3 1 v1 n1 l1 :: Slc 200 3 v2 n2 l2 :: Slc 200 3 v3 n3 l3 :: F))
  (e1 : n1 = x.buf.length) (e2 : l1 = ints x.buf) (e3 : n2 = x.senders.length) (e4 : l2 = x.senders.flatMap Wtr.cells) (e5 : n3 = x.receivers.length) (e6 : l3 = x.receivers.flatMap Wtr.cells) : SL w (RefP h x :: F) := by
 subst e1 e2 e3 e4 e5 e6
 exact ref_shut H
set_option maxHeartbeats 400000 in
theorem r_new (n : Nat) (hn : n ≤ 4) (H : SL w F) : Calls Tryz.prog 145 #[.int .i64 n] w fun e w' => ∃ h, e = .returned (.tuple #[.pointer (some ⟨h, 0, none⟩), .int .i64 0]) ∧ SL w' (RefP h (emptyM n) :: F) := by
 go_enter Tryz.func145, Tryz.ntmps145
 go_wp2
 go_ret2
 refine ⟨w.heap.size, rfl, ?_⟩
 have H1 := SL.slcNil 3 1 (SL.slcNil 200 3 (SL.slcNil 200 3 H))
 exact ref_shut (x := emptyM n) (H1.alloc _)
end
section
variable {w : World} {F : List Piece} {h : Nat} {x : PipeM}
set_option maxRecDepth 100000 in
set_option maxHeartbeats 400000 in
theorem r_send (v : Int) (hl : x.receivers.length ≤ 100000) (hb : x.buf.length ≤ 4) (hn : Cnt x) (H : SL w (RefP h x :: F)) :
  Calls Tryz.prog 170 #[.pointer (some ⟨h, 0, none⟩), .int .i64 v] w fun e w' => e = .returned (.tuple #[(sendF x v).1.1.agg, .int .i64 (sendF x v).1.2]) ∧ SL w' (RefP h (sendF x v).2 :: F) := by
 obtain ⟨R, hR⟩ : ∃ R, sendF x v = R := ⟨_, rfl⟩
 rw [hR]
 obtain ⟨⟨⟨ry, ro, rw_, rv, ⟨rg, rc, rm⟩⟩, re⟩, ry2⟩ := R
 unfold GotM.agg
 dsimp only
 unfold sendF at hR
 obtain ⟨b1, b2, b3, b4⟩ := hn
 obtain ⟨a1, c1, a2, c2, a3, c3, H1⟩ := ref_open H
 obtain ⟨r0, r1, r2, r3, r4, r5, r6, rf⟩ := box7 H1.at0
 have rl := lt_of_block H1.at0
 by_cases hc : x.closed = true
 ·rw [if_pos hc] at hR
  rw [hc] at r4
  have HC := Lib.hid hc
  simp only [Prod.mk.injEq, gzero, wzero, GotM.mk.injEq, Wtr.mk.injEq] at hR
  obtain ⟨⟨⟨rfl, rfl, rfl, rfl, rfl, rfl, rfl⟩, rfl⟩, rfl⟩ := hR
  clear hc
  go_enter Tryz.func170, Tryz.ntmps170
  go_wp2_with fail
  refine bodyPost_ret (v := .tuple #[.agg #[.bool false, .bool false, .bool false, .int .i64 0, .int .i64 0, .int .i64 0, .int .i64 0], .int .i64 90]) (by simp [results, Tryz.results170, go_sem]) rfl ⟨rfl, H.allocd _⟩
 ·rw [if_neg hc] at hR
  have hc' : x.closed = false := by simpa using hc
  rw [hc'] at r4
  have HC := Lib.hid hc'
  clear hc hc'
  rcases hr : x.receivers with _ | ⟨m, l⟩
  ·rw [hr] at hR
   dsimp only at hR
   rw [hr] at r3
   dsimp only [List.length_nil] at r3
   by_cases hz : x.buf.length < x.size
   ·rw [if_pos hz] at hR
    simp only [Prod.mk.injEq, gzero, wzero, GotM.mk.injEq, Wtr.mk.injEq] at hR
    obtain ⟨⟨⟨rfl, rfl, rfl, rfl, rfl, rfl, rfl⟩, rfl⟩, hy⟩ := hR
    have HY := Lib.hid hy
    have HRR := Lib.hid hr
    obtain ⟨n1, hn1⟩ : ∃ n, x.buf.length = n := ⟨_, rfl⟩
    rw [hn1] at hz
    rw [hn1] at r1 H1 hb
    have hd : decide ((n1 : Int) < (x.size : Int)) = true := by simpa using hz
    have hd' : decide (n1 < x.size) = true := by simpa using hz
    have HN := Lib.hid hn1
    clear hy hr hn1
    go_enter Tryz.func170, Tryz.ntmps170
    go_wp2_with fail
    have H2 := H1.alloc (.cells #[.bool false, .bool false, .bool false, .int .i64 0, .int .i64 0, .int .i64 0, .int .i64 0] 222)
    obtain ⟨r, hrr⟩ : ∃ r, w.heap.size = r := ⟨_, rfl⟩
    obtain ⟨w0, hw0⟩ : ∃ w0, w.alloc (.cells #[.bool false, .bool false, .bool false, .int .i64 0, .int .i64 0, .int .i64 0, .int .i64 0] 222) = w0 := ⟨_, rfl⟩
    rw [hw0, hrr] at H2
    rw [hw0, hrr]
    clear hw0 hrr r0 r1 r2 r3 r4 r5 r6 rf rl
    obtain ⟨q0, q1, q2, q3, q4, q5, q6, qf⟩ := box7 H2.at0
    obtain ⟨r0, r1, r2, r3, r4, r5, r6, rf⟩ := box7 H2.at1
    have ql := lt_of_block H2.at0
    have rl := lt_of_block H2.at1
    obtain ⟨n_1, n_2⟩ := H2.ne 0 1 (by decide) rfl rfl
    go_quiet (fail)
    go_wp2_with (at_builtin; go_must (refine sl_app rfl _ _ 67 _ 8 rfl Tryz.underlying67 infoInt rfl (by decide) (.slice a1 n1 c1) _ _ [.int .i64 v] rfl rfl (by simp) rfl rfl (H2.up2.drewN _) (by omega) (by decide) ?_); intro g c w1 H3 hs1; obtain ⟨q0, q1, q2, q3, q4, q5, q6, qf⟩ := box7 H3.at1; obtain ⟨r0, r1, r2, r3, r4, r5, r6, rf⟩ := box7 H3.at2; have ql := lt_of_block H3.at1; have rl := lt_of_block H3.at2)
    refine bodyPost_ret (v := .tuple #[.agg #[.bool true, .bool false, .bool false, .int .i64 0, .int .i64 0, .int .i64 0, .int .i64 0], .int .i64 0]) (by simp [results, Tryz.results170, go_sem, q0, q1, q2, q3, q4, q5, q6, ql, n_1, n_2]) rfl ⟨rfl, ?_⟩
    rw [← HY.out]
    have H4 := ((H3.up2.set 1 (.slice (some ⟨g, 0, none⟩) (n1 + 1) c)).set 5 (.int .i64 (x.sent + 1))).up2.toAny
    dsimp [Array.setIfInBounds] at H4
    have H5 := (ref_shut' (x := { x with buf := x.buf ++ [v], receivers := [], sent := x.sent + 1 }) H4.dn4 (by simp [HN.out]) (ints_append x.buf [v]).symm rfl rfl (by rw [HRR.out]) (by rw [HRR.out])).up1
    refine SL.tl (A := any r) ?_
    repeat (first | with_reducible refine SL.scr ?_ _ _ | with_reducible refine SL.allocd ?_ _ | with_reducible exact H5)
   ·rw [if_neg hz] at hR
    simp only [Prod.mk.injEq, gzero, wzero, GotM.mk.injEq, Wtr.mk.injEq] at hR
    obtain ⟨⟨⟨rfl, rfl, rfl, rfl, rfl, rfl, rfl⟩, rfl⟩, rfl⟩ := hR
    obtain ⟨n1, hn1⟩ : ∃ n, x.buf.length = n := ⟨_, rfl⟩
    rw [hn1] at hz
    rw [hn1] at r1 H1
    have hd : decide ((n1 : Int) < (x.size : Int)) = false := by simpa using hz
    have hd' : decide (n1 < x.size) = false := by simpa using hz
    have HN := Lib.hid hn1
    clear hr hn1
    go_enter Tryz.func170, Tryz.ntmps170
    go_wp2_with fail
    have H2 := H1.alloc (.cells #[.bool false, .bool false, .bool false, .int .i64 0, .int .i64 0, .int .i64 0, .int .i64 0] 222)
    obtain ⟨r, hrr⟩ : ∃ r, w.heap.size = r := ⟨_, rfl⟩
    obtain ⟨w0, hw0⟩ : ∃ w0, w.alloc (.cells #[.bool false, .bool false, .bool false, .int .i64 0, .int .i64 0, .int .i64 0, .int .i64 0] 222) = w0 := ⟨_, rfl⟩
    rw [hw0, hrr] at H2
    rw [hw0, hrr]
    clear hw0 hrr r0 r1 r2 r3 r4 r5 r6 rf rl
    obtain ⟨q0, q1, q2, q3, q4, q5, q6, qf⟩ := box7 H2.at0
    obtain ⟨r0, r1, r2, r3, r4, r5, r6, rf⟩ := box7 H2.at1
    have ql := lt_of_block H2.at0
    have rl := lt_of_block H2.at1
    obtain ⟨n_1, n_2⟩ := H2.ne 0 1 (by decide) rfl rfl
    go_quiet (fail)
    go_wp2_with fail
    refine bodyPost_ret (v := .tuple #[.agg #[.bool false, .bool false, .bool false, .int .i64 0, .int .i64 0, .int .i64 0, .int .i64 0], .int .i64 0]) (by simp [results, Tryz.results170, go_sem, q0, q1, q2, q3, q4, q5, q6, ql, n_1, n_2]) rfl ⟨rfl, ?_⟩
    have H5 := (ref_shut' (x := x) H2.toAny.dn4 HN.out.symm rfl rfl rfl rfl rfl).up1
    refine SL.tl (A := any r) ?_
    repeat (first | with_reducible refine SL.scr ?_ _ _ | with_reducible refine SL.drewN ?_ _ | with_reducible exact H5)
  ·rw [hr] at hR
   dsimp only at hR
   simp only [Prod.mk.injEq, GotM.mk.injEq] at hR
   obtain ⟨⟨⟨rfl, rfl, rfl, rfl, hm⟩, rfl⟩, hy⟩ := hR
   subst hm
   have HY := Lib.hid hy
   clear r0 r1 r2 r3 r4 r5 r6 rf rl
   rw [hr] at H1 hl
   simp only [List.length_cons] at hl
   have hcap : (l.length + 1) ≤ c3 ∧ c3 ≤ maxLen := by
    obtain ⟨a, c, e, k1, k2, _⟩ := H1.up3.slc
    injection e with e1 e2 e3
    subst e3
    exact ⟨k1, k2⟩
   have HRR := Lib.hid hr
   clear hr hy
   obtain ⟨b, off, e3, d0, d1, d2⟩ := wtr_at (H1.up3.read Reader.slc) 0 (by simp)
   subst e3
   dsimp only [List.getElem_cons_zero] at d0 d1 d2
   rw [Nat.zero_mul, Nat.add_zero] at d0 d1 d2
   have H2 := H1.alloc (.cells #[.bool false, .bool false, .bool false, .int .i64 0, .int .i64 0, .int .i64 0, .int .i64 0] 222)
   have hbl := World.block_lt_of_cell? w _ d0
   dsimp only at hbl
   simp only [List.length_cons] at H1
   obtain ⟨r0, r1, r2, r3, r4, r5, r6, rf⟩ := box7 H1.at0
   rw [HC.out] at r4
   have rl := lt_of_block H1.at0
   go_enter Tryz.func170, Tryz.ntmps170
   go_wp2_with fail
   have H3 := H2.alloc (.cells #[.int .i64 rg, .int .i64 rc, .int .i64 rm] 200)
   rw [size_alloc] at H3
   obtain ⟨r, hrr⟩ : ∃ r, w.heap.size = r := ⟨_, rfl⟩
   obtain ⟨bx, hbx⟩ : ∃ b, r + 1 = b := ⟨_, rfl⟩
   rw [hrr, hbx] at H3
   rw [hrr, hbx]
   clear hrr hbx H2 H1 r0 r1 r2 r3 r4 r5 r6 rf rl
   refine (r_behind (m := ⟨rg, rc, rm⟩) (L := l) (by simp) (H3.up5.read Reader.slc) (by simpa using hcap.1) hcap.2 (by omega) H3).mono ?_
   rintro e w1 ⟨v', rfl, H4⟩
   obtain ⟨va, vc, hv, _⟩ := H4.slc
   subst hv
   obtain ⟨e0, e1, e2, ef⟩ := pew_cells (H4.at1)
   obtain ⟨q0, q1, q2, q3, q4, q5, q6, qf⟩ := box7 H4.at2
   obtain ⟨r0, r1, r2, r3, r4, r5, r6, rf⟩ := box7 H4.at3
   have el := lt_of_block H4.at1
   have ql := lt_of_block H4.at2
   have rl := lt_of_block H4.at3
   obtain ⟨m1, m2⟩ := H4.ne 1 2 (by decide) rfl rfl
   obtain ⟨m3, m4⟩ := H4.ne 1 3 (by decide) rfl rfl
   obtain ⟨m5, m6⟩ := H4.ne 2 3 (by decide) rfl rfl
   go_wp2_with fail
   refine bodyPost_ret (v := .tuple #[.agg #[.bool true, .bool false, .bool true, .int .i64 0, .int .i64 rg, .int .i64 rc, .int .i64 rm], .int .i64 0]) (by simp [results, Tryz.results170, go_sem, q0, q1, q2, q3, q4, q5, q6, ql, m1, m2, m3, m4, m5, m6]) rfl ⟨rfl, ?_⟩
   rw [← HY.out]
   have H5 := ((H4.up3.set 3 (.slice va l.length vc)).set 5 (.int .i64 (x.sent + 1))).set 6 (.int .i64 (x.received + 1))
   dsimp [Array.setIfInBounds] at H5
   have Hp := H5.pi [0, 4, 5, 1, 3] 7
   simp only [pl, nth, drL] at Hp
   have H6 := (ref_shut (x := { x with receivers := l, sent := x.sent + 1, received := x.received + 1 }) Hp).up1.toAny
   refine SL.tl (A := any r) ?_
   repeat (first | with_reducible refine SL.scr ?_ _ _ | with_reducible refine SL.allocd ?_ _ | with_reducible exact H6)
end
end Go.Proofs.YtoamjodmidbmbaaGreatDoor
