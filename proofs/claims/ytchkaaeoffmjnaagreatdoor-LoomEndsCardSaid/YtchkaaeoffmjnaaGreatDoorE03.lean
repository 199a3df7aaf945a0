/- Texts of the proof, several in one file: Map, SxB, SxQ, EntryP, Evs, OpenG, Ring, Pew, PewB. -/
import Derived.Test.YtchkaaeoffmjnaaGreatDoorE01
import Derived.Maps.OwnOps
import Derived.Maps.OwnSet
import Derived.Maps.Views
import Derived.Test.YtchkaaeoffmjnaaGreatDoorE02
import Derived.Laws.Tables
import Derived.ProofKit
import Derived.OpenShut
import Derived.Deep.Slices
import Derived.Deep.QuietTactic
import Derived.BigQuiet
import Derived.Deep.DeepMust
namespace Go.Proofs.YtchkaaeoffmjnaaGreatDoor
set_option linter.unusedVariables false
set_option linter.unusedSimpArgs false
open Go.RowKit Go.ChangeMaps
open Go.Maps (Keyed Tidy has size IsMap)
theorem keyLit (c : Int) : WideAt.IsKeyLit (.int .i64 c) := by unfold WideAt.IsKeyLit; trivial
/-- Each element's value stands for itself. -/
def heldR (v : Value) : Option (DataW Value × List MemPlace) := some (.held v, [])
structure MapIs (D : DataW Value) (n : Nat) (f : Int → Option Value) : Prop where
 tidy : Tidy D
 size_ : size D = n
 at_ : ∀ c z, D.atKey (.int .i64 c) z = (match f c with | some v => .held v | none => z)
 has_ : ∀ c, has D (.int .i64 c) = (f c).isSome
def upd (f : Int → Option Value) (c : Int) (v : Option Value) : Int → Option Value := fun x => if x = c then v else f x
/-- Block b is a map of n entries: f c stands at c. -/
def MapP (kt b n : Nat) (f : Int → Option Value) : Piece where
 on S w := S b ∧ ∃ D m, w.ownsMap Tryz.prog kt heldR b m D ∧ MapIs D n f ∧ m ≤ 4000000
 move := by
  rintro w w' S ⟨h1, D, m, ⟨es, clock, hb, r⟩, h2⟩ s
  exact ⟨h1, D, m, ⟨es, clock, (s.block _ h1).trans hb, r⟩, h2⟩
 mono h k := ⟨k _ h.1, h.2⟩
section
variable {w : World} {F L : List Piece} {kt b n : Nat} {f : Int → Option Value}
theorem MapIs.put {D : DataW Value} (h : MapIs D n f) (c : Int) (v : Value) : MapIs (D.put (.int .i64 c) (.held v)) (if (f c).isSome then n else n + 1) (upd f c (some v)) := by
 refine ⟨?_, ?_, ?_, ?_⟩
 ·exact h.tidy.put (keyLit c) _
 ·rw [Maps.size_put h.tidy, h.has_, h.size_]
 ·intro x z
  unfold upd
  by_cases hx : x = c
  ·subst hx
   rw [if_pos rfl, Maps.atKey_put_same h.tidy.isMap (keyLit _)]
  ·rw [if_neg hx, Maps.atKey_put_other (by intro e; injection e with _ e; exact hx e), h.at_]
 ·intro x
  unfold upd
  by_cases hx : x = c
  ·subst hx
   rw [if_pos rfl, Maps.has_put_same h.tidy.isMap (keyLit _)]
   rfl
  ·rw [if_neg hx, Maps.has_put_other (by intro e; injection e with _ e; exact hx e), h.has_]
variable {ops : Array Oper} {rest : List Oper} {o : Oper} {a : Act} {Q : Exit → Act → World → Prop}
theorem map_look {e t : TypeId} (H : SL w (MapP kt b n f :: F)) (hk : Tryz.prog.underlying kt = some (.int .i64)) (ht : Tryz.prog.underlying t = some (.map kt e)) {z : Value} (hz : (zeroValue e).run Tryz.prog w = .ok z w) {c : Int} (hc : (Lit.int .i64 c).wf = true) :
  (Instr.lookup t (.map (some b)) (.int .i64 c) false).run Tryz.prog w = .ok ((f c).getD z) w := by
 obtain ⟨S, _, _, D, m, hown, hD, _⟩ := H.on
 obtain ⟨v, ps, hrun, hv⟩ := hown.lookup (Maps.int_keyed hk) ht hz (zd := .held z) (zp := []) rfl (Maps.keyOf_int_mk hk hc)
 rw [hrun]
 unfold heldR at hv
 have h1 := hD.at_ c (.held z)
 have h2 : (DataW.held v) = D.atKey (.int .i64 c) (.held z) := (Prod.mk.inj (Option.some.inj hv)).1
 rw [h1] at h2
 have h3 : v = (f c).getD z := by
  cases hf : f c with
  | none =>
   rw [hf] at h2
   exact DataW.held.inj h2
  | some u =>
   rw [hf] at h2
   exact DataW.held.inj h2
 exact congrArg (fun u => Result.ok u w) h3
end
end Go.Proofs.YtchkaaeoffmjnaaGreatDoor
namespace Go.Proofs.YtchkaaeoffmjnaaGreatDoor
set_option linter.unusedVariables false
set_option linter.unusedSimpArgs false
open Go.RowKit Go.ChangeMaps
section
variable {P : Program} {w : World} {L F : List Piece} {g o te sz n c : Nat} {xs : List Value} {v u : Value} {K : Value → Prop}
theorem own_cell (h : w.ownsRow 0 te sz (.slice (some ⟨g, 0, none⟩) n c) n xs) (hj : xs[o]? = some v) : w.cell? ⟨g, o, none⟩ = some v := by
 have := h.cells (g := g) rfl o v hj
 unfold Addr.add at this
 split at this
 ·rename_i h0; subst h0; exact this
 ·simpa using this
theorem SL.slcCell (H : SL w L) (i : Nat) (hi : L[i]? = some (Slc te sz (.slice (some ⟨g, 0, none⟩) n c) n xs)) (hj : xs[o]? = some v) : w.cell? ⟨g, o, none⟩ = some v := by
 obtain ⟨T, _, h⟩ := SLs.at i H hi
 exact own_cell h.1 hj
theorem SL.ldS (H : SL w L) (i : Nat) (hi : L[i]? = some (Slc te sz (.slice (some ⟨g, 0, none⟩) n c) n xs)) (hj : xs[o]? = some v) (k : K v) : Ld w ⟨g, o, none⟩ K := Ld.by (H.slcCell i hi hj) k
theorem LdC.S (i : Nat) (hi : L[i]? = some (Slc te sz (.slice (some ⟨g, 0, none⟩) n c) n xs)) (hj : xs[o]? = some v) (k : K v) : LdC (fun w => SL w L) ⟨g, o, none⟩ K := LdC.by (fun w H => SL.slcCell H i hi hj) k
theorem own_set (h : w.ownsRow 0 te sz (.slice (some ⟨g, 0, none⟩) n c) n xs) (ho : o < xs.length) : (w.setCell ⟨g, o, none⟩ u).ownsRow 0 te sz (.slice (some ⟨g, 0, none⟩) n c) n (xs.set o u) := by
 obtain ⟨h1, h2⟩ := h
 refine ⟨by rw [List.length_set]; exact h1, ?_⟩
 rcases h2 with ⟨h2, _⟩ | ⟨g', cap, cur, h2, h3, h4, h5, h6, h7, h8⟩
 ·cases h2
 ·injection h2 with e1 e2 e3
  injection e1 with e1
  injection e1 with e1
  subst e1 e3
  refine .inr ⟨g, c, cur.setIfInBounds o u, rfl, h3, ?_, h5, h6, by simp [h7], ?_⟩
  ·exact blk_set h4 o u
  ·rw [← h8, Array.toList_setIfInBounds, List.take_set]
theorem own_free (h : w.ownsRow 0 te sz (.slice (some ⟨g, 0, none⟩) n c) n xs) (i : Nat) : w.frozen? ⟨g, i, none⟩ = false := by
 rcases h.2 with ⟨h2, _⟩ | ⟨g', cap, cur, h2, h3, h4, _⟩
 ·cases h2
 ·injection h2 with e1 e2 e3
  injection e1 with e1
  injection e1 with e1
  subst e1
  simp [World.frozen?, h4]
theorem SL.stS {K : World → Prop} (H : SL w (Slc te sz (.slice (some ⟨g, 0, none⟩) n c) n xs :: F)) (ho : o < xs.length) (h1 : u.oneCell' = true)
  (k : ∀ w', SL w' (Slc te sz (.slice (some ⟨g, 0, none⟩) n c) n (xs.set o u) :: F) → K w') : St w ⟨g, o, none⟩ u K := by
 obtain ⟨S, ⟨h2, h3⟩, h4, h5⟩ := H.call
 have hg := h3 g rfl
 refine ⟨⟨⟨xs[o], own_cell h2 (by simp [ho])⟩, own_free h2 o, h1, k _ (h5 _ [Slc te sz (.slice (some ⟨g, 0, none⟩) n c) n (xs.set o u)] ((Frm.refl S w).setCell (p := ⟨g, o, none⟩) (fun _ => hg) u) ⟨_, fun _ h => h, ⟨own_set h2 ho, fun k hk => .inl (h3 k hk)⟩, trivial⟩)⟩⟩
/-- append(v, src..): v a slice of one's own, src read somewhere. -/
theorem SL.app {σ : Fr} {op : Oper} {K : Value → World → Prop} (H : SL w (Slc te sz v n xs :: F)) (s x : Operand) (t : TypeId) (z : Value) (bytes : Nat)
  (hop : op.op = .call { callee := .builtin .append, args := #[s, x], argTypes := #[t, t] })
  (ht : P.underlying t = some (.slice te)) (hinfo : (P.info? te).map (fun i => (i.zero, i.size, i.bytes)) = some (some z, sz, bytes)) (hz : z.cells.size = sz) (hs0 : 0 < sz)
  (hs : ev σ s = v) (A : Option Addr) (m cap : Nat) (news : List Value) (hx : ev σ x = .slice A m cap) (hr : Rd w sz A m news) (h1 : news.all Value.oneCell' = true) (hn : n + m < 1000000000) (hl : bytes ≤ 1000)
  (k : ∀ v' w', SL w' (Slc te sz v' (n + m) (xs ++ news) :: F) → K v' w') : Mn P σ op w K := by
 obtain ⟨v1, w1, hrun, k1, _⟩ := sl_append_run (P := P) t op.type z bytes ht hinfo hz hs0 v n xs A m cap news hr h1 H hn hl
 refine Mn.by (v := v1) (w' := w1) ?_ (k v1 w1 k1)
 simp only [execOp, hop, resolve, invoke, builtin, Sem.run_bind, Sem.run_pure, Result.andThen_ok, List.map_toArray, List.map_cons, List.map_nil, hs, hx, hrun]
/-- The same where something is appended: the new value written out. -/
theorem SL.appS {σ : Fr} {op : Oper} {K : Value → World → Prop} (H : SL w (Slc te sz v n xs :: F)) (s x : Operand) (t : TypeId) (z : Value) (bytes : Nat)
  (hop : op.op = .call { callee := .builtin .append, args := #[s, x], argTypes := #[t, t] })
  (ht : P.underlying t = some (.slice te)) (hinfo : (P.info? te).map (fun i => (i.zero, i.size, i.bytes)) = some (some z, sz, bytes)) (hz : z.cells.size = sz) (hs0 : 0 < sz)
  (hs : ev σ s = v) (A : Option Addr) (m cap : Nat) (news : List Value) (hx : ev σ x = .slice A m cap) (hr : Rd w sz A m news) (h1 : news.all Value.oneCell' = true) (hn : n + m < 1000000000) (hl : bytes ≤ 1000) (hm : 0 < m)
  (k : ∀ g c w', SL w' (Slc te sz (.slice (some ⟨g, 0, none⟩) (n + m) c) (n + m) (xs ++ news) :: F) → K (.slice (some ⟨g, 0, none⟩) (n + m) c) w') : Mn P σ op w K := by
 refine SL.app H s x t z bytes hop ht hinfo hz hs0 hs A m cap news hx hr h1 hn hl ?_
 intro v' w' H'
 obtain ⟨S, _, h⟩ := H'.on
 obtain ⟨a, c, rfl⟩ := own_form h.1
 obtain ⟨g, rfl⟩ := own_some h.1 (by omega)
 exact k g c w' H'
theorem Mn.build {σ : Fr} {op : Oper} {K : Value → World → Prop} (cs : Array Value) {t : TypeId} {parts : Array (Nat × Operand)} (hop : op.op = .build t parts) (h : P.built t (parts.toList.map fun p => (p.1, ev σ p.2)) = some cs) (k : K (.agg cs) w) : Mn P σ op w K := by
 refine Mn.by (v := .agg cs) (w' := w) ?_ k
 simp only [execOp, hop, Sem.run_bind]
 rw [run_build w t _ cs (by simpa using h)]
 rfl
theorem MnC.build {σ : Fr} {op : Oper} {S : World → Prop} {K : Value → Prop} (cs : Array Value) {t : TypeId} {parts : Array (Nat × Operand)} (hop : op.op = .build t parts) (h : P.built t (parts.toList.map fun p => (p.1, ev σ p.2)) = some cs) (k : K (.agg cs)) : MnC P S σ op K := by
 refine ⟨⟨.agg cs, fun w _ => ?_, k⟩⟩
 simp only [execOp, hop, Sem.run_bind]
 rw [run_build w t _ cs (by simpa using h)]
 rfl
theorem Mn.pure {σ : Fr} {op : Oper} {K : Value → World → Prop} (v : Value) (h : (execOp (ev σ) op).run P w = .ok (.value v) w) (k : K v w) : Mn P σ op w K := Mn.by h k
theorem MnC.pure {σ : Fr} {op : Oper} {S : World → Prop} {K : Value → Prop} (v : Value) (h : ∀ w, (execOp (ev σ) op).run P w = .ok (.value v) w) (k : K v) : MnC P S σ op K := ⟨⟨v, fun w _ => h w, k⟩⟩
/-- A new block of cells, and a value over its number. -/
theorem Mn.new {σ : Fr} {op : Oper} {K : Value → World → Prop} (f : Nat → Value) (cs : Array Value) (t : Nat) (h : (execOp (ev σ) op).run P w = .ok (.value (f w.heap.size)) (w.alloc (.cells cs t (0, 0)))) (H : SL w L) (k : ∀ b w', SL w' (row b cs t :: L) → K (f b) w') : Mn P σ op w K :=
 Mn.by h (k _ _ (H.alloc _))
theorem SL.one {A : Piece} (H : SL w L) (i : Nat) (hi : L[i]? = some A) : SL w [A] := by
 obtain ⟨T, h1, h2⟩ := SLs.at i H hi
 exact ⟨T, h1, h2, trivial⟩
/-- A slice that is read: what a call of append reads. -/
theorem SL.rdRow {cs : List Value} {t m : Nat} (H : SL w L) (i : Nat) (hi : L[i]? = some (row g cs.toArray t)) (hm : cs.length = m * sz) (hx : m ≤ maxLen) : Rd w sz (some ⟨g, 0, none⟩) m cs :=
 ⟨hm, hx, fun _ => ⟨g, 0, rfl, fun j u hu => row_cell (H.at i hi) (0 + j) (by rw [Nat.zero_add]; simpa using hu)⟩⟩
end
section
variable {w : World} {L F : List Piece} {kt b n : Nat} {f : Int → Option Value} {σ : Fr} {op : Oper}
theorem MnC.look {K : Value → Prop} (i : Nat) (hi : L[i]? = some (MapP kt b n f)) (m x : Operand) (t e : TypeId) (hop : op.op = .lookup t m x false) (hk : Tryz.prog.underlying kt = some (.int .i64)) (ht : Tryz.prog.underlying t = some (.map kt e)) {z : Value} (hz : ∀ w, (zeroValue e).run Tryz.prog w = .ok z w)
  (c : Int) (hc : (Lit.int .i64 c).wf = true) (hm : ev σ m = .map (some b)) (hx : ev σ x = .int .i64 c) (k : K ((f c).getD z)) : MnC Tryz.prog (fun w => SL w L) σ op K := by
 refine ⟨⟨(f c).getD z, fun w H => ?_, k⟩⟩
 have hrun := map_look (SL.one H i hi) hk ht (hz w) hc
 simp [execOp, hop, hm, hx, hrun, Result.andThen]
theorem Mn.look {K : Value → World → Prop} (H : SL w L) (i : Nat) (hi : L[i]? = some (MapP kt b n f)) (m x : Operand) (t e : TypeId) (hop : op.op = .lookup t m x false) (hk : Tryz.prog.underlying kt = some (.int .i64)) (ht : Tryz.prog.underlying t = some (.map kt e)) {z : Value} (hz : ∀ w, (zeroValue e).run Tryz.prog w = .ok z w)
  (c : Int) (hc : (Lit.int .i64 c).wf = true) (hm : ev σ m = .map (some b)) (hx : ev σ x = .int .i64 c) (k : K ((f c).getD z) w) : Mn Tryz.prog σ op w K := by
 refine Mn.by (v := (f c).getD z) (w' := w) ?_ k
 have hrun := map_look (H.one i hi) hk ht (hz w) hc
 simp [execOp, hop, hm, hx, hrun, Result.andThen]
end
theorem Addr_add (b off n : Nat) : (⟨b, off, none⟩ : Addr).add n = ⟨b, off + n, none⟩ := by
 unfold Addr.add
 split
 ·rename_i h
  subst h
  rfl
 ·rfl
theorem Ix.at {P : Program} {e b off n : Nat} {i : Int} {K : Value → Prop} (j sz : Nat) (hs : (P.info? e).map (·.size) = some sz) (hi : i = (j : Int)) (hj : j < n) (k : K (.pointer (some ⟨b, off + j * sz, none⟩))) : Ix P e ⟨b, off, none⟩ n i K :=
 Ix.by j sz hs hi hj (by rw [Addr_add]; exact k)
theorem Ix.at0 {P : Program} {e b n : Nat} {i : Int} {K : Value → Prop} (j sz : Nat) (hs : (P.info? e).map (·.size) = some sz) (hi : i = (j : Int)) (hj : j < n) (k : K (.pointer (some ⟨b, j * sz, none⟩))) : Ix P e ⟨b, 0, none⟩ n i K :=
 Ix.at j sz hs hi hj (by rw [Nat.zero_add]; exact k)
end Go.Proofs.YtchkaaeoffmjnaaGreatDoor
namespace Go.Proofs.YtchkaaeoffmjnaaGreatDoor
set_option linter.unusedVariables false
set_option linter.unusedSimpArgs false
open Go.RowKit Go.ChangeMaps
/-- A slice of one's own that may begin behind its block's beginning. -/
def Qu (te sz : Nat) (v : Value) (n : Nat) (xs : List Value) : Piece where
 on S w := xs.length = n * sz ∧ ((v = .slice none 0 0 ∧ n = 0) ∨ ∃ g off cap cur, v = .slice (some ⟨g, off, none⟩) n cap ∧ S g ∧ w.heap[g]? = some (.cells cur te (0, 0)) ∧ n ≤ cap ∧ cap ≤ maxLen ∧ off + cap * sz ≤ cur.size ∧ (cur.toList.drop off).take (n * sz) = xs)
 move h s := ⟨h.1, h.2.imp id (fun ⟨g, off, cap, cur, h1, h2, h3, r⟩ => ⟨g, off, cap, cur, h1, h2, (s.block g h2).trans h3, r⟩)⟩
 mono h k := ⟨h.1, h.2.imp id (fun ⟨g, off, cap, cur, h1, h2, r⟩ => ⟨g, off, cap, cur, h1, k g h2, r⟩)⟩
section
variable {P : Program} {w : World} {L F : List Piece} {g off o te sz n c : Nat} {xs : List Value} {v u : Value}
theorem SL.quForm (h : SL w (Qu te sz v n xs :: F)) : ∃ a c, v = .slice a n c := by
 obtain ⟨S, _, _, h⟩ := h.on
 rcases h with ⟨rfl, rfl⟩ | ⟨g, off, cap, cur, rfl, _⟩
 ·exact ⟨_, _, rfl⟩
 ·exact ⟨_, _, rfl⟩
theorem SL.quSome (h : SL w (Qu te sz v n xs :: F)) (hn : 0 < n) : ∃ g off c, v = .slice (some ⟨g, off, none⟩) n c := by
 obtain ⟨S, _, _, h⟩ := h.on
 rcases h with ⟨rfl, rfl⟩ | ⟨g, off, cap, cur, rfl, _⟩
 ·exact absurd hn (Nat.lt_irrefl _)
 ·exact ⟨_, _, _, rfl⟩
theorem SL.quCell (H : SL w L) (i : Nat) (hi : L[i]? = some (Qu te sz (.slice (some ⟨g, off, none⟩) n c) n xs)) (hj : xs[o]? = some v) : w.cell? ⟨g, off + o, none⟩ = some v := by
 obtain ⟨T, _, _, h⟩ := SLs.at i H hi
 rcases h with ⟨h, _⟩ | ⟨g', off', cap, cur, h, _, hb, _, _, _, ht⟩
 ·cases h
 ·injection h with e1 e2 e3
  injection e1 with e1
  injection e1 with e1 e4
  subst e1 e4
  refine row_cell hb _ ?_
  rw [← ht, List.getElem?_take] at hj
  split at hj
  ·rw [List.getElem?_drop] at hj
   simpa using hj
  ·cases hj
theorem SL.ldQ {K : Value → Prop} (H : SL w L) (i : Nat) (hi : L[i]? = some (Qu te sz (.slice (some ⟨g, off, none⟩) n c) n xs)) (hj : xs[o]? = some v) (k : K v) : Ld w ⟨g, off + o, none⟩ K := Ld.by (H.quCell i hi hj) k
theorem LdC.Q {K : Value → Prop} (i : Nat) (hi : L[i]? = some (Qu te sz (.slice (some ⟨g, off, none⟩) n c) n xs)) (hj : xs[o]? = some v) (k : K v) : LdC (fun w => SL w L) ⟨g, off + o, none⟩ K := LdC.by (fun w H => SL.quCell H i hi hj) k
/-- The value of v[1:]. -/
def rest1 (sz : Nat) : Value → Value
 | .slice a n c => .slice (if c = 1 then a else a.map (·.add sz)) (n - 1) (c - 1)
 | v => v
theorem SL.quTail (H : SL w (Qu te sz v (n + 1) xs :: F)) : SL w (Qu te sz (rest1 sz v) n (xs.drop sz) :: F) := by
 refine H.conv (fun S _ h => ?_)
 obtain ⟨h1, h⟩ := h
 refine ⟨by rw [List.length_drop, h1, Nat.succ_mul]; omega, ?_⟩
 rcases h with ⟨_, h⟩ | ⟨g, off, cap, cur, rfl, hS, hb, hc, hm, hs, ht⟩
 ·omega
 ·refine .inr ⟨g, if cap = 1 then off else off + sz, cap - 1, cur, ?_, hS, hb, by omega, by omega, ?_, ?_⟩
  ·show Value.slice (if cap = 1 then _ else _) (n + 1 - 1) (cap - 1) = _
   rw [Nat.add_sub_cancel]
   split
   ·rfl
   ·simp only [Option.map_some, Addr_add]
  ·obtain ⟨d, rfl⟩ : ∃ d, cap = d + 1 := ⟨cap - 1, by omega⟩
   rw [Nat.succ_mul] at hs
   rw [Nat.add_sub_cancel]
   split <;> omega
  ·rw [← ht, List.drop_take, List.drop_drop, Nat.succ_mul]
   have : n * sz + sz - sz = n * sz := by omega
   rw [this]
   split
   ·have : n = 0 := by omega
    subst this
    simp
   ·rfl
theorem run_tail {t lo : Nat} {σ : Fr} {op : Oper} (x : Operand) (l : Operand) (hop : op.op = .slice t x (some l) none none) (ht : P.underlying t = some (.slice te)) (hsz : (P.info? te).map (·.size) = some sz) {a : Option Addr} (hn : 0 < n) (hc : n ≤ c)
  (hx : ev σ x = .slice a n c) (hl : ev σ l = .int .i64 1) (w : World) : (execOp (ev σ) op).run P w = .ok (.value (rest1 sz (.slice a n c))) w := by
 obtain ⟨i, hi, hs⟩ := Option.map_eq_some_iff.1 hsz
 have hle : (1 : Int) ≤ (n : Int) := by omega
 have h1 : ¬ (n < 1) := by omega
 by_cases hc1 : c = 1
 ·subst hc1
  simp [execOp, hop, hx, hl, Instr.sliceAt, Instr.slice, run_underlying ht, Instr.sliceBounds, Instr.sliceBound, asIntOf, hle, sizeOf, typeInfo, hi, rest1, Result.andThen]
 ·have hc2 : ¬ (1 = c) := fun e => hc1 e.symm
  simp [execOp, hop, hx, hl, Instr.sliceAt, Instr.slice, run_underlying ht, Instr.sliceBounds, Instr.sliceBound, asIntOf, hle, sizeOf, typeInfo, hi, rest1, hs, hc1, hc2, Result.andThen]
theorem SL.quLe {a : Option Addr} (h : SL w (Qu te sz (.slice a n c) n xs :: F)) : n ≤ c := by
 obtain ⟨S, _, _, h⟩ := h.on
 rcases h with ⟨h, rfl⟩ | ⟨g, off, cap, cur, h, _, _, h2, _⟩
 ·exact Nat.zero_le _
 ·injection h with _ _ e
  subst e
  exact h2
/-- v[1:], the value kept as rest1. -/
theorem Mn.tail {σ : Fr} {op : Oper} {K : Value → World → Prop} (H : SL w (Qu te sz v (n + 1) xs :: F)) (x l : Operand) (t : Nat) (hop : op.op = .slice t x (some l) none none) (ht : P.underlying t = some (.slice te)) (hsz : (P.info? te).map (·.size) = some sz)
  (hx : ev σ x = v) (hl : ev σ l = .int .i64 1) (k : SL w (Qu te sz (rest1 sz v) n (xs.drop sz) :: F) → K (rest1 sz v) w) : Mn P σ op w K := by
 obtain ⟨a, c, rfl⟩ := H.quForm
 exact Mn.by (run_tail (lo := 0) x l hop ht hsz (by omega) H.quLe hx hl w) (k H.quTail)
theorem MnC.tail {σ : Fr} {op : Oper} {K : Value → Prop} (H : SL w (Qu te sz v (n + 1) xs :: F)) {S : World → Prop} (x l : Operand) (t : Nat) (hop : op.op = .slice t x (some l) none none) (ht : P.underlying t = some (.slice te)) (hsz : (P.info? te).map (·.size) = some sz)
  (hx : ev σ x = v) (hl : ev σ l = .int .i64 1) (k : K (rest1 sz v)) : MnC P S σ op K := by
 obtain ⟨a, c, rfl⟩ := H.quForm
 exact MnC.pure _ (fun w' => run_tail (lo := 0) x l hop ht hsz (by omega) H.quLe hx hl w') k
end
section
variable {P : Program} {w : World} {F L : List Piece} {te sz n c : Nat} {xs : List Value} {v : Value} {a : Option Addr} {σ : Fr} {op : Oper} {K : Value → World → Prop}
end
section
variable {w : World} {L F : List Piece} {kt b n : Nat} {f : Int → Option Value} {σ : Fr} {op : Oper}
end
section
variable {w : World} {L F : List Piece} {A B : Piece}
end
end Go.Proofs.YtchkaaeoffmjnaaGreatDoor
namespace Go.Proofs.YtchkaaeoffmjnaaGreatDoor
set_option linter.unusedVariables false
set_option linter.unusedSimpArgs false
structure Ev where
 kind : Int
 g : Int
 chan : Int
 case_ : Int
 value : Int
 mate : Int
 send : Bool
 ok : Bool
 deriving DecidableEq
def Ev.cells (e : Ev) : List Value := [.int .i64 e.kind, .int .i64 e.g, .int .i64 e.chan, .int .i64 e.case_, .int .i64 e.value, .int .i64 e.mate, .bool e.send, .bool e.ok]
def Ev.agg (e : Ev) : Value := .agg #[.int .i64 e.kind, .int .i64 e.g, .int .i64 e.chan, .int .i64 e.case_, .int .i64 e.value, .int .i64 e.mate, .bool e.send, .bool e.ok]
def inn (a b n : Int) : Bool := decide (a ≤ n) && decide (n ≤ b)
structure Shp where
 c0 : Int
 c1 : Int
 k0 : Int
 k1 : Int
 v0 : Int
 v1 : Int
 m0 : Int
 m1 : Int
 send : Bool
 ok : Bool
def shapeF (k : Int) : Shp :=
 if k = 1 then ⟨-1, -1, -1, -1, 0, 7, 0, 511, false, false⟩
 else if k = 2 then ⟨0, 511, -1, -1, 0, 4, -1, -1, false, false⟩
 else if k = 3 then ⟨0, 511, -1, 3, 0, 99, -1, 511, true, false⟩
 else if k = 4 then ⟨0, 511, -1, 3, 0, 99, -1, 511, false, true⟩
 else if k = 5 then ⟨0, 511, -1, -1, -1, -1, -1, -1, false, false⟩
 else if k = 6 then ⟨-1, 511, -1, 4, 0, 99, -1, -1, true, false⟩
 else if k = 7 then ⟨0, 511, -1, 3, 0, 99, 0, 511, true, true⟩
 else if k = 9 ∨ k = 10 then ⟨-1, -1, -1, -1, 0, 7, -1, -1, false, false⟩
 else ⟨-1, -1, -1, -1, -1, -1, -1, -1, false, false⟩
def oddF (e : Ev) : Bool :=
 if e.kind = 3 then !e.send
 else if e.kind = 4 then !e.ok && (e.value != 0 || e.mate != -1)
 else if e.kind = 6 then (!e.send && e.value != 0) || (decide (0 ≤ e.case_) && (decide (0 ≤ e.chan) || e.send))
 else if e.kind = 7 then (e.send && !e.ok) || (!e.ok && e.value != 0)
 else false
def entF (e : Ev) : Int :=
 if e.kind < 1 ∨ 13 < e.kind then 1
 else if (((((((((if e.kind = 13 then inn (-1) (-1) e.g else inn 0 511 e.g) && ((shapeF e.kind).send || !e.send)) && ((shapeF e.kind).ok || !e.ok)) && !oddF e) && inn (shapeF e.kind).c0 (shapeF e.kind).c1 e.chan) && inn (shapeF e.kind).k0 (shapeF e.kind).k1 e.case_) && inn (shapeF e.kind).v0 (shapeF e.kind).v1 e.value) && inn (shapeF e.kind).m0 (shapeF e.kind).m1 e.mate)) = true then 0 else 4
def okF (e : Ev) : Bool :=
 if e.kind = 1 then e.chan == -1 && e.case_ == -1 && inn 0 7 e.value && inn 0 511 e.mate && (!e.send && !e.ok)
 else if e.kind = 2 then inn 0 511 e.chan && e.case_ == -1 && inn 0 4 e.value && e.mate == -1 && (!e.send && !e.ok)
 else if e.kind = 3 then inn 0 511 e.chan && inn (-1) 3 e.case_ && inn 0 99 e.value && (e.mate == -1 || inn 0 511 e.mate) && e.send && !e.ok
 else if e.kind = 4 then inn 0 511 e.chan && inn (-1) 3 e.case_ && inn 0 99 e.value && (e.mate == -1 || inn 0 511 e.mate) && !e.send && (e.ok || (e.value == 0 && e.mate == -1))
 else if e.kind = 5 then inn 0 511 e.chan && e.case_ == -1 && e.value == -1 && e.mate == -1 && (!e.send && !e.ok)
 else if e.kind = 6 then ((e.case_ == -1 && (e.chan == -1 || inn 0 511 e.chan) && ((e.send && inn 0 99 e.value) || (!e.send && e.value == 0))) || (inn 0 4 e.case_ && e.chan == -1 && !e.send && e.value == 0)) && e.mate == -1 && !e.ok
 else if e.kind = 7 then inn 0 511 e.chan && inn (-1) 3 e.case_ && inn 0 99 e.value && inn 0 511 e.mate && (e.ok || (!e.send && e.value == 0))
 else if e.kind = 9 ∨ e.kind = 10 then e.chan == -1 && e.case_ == -1 && inn 0 7 e.value && e.mate == -1 && (!e.send && !e.ok)
 else e.chan == -1 && e.case_ == -1 && e.value == -1 && e.mate == -1 && (!e.send && !e.ok)
def ref12 (e : Ev) : Int :=
 if e.kind < 1 ∨ 13 < e.kind then 1
 else if (okF e && (if e.kind = 13 then e.g == -1 else inn 0 511 e.g)) = true then 0 else 4
set_option maxHeartbeats 4000000 in
theorem ent_ref (e : Ev) : entF e = ref12 e := by
 obtain ⟨kind, g, chan, case_, value, mate, send, ok⟩ := e
 unfold entF ref12
 by_cases h : kind < 1 ∨ 13 < kind
 ·rw [if_pos h, if_pos h]
 ·rw [if_neg h, if_neg h]
  congr 1
  have hk : kind = 1 ∨ kind = 2 ∨ kind = 3 ∨ kind = 4 ∨ kind = 5 ∨ kind = 6 ∨ kind = 7 ∨ kind = 8 ∨ kind = 9 ∨ kind = 10 ∨ kind = 11 ∨ kind = 12 ∨ kind = 13 := by omega
  clear h
  rcases hk with rfl | rfl | rfl | rfl | rfl | rfl | rfl | rfl | rfl | rfl | rfl | rfl | rfl <;> cases send <;> cases ok <;> simp [okF, shapeF, oddF, inn] <;> omega
end Go.Proofs.YtchkaaeoffmjnaaGreatDoor
namespace Go.Proofs.YtchkaaeoffmjnaaGreatDoor
set_option linter.unusedVariables false
set_option linter.unusedSimpArgs false
open Go.RowKit
/-- The piece A holds the events l from cell off of block b on. -/
structure EvA (A : Piece) (b off : Nat) (l : List Ev) : Prop where
 at_ : ∀ (S : Nat → Prop) (w : World), A.on S w → ∀ (j : Nat) (e : Ev), l[j]? = some e → ∀ (k : Nat) (v : Value), e.cells[k]? = some v → w.cell? ⟨b, off + j * 8 + k, none⟩ = some v
theorem Ev.cells_len (e : Ev) : e.cells.length = 8 := rfl
section
variable {w : World} {L F : List Piece} {A : Piece} {b off : Nat} {l : List Ev} {e : Ev} {v : Value} {K : Value → Prop}
theorem LdC.E (i : Nat) (hi : L[i]? = some A) (hA : EvA A b off l) (j k : Nat) (hj : l[j]? = some e) (hk : e.cells[k]? = some v) (h : K v) : LdC (fun w => SL w L) ⟨b, off + j * 8 + k, none⟩ K :=
 LdC.by (fun w H => by
  obtain ⟨T, _, hT⟩ := SLs.at i H hi
  exact hA.at_ T w hT j e hj k v hk) h
theorem EvA.of_rd {a : Option Addr} (h : ∀ (S : Nat → Prop) (w : World), A.on S w → Rd w 8 a l.length (l.flatMap Ev.cells)) (ha : a = some ⟨b, off, none⟩) : EvA A b off l := by
 refine ⟨fun S w hS j e hj k v hk => ?_⟩
 obtain ⟨hlt, rfl⟩ := List.getElem?_eq_some_iff.1 hj
 obtain ⟨b', off', h1, h2⟩ := (h S w hS).2.2 (by omega)
 rw [ha] at h1
 injection h1 with h1
 injection h1 with h1 h3
 subst h1 h3
 have hk8 : k < 8 := by
  rcases Nat.lt_or_ge k 8 with h | h
  ·exact h
  ·rw [List.getElem?_eq_none (by rw [Ev.cells_len]; exact h)] at hk
   cases hk
 have := flat_get Ev.cells 8 Ev.cells_len l j k hk8 hlt
 rw [hk] at this
 have := h2 _ _ this
 rw [← Nat.add_assoc] at this
 exact this
/-- Events out of a slice of one's own. -/
theorem EvA.slc {te c : Nat} : EvA (Slc te 8 (.slice (some ⟨b, 0, none⟩) l.length c) l.length (l.flatMap Ev.cells)) b 0 l := by
 refine EvA.of_rd (a := some ⟨b, 0, none⟩) (fun S w h => Rd.of_own h.1) rfl
/-- Events out of a row. -/
theorem EvA.row {t : Nat} {cs : Array Value} (hcs : cs.toList = l.flatMap Ev.cells) : EvA (row b cs t) b 0 l := by
 refine ⟨fun S w hS j e hj k v hk => ?_⟩
 obtain ⟨hlt, rfl⟩ := List.getElem?_eq_some_iff.1 hj
 have hk8 : k < 8 := by
  rcases Nat.lt_or_ge k 8 with h | h
  ·exact h
  ·rw [List.getElem?_eq_none (by rw [Ev.cells_len]; exact h)] at hk
   cases hk
 have := flat_get Ev.cells 8 Ev.cells_len l j k hk8 hlt
 rw [hk, ← hcs] at this
 rw [Nat.zero_add]
 exact row_cell hS.2 _ (by simpa using this)
end
end Go.Proofs.YtchkaaeoffmjnaaGreatDoor
namespace Go.Proofs.YtchkaaeoffmjnaaGreatDoor
set_option linter.unusedVariables false
set_option linter.unusedSimpArgs false
open Go.ChangeShapes Go.WideShapes Go.ChangeAt Go.RowKit
abbrev Kx (α : Type) := World → α → List Value → Prop
/-- Whatever of type t can be read is some v of the kind K. -/
structure Opens {α : Type} (t : TypeId) (K : Kx α) : Prop where
 out : ∀ {H : Type} {enc : TypeId × Value → H} {w : World} {base : Nat} {sp : Nat → Bool} {held : Bool} {fuel : Nat} {cs : List Value} {x : DataW H × List MemPlace},
  DataW.trod enc Tryz.prog w base sp held fuel t cs = some x → ∃ v, K w v cs
def kInt : Kx Int := fun _ n cs => cs = [.int .i64 n] ∧ (Lit.int .i64 n).wf = true
def kBool : Kx Bool := fun _ b cs => cs = [.bool b]
def kSeq {α β : Type} (a : Kx α) (b : Kx β) : Kx (α × β) := fun w x cs => ∃ c d, cs = c ++ d ∧ a w x.1 c ∧ b w x.2 d
def kMap {α β : Type} (f : α → β) (a : Kx α) : Kx β := fun w y cs => ∃ x, y = f x ∧ a w x cs
/-- A slice: its elements stand one behind the other, each of sz cells. -/
def kSlice {α : Type} (sz : Nat) (K : Kx α) : Kx (List α) := fun w xs cs =>
 ∃ a cap, cs = [.slice a xs.length cap] ∧ xs.length ≤ cap ∧ cap ≤ maxLen ∧
  (0 < xs.length → ∃ b off, a = some ⟨b, off, none⟩ ∧ ∀ i (h : i < xs.length), ∃ c, c.length = sz ∧ K w xs[i] c ∧ ∀ j u, c[j]? = some u → w.cell? ⟨b, off + i * sz + j, none⟩ = some u)
theorem opens_int {t : TypeId} (ht : Tryz.prog.underlying t = some (.int .i64)) : Opens t kInt := by
 refine ⟨?_⟩
 intro H enc w base sp held fuel cs x h
 obtain ⟨n, hc, _, hw⟩ := DataW.trod_int ht h
 exact ⟨n, hc, hw⟩
theorem opens_bool {t : TypeId} (ht : Tryz.prog.underlying t = some .bool) : Opens t kBool := by
 refine ⟨?_⟩
 intro H enc w base sp held fuel cs x h
 obtain ⟨n, hc, _⟩ := DataW.trod_bool ht h
 exact ⟨n, hc⟩
theorem Opens.map {α β : Type} {t : TypeId} {K : Kx α} (h : Opens t K) (f : α → β) : Opens t (kMap f K) := by
 refine ⟨?_⟩
 intro H enc w base sp held fuel cs x hx
 obtain ⟨v, hv⟩ := h.out hx
 exact ⟨f v, v, rfl, hv⟩
theorem Opens.imp {α β : Type} {t : TypeId} {K : Kx α} {K' : Kx β} (h : Opens t K) (f : α → β) (hf : ∀ w v cs, K w v cs → K' w (f v) cs) : Opens t K' := by
 refine ⟨?_⟩
 intro H enc w base sp held fuel cs x hx
 obtain ⟨v, hv⟩ := h.out hx
 exact ⟨f v, hf _ _ _ hv⟩
theorem opens_slice {α : Type} {t e : TypeId} {sz : Nat} {K : Kx α} (ht : Tryz.prog.underlying t = some (.slice e)) (hC : Tryz.prog.cellsOf e = sz) (hs : 0 < sz) (hK : Opens e K) : Opens t (kSlice sz K) := by
 refine ⟨?_⟩
 intro H enc w base sp held fuel cs x h
 rcases Go.Deep.open_slice ht h with ⟨rfl, _⟩ | ⟨a, len, cap, m, n, D, Pl, rfl, hb, hl, hm, hmm, _, hi⟩
 ·exact ⟨[], none, 0, rfl, Nat.zero_le _, Nat.zero_le _, fun h => absurd h (Nat.lt_irrefl 0)⟩
 ·rw [hC] at hi
  have hlm : len ≤ m := by rw [hmm]; split <;> omega
  have key : ∀ i, i < len → ∃ v c, c.length = sz ∧ K w v c ∧ ∀ j, j < sz → w.cell? ((a.add (i * sz)).add j) = c[j]? := fun i hil => by
   obtain ⟨cs', h1, h2⟩ := hi i (by omega)
   obtain ⟨v, hv⟩ := hK.out h2
   obtain ⟨_, hcl, hat⟩ := World.cells?_some h1
   exact ⟨v, cs', hcl, hv, hat⟩
  have key2 : ∀ n, n ≤ len → ∃ xs : List α, xs.length = n ∧ ∀ i (h : i < xs.length), ∃ c, c.length = sz ∧ K w xs[i] c ∧ ∀ j, j < sz → w.cell? ((a.add (i * sz)).add j) = c[j]? := by
   intro n
   induction n with
   | zero => exact fun _ => ⟨[], rfl, fun i h => absurd h (Nat.not_lt_zero i)⟩
   | succ n ih =>
    intro hn
    obtain ⟨xs, hxl, hxs⟩ := ih (by omega)
    obtain ⟨v, hv⟩ := key n (by omega)
    refine ⟨xs ++ [v], by simp [hxl], fun i h => ?_⟩
    by_cases hi : i < xs.length
    ·rw [List.getElem_append_left hi]
     exact hxs i hi
    ·have hin : i = n := by simp at h; omega
     subst hin
     rw [List.getElem_append_right (by omega)]
     simpa using hv
  obtain ⟨xs, hxl, hxs⟩ := key2 len (Nat.le_refl _)
  subst hxl
  refine ⟨xs, some a, cap, rfl, hl, hm, fun h0 => ?_⟩
  obtain ⟨b, off, spot⟩ := a
  have hspot : spot = none := by
   obtain ⟨c, hcl, _, hat⟩ := hxs 0 h0
   have h1 := hat 0 hs
   have h2 : ((⟨b, off, spot⟩ : Addr).add (0 * sz)).add 0 = ⟨b, off, spot⟩ := by simp [Addr.add]
   rw [h2, List.getElem?_eq_getElem (by omega)] at h1
   unfold World.cell? at h1
   split at h1
   ·cases spot with
    | none => rfl
    | some z => simp at h1
   ·cases h1
  subst hspot
  refine ⟨b, off, rfl, fun i h => ?_⟩
  obtain ⟨c, hcl, hk, hat⟩ := hxs i h
  refine ⟨c, hcl, hk, fun j u hu => ?_⟩
  have hj : j < sz := by
   rcases Nat.lt_or_ge j sz with hj | hj
   ·exact hj
   ·rw [List.getElem?_eq_none (by omega)] at hu
    cases hu
  have h1 := hat j hj
  rw [hu] at h1
  have h2 : ∀ x y : Nat, (⟨b, x, none⟩ : Addr).add y = ⟨b, x + y, none⟩ := fun x y => by
   unfold Addr.add
   split
   ·rename_i hz
    subst hz
    rfl
   ·rfl
  rw [h2, h2] at h1
  exact h1
structure Parts {α : Type} (fs : List Field) (off : Nat) (sz : Nat) (K : Kx α) : Prop where
 out : ∀ {H : Type} {enc : TypeId × Value → H} {w : World} {base : Nat} {sp : Nat → Bool} {held : Bool} {fuel : Nat} {cs : List Value}, cs.length = sz →
  (∀ f ∈ fs, ∃ y, DataW.trod enc Tryz.prog w base sp held fuel f.type ((cs.drop (f.offset - off)).take (Tryz.prog.cellsOf f.type)) = some y) → ∃ v, K w v cs
theorem parts_one {α : Type} {f : Field} {off sz : Nat} {K : Kx α} (ho : f.offset = off) (hc : Tryz.prog.cellsOf f.type = sz) (hK : Opens f.type K) : Parts [f] off sz K := by
 refine ⟨?_⟩
 intro H enc w base sp held fuel cs hl h
 obtain ⟨y, hy⟩ := h f (List.mem_singleton.2 rfl)
 rw [ho, Nat.sub_self, List.drop_zero, hc, ← hl, List.take_length] at hy
 exact hK.out hy
theorem parts_cons {α β : Type} {f : Field} {fs : List Field} {off sz m : Nat} {K : Kx α} {K' : Kx β} (ho : f.offset = off) (hc : Tryz.prog.cellsOf f.type = sz) (hK : Opens f.type K)
  (hoff : ∀ g ∈ fs, off + sz ≤ g.offset) (hP : Parts fs (off + sz) m K') : Parts (f :: fs) off (sz + m) (kSeq K K') := by
 refine ⟨?_⟩
 intro H enc w base sp held fuel cs hl h
 obtain ⟨y, hy⟩ := h f List.mem_cons_self
 rw [ho, Nat.sub_self, List.drop_zero, hc] at hy
 obtain ⟨v, hv⟩ := hK.out hy
 obtain ⟨v', hv'⟩ := hP.out (cs := cs.drop sz) (by rw [List.length_drop]; omega) (fun g hg => by
  obtain ⟨y, hy⟩ := h g (List.mem_cons_of_mem _ hg)
  refine ⟨y, ?_⟩
  rw [List.drop_drop]
  rw [show sz + (g.offset - (off + sz)) = g.offset - off by have := hoff g hg; omega]
  exact hy)
 exact ⟨(v, v'), cs.take sz, cs.drop sz, (List.take_append_drop sz cs).symm, hv, hv'⟩
theorem opens_struct {α : Type} {t : TypeId} {fs : List Field} {sz : Nat} {K : Kx α} (ht : Tryz.prog.underlying t = some (.struct fs.toArray)) (hC : Tryz.prog.cellsOf t = sz) (hP : Parts fs 0 sz K) : Opens t K := by
 refine ⟨?_⟩
 intro H enc w base sp held fuel cs x h
 obtain ⟨xs, n, _, _, hl, hxl, hf⟩ := DataW.trod_struct ht h
 refine hP.out (H := H) (enc := enc) (w := w) (base := base) (sp := sp) (held := held) (fuel := n) (cs := cs) (hl.trans hC) (fun f hm => ?_)
 obtain ⟨i, hi, rfl⟩ := List.getElem_of_mem hm
 have h1 := hf i fs[i] (by simp [hi])
 rw [Nat.sub_zero]
 rw [List.getElem?_eq_getElem (by rw [hxl]; simpa using hi)] at h1
 exact ⟨_, h1⟩
/-- A slice of flat structs, as it is read. -/
theorem rd_of_slice {α : Type} {sz : Nat} {f : α → List Value} {w : World} {xs : List α} {cs : List Value} (hf : ∀ x, (f x).length = sz) (h : kSlice sz (fun _ x c => c = f x) w xs cs) :
  ∃ a cap, cs = [.slice a xs.length cap] ∧ xs.length ≤ cap ∧ Rd w sz a xs.length (xs.flatMap f) := by
 obtain ⟨a, cap, rfl, hc, hm, hx⟩ := h
 refine ⟨a, cap, rfl, hc, flat_length f sz hf xs, Nat.le_trans hc hm, fun h0 => ?_⟩
 obtain ⟨b, off, ha, hi⟩ := hx h0
 refine ⟨b, off, ha, fun i u hu => ?_⟩
 have hlt : i < xs.length * sz := by
  rcases Nat.lt_or_ge i (xs.length * sz) with hj | hj
  ·exact hj
  ·rw [List.getElem?_eq_none (by rw [flat_length f sz hf]; exact hj)] at hu
   cases hu
 have hs : 0 < sz := by
  rcases Nat.eq_zero_or_pos sz with h | h
  ·rw [h, Nat.mul_zero] at hlt
   omega
  ·exact h
 have hg : i / sz < xs.length := (Nat.div_lt_iff_lt_mul hs).2 hlt
 have hj : i % sz < sz := Nat.mod_lt _ hs
 have e : i / sz * sz + i % sz = i := by rw [Nat.mul_comm]; exact Nat.div_add_mod i sz
 obtain ⟨c, _, rfl, hc⟩ := hi (i / sz) hg
 have h1 := flat_get f sz hf xs (i / sz) (i % sz) hj hg
 rw [e, hu] at h1
 have h2 := hc (i % sz) u h1.symm
 rw [Nat.add_assoc, e] at h2
 exact h2
theorem kSlice.imp {α : Type} {sz : Nat} {K K' : Kx α} {w : World} {xs : List α} {cs : List Value} (h : kSlice sz K w xs cs) (hk : ∀ x c, K w x c → K' w x c) : kSlice sz K' w xs cs := by
 obtain ⟨a, cap, h1, h2, h2', h3⟩ := h
 refine ⟨a, cap, h1, h2, h2', fun h0 => ?_⟩
 obtain ⟨b, off, ha, hi⟩ := h3 h0
 refine ⟨b, off, ha, fun i h => ?_⟩
 obtain ⟨c, x, y, z⟩ := hi i h
 exact ⟨c, x, hk _ _ y, z⟩
/-- An argument: what it holds is of the kind K. -/
theorem open_arg {α : Type} {t : TypeId} {K : Kx α} (hK : Opens t K) {H : Type} {enc : TypeId × Value → H} {w : World} {base : Nat} {sp : Nat → Bool} {held : Bool} {v : Value} {d : DataW H} {p : List MemPlace}
  (h : DataW.Trod enc Tryz.prog w base sp held t v d p) : ∃ x, K w x v.cells.toList := by
 obtain ⟨fuel, hf⟩ := h
 exact hK.out hf
end Go.Proofs.YtchkaaeoffmjnaaGreatDoor
namespace Go.Proofs.YtchkaaeoffmjnaaGreatDoor
set_option linter.unusedVariables false
set_option linter.unusedSimpArgs false
open Go.RowKit
/-- Block g is a ring of capacity size with the values L. -/
def RingAt (w : World) (S : Nat → Prop) (g size : Nat) (L : List Int) : Prop :=
 ∃ (at_ : Nat) (vs : List Int), vs.length = 4 ∧ w.heap[g]? = some (.cells ((Value.int .i64 at_ :: .int .i64 L.length :: .int .i64 size :: ints vs).toArray) 285 (0, 0)) ∧ S g ∧
  L.length ≤ size ∧ size ≤ 4 ∧ at_ ≤ 4 ∧ (0 < size → at_ < size) ∧ ∀ i (h : i < L.length), vs[(at_ + i) % size]? = some L[i]
theorem RingAt.move {w w' : World} {S : Nat → Prop} {g size : Nat} {L : List Int} (h : RingAt w S g size L) (hm : ∀ k, S k → w'.heap[k]? = w.heap[k]?) : RingAt w' S g size L := by
 obtain ⟨at_, vs, h1, h2, h3, r⟩ := h
 exact ⟨at_, vs, h1, (hm g h3).trans h2, h3, r⟩
theorem RingAt.mono {w : World} {S T : Nat → Prop} {g size : Nat} {L : List Int} (h : RingAt w S g size L) (hm : ∀ k, S k → T k) : RingAt w T g size L := by
 obtain ⟨at_, vs, h1, h2, h3, r⟩ := h
 exact ⟨at_, vs, h1, h2, hm g h3, r⟩
theorem RingAt.bound {w : World} {S : Nat → Prop} {g size : Nat} {L : List Int} (h : RingAt w S g size L) : RingAt w (fun k => S k ∧ k < w.heap.size) g size L := by
 obtain ⟨at_, vs, h1, h2, h3, r⟩ := h
 exact ⟨at_, vs, h1, h2, ⟨h3, lt_of_block h2⟩, r⟩
theorem RingAt.move' {w w' : World} {S : Nat → Prop} {g size : Nat} {L : List Int} (h : RingAt w S g size L) (hf : Frm Nil w w') : RingAt w' S g size L :=
 (h.bound.move (fun k hk => hf.block k hk.2 id)).mono (fun _ hk => hk.1)
theorem ring_set (a b c : Value) (vs : List Int) (k : Nat) (v m : Int) (hk : k < vs.length) :
  ((a :: b :: c :: ints vs).toArray.setIfInBounds (3 + k) (.int .i64 v)).setIfInBounds 1 (.int .i64 m) = (a :: .int .i64 m :: c :: ints (vs.set k v)).toArray := by
 rw [Nat.add_comm 3 k]
 simp [ints, List.map_set]
theorem mod_two {x s : Nat} (h : x < 2 * s) : x % s = if x < s then x else x - s := by
 split
 ·exact Nat.mod_eq_of_lt (by assumption)
 ·rw [Nat.mod_eq_sub_mod (by omega), Nat.mod_eq_of_lt (by omega)]
theorem mod_ne {a i n s : Nat} (ha : a < s) (hn : n < s) (hi : i < n) : (a + n) % s ≠ (a + i) % s := by
 rw [mod_two (show a + n < 2 * s by omega), mod_two (show a + i < 2 * s by omega)]
 split <;> split <;> omega
section
variable {w : World} {S : Nat → Prop} {g size : Nat} {L : List Int}
set_option maxHeartbeats 400000 in
theorem ring_new_ok (n : Nat) (hn : n ≤ 4) (w : World) : Calls Tryz.prog 167 #[.int .i64 n] w fun e w' => ∃ g, e = .returned (.tuple #[.pointer (some ⟨g, 0, none⟩), .int .i64 0]) ∧ RingAt w' (New Nil w w') g n [] ∧ Frm Nil w w' := by
 go_enter Tryz.func167, Tryz.ntmps167
 go_wp2
 go_ret2
 exact ⟨w.heap.size, rfl, ⟨0, [0, 0, 0, 0], rfl, heap_alloc_new w _, .inr ⟨Nat.le_refl _, by simp⟩, Nat.zero_le _, hn, by omega, id, fun i h => absurd h (Nat.not_lt_zero _)⟩, (Frm.refl _ _).alloc _⟩
theorem ring_cells {at_ : Nat} {vs : List Int} (hvs : vs.length = 4) (h2 : w.heap[g]? = some (.cells ((Value.int .i64 at_ :: .int .i64 L.length :: .int .i64 size :: ints vs).toArray) 285 (0, 0))) :
  w.cell? ⟨g, 0, none⟩ = some (.int .i64 at_) ∧ w.cell? ⟨g, 1, none⟩ = some (.int .i64 L.length) ∧ w.cell? ⟨g, 2, none⟩ = some (.int .i64 size) ∧ (∀ i v, vs[i]? = some v → w.cell? ⟨g, 3 + i, none⟩ = some (.int .i64 v)) ∧ ∀ i, w.frozen? ⟨g, i, none⟩ = false := by
 refine ⟨by rw [cell_of_row _ _ _ _ _ _ h2]; rfl, by rw [cell_of_row _ _ _ _ _ _ h2]; rfl, by rw [cell_of_row _ _ _ _ _ _ h2]; rfl, fun i v hv => ?_, fun i => by simp [World.frozen?, h2]⟩
 rw [cell_of_row _ _ _ _ _ _ h2]
 rw [Nat.add_comm 3 i]
 obtain ⟨hi, rfl⟩ := List.getElem?_eq_some_iff.1 hv
 simp [ints, hi]
set_option maxHeartbeats 400000 in
theorem ring_len (h : RingAt w S g size L) : Calls Tryz.prog 192 #[.pointer (some ⟨g, 0, none⟩)] w fun e w' => e = .returned (.int .i64 L.length) ∧ w = w' := by
 obtain ⟨at_, vs, h1, h2, _⟩ := h
 obtain ⟨c0, c1, c2, c3, cf⟩ := ring_cells h1 h2
 go_enter Tryz.func192, Tryz.ntmps192
 go_wp2
 go_ret
 exact ⟨rfl, rfl⟩
set_option maxHeartbeats 400000 in
theorem ring_cap (h : RingAt w S g size L) : Calls Tryz.prog 193 #[.pointer (some ⟨g, 0, none⟩)] w fun e w' => e = .returned (.int .i64 size) ∧ w = w' := by
 obtain ⟨at_, vs, h1, h2, _⟩ := h
 obtain ⟨c0, c1, c2, c3, cf⟩ := ring_cells h1 h2
 go_enter Tryz.func193, Tryz.ntmps193
 go_wp2
 go_ret
 exact ⟨rfl, rfl⟩
set_option maxHeartbeats 400000 in
theorem ring_push_ok (h : RingAt w S g size L) (hf : L.length < size) (v : Int) : Calls Tryz.prog 211 #[.pointer (some ⟨g, 0, none⟩), .int .i64 v] w fun e w' => e = .returned (.int .i64 0) ∧ RingAt w' S g size (L ++ [v]) ∧ Frm S w w' := by
 have K1 := Lib.hid (ring_len h)
 have K2 := Lib.hid (ring_cap h)
 obtain ⟨at_, vs, h1, h2, hS, h3, h4, h5, h6, h7⟩ := h
 obtain ⟨c0, c1, c2, c3, cf⟩ := ring_cells h1 h2
 obtain ⟨n, hn⟩ : ∃ n, L.length = n := ⟨_, rfl⟩
 rw [hn] at K1 c1 hf h3
 have hat := h6 (by omega)
 have hk : (at_ + n) % size < 4 := Nat.lt_of_lt_of_le (Nat.mod_lt _ (by omega)) h4
 obtain ⟨k, hkk⟩ : ∃ k, (at_ + n) % size = k := ⟨_, rfl⟩
 rw [hkk] at hk
 obtain ⟨u, hold⟩ : ∃ u, w.cell? ⟨g, 3 + k, none⟩ = some (.int .i64 u) := ⟨_, c3 k _ (List.getElem?_eq_getElem (by omega))⟩
 have hb : ((n : Int) == (size : Int)) = false := by simp; omega
 have hmod : ((at_ : Int) + (n : Int)) % (size : Int) = (k : Int) := by rw [← hkk]; simp
 have hw1 : IntKind.i64.wrap ((at_ : Int) + (n : Int)) = (at_ : Int) + (n : Int) := IntWalk.i64_in _ (by omega)
 have hmt : Int.tmod ((at_ : Int) + (n : Int)) (size : Int) = (k : Int) := by rw [Int.tmod_eq_emod_of_nonneg (by omega)]; exact hmod
 have hs0 : ((size : Int) == 0) = false := by simp; omega
 have hk4 : (k : Int) < 4 := by omega
 have hk0 : (0 : Int) ≤ (k : Int) := by omega
 have H2 := Lib.hid h2
 have H7 := Lib.hid h7
 have HN := Lib.hid hn
 have HK := Lib.hid hkk
 have H6 := Lib.hid h6
 clear c3 h2 h7 hn hkk h6
 go_enter Tryz.func211, Tryz.ntmps211
 go_wp2_with (first | (go_at_call 192; refine K1.out.mono ?_; rintro e w' ⟨rfl, rfl⟩) | (go_at_call 193; refine K2.out.mono ?_; rintro e w' ⟨rfl, rfl⟩))
 go_region
 all_goals
  go_wp2_with fail
  go_ret
  refine ⟨rfl, ?_, ((((Frm.refl S w).setCell (p := ⟨g, 3 + k, none⟩) (fun _ => hS) (.int .i64 v)).setCell (p := ⟨g, 1, none⟩) (fun _ => hS) (.int .i64 ((n : Int) + 1))).drew)⟩
  have hn := HN.out
  have hkk := HK.out
  refine ⟨at_, vs.set k v, by rw [List.length_set]; exact h1, ?_, hS, by rw [List.length_append, List.length_singleton]; omega, h4, h5, H6.out, fun i hi => ?_⟩
  ·have e1 := blk_set (blk_set H2.out (3 + k) (.int .i64 v)) 1 (.int .i64 ((n : Int) + 1))
   rw [ring_set _ _ _ _ k v _ (by rw [h1]; exact hk)] at e1
   rw [List.length_append, List.length_singleton, hn]
   exact e1
  ·rw [List.length_append, List.length_singleton] at hi
   by_cases hin : i < L.length
   ·rw [List.getElem_append_left hin, List.getElem?_set_ne (by rw [← hkk]; exact mod_ne hat hf (by omega))]
    exact H7.out i hin
   ·have : i = n := by omega
    subst this
    rw [hkk, List.getElem?_set_self (by rw [h1]; exact hk)]
    simp [← hn]
set_option maxHeartbeats 400000 in
theorem ring_at_zero {x : Int} (h : RingAt w S g size (x :: L)) : Calls Tryz.prog 225 #[.pointer (some ⟨g, 0, none⟩), .int .i64 0] w fun e w' => e = .returned (.tuple #[.int .i64 x, .int .i64 0]) ∧ ∃ n, w' = w.drewN n := by
 have K1 := Lib.hid (ring_len h)
 obtain ⟨at_, vs, h1, h2, hS, h3, h4, h5, h6, h7⟩ := h
 obtain ⟨c0, c1, c2, c3, cf⟩ := ring_cells h1 h2
 have hl : 0 < (x :: L).length := by simp
 have hat := h6 (by omega)
 have hx := h7 0 hl
 rw [Nat.add_zero, Nat.mod_eq_of_lt hat] at hx
 have hc := c3 at_ _ hx
 dsimp only [List.getElem_cons_zero] at hc
 obtain ⟨n, hn⟩ : ∃ n, (x :: L).length = n := ⟨_, rfl⟩
 rw [hn] at K1 c1 hl h3
 have ha4 : (at_ : Int) < 4 := by omega
 have hmt : Int.tmod (at_ : Int) (size : Int) = (at_ : Int) := by rw [Int.tmod_eq_emod_of_nonneg (by omega)]; exact Int.emod_eq_of_lt (by omega) (by omega)
 have hmt2 : (at_ : Int) % (size : Int) = (at_ : Int) := Int.emod_eq_of_lt (by omega) (by omega)
 have hw1 : IntKind.i64.wrap ((at_ : Int) + 0) = (at_ : Int) := by rw [Int.add_zero]; exact IntWalk.i64_in _ (by omega)
 have hs0 : ((size : Int) == 0) = false := by simp; omega
 have hs1 : 0 < (size : Int) := by omega
 have hg : decide ((n : Int) ≤ 0) = false := by simp; omega
 clear c3 h2 h7 hn h6 hx
 go_enter Tryz.func225, Tryz.ntmps225
 go_wp2_with (go_at_call 192; refine K1.out.mono ?_; rintro e w' ⟨rfl, rfl⟩)
 go_quiet (fail)
 go_wp2_with fail
 go_ret2
 exact ⟨rfl, _, rfl⟩
set_option maxHeartbeats 400000 in
theorem ring_pop {x : Int} (h : RingAt w S g size (x :: L)) : Calls Tryz.prog 214 #[.pointer (some ⟨g, 0, none⟩)] w fun e w' => e = .returned (.tuple #[.int .i64 x, .int .i64 0]) ∧ RingAt w' S g size L ∧ Frm S w w' := by
 have K1 := Lib.hid (ring_at_zero h)
 obtain ⟨at_, vs, h1, h2, hS, h3, h4, h5, h6, h7⟩ := h
 obtain ⟨c0, c1, c2, c3, cf⟩ := ring_cells h1 h2
 have hl : 0 < (x :: L).length := by simp
 have hat := h6 (by omega)
 obtain ⟨n, hn⟩ : ∃ n, L.length = n := ⟨_, rfl⟩
 have hn1 : (x :: L).length = n + 1 := by simp [hn]
 rw [hn1] at c1 h3
 obtain ⟨k, hkk⟩ : ∃ k, (at_ + 1) % size = k := ⟨_, rfl⟩
 have hks : k < size := by rw [← hkk]; exact Nat.mod_lt _ (by omega)
 have hmod : ((at_ : Int) + 1) % (size : Int) = (k : Int) := by rw [← hkk]; simp
 have hmt : Int.tmod ((at_ : Int) + 1) (size : Int) = (k : Int) := by rw [Int.tmod_eq_emod_of_nonneg (by omega)]; exact hmod
 have hs0 : ((size : Int) == 0) = false := by simp; omega
 have hs1 : 0 < (size : Int) := by omega
 have H2 := Lib.hid h2
 have H7 := Lib.hid h7
 have HN := Lib.hid hn
 have HK := Lib.hid hkk
 clear c3 h2 h7 hn hn1 h6 hkk
 go_enter Tryz.func214, Tryz.ntmps214
 go_wp2_with (go_at_call 225; refine K1.out.mono ?_; rintro e w' ⟨rfl, nq, rfl⟩)
 try go_region
 all_goals
  go_wp2_with fail
  go_ret2
  have hn := HN.out
  have hkk := HK.out
  have e1 := blk_set (blk_set H2.out 0 (.int .i64 k)) 1 (.int .i64 n)
  have f1 := ((Frm.refl S w).setCell (p := ⟨g, 0, none⟩) (fun _ => hS) (.int .i64 k)).setCell (p := ⟨g, 1, none⟩) (fun _ => hS) (.int .i64 n)
  refine ⟨rfl, ⟨k, vs, h1, ?_, hS, by omega, h4, by omega, fun _ => hks, fun i hi => ?_⟩, ⟨f1.os, f1.tape, f1.output, f1.size, f1.block⟩⟩
  ·rw [hn]
   simp only [List.setIfInBounds_toArray, List.set_cons_zero, List.set_cons_succ] at e1
   exact e1
  ·have := H7.out (i + 1) (by simp; omega)
   rw [List.getElem_cons_succ] at this
   rw [← this, ← hkk]
   congr 1
   rw [Nat.mod_add_mod]
   congr 1
   omega
end
end Go.Proofs.YtchkaaeoffmjnaaGreatDoor
namespace Go.Proofs.YtchkaaeoffmjnaaGreatDoor
set_option linter.unusedVariables false
set_option linter.unusedSimpArgs false
open Go.RowKit
structure Wtr where
 g : Int
 case_ : Int
 value : Int
 deriving DecidableEq
def Wtr.cells (x : Wtr) : List Value := [.int .i64 x.g, .int .i64 x.case_, .int .i64 x.value]
def Wtr.agg (x : Wtr) : Value := .agg #[.int .i64 x.g, .int .i64 x.case_, .int .i64 x.value]
def ptrOf (b : Option Nat) : Value := .pointer (b.map fun b => ⟨b, 0, none⟩)
def seatRow (x : Wtr) (next : Option Nat) : Obj := .cells #[.int .i64 x.g, .int .i64 x.case_, .int .i64 x.value, ptrOf next] 301 (0, 0)
theorem seatRow_inj {x y : Wtr} {a b : Option Nat} (h : seatRow x a = seatRow y b) : x = y := by
 obtain ⟨x1, x2, x3⟩ := x
 obtain ⟨y1, y2, y3⟩ := y
 simp only [seatRow, Obj.cells.injEq, Array.mk.injEq, List.cons.injEq, Value.int.injEq, true_and, and_true] at h
 obtain ⟨h1, h2, h3, _⟩ := h
 rw [h1, h2, h3]
/-- The blocks bs are linked seats with the waiters L. -/
def SeatsAt (w : World) (bs : List Nat) (L : List Wtr) : Prop :=
 bs.length = L.length ∧ ∀ i (h : i < L.length) (h' : i < bs.length), w.heap[bs[i]]? = some (seatRow L[i] bs[i + 1]?)
/-- Block p is a pew in which L wait. -/
def PewAt (w : World) (S : Nat → Prop) (p : Nat) (L : List Wtr) : Prop :=
 ∃ bs : List Nat, SeatsAt w bs L ∧ bs.Nodup ∧ p ∉ bs ∧ (∀ b ∈ bs, S b) ∧ S p ∧
  w.heap[p]? = some (.cells #[ptrOf bs.head?, ptrOf bs.getLast?, .int .i64 L.length] 275 (0, 0))
theorem SeatsAt.move {w w' : World} {bs : List Nat} {L : List Wtr} (h : SeatsAt w bs L) (hm : ∀ b ∈ bs, w'.heap[b]? = w.heap[b]?) : SeatsAt w' bs L :=
 ⟨h.1, fun i hi hb => (hm _ (List.getElem_mem hb)).trans (h.2 i hi hb)⟩
theorem SeatsAt.lt {w : World} {bs : List Nat} {L : List Wtr} (h : SeatsAt w bs L) : ∀ b ∈ bs, b < w.heap.size := by
 intro b hb
 obtain ⟨i, hi, rfl⟩ := List.getElem_of_mem hb
 exact lt_of_block (h.2 i (by rw [← h.1]; exact hi) hi)
theorem PewAt.move {w w' : World} {S : Nat → Prop} {p : Nat} {L : List Wtr} (h : PewAt w S p L) (hm : ∀ k, S k → w'.heap[k]? = w.heap[k]?) : PewAt w' S p L := by
 obtain ⟨bs, h1, h2, h3, h4, h5, h6⟩ := h
 exact ⟨bs, h1.move (fun b hb => hm b (h4 b hb)), h2, h3, h4, h5, (hm p h5).trans h6⟩
theorem PewAt.mono {w : World} {S T : Nat → Prop} {p : Nat} {L : List Wtr} (h : PewAt w S p L) (hm : ∀ k, S k → T k) : PewAt w T p L := by
 obtain ⟨bs, h1, h2, h3, h4, h5, h6⟩ := h
 exact ⟨bs, h1, h2, h3, fun b hb => hm b (h4 b hb), hm p h5, h6⟩
theorem PewAt.bound {w : World} {S : Nat → Prop} {p : Nat} {L : List Wtr} (h : PewAt w S p L) : PewAt w (fun k => S k ∧ k < w.heap.size) p L := by
 obtain ⟨bs, h1, h2, h3, h4, h5, h6⟩ := h
 exact ⟨bs, h1, h2, h3, fun b hb => ⟨h4 b hb, h1.lt b hb⟩, ⟨h5, lt_of_block h6⟩, h6⟩
theorem PewAt.move' {w w' : World} {S : Nat → Prop} {p : Nat} {L : List Wtr} (h : PewAt w S p L) (hf : Frm Nil w w') : PewAt w' S p L :=
 (h.bound.move (fun k hk => hf.block k hk.2 id)).mono (fun _ hk => hk.1)
section
variable {w : World} {S : Nat → Prop} {p : Nat} {L : List Wtr}
theorem heap_old2 {w : World} {g : Nat} {o : Obj} (a b : Obj) (h : w.heap[g]? = some o) : ((w.alloc a).alloc b).heap[g]? = some o :=
 (Below.heap_alloc _ _ _ (by have := lt_of_block h; simp; omega)).trans ((Below.heap_alloc _ _ _ (lt_of_block h)).trans h)
theorem heap_new2 {w : World} (a b : Obj) : ((w.alloc a).alloc b).heap[w.heap.size + 1]? = some b := by
 have := heap_alloc_new (w.alloc a) b
 rwa [show (w.alloc a).heap.size = w.heap.size + 1 by simp] at this
theorem heap_new2' {w : World} (a b : Obj) {k : Nat} (hk : k = w.heap.size + 1) : ((w.alloc a).alloc b).heap[k]? = some b := by
 rw [hk]
 exact heap_new2 a b
theorem pew_cells {a b c : Value} {t : Nat} (h : w.heap[p]? = some (.cells #[a, b, c] t (0, 0))) :
  w.cell? ⟨p, 0, none⟩ = some a ∧ w.cell? ⟨p, 1, none⟩ = some b ∧ w.cell? ⟨p, 2, none⟩ = some c ∧ (∀ i, w.frozen? ⟨p, i, none⟩ = false) :=
 ⟨by rw [cell_of_row _ _ _ _ _ _ h]; rfl, by rw [cell_of_row _ _ _ _ _ _ h]; rfl, by rw [cell_of_row _ _ _ _ _ _ h]; rfl, fun i => by simp [World.frozen?, h]⟩
theorem seat_cells {b : Nat} {x : Wtr} {n : Option Nat} (h : w.heap[b]? = some (seatRow x n)) :
  w.cell? ⟨b, 0, none⟩ = some (.int .i64 x.g) ∧ w.cell? ⟨b, 1, none⟩ = some (.int .i64 x.case_) ∧ w.cell? ⟨b, 2, none⟩ = some (.int .i64 x.value) ∧ w.cell? ⟨b, 3, none⟩ = some (ptrOf n) ∧ (∀ i, w.frozen? ⟨b, i, none⟩ = false) := by
 unfold seatRow at h
 exact ⟨by rw [cell_of_row _ _ _ _ _ _ h]; rfl, by rw [cell_of_row _ _ _ _ _ _ h]; rfl, by rw [cell_of_row _ _ _ _ _ _ h]; rfl, by rw [cell_of_row _ _ _ _ _ _ h]; rfl, fun i => by simp [World.frozen?, h]⟩
set_option maxHeartbeats 400000 in
theorem pew_new (w : World) : Calls Tryz.prog 168 #[] w fun e w' => ∃ p, e = .returned (.pointer (some ⟨p, 0, none⟩)) ∧ PewAt w' (New Nil w w') p [] ∧ Frm Nil w w' := by
 go_enter Tryz.func168, Tryz.ntmps168
 go_wp2
 go_ret
 exact ⟨w.heap.size, rfl, ⟨[], ⟨rfl, fun i h => absurd h (Nat.not_lt_zero _)⟩, List.nodup_nil, by simp, by simp, .inr ⟨Nat.le_refl _, by simp⟩, heap_alloc_new w _⟩, (Frm.refl _ _).alloc _⟩
set_option maxHeartbeats 400000 in
theorem pew_len (h : PewAt w S p L) : Calls Tryz.prog 155 #[.pointer (some ⟨p, 0, none⟩)] w fun e w' => e = .returned (.int .i64 L.length) ∧ w = w' := by
 obtain ⟨bs, _, _, _, _, _, h6⟩ := h
 obtain ⟨_, _, c2, _⟩ := pew_cells h6
 go_enter Tryz.func155, Tryz.ntmps155
 go_wp2
 go_ret
 exact ⟨rfl, rfl⟩
set_option maxHeartbeats 400000 in
theorem pew_len_nil (w : World) : Calls Tryz.prog 155 #[.pointer none] w fun e w' => e = .returned (.int .i64 0) ∧ w = w' := by
 go_enter Tryz.func155, Tryz.ntmps155
 go_wp2
 go_ret
 exact ⟨rfl, rfl⟩
/-- What Add answers. -/
def addF (L : List Wtr) (x : Wtr) : Int × List Wtr := if x.g < 0 ∨ x.case_ < -1 then (1, L) else if L.length = 1024 then (5, L) else (0, L ++ [x])
theorem seats_snoc {w w' : World} {bs : List Nat} {L : List Wtr} {b : Nat} {x : Wtr} (h : SeatsAt w bs L) (hn : bs.Nodup) (hb : b ∉ bs)
  (hnew : w'.heap[b]? = some (seatRow x none)) (hlast : ∀ l, bs.getLast? = some l → ∀ y, w.heap[l]? = some (seatRow y none) → w'.heap[l]? = some (seatRow y (some b)))
  (hold : ∀ k ∈ bs, bs.getLast? ≠ some k → w'.heap[k]? = w.heap[k]?) : SeatsAt w' (bs ++ [b]) (L ++ [x]) := by
 refine ⟨by simp [h.1], fun i hi hi' => ?_⟩
 by_cases hlt : i < L.length
 ·have hbl : i < bs.length := by rw [h.1]; exact hlt
  rw [List.getElem_append_left hlt, List.getElem_append_left hbl]
  have h0 := h.2 i hlt hbl
  by_cases he : i + 1 < bs.length
  ·rw [List.getElem?_append_left he]
   rw [hold _ (List.getElem_mem hbl) (fun hl => ?_)]
   ·exact h0
   ·rw [List.getLast?_eq_getElem?, List.getElem?_eq_getElem (by omega)] at hl
    injection hl with hl
    have := (List.getElem_inj hn).1 hl
    omega
  ·have hle : bs.getLast? = some bs[i] := by
    rw [List.getLast?_eq_getElem?, List.getElem?_eq_getElem (by omega)]
    congr 2
    omega
   rw [List.getElem?_eq_none (by omega)] at h0
   rw [List.getElem?_append_right (by omega), show i + 1 - bs.length = 0 by omega]
   exact hlast _ hle _ h0
 ·have hil : i = L.length := by simp at hi; omega
  subst hil
  rw [List.getElem_append_right (Nat.le_refl _), List.getElem_append_right (by rw [h.1]; exact Nat.le_refl _)]
  simp only [h.1, Nat.sub_self, List.getElem_cons_zero]
  rw [List.getElem?_eq_none (by simp [h.1])]
  exact hnew
set_option maxHeartbeats 400000 in
theorem pew_add_arg (q : Option Addr) (x : Wtr) (hx : x.g < 0 ∨ x.case_ < -1) (w : World) : Calls Tryz.prog 199 #[.pointer q, x.agg] w fun e w' => e = .returned (.int .i64 1) ∧ Frm Nil w w' := by
 obtain ⟨g, c, v⟩ := x
 dsimp only at hx
 unfold Wtr.agg
 dsimp only
 rcases Int.lt_or_le g 0 with hg | hg
 ·go_enter Tryz.func199, Tryz.ntmps199
  go_wp2
  go_ret
  exact ⟨rfl, (Frm.refl _ _).alloc _⟩
 ·have hc : c < -1 := by omega
  clear hx
  go_enter Tryz.func199, Tryz.ntmps199
  go_wp2
  go_ret
  exact ⟨rfl, (Frm.refl _ _).alloc _⟩
set_option maxHeartbeats 400000 in
theorem pew_add_full (h : PewAt w S p L) (hL : L.length = 1024) (x : Wtr) (h0 : 0 ≤ x.g) (h1 : -1 ≤ x.case_) : Calls Tryz.prog 199 #[.pointer (some ⟨p, 0, none⟩), x.agg] w fun e w' => e = .returned (.int .i64 5) ∧ Frm Nil w w' := by
 obtain ⟨bs, hs, hn, hp, hb, hS, h6⟩ := h
 have hpl := lt_of_block h6
 obtain ⟨c0, c1, c2, cf⟩ := pew_cells h6
 rw [hL] at c2
 clear hL h6
 obtain ⟨g, cs, v⟩ := x
 dsimp only at h0 h1
 unfold Wtr.agg
 dsimp only
 go_enter Tryz.func199, Tryz.ntmps199
 go_wp2
 go_ret
 exact ⟨rfl, (Frm.refl _ _).alloc _⟩
set_option maxHeartbeats 400000 in
theorem pew_add_ok (h : PewAt w S p L) (hL : L.length < 1024) (x : Wtr) (h0 : 0 ≤ x.g) (h1 : -1 ≤ x.case_) : Calls Tryz.prog 199 #[.pointer (some ⟨p, 0, none⟩), x.agg] w
  fun e w' => e = .returned (.int .i64 0) ∧ PewAt w' (New S w w') p (L ++ [x]) ∧ Frm S w w' := by
 obtain ⟨bs, hs, hn, hp, hb, hS, h6⟩ := h
 have hpl := lt_of_block h6
 obtain ⟨c0, c1, c2, cf⟩ := pew_cells h6
 obtain ⟨g, cs, v⟩ := x
 dsimp only at h0 h1
 unfold Wtr.agg
 dsimp only
 obtain ⟨n, hnL⟩ : ∃ n, L.length = n := ⟨_, rfl⟩
 rw [hnL] at c2 hL h6
 have hn0 : ((n : Int) == 1024) = false := by simp; omega
 have HN := Lib.hid hnL
 have HS := Lib.hid hs
 have H6 := Lib.hid h6
 clear hnL hs h6
 rcases bs with _ | ⟨b0, bs⟩
 ·have hc1 : w.cell? ⟨p, 1, none⟩ = some (.pointer none) := c1
  have hc0 : w.cell? ⟨p, 0, none⟩ = some (.pointer none) := c0
  clear c0 c1
  go_enter Tryz.func199, Tryz.ntmps199
  go_wp2
  go_ret
  refine ⟨rfl, ?_, ?_⟩
  ·have hs := HS.out
   have hL0 : L = [] := List.eq_nil_of_length_eq_zero hs.1.symm
   subst hL0
   have hn := HN.out
   subst hn
   have e0 := H6.out
   have e2 := heap_old2 (.cells #[.int .i64 g, .int .i64 cs, .int .i64 v] 225) (.cells #[.int .i64 g, .int .i64 cs, .int .i64 v, .pointer none] 301) (blk_set (blk_set (blk_set e0 0 (.pointer (some ⟨w.heap.size + 1, 0, none⟩))) 1 (.pointer (some ⟨w.heap.size + 1, 0, none⟩))) 2 (.int .i64 ((0 : Int) + 1)))
   refine ⟨[w.heap.size + 1], ⟨rfl, fun i hi hi' => ?_⟩, by simp, by simp; omega, fun b hb => ?_, .inl hS, e2⟩
   ·have hi0 : i = 0 := by simp at hi; omega
    subst hi0
    exact heap_new2' _ _ (by simp [World.setCell])
   ·rw [List.mem_singleton] at hb
    subst hb
    exact .inr ⟨Nat.le_succ _, by simp [World.setCell]⟩
  ·exact (((((Frm.refl S w).setCell (p := ⟨p, 0, none⟩) (fun _ => hS) _).setCell (p := ⟨p, 1, none⟩) (fun _ => hS) _).setCell (p := ⟨p, 2, none⟩) (fun _ => hS) _).alloc _).alloc _
 ·obtain ⟨l, hl⟩ : ∃ l, (b0 :: bs).getLast? = some l := ⟨_, List.getLast?_eq_some_getLast (by simp)⟩
  have hlm : l ∈ b0 :: bs := List.mem_of_getLast? hl
  have hc1 : w.cell? ⟨p, 1, none⟩ = some (.pointer (some ⟨l, 0, none⟩)) := by rw [c1, hl]; rfl
  have hll := HS.out.lt l hlm
  have hlp : l ≠ p := fun h => hp (h ▸ hlm)
  have hlp' : p ≠ l := fun h => hp (h ▸ hlm)
  obtain ⟨y, hy⟩ : ∃ y, w.heap[l]? = some (seatRow y none) := by
   have h1 := HS.out
   rw [List.getLast?_eq_getElem?] at hl
   obtain ⟨hi, hl⟩ := List.getElem?_eq_some_iff.1 hl
   have h2 := h1.2 _ (by rw [← h1.1]; exact hi) hi
   rw [hl, List.getElem?_eq_none (by simp)] at h2
   exact ⟨_, h2⟩
  obtain ⟨_, _, _, d3, df⟩ := seat_cells hy
  have d3' : w.cell? ⟨l, 3, none⟩ = some (.pointer none) := d3
  have HL := Lib.hid hl
  have HY := Lib.hid hy
  clear c0 c1 d3 hl hy
  have HW3 : Hid (∃ W3, ((w.setCell ⟨l, 3, none⟩ (.pointer (some ⟨w.heap.size + 1, 0, none⟩))).setCell ⟨p, 1, none⟩ (.pointer (some ⟨w.heap.size + 1, 0, none⟩))).setCell ⟨p, 2, none⟩ (.int .i64 ((n : Int) + 1)) = W3 ∧
    W3.heap.size = w.heap.size ∧ Frm S w W3 ∧ W3.heap[l]? = some (seatRow y (some (w.heap.size + 1))) ∧ (∀ k, k ≠ l → k ≠ p → W3.heap[k]? = w.heap[k]?) ∧
    W3.heap[p]? = some (.cells #[ptrOf (some b0), ptrOf (some (w.heap.size + 1)), .int .i64 ((n : Int) + 1)] 275 (0, 0))) := by
   refine ⟨_, rfl, by simp [World.setCell], ?_, ?_, ?_, ?_⟩
   ·exact (((Frm.refl S w).setCell (p := ⟨l, 3, none⟩) (fun _ => hb l hlm) _).setCell (p := ⟨p, 1, none⟩) (fun _ => hS) _).setCell (p := ⟨p, 2, none⟩) (fun _ => hS) _
   ·exact blk_far (blk_far (blk_set (show w.heap[l]? = some (Obj.cells _ _ (0, 0)) from HY.out) 3 (.pointer (some ⟨w.heap.size + 1, 0, none⟩))) (p := ⟨p, 1, none⟩) hlp (.pointer (some ⟨w.heap.size + 1, 0, none⟩))) (p := ⟨p, 2, none⟩) hlp (.int .i64 ((n : Int) + 1))
   ·intro k hkl hkp
    rw [Below.heap_setCell _ _ _ _ hkp, Below.heap_setCell _ _ _ _ hkp, Below.heap_setCell _ _ _ _ hkl]
   ·exact blk_set (blk_set (blk_far H6.out (p := ⟨l, 3, none⟩) hlp' (.pointer (some ⟨w.heap.size + 1, 0, none⟩))) 1 (.pointer (some ⟨w.heap.size + 1, 0, none⟩))) 2 (.int .i64 ((n : Int) + 1))
  go_enter Tryz.func199, Tryz.ntmps199
  go_wp2
  go_ret
  obtain ⟨W3, hW, hsz, hfr, hWl, hWk, hWp⟩ := HW3.out
  rw [hW]
  clear hW HW3
  have hs := HS.out
  have hn0 := HN.out
  subst hn0
  have hnew : ((W3.alloc (.cells #[.int .i64 g, .int .i64 cs, .int .i64 v] 225)).alloc (.cells #[.int .i64 g, .int .i64 cs, .int .i64 v, .pointer none] 301)).heap[w.heap.size + 1]? = some (seatRow ⟨g, cs, v⟩ none) := heap_new2' _ _ (by rw [hsz])
  refine ⟨rfl, ⟨(b0 :: bs) ++ [w.heap.size + 1], ?_, ?_, ?_, fun b hb' => ?_, .inl hS, ?_⟩, (hfr.alloc _).alloc _⟩
  ·refine seats_snoc hs hn (fun hm => by have := hs.lt _ hm; omega) hnew (fun l' hl' z hz => ?_) (fun k hk hne => ?_)
   ·rw [HL.out] at hl'
    injection hl' with hl'
    subst hl'
    rw [HY.out] at hz
    injection hz with hz
    have hyz : y = z := seatRow_inj hz
    subst hyz
    exact heap_old2 _ _ hWl
   ·have hkp : k ≠ p := fun h => hp (h ▸ hk)
    have hkl : k ≠ l := fun h => hne (by rw [h]; exact HL.out)
    have hkw := hs.lt k hk
    exact ((Below.heap_alloc _ _ _ (by simp; omega)).trans (Below.heap_alloc _ _ _ (by omega))).trans (hWk k hkl hkp)
  ·rw [List.nodup_append]
   exact ⟨hn, by simp, fun a ha b hb' => by rw [List.mem_singleton] at hb'; subst hb'; have := hs.lt a ha; omega⟩
  ·intro hm
   rcases List.mem_append.1 hm with hm | hm
   ·exact hp hm
   ·rw [List.mem_singleton] at hm
    omega
  ·rcases List.mem_append.1 hb' with hm | hm
   ·exact .inl (hb b hm)
   ·rw [List.mem_singleton] at hm
    subst hm
    exact .inr ⟨Nat.le_succ _, by simp [hsz]⟩
  ·have e2 := heap_old2 (.cells #[.int .i64 g, .int .i64 cs, .int .i64 v] 225) (.cells #[.int .i64 g, .int .i64 cs, .int .i64 v, .pointer none] 301) hWp
   rw [List.getLast?_append, List.length_append]
   exact e2
end
end Go.Proofs.YtchkaaeoffmjnaaGreatDoor
namespace Go.Proofs.YtchkaaeoffmjnaaGreatDoor
set_option linter.unusedVariables false
set_option linter.unusedSimpArgs false
open Go.RowKit
theorem SeatsAt.tail {w : World} {b : Nat} {bs : List Nat} {x : Wtr} {L : List Wtr} (h : SeatsAt w (b :: bs) (x :: L)) : SeatsAt w bs L :=
 ⟨by have := h.1; simpa using this, fun i hi hi' => h.2 (i + 1) (by simp; exact hi) (by simp; exact hi')⟩
def sliceLen : Value → Nat | .slice _ n _ => n | _ => 0
def wzero : Wtr := ⟨0, 0, 0⟩
section
variable {w : World} {S : Nat → Prop} {p : Nat} {L : List Wtr}
/-- What Len answers in whatever world behind w. -/
def LenIs (w : World) (q : Option Addr) (n : Int) : Prop := ∀ w', Frm Nil w w' → Calls Tryz.prog 155 #[.pointer q] w' fun e w2 => e = .returned (.int .i64 n) ∧ w' = w2
theorem len_is (h : PewAt w S p L) : LenIs w (some ⟨p, 0, none⟩) L.length := fun w' f => pew_len (h.move' f)
set_option maxHeartbeats 400000 in
theorem pew_first_none {q : Option Addr} (hl : LenIs w q 0) :
  Calls Tryz.prog 224 #[.pointer q] w fun e w' => e = .returned (.tuple #[wzero.agg, .bool false]) ∧ Frm Nil w w' := by
 go_enter Tryz.func224, Tryz.ntmps224
 go_wp2_with (go_at_call 155; refine (hl _ (by repeat (first | exact Frm.refl _ _ | apply Frm.drewN | apply Frm.drew | apply Frm.alloc | (refine Frm.then ?_ (by assumption))))).mono ?_; rintro e w' ⟨rfl, rfl⟩)
 exact bodyPost_ret (v := .tuple #[.agg #[.int .i64 0, .int .i64 0, .int .i64 0], .bool false]) (by simp [results, Tryz.results224, go_sem]) rfl ⟨rfl, (by repeat (first | exact Frm.refl _ _ | apply Frm.drewN | apply Frm.drew | apply Frm.alloc | (refine Frm.then ?_ (by assumption))))⟩
set_option maxHeartbeats 400000 in
theorem pew_first {x : Wtr} (h : PewAt w S p (x :: L)) :
  Calls Tryz.prog 224 #[.pointer (some ⟨p, 0, none⟩)] w fun e w' => e = .returned (.tuple #[x.agg, .bool true]) ∧ Frm Nil w w' := by
 have K1 := len_is h
 obtain ⟨bs, hs, hn, hp, hb, hS, h6⟩ := h
 obtain ⟨c0, c1, c2, cf⟩ := pew_cells h6
 rcases bs with _ | ⟨b0, bs⟩
 ·have := hs.1; simp at this
 have hs0 := hs.2 0 (by simp) (by simp)
 obtain ⟨d0, d1, d2, d3, df⟩ := seat_cells hs0
 have hc0 : w.cell? ⟨p, 0, none⟩ = some (.pointer (some ⟨b0, 0, none⟩)) := c0
 have hbl := hs.lt b0 (by simp)
 have hpl := lt_of_block h6
 obtain ⟨g, cs, v⟩ := x
 simp only [List.getElem_cons_zero] at d0 d1 d2
 obtain ⟨n, hnn⟩ : ∃ n, ((⟨g, cs, v⟩ : Wtr) :: L).length = n := ⟨_, rfl⟩
 rw [hnn] at K1
 have hn1 : ((n : Int) == 0) = false := by
  have : n ≠ 0 := by rw [← hnn]; simp
  simpa using this
 unfold Wtr.agg
 dsimp only
 clear c0 c1 c2 d3 hs0 hs hnn h6
 go_enter Tryz.func224, Tryz.ntmps224
 go_wp2_with (go_at_call 155; refine (K1 _ (by repeat (first | exact Frm.refl _ _ | apply Frm.drewN | apply Frm.drew | apply Frm.alloc | (refine Frm.then ?_ (by assumption))))).mono ?_; rintro e w' ⟨rfl, rfl⟩)
 exact bodyPost_ret (v := .tuple #[.agg #[.int .i64 g, .int .i64 cs, .int .i64 v], .bool true]) (by simp [results, Tryz.results224, go_sem]) rfl ⟨rfl, (by repeat (first | exact Frm.refl _ _ | apply Frm.drewN | apply Frm.drew | apply Frm.alloc | (refine Frm.then ?_ (by assumption))))⟩
set_option maxHeartbeats 400000 in
theorem pew_take_none (h : PewAt w S p []) :
  Calls Tryz.prog 210 #[.pointer (some ⟨p, 0, none⟩)] w fun e w' => e = .returned (.tuple #[wzero.agg, .bool false]) ∧ PewAt w' (New S w w') p [] ∧ Frm S w w' := by
 go_enter Tryz.func210, Tryz.ntmps210
 go_wp2_with fail
 refine (pew_first_none (fun w' f => len_is h w' (Frm.then (by repeat (first | exact Frm.refl _ _ | apply Frm.drewN | apply Frm.drew | apply Frm.alloc | (refine Frm.then ?_ (by assumption)))) f))).mono ?_
 rintro e w1 ⟨rfl, f1⟩
 unfold wzero Wtr.agg
 dsimp only
 have rb := box_at f1 id
 have rl := lt_of_block rb
 have h1 := h.move' (Frm.then (Frm.alloc (Frm.refl Nil w) _) f1)
 have fw := Frm.then (Frm.alloc (Frm.refl Nil w) _) f1
 obtain ⟨r, hr⟩ : ∃ r, w.heap.size = r := ⟨_, rfl⟩
 rw [hr] at rb rl ⊢
 have r0 : w1.cell? ⟨r, 0, none⟩ = some (.int .i64 0) := row_cell rb 0 rfl
 have r1 : w1.cell? ⟨r, 1, none⟩ = some (.int .i64 0) := row_cell rb 1 rfl
 have r2 : w1.cell? ⟨r, 2, none⟩ = some (.int .i64 0) := row_cell rb 2 rfl
 have rf := row_free rb
 have HR := Lib.hid hr
 clear hr
 go_wp2_with fail
 refine bodyPost_ret (v := .tuple #[.agg #[.int .i64 0, .int .i64 0, .int .i64 0], .bool false]) (by simp [results, Tryz.results210, go_sem, r0, r1, r2, rl]) rfl ?_
 have HW : Hid (∃ W, ((w1.setCell ⟨r, 0, none⟩ (.int .i64 0)).setCell ⟨r, 1, none⟩ (.int .i64 0)).setCell ⟨r, 2, none⟩ (.int .i64 0) = W ∧ Frm (fun k => k = r) w1 W) := by
  have f0 : Frm (fun k => k = r) w1 w1 := Frm.refl _ _
  exact ⟨_, rfl, ((f0.setCell (p := ⟨r, 0, none⟩) (fun _ => rfl) (.int .i64 0)).setCell (p := ⟨r, 1, none⟩) (fun _ => rfl) (.int .i64 0)).setCell (p := ⟨r, 2, none⟩) (fun _ => rfl) (.int .i64 0)⟩
 obtain ⟨W, hW, hfr⟩ := HW.out
 rw [hW]
 clear hW HW
 have hbd := h.bound
 have hfw : Frm Nil w W := fw.trans hfr (fun x hx e => by have := HR.out; omega)
 exact ⟨rfl, (h.move' (hfw.alloc _)).mono (fun k hk => .inl hk), (hfw.alloc _).nil⟩
set_option maxHeartbeats 400000 in
theorem pew_take {x : Wtr} (h : PewAt w S p (x :: L)) (hLn : L.length < 1000000) :
  Calls Tryz.prog 210 #[.pointer (some ⟨p, 0, none⟩)] w fun e w' => e = .returned (.tuple #[x.agg, .bool true]) ∧ PewAt w' (New S w w') p L ∧ Frm S w w' := by
 obtain ⟨g, cs, v⟩ := x
 unfold Wtr.agg
 dsimp only
 go_enter Tryz.func210, Tryz.ntmps210
 go_wp2_with fail
 refine (pew_first (h.move' (by repeat (first | exact Frm.refl _ _ | apply Frm.drewN | apply Frm.drew | apply Frm.alloc | (refine Frm.then ?_ (by assumption)))))).mono ?_
 rintro e w1 ⟨rfl, f1⟩
 unfold Wtr.agg
 dsimp only
 have rb := box_at f1 id
 have rl := lt_of_block rb
 have fw := Frm.then (Frm.alloc (Frm.refl Nil w) _) f1
 obtain ⟨bs, hs', hn, hp, hb, hS, h6'⟩ := h
 have hs := hs'.move (fun b hb => fw.block b (hs'.lt b hb) id)
 have h6 := fw.blk h6' id
 have hpr := lt_of_block h6'
 have hbr := hs'.lt
 clear hs' h6'
 obtain ⟨r, hr⟩ : ∃ r, w.heap.size = r := ⟨_, rfl⟩
 rw [hr] at rb rl hpr hbr ⊢
 have r0 : w1.cell? ⟨r, 0, none⟩ = some (.int .i64 0) := row_cell rb 0 rfl
 have r1 : w1.cell? ⟨r, 1, none⟩ = some (.int .i64 0) := row_cell rb 1 rfl
 have r2 : w1.cell? ⟨r, 2, none⟩ = some (.int .i64 0) := row_cell rb 2 rfl
 have rf := row_free rb
 have HR := Lib.hid hr
 clear hr
 obtain ⟨c0, c1, c2, cf⟩ := pew_cells h6
 rcases bs with _ | ⟨b0, bs⟩
 ·have := hs.1; simp at this
 have hs0 := hs.2 0 (by simp) (by simp)
 obtain ⟨d0, d1, d2, d3, df⟩ := seat_cells hs0
 have hc0 : w1.cell? ⟨p, 0, none⟩ = some (.pointer (some ⟨b0, 0, none⟩)) := c0
 have hbl := hs.lt b0 (by simp)
 have hpl := lt_of_block h6
 have hbr0 := hbr b0 (by simp)
 have n1 : p ≠ r := by omega
 have n2 : b0 ≠ r := by omega
 have n3 : p ≠ b0 := fun h => hp (by rw [h]; simp)
 have n1' : r ≠ p := by omega
 have n2' : r ≠ b0 := by omega
 have n3' : b0 ≠ p := fun h => n3 h.symm
 simp only [List.getElem_cons_zero] at d0 d1 d2 d3
 simp only [List.length_cons] at c2
 obtain ⟨n, hnn⟩ : ∃ n, L.length = n := ⟨_, rfl⟩
 rw [hnn] at c2
 have hc2 : w1.cell? ⟨p, 2, none⟩ = some (.int .i64 ((n : Int) + 1)) := by rw [c2]; simp
 have hnm : n < 9223372036854775807 := by omega
 have HN := Lib.hid hnn
 have HS := Lib.hid hs
 have H6 := Lib.hid h6
 have HBR := Lib.hid hbr
 clear c0 c2 hs h6 hs0 hnn hbr
 rcases bs with _ | ⟨b1, bs⟩
 ·have d3' : w1.cell? ⟨b0, 3, none⟩ = some (.pointer none) := d3
  clear d3
  have HW : Hid (∃ W, (((((w1.setCell ⟨p, 0, none⟩ (.pointer none)).setCell ⟨p, 2, none⟩ (.int .i64 (n : Int))).setCell ⟨p, 1, none⟩ (.pointer none)).setCell ⟨r, 0, none⟩ (.int .i64 g)).setCell ⟨r, 1, none⟩ (.int .i64 cs)).setCell ⟨r, 2, none⟩ (.int .i64 v) = W ∧ W.heap.size = w1.heap.size ∧ Frm S w W ∧ (∀ k, k ≠ p → k ≠ r → W.heap[k]? = w1.heap[k]?) ∧
    W.heap[p]? = some (.cells #[ptrOf none, ptrOf none, .int .i64 (n : Int)] 275 (0, 0))) :=
   ⟨_, rfl, by simp [World.setCell], ((((((fw.nil (S := S)).setCell (p := ⟨p, 0, none⟩) (fun _ => hS) (.pointer none)).setCell (p := ⟨p, 2, none⟩) (fun _ => hS) (.int .i64 (n : Int))).setCell (p := ⟨p, 1, none⟩) (fun _ => hS) (.pointer none)).setCell (p := ⟨r, 0, none⟩) (fun h => absurd h (by rw [HR.out]; exact Nat.lt_irrefl r)) (.int .i64 g)).setCell (p := ⟨r, 1, none⟩) (fun h => absurd h (by rw [HR.out]; exact Nat.lt_irrefl r)) (.int .i64 cs)).setCell (p := ⟨r, 2, none⟩) (fun h => absurd h (by rw [HR.out]; exact Nat.lt_irrefl r)) (.int .i64 v), fun k hkp hkr => by rw [Below.heap_setCell _ _ _ _ hkr, Below.heap_setCell _ _ _ _ hkr, Below.heap_setCell _ _ _ _ hkr, Below.heap_setCell _ _ _ _ hkp, Below.heap_setCell _ _ _ _ hkp, Below.heap_setCell _ _ _ _ hkp], (blk_far (blk_far (blk_far (blk_set (blk_set (blk_set H6.out 0 (.pointer none)) 2 (.int .i64 (n : Int))) 1 (.pointer none)) (p := ⟨r, 0, none⟩) n1 (.int .i64 g)) (p := ⟨r, 1, none⟩) n1 (.int .i64 cs)) (p := ⟨r, 2, none⟩) n1 (.int .i64 v))⟩
  go_wp2_with fail
  refine bodyPost_ret (v := .tuple #[.agg #[.int .i64 g, .int .i64 cs, .int .i64 v], .bool true]) (by simp [results, Tryz.results210, go_sem, r0, r1, r2, rl, n1, n1']) rfl ?_
  obtain ⟨W, hW, hsz, hfr, hWk, hWp⟩ := HW.out
  rw [hW]
  clear hW HW
  have hn0 := HN.out
  have ht := HS.out.tail
  refine ⟨rfl, ⟨[], ht.move (fun b hb' => ?_), (List.nodup_cons.1 hn).2, fun hm => hp (List.mem_cons_of_mem _ hm), fun b hb' => .inl (hb b (List.mem_cons_of_mem _ hb')), .inl hS, ?_⟩, hfr.alloc _⟩
  ·have hbl := ht.lt b hb'
   exact (Below.heap_alloc _ _ _ (by rw [hsz]; exact hbl)).trans (hWk b (fun h => hp (by rw [← h]; exact List.mem_cons_of_mem _ hb')) (fun h => by have := HBR.out b (List.mem_cons_of_mem _ hb'); omega))
  ·refine (Below.heap_alloc _ _ _ (by rw [hsz]; exact hpl)).trans ?_
   rw [hWp, hn0]
   rfl
 ·have d3' : w1.cell? ⟨b0, 3, none⟩ = some (.pointer (some ⟨b1, 0, none⟩)) := d3
  clear d3
  have HW : Hid (∃ W, ((((w1.setCell ⟨p, 0, none⟩ (.pointer (some ⟨b1, 0, none⟩))).setCell ⟨p, 2, none⟩ (.int .i64 (n : Int))).setCell ⟨r, 0, none⟩ (.int .i64 g)).setCell ⟨r, 1, none⟩ (.int .i64 cs)).setCell ⟨r, 2, none⟩ (.int .i64 v) = W ∧ W.heap.size = w1.heap.size ∧ Frm S w W ∧ (∀ k, k ≠ p → k ≠ r → W.heap[k]? = w1.heap[k]?) ∧
    W.heap[p]? = some (.cells #[ptrOf (some b1), ptrOf (b0 :: b1 :: bs).getLast?, .int .i64 (n : Int)] 275 (0, 0))) :=
   ⟨_, rfl, by simp [World.setCell], (((((fw.nil (S := S)).setCell (p := ⟨p, 0, none⟩) (fun _ => hS) (.pointer (some ⟨b1, 0, none⟩))).setCell (p := ⟨p, 2, none⟩) (fun _ => hS) (.int .i64 (n : Int))).setCell (p := ⟨r, 0, none⟩) (fun h => absurd h (by rw [HR.out]; exact Nat.lt_irrefl r)) (.int .i64 g)).setCell (p := ⟨r, 1, none⟩) (fun h => absurd h (by rw [HR.out]; exact Nat.lt_irrefl r)) (.int .i64 cs)).setCell (p := ⟨r, 2, none⟩) (fun h => absurd h (by rw [HR.out]; exact Nat.lt_irrefl r)) (.int .i64 v), fun k hkp hkr => by rw [Below.heap_setCell _ _ _ _ hkr, Below.heap_setCell _ _ _ _ hkr, Below.heap_setCell _ _ _ _ hkr, Below.heap_setCell _ _ _ _ hkp, Below.heap_setCell _ _ _ _ hkp], (blk_far (blk_far (blk_far (blk_set (blk_set H6.out 0 (.pointer (some ⟨b1, 0, none⟩))) 2 (.int .i64 (n : Int))) (p := ⟨r, 0, none⟩) n1 (.int .i64 g)) (p := ⟨r, 1, none⟩) n1 (.int .i64 cs)) (p := ⟨r, 2, none⟩) n1 (.int .i64 v))⟩
  go_wp2_with fail
  refine bodyPost_ret (v := .tuple #[.agg #[.int .i64 g, .int .i64 cs, .int .i64 v], .bool true]) (by simp [results, Tryz.results210, go_sem, r0, r1, r2, rl, n1, n1']) rfl ?_
  obtain ⟨W, hW, hsz, hfr, hWk, hWp⟩ := HW.out
  rw [hW]
  clear hW HW
  have hn0 := HN.out
  have ht := HS.out.tail
  refine ⟨rfl, ⟨b1 :: bs, ht.move (fun b hb' => ?_), (List.nodup_cons.1 hn).2, fun hm => hp (List.mem_cons_of_mem _ hm), fun b hb' => .inl (hb b (List.mem_cons_of_mem _ hb')), .inl hS, ?_⟩, hfr.alloc _⟩
  ·have hbl := ht.lt b hb'
   exact (Below.heap_alloc _ _ _ (by rw [hsz]; exact hbl)).trans (hWk b (fun h => hp (by rw [← h]; exact List.mem_cons_of_mem _ hb')) (fun h => by have := HBR.out b (List.mem_cons_of_mem _ hb'); omega))
  ·refine (Below.heap_alloc _ _ _ (by rw [hsz]; exact hpl)).trans ?_
   rw [hWp, hn0]
   rfl
theorem infoW : (Tryz.prog.info? 225).map (fun i => (i.zero, i.size, i.bytes)) = some (some (.agg #[.int .i64 0, .int .i64 0, .int .i64 0]), 3, 24) := by kernel_rfl
theorem take_one {α : Type} (f : α → List Value) (L : List α) (k : Nat) (h : k < L.length) : (L.take (k + 1)).flatMap f = (L.take k).flatMap f ++ f L[k] := by
 rw [List.take_succ_eq_append_getElem h, flat_one]
/-- A slice of the waiters L comes back, new. -/
def Wtrs (w : World) (L : List Wtr) : Ending → World → Prop := fun e w' => ∃ a cap, e = .returned (.slice a L.length cap) ∧ Rd w' 3 a L.length (L.flatMap Wtr.cells) ∧ (∀ b o, a = some ⟨b, o, none⟩ → w.heap.size ≤ b) ∧ Frm Nil w w'
set_option maxRecDepth 100000 in
set_option maxHeartbeats 400000 in
theorem pew_list_nil (w : World) : Calls Tryz.prog 220 #[.pointer none] w fun e w' => e = .returned (.slice none 0 0) ∧ w = w' := by
 go_enter Tryz.func220, Tryz.ntmps220
 go_wp2
 go_ret
 exact ⟨rfl, rfl⟩
set_option maxRecDepth 100000 in
set_option maxHeartbeats 400000 in
theorem pew_list (h : PewAt w S p L) (hL : L.length ≤ 100000) : Calls Tryz.prog 220 #[.pointer (some ⟨p, 0, none⟩)] w (Wtrs w L) := by
 obtain ⟨bs, hs, hn, hp, hb, hS, h6⟩ := h
 obtain ⟨c0, c1, c2, cf⟩ := pew_cells h6
 have hfst : ptrOf bs.head? = ptrOf bs[0]? := by rw [List.head?_eq_getElem?]
 rw [hfst] at c0
 clear hfst
 obtain ⟨a0, ha0⟩ : ∃ a0, ptrOf bs[0]? = .pointer a0 := ⟨_, rfl⟩
 rw [ha0] at c0
 have HA := Lib.hid ha0
 clear ha0
 go_enter Tryz.func220, Tryz.ntmps220
 go_wp2
 go_loopw [3, 4] (fun v sp wr => ∃ k : Nat, k ≤ L.length ∧ Hid (sp = ptrOf bs[k]?) ∧ (∃ a, sp = .pointer a) ∧ Frm Nil w wr ∧ ColC 225 3 w.heap.size wr v k ((L.take k).flatMap Wtr.cells)) (fun v _ _ => L.length - sliceLen v)
 case atStart => exact ⟨0, Nat.zero_le _, HA.out.symm, ⟨_, rfl⟩, Frm.refl _ _, ColC.nil _ _ _ _⟩
 case round =>
  obtain ⟨k, hk, hsp, ⟨ak, rfl⟩, hfr, hcol⟩ := hrel
  obtain ⟨va, vc, rfl, _⟩ := hcol.rd
  by_cases hlt : k < L.length
  ·have hkb : k < bs.length := by rw [hs.1]; exact hlt
   have e0 := hsp.out
   rw [List.getElem?_eq_getElem hkb] at e0
   obtain ⟨b, hbk⟩ : ∃ b, bs[k] = b := ⟨_, rfl⟩
   have hbw := hs.lt _ (List.getElem_mem hkb)
   have hsr := hfr.blk (hs.2 k hlt hkb) id
   rw [hbk] at e0 hsr hbw
   obtain rfl : ak = some ⟨b, 0, none⟩ := by injection e0
   obtain ⟨x, hx⟩ : ∃ x, L[k] = x := ⟨_, rfl⟩
   rw [hx] at hsr
   obtain ⟨a1, ha1⟩ : ∃ a1, ptrOf bs[k + 1]? = .pointer a1 := ⟨_, rfl⟩
   obtain ⟨d0, d1, d2, d3, df⟩ := seat_cells hsr
   rw [ha1] at d3
   have hbl := lt_of_block hsr
   have htk := take_one Wtr.cells L k hlt
   rw [hx] at htk
   obtain ⟨g, cs, v⟩ := x
   dsimp only at d0 d1 d2
   have HT := Lib.hid htk
   have HA1 := Lib.hid ha1
   have HSR := Lib.hid hsr
   clear htk ha1 e0 hsp hbk hx hsr
   go_wp2_with (at_builtin; go_must (refine colc_app rfl _ _ 231 _ 24 rfl Tryz.underlying231 infoW rfl (by decide) (.slice va k vc) k _ [.int .i64 g, .int .i64 cs, .int .i64 v] rfl rfl (by simp) rfl rfl hcol hfr rfl (by omega) (by decide) ?_); intro v1 w1 hcol1 hfr1 hfr2; have hsr1 := hfr2.blk HSR.out (fun h => by unfold From at h; omega); obtain ⟨_, _, _, d3', _⟩ := seat_cells hsr1; rw [HA1.out] at d3')
   go_roundw
   case rel => exact ⟨k + 1, by omega, HA1.out.symm, ⟨_, rfl⟩, hfr1, by rw [HT.out]; exact hcol1⟩
   case measure =>
    obtain ⟨a9, c9, e9, _⟩ := hcol1.rd
    rw [e9]
    simp [sliceLen]
    omega
  ·have hkn : k = L.length := by omega
   have e0 := hsp.out
   rw [List.getElem?_eq_none (by rw [hs.1]; omega)] at e0
   obtain rfl : ak = none := by injection e0
   clear e0 hsp
   have HK := Lib.hid hkn
   clear hkn
   go_wp2
   go_ret
   have hkn := HK.out
   subst hkn
   obtain ⟨a9, c9, e9, h9⟩ := hcol.rd
   rw [List.take_length] at h9
   injection e9 with e9 _ e10
   subst e9
   exact ⟨_, _, rfl, h9, fun b o hb => hcol.2 b (by rw [hb]; rfl), hfr⟩
end
end Go.Proofs.YtchkaaeoffmjnaaGreatDoor
