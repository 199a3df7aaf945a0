/- The walker's rules: slices of one's own (a load, a store, append), structs that are built, maps. No Go in it. -/
import Derived.Test.YtoejhelhgfipkaaDoorSxA
import Derived.Test.YtoejhelhgfipkaaDoorMap
import Derived.Laws.Tables
namespace Go.Proofs.YtoejhelhgfipkaaDoor
set_option linter.unusedVariables false
set_option linter.unusedSimpArgs false
open Go.RowKit Go.ChangeMaps

section
variable {P : Program} {w : World} {L F : List Piece} {g o te sz n c : Nat} {xs : List Value} {v u : Value} {K : Value → Prop}

theorem own_cell (h : w.ownsRow 0 te sz (.slice (some ⟨g, 0, none⟩) n c) n xs) (hj : xs[o]? = some v) : w.cell? ⟨g, o, none⟩ = some v := by
  have := h.cells (g := g) rfl o v hj
  unfold Addr.add at this
  split at this
  · rename_i h0; subst h0; exact this
  · simpa using this

theorem SL.slcCell (H : SL w L) (i : Nat) (hi : L[i]? = some (Slc te sz (.slice (some ⟨g, 0, none⟩) n c) n xs)) (hj : xs[o]? = some v) : w.cell? ⟨g, o, none⟩ = some v := by
  obtain ⟨T, _, h⟩ := SLs.at i H hi
  exact own_cell h.1 hj

theorem SL.ldS (H : SL w L) (i : Nat) (hi : L[i]? = some (Slc te sz (.slice (some ⟨g, 0, none⟩) n c) n xs)) (hj : xs[o]? = some v) (k : K v) : Ld w ⟨g, o, none⟩ K := Ld.by (H.slcCell i hi hj) k

theorem LdC.S (i : Nat) (hi : L[i]? = some (Slc te sz (.slice (some ⟨g, 0, none⟩) n c) n xs)) (hj : xs[o]? = some v) (k : K v) : LdC (fun w => SL w L) ⟨g, o, none⟩ K := LdC.by (fun w H => SL.slcCell H i hi hj) k

theorem own_set (h : w.ownsRow 0 te sz (.slice (some ⟨g, 0, none⟩) n c) n xs) (ho : o < xs.length) : (w.setCell ⟨g, o, none⟩ u).ownsRow 0 te sz (.slice (some ⟨g, 0, none⟩) n c) n (xs.set o u) := by
  obtain ⟨h1, h2⟩ := h
  refine ⟨by rw [List.length_set]; exact h1, ?_⟩
  rcases h2 with ⟨h2, _⟩ | ⟨g', cap, cur, h2, h3, h4, h5, h6, h7, h8⟩
  · cases h2
  · injection h2 with e1 e2 e3
    injection e1 with e1
    injection e1 with e1
    subst e1 e3
    refine .inr ⟨g, c, cur.setIfInBounds o u, rfl, h3, ?_, h5, h6, by simp [h7], ?_⟩
    · exact blk_set h4 o u
    · rw [← h8, Array.toList_setIfInBounds, List.take_set]

theorem own_free (h : w.ownsRow 0 te sz (.slice (some ⟨g, 0, none⟩) n c) n xs) (i : Nat) : w.frozen? ⟨g, i, none⟩ = false := by
  rcases h.2 with ⟨h2, _⟩ | ⟨g', cap, cur, h2, h3, h4, _⟩
  · cases h2
  · injection h2 with e1 e2 e3
    injection e1 with e1
    injection e1 with e1
    subst e1
    simp [World.frozen?, h4]

theorem SL.stS {K : World → Prop} (H : SL w (Slc te sz (.slice (some ⟨g, 0, none⟩) n c) n xs :: F)) (ho : o < xs.length) (h1 : u.oneCell' = true)
    (k : ∀ w', SL w' (Slc te sz (.slice (some ⟨g, 0, none⟩) n c) n (xs.set o u) :: F) → K w') : St w ⟨g, o, none⟩ u K := by
  obtain ⟨S, ⟨h2, h3⟩, h4, h5⟩ := H.call
  have hg := h3 g rfl
  refine ⟨⟨⟨xs[o], own_cell h2 (by simp [ho])⟩, own_free h2 o, h1, k _ (h5 _ [Slc te sz (.slice (some ⟨g, 0, none⟩) n c) n (xs.set o u)] ((Frm.refl S w).setCell (p := ⟨g, o, none⟩) (fun _ => hg) u) ⟨_, fun _ h => h, ⟨own_set h2 ho, fun k hk => .inl (h3 k hk)⟩, trivial⟩)⟩⟩

/-- append(v, src..): v a slice of one's own, src read somewhere. -/
theorem SL.app {σ : Fr} {op : Oper} {K : Value → World → Prop} (H : SL w (Slc te sz v n xs :: F)) (s x : Operand) (t : TypeId) (z : Value) (bytes : Nat)
    (hop : op.op = .call { callee := .builtin .append, args := #[s, x], argTypes := #[t, t] })
    (ht : P.underlying t = some (.slice te)) (hinfo : (P.info? te).map (fun i => (i.zero, i.size, i.bytes)) = some (some z, sz, bytes)) (hz : z.cells.size = sz) (hs0 : 0 < sz)
    (hs : ev σ s = v) (A : Option Addr) (m cap : Nat) (news : List Value) (hx : ev σ x = .slice A m cap) (hr : Rd w sz A m news) (h1 : news.all Value.oneCell' = true) (hn : n + m < 1000000000) (hl : bytes ≤ 1000)
    (k : ∀ v' w', SL w' (Slc te sz v' (n + m) (xs ++ news) :: F) → K v' w') : Mn P σ op w K := by
  obtain ⟨v1, w1, hrun, k1, _⟩ := sl_append_run (P := P) t op.type z bytes ht hinfo hz hs0 v n xs A m cap news hr h1 H hn hl
  refine Mn.by (v := v1) (w' := w1) ?_ (k v1 w1 k1)
  simp only [execOp, hop, resolve, invoke, builtin, Sem.run_bind, Sem.run_pure, Result.andThen_ok, List.map_toArray, List.map_cons, List.map_nil, hs, hx, hrun]

/-- The same where something is appended: the new value written out. -/
theorem SL.appS {σ : Fr} {op : Oper} {K : Value → World → Prop} (H : SL w (Slc te sz v n xs :: F)) (s x : Operand) (t : TypeId) (z : Value) (bytes : Nat)
    (hop : op.op = .call { callee := .builtin .append, args := #[s, x], argTypes := #[t, t] })
    (ht : P.underlying t = some (.slice te)) (hinfo : (P.info? te).map (fun i => (i.zero, i.size, i.bytes)) = some (some z, sz, bytes)) (hz : z.cells.size = sz) (hs0 : 0 < sz)
    (hs : ev σ s = v) (A : Option Addr) (m cap : Nat) (news : List Value) (hx : ev σ x = .slice A m cap) (hr : Rd w sz A m news) (h1 : news.all Value.oneCell' = true) (hn : n + m < 1000000000) (hl : bytes ≤ 1000) (hm : 0 < m)
    (k : ∀ g c w', SL w' (Slc te sz (.slice (some ⟨g, 0, none⟩) (n + m) c) (n + m) (xs ++ news) :: F) → K (.slice (some ⟨g, 0, none⟩) (n + m) c) w') : Mn P σ op w K := by
  refine SL.app H s x t z bytes hop ht hinfo hz hs0 hs A m cap news hx hr h1 hn hl ?_
  intro v' w' H'
  obtain ⟨S, _, h⟩ := H'.on
  obtain ⟨a, c, rfl⟩ := own_form h.1
  obtain ⟨g, rfl⟩ := own_some h.1 (by omega)
  exact k g c w' H'

theorem Mn.build {σ : Fr} {op : Oper} {K : Value → World → Prop} (cs : Array Value) {t : TypeId} {parts : Array (Nat × Operand)} (hop : op.op = .build t parts) (h : P.built t (parts.toList.map fun p => (p.1, ev σ p.2)) = some cs) (k : K (.agg cs) w) : Mn P σ op w K := by
  refine Mn.by (v := .agg cs) (w' := w) ?_ k
  simp only [execOp, hop, Sem.run_bind]
  rw [run_build w t _ cs (by simpa using h)]
  rfl

theorem MnC.build {σ : Fr} {op : Oper} {S : World → Prop} {K : Value → Prop} (cs : Array Value) {t : TypeId} {parts : Array (Nat × Operand)} (hop : op.op = .build t parts) (h : P.built t (parts.toList.map fun p => (p.1, ev σ p.2)) = some cs) (k : K (.agg cs)) : MnC P S σ op K := by
  refine ⟨⟨.agg cs, fun w _ => ?_, k⟩⟩
  simp only [execOp, hop, Sem.run_bind]
  rw [run_build w t _ cs (by simpa using h)]
  rfl

theorem Mn.pure {σ : Fr} {op : Oper} {K : Value → World → Prop} (v : Value) (h : (execOp (ev σ) op).run P w = .ok (.value v) w) (k : K v w) : Mn P σ op w K := Mn.by h k
theorem MnC.pure {σ : Fr} {op : Oper} {S : World → Prop} {K : Value → Prop} (v : Value) (h : ∀ w, (execOp (ev σ) op).run P w = .ok (.value v) w) (k : K v) : MnC P S σ op K := ⟨⟨v, fun w _ => h w, k⟩⟩
/-- A new block of cells, and a value over its number. -/
theorem Mn.new {σ : Fr} {op : Oper} {K : Value → World → Prop} (f : Nat → Value) (cs : Array Value) (t : Nat) (h : (execOp (ev σ) op).run P w = .ok (.value (f w.heap.size)) (w.alloc (.cells cs t (0, 0)))) (H : SL w L) (k : ∀ b w', SL w' (row b cs t :: L) → K (f b) w') : Mn P σ op w K :=
  Mn.by h (k _ _ (H.alloc _))
theorem Mn.newMap {σ : Fr} {op : Oper} {K : Value → World → Prop} (kt : Nat) (h : (execOp (ev σ) op).run Tryd.prog w = .ok (.value (.map (some w.heap.size))) (w.alloc (.map #[] 0))) (H : SL w L) (k : ∀ b w', SL w' (MapP kt b 0 (fun _ => none) :: L) → K (.map (some b)) w') : Mn Tryd.prog σ op w K :=
  Mn.by h (k _ _ (H.mapMade kt))
theorem SL.one {A : Piece} (H : SL w L) (i : Nat) (hi : L[i]? = some A) : SL w [A] := by
  obtain ⟨T, h1, h2⟩ := SLs.at i H hi
  exact ⟨T, h1, h2, trivial⟩

/-- A slice that is read: what a call of append reads. -/
theorem SL.rdRow {cs : List Value} {t m : Nat} (H : SL w L) (i : Nat) (hi : L[i]? = some (row g cs.toArray t)) (hm : cs.length = m * sz) (hx : m ≤ maxLen) : Rd w sz (some ⟨g, 0, none⟩) m cs :=
  ⟨hm, hx, fun _ => ⟨g, 0, rfl, fun j u hu => row_cell (H.at i hi) (0 + j) (by rw [Nat.zero_add]; simpa using hu)⟩⟩
end

section
variable {w : World} {L F : List Piece} {kt b n : Nat} {f : Int → Option Value} {σ : Fr} {op : Oper}

theorem MnC.look {K : Value → Prop} (i : Nat) (hi : L[i]? = some (MapP kt b n f)) (m x : Operand) (t e : TypeId) (hop : op.op = .lookup t m x false) (hk : Tryd.prog.underlying kt = some (.int .i64)) (ht : Tryd.prog.underlying t = some (.map kt e)) {z : Value} (hz : ∀ w, (zeroValue e).run Tryd.prog w = .ok z w)
    (c : Int) (hc : (Lit.int .i64 c).wf = true) (hm : ev σ m = .map (some b)) (hx : ev σ x = .int .i64 c) (k : K ((f c).getD z)) : MnC Tryd.prog (fun w => SL w L) σ op K := by
  refine ⟨⟨(f c).getD z, fun w H => ?_, k⟩⟩
  have hrun := map_look (SL.one H i hi) hk ht (hz w) hc
  simp [execOp, hop, hm, hx, hrun, Result.andThen]

theorem Mn.look {K : Value → World → Prop} (H : SL w L) (i : Nat) (hi : L[i]? = some (MapP kt b n f)) (m x : Operand) (t e : TypeId) (hop : op.op = .lookup t m x false) (hk : Tryd.prog.underlying kt = some (.int .i64)) (ht : Tryd.prog.underlying t = some (.map kt e)) {z : Value} (hz : ∀ w, (zeroValue e).run Tryd.prog w = .ok z w)
    (c : Int) (hc : (Lit.int .i64 c).wf = true) (hm : ev σ m = .map (some b)) (hx : ev σ x = .int .i64 c) (k : K ((f c).getD z) w) : Mn Tryd.prog σ op w K := by
  refine Mn.by (v := (f c).getD z) (w' := w) ?_ k
  have hrun := map_look (H.one i hi) hk ht (hz w) hc
  simp [execOp, hop, hm, hx, hrun, Result.andThen]

theorem Mn.mapSet {K : Value → World → Prop} (H : SL w (MapP kt b n f :: F)) (hn : n ≤ 3000000) (m x v : Operand) (t e : TypeId) (hop : op.op = .mapUpdate t m x v) (hk : Tryd.prog.underlying kt = some (.int .i64)) (ht : Tryd.prog.underlying t = some (.map kt e))
    (c : Int) (hc : (Lit.int .i64 c).wf = true) (val : Value) (hm : ev σ m = .map (some b)) (hx : ev σ x = .int .i64 c) (hv : ev σ v = val)
    (k : ∀ w', SL w' (MapP kt b (if (f c).isSome then n else n + 1) (upd f c (some val)) :: F) → K undef w') : Mn Tryd.prog σ op w K := by
  obtain ⟨S, ⟨hS, D, m', hown, hD, hm'⟩, hlt, hcall⟩ := H.call
  have hown' : w.ownsMap Tryd.prog kt heldR b n D := by
    obtain ⟨es, clock, hb, r, hs, rfl⟩ := hown
    refine ⟨es, clock, hb, r, ?_, rfl⟩
    have := hD.size_
    rw [Maps.size_eq, length_read] at this
    omega
  obtain ⟨w', hrun, h1, h2⟩ := hown'.update (Maps.int_keyed hk) ht (by unfold maxLen; omega) (Maps.keyOf_int_mk hk hc) (d := .held val) (ps := []) (val := val) rfl
  refine ⟨⟨undef, w', .inr ⟨?_, rfl⟩, k w' (hcall w' [_] ((Frm.refl S w).grown h2 (fun k hk _ => by injection hk with hk; rw [← hk]; exact hS)) ⟨_, fun _ h => h, ⟨.inl hS, _, n + 1, h1, hD.put c val, by omega⟩, trivial⟩)⟩⟩
  simp [execOp, hop, hm, hx, hv, hrun, Result.andThen]

theorem run_map_len (H : SL w L) (i : Nat) (hi : L[i]? = some (MapP kt b n f)) {t e ty : TypeId} (ht : Tryd.prog.underlying t = some (.map kt e)) : (Builtin.len_ #[t] ty #[.map (some b)]).run Tryd.prog w = .ok (.int .i64 n) w := by
  obtain ⟨T, _, _, D, m, hown, hD, _⟩ := SLs.at i H hi
  have := hown.len ht ty
  rw [hD.size_] at this
  exact this

theorem MnC.mapLen {K : Value → Prop} (i : Nat) (hi : L[i]? = some (MapP kt b n f)) (m : Operand) (t e : TypeId) (hop : op.op = .call { callee := .builtin .len, args := #[m], argTypes := #[t] }) (ht : Tryd.prog.underlying t = some (.map kt e)) (hm : ev σ m = .map (some b)) (k : K (.int .i64 n)) : MnC Tryd.prog (fun w => SL w L) σ op K := by
  refine ⟨⟨.int .i64 n, fun w H => ?_, k⟩⟩
  simp [execOp, hop, resolve, invoke, builtin, hm, run_map_len H i hi ht, Result.andThen]

theorem Mn.mapLen {K : Value → World → Prop} (H : SL w L) (i : Nat) (hi : L[i]? = some (MapP kt b n f)) (m : Operand) (t e : TypeId) (hop : op.op = .call { callee := .builtin .len, args := #[m], argTypes := #[t] }) (ht : Tryd.prog.underlying t = some (.map kt e)) (hm : ev σ m = .map (some b)) (k : K (.int .i64 n) w) : Mn Tryd.prog σ op w K := by
  refine Mn.by (v := .int .i64 n) (w' := w) ?_ k
  simp [execOp, hop, resolve, invoke, builtin, hm, run_map_len H i hi ht, Result.andThen]
end

/-! ## rows of structs, and indexes that are letters -/
theorem flat_set {α : Type} (enc : α → List Value) (sz : Nat) (hsz : ∀ x, (enc x).length = sz) : ∀ (L : List α) (g j : Nat) (v : Value) (y : α) (hg : g < L.length), j < sz → enc y = (enc L[g]).set j v → (L.flatMap enc).set (g * sz + j) v = (L.set g y).flatMap enc
  | [], g, _, _, _, hg, _, _ => absurd hg (Nat.not_lt_zero g)
  | x :: l, 0, j, v, y, _, hj, hy => by
    simp only [List.flatMap_cons, List.set_cons_zero, Nat.zero_mul, Nat.zero_add]
    rw [List.set_append_left _ _ (by rw [hsz]; exact hj)]
    rw [hy]
    rfl
  | x :: l, g + 1, j, v, y, hg, hj, hy => by
    simp only [List.flatMap_cons, List.set_cons_succ]
    rw [List.set_append_right _ _ (by rw [hsz, Nat.succ_mul]; omega), hsz]
    rw [show (g + 1) * sz + j - sz = g * sz + j by rw [Nat.succ_mul]; omega]
    rw [flat_set enc sz hsz l g j v y (by simpa using hg) hj (by simpa using hy)]

theorem Addr_add (b off n : Nat) : (⟨b, off, none⟩ : Addr).add n = ⟨b, off + n, none⟩ := by
  unfold Addr.add
  split
  · rename_i h
    subst h
    rfl
  · rfl

theorem Ix.at {P : Program} {e b off n : Nat} {i : Int} {K : Value → Prop} (j sz : Nat) (hs : (P.info? e).map (·.size) = some sz) (hi : i = (j : Int)) (hj : j < n) (k : K (.pointer (some ⟨b, off + j * sz, none⟩))) : Ix P e ⟨b, off, none⟩ n i K :=
  Ix.by j sz hs hi hj (by rw [Addr_add]; exact k)
theorem Ix.at0 {P : Program} {e b n : Nat} {i : Int} {K : Value → Prop} (j sz : Nat) (hs : (P.info? e).map (·.size) = some sz) (hi : i = (j : Int)) (hj : j < n) (k : K (.pointer (some ⟨b, j * sz, none⟩))) : Ix P e ⟨b, 0, none⟩ n i K :=
  Ix.at j sz hs hi hj (by rw [Nat.zero_add]; exact k)

end Go.Proofs.YtoejhelhgfipkaaDoor
