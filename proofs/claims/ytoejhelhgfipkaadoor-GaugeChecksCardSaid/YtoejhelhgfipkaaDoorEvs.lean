/- Events that are read out of a piece. -/
import Derived.Test.YtoejhelhgfipkaaDoorSxQ
import Derived.Test.YtoejhelhgfipkaaDoorEntryP
namespace Go.Proofs.YtoejhelhgfipkaaDoor
set_option linter.unusedVariables false
set_option linter.unusedSimpArgs false
open Go.RowKit

/-- The piece A holds the events l from cell off of block b on. -/
structure EvA (A : Piece) (b off : Nat) (l : List Ev) : Prop where
  at_ : ∀ (S : Nat → Prop) (w : World), A.on S w → ∀ (j : Nat) (e : Ev), l[j]? = some e → ∀ (k : Nat) (v : Value), e.cells[k]? = some v → w.cell? ⟨b, off + j * 8 + k, none⟩ = some v

theorem Ev.cells_len (e : Ev) : e.cells.length = 8 := rfl

section
variable {w : World} {L F : List Piece} {A : Piece} {b off : Nat} {l : List Ev} {e : Ev} {v : Value} {K : Value → Prop}
theorem SL.ldE (H : SL w L) (i : Nat) (hi : L[i]? = some A) (hA : EvA A b off l) (j k : Nat) (hj : l[j]? = some e) (hk : e.cells[k]? = some v) (h : K v) : Ld w ⟨b, off + j * 8 + k, none⟩ K := by
  obtain ⟨T, _, hT⟩ := SLs.at i H hi
  exact Ld.by (hA.at_ T w hT j e hj k v hk) h
theorem LdC.E (i : Nat) (hi : L[i]? = some A) (hA : EvA A b off l) (j k : Nat) (hj : l[j]? = some e) (hk : e.cells[k]? = some v) (h : K v) : LdC (fun w => SL w L) ⟨b, off + j * 8 + k, none⟩ K :=
  LdC.by (fun w H => by
    obtain ⟨T, _, hT⟩ := SLs.at i H hi
    exact hA.at_ T w hT j e hj k v hk) h

theorem EvA.of_rd {a : Option Addr} (h : ∀ (S : Nat → Prop) (w : World), A.on S w → Rd w 8 a l.length (l.flatMap Ev.cells)) (ha : a = some ⟨b, off, none⟩) : EvA A b off l := by
  refine ⟨fun S w hS j e hj k v hk => ?_⟩
  obtain ⟨hlt, rfl⟩ := List.getElem?_eq_some_iff.1 hj
  obtain ⟨b', off', h1, h2⟩ := (h S w hS).2.2 (by omega)
  rw [ha] at h1
  injection h1 with h1
  injection h1 with h1 h3
  subst h1 h3
  have hk8 : k < 8 := by
    rcases Nat.lt_or_ge k 8 with h | h
    · exact h
    · rw [List.getElem?_eq_none (by rw [Ev.cells_len]; exact h)] at hk
      cases hk
  have := flat_get Ev.cells 8 Ev.cells_len l j k hk8 hlt
  rw [hk] at this
  have := h2 _ _ this
  rw [← Nat.add_assoc] at this
  exact this

/-- Events out of a slice of one's own. -/
theorem EvA.slc {te c : Nat} : EvA (Slc te 8 (.slice (some ⟨b, 0, none⟩) l.length c) l.length (l.flatMap Ev.cells)) b 0 l := by
  refine EvA.of_rd (a := some ⟨b, 0, none⟩) (fun S w h => Rd.of_own h.1) rfl

/-- Events out of a row. -/
theorem EvA.row {t : Nat} {cs : Array Value} (hcs : cs.toList = l.flatMap Ev.cells) : EvA (row b cs t) b 0 l := by
  refine ⟨fun S w hS j e hj k v hk => ?_⟩
  obtain ⟨hlt, rfl⟩ := List.getElem?_eq_some_iff.1 hj
  have hk8 : k < 8 := by
    rcases Nat.lt_or_ge k 8 with h | h
    · exact h
    · rw [List.getElem?_eq_none (by rw [Ev.cells_len]; exact h)] at hk
      cases hk
  have := flat_get Ev.cells 8 Ev.cells_len l j k hk8 hlt
  rw [hk, ← hcs] at this
  rw [Nat.zero_add]
  exact row_cell hS.2 _ (by simpa using this)
end

theorem bagg_eq (e f : Ev) : (e == f) = decide (e = f) := by
  cases h : decide (e = f)
  · simpa using of_decide_eq_false h
  · simpa using of_decide_eq_true h

theorem eqf_int {P : Program} {f : Field} {fs : List Field} {d : Nat} {xs ys : Array Value} {a b : Int} {w : World} (hn : f.name ≠ "_") (pa : (part f.type xs f.offset).run P w = .ok (.int .i64 a) w) (pb : (part f.type ys f.offset).run P w = .ok (.int .i64 b) w) (hu : P.underlying f.type = some (.int .i64)) :
    (Op.eqFields (d + 1) xs ys (f :: fs)).run P w = if a = b then (Op.eqFields (d + 1) xs ys fs).run P w else .ok false w := by
  simp only [Op.eqFields, if_pos hn, Sem.run_bind, pa, pb, Result.andThen_ok, run_equalIn_int w d _ _ _ a b hu]
  by_cases h : a = b
  · subst h
    simp
  · simp [h]

theorem eqf_bool {P : Program} {f : Field} {fs : List Field} {d : Nat} {xs ys : Array Value} {a b : Bool} {w : World} (hn : f.name ≠ "_") (pa : (part f.type xs f.offset).run P w = .ok (.bool a) w) (pb : (part f.type ys f.offset).run P w = .ok (.bool b) w) (hu : P.underlying f.type = some .bool) :
    (Op.eqFields (d + 1) xs ys (f :: fs)).run P w = if a = b then (Op.eqFields (d + 1) xs ys fs).run P w else .ok false w := by
  simp only [Op.eqFields, if_pos hn, Sem.run_bind, pa, pb, Result.andThen_ok, run_equalIn_bool' w d _ a b hu]
  by_cases h : a = b
  · subst h
    simp
  · simp [h]

set_option maxRecDepth 100000 in
theorem run_eq_ev (e f : Ev) (w : World) : (binOp .eql 39 e.agg f.agg).run Tryd.prog w = .ok (.bool (decide (e = f))) w := by
  obtain ⟨e1, e2, e3, e4, e5, e6, e7, e8⟩ := e
  obtain ⟨f1, f2, f3, f4, f5, f6, f7, f8⟩ := f
  have hf : Tryd.prog.underlying 39 = some (.struct (Tryd.prog.fieldsOf 39)) := by kernel_rfl
  simp only [Ev.agg]
  rw [run_eql_struct, run_equalIn_agg w 9999 _ _ _ hf (by kernel_rfl)]
  obtain ⟨g1, g2, g3, g4, g5, g6, g7, g8, hl, k⟩ : ∃ g1 g2 g3 g4 g5 g6 g7 g8, (Tryd.prog.fieldsOf 39).toList = [g1, g2, g3, g4, g5, g6, g7, g8] ∧ (Tryd.prog.fieldsOf 39).toList.map (fun f => (f.name != "_", f.type, f.offset)) = [(true, 3, 0), (true, 3, 1), (true, 3, 2), (true, 3, 3), (true, 3, 4), (true, 3, 5), (true, 4, 6), (true, 4, 7)] :=
    ⟨_, _, _, _, _, _, _, _, rfl, by kernel_rfl⟩
  rw [hl] at k ⊢
  simp only [List.map_cons, List.map_nil, List.cons.injEq, Prod.mk.injEq, bne_iff_ne, ne_eq, and_true] at k
  obtain ⟨⟨n1, t1, o1⟩, ⟨n2, t2, o2⟩, ⟨n3, t3, o3⟩, ⟨n4, t4, o4⟩, ⟨n5, t5, o5⟩, ⟨n6, t6, o6⟩, ⟨n7, t7, o7⟩, ⟨n8, t8, o8⟩⟩ := k
  have hi : Tryd.prog.underlying 3 = some (.int .i64) := by kernel_rfl
  have hb : Tryd.prog.underlying 4 = some .bool := by kernel_rfl
  rw [eqf_int (a := e1) (b := f1) n1 (by rw [t1, o1]; kernel_rfl) (by rw [t1, o1]; kernel_rfl) (by rw [t1]; exact hi)]
  rw [eqf_int (a := e2) (b := f2) n2 (by rw [t2, o2]; kernel_rfl) (by rw [t2, o2]; kernel_rfl) (by rw [t2]; exact hi)]
  rw [eqf_int (a := e3) (b := f3) n3 (by rw [t3, o3]; kernel_rfl) (by rw [t3, o3]; kernel_rfl) (by rw [t3]; exact hi)]
  rw [eqf_int (a := e4) (b := f4) n4 (by rw [t4, o4]; kernel_rfl) (by rw [t4, o4]; kernel_rfl) (by rw [t4]; exact hi)]
  rw [eqf_int (a := e5) (b := f5) n5 (by rw [t5, o5]; kernel_rfl) (by rw [t5, o5]; kernel_rfl) (by rw [t5]; exact hi)]
  rw [eqf_int (a := e6) (b := f6) n6 (by rw [t6, o6]; kernel_rfl) (by rw [t6, o6]; kernel_rfl) (by rw [t6]; exact hi)]
  rw [eqf_bool (a := e7) (b := f7) n7 (by rw [t7, o7]; kernel_rfl) (by rw [t7, o7]; kernel_rfl) (by rw [t7]; exact hb)]
  rw [eqf_bool (a := e8) (b := f8) n8 (by rw [t8, o8]; kernel_rfl) (by rw [t8, o8]; kernel_rfl) (by rw [t8]; exact hb)]
  have he : (Op.eqFields 9999 #[Value.int .i64 e1, .int .i64 e2, .int .i64 e3, .int .i64 e4, .int .i64 e5, .int .i64 e6, .bool e7, .bool e8] #[Value.int .i64 f1, .int .i64 f2, .int .i64 f3, .int .i64 f4, .int .i64 f5, .int .i64 f6, .bool f7, .bool f8] []).run Tryd.prog w = .ok true w := rfl
  simp only [Ev.mk.injEq]
  by_cases h1 : e1 = f1 <;> by_cases h2 : e2 = f2 <;> by_cases h3 : e3 = f3 <;> by_cases h4 : e4 = f4 <;> by_cases h5 : e5 = f5 <;> by_cases h6 : e6 = f6 <;> by_cases h7 : e7 = f7 <;> by_cases h8 : e8 = f8 <;> first | rfl | simp [h1, h2, h3, h4, h5, h6, h7, h8, he, Op.eqFields]

theorem exec_eq_ev {σ : Fr} {op : Oper} (e f : Ev) (x y : Operand) (ty : Nat) (hop : op.op = .binOp .eql 39 x y ty) (hx : ev σ x = e.agg) (hy : ev σ y = f.agg) (w : World) : (execOp (ev σ) op).run Tryd.prog w = .ok (.value (.bool (decide (e = f)))) w := by
  have hg := run_eqGuard_agg (P := Tryd.prog) w .eql 39 x y e.cells.toArray f.cells.toArray (by kernel_rfl)
  have h1 : e.agg = .agg e.cells.toArray := rfl
  have h2 : f.agg = .agg f.cells.toArray := rfl
  have h3 := run_eq_ev e f w
  rw [h1, h2] at h3
  simp only [execOp, hop, hx, hy, h1, h2, Sem.run_bind, hg, h3, Result.andThen_ok, Sem.run_pure]

theorem Mn.eqEv {σ : Fr} {op : Oper} {w : World} {K : Value → World → Prop} (e f : Ev) (x y : Operand) (ty : Nat) (hop : op.op = .binOp .eql 39 x y ty) (hx : ev σ x = e.agg) (hy : ev σ y = f.agg) (b : Bool) (hb : decide (e = f) = b) (k : K (.bool b) w) : Mn Tryd.prog σ op w K := by
  subst hb
  exact Mn.by (exec_eq_ev e f x y ty hop hx hy w) k

end Go.Proofs.YtoejhelhgfipkaaDoor
