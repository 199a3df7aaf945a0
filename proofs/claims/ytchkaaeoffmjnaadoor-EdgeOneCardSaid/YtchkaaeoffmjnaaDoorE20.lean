/- Texts of the proof, several in one file: OpenG, EdgeH, LawQ. -/
import Derived.Test.YtchkaaeoffmjnaaDoorE05
import Derived.ProofKit
import Derived.OpenShut
import Derived.Deep.Slices
import Derived.Test.YtchkaaeoffmjnaaDoorE19
namespace Go.Proofs.YtchkaaeoffmjnaaDoor
set_option linter.unusedVariables false
set_option linter.unusedSimpArgs false
open Go.ChangeShapes Go.WideShapes Go.ChangeAt Go.RowKit
abbrev Kx (α : Type) := World → α → List Value → Prop
/-- Whatever of type t can be read is some v of the kind K. -/
structure Opens {α : Type} (t : TypeId) (K : Kx α) : Prop where
 out : ∀ {H : Type} {enc : TypeId × Value → H} {w : World} {base : Nat} {sp : Nat → Bool} {held : Bool} {fuel : Nat} {cs : List Value} {x : DataW H × List MemPlace},
  DataW.trod enc Tryd.prog w base sp held fuel t cs = some x → ∃ v, K w v cs
def kInt : Kx Int := fun _ n cs => cs = [.int .i64 n] ∧ (Lit.int .i64 n).wf = true
def kBool : Kx Bool := fun _ b cs => cs = [.bool b]
def kSeq {α β : Type} (a : Kx α) (b : Kx β) : Kx (α × β) := fun w x cs => ∃ c d, cs = c ++ d ∧ a w x.1 c ∧ b w x.2 d
def kMap {α β : Type} (f : α → β) (a : Kx α) : Kx β := fun w y cs => ∃ x, y = f x ∧ a w x cs
/-- A slice: its elements stand one behind the other, each of sz cells. -/
def kSlice {α : Type} (sz : Nat) (K : Kx α) : Kx (List α) := fun w xs cs =>
 ∃ a cap, cs = [.slice a xs.length cap] ∧ xs.length ≤ cap ∧ cap ≤ maxLen ∧
  (0 < xs.length → ∃ b off, a = some ⟨b, off, none⟩ ∧ ∀ i (h : i < xs.length), ∃ c, c.length = sz ∧ K w xs[i] c ∧ ∀ j u, c[j]? = some u → w.cell? ⟨b, off + i * sz + j, none⟩ = some u)
theorem opens_int {t : TypeId} (ht : Tryd.prog.underlying t = some (.int .i64)) : Opens t kInt := by
 refine ⟨?_⟩
 intro H enc w base sp held fuel cs x h
 obtain ⟨n, hc, _, hw⟩ := DataW.trod_int ht h
 exact ⟨n, hc, hw⟩
theorem opens_bool {t : TypeId} (ht : Tryd.prog.underlying t = some .bool) : Opens t kBool := by
 refine ⟨?_⟩
 intro H enc w base sp held fuel cs x h
 obtain ⟨n, hc, _⟩ := DataW.trod_bool ht h
 exact ⟨n, hc⟩
theorem Opens.map {α β : Type} {t : TypeId} {K : Kx α} (h : Opens t K) (f : α → β) : Opens t (kMap f K) := by
 refine ⟨?_⟩
 intro H enc w base sp held fuel cs x hx
 obtain ⟨v, hv⟩ := h.out hx
 exact ⟨f v, v, rfl, hv⟩
theorem Opens.imp {α β : Type} {t : TypeId} {K : Kx α} {K' : Kx β} (h : Opens t K) (f : α → β) (hf : ∀ w v cs, K w v cs → K' w (f v) cs) : Opens t K' := by
 refine ⟨?_⟩
 intro H enc w base sp held fuel cs x hx
 obtain ⟨v, hv⟩ := h.out hx
 exact ⟨f v, hf _ _ _ hv⟩
theorem opens_slice {α : Type} {t e : TypeId} {sz : Nat} {K : Kx α} (ht : Tryd.prog.underlying t = some (.slice e)) (hC : Tryd.prog.cellsOf e = sz) (hs : 0 < sz) (hK : Opens e K) : Opens t (kSlice sz K) := by
 refine ⟨?_⟩
 intro H enc w base sp held fuel cs x h
 rcases Go.Deep.open_slice ht h with ⟨rfl, _⟩ | ⟨a, len, cap, m, n, D, Pl, rfl, hb, hl, hm, hmm, _, hi⟩
 ·exact ⟨[], none, 0, rfl, Nat.zero_le _, Nat.zero_le _, fun h => absurd h (Nat.lt_irrefl 0)⟩
 ·rw [hC] at hi
  have hlm : len ≤ m := by rw [hmm]; split <;> omega
  have key : ∀ i, i < len → ∃ v c, c.length = sz ∧ K w v c ∧ ∀ j, j < sz → w.cell? ((a.add (i * sz)).add j) = c[j]? := fun i hil => by
   obtain ⟨cs', h1, h2⟩ := hi i (by omega)
   obtain ⟨v, hv⟩ := hK.out h2
   obtain ⟨_, hcl, hat⟩ := World.cells?_some h1
   exact ⟨v, cs', hcl, hv, hat⟩
  have key2 : ∀ n, n ≤ len → ∃ xs : List α, xs.length = n ∧ ∀ i (h : i < xs.length), ∃ c, c.length = sz ∧ K w xs[i] c ∧ ∀ j, j < sz → w.cell? ((a.add (i * sz)).add j) = c[j]? := by
   intro n
   induction n with
   | zero => exact fun _ => ⟨[], rfl, fun i h => absurd h (Nat.not_lt_zero i)⟩
   | succ n ih =>
    intro hn
    obtain ⟨xs, hxl, hxs⟩ := ih (by omega)
    obtain ⟨v, hv⟩ := key n (by omega)
    refine ⟨xs ++ [v], by simp [hxl], fun i h => ?_⟩
    by_cases hi : i < xs.length
    ·rw [List.getElem_append_left hi]
     exact hxs i hi
    ·have hin : i = n := by simp at h; omega
     subst hin
     rw [List.getElem_append_right (by omega)]
     simpa using hv
  obtain ⟨xs, hxl, hxs⟩ := key2 len (Nat.le_refl _)
  subst hxl
  refine ⟨xs, some a, cap, rfl, hl, hm, fun h0 => ?_⟩
  obtain ⟨b, off, spot⟩ := a
  have hspot : spot = none := by
   obtain ⟨c, hcl, _, hat⟩ := hxs 0 h0
   have h1 := hat 0 hs
   have h2 : ((⟨b, off, spot⟩ : Addr).add (0 * sz)).add 0 = ⟨b, off, spot⟩ := by simp [Addr.add]
   rw [h2, List.getElem?_eq_getElem (by omega)] at h1
   unfold World.cell? at h1
   split at h1
   ·cases spot with
    | none => rfl
    | some z => simp at h1
   ·cases h1
  subst hspot
  refine ⟨b, off, rfl, fun i h => ?_⟩
  obtain ⟨c, hcl, hk, hat⟩ := hxs i h
  refine ⟨c, hcl, hk, fun j u hu => ?_⟩
  have hj : j < sz := by
   rcases Nat.lt_or_ge j sz with hj | hj
   ·exact hj
   ·rw [List.getElem?_eq_none (by omega)] at hu
    cases hu
  have h1 := hat j hj
  rw [hu] at h1
  have h2 : ∀ x y : Nat, (⟨b, x, none⟩ : Addr).add y = ⟨b, x + y, none⟩ := fun x y => by
   unfold Addr.add
   split
   ·rename_i hz
    subst hz
    rfl
   ·rfl
  rw [h2, h2] at h1
  exact h1
structure Parts {α : Type} (fs : List Field) (off : Nat) (sz : Nat) (K : Kx α) : Prop where
 out : ∀ {H : Type} {enc : TypeId × Value → H} {w : World} {base : Nat} {sp : Nat → Bool} {held : Bool} {fuel : Nat} {cs : List Value}, cs.length = sz →
  (∀ f ∈ fs, ∃ y, DataW.trod enc Tryd.prog w base sp held fuel f.type ((cs.drop (f.offset - off)).take (Tryd.prog.cellsOf f.type)) = some y) → ∃ v, K w v cs
theorem parts_one {α : Type} {f : Field} {off sz : Nat} {K : Kx α} (ho : f.offset = off) (hc : Tryd.prog.cellsOf f.type = sz) (hK : Opens f.type K) : Parts [f] off sz K := by
 refine ⟨?_⟩
 intro H enc w base sp held fuel cs hl h
 obtain ⟨y, hy⟩ := h f (List.mem_singleton.2 rfl)
 rw [ho, Nat.sub_self, List.drop_zero, hc, ← hl, List.take_length] at hy
 exact hK.out hy
theorem parts_cons {α β : Type} {f : Field} {fs : List Field} {off sz m : Nat} {K : Kx α} {K' : Kx β} (ho : f.offset = off) (hc : Tryd.prog.cellsOf f.type = sz) (hK : Opens f.type K)
  (hoff : ∀ g ∈ fs, off + sz ≤ g.offset) (hP : Parts fs (off + sz) m K') : Parts (f :: fs) off (sz + m) (kSeq K K') := by
 refine ⟨?_⟩
 intro H enc w base sp held fuel cs hl h
 obtain ⟨y, hy⟩ := h f List.mem_cons_self
 rw [ho, Nat.sub_self, List.drop_zero, hc] at hy
 obtain ⟨v, hv⟩ := hK.out hy
 obtain ⟨v', hv'⟩ := hP.out (cs := cs.drop sz) (by rw [List.length_drop]; omega) (fun g hg => by
  obtain ⟨y, hy⟩ := h g (List.mem_cons_of_mem _ hg)
  refine ⟨y, ?_⟩
  rw [List.drop_drop]
  rw [show sz + (g.offset - (off + sz)) = g.offset - off by have := hoff g hg; omega]
  exact hy)
 exact ⟨(v, v'), cs.take sz, cs.drop sz, (List.take_append_drop sz cs).symm, hv, hv'⟩
theorem opens_struct {α : Type} {t : TypeId} {fs : List Field} {sz : Nat} {K : Kx α} (ht : Tryd.prog.underlying t = some (.struct fs.toArray)) (hC : Tryd.prog.cellsOf t = sz) (hP : Parts fs 0 sz K) : Opens t K := by
 refine ⟨?_⟩
 intro H enc w base sp held fuel cs x h
 obtain ⟨xs, n, _, _, hl, hxl, hf⟩ := DataW.trod_struct ht h
 refine hP.out (H := H) (enc := enc) (w := w) (base := base) (sp := sp) (held := held) (fuel := n) (cs := cs) (hl.trans hC) (fun f hm => ?_)
 obtain ⟨i, hi, rfl⟩ := List.getElem_of_mem hm
 have h1 := hf i fs[i] (by simp [hi])
 rw [Nat.sub_zero]
 rw [List.getElem?_eq_getElem (by rw [hxl]; simpa using hi)] at h1
 exact ⟨_, h1⟩
/-- A slice of flat structs, as it is read. -/
theorem rd_of_slice {α : Type} {sz : Nat} {f : α → List Value} {w : World} {xs : List α} {cs : List Value} (hf : ∀ x, (f x).length = sz) (h : kSlice sz (fun _ x c => c = f x) w xs cs) :
  ∃ a cap, cs = [.slice a xs.length cap] ∧ xs.length ≤ cap ∧ Rd w sz a xs.length (xs.flatMap f) := by
 obtain ⟨a, cap, rfl, hc, hm, hx⟩ := h
 refine ⟨a, cap, rfl, hc, flat_length f sz hf xs, Nat.le_trans hc hm, fun h0 => ?_⟩
 obtain ⟨b, off, ha, hi⟩ := hx h0
 refine ⟨b, off, ha, fun i u hu => ?_⟩
 have hlt : i < xs.length * sz := by
  rcases Nat.lt_or_ge i (xs.length * sz) with hj | hj
  ·exact hj
  ·rw [List.getElem?_eq_none (by rw [flat_length f sz hf]; exact hj)] at hu
   cases hu
 have hs : 0 < sz := by
  rcases Nat.eq_zero_or_pos sz with h | h
  ·rw [h, Nat.mul_zero] at hlt
   omega
  ·exact h
 have hg : i / sz < xs.length := (Nat.div_lt_iff_lt_mul hs).2 hlt
 have hj : i % sz < sz := Nat.mod_lt _ hs
 have e : i / sz * sz + i % sz = i := by rw [Nat.mul_comm]; exact Nat.div_add_mod i sz
 obtain ⟨c, _, rfl, hc⟩ := hi (i / sz) hg
 have h1 := flat_get f sz hf xs (i / sz) (i % sz) hj hg
 rw [e, hu] at h1
 have h2 := hc (i % sz) u h1.symm
 rw [Nat.add_assoc, e] at h2
 exact h2
theorem kSlice.imp {α : Type} {sz : Nat} {K K' : Kx α} {w : World} {xs : List α} {cs : List Value} (h : kSlice sz K w xs cs) (hk : ∀ x c, K w x c → K' w x c) : kSlice sz K' w xs cs := by
 obtain ⟨a, cap, h1, h2, h2', h3⟩ := h
 refine ⟨a, cap, h1, h2, h2', fun h0 => ?_⟩
 obtain ⟨b, off, ha, hi⟩ := h3 h0
 refine ⟨b, off, ha, fun i h => ?_⟩
 obtain ⟨c, x, y, z⟩ := hi i h
 exact ⟨c, x, hk _ _ y, z⟩
/-- An argument: what it holds is of the kind K. -/
theorem open_arg {α : Type} {t : TypeId} {K : Kx α} (hK : Opens t K) {H : Type} {enc : TypeId × Value → H} {w : World} {base : Nat} {sp : Nat → Bool} {held : Bool} {v : Value} {d : DataW H} {p : List MemPlace}
  (h : DataW.Trod enc Tryd.prog w base sp held t v d p) : ∃ x, K w x v.cells.toList := by
 obtain ⟨fuel, hf⟩ := h
 exact hK.out hf
def kEv : Kx Ev := fun _ x c => c = x.cells
theorem opens_ev : Opens 33 kEv :=
 (opens_struct (fs := [_, _, _, _, _, _, _, _]) (sz := 8) Tryd.underlying33 (by kernel_rfl)
  (parts_cons (sz := 1) (m := 7) rfl (by kernel_rfl) (opens_int Tryd.underlying3) (by decide)
  (parts_cons (sz := 1) (m := 6) rfl (by kernel_rfl) (opens_int Tryd.underlying3) (by decide)
  (parts_cons (sz := 1) (m := 5) rfl (by kernel_rfl) (opens_int Tryd.underlying3) (by decide)
  (parts_cons (sz := 1) (m := 4) rfl (by kernel_rfl) (opens_int Tryd.underlying3) (by decide)
  (parts_cons (sz := 1) (m := 3) rfl (by kernel_rfl) (opens_int Tryd.underlying3) (by decide)
  (parts_cons (sz := 1) (m := 2) rfl (by kernel_rfl) (opens_int Tryd.underlying3) (by decide)
  (parts_cons (sz := 1) (m := 1) rfl (by kernel_rfl) (opens_bool Tryd.underlying4) (by decide)
  (parts_one (sz := 1) rfl (by kernel_rfl) (opens_bool Tryd.underlying4)))))))))).imp
  (fun v => ⟨v.1, v.2.1, v.2.2.1, v.2.2.2.1, v.2.2.2.2.1, v.2.2.2.2.2.1, v.2.2.2.2.2.2.1, v.2.2.2.2.2.2.2⟩) (fun w v cs h => by
   obtain ⟨v1, v2, v3, v4, v5, v6, v7, v8⟩ := v
   obtain ⟨_, _, rfl, ⟨rfl, _⟩, _, _, rfl, ⟨rfl, _⟩, _, _, rfl, ⟨rfl, _⟩, _, _, rfl, ⟨rfl, _⟩, _, _, rfl, ⟨rfl, _⟩, _, _, rfl, ⟨rfl, _⟩, _, _, rfl, rfl, rfl⟩ := h
   rfl)
/-- A slice of events that came in. -/
structure EvIn (w : World) (v : Value) (l : List Ev) : Prop where
 out : ∃ a cap, v = .slice a l.length cap ∧ l.length ≤ cap ∧ Rd w 8 a l.length (l.flatMap Ev.cells)
set_option maxRecDepth 100000 in
theorem open_sl_api_Event {r : Reach} {b0 : Nat} {H : Type} {enc : TypeId × Value → H} {w : World} {base : Nat} {sp : Nat → Bool} {held : Bool} {v : Value} {d : DataW H} {p : List MemPlace}
  (hv : Value.okWide Tryd.prog w r b0 22 v) (h : DataW.Trod enc Tryd.prog w base sp held 22 v d p) : ∃ l, EvIn w v l := by
 obtain ⟨l, hl⟩ := open_arg (opens_slice (sz := 8) (K := kEv) Tryd.underlying22 (by kernel_rfl) (by decide) opens_ev) h
 obtain ⟨a, cap, he, hc, hr⟩ := rd_of_slice (f := Ev.cells) Ev.cells_len hl
 obtain ⟨a', n', c', rfl⟩ := okWide_slice Tryd.underlying22 hv
 simp only [Value.cells] at he
 exact ⟨l, a, cap, List.head_eq_of_cons_eq he, hc, hr⟩
end Go.Proofs.YtchkaaeoffmjnaaDoor
namespace Go.Proofs.YtchkaaeoffmjnaaDoor
set_option linter.unusedVariables false
set_option linter.unusedSimpArgs false
open Go.ChangeShapes Go.WideShapes Go.ChangeAt Go.RowKit
set_option maxRecDepth 100000 in
theorem run_eq_edg (e f : Edg) (w : World) : (binOp .eql 29 (.agg e.cells.toArray) (.agg f.cells.toArray)).run Tryd.prog w = .ok (.bool (decide (e = f))) w := by
 obtain ⟨e1, e2, e3⟩ := e
 obtain ⟨f1, f2, f3⟩ := f
 have hf : Tryd.prog.underlying 29 = some (.struct (Tryd.prog.fieldsOf 29)) := by kernel_rfl
 show (binOp .eql 29 (.agg #[.int .i64 (e1 : Int), .int .i64 (e2 : Int), .int .i64 (e3 : Int)]) (.agg #[.int .i64 (f1 : Int), .int .i64 (f2 : Int), .int .i64 (f3 : Int)])).run Tryd.prog w = _
 rw [run_eql_struct, run_equalIn_agg w 9999 _ _ _ hf (by kernel_rfl)]
 obtain ⟨g1, g2, g3, hl, k⟩ : ∃ g1 g2 g3, (Tryd.prog.fieldsOf 29).toList = [g1, g2, g3] ∧ (Tryd.prog.fieldsOf 29).toList.map (fun f => (f.name != "_", f.type, f.offset)) = [(true, 3, 0), (true, 3, 1), (true, 3, 2)] :=
  ⟨_, _, _, rfl, by kernel_rfl⟩
 rw [hl] at k ⊢
 simp only [List.map_cons, List.map_nil, List.cons.injEq, Prod.mk.injEq, bne_iff_ne, ne_eq, and_true] at k
 obtain ⟨⟨n1, t1, o1⟩, ⟨n2, t2, o2⟩, ⟨n3, t3, o3⟩⟩ := k
 have hi : Tryd.prog.underlying 3 = some (.int .i64) := by kernel_rfl
 rw [eqf_int (a := (e1 : Int)) (b := (f1 : Int)) n1 (by rw [t1, o1]; kernel_rfl) (by rw [t1, o1]; kernel_rfl) (by rw [t1]; exact hi)]
 rw [eqf_int (a := (e2 : Int)) (b := (f2 : Int)) n2 (by rw [t2, o2]; kernel_rfl) (by rw [t2, o2]; kernel_rfl) (by rw [t2]; exact hi)]
 rw [eqf_int (a := (e3 : Int)) (b := (f3 : Int)) n3 (by rw [t3, o3]; kernel_rfl) (by rw [t3, o3]; kernel_rfl) (by rw [t3]; exact hi)]
 have he : (Op.eqFields 9999 #[Value.int .i64 (e1 : Int), .int .i64 (e2 : Int), .int .i64 (e3 : Int)] #[Value.int .i64 (f1 : Int), .int .i64 (f2 : Int), .int .i64 (f3 : Int)] []).run Tryd.prog w = .ok true w := rfl
 simp only [Edg.mk.injEq]
 by_cases h1 : e1 = f1 <;> by_cases h2 : e2 = f2 <;> by_cases h3 : e3 = f3 <;> first | rfl | simp [h1, h2, h3, he, Op.eqFields, Int.natCast_inj]
theorem exec_eq_edg {σ : Fr} {op : Oper} (e f : Edg) (x y : Operand) (ty : Nat) (hop : op.op = .binOp .eql 29 x y ty) (hx : ev σ x = .agg e.cells.toArray) (hy : ev σ y = .agg f.cells.toArray) (w : World) : (execOp (ev σ) op).run Tryd.prog w = .ok (.value (.bool (decide (e = f)))) w := by
 have hg := run_eqGuard_agg (P := Tryd.prog) w .eql 29 x y e.cells.toArray f.cells.toArray (by kernel_rfl)
 have h3 := run_eq_edg e f w
 simp only [execOp, hop, hx, hy, Sem.run_bind, hg, h3, Result.andThen_ok, Sem.run_pure]
theorem MnC.eqEdg {σ : Fr} {op : Oper} {S : World → Prop} {K : Value → Prop} (e f : Edg) (x y : Operand) (ty : Nat) (hop : op.op = .binOp .eql 29 x y ty) (hx : ev σ x = .agg e.cells.toArray) (hy : ev σ y = .agg f.cells.toArray) (b : Bool) (hb : decide (e = f) = b) (k : K (.bool b)) : MnC Tryd.prog S σ op K := by
 subst hb
 exact MnC.pure _ (fun w => exec_eq_edg e f x y ty hop hx hy w) k
theorem Mn.eqEdg {σ : Fr} {op : Oper} {w : World} {K : Value → World → Prop} (e f : Edg) (x y : Operand) (ty : Nat) (hop : op.op = .binOp .eql 29 x y ty) (hx : ev σ x = .agg e.cells.toArray) (hy : ev σ y = .agg f.cells.toArray) (b : Bool) (hb : decide (e = f) = b) (k : K (.bool b) w) : Mn Tryd.prog σ op w K := by
 subst hb
 exact Mn.by (exec_eq_edg e f x y ty hop hx hy w) k
set_option maxRecDepth 100000 in
theorem open_api_Event {r : Reach} {b0 : Nat} {H : Type} {enc : TypeId × Value → H} {w : World} {base : Nat} {sp : Nat → Bool} {held : Bool} {v : Value} {d : DataW H} {p : List MemPlace}
  (hv : Value.okWide Tryd.prog w r b0 33 v) (h : DataW.Trod enc Tryd.prog w base sp held 33 v d p) : ∃ e : Ev, v = e.agg := by
 obtain ⟨e, he⟩ := open_arg opens_ev h
 obtain ⟨cs, rfl, _⟩ := okWide_struct Tryd.underlying33 hv
 have he : cs.toList = e.cells := he
 refine ⟨e, ?_⟩
 have e2 : e.agg = .agg e.cells.toArray := rfl
 rw [e2, ← he]
section
variable {l : List Ev} {L : List Edg} {x y : Edg} {i n : Nat} {p : Edg → Bool}
/-- What is kept of the next. -/
theorem filt_at (hx : L[i]? = some x) (hp : p x = true) : (L.filter p)[((L.take i).filter p).length]? = some x := by
 obtain ⟨hl, rfl⟩ := List.getElem?_eq_some_iff.1 hx
 have h1 : L.filter p = (L.take i).filter p ++ (L.drop i).filter p := by rw [← List.filter_append, List.take_append_drop]
 have h2 : L.drop i = L[i] :: L.drop (i + 1) := List.drop_eq_getElem_cons hl
 rw [h1, List.getElem?_append_right (Nat.le_refl _), Nat.sub_self, h2, List.filter_cons, if_pos hp]
 rfl
/-- The edges of a beginning, among all. -/
theorem grows (h : RtL l) (hn : n ≤ l.length) : allE (l.take n) = (allE l).filter (fun x => decide (x ∈ allE (l.take n))) := by
 have h' := h.take hn
 refine strict_eq (all_lt h') ((all_lt h).filter _) fun x => ?_
 rw [List.mem_filter, decide_eq_true_eq]
 constructor
 ·intro hx
  refine ⟨?_, hx⟩
  rw [all_perm.mem_iff] at hx ⊢
  exact raw_take h hn hx
 ·exact fun hx => hx.2
theorem three_le (h : RtL l) (t : Nat) : (((allE l).filter (fun x : Edg => (x.rule : Int) == 3)).filter (fun x => x.dst == t)).length ≤ 1 := by
 have hd : (((allE l).filter (fun x : Edg => (x.rule : Int) == 3)).filter (fun x => x.dst == t)).Pairwise DifE := ((all_dif h).filter _).filter _
 have hm : ∀ x ∈ ((allE l).filter (fun x : Edg => (x.rule : Int) == 3)).filter (fun x => x.dst == t), x.dst = t ∧ x.rule = 3 := fun x hx => by
  obtain ⟨h1, h2⟩ := List.mem_filter.1 hx
  have h3 := (List.mem_filter.1 h1).2
  simp only [beq_iff_eq] at h2 h3
  exact ⟨h2, by omega⟩
 generalize ((allE l).filter (fun x : Edg => (x.rule : Int) == 3)).filter (fun x => x.dst == t) = M at hd hm
 match M, hd, hm with
 | [], _, _ => exact Nat.zero_le _
 | [_], _, _ => exact Nat.le_refl _
 | x :: y :: M, hd, hm =>
  rw [List.pairwise_cons] at hd
  have a := hm x List.mem_cons_self
  have b := hm y (List.mem_cons_of_mem _ List.mem_cons_self)
  exact absurd ⟨a.1.trans b.1.symm, a.2.trans b.2.symm⟩ (hd.1 y List.mem_cons_self)
theorem three_pos (h : RtL l) (t : Nat) : 0 < (((allE l).filter (fun x : Edg => (x.rule : Int) == 3)).filter (fun x => x.dst == t)).length ↔ ∃ x ∈ allE l, x.rule = 3 ∧ x.dst = t := by
 rw [List.length_pos_iff_exists_mem]
 constructor
 ·rintro ⟨x, hx⟩
  obtain ⟨h1, h2⟩ := List.mem_filter.1 hx
  obtain ⟨h0, h3⟩ := List.mem_filter.1 h1
  simp only [beq_iff_eq] at h2 h3
  exact ⟨x, h0, by omega, h2⟩
 ·rintro ⟨x, h0, h1, h2⟩
  exact ⟨x, List.mem_filter.2 ⟨List.mem_filter.2 ⟨h0, by simp [h1]⟩, by simp [h2]⟩⟩
end
end Go.Proofs.YtchkaaeoffmjnaaDoor
namespace Go.Proofs.YtchkaaeoffmjnaaDoor
set_option linter.unusedVariables false
set_option linter.unusedSimpArgs false
open Go.RowKit
set_option maxRecDepth 100000
theorem e_tells {w : World} {F : List Piece} {kind g chan case_ value mate : Int} {send ok : Bool} (H : SL w F) : Calls Tryd.prog 10 #[.agg #[.int .i64 kind, .int .i64 g, .int .i64 chan, .int .i64 case_, .int .i64 value, .int .i64 mate, .bool send, .bool ok]] w fun o w' => o = .returned (.bool (tellsF ⟨kind, g, chan, case_, value, mate, send, ok⟩)) ∧ SL w' F := by
 refine calls_den (args := [_]) Tryd.func10 rfl (Nat.le_of_ble_eq_true (by kernel_rfl)) (by kernel_rfl) ?_
 refine ⟨?_⟩
 refine Nw.as #[.int .i64 kind, .int .i64 g, .int .i64 chan, .int .i64 case_, .int .i64 value, .int .i64 mate, .bool send, .bool ok] 33 rfl H fun b1 w H => ?_
 refine ⟨?_⟩
 refine H.ldi 0 rfl (v := .int .i64 kind) rfl ?_
 refine ⟨?_⟩
 refine ⟨?_⟩
 refine BB.vr fun q1 e1 => ?_
 cases q1
 ·skip
  have h1 := beq_eq_false_iff_ne.1 e1
  refine Cn.no ?_
  refine ⟨?_⟩
  refine BB.vr fun q2 e2 => ?_
  cases q2
  ·skip
   have h2 := beq_eq_false_iff_ne.1 e2
   refine Cn.no ?_
   refine ⟨?_⟩
   refine BB.vr fun q3 e3 => ?_
   cases q3
   ·skip
    have h3 := beq_eq_false_iff_ne.1 e3
    refine Cn.no ?_
    refine ⟨?_⟩
    refine BB.vr fun q4 e4 => ?_
    cases q4
    ·skip
     have h4 := beq_eq_false_iff_ne.1 e4
     refine Cn.no ?_
     refine ⟨?_⟩
     refine BB.vr fun q5 e5 => ?_
     cases q5
     ·skip
      have h5 := beq_eq_false_iff_ne.1 e5
      refine Cn.no ?_
      refine ⟨?_⟩
      refine ret1 (fn := Tryd.f10) (.bool false) rfl (by rfl) ?_
      have hq : tellsF ⟨kind, g, chan, case_, value, mate, send, ok⟩ = false := by
       unfold tellsF
       rw [Bool.eq_iff_iff]
       simp only [Bool.or_eq_true, beq_iff_eq]
       constructor <;> intro hh <;> first | trivial | omega | (exfalso; omega) | cases hh | rfl
      rw [hq]
      exact ⟨rfl, H.pick [] 1 (by decide)⟩
     ·skip
      have h5 := eq_of_beq e5
      refine Cn.yes ?_
      refine ⟨?_⟩
      refine ret1 (fn := Tryd.f10) (.bool true) rfl (by rfl) ?_
      have hq : tellsF ⟨kind, g, chan, case_, value, mate, send, ok⟩ = true := by
       unfold tellsF
       rw [Bool.eq_iff_iff]
       simp only [Bool.or_eq_true, beq_iff_eq]
       constructor <;> intro hh <;> first | trivial | omega | (exfalso; omega) | cases hh | rfl
      rw [hq]
      exact ⟨rfl, H.pick [] 1 (by decide)⟩
    ·skip
     have h4 := eq_of_beq e4
     refine Cn.yes ?_
     refine Cn.yes ?_
     refine ⟨?_⟩
     refine ret1 (fn := Tryd.f10) (.bool true) rfl (by rfl) ?_
     have hq : tellsF ⟨kind, g, chan, case_, value, mate, send, ok⟩ = true := by
      unfold tellsF
      rw [Bool.eq_iff_iff]
      simp only [Bool.or_eq_true, beq_iff_eq]
      constructor <;> intro hh <;> first | trivial | omega | (exfalso; omega) | cases hh | rfl
     rw [hq]
     exact ⟨rfl, H.pick [] 1 (by decide)⟩
   ·skip
    have h3 := eq_of_beq e3
    refine Cn.yes ?_
    refine Cn.yes ?_
    refine ⟨?_⟩
    refine ret1 (fn := Tryd.f10) (.bool true) rfl (by rfl) ?_
    have hq : tellsF ⟨kind, g, chan, case_, value, mate, send, ok⟩ = true := by
     unfold tellsF
     rw [Bool.eq_iff_iff]
     simp only [Bool.or_eq_true, beq_iff_eq]
     constructor <;> intro hh <;> first | trivial | omega | (exfalso; omega) | cases hh | rfl
    rw [hq]
    exact ⟨rfl, H.pick [] 1 (by decide)⟩
  ·skip
   have h2 := eq_of_beq e2
   refine Cn.yes ?_
   refine Cn.yes ?_
   refine ⟨?_⟩
   refine ret1 (fn := Tryd.f10) (.bool true) rfl (by rfl) ?_
   have hq : tellsF ⟨kind, g, chan, case_, value, mate, send, ok⟩ = true := by
    unfold tellsF
    rw [Bool.eq_iff_iff]
    simp only [Bool.or_eq_true, beq_iff_eq]
    constructor <;> intro hh <;> first | trivial | omega | (exfalso; omega) | cases hh | rfl
   rw [hq]
   exact ⟨rfl, H.pick [] 1 (by decide)⟩
 ·skip
  have h1 := eq_of_beq e1
  refine Cn.yes ?_
  refine Cn.yes ?_
  refine ⟨?_⟩
  refine ret1 (fn := Tryd.f10) (.bool true) rfl (by rfl) ?_
  have hq : tellsF ⟨kind, g, chan, case_, value, mate, send, ok⟩ = true := by
   unfold tellsF
   rw [Bool.eq_iff_iff]
   simp only [Bool.or_eq_true, beq_iff_eq]
   constructor <;> intro hh <;> first | trivial | omega | (exfalso; omega) | cases hh | rfl
  rw [hq]
  exact ⟨rfl, H.pick [] 1 (by decide)⟩
end Go.Proofs.YtchkaaeoffmjnaaDoor
