/- Maps from int, as pieces: a map's block, how many entries it has, and what stands at each key. -/
import Derived.Test.YtoejhelhgfipkaaDoorSep
import Derived.Maps.OwnOps
import Derived.Maps.OwnSet
import Derived.Maps.Views
namespace Go.Proofs.YtoejhelhgfipkaaDoor
set_option linter.unusedVariables false
set_option linter.unusedSimpArgs false
open Go.RowKit Go.ChangeMaps
open Go.Maps (Keyed Tidy has size IsMap)

theorem keyLit (c : Int) : WideAt.IsKeyLit (.int .i64 c) := by unfold WideAt.IsKeyLit; trivial

/-- Each element's value stands for itself. -/
def heldR (v : Value) : Option (DataW Value × List MemPlace) := some (.held v, [])

structure MapIs (D : DataW Value) (n : Nat) (f : Int → Option Value) : Prop where
  tidy : Tidy D
  size_ : size D = n
  at_ : ∀ c z, D.atKey (.int .i64 c) z = (match f c with | some v => .held v | none => z)
  has_ : ∀ c, has D (.int .i64 c) = (f c).isSome

def upd (f : Int → Option Value) (c : Int) (v : Option Value) : Int → Option Value := fun x => if x = c then v else f x

/-- Block b is a map of n entries: f c stands at c. -/
def MapP (kt b n : Nat) (f : Int → Option Value) : Piece where
  on S w := S b ∧ ∃ D m, w.ownsMap Tryd.prog kt heldR b m D ∧ MapIs D n f ∧ m ≤ 4000000
  move := by
    rintro w w' S ⟨h1, D, m, ⟨es, clock, hb, r⟩, h2⟩ s
    exact ⟨h1, D, m, ⟨es, clock, (s.block _ h1).trans hb, r⟩, h2⟩
  mono h k := ⟨k _ h.1, h.2⟩

section
variable {w : World} {F L : List Piece} {kt b n : Nat} {f : Int → Option Value}

theorem SL.mapMade (kt : Nat) (h : SL w L) : SL (w.alloc (.map #[] 0)) (MapP kt w.heap.size 0 (fun _ => none) :: L) :=
  (h.alloc _).conv (fun S hS h => ⟨h.1, .map [], 0, World.ownsMap_made w _ _ _, ⟨Maps.tidy_empty, rfl, fun _ _ => rfl, fun _ => rfl⟩, Nat.zero_le _⟩)

theorem MapIs.put {D : DataW Value} (h : MapIs D n f) (c : Int) (v : Value) : MapIs (D.put (.int .i64 c) (.held v)) (if (f c).isSome then n else n + 1) (upd f c (some v)) := by
  refine ⟨?_, ?_, ?_, ?_⟩
  · exact h.tidy.put (keyLit c) _
  · rw [Maps.size_put h.tidy, h.has_, h.size_]
  · intro x z
    unfold upd
    by_cases hx : x = c
    · subst hx
      rw [if_pos rfl, Maps.atKey_put_same h.tidy.isMap (keyLit _)]
    · rw [if_neg hx, Maps.atKey_put_other (by intro e; injection e with _ e; exact hx e), h.at_]
  · intro x
    unfold upd
    by_cases hx : x = c
    · subst hx
      rw [if_pos rfl, Maps.has_put_same h.tidy.isMap (keyLit _)]
      rfl
    · rw [if_neg hx, Maps.has_put_other (by intro e; injection e with _ e; exact hx e), h.has_]

variable {ops : Array Oper} {rest : List Oper} {o : Oper} {a : Act} {Q : Exit → Act → World → Prop}

theorem map_look {e t : TypeId} (H : SL w (MapP kt b n f :: F)) (hk : Tryd.prog.underlying kt = some (.int .i64)) (ht : Tryd.prog.underlying t = some (.map kt e)) {z : Value} (hz : (zeroValue e).run Tryd.prog w = .ok z w) {c : Int} (hc : (Lit.int .i64 c).wf = true) :
    (Instr.lookup t (.map (some b)) (.int .i64 c) false).run Tryd.prog w = .ok ((f c).getD z) w := by
  obtain ⟨S, _, _, D, m, hown, hD, _⟩ := H.on
  obtain ⟨v, ps, hrun, hv⟩ := hown.lookup (Maps.int_keyed hk) ht hz (zd := .held z) (zp := []) rfl (Maps.keyOf_int_mk hk hc)
  rw [hrun]
  unfold heldR at hv
  have h1 := hD.at_ c (.held z)
  have h2 : (DataW.held v) = D.atKey (.int .i64 c) (.held z) := (Prod.mk.inj (Option.some.inj hv)).1
  rw [h1] at h2
  have h3 : v = (f c).getD z := by
    cases hf : f c with
    | none =>
      rw [hf] at h2
      exact DataW.held.inj h2
    | some u =>
      rw [hf] at h2
      exact DataW.held.inj h2
  exact congrArg (fun u => Result.ok u w) h3

theorem wp_map_look (hg : o.guard = none) (m x : Operand) (t e : TypeId) (hop : o.op = Op.lookup t m x false) (H : SL w (MapP kt b n f :: F)) (hk : Tryd.prog.underlying kt = some (.int .i64)) (ht : Tryd.prog.underlying t = some (.map kt e)) {z : Value} (hz : (zeroValue e).run Tryd.prog w = .ok z w)
    (hm : a.eval m = .map (some b)) (c : Int) (hc : (Lit.int .i64 c).wf = true) (hx : a.eval x = .int .i64 c) (hK : wpList Tryd.prog ops Q rest (a.put o.dst ((f c).getD z)) w) : wpList Tryd.prog ops Q (o :: rest) a w := by
  refine wpList_plain hg fun K' hK' => ?_
  have hrun := map_look H hk ht hz hc
  unfold Oper.wp
  simp [execOp, hop, hm, hx, hrun, Result.andThen]
  exact hK' _ _ hK

theorem map_look_ok {e t : TypeId} (H : SL w (MapP kt b n f :: F)) (hk : Tryd.prog.underlying kt = some (.int .i64)) (ht : Tryd.prog.underlying t = some (.map kt e)) {z : Value} (hz : (zeroValue e).run Tryd.prog w = .ok z w) {c : Int} (hc : (Lit.int .i64 c).wf = true) :
    (Instr.lookup t (.map (some b)) (.int .i64 c) true).run Tryd.prog w = .ok (.tuple #[(f c).getD z, .bool (f c).isSome]) w := by
  obtain ⟨S, _, _, D, m, hown, hD, _⟩ := H.on
  obtain ⟨v, ps, hrun, hv⟩ := hown.look_ok (Maps.int_keyed hk) ht hz (zd := .held z) (zp := []) rfl (Maps.keyOf_int_mk hk hc)
  rw [hrun, hD.has_]
  unfold heldR at hv
  have h1 := hD.at_ c (.held z)
  have h2 : (DataW.held v) = D.atKey (.int .i64 c) (.held z) := (Prod.mk.inj (Option.some.inj hv)).1
  rw [h1] at h2
  have h3 : v = (f c).getD z := by
    cases hf : f c with
    | none =>
      rw [hf] at h2
      exact DataW.held.inj h2
    | some u =>
      rw [hf] at h2
      exact DataW.held.inj h2
  exact congrArg (fun u => Result.ok (Value.tuple #[u, .bool (f c).isSome]) w) h3

theorem wp_map_look_ok (hg : o.guard = none) (m x : Operand) (t e : TypeId) (hop : o.op = Op.lookup t m x true) (H : SL w (MapP kt b n f :: F)) (hk : Tryd.prog.underlying kt = some (.int .i64)) (ht : Tryd.prog.underlying t = some (.map kt e)) {z : Value} (hz : (zeroValue e).run Tryd.prog w = .ok z w)
    (hm : a.eval m = .map (some b)) (c : Int) (hc : (Lit.int .i64 c).wf = true) (hx : a.eval x = .int .i64 c) (hK : wpList Tryd.prog ops Q rest (a.put o.dst (.tuple #[(f c).getD z, .bool (f c).isSome])) w) : wpList Tryd.prog ops Q (o :: rest) a w := by
  refine wpList_plain hg fun K' hK' => ?_
  have hrun := map_look_ok H hk ht hz hc
  unfold Oper.wp
  simp [execOp, hop, hm, hx, hrun, Result.andThen]
  exact hK' _ _ hK

theorem wp_map_len (hg : o.guard = none) (m : Operand) (t e : TypeId) (hop : o.op = Op.call { callee := Callee.builtin Builtin.len, args := #[m], argTypes := #[t] }) (H : SL w (MapP kt b n f :: F)) (ht : Tryd.prog.underlying t = some (.map kt e))
    (hm : a.eval m = .map (some b)) (hK : wpList Tryd.prog ops Q rest (a.put o.dst (.int .i64 n)) w) : wpList Tryd.prog ops Q (o :: rest) a w := by
  obtain ⟨S, _, _, D, m', hown, hD, _⟩ := H.on
  refine wpList_len_own w hg m t hop kt e ht heldR b m' D hm hown ?_
  rw [hD.size_]
  exact hK

theorem wp_map_store (hg : o.guard = none) (m x v : Operand) (t e : TypeId) (hop : o.op = Op.mapUpdate t m x v) (H : SL w (MapP kt b n f :: F)) (hn : n ≤ 3000000) (hk : Tryd.prog.underlying kt = some (.int .i64)) (ht : Tryd.prog.underlying t = some (.map kt e))
    (hm : a.eval m = .map (some b)) (c : Int) (hc : (Lit.int .i64 c).wf = true) (val : Value) (hx : a.eval x = .int .i64 c) (hv : a.eval v = val)
    (hK : ∀ w', SL w' (MapP kt b (if (f c).isSome then n else n + 1) (upd f c (some val)) :: F) → wpList Tryd.prog ops Q rest (a.put o.dst undef) w') : wpList Tryd.prog ops Q (o :: rest) a w := by
  obtain ⟨S, ⟨hS, D, m', hown, hD, hm'⟩, hlt, hcall⟩ := H.call
  have hown' : w.ownsMap Tryd.prog kt heldR b n D := by
    obtain ⟨es, clock, hb, r, hs, rfl⟩ := hown
    refine ⟨es, clock, hb, r, ?_, rfl⟩
    have := hD.size_
    rw [Maps.size_eq, length_read] at this
    omega
  refine wpList_mapUpdate_own w hg m x v t hop kt e (Maps.int_keyed hk) ht heldR b n D hm hown' (by unfold maxLen; omega) (.int .i64 c) val (.int .i64 c) hx hv (Maps.keyOf_int_mk hk hc) (.held val) [] rfl ?_
  intro w' h1 h2
  refine hK w' (hcall w' [_] ((Frm.refl S w).grown h2 (fun k hk _ => by injection hk with hk; rw [← hk]; exact hS)) ⟨_, fun _ h => h, ⟨.inl hS, _, n + 1, h1, hD.put c val, by omega⟩, trivial⟩)
end

end Go.Proofs.YtoejhelhgfipkaaDoor
