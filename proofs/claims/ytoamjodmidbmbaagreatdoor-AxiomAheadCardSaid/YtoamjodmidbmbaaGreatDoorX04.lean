/- Texts of the proof. -/
import Derived.Test.YtoamjodmidbmbaaGreatDoorX01
import Derived.StillTail
import Derived.OrdersHeld
import Derived.Deep.LoopGhost
set_option linter.unusedVariables false
set_option linter.unusedSimpArgs false
namespace Go.Proofs.YtoamjodmidbmbaaGreatDoor
open Go.RowKit
abbrev Fr := Nat → Value
def updF (σ : Fr) (d : Nat) (v : Value) : Fr := fun i => cond (Nat.beq i d) v (σ i)
def updO (σ : Fr) (d : Option Nat) (v : Value) : Fr := match d with | none => σ | some d => updF σ d v
def ev (σ : Fr) : Operand → Value
 | .tmp t => σ t
 | .const v => v
 | .global g => .pointer (some ⟨g, 0, none⟩)
 | .func f => .func (.func f) #[] #[]
structure Ld (w : World) (a : Addr) (K : Value → Prop) : Prop where
 out : ∃ v, w.cell? a = some v ∧ K v
structure St (w : World) (a : Addr) (v : Value) (K : World → Prop) : Prop where
 out : (∃ u, w.cell? a = some u) ∧ w.frozen? a = false ∧ v.oneCell' = true ∧ K (w.setCell a v)
structure Nw (w : World) (o : Obj) (K : Nat → World → Prop) : Prop where
 out : K w.heap.size (w.alloc o)
structure BB (b : Bool) (K : Bool → Prop) : Prop where
 out : K b
structure IW (n : Int) (K : Int → Prop) : Prop where
 out : K n
structure Cn (v : Value) (A B : Prop) : Prop where
 out : ∃ b, v = .bool b ∧ (b = true → A) ∧ (b = false → B)
def okEnter (P : Program) (f : FuncId) : Bool := match P.funcs[f]? with | some fn => !(fn.name == "runtime.NumGoroutine") && fn.body.isSome | none => false
structure Cl (P : Program) (f : FuncId) (args : Array Value) (w : World) (K : Value → World → Prop) : Prop where
 out : okEnter P f = true ∧ Calls P f args w (fun e w' => ∃ v, e = .returned v ∧ K v w')
structure Ix (P : Program) (e : TypeId) (a : Addr) (n : Nat) (i : Int) (K : Value → Prop) : Prop where
 out : ∃ j sz : Nat, i = (j : Int) ∧ j < n ∧ (P.info? e).map (·.size) = some sz ∧ K (.pointer (some (a.add (j * sz))))
structure Mn (P : Program) (σ : Fr) (o : Oper) (w : World) (K : Value → World → Prop) : Prop where
 out : ∃ v w', ((execOp (ev σ) o).run P w = .ok (.value v) w' ∨ ((execOp (ev σ) o).run P w = .ok .skip w' ∧ v = undef)) ∧ K v w'
noncomputable def swp {α : Type} (P : Program) (s : Sem α) : World → (α → World → Prop) → Prop :=
 @Sem.rec α (fun _ => World → (α → World → Prop) → Prop)
  (fun a w K => K a w)
  (fun _ a _ k w K => Ld w a (fun v => k v w K))
  (fun _ a v _ k w K => St w a v (fun w' => k w' K))
  (fun o _ k w K => Nw w o (fun b w' => k b w' K))
  (fun _ _ _ _ _ => False) (fun _ _ _ _ _ _ => False) (fun _ _ _ _ _ => False) (fun _ _ _ _ _ => False) (fun _ _ _ _ _ _ => False) (fun _ _ _ _ _ => False) (fun _ _ _ _ _ => False)
  (fun _ k w K => k P w K)
  (fun _ _ k w K => k w K)
  (fun _ _ _ => False) s
theorem swp_run {α : Type} {P : Program} : ∀ (s : Sem α) (w : World) (K : α → World → Prop), swp P s w K → ∃ a w', s.run P w = .ok a w' ∧ K a w' := by
 intro s
 induction s with
 | pure a => exact fun w K h => ⟨a, w, rfl, h⟩
 | load m a k ih =>
  rintro w K ⟨⟨v, hv, h⟩⟩
  obtain ⟨x, w', h1, h2⟩ := ih v w K h
  exact ⟨x, w', by simp only [Sem.run, hv]; exact h1, h2⟩
 | store m a v k ih =>
  rintro w K ⟨⟨⟨u, hu⟩, hf, hv, h⟩⟩
  obtain ⟨x, w', h1, h2⟩ := ih _ K h
  refine ⟨x, w', ?_, h2⟩
  cases v <;> first | (simp [Value.oneCell'] at hv; done) | (simp only [Sem.run, hu, hf]; exact h1)
 | new o k ih =>
  rintro w K ⟨h⟩
  obtain ⟨x, w', h1, h2⟩ := ih _ _ K h
  exact ⟨x, w', h1, h2⟩
 | program k ih =>
  intro w K h
  obtain ⟨x, w', h1, h2⟩ := ih _ w K h
  exact ⟨x, w', h1, h2⟩
 | mark m k ih =>
  intro w K h
  obtain ⟨x, w', h1, h2⟩ := ih w K h
  exact ⟨x, w', h1, h2⟩
 | _ => exact fun w K h => h.elim
def sv (K : Value → World → Prop) : Next → World → Prop
 | .value v, w => K v w
 | .skip, w => K undef w
 | _, _ => False
def told (v : Value) (K : Value → Prop) : Prop :=
 match v with
 | .bool b => BB b (fun b => K (.bool b))
 | .int k n => IW n (fun n => K (.int k n))
 | v => K v
def toldB (v : Value) (K : Value → Prop) : Prop :=
 match v with
 | .bool b => BB b (fun b => K (.bool b))
 | v => K v
theorem told_eq (v : Value) (K : Value → Prop) : told v K = K v := by
 cases v <;> first | rfl | exact propext ⟨fun h => h.out, fun h => ⟨h⟩⟩
theorem toldB_eq (v : Value) (K : Value → Prop) : toldB v K = K v := by
 cases v <;> first | rfl | exact propext ⟨fun h => h.out, fun h => ⟨h⟩⟩
def callArgs (σ : Fr) (first : Array Value) (c : Call) (cap : Array Value) : Array Value := (first.toList ++ (c.args.toList.map (ev σ) ++ cap.toList)).toArray
def denOp (P : Program) (σ : Fr) (o : Oper) (w : World) (K : Value → World → Prop) : Prop :=
 match o.op with
 | .move x => K (ev σ x) w
 | .assign x => K (ev σ x) w
 | .binOp op _ x _ _ =>
  match op, ev σ x with
  | .rem, _ => Mn P σ o w K
  | .quo, _ => Mn P σ o w K
  | .shl, _ => Mn P σ o w K
  | .shr, _ => Mn P σ o w K
  | .or, _ => Mn P σ o w K
  | .and, _ => Mn P σ o w K
  | _, .agg _ => Mn P σ o w K
  | _, _ => swp P (execOp (ev σ) o) w (sv fun v w' => told v fun v => K v w')
 | .unOp _ _ _ => swp P (execOp (ev σ) o) w (sv fun v w' => told v fun v => K v w')
 | .load _ _ => swp P (execOp (ev σ) o) w (sv fun v w' => toldB v fun v => K v w')
 | .indexAddr t x ix =>
  match P.underlying t, ev σ x, ev σ ix with
  | some (.slice e), .slice (some a) n _, .int _ i => Ix P e a n i (fun v => K v w)
  | some (.array n e), .pointer (some a), .int _ i => Ix P e a n i (fun v => K v w)
  | _, _, _ => False
 | .call c =>
  match c.callee with
  | .value x =>
   match ev σ x with
   | .func (.func f) first cap => Cl P f (callArgs σ first c cap) w (fun v w' => toldB v fun v => K v w')
   | _ => False
  | .builtin .len =>
   match c.args.toList.map (ev σ), c.argTypes.toList with
   | [.slice _ n _], [t] => match P.underlying t with | some (.slice _) => K (.int .i64 (n : Int)) w | _ => Mn P σ o w K
   | _, _ => Mn P σ o w K
  | _ => Mn P σ o w K
 | .build _ _ => Mn P σ o w K
 | .buildSlice _ _ _ => Mn P σ o w K
 | .slice _ _ _ _ _ => Mn P σ o w K
 | .index _ _ _ => Mn P σ o w K
 | .makeSlice _ _ _ => Mn P σ o w K
 | .makeMap _ _ => Mn P σ o w K
 | .lookup _ _ _ _ => Mn P σ o w K
 | .mapUpdate _ _ _ _ => Mn P σ o w K
 | .mapEntry _ _ _ => Mn P σ o w K
 | .entryStore _ _ _ _ => Mn P σ o w K
 | .insert _ _ _ _ => Mn P σ o w K
 | .range _ _ => Mn P σ o w K
 | .next _ _ => Mn P σ o w K
 | .entry _ => Mn P σ o w K
 | .convert _ _ _ => Mn P σ o w K
 | .sliceToArrayPointer _ _ => Mn P σ o w K
 | .makeFunc _ _ _ => Mn P σ o w K
 | _ => swp P (execOp (ev σ) o) w (sv K)
def yieldF (ops : Array Oper) (σ : Fr) (j : Nat) : Option Bool :=
 match ((ops[j]?).bind (·.dst)).map σ with
 | some (.bool b) => some b
 | _ => none
noncomputable def denL (P : Program) (ops : Array Oper) (K : Fr → World → Prop) (l : List Oper) : Fr → World → Prop :=
 @List.rec Oper (fun _ => Fr → World → Prop) (fun σ w => K σ w)
  (fun o _ ih σ w =>
   match o.guard with
   | none => denOp P σ o w (fun v w' => ih (updO σ o.dst v) w')
   | some _ =>
    match Region.wanted o (yieldF ops σ) with
    | true => denOp P σ o w (fun v w' => ih (updO σ o.dst v) w')
    | false => ih (updO σ o.dst undef) w) l
theorem denL_cons (P : Program) (ops : Array Oper) (K : Fr → World → Prop) (o : Oper) (rest : List Oper) (σ : Fr) (w : World) : denL P ops K (o :: rest) σ w =
  match o.guard with
  | none => denOp P σ o w (fun v w' => denL P ops K rest (updO σ o.dst v) w')
  | some _ =>
   match Region.wanted o (yieldF ops σ) with
   | true => denOp P σ o w (fun v w' => denL P ops K rest (updO σ o.dst v) w')
   | false => denL P ops K rest (updO σ o.dst undef) w := rfl
def dstOk (n : Nat) (ops : Array Oper) : Bool := ops.toList.all fun o => match o.dst with | none => true | some d => decide (d < n)
def wrote (l : List Oper) (i : Nat) : Bool := l.any fun o => o.dst == some i
structure Drw (P : Program) (ops : Array Oper) (n : Nat) (σ : Fr) (w : World) (K : Fr → World → Prop) : Prop where
 out : dstOk n ops = true → ∀ a id, a.tmps.size = n → a.defers = [] → σ = (fun i => a.tmps.getD i undef) →
  (Code.region id ops true).wp P (Exit.then (fun a w => a.tmps.size = n ∧ a.defers = [] ∧ K (fun i => a.tmps.getD i undef) w ∧ ∀ i, wrote ops.toList i = false → a.tmps.getD i undef = σ i) (fun _ _ _ => False)) a w
structure Lp (P : Program) (n : Nat) (c : Code) (X : Nat → Fr → World → Prop) (R : Fr → World → Prop) (σ : Fr) (w : World) (round : Fr → World → (Fr → World → Prop) → Prop) : Prop where
 out : ∃ (I : Nat → Fr → World → Prop) (m : Nat), I m σ w ∧ ∀ m σ' w', I m σ' w' → round σ' w' (fun σ'' w'' => ∃ k, k < m ∧ I k σ'' w'')
structure RgX (P : Program) (n : Nat) (id : Nat) (ops : Array Oper) (d : Bool) (σ : Fr) (w : World) (K : Fr → World → Prop) : Prop where
 out : match d with | false => denL P ops K ops.toList σ w | true => Drw P ops n σ w K
structure BkX (P : Program) (n : Nat) (id : Nat) (c : Code) (σ : Fr) (w : World) (K : Fr → World → Prop) (X : Nat → Fr → World → Prop) (R : Fr → World → Prop) (p : Prop) : Prop where
 out : p
structure CdX (P : Program) (n : Nat) (t : Operand) (a b : Code) (σ : Fr) (w : World) (K : Fr → World → Prop) (X : Nat → Fr → World → Prop) (R : Fr → World → Prop) (p : Prop) : Prop where
 out : p
noncomputable def den (P : Program) (n : Nat) (c : Code) : Fr → World → (Fr → World → Prop) → (Nat → Fr → World → Prop) → (Fr → World → Prop) → Prop :=
 @Code.rec (fun _ => Fr → World → (Fr → World → Prop) → (Nat → Fr → World → Prop) → (Fr → World → Prop) → Prop)
  (fun σ w K _ _ => K σ w)
  (fun id ops d σ w K _ _ => RgX P n id ops d σ w K)
  (fun _ _ a b σ w K X R => a σ w (fun σ' w' => b σ' w' K X R) X R)
  (fun t c1 c2 a b σ w K X R => CdX P n t c1 c2 σ w K X R (Cn (ev σ t) (a σ w K X R) (b σ w K X R)))
  (fun id b c σ w K X R => BkX P n id b σ w K X R (c σ w K (fun i σ' w' => cond (Nat.beq i id) (K σ' w') (X i σ' w')) R))
  (fun b c σ w _ X R => Lp P n b X R σ w (fun σ' w' L => c σ' w' L X R))
  (fun _ _ _ _ _ _ _ _ _ _ _ => False)
  (fun id σ w _ X _ => X id σ w)
  (fun _ _ _ _ _ _ _ => False)
  (fun _ _ _ _ _ _ => False)
  (fun _ _ _ _ _ _ => False)
  (fun σ w _ _ R => R σ w)
  (fun _ _ _ _ _ _ => False) c
def fine (n : Nat) : Code → Bool
 | .skip | .exit _ | .ret => true
 | .region _ ops _ => dstOk n ops
 | .seq a b => fine n a && fine n b
 | .cond _ a b => fine n a && fine n b
 | .block _ c => fine n c
 | .loop c => fine n c
 | _ => false
def Sim (n : Nat) (a : Act) (σ : Fr) : Prop := a.tmps.size = n ∧ a.defers = [] ∧ σ = fun i => a.tmps.getD i undef
theorem Sim.ev {n : Nat} {a : Act} {σ : Fr} (h : Sim n a σ) : ev σ = a.eval := by
 obtain ⟨_, _, rfl⟩ := h
 funext x
 cases x <;> rfl
theorem Sim.put {n : Nat} {a : Act} {σ : Fr} (h : Sim n a σ) {d : Option Nat} (hd : ∀ i, d = some i → i < n) (v : Value) : Sim n (a.put d v) (updO σ d v) := by
 obtain ⟨h1, h2, rfl⟩ := h
 cases d with
 | none => exact ⟨h1, h2, rfl⟩
 | some d =>
  have hlt := hd d rfl
  refine ⟨by simp [Act.put, h1], h2, ?_⟩
  funext i
  simp only [Act.put, updO, updF, Array.getD_eq_getD_getElem?, Array.getElem?_setIfInBounds]
  by_cases e : i = d
  ·subst e
   simp [h1, hlt]
  ·have : Nat.beq i d = false := by cases hb : Nat.beq i d <;> first | rfl | exact absurd (Nat.eq_of_beq_eq_true hb) e
   rw [this, if_neg (fun h => e h.symm)]
   rfl
theorem Sim.yield {n : Nat} {a : Act} {σ : Fr} (h : Sim n a σ) {ops : Array Oper} (hd : dstOk n ops = true) : yieldF ops σ = yielded ops a.tmps := by
 obtain ⟨h1, h2, rfl⟩ := h
 funext j
 unfold yieldF yielded
 cases ho : ops[j]? with
 | none => rfl
 | some o =>
  cases hdst : o.dst with
  | none => simp [hdst]
  | some d =>
   have hm := List.all_eq_true.1 hd o (by simpa using Array.mem_of_getElem? ho)
   rw [hdst] at hm
   have hlt : d < a.tmps.size := by rw [h1]; simpa using hm
   simp [hdst, Array.getD_eq_getD_getElem?, hlt]
   rfl
theorem okEnter_run {P : Program} {f : FuncId} (h : okEnter P f = true) (args : Array Value) (w : World) : (callFunc f args).run P w = .ok (.enter f args) w := by
 unfold okEnter at h
 cases hf : P.funcs[f]? with
 | none => simp [hf] at h
 | some fn =>
  rw [hf] at h
  simp only [Bool.and_eq_true] at h
  exact enters hf (by simpa using h.1) h.2 args w
section
variable {P : Program} {n : Nat} {a : Act} {σ : Fr} {o : Oper} {w : World} {K : Value → World → Prop} {next : Act → World → Prop} {Q : Exit → Act → World → Prop}
theorem swp_wp (hs : Sim n a σ) (hK : ∀ v w', K v w' → next (a.put o.dst v) w') (h : swp P (execOp (ev σ) o) w (sv K)) : o.wp P a w next Q := by
 obtain ⟨nx, w', h1, h2⟩ := swp_run _ _ _ h
 unfold Oper.wp
 rw [← hs.ev, h1]
 cases nx <;> first | exact h2.elim | exact hK _ _ h2
theorem Mn_wp (hs : Sim n a σ) (hK : ∀ v w', K v w' → next (a.put o.dst v) w') (h : Mn P σ o w K) : o.wp P a w next Q := by
 obtain ⟨v, w', h1, h2⟩ := h.out
 unfold Oper.wp
 rw [← hs.ev]
 rcases h1 with h1 | ⟨h1, rfl⟩
 ·rw [h1]; exact hK _ _ h2
 ·rw [h1]; exact hK _ _ h2
theorem Ix_run {e : TypeId} {b : Addr} {m : Nat} {i : Int} {K : Value → Prop} (h : Ix P e b m i K) {t : TypeId} {x : Value} {k : IntKind}
  (ht : (P.underlying t = some (.slice e) ∧ ∃ cap, x = .slice (some b) m cap) ∨ (P.underlying t = some (.array m e) ∧ x = .pointer (some b))) : ∃ v, (Instr.indexAt t x (.int k i)).run P w = .ok v w ∧ K v := by
 obtain ⟨j, sz, rfl, hj, hsz, hK⟩ := h.out
 refine ⟨_, ?_, hK⟩
 obtain ⟨inf, hinf, rfl⟩ := Option.map_eq_some_iff.1 hsz
 have hsz : (sizeOf e).run P w = .ok inf.size w := by simp [sizeOf, typeInfo, hinf]
 rcases ht with ⟨ht, cap, rfl⟩ | ⟨ht, rfl⟩
 ·have he : P.elem t = e := by simp [Program.elem, ht]
  rw [run_indexAt_slice w t b m cap k (j : Int) (by rw [he]; exact ht), he, hsz]
  simp [hj]
 ·have he : P.elem t = e := by simp [Program.elem, ht]
  have hn : P.arrayLen t = m := by simp [Program.arrayLen, ht]
  rw [run_indexAt_array w t b k (j : Int) (by rw [he, hn]; exact ht), he, hn, hsz]
  simp [hj]
theorem value_wp {v : Value} (hs : Sim n a σ) (hK : ∀ v w', K v w' → next (a.put o.dst v) w') (hr : (execOp (ev σ) o).run P w = .ok (.value v) w) (h : K v w) : o.wp P a w next Q := by
 unfold Oper.wp
 rw [← hs.ev, hr]
 exact hK _ _ h
theorem len_run {σ : Fr} {o : Oper} {c : Call} {ad : Option Addr} {m cap : Nat} {t e : TypeId} (hc : o.op = .call c) (hcal : c.callee = .builtin .len) (h1 : c.args.toList.map (ev σ) = [.slice ad m cap]) (h2 : c.argTypes.toList = [t]) (hu : P.underlying t = some (.slice e)) (w : World) :
  (execOp (ev σ) o).run P w = .ok (.value (.int .i64 (m : Int))) w := by
 have ha : c.args.map (ev σ) = #[.slice ad m cap] := by rw [← Array.toList_inj, Array.toList_map, h1]
 have ht : c.argTypes = #[t] := by rw [← Array.toList_inj, h2]
 have he : P.elem t = e := by simp [Program.elem, hu]
 have hr := run_len_slice w t o.type ad m cap (by rw [he]; exact hu)
 simp [execOp, hc, resolve, hcal, invoke, builtin, ha, ht, hr]
 rfl
theorem denOp_wp (hs : Sim n a σ) (hK : ∀ v w', K v w' → next (a.put o.dst v) w') (h : denOp P σ o w K) : o.wp P a w next Q := by
 have hm := fun h => Mn_wp (P := P) (w := w) (Q := Q) hs hK h
 have hp := fun h => swp_wp (P := P) (w := w) (Q := Q) hs hK h
 have hp1 : swp P (execOp (ev σ) o) w (sv fun v w' => told v fun v => K v w') → o.wp P a w next Q := fun h => swp_wp (P := P) (w := w) (Q := Q) hs (fun v w' k => hK v w' (by rw [told_eq] at k; exact k)) h
 have hp2 : swp P (execOp (ev σ) o) w (sv fun v w' => toldB v fun v => K v w') → o.wp P a w next Q := fun h => swp_wp (P := P) (w := w) (Q := Q) hs (fun v w' k => hK v w' (by rw [toldB_eq] at k; exact k)) h
 unfold denOp at h
 split at h
 ·rename_i x hx
  exact value_wp hs hK (by simp only [execOp, hx]; rfl) h
 ·rename_i x hx
  exact value_wp hs hK (by simp only [execOp, hx]; rfl) h
 ·try dsimp only at h
  split at h <;> first | exact hm h | exact hp1 h
 ·exact hp1 h
 ·exact hp2 h
 ·rename_i t x ix hx
  split at h
  ·rename_i e b m cap k i h1 h2 h3
   obtain ⟨v, hr, hk⟩ := Ix_run (w := w) (k := k) h (.inl ⟨h1, cap, rfl⟩)
   exact value_wp hs hK (by simp only [execOp, hx, h2, h3]; rw [Sem.run_bind, hr]; rfl) hk
  ·rename_i m e b k i h1 h2 h3
   obtain ⟨v, hr, hk⟩ := Ix_run (w := w) (k := k) h (.inr ⟨h1, rfl⟩)
   exact value_wp hs hK (by simp only [execOp, hx, h2, h3]; rw [Sem.run_bind, hr]; rfl) hk
  ·exact h.elim
 ·rename_i c hc
  split at h
  ·rename_i x hx
   split at h
   ·rename_i f first cap hf
    obtain ⟨h1, h2⟩ := h.out
    have hr : (execOp (ev σ) o).run P w = .ok (.enter f (callArgs σ first c cap)) w := by
     have hargs : first ++ c.args.map (ev σ) ++ cap = callArgs σ first c cap := by
      unfold callArgs
      simp [← Array.toList_inj]
     simp only [execOp, hc, resolve, hx, hf, Deferred.ofValue]
     rw [← hargs, ← okEnter_run h1 (first ++ c.args.map (ev σ) ++ cap) w]
     rfl
    unfold Oper.wp
    rw [← hs.ev, hr, Oper.upon_enter]
    refine h2.mono fun e w' he => ?_
    obtain ⟨v, rfl, hk⟩ := he
    exact hK _ _ (by rw [toldB_eq] at hk; exact hk)
   ·exact h.elim
  ·rename_i hcal
   split at h
   ·rename_i ad m cap t h1 h2
    split at h
    ·rename_i e hu
     exact value_wp hs hK (len_run hc hcal h1 h2 hu w) h
    ·exact hm h
   ·exact hm h
  ·exact hm h
 all_goals first | exact hm h | exact hp h
theorem denL_wp {ops : Array Oper} {K : Fr → World → Prop} {Q : Exit → Act → World → Prop} (hd : dstOk n ops = true) (hK : ∀ a σ w, Sim n a σ → K σ w → Q .normal a w) :
  ∀ (l : List Oper) (a : Act) (σ : Fr) (w : World), (∀ o ∈ l, o ∈ ops.toList) → Sim n a σ → denL P ops K l σ w → wpList P ops Q l a w
 | [], a, σ, w, _, hs, h => hK a σ w hs h
 | o :: rest, a, σ, w, hl, hs, h => by
  have hi : ∀ i, o.dst = some i → i < n := by
   intro i hi
   have := List.all_eq_true.1 hd o (hl o (by simp))
   rw [hi] at this
   simpa using this
  have ih := denL_wp hd hK rest
  have go : denOp P σ o w (fun v w' => denL P ops K rest (updO σ o.dst v) w') → ∀ K' : Act → World → Prop, (∀ a w, wpList P ops Q rest a w → K' a w) → o.wp P a w K' Q :=
   fun h K' hK' => denOp_wp hs (fun v w' k => hK' _ _ (ih _ _ _ (fun o ho => hl o (by simp [ho])) (hs.put hi v) k)) h
  refine wpList_step fun K' hK' => ?_
  have hy := hs.yield hd
  rw [denL_cons] at h
  split at h
  ·rename_i hg
   rw [if_pos (by simp [Region.wanted, hg])]
   exact go h K' hK'
  ·rename_i g hg
   split at h
   ·rename_i hw
    rw [← hy, if_pos hw]
    exact go h K' hK'
   ·rename_i hw
    rw [← hy, if_neg (by rw [hw]; simp)]
    exact hK' _ _ (ih _ _ _ (fun o ho => hl o (by simp [ho])) (hs.put hi undef) h)
theorem den_wp : ∀ (c : Code), fine n c = true → ∀ (a : Act) (σ : Fr) (w : World) (K : Fr → World → Prop) (X : Nat → Fr → World → Prop) (R : Fr → World → Prop) (Q : Exit → Act → World → Prop),
  Sim n a σ → (∀ a σ w, Sim n a σ → K σ w → Q .normal a w) → (∀ i a σ w, Sim n a σ → X i σ w → Q (.exit i) a w) → (∀ a σ w, Sim n a σ → R σ w → Q .ret a w) → den P n c σ w K X R → c.wp P Q a w := by
 intro c
 induction c with
 | skip => exact fun _ a σ w K X R Q hs hK hX hR h => wp_skip (hK _ _ _ hs h)
 | exit i => exact fun _ a σ w K X R Q hs hK hX hR h => wp_exit (hX _ _ _ _ hs h)
 | ret => exact fun _ a σ w K X R Q hs hK hX hR h => wp_ret (hR _ _ _ hs h)
 | region id ops d =>
  intro hf a σ w K X R Q hs hK hX hR h
  have h := h.out
  cases d with
  | false => exact wp_region_list (denL_wp hf hK _ _ _ _ (fun _ h => h) hs h)
  | true =>
   refine wp_mono (h.out hf a id hs.1 hs.2.1 hs.2.2) ?_
   intro e a w q
   cases e <;> first | exact hK a _ w ⟨q.1, q.2.1, rfl⟩ q.2.2.1 | exact q.elim
 | seq x y ihx ihy =>
  intro hf a σ w K X R Q hs hK hX hR h
  simp only [fine, Bool.and_eq_true] at hf
  exact wp_seq (ihx hf.1 a σ w _ X R _ hs (fun a σ w hs h => ihy hf.2 a σ w K X R Q hs hK hX hR h) hX hR h)
 | cond c x y ihx ihy =>
  intro hf a σ w K X R Q hs hK hX hR h
  simp only [fine, Bool.and_eq_true] at hf
  obtain ⟨b, hb, h1, h2⟩ := h.out.out
  rw [hs.ev] at hb
  exact wp_cond_split hb (fun e => ihx hf.1 a σ w K X R Q hs hK hX hR (h1 e)) (fun e => ihy hf.2 a σ w K X R Q hs hK hX hR (h2 e))
 | block id c ih =>
  intro hf a σ w K X R Q hs hK hX hR h
  refine wp_block (ih hf a σ w K _ R _ hs hK ?_ hR h.out)
  intro i a σ w hs h
  simp only [Exit.inBlock]
  by_cases e : i = id
  ·subst e
   rw [if_pos rfl]
   rw [show Nat.beq i i = true from Nat.beq_refl i] at h
   exact hK _ _ _ hs h
  ·rw [if_neg e]
   have : Nat.beq i id = false := by cases hb : Nat.beq i id <;> first | rfl | exact absurd (Nat.eq_of_beq_eq_true hb) e
   rw [this] at h
   exact hX _ _ _ _ hs h
 | loop c ih =>
  intro hf a σ w K X R Q hs hK hX hR h
  obtain ⟨I, m, h0, hr⟩ := h.out
  refine wp_loop_ghost (fun m a w => Sim n a (fun i => a.tmps.getD i undef) ∧ I m (fun i => a.tmps.getD i undef) w) m ?_ ?_
  ·obtain ⟨s1, s2, rfl⟩ := hs
   exact ⟨⟨s1, s2, rfl⟩, h0⟩
  ·rintro m a w ⟨hs', hI⟩
   refine ih hf a _ w _ X R _ hs' ?_ hX hR (hr _ _ _ hI)
   rintro a' σ' w' ⟨s1, s2, rfl⟩ ⟨k, k1, k2⟩
   exact ⟨k, k1, ⟨s1, s2, rfl⟩, k2⟩
 | _ => exact fun hf => by simp [fine] at hf
end
def frame0 (args : List Value) : Fr := fun i => (args[i]?).getD undef
structure RetOf (P : Program) (fn : Func) (R : Ending → World → Prop) (σ : Fr) (w : World) : Prop where
 out : ∃ v, (∀ a : Act, (∀ t, a.tmps.getD t undef = σ t) → (results fn a.tmps).run P w = .ok v w) ∧ R (.returned v) w
theorem calls_den {P : Program} {f : FuncId} {fn : Func} {c : Code} {args : List Value} {w : World} {R : Ending → World → Prop} (hf : P.funcs[f]? = some fn) (hb : fn.body = some c) (hn : args.length ≤ fn.ntmps) (hc : fine fn.ntmps c = true)
  (h : den P fn.ntmps c (frame0 args) w (RetOf P fn R) (fun _ _ _ => False) (RetOf P fn R)) : Calls P f args.toArray w R := by
 refine calls_of_wp hf hb (den_wp c hc _ _ w _ _ _ _ ⟨?_, rfl, ?_⟩ ?_ (fun _ _ _ _ _ h => h.elim) ?_ h)
 ·simp; omega
 ·funext i
  unfold frame0
  simp only [Array.getD_eq_getD_getElem?, Array.getElem?_append, Array.getElem?_replicate]
  by_cases hi : i < args.length
  ·simp [hi]
  ·simp [hi]
   split <;> rfl
 ·rintro a σ w' ⟨s1, s2, rfl⟩ ⟨⟨v, h1, h2⟩⟩
  exact ⟨s2, v, h1 a (fun _ => rfl), h2⟩
 ·rintro a σ w' ⟨s1, s2, rfl⟩ ⟨⟨v, h1, h2⟩⟩
  exact ⟨s2, v, h1 a (fun _ => rfl), h2⟩
structure LdC (S : World → Prop) (a : Addr) (K : Value → Prop) : Prop where
 out : ∃ v, (∀ w, S w → w.cell? a = some v) ∧ K v
structure MnC (P : Program) (S : World → Prop) (σ : Fr) (o : Oper) (K : Value → Prop) : Prop where
 out : ∃ v, (∀ w, S w → (execOp (ev σ) o).run P w = .ok (.value v) w) ∧ K v
noncomputable def swpC {α : Type} (P : Program) (S : World → Prop) (s : Sem α) : (α → Prop) → Prop :=
 @Sem.rec α (fun _ => (α → Prop) → Prop)
  (fun a K => K a)
  (fun _ a _ k K => LdC S a (fun v => k v K))
  (fun _ _ _ _ _ _ => False) (fun _ _ _ _ => False)
  (fun _ _ _ _ => False) (fun _ _ _ _ _ => False) (fun _ _ _ _ => False) (fun _ _ _ _ => False) (fun _ _ _ _ _ => False) (fun _ _ _ _ => False) (fun _ _ _ _ => False)
  (fun _ k K => k P K)
  (fun _ _ k K => k K)
  (fun _ _ => False) s
theorem swpC_run {α : Type} {P : Program} {S : World → Prop} : ∀ (s : Sem α) (K : α → Prop), swpC P S s K → ∃ a, (∀ w, S w → s.run P w = .ok a w) ∧ K a := by
 intro s
 induction s with
 | pure a => exact fun K h => ⟨a, fun _ _ => rfl, h⟩
 | load m a k ih =>
  rintro K ⟨⟨v, hv, h⟩⟩
  obtain ⟨x, h1, h2⟩ := ih v K h
  exact ⟨x, fun w hw => by simp only [Sem.run, hv w hw]; exact h1 w hw, h2⟩
 | program k ih =>
  intro K h
  obtain ⟨x, h1, h2⟩ := ih _ K h
  exact ⟨x, h1, h2⟩
 | mark m k ih =>
  intro K h
  obtain ⟨x, h1, h2⟩ := ih K h
  exact ⟨x, h1, h2⟩
 | _ => exact fun K h => h.elim
def svC (K : Value → Prop) : Next → Prop
 | .value v => K v
 | _ => False
def cop (P : Program) (S : World → Prop) (σ : Fr) (o : Oper) (K : Value → Prop) : Prop :=
 match o.op with
 | .move x => K (ev σ x)
 | .assign x => K (ev σ x)
 | .binOp op _ x _ _ =>
  match op, ev σ x with
  | .rem, _ => MnC P S σ o K
  | .quo, _ => MnC P S σ o K
  | .shl, _ => MnC P S σ o K
  | .shr, _ => MnC P S σ o K
  | .or, _ => MnC P S σ o K
  | .and, _ => MnC P S σ o K
  | _, .agg _ => MnC P S σ o K
  | _, _ => swpC P S (execOp (ev σ) o) (svC fun v => told v K)
 | .unOp _ _ _ => swpC P S (execOp (ev σ) o) (svC fun v => told v K)
 | .load _ _ => swpC P S (execOp (ev σ) o) (svC fun v => toldB v K)
 | .indexAddr t x ix =>
  match P.underlying t, ev σ x, ev σ ix with
  | some (.slice e), .slice (some a) n _, .int _ i => Ix P e a n i K
  | some (.array n e), .pointer (some a), .int _ i => Ix P e a n i K
  | _, _, _ => False
 | .call c =>
  match c.callee with
  | .builtin .len =>
   match c.args.toList.map (ev σ), c.argTypes.toList with
   | [.slice _ n _], [t] => match P.underlying t with | some (.slice _) => K (.int .i64 (n : Int)) | _ => MnC P S σ o K
   | _, _ => MnC P S σ o K
  | _ => MnC P S σ o K
 | .fieldAddr _ _ _ => swpC P S (execOp (ev σ) o) (svC K)
 | .nilCheck _ => swpC P S (execOp (ev σ) o) (svC K)
 | .pick _ _ _ => swpC P S (execOp (ev σ) o) (svC K)
 | .extract _ _ => swpC P S (execOp (ev σ) o) (svC K)
 | .field _ _ _ => swpC P S (execOp (ev σ) o) (svC K)
 | _ => MnC P S σ o K
theorem cop_run {P : Program} {S : World → Prop} {σ : Fr} {o : Oper} {K : Value → Prop} (h : cop P S σ o K) : ∃ v, (∀ w, S w → (execOp (ev σ) o).run P w = .ok (.value v) w) ∧ K v := by
 have hp : ∀ {K : Value → Prop}, swpC P S (execOp (ev σ) o) (svC K) → ∃ v, (∀ w, S w → (execOp (ev σ) o).run P w = .ok (.value v) w) ∧ K v := by
  intro K h
  obtain ⟨nx, h1, h2⟩ := swpC_run _ _ h
  cases nx <;> first | exact ⟨_, h1, h2⟩ | exact h2.elim
 unfold cop at h
 split at h
 ·rename_i x hx
  exact ⟨_, fun w _ => by simp only [execOp, hx]; rfl, h⟩
 ·rename_i x hx
  exact ⟨_, fun w _ => by simp only [execOp, hx]; rfl, h⟩
 ·try dsimp only at h
  split at h
  ·exact h.out
  ·exact h.out
  ·exact h.out
  ·exact h.out
  ·exact h.out
  ·exact h.out
  ·exact h.out
  ·obtain ⟨v, h1, h2⟩ := hp h
   exact ⟨v, h1, by rw [told_eq] at h2; exact h2⟩
 ·obtain ⟨v, h1, h2⟩ := hp h
  exact ⟨v, h1, by rw [told_eq] at h2; exact h2⟩
 ·obtain ⟨v, h1, h2⟩ := hp h
  exact ⟨v, h1, by rw [toldB_eq] at h2; exact h2⟩
 ·rename_i t x ix hx
  split at h
  ·rename_i e b m cap k i h1 h2 h3
   obtain ⟨j, sz, hij, hj, hsz, hK⟩ := h.out
   refine ⟨_, fun w _ => ?_, hK⟩
   obtain ⟨v, hr, hk⟩ := Ix_run (w := w) (k := k) (K := fun v => v = .pointer (some (b.add (j * sz)))) ⟨⟨j, sz, hij, hj, hsz, rfl⟩⟩ (.inl ⟨h1, cap, rfl⟩)
   subst hk
   simp only [execOp, hx, h2, h3]
   rw [Sem.run_bind, hr]
   rfl
  ·rename_i m e b k i h1 h2 h3
   obtain ⟨j, sz, hij, hj, hsz, hK⟩ := h.out
   refine ⟨_, fun w _ => ?_, hK⟩
   obtain ⟨v, hr, hk⟩ := Ix_run (w := w) (k := k) (K := fun v => v = .pointer (some (b.add (j * sz)))) ⟨⟨j, sz, hij, hj, hsz, rfl⟩⟩ (.inr ⟨h1, rfl⟩)
   subst hk
   simp only [execOp, hx, h2, h3]
   rw [Sem.run_bind, hr]
   rfl
  ·exact h.elim
 ·rename_i c hc
  split at h
  ·rename_i hcal
   split at h
   ·rename_i ad m cap t h1 h2
    split at h
    ·rename_i e hu
     exact ⟨_, fun w _ => len_run hc hcal h1 h2 hu w, h⟩
    ·exact h.out
   ·exact h.out
  ·exact h.out
 all_goals first | exact hp h | exact h.out
section
variable {P : Program} {ops : Array Oper} {md : Region.Mode} {S : World → Prop} {Q : Exit → Act → World → Prop}
def waitsT (md : Region.Mode) (ops : Array Oper) : Nat → Nat → Nat → Bool
 | 0, _, _ => false
 | f + 1, j, i => match ops[j]? with | none => false | some oj => oj.after.any fun e => Region.binds md e && (e.on == i || waitsT md ops f e.on i)
def lastB (md : Region.Mode) (ops : Array Oper) (cs qs : List Nat) (j : Nat) : Bool := !cs.contains j && !qs.contains j && cs.all fun i => (Region.waitsFor md ops j i || waitsT md ops ops.size j i)
def lasted (md : Region.Mode) (ops : Array Oper) (cs qs : List Nat) (listed : Array Bool) : Bool := (List.range ops.size).any fun j => listed.getD j false && lastB md ops cs qs j
def Shutd (md : Region.Mode) (ops : Array Oper) (listed : Array Bool) : Prop := ∀ j oj, ops[j]? = some oj → listed.getD j false = true → ∀ e ∈ oj.after, Region.binds md e = true → listed.getD e.on false = true
theorem Shutd.start : Shutd md ops (Array.replicate ops.size false) := by
 intro j oj hj h
 rw [Array.getD_eq_getD_getElem?, Array.getElem?_replicate] at h
 split at h <;> simp at h
theorem Shutd.set {listed : Array Bool} {i : Nat} (h : Shutd md ops listed) (hi : i ∈ Region.ready md ops listed) : Shutd md ops (listed.setIfInBounds i true) := by
 intro j oj hj hl e he hb
 by_cases hij : i = j
 ·subst hij
  obtain ⟨_, o, ho, hall⟩ := mem_ready.1 hi
  obtain rfl : o = oj := Option.some.inj (ho.symm.trans hj)
  exact getD_set_true (hall e he hb)
 ·rw [getD_set_ne false hij] at hl
  exact getD_set_true (h j oj hj hl e he hb)
theorem waitsT_listed {listed : Array Bool} (h : Shutd md ops listed) : ∀ (f j i : Nat) {oj : Oper}, ops[j]? = some oj → (∀ e ∈ oj.after, Region.binds md e = true → listed.getD e.on false = true) → waitsT md ops f j i = true → listed.getD i false = true
 | 0, _, _, _, _, _, hw => by cases hw
 | f + 1, j, i, oj, hj, hall, hw => by
  unfold waitsT at hw
  rw [hj] at hw
  obtain ⟨e, he, hb⟩ := Array.any_eq_true'.1 hw
  simp only [Bool.and_eq_true, Bool.or_eq_true, beq_iff_eq] at hb
  obtain ⟨hb, hb2⟩ := hb
  have hle := hall e he hb
  rcases hb2 with rfl | hb2
  ·exact hle
  ·cases ho : ops[e.on]? with
   | none =>
    cases f with
    | zero => cases hb2
    | succ f => unfold waitsT at hb2; rw [ho] at hb2; cases hb2
   | some o => exact waitsT_listed h f e.on i ho (fun e' he' hb' => h e.on o ho hle e' he' hb') hb2
def wpA (P : Program) (md : Region.Mode) (ops : Array Oper) (cs qs : List Nat) (Q : Exit → Act → World → Prop) (S : World → Prop) : Nat → Array Bool → Act → World → Prop
 | 0, listed, a, w => Region.ready md ops listed = [] ∧ Q .normal a w
 | f + 1, listed, a, w => (Region.ready md ops listed = [] → Q .normal a w) ∧
   ∀ i ∈ Region.ready md ops listed, wpOp P ops Q i (fun a' w' => (lasted md ops cs qs (listed.setIfInBounds i true) = true ∨ S w') ∧ wpA P md ops cs qs Q S f (listed.setIfInBounds i true) a' w') a w
variable {cs qs : List Nat}
theorem wpA_any : ∀ (f : Nat) (listed : Array Bool) (a : Act) (w : World), wpA P md ops cs qs Q S f listed a w → wpAny P md ops Q f listed a w
 | 0, _, _, _, h => h
 | f + 1, _, _, _, h => ⟨h.1, fun i hi => wpOp_mono (fun a' w' q => wpA_any f _ a' w' q.2) (h.2 i hi)⟩
theorem wpA_first {i : Nat} {oi : Oper} {v : Value} (hcs : i ∈ cs) (hi : ops[i]? = some oi) (hsel : Region.noSelect ops = true) (hQ : ∀ c a w, ¬ Q (.panic c) a w) :
  ∀ (f : Nat) (listed : Array Bool) (a : Act) (w : World), Shutd md ops listed → Region.free md ops listed i = true → i ∈ Region.ready md ops listed → YieldsIf P ops S oi v a → S w →
   wpA P md ops cs qs Q S f (listed.setIfInBounds i true) (a.put oi.dst v) w → wpA P md ops cs qs Q S (f + 1) listed a w := by
 have key : ∀ (f : Nat) (listed : Array Bool) (a : Act) (w : World), Shutd md ops listed → (∀ j oj, ops[j]? = some oj → j ≠ i → listed.getD j true = false → (∀ e ∈ oj.after, Region.binds md e = true → e.on ≠ i) → oi.apart ops oj = true) →
   i ∈ Region.ready md ops listed → YieldsIf P ops S oi v a → S w → wpA P md ops cs qs Q S f (listed.setIfInBounds i true) (a.put oi.dst v) w → wpA P md ops cs qs Q S (f + 1) listed a w := by
  intro f
  induction f with
  | zero =>
   intro listed a w hcl hfree hr hy hS H
   refine ⟨fun h => (by rw [h] at hr; cases hr), fun j hj => ?_⟩
   by_cases hji : j = i
   ·subst hji
    exact hy.wpOp hi hS ⟨.inr hS, H⟩
   ·have := ready_mono hj hji
    rw [H.1] at this
    cases this
  | succ f ih =>
   intro listed a w hcl hfree hr hy hS H
   refine ⟨fun h => (by rw [h] at hr; cases hr), fun j hj => ?_⟩
   by_cases hji : j = i
   ·subst hji
    exact hy.wpOp hi hS ⟨.inr hS, H⟩
   ·obtain ⟨hjun, oj, hoj, hall⟩ := mem_ready.1 hj
    have hnot : ∀ e ∈ oj.after, Region.binds md e = true → e.on ≠ i := fun e he hb heq => by
     have h1 := hall e he hb
     have h0 := (mem_ready.1 hr).1
     rw [heq, getD_both h0] at h1
     cases h1
    have hlast : lasted md ops cs qs ((listed.setIfInBounds i true).setIfInBounds j true) ≠ true := by
     intro hl
     obtain ⟨j', _, hj'⟩ := List.any_eq_true.1 hl
     simp only [Bool.and_eq_true] at hj'
     obtain ⟨hj1, hj2⟩ := hj'
     have hni : listed.getD i false ≠ true := by rw [getD_both (mem_ready.1 hr).1]; simp
     simp only [lastB, Bool.and_eq_true, Bool.not_eq_true', List.all_eq_true, Bool.or_eq_true] at hj2
     have hne : j' ≠ i := fun e => by have := hj2.1.1; rw [e] at this; simp [hcs] at this
     have hlist : ∀ o', ops[j']? = some o' → ∀ e ∈ o'.after, Region.binds md e = true → listed.getD e.on false = true := by
      intro o' ho' e he hb
      by_cases hjj : j = j'
      ·subst hjj
       obtain rfl : oj = o' := Option.some.inj (hoj.symm.trans ho')
       exact hall e he hb
      ·rw [getD_set_ne false hjj, getD_set_ne false (Ne.symm hne)] at hj1
       exact hcl j' o' ho' hj1 e he hb
     rcases hj2.2 i hcs with h1 | h1
     ·obtain ⟨o', ho', e, he, hb, hon⟩ := Region.waitsFor_spec h1
      exact hni (by rw [← hon]; exact hlist o' ho' e he hb)
     ·cases ho : ops[j']? with
      | none =>
       cases hz : ops.size with
       | zero => rw [hz] at h1; cases h1
       | succ f => rw [hz] at h1; unfold waitsT at h1; rw [ho] at h1; cases h1
      | some o' => exact hni (waitsT_listed hcl _ _ _ ho (hlist o' ho) h1)
    have h2 := wpOp_putIf hoj (hfree j oj hoj hji hjun hnot) (fun cs' b => Region.noSelect_spec hsel i oi cs' b hi) (fun cs' b => Region.noSelect_spec hsel j oj cs' b hoj) (fun c a w q => (hQ c _ w q).elim) hy (H.2 j (ready_mono hj hji))
    have hfree' : ∀ k ok, ops[k]? = some ok → k ≠ i → (listed.setIfInBounds j true).getD k true = false → (∀ e ∈ ok.after, Region.binds md e = true → e.on ≠ i) → oi.apart ops ok = true := fun k ok hk hki hun hno => by
     refine hfree k ok hk hki ?_ hno
     by_cases hjk : j = k
     ·subst hjk; exact hjun
     ·rw [getD_set_ne true hjk] at hun; exact hun
    refine wpOp_mono (fun a' w' q => ?_) h2
    have hS' := q.2.1.resolve_left hlast
    refine ⟨.inr hS', ih (listed.setIfInBounds j true) a' w' (hcl.set hj) hfree' (ready_mono hr (Ne.symm hji)) q.1 hS' ?_⟩
    rw [Array.setIfInBounds_comm _ _ hji]
    exact q.2.2
 exact fun f listed a w hcl hf hr hy hS H => key f listed a w hcl (Region.free_spec hi hf) hr hy hS H
theorem wpA_pure {i : Nat} {oi : Oper} {v : Value} (hqs : i ∈ qs) (hi : ops[i]? = some oi) (hsel : Region.noSelect ops = true) (hQ : ∀ c a w, ¬ Q (.panic c) a w) :
  ∀ (f : Nat) (listed : Array Bool) (a : Act) (w : World), Region.free md ops listed i = true → i ∈ Region.ready md ops listed → YieldsIf P ops (fun _ => True) oi v a → (lasted md ops cs qs listed = true ∨ S w) →
   wpA P md ops cs qs Q S f (listed.setIfInBounds i true) (a.put oi.dst v) w → wpA P md ops cs qs Q S (f + 1) listed a w := by
 have mono : ∀ (listed : Array Bool) (k : Nat), lasted md ops cs qs listed = true → lasted md ops cs qs (listed.setIfInBounds k true) = true := by
  intro listed k h
  obtain ⟨j, hj, hb⟩ := List.any_eq_true.1 h
  simp only [Bool.and_eq_true] at hb
  exact List.any_eq_true.2 ⟨j, hj, by simp only [Bool.and_eq_true]; exact ⟨getD_set_true hb.1, hb.2⟩⟩
 have less : ∀ (listed : Array Bool), lasted md ops cs qs (listed.setIfInBounds i true) = true → lasted md ops cs qs listed = true := by
  intro listed h
  obtain ⟨j, hj, hb⟩ := List.any_eq_true.1 h
  simp only [Bool.and_eq_true] at hb
  have hne : i ≠ j := fun e => by have := hb.2; rw [← e] at this; simp [lastB, hqs] at this
  exact List.any_eq_true.2 ⟨j, hj, by simp only [Bool.and_eq_true]; exact ⟨by rw [getD_set_ne false hne] at hb; exact hb.1, hb.2⟩⟩
 have key : ∀ (f : Nat) (listed : Array Bool) (a : Act) (w : World), (∀ j oj, ops[j]? = some oj → j ≠ i → listed.getD j true = false → (∀ e ∈ oj.after, Region.binds md e = true → e.on ≠ i) → oi.apart ops oj = true) →
   i ∈ Region.ready md ops listed → YieldsIf P ops (fun _ => True) oi v a → (lasted md ops cs qs listed = true ∨ S w) → wpA P md ops cs qs Q S f (listed.setIfInBounds i true) (a.put oi.dst v) w → wpA P md ops cs qs Q S (f + 1) listed a w := by
  intro f
  induction f with
  | zero =>
   intro listed a w hfree hr hy hS H
   refine ⟨fun h => (by rw [h] at hr; cases hr), fun j hj => ?_⟩
   by_cases hji : j = i
   ·subst hji
    exact hy.wpOp hi trivial ⟨hS.imp (mono _ _) id, H⟩
   ·have := ready_mono hj hji
    rw [H.1] at this
    cases this
  | succ f ih =>
   intro listed a w hfree hr hy hS H
   refine ⟨fun h => (by rw [h] at hr; cases hr), fun j hj => ?_⟩
   by_cases hji : j = i
   ·subst hji
    exact hy.wpOp hi trivial ⟨hS.imp (mono _ _) id, H⟩
   ·obtain ⟨hjun, oj, hoj, hall⟩ := mem_ready.1 hj
    have hnot : ∀ e ∈ oj.after, Region.binds md e = true → e.on ≠ i := fun e he hb heq => by
     have h1 := hall e he hb
     have h0 := (mem_ready.1 hr).1
     rw [heq, getD_both h0] at h1
     cases h1
    have h2 := wpOp_putIf hoj (hfree j oj hoj hji hjun hnot) (fun cs' b => Region.noSelect_spec hsel i oi cs' b hi) (fun cs' b => Region.noSelect_spec hsel j oj cs' b hoj) (fun c a w q => (hQ c _ w q).elim) hy (H.2 j (ready_mono hj hji))
    have hfree' : ∀ k ok, ops[k]? = some ok → k ≠ i → (listed.setIfInBounds j true).getD k true = false → (∀ e ∈ ok.after, Region.binds md e = true → e.on ≠ i) → oi.apart ops ok = true := fun k ok hk hki hun hno => by
     refine hfree k ok hk hki ?_ hno
     by_cases hjk : j = k
     ·subst hjk; exact hjun
     ·rw [getD_set_ne true hjk] at hun; exact hun
    refine wpOp_mono (fun a' w' q => ?_) h2
    have hS' : lasted md ops cs qs (listed.setIfInBounds j true) = true ∨ S w' := q.2.1.imp (fun h => less _ (by rw [Array.setIfInBounds_comm _ _ hji]; exact h)) id
    refine ⟨hS', ih (listed.setIfInBounds j true) a' w' hfree' (ready_mono hr (Ne.symm hji)) q.1 hS' ?_⟩
    rw [Array.setIfInBounds_comm _ _ hji]
    exact q.2.2
 exact fun f listed a w hf hr hy hS H => key f listed a w (Region.free_spec hi hf) hr hy hS H
inductive Ot where
 | nil : Ot
 | calm (i : Nat) (t : Ot) : Ot
 | pure (i : Nat) (t : Ot) : Ot
 | act (i : Nat) (b : Bool) (t : Ot) : Ot
 | two (i : Nat) (bi : Bool) (t : Ot) (j : Nat) (bj : Bool) (u : Ot) : Ot
def Ot.deep : Ot → Nat
 | .nil => 0
 | .calm _ t => t.deep + 1
 | .pure _ t => t.deep + 1
 | .act _ _ t => t.deep + 1
 | .two _ _ t _ _ _ => t.deep + 1
def Ot.calms : Ot → List Nat
 | .nil => []
 | .calm i t => i :: t.calms
 | .pure _ t => t.calms
 | .act _ _ t => t.calms
 | .two _ _ t _ _ _ => t.calms
def Ot.pures : Ot → List Nat
 | .nil => []
 | .calm _ t => t.pures
 | .pure i t => i :: t.pures
 | .act _ _ t => t.pures
 | .two _ _ t _ _ u => t.pures ++ u.pures
noncomputable def ofList (l : List (Nat × Bool)) : Ot := @List.rec (Nat × Bool) (fun _ => Ot) .nil (fun p rest t => match p.2 with | true => .calm p.1 t | false => .act p.1 rest.isEmpty t) l
def actT (P : Program) (ops : Array Oper) (S : World → Prop) (i : Nat) (b : Bool) (ih : Fr → World → Prop) (σ : Fr) (w : World) : Prop :=
 match ops[i]? with
 | none => False
 | some o =>
  match Region.wanted o (yieldF ops σ) with
  | false => ih (updO σ o.dst undef) w
  | true => denOp P σ o w (fun v w' => (b = true ∨ S w') ∧ ih (updO σ o.dst v) w')
structure TwoX (A B : Prop) : Prop where
 fst : A
 snd : B
noncomputable def denR (P : Program) (ops : Array Oper) (S : World → Prop) (K : Fr → World → Prop) (t : Ot) : Fr → World → Prop :=
 @Ot.rec (fun _ => Fr → World → Prop) (fun σ w => K σ w)
  (fun i _ ih σ w =>
   match ops[i]? with
   | none => False
   | some o =>
    match Region.wanted o (yieldF ops σ) with
    | false => ih (updO σ o.dst undef) w
    | true => cop P S σ o (fun v => ih (updO σ o.dst v) w))
  (fun i _ ih σ w =>
   match ops[i]? with
   | none => False
   | some o =>
    match Region.wanted o (yieldF ops σ) with
    | false => ih (updO σ o.dst undef) w
    | true => cop P (fun _ => True) σ o (fun v => ih (updO σ o.dst v) w))
  (fun i b _ ih σ w => actT P ops S i b ih σ w)
  (fun i bi _ j bj _ ih ju σ w => TwoX (actT P ops S i bi ih σ w) (actT P ops S j bj ju σ w)) t
theorem denR_calm (P : Program) (ops : Array Oper) (S : World → Prop) (K : Fr → World → Prop) (i : Nat) (t : Ot) (σ : Fr) (w : World) : denR P ops S K (.calm i t) σ w =
  match ops[i]? with
  | none => False
  | some o =>
   match Region.wanted o (yieldF ops σ) with
   | false => denR P ops S K t (updO σ o.dst undef) w
   | true => cop P S σ o (fun v => denR P ops S K t (updO σ o.dst v) w) := rfl
theorem denR_pure (P : Program) (ops : Array Oper) (S : World → Prop) (K : Fr → World → Prop) (i : Nat) (t : Ot) (σ : Fr) (w : World) : denR P ops S K (.pure i t) σ w =
  match ops[i]? with
  | none => False
  | some o =>
   match Region.wanted o (yieldF ops σ) with
   | false => denR P ops S K t (updO σ o.dst undef) w
   | true => cop P (fun _ => True) σ o (fun v => denR P ops S K t (updO σ o.dst v) w) := rfl
theorem denR_act (P : Program) (ops : Array Oper) (S : World → Prop) (K : Fr → World → Prop) (i : Nat) (b : Bool) (t : Ot) (σ : Fr) (w : World) : denR P ops S K (.act i b t) σ w = actT P ops S i b (denR P ops S K t) σ w := rfl
theorem denR_two (P : Program) (ops : Array Oper) (S : World → Prop) (K : Fr → World → Prop) (i : Nat) (bi : Bool) (t : Ot) (j : Nat) (bj : Bool) (u : Ot) (σ : Fr) (w : World) : denR P ops S K (.two i bi t j bj u) σ w = TwoX (actT P ops S i bi (denR P ops S K t) σ w) (actT P ops S j bj (denR P ops S K u) σ w) := rfl
def ordOk (md : Region.Mode) (ops : Array Oper) (cs qs : List Nat) : Ot → Array Bool → Bool
 | .nil, listed => (Region.ready md ops listed).isEmpty
 | .calm i t, listed => (Region.ready md ops listed).contains i && (cs.contains i && Region.free md ops listed i) && ordOk md ops cs qs t (listed.setIfInBounds i true)
 | .pure i t, listed => (Region.ready md ops listed).contains i && (qs.contains i && Region.free md ops listed i) && ordOk md ops cs qs t (listed.setIfInBounds i true)
 | .act i b t, listed => decide (Region.ready md ops listed = [i]) && (!b || lasted md ops cs qs (listed.setIfInBounds i true)) && ordOk md ops cs qs t (listed.setIfInBounds i true)
 | .two i bi t j bj u, listed => decide (Region.ready md ops listed = [i, j]) && decide (t.deep = u.deep) && (!bi || lasted md ops cs qs (listed.setIfInBounds i true)) && (!bj || lasted md ops cs qs (listed.setIfInBounds j true)) && ordOk md ops cs qs t (listed.setIfInBounds i true) && ordOk md ops cs qs u (listed.setIfInBounds j true)
theorem lasted_mono {listed : Array Bool} (h : lasted md ops cs qs listed = true) (i : Nat) : lasted md ops cs qs (listed.setIfInBounds i true) = true := by
 obtain ⟨j, hj, hb⟩ := List.any_eq_true.1 h
 simp only [Bool.and_eq_true] at hb
 exact List.any_eq_true.2 ⟨j, hj, by simp only [Bool.and_eq_true]; exact ⟨getD_set_true hb.1, hb.2⟩⟩
theorem lasted_calm {listed : Array Bool} (hcl : Shutd md ops listed) (h : lasted md ops cs qs listed = true) {i : Nat} (hi : i ∈ cs) : listed.getD i false = true := by
 obtain ⟨j, _, hb⟩ := List.any_eq_true.1 h
 simp only [Bool.and_eq_true] at hb
 obtain ⟨h1, h2⟩ := hb
 simp only [lastB, Bool.and_eq_true, List.all_eq_true, Bool.or_eq_true] at h2
 rcases h2.2 i hi with h3 | h3
 ·obtain ⟨o, ho, e, he, hb, hon⟩ := Region.waitsFor_spec h3
  rw [← hon]
  exact hcl j o ho h1 e he hb
 ·cases ho : ops[j]? with
  | none =>
   cases hz : ops.size with
   | zero => rw [hz] at h3; cases h3
   | succ f => rw [hz] at h3; unfold waitsT at h3; rw [ho] at h3; cases h3
  | some o => exact waitsT_listed hcl _ _ _ ho (fun e he hb => hcl j o ho h1 e he hb) h3
theorem actT_wpA {n : Nat} {ih : Fr → World → Prop} {f : Nat} {listed : Array Bool} {a : Act} {σ : Fr} {w : World} {i : Nat} {b : Bool} (hd : dstOk n ops = true) (hs : Sim n a σ)
  (hb : b = true → lasted md ops cs qs (listed.setIfInBounds i true) = true) (hS : lasted md ops cs qs (listed.setIfInBounds i true) = true ∨ S w)
  (H : ∀ a' σ' w', Sim n a' σ' → (lasted md ops cs qs (listed.setIfInBounds i true) = true ∨ S w') → ih σ' w' → wpA P md ops cs qs Q S f (listed.setIfInBounds i true) a' w') (h : actT P ops S i b ih σ w) :
  wpOp P ops Q i (fun a' w' => (lasted md ops cs qs (listed.setIfInBounds i true) = true ∨ S w') ∧ wpA P md ops cs qs Q S f (listed.setIfInBounds i true) a' w') a w := by
 unfold actT at h
 unfold wpOp
 split at h
 ·exact h.elim
 ·rename_i o hi
  rw [hi]
  dsimp only
  have hdst : ∀ d, o.dst = some d → d < n := by
   intro d hdd
   have := List.all_eq_true.1 hd o (by simpa using Array.mem_of_getElem? hi)
   rw [hdd] at this
   simpa using this
  have hy := hs.yield hd
  split at h
  ·rename_i hw
   rw [← hy, if_neg (by rw [hw]; simp)]
   exact ⟨hS, H _ _ _ (hs.put hdst undef) hS h⟩
  ·rename_i hw
   rw [← hy, if_pos hw]
   refine .inl (denOp_wp hs (fun v w' q => ?_) h)
   have hl : lasted md ops cs qs (listed.setIfInBounds i true) = true ∨ S w' := q.1.imp hb id
   exact ⟨hl, H _ _ _ (hs.put hdst v) hl q.2⟩
theorem denR_wpA {n : Nat} {K : Fr → World → Prop} (hsel : Region.noSelect ops = true) (hd : dstOk n ops = true) (hQ : ∀ c a w, ¬ Q (.panic c) a w) (hK : ∀ a σ w, Sim n a σ → K σ w → Q .normal a w) :
  ∀ (ord : Ot) (listed : Array Bool) (a : Act) (σ : Fr) (w : World), Shutd md ops listed → ordOk md ops cs qs ord listed = true → Sim n a σ → (lasted md ops cs qs listed = true ∨ S w) → denR P ops S K ord σ w → wpA P md ops cs qs Q S ord.deep listed a w := by
 intro ord
 induction ord with
 | nil =>
  intro listed a σ w _ ho hs _ h
  exact ⟨by simpa [ordOk] using ho, hK _ _ _ hs h⟩
 | calm i rest ih =>
  intro listed a σ w hcl ho hs hS0 h
  simp only [ordOk, Bool.and_eq_true] at ho
  obtain ⟨⟨h1, h2⟩, h3⟩ := ho
  have h1' : i ∈ Region.ready md ops listed := by simpa using h1
  have hS : S w := hS0.resolve_left (fun hl => by
   have := lasted_calm hcl hl (i := i) (by simpa using h2.1)
   rw [getD_both (mem_ready.1 h1').1] at this
   cases this)
  rw [denR_calm] at h
  split at h
  ·exact h.elim
  ·rename_i o hi
   have hdst : ∀ d, o.dst = some d → d < n := by
    intro d hdd
    have := List.all_eq_true.1 hd o (by simpa using Array.mem_of_getElem? hi)
    rw [hdd] at this
    simpa using this
   have hy := hs.yield hd
   split at h
   ·rename_i hw
    rw [hy] at hw
    exact wpA_first (by simpa using h2.1) hi hsel hQ _ _ _ _ hcl h2.2 h1' (.inr ⟨hw, rfl⟩) hS (ih _ _ _ _ (hcl.set h1') h3 (hs.put hdst undef) (.inr hS) h)
   ·rename_i hw
    rw [hy] at hw
    obtain ⟨v, k1, k2⟩ := cop_run h
    rw [hs.ev] at k1
    exact wpA_first (by simpa using h2.1) hi hsel hQ _ _ _ _ hcl h2.2 h1' (.inl ⟨hw, k1⟩) hS (ih _ _ _ _ (hcl.set h1') h3 (hs.put hdst v) (.inr hS) k2)
 | pure i rest ih =>
  intro listed a σ w hcl ho hs hS0 h
  simp only [ordOk, Bool.and_eq_true] at ho
  obtain ⟨⟨h1, h2⟩, h3⟩ := ho
  have h1' : i ∈ Region.ready md ops listed := by simpa using h1
  rw [denR_pure] at h
  split at h
  ·exact h.elim
  ·rename_i o hi
   have hdst : ∀ d, o.dst = some d → d < n := by
    intro d hdd
    have := List.all_eq_true.1 hd o (by simpa using Array.mem_of_getElem? hi)
    rw [hdd] at this
    simpa using this
   have hy := hs.yield hd
   split at h
   ·rename_i hw
    rw [hy] at hw
    exact wpA_pure (by simpa using h2.1) hi hsel hQ _ _ _ _ h2.2 h1' (.inr ⟨hw, rfl⟩) hS0 (ih _ _ _ _ (hcl.set h1') h3 (hs.put hdst undef) (hS0.imp (fun hl => lasted_mono hl _) id) h)
   ·rename_i hw
    rw [hy] at hw
    obtain ⟨v, k1, k2⟩ := cop_run h
    rw [hs.ev] at k1
    exact wpA_pure (by simpa using h2.1) hi hsel hQ _ _ _ _ h2.2 h1' (.inl ⟨hw, k1⟩) hS0 (ih _ _ _ _ (hcl.set h1') h3 (hs.put hdst v) (hS0.imp (fun hl => lasted_mono hl _) id) k2)
 | act i b rest ih =>
  intro listed a σ w hcl ho hs hS0 h
  simp only [ordOk, Bool.and_eq_true, Bool.or_eq_true, Bool.not_eq_true', decide_eq_true_eq] at ho
  obtain ⟨⟨h1, h2⟩, h3⟩ := ho
  have hcl' := hcl.set (i := i) (by rw [h1]; exact List.mem_singleton.2 rfl)
  rw [denR_act] at h
  refine ⟨fun h0 => (by rw [h1] at h0; cases h0), fun j hj => ?_⟩
  rw [h1] at hj
  obtain rfl : j = i := by simpa using hj
  exact actT_wpA hd hs (fun hb => h2.resolve_left (by rw [hb]; simp)) (hS0.imp (fun hl => lasted_mono hl _) id) (fun a' σ' w' k1 k2 k3 => ih _ _ _ _ hcl' h3 k1 k2 k3) h
 | two i bi t j bj u iht ihu =>
  intro listed a σ w hcl ho hs hS0 h
  simp only [ordOk, Bool.and_eq_true, Bool.or_eq_true, Bool.not_eq_true', decide_eq_true_eq] at ho
  obtain ⟨⟨⟨⟨⟨h1, hdp⟩, h2⟩, h2'⟩, h3⟩, h3'⟩ := ho
  rw [denR_two] at h
  refine ⟨fun h0 => (by rw [h1] at h0; cases h0), fun k hk => ?_⟩
  have hcl' := hcl.set hk
  rw [h1] at hk
  rcases List.mem_cons.1 hk with rfl | hk
  ·exact actT_wpA hd hs (fun hb => h2.resolve_left (by rw [hb]; simp)) (hS0.imp (fun hl => lasted_mono hl _) id) (fun a' σ' w' k1 k2 k3 => iht _ _ _ _ hcl' h3 k1 k2 k3) h.fst
  ·obtain rfl : k = j := by simpa using hk
   have := actT_wpA (f := t.deep) (cs := cs) (qs := qs) (Q := Q) (listed := listed) hd hs (fun hb => h2'.resolve_left (by rw [hb]; simp)) (hS0.imp (fun hl => lasted_mono hl _) id) (fun a' σ' w' k1 k2 k3 => by rw [hdp]; exact ihu _ _ _ _ hcl' h3' k1 k2 k3) h.snd
   exact this
theorem swp_mono {α : Type} {K K' : α → World → Prop} (hk : ∀ a w, K a w → K' a w) : ∀ (s : Sem α) (w : World), swp P s w K → swp P s w K' := by
 intro s
 induction s with
 | pure a => exact fun w h => hk _ _ h
 | load m a k ih =>
  rintro w ⟨⟨v, hv, h⟩⟩
  exact ⟨⟨v, hv, ih v w h⟩⟩
 | store m a v k ih =>
  rintro w ⟨⟨h1, h2, h3, h⟩⟩
  exact ⟨⟨h1, h2, h3, ih _ h⟩⟩
 | new o k ih =>
  rintro w ⟨h⟩
  exact ⟨ih _ _ h⟩
 | program k ih => exact fun w h => ih _ w h
 | mark m k ih => exact fun w h => ih w h
 | _ => exact fun w h => h.elim
theorem sv_mono {K K' : Value → World → Prop} (hk : ∀ v w, K v w → K' v w) (x : Next) (w : World) (h : sv K x w) : sv K' x w := by
 cases x <;> first | exact hk _ _ h | exact h.elim
theorem denOp_mono {σ : Fr} {o : Oper} {w : World} {K K' : Value → World → Prop} (hk : ∀ v w, K v w → K' v w) (h : denOp P σ o w K) : denOp P σ o w K' := by
 have hm : Mn P σ o w K → Mn P σ o w K' := fun ⟨v, w', h1, h2⟩ => ⟨v, w', h1, hk _ _ h2⟩
 have hp : swp P (execOp (ev σ) o) w (sv K) → swp P (execOp (ev σ) o) w (sv K') := fun h => swp_mono (sv_mono hk) _ _ h
 have hp1 : swp P (execOp (ev σ) o) w (sv fun v w' => told v fun v => K v w') → swp P (execOp (ev σ) o) w (sv fun v w' => told v fun v => K' v w') := fun h => swp_mono (sv_mono fun v w h => by rw [told_eq] at h ⊢; exact hk _ _ h) _ _ h
 have hp2 : swp P (execOp (ev σ) o) w (sv fun v w' => toldB v fun v => K v w') → swp P (execOp (ev σ) o) w (sv fun v w' => toldB v fun v => K' v w') := fun h => swp_mono (sv_mono fun v w h => by rw [toldB_eq] at h ⊢; exact hk _ _ h) _ _ h
 unfold denOp at h ⊢
 split at h
 ·exact hk _ _ h
 ·exact hk _ _ h
 ·try dsimp only
  split at h <;> first | exact hm h | exact hp1 h
 ·exact hp1 h
 ·exact hp2 h
 ·try dsimp only
  split at h
  ·obtain ⟨j, sz, h1, h2, h3, h4⟩ := h.out
   exact ⟨⟨j, sz, h1, h2, h3, hk _ _ h4⟩⟩
  ·obtain ⟨j, sz, h1, h2, h3, h4⟩ := h.out
   exact ⟨⟨j, sz, h1, h2, h3, hk _ _ h4⟩⟩
  ·exact h
 ·try dsimp only
  split at h
  ·try dsimp only
   split at h
   ·obtain ⟨h1, h2⟩ := h.out
    refine ⟨⟨h1, h2.mono ?_⟩⟩
    rintro e w' ⟨v, he, h⟩
    exact ⟨v, he, by rw [toldB_eq] at h ⊢; exact hk _ _ h⟩
   ·exact h
  ·try dsimp only
   split at h
   ·split at h
    ·exact hk _ _ h
    ·exact hm h
   ·exact hm h
  ·exact hm h
 all_goals first | exact hm h | exact hp h
theorem swpC_mono {α : Type} {K K' : α → Prop} (hk : ∀ a, K a → K' a) : ∀ (s : Sem α), swpC P S s K → swpC P S s K' := by
 intro s
 induction s with
 | pure a => exact fun h => hk _ h
 | load m a k ih =>
  rintro ⟨⟨v, hv, h⟩⟩
  exact ⟨⟨v, hv, ih v h⟩⟩
 | program k ih => exact fun h => ih _ h
 | mark m k ih => exact fun h => ih h
 | _ => exact fun h => h.elim
theorem svC_mono {K K' : Value → Prop} (hk : ∀ v, K v → K' v) (x : Next) (h : svC K x) : svC K' x := by
 cases x <;> first | exact hk _ h | exact h.elim
theorem cop_mono2 {σ : Fr} {o : Oper} {K K' : Value → Prop} (hk : ∀ v, K v → K' v) (h : cop P S σ o K) : cop P S σ o K' := by
 have hm : MnC P S σ o K → MnC P S σ o K' := fun ⟨v, h1, h2⟩ => ⟨v, h1, hk _ h2⟩
 have hp : swpC P S (execOp (ev σ) o) (svC K) → swpC P S (execOp (ev σ) o) (svC K') := fun h => swpC_mono (svC_mono hk) _ h
 have hp1 : swpC P S (execOp (ev σ) o) (svC fun v => told v K) → swpC P S (execOp (ev σ) o) (svC fun v => told v K') := fun h => swpC_mono (svC_mono fun v h => by rw [told_eq] at h ⊢; exact hk _ h) _ h
 have hp2 : swpC P S (execOp (ev σ) o) (svC fun v => toldB v K) → swpC P S (execOp (ev σ) o) (svC fun v => toldB v K') := fun h => swpC_mono (svC_mono fun v h => by rw [toldB_eq] at h ⊢; exact hk _ h) _ h
 unfold cop at h ⊢
 split at h
 ·exact hk _ h
 ·exact hk _ h
 ·try dsimp only
  split at h <;> first | exact hm h | exact hp1 h
 ·exact hp1 h
 ·exact hp2 h
 ·try dsimp only
  split at h
  ·obtain ⟨j, sz, h1, h2, h3, h4⟩ := h.out
   exact ⟨⟨j, sz, h1, h2, h3, hk _ h4⟩⟩
  ·obtain ⟨j, sz, h1, h2, h3, h4⟩ := h.out
   exact ⟨⟨j, sz, h1, h2, h3, hk _ h4⟩⟩
  ·exact h
 ·try dsimp only
  split at h
  ·try dsimp only
   split at h
   ·split at h
    ·exact hk _ h
    ·exact hm h
   ·exact hm h
  ·exact hm h
 all_goals first | exact hm h | exact hp h
theorem updO_off {σ τ : Fr} {l : List Oper} {o : Oper} {v : Value} (h : ∀ i, wrote l i = false → τ i = σ i) (ho : o ∈ l) : ∀ i, wrote l i = false → updO τ o.dst v i = σ i := by
 intro i hi
 have hn : o.dst ≠ some i := by
  intro e
  have : wrote l i = true := List.any_eq_true.2 ⟨o, ho, by simp [e]⟩
  rw [this] at hi
  cases hi
 cases hd : o.dst with
 | none => exact h i hi
 | some d =>
  have hne : i ≠ d := fun e => hn (by rw [hd, e])
  have : Nat.beq i d = false := by cases hb : Nat.beq i d <;> first | rfl | exact absurd (Nat.eq_of_beq_eq_true hb) hne
  simp only [updO, updF, this]
  exact h i hi
theorem denL_off {K K' : Fr → World → Prop} {σ0 : Fr} (hk : ∀ σ w, (∀ i, wrote ops.toList i = false → σ i = σ0 i) → K σ w → K' σ w) :
  ∀ (l : List Oper) (σ : Fr) (w : World), (∀ o ∈ l, o ∈ ops.toList) → (∀ i, wrote ops.toList i = false → σ i = σ0 i) → denL P ops K l σ w → denL P ops K' l σ w
 | [], σ, w, _, hs, h => hk _ _ hs h
 | o :: rest, σ, w, hl, hs, h => by
  have ih := denL_off hk rest
  have go : denOp P σ o w (fun v w' => denL P ops K rest (updO σ o.dst v) w') → denOp P σ o w (fun v w' => denL P ops K' rest (updO σ o.dst v) w') :=
   denOp_mono fun v w q => ih _ _ (fun o ho => hl o (by simp [ho])) (updO_off hs (hl o (by simp))) q
  rw [denL_cons] at h ⊢
  split at h
  ·exact go h
  ·try dsimp only
   split at h
   ·exact go h
   ·exact ih _ _ (fun o ho => hl o (by simp [ho])) (updO_off hs (hl o (by simp))) h
theorem denR_wpA' {n : Nat} {K : Fr → World → Prop} {σ0 : Fr} (hsel : Region.noSelect ops = true) (hd : dstOk n ops = true) (hQ : ∀ c a w, ¬ Q (.panic c) a w) (hK : ∀ a σ w, Sim n a σ → K σ w → (∀ i, wrote ops.toList i = false → σ i = σ0 i) → Q .normal a w) (ord : Ot) (listed : Array Bool) (a : Act) (w : World) (hcl : Shutd md ops listed)
  (ho : ordOk md ops cs qs ord listed = true) (hs : Sim n a σ0) (hS : S w) (h : denR P ops S (fun σ w => K σ w ∧ ∀ i, wrote ops.toList i = false → σ i = σ0 i) ord σ0 w) : wpA P md ops cs qs Q S ord.deep listed a w :=
 denR_wpA hsel hd hQ (fun a σ w hs h => hK a σ w hs h.1 h.2) ord listed a σ0 w hcl ho hs (.inr hS) h
theorem actT_off {K K' : Fr → World → Prop} {σ0 σ : Fr} {w : World} {i : Nat} {b : Bool} (hs : ∀ i, wrote ops.toList i = false → σ i = σ0 i) (ih : ∀ σ w, (∀ i, wrote ops.toList i = false → σ i = σ0 i) → K σ w → K' σ w) (h : actT P ops S i b K σ w) : actT P ops S i b K' σ w := by
 unfold actT at h ⊢
 split at h
 ·exact h.elim
 ·rename_i o hi
  have hm : o ∈ ops.toList := by simpa using Array.mem_of_getElem? hi
  split at h
  ·exact ih _ _ (updO_off hs hm) h
  ·exact denOp_mono (fun v w' q => ⟨q.1, ih _ _ (updO_off hs hm) q.2⟩) h
theorem denR_off {K : Fr → World → Prop} {σ0 : Fr} : ∀ (ord : Ot) (σ : Fr) (w : World), (∀ i, wrote ops.toList i = false → σ i = σ0 i) → denR P ops S K ord σ w →
  denR P ops S (fun σ w => K σ w ∧ ∀ i, wrote ops.toList i = false → σ i = σ0 i) ord σ w := by
 intro ord
 induction ord with
 | nil => exact fun σ w hs h => ⟨h, hs⟩
 | calm i rest ih =>
  intro σ w hs h
  rw [denR_calm] at h ⊢
  split at h
  ·exact h.elim
  ·rename_i o hi
   have hm : o ∈ ops.toList := by simpa using Array.mem_of_getElem? hi
   split at h
   ·exact ih _ _ (updO_off hs hm) h
   ·exact cop_mono2 (fun v q => ih _ _ (updO_off hs hm) q) h
 | pure i rest ih =>
  intro σ w hs h
  rw [denR_pure] at h ⊢
  split at h
  ·exact h.elim
  ·rename_i o hi
   have hm : o ∈ ops.toList := by simpa using Array.mem_of_getElem? hi
   split at h
   ·exact ih _ _ (updO_off hs hm) h
   ·exact cop_mono2 (fun v q => ih _ _ (updO_off hs hm) q) h
 | act i b rest ih =>
  intro σ w hs h
  rw [denR_act] at h ⊢
  exact actT_off hs ih h
 | two i bi t j bj u iht ihu =>
  intro σ w hs h
  rw [denR_two] at h ⊢
  exact ⟨actT_off hs iht h.fst, actT_off hs ihu h.snd⟩
theorem Drw.oft {n : Nat} {σ : Fr} {w : World} {K : Fr → World → Prop} (ord : Ot) (hok : (Region.noSelect ops && ordOk .any ops ord.calms ord.pures ord (Array.replicate ops.size false) && decide (ord.deep = ops.size)) = true) (hm : P.follows .mixedOrders = true)
  (S : World → Prop) (hS : S w.drew) (h : denR P ops S K ord σ w.drew) : Drw P ops n σ w K := by
 refine ⟨?_⟩
 intro hd a id h1 h2 h3
 simp only [Bool.and_eq_true, decide_eq_true_eq] at hok
 refine wp_region_any hm (wpA_any (S := S) (cs := ord.calms) (qs := ord.pures) _ _ _ _ ?_)
 rw [← hok.2]
 exact denR_wpA' hok.1.1 hd (fun _ _ _ q => q) (fun a σ' w hs hk hx => ⟨hs.1, hs.2.1, by rw [← hs.2.2]; exact hk, fun i hi => by rw [← hx i hi, hs.2.2]⟩) ord _ a _ (by rw [hok.2]; exact Shutd.start) (by rw [hok.2]; exact hok.1.2) ⟨h1, h2, h3⟩ hS (denR_off ord σ _ (fun _ _ => rfl) h)
theorem Drw.of {n : Nat} {σ : Fr} {w : World} {K : Fr → World → Prop} (ord : List (Nat × Bool)) (hok : (Region.noSelect ops && ordOk .any ops (ofList ord).calms (ofList ord).pures (ofList ord) (Array.replicate ops.size false) && decide ((ofList ord).deep = ops.size)) = true) (hm : P.follows .mixedOrders = true)
  (S : World → Prop) (hS : S w.drew) (h : denR P ops S K (ofList ord) σ w.drew) : Drw P ops n σ w K := Drw.oft (ofList ord) hok hm S hS h
def codeOps : Code → List Oper
 | .region _ ops _ => ops.toList
 | .seq a b => codeOps a ++ codeOps b
 | .cond _ a b => codeOps a ++ codeOps b
 | .block _ c => codeOps c
 | .loop c => codeOps c
 | _ => []
theorem wrote_sub {l m : List Oper} (h : ∀ o ∈ l, o ∈ m) {i : Nat} (hi : wrote m i = false) : wrote l i = false := by
 cases hl : wrote l i with
 | false => rfl
 | true =>
  obtain ⟨o, ho, hd⟩ := List.any_eq_true.1 hl
  have : wrote m i = true := List.any_eq_true.2 ⟨o, h o ho, hd⟩
  rw [this] at hi
  cases hi
theorem den_off {n : Nat} {l : List Oper} {σ0 : Fr} : ∀ (c : Code), (∀ o ∈ codeOps c, o ∈ l) → ∀ (σ : Fr) (w : World) (K K' : Fr → World → Prop) (X X' : Nat → Fr → World → Prop) (R R' : Fr → World → Prop),
  (∀ i, wrote l i = false → σ i = σ0 i) → (∀ σ w, (∀ i, wrote l i = false → σ i = σ0 i) → K σ w → K' σ w) → (∀ i σ w, (∀ i, wrote l i = false → σ i = σ0 i) → X i σ w → X' i σ w) → (∀ σ w, (∀ i, wrote l i = false → σ i = σ0 i) → R σ w → R' σ w) →
  den P n c σ w K X R → den P n c σ w K' X' R' := by
 intro c
 induction c with
 | skip => exact fun _ σ w K K' X X' R R' hs hK hX hR h => hK _ _ hs h
 | exit i => exact fun _ σ w K K' X X' R R' hs hK hX hR h => hX _ _ _ hs h
 | ret => exact fun _ σ w K K' X X' R R' hs hK hX hR h => hR _ _ hs h
 | region id ops d =>
  intro hl σ w K K' X X' R R' hs hK hX hR h
  have tr : ∀ τ : Fr, (∀ i, wrote ops.toList i = false → τ i = σ i) → ∀ i, wrote l i = false → τ i = σ0 i := fun τ ht i hi => (ht i (wrote_sub hl hi)).trans (hs i hi)
  have h := h.out
  refine ⟨?_⟩
  cases d with
  | false => exact denL_off (σ0 := σ) (fun τ w ht k => hK _ _ (tr τ ht) k) _ _ _ (fun _ h => h) (fun _ _ => rfl) h
  | true =>
   refine ⟨fun hd a id h1 h2 h3 => wp_mono (h.out hd a id h1 h2 h3) ?_⟩
   intro e a w q
   cases e <;> first | exact ⟨q.1, q.2.1, hK _ _ (tr _ q.2.2.2) q.2.2.1, q.2.2.2⟩ | exact q.elim
 | seq x y ihx ihy =>
  intro hl σ w K K' X X' R R' hs hK hX hR h
  exact ihx (fun o ho => hl o (by simp [codeOps, ho])) _ _ _ _ _ _ _ _ hs (fun σ w hs h => ihy (fun o ho => hl o (by simp [codeOps, ho])) _ _ _ _ _ _ _ _ hs hK hX hR h) hX hR h
 | cond c x y ihx ihy =>
  intro hl σ w K K' X X' R R' hs hK hX hR h
  obtain ⟨b, hb, h1, h2⟩ := h.out.out
  exact ⟨⟨⟨b, hb, fun e => ihx (fun o ho => hl o (by simp [codeOps, ho])) _ _ _ _ _ _ _ _ hs hK hX hR (h1 e), fun e => ihy (fun o ho => hl o (by simp [codeOps, ho])) _ _ _ _ _ _ _ _ hs hK hX hR (h2 e)⟩⟩⟩
 | block id c ih =>
  intro hl σ w K K' X X' R R' hs hK hX hR h
  refine ⟨ih hl _ _ _ _ _ _ _ _ hs hK ?_ hR h.out⟩
  intro i σ w hs h
  cases hb : Nat.beq i id with
  | true => rw [hb] at h; exact hK _ _ hs h
  | false => rw [hb] at h; exact hX _ _ _ hs h
 | loop c ih =>
  intro hl σ w K K' X X' R R' hs hK hX hR h
  obtain ⟨I, m, h0, hr⟩ := h.out
  refine ⟨⟨fun m σ w => I m σ w ∧ ∀ i, wrote l i = false → σ i = σ0 i, m, ⟨h0, hs⟩, ?_⟩⟩
  rintro m σ' w' ⟨hI, hs'⟩
  refine ih hl _ _ _ _ _ _ _ _ hs' ?_ hX hR (hr m σ' w' hI)
  rintro σ'' w'' hs'' ⟨k, k1, k2⟩
  exact ⟨k, k1, k2, hs''⟩
 | _ => exact fun _ _ _ _ _ _ _ _ _ _ _ _ _ h => h.elim
def inW : List (Nat × Nat) → Nat → Bool
 | [], _ => false
 | (a, b) :: l, i => cond (Nat.ble a i && Nat.ble i b) true (inW l i)
def mrg (W : List (Nat × Nat)) (s σ : Fr) : Fr := fun i => cond (inW W i) (s i) (σ i)
def covers (W : List (Nat × Nat)) (l : List Oper) : Bool := l.all fun o => match o.dst with | none => true | some d => inW W d
def outs : List (Nat × Value) → Fr → Prop
 | [], _ => True
 | (d, v) :: l, σ => σ d = v ∧ outs l σ
def updL : List (Nat × Value) → Fr → Fr
 | [], σ => σ
 | (d, v) :: l, σ => updF (updL l σ) d v
theorem covers_off {W : List (Nat × Nat)} {l : List Oper} (h : covers W l = true) {i : Nat} (hi : inW W i = false) : wrote l i = false := by
 cases hw : wrote l i with
 | false => rfl
 | true =>
  obtain ⟨o, ho, hd⟩ := List.any_eq_true.1 hw
  have h1 := List.all_eq_true.1 h o ho
  have h2 : o.dst = some i := by simpa using hd
  rw [h2] at h1
  dsimp only at h1
  rw [h1] at hi
  cases hi
theorem outs_eq {σ' : Fr} : ∀ (l : List (Nat × Value)) (τ : Fr), outs l σ' → τ = σ' → updL l τ = σ'
 | [], τ, _, h => h
 | (d, v) :: l, τ, ⟨h1, h2⟩, h => by
  have ih := outs_eq l τ h2 h
  funext i
  unfold updL updF
  rw [ih]
  cases hb : Nat.beq i d with
  | true =>
   have := Nat.eq_of_beq_eq_true hb
   subst this
   exact h1.symm
  | false => rfl
theorem mrg_eq {W : List (Nat × Nat)} {σ σ' : Fr} (h : ∀ i, inW W i = false → σ' i = σ i) : mrg W σ' σ = σ' := by
 funext i
 unfold mrg
 cases hb : inW W i with
 | true => rfl
 | false => exact (h i hb).symm
theorem den.cut {n : Nat} {a b : Code} {σ : Fr} {w : World} {K : Fr → World → Prop} {X : Nat → Fr → World → Prop} {R : Fr → World → Prop} {ι : Type} (W : List (Nat × Nat)) (hW : covers W (codeOps a) = true) (o : ι → List (Nat × Value)) (Q : ι → World → Prop)
  (h1 : den P n a σ w (fun σ' w' => ∃ x, outs (o x) σ' ∧ Q x w') X R) (h2 : ∀ x s w', Q x w' → den P n b (updL (o x) (mrg W s σ)) w' K X R) : den P n (.seq a b) σ w K X R := by
 refine den_off (l := codeOps a) (σ0 := σ) a (fun _ h => h) σ w _ _ _ _ _ _ (fun _ _ => rfl) ?_ (fun _ _ _ _ h => h) (fun _ _ _ h => h) h1
 rintro σ' w' hs ⟨x, hx, hq⟩
 have := h2 x σ' w' hq
 rw [outs_eq _ _ hx (mrg_eq (fun i hi => hs i (covers_off hW hi)))] at this
 exact this
theorem den.cutK {n : Nat} {a : Code} {σ : Fr} {w : World} {K : Fr → World → Prop} {X : Nat → Fr → World → Prop} {R : Fr → World → Prop} {ι : Type} (W : List (Nat × Nat)) (hW : covers W (codeOps a) = true) (o : ι → List (Nat × Value)) (Q : ι → World → Prop)
  (h1 : den P n a σ w (fun σ' w' => ∃ x, outs (o x) σ' ∧ Q x w') X R) (h2 : ∀ x s w', Q x w' → K (updL (o x) (mrg W s σ)) w') : den P n a σ w K X R := by
 refine den_off (l := codeOps a) (σ0 := σ) a (fun _ h => h) σ w _ _ _ _ _ _ (fun _ _ => rfl) ?_ (fun _ _ _ _ h => h) (fun _ _ _ h => h) h1
 rintro σ' w' hs ⟨x, hx, hq⟩
 have := h2 x σ' w' hq
 rw [outs_eq _ _ hx (mrg_eq (fun i hi => hs i (covers_off hW hi)))] at this
 exact this
theorem RgX.cut {n id : Nat} {ops : Array Oper} {d : Bool} {σ : Fr} {w : World} {K : Fr → World → Prop} {ι : Type} (W : List (Nat × Nat)) (hW : covers W ops.toList = true) (o : ι → List (Nat × Value)) (Q : ι → World → Prop)
  (h1 : RgX P n id ops d σ w (fun σ' w' => ∃ x, outs (o x) σ' ∧ Q x w')) (h2 : ∀ x s w', Q x w' → K (updL (o x) (mrg W s σ)) w') : RgX P n id ops d σ w K :=
 den.cutK (a := .region id ops d) (X := fun _ _ _ => False) (R := fun _ _ => False) W hW o Q h1 h2
theorem BkX.cut {n id : Nat} {c : Code} {σ : Fr} {w : World} {K : Fr → World → Prop} {X : Nat → Fr → World → Prop} {R : Fr → World → Prop} {ι : Type} (W : List (Nat × Nat)) (hW : covers W (codeOps c) = true) (o : ι → List (Nat × Value)) (Q : ι → World → Prop)
  (h1 : den P n (.block id c) σ w (fun σ' w' => ∃ x, outs (o x) σ' ∧ Q x w') X R) (h2 : ∀ x s w', Q x w' → K (updL (o x) (mrg W s σ)) w') :
  BkX P n id c σ w K X R (den P n c σ w K (fun i σ' w' => cond (Nat.beq i id) (K σ' w') (X i σ' w')) R) :=
 den.cutK (a := .block id c) (X := X) (R := R) W hW o Q h1 h2
theorem CdX.cut {n : Nat} {t : Operand} {a b : Code} {σ : Fr} {w : World} {K : Fr → World → Prop} {X : Nat → Fr → World → Prop} {R : Fr → World → Prop} {ι : Type} (W : List (Nat × Nat)) (hW : covers W (codeOps (.cond t a b)) = true) (o : ι → List (Nat × Value)) (Q : ι → World → Prop)
  (h1 : den P n (.cond t a b) σ w (fun σ' w' => ∃ x, outs (o x) σ' ∧ Q x w') X R) (h2 : ∀ x s w', Q x w' → K (updL (o x) (mrg W s σ)) w') :
  CdX P n t a b σ w K X R (Cn (ev σ t) (den P n a σ w K X R) (den P n b σ w K X R)) :=
 den.cutK (a := .cond t a b) (X := X) (R := R) W hW o Q h1 h2
theorem den.loop {n : Nat} {c : Code} {σ : Fr} {w : World} {X : Nat → Fr → World → Prop} {R : Fr → World → Prop} {ι : Type} (W : List (Nat × Nat)) (hW : covers W (codeOps c) = true) (o : ι → List (Nat × Value)) (Q : ι → World → Prop) (μ : ι → Nat) (x0 : ι)
  (h0 : outs (o x0) σ) (hQ : Q x0 w) (h : ∀ x s w', Q x w' → den P n c (updL (o x) (mrg W s σ)) w' (fun σ' w' => ∃ x', outs (o x') σ' ∧ Q x' w' ∧ μ x' < μ x) X R) : Lp P n c X R σ w (fun σ' w' L => den P n c σ' w' L X R) := by
 refine ⟨⟨fun m σ' w' => ∃ x, m = μ x ∧ outs (o x) σ' ∧ Q x w' ∧ ∀ i, inW W i = false → σ' i = σ i, μ x0, ⟨x0, rfl, h0, hQ, fun _ _ => rfl⟩, ?_⟩⟩
 rintro m σ' w' ⟨x, rfl, hx, hq, hs⟩
 have h3 := h x σ' w' hq
 rw [outs_eq _ _ hx (mrg_eq hs)] at h3
 refine den_off (l := codeOps c) (σ0 := σ') c (fun _ h => h) σ' w' _ _ _ _ _ _ (fun _ _ => rfl) ?_ (fun _ _ _ _ h => h) (fun _ _ _ h => h) h3
 rintro σ'' w'' hs'' ⟨x', k1, k2, k3⟩
 exact ⟨μ x', k3, x', rfl, k1, k2, fun i hi => (hs'' i (covers_off hW hi)).trans (hs i hi)⟩
end
end Go.Proofs.YtoamjodmidbmbaaGreatDoor
