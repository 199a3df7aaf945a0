/- Queues: slices of one's own whose front goes; pieces taken out of a list of pieces and put back. No Go in it. -/
import Derived.Test.YtoejhelhgfipkaaDoorSxB
namespace Go.Proofs.YtoejhelhgfipkaaDoor
set_option linter.unusedVariables false
set_option linter.unusedSimpArgs false
open Go.RowKit Go.ChangeMaps

/-- A slice of one's own that may begin behind its block's beginning. -/
def Qu (te sz : Nat) (v : Value) (n : Nat) (xs : List Value) : Piece where
  on S w := xs.length = n * sz ∧ ((v = .slice none 0 0 ∧ n = 0) ∨ ∃ g off cap cur, v = .slice (some ⟨g, off, none⟩) n cap ∧ S g ∧ w.heap[g]? = some (.cells cur te (0, 0)) ∧ n ≤ cap ∧ cap ≤ maxLen ∧ off + cap * sz ≤ cur.size ∧ (cur.toList.drop off).take (n * sz) = xs)
  move h s := ⟨h.1, h.2.imp id (fun ⟨g, off, cap, cur, h1, h2, h3, r⟩ => ⟨g, off, cap, cur, h1, h2, (s.block g h2).trans h3, r⟩)⟩
  mono h k := ⟨h.1, h.2.imp id (fun ⟨g, off, cap, cur, h1, h2, r⟩ => ⟨g, off, cap, cur, h1, k g h2, r⟩)⟩

section
variable {P : Program} {w : World} {L F : List Piece} {g off o te sz n c : Nat} {xs : List Value} {v u : Value}

theorem SL.quNil (te sz : Nat) (h : SL w F) : SL w (Qu te sz (.slice none 0 0) 0 [] :: F) :=
  ⟨fun _ => False, fun _ h => h.elim, ⟨by simp, .inl ⟨rfl, rfl⟩⟩, h.mono (fun k hk => ⟨hk, id⟩)⟩

theorem SL.quForm (h : SL w (Qu te sz v n xs :: F)) : ∃ a c, v = .slice a n c := by
  obtain ⟨S, _, _, h⟩ := h.on
  rcases h with ⟨rfl, rfl⟩ | ⟨g, off, cap, cur, rfl, _⟩
  · exact ⟨_, _, rfl⟩
  · exact ⟨_, _, rfl⟩

theorem SL.quSome (h : SL w (Qu te sz v n xs :: F)) (hn : 0 < n) : ∃ g off c, v = .slice (some ⟨g, off, none⟩) n c := by
  obtain ⟨S, _, _, h⟩ := h.on
  rcases h with ⟨rfl, rfl⟩ | ⟨g, off, cap, cur, rfl, _⟩
  · exact absurd hn (Nat.lt_irrefl _)
  · exact ⟨_, _, _, rfl⟩

theorem SL.quCell (H : SL w L) (i : Nat) (hi : L[i]? = some (Qu te sz (.slice (some ⟨g, off, none⟩) n c) n xs)) (hj : xs[o]? = some v) : w.cell? ⟨g, off + o, none⟩ = some v := by
  obtain ⟨T, _, _, h⟩ := SLs.at i H hi
  rcases h with ⟨h, _⟩ | ⟨g', off', cap, cur, h, _, hb, _, _, _, ht⟩
  · cases h
  · injection h with e1 e2 e3
    injection e1 with e1
    injection e1 with e1 e4
    subst e1 e4
    refine row_cell hb _ ?_
    rw [← ht, List.getElem?_take] at hj
    split at hj
    · rw [List.getElem?_drop] at hj
      simpa using hj
    · cases hj

theorem SL.ldQ {K : Value → Prop} (H : SL w L) (i : Nat) (hi : L[i]? = some (Qu te sz (.slice (some ⟨g, off, none⟩) n c) n xs)) (hj : xs[o]? = some v) (k : K v) : Ld w ⟨g, off + o, none⟩ K := Ld.by (H.quCell i hi hj) k
theorem LdC.Q {K : Value → Prop} (i : Nat) (hi : L[i]? = some (Qu te sz (.slice (some ⟨g, off, none⟩) n c) n xs)) (hj : xs[o]? = some v) (k : K v) : LdC (fun w => SL w L) ⟨g, off + o, none⟩ K := LdC.by (fun w H => SL.quCell H i hi hj) k

/-- The value of v[1:]. -/
def rest1 (sz : Nat) : Value → Value
  | .slice a n c => .slice (if c = 1 then a else a.map (·.add sz)) (n - 1) (c - 1)
  | v => v

theorem SL.quTail (H : SL w (Qu te sz v (n + 1) xs :: F)) : SL w (Qu te sz (rest1 sz v) n (xs.drop sz) :: F) := by
  refine H.conv (fun S _ h => ?_)
  obtain ⟨h1, h⟩ := h
  refine ⟨by rw [List.length_drop, h1, Nat.succ_mul]; omega, ?_⟩
  rcases h with ⟨_, h⟩ | ⟨g, off, cap, cur, rfl, hS, hb, hc, hm, hs, ht⟩
  · omega
  · refine .inr ⟨g, if cap = 1 then off else off + sz, cap - 1, cur, ?_, hS, hb, by omega, by omega, ?_, ?_⟩
    · show Value.slice (if cap = 1 then _ else _) (n + 1 - 1) (cap - 1) = _
      rw [Nat.add_sub_cancel]
      split
      · rfl
      · simp only [Option.map_some, Addr_add]
    · obtain ⟨d, rfl⟩ : ∃ d, cap = d + 1 := ⟨cap - 1, by omega⟩
      rw [Nat.succ_mul] at hs
      rw [Nat.add_sub_cancel]
      split <;> omega
    · rw [← ht, List.drop_take, List.drop_drop, Nat.succ_mul]
      have : n * sz + sz - sz = n * sz := by omega
      rw [this]
      split
      · have : n = 0 := by omega
        subst this
        simp
      · rfl

theorem run_tail {t lo : Nat} {σ : Fr} {op : Oper} (x : Operand) (l : Operand) (hop : op.op = .slice t x (some l) none none) (ht : P.underlying t = some (.slice te)) (hsz : (P.info? te).map (·.size) = some sz) {a : Option Addr} (hn : 0 < n) (hc : n ≤ c)
    (hx : ev σ x = .slice a n c) (hl : ev σ l = .int .i64 1) (w : World) : (execOp (ev σ) op).run P w = .ok (.value (rest1 sz (.slice a n c))) w := by
  obtain ⟨i, hi, hs⟩ := Option.map_eq_some_iff.1 hsz
  have hle : (1 : Int) ≤ (n : Int) := by omega
  have h1 : ¬ (n < 1) := by omega
  by_cases hc1 : c = 1
  · subst hc1
    simp [execOp, hop, hx, hl, Instr.sliceAt, Instr.slice, run_underlying ht, Instr.sliceBounds, Instr.sliceBound, asIntOf, hle, sizeOf, typeInfo, hi, rest1, Result.andThen]
  · have hc2 : ¬ (1 = c) := fun e => hc1 e.symm
    simp [execOp, hop, hx, hl, Instr.sliceAt, Instr.slice, run_underlying ht, Instr.sliceBounds, Instr.sliceBound, asIntOf, hle, sizeOf, typeInfo, hi, rest1, hs, hc1, hc2, Result.andThen]

theorem SL.quLe {a : Option Addr} (h : SL w (Qu te sz (.slice a n c) n xs :: F)) : n ≤ c := by
  obtain ⟨S, _, _, h⟩ := h.on
  rcases h with ⟨h, rfl⟩ | ⟨g, off, cap, cur, h, _, _, h2, _⟩
  · exact Nat.zero_le _
  · injection h with _ _ e
    subst e
    exact h2

/-- v[1:], the value kept as rest1. -/
theorem Mn.tail {σ : Fr} {op : Oper} {K : Value → World → Prop} (H : SL w (Qu te sz v (n + 1) xs :: F)) (x l : Operand) (t : Nat) (hop : op.op = .slice t x (some l) none none) (ht : P.underlying t = some (.slice te)) (hsz : (P.info? te).map (·.size) = some sz)
    (hx : ev σ x = v) (hl : ev σ l = .int .i64 1) (k : SL w (Qu te sz (rest1 sz v) n (xs.drop sz) :: F) → K (rest1 sz v) w) : Mn P σ op w K := by
  obtain ⟨a, c, rfl⟩ := H.quForm
  exact Mn.by (run_tail (lo := 0) x l hop ht hsz (by omega) H.quLe hx hl w) (k H.quTail)
theorem MnC.tail {σ : Fr} {op : Oper} {K : Value → Prop} (H : SL w (Qu te sz v (n + 1) xs :: F)) {S : World → Prop} (x l : Operand) (t : Nat) (hop : op.op = .slice t x (some l) none none) (ht : P.underlying t = some (.slice te)) (hsz : (P.info? te).map (·.size) = some sz)
    (hx : ev σ x = v) (hl : ev σ l = .int .i64 1) (k : K (rest1 sz v)) : MnC P S σ op K := by
  obtain ⟨a, c, rfl⟩ := H.quForm
  exact MnC.pure _ (fun w' => run_tail (lo := 0) x l hop ht hsz (by omega) H.quLe hx hl w') k

theorem run_append_roomQ (w : World) (t ty e : TypeId) (i : TypeInfo) (ht : P.underlying t = some (.slice e)) (hi : P.info? e = some i)
    (g off sLen sCap : Nat) (cur : Array Value) (hg : w.heap[g]? = some (.cells cur e (0, 0)))
    (a : Addr) (m c : Nat) (news : List Value) (hl : news.length = m * i.size) (hnews : ∀ j u, news[j]? = some u → w.cell? (a.add j) = some u) (h1 : ∀ u ∈ news, u.oneCell' = true)
    (hroom : sLen + m ≤ sCap) (hfit : off + sLen * i.size + news.length ≤ cur.size) :
    (Builtin.append_ #[t, t] ty #[.slice (some ⟨g, off, none⟩) sLen sCap, .slice (some a) m c]).run P w =
      .ok (.slice (some ⟨g, off, none⟩) (sLen + m) sCap) (w.setRow g (cur.toList.take (off + sLen * i.size) ++ news ++ cur.toList.drop (off + sLen * i.size + news.length)).toArray) := by
  have hf := run_firstCells_some (P := P) w i.size m a m c news hl hnews
  have hst := run_storeCells_at P g (off + sLen * i.size) e news 0 cur w hg (by simpa using hfit) h1
  simp only [Nat.add_zero] at hst
  simp [Builtin.append_, run_underlying ht, sizeOf, typeInfo, hi, Builtin.lenOf, hroom, hf, Addr_add, hst]

theorem take_drop_put (l news : List Value) (off k : Nat) (h : off + k + news.length ≤ l.length) :
    ((l.take (off + k) ++ news ++ l.drop (off + k + news.length)).drop off).take (k + news.length) = (l.drop off).take k ++ news := by
  have e : l.take (off + k) = l.take off ++ (l.drop off).take k := by rw [List.take_add]
  rw [e, List.append_assoc, List.append_assoc, List.drop_append_of_le_length (by simp; omega)]
  have e2 : (l.take off).drop off = [] := by simp
  rw [e2, List.nil_append, ← List.append_assoc]
  rw [List.take_append_of_le_length (by simp; omega)]
  rw [List.take_of_length_le (by simp; omega)]

theorem qu_append_run {F : List Piece} (t ty : TypeId) (z : Value) (bytes : Nat)
    (ht : P.underlying t = some (.slice te)) (hinfo : (P.info? te).map (fun i => (i.zero, i.size, i.bytes)) = some (some z, sz, bytes)) (hz : z.cells.size = sz) (hs0 : 0 < sz)
    (v : Value) (n : Nat) (cs : List Value) (ad : Addr) (m c : Nat) (news : List Value) (hr : Rd w sz (some ad) m news) (hm : 0 < m) (h1 : news.all Value.oneCell' = true)
    (H : SL w (Qu te sz v n cs :: F)) (hn : n + m < 1000000000) (hl : bytes ≤ 1000) :
    ∃ v1 w1, (Builtin.append_ #[t, t] ty #[v, .slice (some ad) m c]).run P w = .ok v1 w1 ∧ SL w1 (Qu te sz v1 (n + m) (cs ++ news) :: F) := by
  obtain ⟨i0, hi, hzz⟩ := Option.map_eq_some_iff.1 hinfo
  simp only [Prod.mk.injEq] at hzz
  obtain ⟨hz0, hz1, hz2⟩ := hzz
  subst hz1
  obtain ⟨S, ⟨hlen, h2⟩, h4, h5⟩ := H.call
  have hcells : ∀ j u, news[j]? = some u → w.cell? (ad.add j) = some u := by
    intro j u hu
    obtain ⟨b, off, h, hc⟩ := hr.2.2 hm
    injection h with h
    subst h
    rw [Addr_add]
    exact hc j u hu
  have hbytes : (n + m) * i0.bytes ≤ 140737488355328 := by rw [hz2]; exact Nat.le_trans (Nat.mul_le_mul (show n + m ≤ 1000000000 by omega) hl) (by decide)
  have hmax : n + m ≤ maxLen := by simp only [maxLen]; omega
  have hlen' : (cs ++ news).length = (n + m) * i0.size := by rw [List.length_append, hlen, hr.1, Nat.add_mul]
  have grown : ∀ old, old < n + m → SL (w.drew.alloc (.cells (cs.toArray ++ news.toArray ++ Builtin.zeroCells z.cells (grownCap w (n + m) old te - (n + m))) te)) (Qu te i0.size (.slice (some ⟨w.heap.size, 0, none⟩) (n + m) (grownCap w (n + m) old te)) (n + m) (cs ++ news) :: F) := by
    intro old ho
    have hge := grownCap_ge w (n + m) old te
    have hcm : grownCap w (n + m) old te ≤ maxLen := grownCap_le_maxLen w (n + m) old te hmax
    refine h5 _ [_] ((Frm.refl S w).drew.alloc _) ⟨_, fun _ h => h, ⟨hlen', .inr ⟨w.heap.size, 0, _, _, rfl, .inr ⟨Nat.le_refl _, by simp⟩, heap_alloc_new w.drew _, hge, hcm, ?_, ?_⟩⟩, trivial⟩
    · simp only [Array.size_append, List.size_toArray, size_zeroCells, hz, hlen, hr.1, ← Nat.add_mul, Nat.zero_add]
      apply Nat.mul_le_mul_right
      omega
    · simp only [Array.toList_append, List.append_assoc, List.drop_zero]
      rw [← List.append_assoc, ← hlen']
      exact List.take_left
  rcases h2 with ⟨rfl, rfl⟩ | ⟨g, off, cap, cur, rfl, hg, hb, hnc, hcm, hcs, htake⟩
  · have hx : cs = [] := List.eq_nil_of_length_eq_zero (by simpa using hlen)
    subst hx
    have hr' := run_append_nil (P := P) w t ty te i0 z ht hi hz0 ad m c news hr.1 hcells (by omega) (by omega) (by have hb := hbytes; simp only [Nat.zero_add] at hb; omega)
    have hgr := grown 0 (by omega)
    simp only [Nat.zero_add, List.nil_append, Array.empty_append] at hgr ⊢
    exact ⟨_, _, hr', hgr⟩
  · by_cases hroom : n + m ≤ cap
    · have hfit : off + n * i0.size + news.length ≤ cur.size := by
        have := Nat.mul_le_mul_right i0.size hroom
        rw [Nat.add_mul] at this
        rw [hr.1]
        omega
      have hr' := run_append_roomQ (P := P) w t ty te i0 ht hi g off n cap cur hb ad m c news hr.1 hcells (List.all_eq_true.1 h1) hroom hfit
      refine ⟨_, _, hr', h5 _ [_] ((Frm.refl S w).grown (row := some g) ⟨rfl, rfl, rfl, by simp, fun k _ hk => setRow_other w g k _ (fun e => hk (by rw [e]))⟩ (fun k hk _ => by injection hk with hk; rw [← hk]; exact hg)) ⟨_, fun _ h => h, ⟨hlen', .inr ⟨g, off, cap, _, rfl, .inl hg, setRow_heap w g cur _ te _ hb, hroom, hcm, ?_, ?_⟩⟩, trivial⟩⟩
      · simp only [List.size_toArray, List.length_append, List.length_take, List.length_drop, Array.length_toList]
        omega
      · have e := take_drop_put cur.toList news off (n * i0.size) (by simpa using hfit)
        rw [htake] at e
        rw [Nat.add_mul, ← hr.1]
        exact e
    · have holds : ∀ j u, cs[j]? = some u → w.cell? ((⟨g, off, none⟩ : Addr).add j) = some u := fun j u hu => by
        rw [Addr_add]
        exact SL.quCell H 0 rfl hu
      have hr' := run_append_grow (P := P) w t ty te i0 z ht hi hz0 ⟨g, off, none⟩ n cap cs hlen holds ad m c news hr.1 hcells (by omega) (by omega) (growslice_fits (by omega) hbytes)
      exact ⟨_, _, hr', grown cap (by omega)⟩

/-- append(v, src..): v a queue of one's own. -/
theorem SL.appQ {σ : Fr} {op : Oper} {K : Value → World → Prop} (H : SL w (Qu te sz v n xs :: F)) (s x : Operand) (t : TypeId) (z : Value) (bytes : Nat)
    (hop : op.op = .call { callee := .builtin .append, args := #[s, x], argTypes := #[t, t] })
    (ht : P.underlying t = some (.slice te)) (hinfo : (P.info? te).map (fun i => (i.zero, i.size, i.bytes)) = some (some z, sz, bytes)) (hz : z.cells.size = sz) (hs0 : 0 < sz)
    (hs : ev σ s = v) (ad : Addr) (m cap : Nat) (news : List Value) (hx : ev σ x = .slice (some ad) m cap) (hr : Rd w sz (some ad) m news) (hm : 0 < m) (h1 : news.all Value.oneCell' = true) (hn : n + m < 1000000000) (hl : bytes ≤ 1000)
    (k : ∀ v' w', SL w' (Qu te sz v' (n + m) (xs ++ news) :: F) → K v' w') : Mn P σ op w K := by
  obtain ⟨v1, w1, hrun, k1⟩ := qu_append_run (P := P) t op.type z bytes ht hinfo hz hs0 v n xs ad m cap news hr hm h1 H hn hl
  refine Mn.by (v := v1) (w' := w1) ?_ (k v1 w1 k1)
  simp only [execOp, hop, resolve, invoke, builtin, Sem.run_bind, Sem.run_pure, Result.andThen_ok, List.map_toArray, List.map_cons, List.map_nil, hs, hx, hrun]
end

section
variable {P : Program} {w : World} {F L : List Piece} {te sz n c : Nat} {xs : List Value} {v : Value} {a : Option Addr} {σ : Fr} {op : Oper} {K : Value → World → Prop}
/-- The same, the new value written out. -/
theorem SL.appQs (H : SL w (Qu te sz v n xs :: F)) (s x : Operand) (t : TypeId) (z : Value) (bytes : Nat)
    (hop : op.op = .call { callee := .builtin .append, args := #[s, x], argTypes := #[t, t] })
    (ht : P.underlying t = some (.slice te)) (hinfo : (P.info? te).map (fun i => (i.zero, i.size, i.bytes)) = some (some z, sz, bytes)) (hz : z.cells.size = sz) (hs0 : 0 < sz)
    (hs : ev σ s = v) (ad : Addr) (m cap : Nat) (news : List Value) (hx : ev σ x = .slice (some ad) m cap) (hr : Rd w sz (some ad) m news) (hm : 0 < m) (h1 : news.all Value.oneCell' = true) (hn : n + m < 1000000000) (hl : bytes ≤ 1000)
    (k : ∀ g o c w', SL w' (Qu te sz (.slice (some ⟨g, o, none⟩) (n + m) c) (n + m) (xs ++ news) :: F) → K (.slice (some ⟨g, o, none⟩) (n + m) c) w') : Mn P σ op w K :=
  SL.appQ H s x t z bytes hop ht hinfo hz hs0 hs ad m cap news hx hr hm h1 hn hl (fun v' w' H' => by
    obtain ⟨g, o, c, rfl⟩ := H'.quSome (by omega)
    exact k g o c w' H')
theorem Mn.tails (H : SL w (Qu te sz v (n + 1) xs :: F)) (x l : Operand) (t : Nat) (hop : op.op = .slice t x (some l) none none) (ht : P.underlying t = some (.slice te)) (hsz : (P.info? te).map (·.size) = some sz)
    (hx : ev σ x = v) (hl : ev σ l = .int .i64 1) (k : ∀ a c w', SL w' (Qu te sz (.slice a n c) n (xs.drop sz) :: F) → K (.slice a n c) w') : Mn P σ op w K :=
  Mn.tail H x l t hop ht hsz hx hl (fun H' => by
    obtain ⟨a, c, e⟩ := H'.quForm
    rw [e] at H' ⊢
    exact k a c w H')
theorem SL.quAddr (h : SL w (Qu te sz (.slice a n c) n xs :: F)) (hn : 0 < n) : ∃ g o, a = some ⟨g, o, none⟩ := by
  obtain ⟨g, o, c', e⟩ := h.quSome hn
  injection e with e
  exact ⟨g, o, e⟩
end

theorem perm_one {α : Type} {D : α} : ∀ {L : List α} (k : Nat), L[k]? = some D → ∃ R, L.Perm (D :: R)
  | [], k, h => by simp at h
  | E :: L, 0, h => by
    simp at h
    subst h
    exact ⟨L, .refl _⟩
  | E :: L, k + 1, h => by
    obtain ⟨R, h⟩ := perm_one k (by simpa using h)
    exact ⟨E :: R, (h.cons E).trans (.swap _ _ _)⟩

/-- Two pieces of a list are taken to the front. -/
theorem perm_two {α : Type} {L : List α} {A B : α} (i j : Nat) (hi : L[i]? = some A) (hj : L[j]? = some B) (hij : i ≠ j) : ∃ R, L.Perm (A :: B :: R) := by
  induction L generalizing i j with
  | nil => simp at hi
  | cons C L ih =>
    cases i with
    | zero =>
      cases j with
      | zero => exact absurd rfl hij
      | succ j =>
        obtain ⟨R, h⟩ := perm_one j (by simpa using hj)
        simp at hi
        subst hi
        exact ⟨R, h.cons C⟩
    | succ i =>
      cases j with
      | zero =>
        obtain ⟨R, h⟩ := perm_one i (by simpa using hi)
        simp at hj
        subst hj
        exact ⟨R, (h.cons C).trans (.swap _ _ _)⟩
      | succ j =>
        obtain ⟨R, h⟩ := ih i j (by simpa using hi) (by simpa using hj) (by omega)
        exact ⟨C :: R, (h.cons C).trans ((List.Perm.swap A C _).trans ((List.Perm.swap B C _).cons A))⟩

section
variable {w : World} {L F : List Piece} {kt b n : Nat} {f : Int → Option Value} {σ : Fr} {op : Oper}
theorem MnC.lookV {K : Value → Prop} (i : Nat) (hi : L[i]? = some (MapP kt b n f)) (m x : Operand) (t e : TypeId) (hop : op.op = .lookup t m x false) (hk : Tryd.prog.underlying kt = some (.int .i64)) (ht : Tryd.prog.underlying t = some (.map kt e)) {z : Value} (hz : ∀ w, (zeroValue e).run Tryd.prog w = .ok z w)
    (c : Int) (hc : (Lit.int .i64 c).wf = true) (hm : ev σ m = .map (some b)) (hx : ev σ x = .int .i64 c) (V : Value) (hV : (f c).getD z = V) (k : K V) : MnC Tryd.prog (fun w => SL w L) σ op K := by
  subst hV
  exact MnC.look i hi m x t e hop hk ht hz c hc hm hx k
theorem Mn.lookV {K : Value → World → Prop} (H : SL w L) (i : Nat) (hi : L[i]? = some (MapP kt b n f)) (m x : Operand) (t e : TypeId) (hop : op.op = .lookup t m x false) (hk : Tryd.prog.underlying kt = some (.int .i64)) (ht : Tryd.prog.underlying t = some (.map kt e)) {z : Value} (hz : ∀ w, (zeroValue e).run Tryd.prog w = .ok z w)
    (c : Int) (hc : (Lit.int .i64 c).wf = true) (hm : ev σ m = .map (some b)) (hx : ev σ x = .int .i64 c) (V : Value) (hV : (f c).getD z = V) (k : K V w) : Mn Tryd.prog σ op w K := by
  subst hV
  exact Mn.look H i hi m x t e hop hk ht hz c hc hm hx k
theorem key_wf {c : Int} (h0 : -9223372036854775808 ≤ c) (h1 : c ≤ 9223372036854775807) : (Lit.int .i64 c).wf = true := by
  show (decide ((-9223372036854775808 : Int) ≤ c) && decide (c ≤ (9223372036854775807 : Int))) = true
  rw [decide_eq_true h0, decide_eq_true h1]
  rfl
end

/-! ## a piece out of a list of pieces -/
section
variable {w : World} {L F : List Piece} {A B : Piece}
theorem perm_erase {α : Type} : ∀ (L : List α) (k : Nat) (h : k < L.length), (L[k] :: L.eraseIdx k).Perm L
  | a :: L, 0, _ => .refl _
  | a :: L, k + 1, h => (List.Perm.swap a (L[k]'(by simpa using h)) (L.eraseIdx k)).trans ((perm_erase L k (by simpa using h)).cons a)
theorem perm_set {α : Type} (x : α) : ∀ (L : List α) (k : Nat) (h : k < L.length), (x :: L.eraseIdx k).Perm (L.set k x)
  | a :: L, 0, _ => .refl _
  | a :: L, k + 1, h => (List.Perm.swap a x (L.eraseIdx k)).trans ((perm_set x L k (by simpa using h)).cons a)
theorem all_take (k : Nat) (hk : L[k]? = some A) (H : SL w (all L :: F)) : SL w (A :: all (L.eraseIdx k) :: F) := by
  obtain ⟨hlt, rfl⟩ := List.getElem?_eq_some_iff.1 hk
  have h := (SL.all.1 H).perm ((perm_erase L k hlt).symm.append_right F)
  rw [List.cons_append] at h
  exact h.under (fun S h' => SLs.app.1 h')
theorem all_put (k : Nat) (hk : k < L.length) (H : SL w (B :: all (L.eraseIdx k) :: F)) : SL w (all (L.set k B) :: F) := by
  refine SL.all.2 ?_
  have h : SL w (L.eraseIdx k ++ B :: F) := SL.all.1 H.up1
  have h3 : SL w (B :: (L.eraseIdx k ++ F)) := h.perm List.perm_middle
  refine h3.perm ?_
  rw [← List.cons_append]
  exact (perm_set B L k hk).append_right F
end

end Go.Proofs.YtoejhelhgfipkaaDoor
